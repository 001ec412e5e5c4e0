/- Part 5 of the walks and words that Keys uses. No conditions of its own. -/
import Derived.Laws.BitsAllLaws
import Derived.Lib.SlTrimSet
import Derived.Lib.IndexMore
import Derived.Lib.Split
import Derived.WideShapes
import Derived.Test.YteogadaloebdaaaDoorMKeys4

-- written by a program of this session's (wip/pp)
namespace Go.Proofs.YteogadaloebdaaaDoor.P
open Go.RowKit Go.Proofs.YteogadaloebdaaaDoorW.PrintWords Go.Proofs.YteogadaloebdaaaDoorW.PrintLast Go.Proofs.YteogadaloebdaaaDoorW.PrintMore
attribute [local go_sem] max2_int min2_int max_two min_two max_three min_three max_four min_four str_geq str_gtr str_leq   -- for this text's walks alone
set_option linter.unusedVariables false
set_option linter.unusedSimpArgs false

/-! ### laws_FnKeys: function 3 -/
mutual
def laws_FnKeys.j0 : Nat → List Int → Bool → List Int → Bool → Bool → ByteArray → List (S69) → Int → ByteArray → List (S69) → Int → Option (Bool)
 | 0, _, _, _, _, _, _, _, _, _, _, _ => none
 | k + 1, x5, x6, x7, x8, x41, x112000, x112001, x112002, x113000, x113001, x113002 => if x41 = true then (some false) else (if x6 = true then (laws_FnKeys.j1 k x5 x7 (!x8) x112000 x112001 x112002 x113000 x113001 x113002) else (laws_FnKeys.j1 k x5 x7 true x112000 x112001 x112002 x113000 x113001 x113002))
def laws_FnKeys.j1 : Nat → List Int → List Int → Bool → ByteArray → List (S69) → Int → ByteArray → List (S69) → Int → Option (Bool)
 | 0, _, _, _, _, _, _, _, _, _ => none
 | k + 1, x5, x7, x47, x112000, x112001, x112002, x113000, x113001, x113002 => if x47 = true then ((impl_CompareKeys.f k x112000 x112001 x112002 x113000 x113001 x113002).bind fun t123 => (some (t123 == 0))) else ((impl_ReadKey.f k x5).bind fun bt124 => ((impl_KeyBytes.f k bt124.1 bt124.2.1 bt124.2.2.1).bind fun bt131 => (if (Op.bytesLess ((strOfNums x5).toList) ((strOfNums x7).toList)) = true then (if (Op.bytesLess ((strOfNums x7).toList) ((strOfNums x5).toList)) = true then (if bt124.2.2.2 = true then (if bt131.2 = true then (if (strOfNums bt131.1).toList = (strOfNums x5).toList then ((impl_CompareKeys.f k x112000 x112001 x112002 x113000 x113001 x113002).bind fun t135 => (some (t135 == 1))) else (some false)) else (some false)) else (some false)) else (if bt124.2.2.2 = true then (if bt131.2 = true then (if (strOfNums bt131.1).toList = (strOfNums x5).toList then ((impl_CompareKeys.f k x112000 x112001 x112002 x113000 x113001 x113002).bind fun t136 => (some (t136 == (-1)))) else (some false)) else (some false)) else (some false))) else (if (Op.bytesLess ((strOfNums x7).toList) ((strOfNums x5).toList)) = true then (if bt124.2.2.2 = true then (if bt131.2 = true then (if (strOfNums bt131.1).toList = (strOfNums x5).toList then ((impl_CompareKeys.f k x112000 x112001 x112002 x113000 x113001 x113002).bind fun t137 => (some (t137 == 1))) else (some false)) else (some false)) else (some false)) else (if bt124.2.2.2 = true then (if bt131.2 = true then (if (strOfNums bt131.1).toList = (strOfNums x5).toList then ((impl_CompareKeys.f k x112000 x112001 x112002 x113000 x113001 x113002).bind fun t138 => (some (t138 == 0))) else (some false)) else (some false)) else (some false))))))
end
def laws_FnKeys.f (k : Nat) (l0 : List Int) : Option (Bool) := if (l0.length : Int) > 1048576 then (some true) else ((spec_DrawCompareKeys.f k l0).bind fun bt101 => ((impl_KeyBytes.f k bt101.1 bt101.2.1 bt101.2.2.1).bind fun bt113 => ((impl_KeyBytes.f k bt101.2.2.2.1 bt101.2.2.2.2.1 bt101.2.2.2.2.2).bind fun bt117 => ((spec_GoodKey.f k bt101.1 bt101.2.1 bt101.2.2.1).bind fun t121 => (if (bt113.2 != t121) = true then (laws_FnKeys.j0 k bt113.1 bt113.2 bt117.1 bt117.2 true bt101.1 bt101.2.1 bt101.2.2.1 bt101.2.2.2.1 bt101.2.2.2.2.1 bt101.2.2.2.2.2) else ((spec_GoodKey.f k bt101.2.2.2.1 bt101.2.2.2.2.1 bt101.2.2.2.2.2).bind fun t122 => (laws_FnKeys.j0 k bt113.1 bt113.2 bt117.1 bt117.2 (bt117.2 != t122) bt101.1 bt101.2.1 bt101.2.2.1 bt101.2.2.2.1 bt101.2.2.2.2.1 bt101.2.2.2.2.2)))))))
theorem laws_FnKeys.mono_l : ∀ k, (∀ y0 y1 y2 y3 y4 y5 y6 y7 y8 y9 y10, LeO (laws_FnKeys.j0 k y0 y1 y2 y3 y4 y5 y6 y7 y8 y9 y10) (laws_FnKeys.j0 (k + 1) y0 y1 y2 y3 y4 y5 y6 y7 y8 y9 y10)) ∧ (∀ y0 y1 y2 y3 y4 y5 y6 y7 y8, LeO (laws_FnKeys.j1 k y0 y1 y2 y3 y4 y5 y6 y7 y8) (laws_FnKeys.j1 (k + 1) y0 y1 y2 y3 y4 y5 y6 y7 y8))
 | 0 => ⟨fun _ _ _ _ _ _ _ _ _ _ _ r h => by simp [laws_FnKeys.j0] at h, fun _ _ _ _ _ _ _ _ _ r h => by simp [laws_FnKeys.j1] at h⟩
 | k + 1 => by
  obtain ⟨ih0, ih1⟩ := laws_FnKeys.mono_l k
  refine ⟨?_, ?_⟩
  · intro y0 y1 y2 y3 y4 y5 y6 y7 y8 y9 y10
    unfold laws_FnKeys.j0
    repeat' first
     | (with_reducible first | exact ih0 .. | exact ih1 .. | exact impl_CompareKeys.mono .. | exact impl_KeyBytes.mono .. | exact impl_ReadKey.mono .. | exact spec_DrawCompareKeys.mono .. | exact spec_GoodKey.mono .. | exact LeO.refl _ | exact LeO.none _ | refine LeO.ite ?_ ?_ | refine LeO.bind ?_ (fun _ => ?_))
     | exact LeO.none _
     | refine LeO.ite ?_ ?_
     | refine LeO.bind ?_ (fun _ => ?_)
  · intro y0 y1 y2 y3 y4 y5 y6 y7 y8
    unfold laws_FnKeys.j1
    repeat' first
     | (with_reducible first | exact ih0 .. | exact ih1 .. | exact impl_CompareKeys.mono .. | exact impl_KeyBytes.mono .. | exact impl_ReadKey.mono .. | exact spec_DrawCompareKeys.mono .. | exact spec_GoodKey.mono .. | exact LeO.refl _ | exact LeO.none _ | refine LeO.ite ?_ ?_ | refine LeO.bind ?_ (fun _ => ?_))
     | exact LeO.none _
     | refine LeO.ite ?_ ?_
     | refine LeO.bind ?_ (fun _ => ?_)
theorem laws_FnKeys.mono : ∀ a0 k, LeO (laws_FnKeys.f k a0) (laws_FnKeys.f (k + 1) a0) := by
 intro a0 k
 obtain ⟨ih0, ih1⟩ := laws_FnKeys.mono_l k
 unfold laws_FnKeys.f
 repeat' first
  | (with_reducible first | exact ih0 .. | exact ih1 .. | exact impl_CompareKeys.mono .. | exact impl_KeyBytes.mono .. | exact impl_ReadKey.mono .. | exact spec_DrawCompareKeys.mono .. | exact spec_GoodKey.mono .. | exact LeO.refl _ | exact LeO.none _ | refine LeO.ite ?_ ?_ | refine LeO.bind ?_ (fun _ => ?_))
  | exact LeO.none _
  | refine LeO.ite ?_ ?_
  | refine LeO.bind ?_ (fun _ => ?_)
set_option maxHeartbeats 8000000 in
set_option maxRecDepth 100000 in
theorem laws_FnKeys.calls (k : Nat) (A0 : Option Addr) (c0 : Nat) (l0 : List Int) (r : Bool) (w : World) (hr0 : Kd.C (Kd.int .u8) w A0 l0.length l0) (hc0 : l0.length ≤ c0) (hTabM_ : TabM_ w) (h : laws_FnKeys.f k l0 = some r) :
 Calls Tryd.prog 3 #[.slice A0 l0.length c0] w fun e w' => e = .returned (.bool r) ∧ Below w.heap.size w w' := by
 have hu25 := Tryd.underlying25
 have HR0 := aM hr0
 have HC0 := aM hc0
 clear hr0 hc0
 have HTabM_ := aM hTabM_
 clear hTabM_
 have HB := aM (Below.refl w.heap.size w)
 have H : (if (l0.length : Int) > 1048576 then (some true) else ((spec_DrawCompareKeys.f k l0).bind fun bt101 => ((impl_KeyBytes.f k bt101.1 bt101.2.1 bt101.2.2.1).bind fun bt113 => ((impl_KeyBytes.f k bt101.2.2.2.1 bt101.2.2.2.2.1 bt101.2.2.2.2.2).bind fun bt117 => ((spec_GoodKey.f k bt101.1 bt101.2.1 bt101.2.2.1).bind fun t121 => (if (bt113.2 != t121) = true then (laws_FnKeys.j0 k bt113.1 bt113.2 bt117.1 bt117.2 true bt101.1 bt101.2.1 bt101.2.2.1 bt101.2.2.2.1 bt101.2.2.2.2.1 bt101.2.2.2.2.2) else ((spec_GoodKey.f k bt101.2.2.2.1 bt101.2.2.2.2.1 bt101.2.2.2.2.2).bind fun t122 => (laws_FnKeys.j0 k bt113.1 bt113.2 bt117.1 bt117.2 (bt117.2 != t122) bt101.1 bt101.2.1 bt101.2.2.1 bt101.2.2.2.1 bt101.2.2.2.2.1 bt101.2.2.2.2.2)))))))) = some r := h
 clear h
 by_cases c2 : (l0.length : Int) > 1048576
 · rw [if_pos c2] at H
   have c2b0 : decide (1048576 < (l0.length : Int)) = true := decide_eq_true c2
   have c2b1 : decide (1048576 < l0.length) = true := decide_eq_true (by omega)
   clear c2
   obtain rfl := Option.some.inj H
   go_enter Tryd.func3, Tryd.ntmps3
   go_wp2
   go_ret
   exact ⟨z674d, z5acd⟩
 · rw [if_neg c2] at H
   have c2b0 : decide (1048576 < (l0.length : Int)) = false := decide_eq_false c2
   have c2b1 : decide (1048576 < l0.length) = false := decide_eq_false (by omega)
   clear c2
   replace H := Option.bind_eq_some_iff.mp H
   obtain ⟨⟨t101, t102, t105, t106, t107, t110⟩, A30, H⟩ := H
   try dsimp only at H
   have A3 := aM A30
   clear A30
   replace H := Option.bind_eq_some_iff.mp H
   obtain ⟨⟨t113, t116⟩, A40, H⟩ := H
   try dsimp only at H
   have A4 := aM A40
   clear A40
   replace H := Option.bind_eq_some_iff.mp H
   obtain ⟨⟨t117, t120⟩, A50, H⟩ := H
   try dsimp only at H
   have A5 := aM A50
   clear A50
   have HC6 := aM H
   clear H
   go_enter Tryd.func3, Tryd.ntmps3
   go_upto_region 6 with (first | ((with_reducible refine gate_callee (f := 8) rfl ?_); refine goesL_ (some 19) rfl rfl Tryd.func8 (by kernel_rfl) rfl #[.slice A0 l0.length c0] rfl zee81 ?_; (with_reducible refine (spec_DrawCompareKeys.calls k _ _ l0 t101 t102 t105 t106 t107 t110 _ ?side1 ?side2 A3.out).mono ?_); (case side1 => exact z4195); (case side2 => exact HC0.out); rintro e w7 ⟨v103, v108, rfl, ho0, ho1, hb⟩; refine ⟨_, rfl, ?_⟩; have _ := aM (Kd.V_lower (Kd.V_mono (ok' := fun k_ => True) ho0 (fun k_ hk_ => trivial)) (below_size hbZ)); have _ := aM (Kd.V_lower (Kd.V_mono (ok' := fun k_ => True) ho1 (fun k_ hk_ => trivial)) (below_size hbZ)); have _ := aM (below_step hbZ hb); clear HB; rename_i HO104 HO109 HB; (try clear hb); (try clear ho0); (try clear ho1)) | ((with_reducible refine gate_dst (N := 3) rfl ?_); refine box_event ?hg (N := 3) ?hd (cs := #[.string (⟨#[]⟩ : ByteArray), .slice none 0 0, .int .i64 0]) (t := 25) ?hr ?_; (case hd => rfl); (case hg => rfl); (case hr => first | (go_simp; done) | (go_simp; rfl)); intro gb111 hg w8 hbox hb; have _ := aM (Kd.V_below (Kd.V_elderB (vZ HO104.out) gb111 (Nat.le_of_eq hg.symm)) hb); have _ := aM (Kd.V_below (Kd.V_elderB (vZ HO109.out) gb111 (Nat.le_of_eq hg.symm)) hb); have _ := aM (below_step hbZ hb); have _ := aM hbox; have _ := szZ hg; have _ := szZ hg; clear HO104 HO109 HB; rename_i HO104 HO109 HB BK111 GW111 GE111; clear hb hbox hg) | ((with_reducible refine gate_dst (N := 4) rfl ?_); refine box_event ?hg (N := 4) ?hd (cs := #[.string (⟨#[]⟩ : ByteArray), .slice none 0 0, .int .i64 0]) (t := 25) ?hr ?_; (case hd => rfl); (case hg => rfl); (case hr => first | (go_simp; done) | (go_simp; rfl)); intro gb112 hg w9 hbox hb; have _ := aM (Kd.V_below (Kd.V_elderB (vZ HO104.out) gb112 (Nat.le_of_eq hg.symm)) hb); have _ := aM (Kd.V_below (Kd.V_elderB (vZ HO109.out) gb112 (Nat.le_of_eq hg.symm)) hb); have _ := bB gb111 hb; have _ := aM (below_step hbZ hb); have _ := aM hbox; have _ := szZ hg; have _ := szZ hg; have ⟨_, _⟩ := nbB gb111 hg; clear HO104 HO109 BK111 HB; rename_i HO104 HO109 BK111 HB BK112 GW112 GE112 NB111_112 NB112_111; clear hb hbox hg; have hnb10 := NB111_112.out; have hnc10 := NB112_111.out; obtain ⟨hcz11_0, hcz11_1, hcz11_2, hfz11_0, hfz11_1, hfz11_2⟩ := cellsZ3 BK111.out; obtain ⟨Ao12, co12, eo12⟩ := Kd.V_slice HO104.out; subst eo12; obtain ⟨hcz13_0, hcz13_1, hcz13_2, hfz13_0, hfz13_1, hfz13_2⟩ := cellsZ3 BK112.out; obtain ⟨Ao14, co14, eo14⟩ := Kd.V_slice HO109.out; subst eo14) | ((with_reducible refine gate_callee (f := 9) rfl ?_); refine goesL_ (some 24) rfl rfl Tryd.func9 (by kernel_rfl) rfl #[.agg #[.string t101, .slice Ao12 t102.length co12, .int .i64 t105]] rfl zee81 ?_; (with_reducible refine (impl_KeyBytes.calls k t101 _ _ t102 t105 t113 t116 _ ?side1 ?side2 A4.out).mono ?_); (case side1 => refine (Kd.V_reads' (e := 69) (base := w.heap.size) (ok := fun k_ => ((True ∧ k_ ≠ gb111) ∧ k_ ≠ gb112)) (n := t102.length) (c := co12) ?_).2.2; exact (by (with_reducible repeat (first | apply Kd.V_alloc | apply Kd.V_drewN | apply Kd.V_drew)); exact (Kd.V_mono (Kd.V_mono (Kd.V_far (p := ⟨gb112, 2, none⟩) (Kd.V_far (p := ⟨gb112, 1, none⟩) (Kd.V_far (p := ⟨gb112, 0, none⟩) (Kd.V_far (p := ⟨gb111, 2, none⟩) (Kd.V_far (p := ⟨gb111, 1, none⟩) (Kd.V_far (p := ⟨gb111, 0, none⟩) (Kd.V_mono (Kd.V_mono HO104.out (fun k_ hk => (⟨hk, hk.1.2⟩ : _ ∧ k_ ≠ gb111))) (fun k_ hk => (⟨hk, hk.1.2⟩ : _ ∧ k_ ≠ gb112))) (fun _ hk => hk.1.2) (.string t101)) (fun _ hk => hk.1.2) (.slice Ao12 t102.length co12)) (fun _ hk => hk.1.2) (.int .i64 t105)) (fun _ hk => hk.2) (.string t106)) (fun _ hk => hk.2) (.slice Ao14 t107.length co14)) (fun _ hk => hk.2) (.int .i64 t110)) (fun _ h_ => h_.1)) (fun _ h_ => h_.1)))); (case side2 => exact (Kd.V_reads' HO104.out).2.1); rintro e w15 ⟨v114, rfl, ho0, hb⟩; refine ⟨_, rfl, ?_⟩; have _ := aM (Kd.V_below (by (with_reducible repeat (first | apply Kd.V_alloc | apply Kd.V_drewN | apply Kd.V_drew)); exact (Kd.V_mono (Kd.V_mono (Kd.V_far (p := ⟨gb112, 2, none⟩) (Kd.V_far (p := ⟨gb112, 1, none⟩) (Kd.V_far (p := ⟨gb112, 0, none⟩) (Kd.V_far (p := ⟨gb111, 2, none⟩) (Kd.V_far (p := ⟨gb111, 1, none⟩) (Kd.V_far (p := ⟨gb111, 0, none⟩) (Kd.V_mono (Kd.V_mono HO104.out (fun k_ hk => (⟨hk, hk.1.2⟩ : _ ∧ k_ ≠ gb111))) (fun k_ hk => (⟨hk, hk.1.2⟩ : _ ∧ k_ ≠ gb112))) (fun _ hk => hk.1.2) (.string t101)) (fun _ hk => hk.1.2) (.slice Ao12 t102.length co12)) (fun _ hk => hk.1.2) (.int .i64 t105)) (fun _ hk => hk.2) (.string t106)) (fun _ hk => hk.2) (.slice Ao14 t107.length co14)) (fun _ hk => hk.2) (.int .i64 t110)) (fun _ h_ => h_.1)) (fun _ h_ => h_.1))) hb); have _ := aM (Kd.V_below (by (with_reducible repeat (first | apply Kd.V_alloc | apply Kd.V_drewN | apply Kd.V_drew)); exact (Kd.V_mono (Kd.V_mono (Kd.V_far (p := ⟨gb112, 2, none⟩) (Kd.V_far (p := ⟨gb112, 1, none⟩) (Kd.V_far (p := ⟨gb112, 0, none⟩) (Kd.V_far (p := ⟨gb111, 2, none⟩) (Kd.V_far (p := ⟨gb111, 1, none⟩) (Kd.V_far (p := ⟨gb111, 0, none⟩) (Kd.V_mono (Kd.V_mono HO109.out (fun k_ hk => (⟨hk, hk.1.2⟩ : _ ∧ k_ ≠ gb111))) (fun k_ hk => (⟨hk, hk.1.2⟩ : _ ∧ k_ ≠ gb112))) (fun _ hk => hk.1.2) (.string t101)) (fun _ hk => hk.1.2) (.slice Ao12 t102.length co12)) (fun _ hk => hk.1.2) (.int .i64 t105)) (fun _ hk => hk.2) (.string t106)) (fun _ hk => hk.2) (.slice Ao14 t107.length co14)) (fun _ hk => hk.2) (.int .i64 t110)) (fun _ h_ => h_.1)) (fun _ h_ => h_.1))) hb); have _ := aM (Kd.V_lower (Kd.V_mono (ok' := fun k_ => k_ ≠ gb111 ∧ k_ ≠ gb112) ho0 (fun k_ hk_ => ⟨(Kd.freshB (g := gb111) (o := .cells #[.string t101, .slice Ao12 t102.length co12, .int .i64 t105] 25 (0, 0)) bkZ k_ hk_), (Kd.freshB (g := gb112) (o := .cells #[.string t106, .slice Ao14 t107.length co14, .int .i64 t110] 25 (0, 0)) bkZ k_ hk_)⟩)) (below_size hbZ)); have _ := aM (blk_below (g := gb111) (o := .cells #[.string t101, .slice Ao12 t102.length co12, .int .i64 t105] 25 (0, 0)) bkZ hb); have _ := aM (blk_below (g := gb112) (o := .cells #[.string t106, .slice Ao14 t107.length co14, .int .i64 t110] 25 (0, 0)) bkZ hb); have _ := aM (below_step hbZ hb); clear HO104 HO109 BK111 BK112 HB; rename_i HO104 HO109 HO115 BK111 BK112 HB; (try clear hb); (try clear ho0); obtain ⟨hcz16_0, hcz16_1, hcz16_2, hfz16_0, hfz16_1, hfz16_2⟩ := cellsZ3 BK112.out) | ((with_reducible refine gate_callee (f := 9) rfl ?_); refine goesL_ (some 29) rfl rfl Tryd.func9 (by kernel_rfl) rfl #[.agg #[.string t106, .slice Ao14 t107.length co14, .int .i64 t110]] rfl zee81 ?_; (with_reducible refine (impl_KeyBytes.calls k t106 _ _ t107 t110 t117 t120 _ ?side1 ?side2 A5.out).mono ?_); (case side1 => exact (by repeat (first | exact (Kd.V_reads' HO109.out).2.2 | (with_reducible refine Kd.C_alloc ?_ _) | (with_reducible refine Kd.C_drewN ?_ _) | (with_reducible refine Kd.C_drew ?_)))); (case side2 => exact (Kd.V_reads' HO109.out).2.1); rintro e w17 ⟨v118, rfl, ho0, hb⟩; refine ⟨_, rfl, ?_⟩; have _ := aM (Kd.V_below (vZ HO104.out) hb); have _ := aM (Kd.V_below (vZ HO109.out) hb); have _ := aM (Kd.V_below (vZ HO115.out) hb); have _ := aM (Kd.V_lower (Kd.V_mono (ok' := fun k_ => k_ ≠ gb111 ∧ k_ ≠ gb112) ho0 (fun k_ hk_ => ⟨(Kd.freshB (g := gb111) bkZ k_ hk_), (Kd.freshB (g := gb112) bkZ k_ hk_)⟩)) (below_size hbZ)); have _ := bB gb111 hb; have _ := bB gb112 hb; have _ := aM (below_step hbZ hb); clear HO104 HO109 HO115 BK111 BK112 HB; rename_i HO104 HO109 HO115 HO119 BK111 BK112 HB; (try clear hb); (try clear ho0)))
   (try simp only [Act.put, List.setIfInBounds_toArray, List.set_cons_zero, List.set_cons_succ])
   go_cut [41] (fun v41 wc => ∃ (kq : Nat) (x41_5 : Bool), v41 = .bool x41_5 ∧ Aside0 (laws_FnKeys.j0 kq t113 t116 t117 t120 x41_5 t101 t102 t105 t106 t107 t110 = some r) ∧ Aside0 (kq ≤ k) ∧ Aside0 (Kd.V (Kd.int .u8) 5 wc w.heap.size (fun k_ => k_ ≠ gb111 ∧ k_ ≠ gb112) v114 t113) ∧ Aside0 (Kd.V (Kd.int .u8) 5 wc w.heap.size (fun k_ => k_ ≠ gb111 ∧ k_ ≠ gb112) v118 t117) ∧ Aside0 (Kd.V k69 69 wc w.heap.size (fun k_ => k_ ≠ gb111 ∧ k_ ≠ gb112) (.slice Ao12 t102.length co12) t102) ∧ Aside0 (Kd.V k69 69 wc w.heap.size (fun k_ => k_ ≠ gb111 ∧ k_ ≠ gb112) (.slice Ao14 t107.length co14) t107) ∧ Aside0 (wc.heap[gb111]? = some (.cells #[.string t101, (.slice Ao12 t102.length co12), .int .i64 t105] 25 (0, 0))) ∧ Aside0 (wc.heap[gb112]? = some (.cells #[.string t106, (.slice Ao14 t107.length co14), .int .i64 t110] 25 (0, 0))) ∧ Aside0 (Below w.heap.size w wc))
   case first =>
    have H := HC6.out
    clear HC6
    replace H := Option.bind_eq_some_iff.mp H
    obtain ⟨t121, A180, H⟩ := H
    try dsimp only at H
    have A18 := aM A180
    clear A180
    by_cases c19 : (t116 != t121) = true
    · rw [if_pos c19] at H
      have c19b0 : (t116 != t121) = true := c19
      (try (have c19b1 : decide (t116 = t121) = false := by simpa using c19))
      (try (have c19b2 : (t116 == t121) = false := by simpa using c19))
      (try (have c19b3 : ¬ (t116 = t121) := by simpa using c19))
      clear c19
      (first | rw [c19b0] | (simp only [i64_w, i32_w]; rw [c19b0]) | skip)
      have H' := aM H
      clear H
      have hnb20 := NB111_112.out
      have hnc20 := NB112_111.out
      obtain ⟨hcz21_0, hcz21_1, hcz21_2, hfz21_0, hfz21_1, hfz21_2⟩ := cellsZ3 BK111.out
      go_wp2_with (first | ((with_reducible refine gate_callee (f := 10) rfl ?_); refine goesL_ (some 34) rfl rfl Tryd.func10 (by kernel_rfl) rfl #[.agg #[.string t101, .slice Ao12 t102.length co12, .int .i64 t105]] rfl zee81 ?_; (with_reducible refine (spec_GoodKey.calls k t101 _ _ t102 t105 t121 _ ?side1 ?side2 A18.out).mono ?_); (case side1 => exact (by repeat (first | exact (Kd.V_reads' HO104.out).2.2 | (with_reducible refine Kd.C_alloc ?_ _) | (with_reducible refine Kd.C_drewN ?_ _) | (with_reducible refine Kd.C_drew ?_)))); (case side2 => exact (Kd.V_reads' HO104.out).2.1); rintro e w22 ⟨rfl, hb⟩; refine ⟨_, rfl, ?_⟩; have _ := aM (Kd.V_below (vZ HO104.out) hb); have _ := aM (Kd.V_below (vZ HO109.out) hb); have _ := aM (Kd.V_below (vZ HO115.out) hb); have _ := aM (Kd.V_below (vZ HO119.out) hb); have _ := bB gb111 hb; have _ := bB gb112 hb; have _ := aM (below_step hbZ hb); clear HO104 HO109 HO115 HO119 BK111 BK112 HB; rename_i HO104 HO109 HO115 HO119 BK111 BK112 HB; (try clear hb)))
      go_meet
      case rel => exact ⟨_, (true), z4458, H', ⟨zb79b⟩, ⟨vZ HO115.out⟩, ⟨vZ HO119.out⟩, ⟨by (with_reducible repeat (first | apply Kd.V_alloc | apply Kd.V_drewN | apply Kd.V_drew)); exact Kd.V_mono HO104.out (fun _ hk => ⟨hk.1.2, hk.2⟩)⟩, ⟨by (with_reducible repeat (first | apply Kd.V_alloc | apply Kd.V_drewN | apply Kd.V_drew)); exact Kd.V_mono HO109.out (fun _ hk => ⟨hk.1.2, hk.2⟩)⟩, ⟨bkZ⟩, ⟨bkZ⟩, ⟨zcb41⟩⟩
    · rw [if_neg c19] at H
      have c19b0 : (t116 != t121) = false := by simpa using c19
      (try (have c19b1 : decide (t116 = t121) = true := by simpa using c19))
      (try (have c19b2 : (t116 == t121) = true := by simpa using c19))
      clear c19
      (first | rw [c19b0] | (simp only [i64_w, i32_w]; rw [c19b0]) | skip)
      replace H := Option.bind_eq_some_iff.mp H
      obtain ⟨t122, A230, H⟩ := H
      try dsimp only at H
      have A23 := aM A230
      clear A230
      have H' := aM H
      clear H
      have hnb24 := NB111_112.out
      have hnc24 := NB112_111.out
      obtain ⟨hcz25_0, hcz25_1, hcz25_2, hfz25_0, hfz25_1, hfz25_2⟩ := cellsZ3 BK111.out
      go_wp2_with (first | ((with_reducible refine gate_callee (f := 10) rfl ?_); refine goesL_ (some 34) rfl rfl Tryd.func10 (by kernel_rfl) rfl #[.agg #[.string t101, .slice Ao12 t102.length co12, .int .i64 t105]] rfl zee81 ?_; (with_reducible refine (spec_GoodKey.calls k t101 _ _ t102 t105 t121 _ ?side1 ?side2 A18.out).mono ?_); (case side1 => exact (by repeat (first | exact (Kd.V_reads' HO104.out).2.2 | (with_reducible refine Kd.C_alloc ?_ _) | (with_reducible refine Kd.C_drewN ?_ _) | (with_reducible refine Kd.C_drew ?_)))); (case side2 => exact (Kd.V_reads' HO104.out).2.1); rintro e w26 ⟨rfl, hb⟩; refine ⟨_, rfl, ?_⟩; have _ := aM (Kd.V_below (vZ HO104.out) hb); have _ := aM (Kd.V_below (vZ HO109.out) hb); have _ := aM (Kd.V_below (vZ HO115.out) hb); have _ := aM (Kd.V_below (vZ HO119.out) hb); have _ := bB gb111 hb; have _ := bB gb112 hb; have _ := aM (below_step hbZ hb); clear HO104 HO109 HO115 HO119 BK111 BK112 HB; rename_i HO104 HO109 HO115 HO119 BK111 BK112 HB; (try clear hb); obtain ⟨hcz27_0, hcz27_1, hcz27_2, hfz27_0, hfz27_1, hfz27_2⟩ := cellsZ3 BK112.out) | (go_at_call 10; (with_reducible refine (spec_GoodKey.calls k t106 _ _ t107 t110 t122 _ ?side1 ?side2 A23.out).mono ?_); (case side1 => exact (by repeat (first | exact (Kd.V_reads' HO109.out).2.2 | (with_reducible refine Kd.C_alloc ?_ _) | (with_reducible refine Kd.C_drewN ?_ _) | (with_reducible refine Kd.C_drew ?_)))); (case side2 => exact (Kd.V_reads' HO109.out).2.1); rintro e w28 ⟨rfl, hb⟩; have _ := aM (Kd.V_below (vZ HO104.out) hb); have _ := aM (Kd.V_below (vZ HO109.out) hb); have _ := aM (Kd.V_below (vZ HO115.out) hb); have _ := aM (Kd.V_below (vZ HO119.out) hb); have _ := bB gb111 hb; have _ := bB gb112 hb; have _ := aM (below_step hbZ hb); clear HO104 HO109 HO115 HO119 BK111 BK112 HB; rename_i HO104 HO109 HO115 HO119 BK111 BK112 HB; (try clear hb)))
      go_meet
      case rel => exact ⟨_, ((t120 != t122)), z4458, H', ⟨zb79b⟩, ⟨vZ HO115.out⟩, ⟨vZ HO119.out⟩, ⟨by (with_reducible repeat (first | apply Kd.V_alloc | apply Kd.V_drewN | apply Kd.V_drew)); exact Kd.V_mono HO104.out (fun _ hk => ⟨hk.1.2, hk.2⟩)⟩, ⟨by (with_reducible repeat (first | apply Kd.V_alloc | apply Kd.V_drewN | apply Kd.V_drew)); exact Kd.V_mono HO109.out (fun _ hk => ⟨hk.1.2, hk.2⟩)⟩, ⟨bkZ⟩, ⟨bkZ⟩, ⟨zcb41⟩⟩
   case rest =>
    clear HC6
    try clear c1
    try clear c2
    try clear c2b0
    try clear c2b1
    try clear p2
    try clear c3
    try clear c8
    try clear c9
    try clear c10
    try clear c19
    try clear c19b0
    try clear c19b1
    try clear c19b2
    try clear c20
    try clear c24
    try clear hcz11_0 hcz11_1 hcz11_2
    try clear hcz13_0 hcz13_1 hcz13_2
    try clear hcz16_0 hcz16_1 hcz16_2
    try clear hcz21_0 hcz21_1 hcz21_2
    try clear hcz25_0 hcz25_1 hcz25_2
    try clear hcz27_0 hcz27_1 hcz27_2
    try clear hfz11_0 hfz11_1 hfz11_2
    try clear hfz13_0 hfz13_1 hfz13_2
    try clear hfz16_0 hfz16_1 hfz16_2
    try clear hfz21_0 hfz21_1 hfz21_2
    try clear hfz25_0 hfz25_1 hfz25_2
    try clear hfz27_0 hfz27_1 hfz27_2
    obtain ⟨kq, x41_5, rfl, HA, HJ5, HO_5, HO_7, HO_112001, HO_113001, BK111, BK112, HB⟩ := hcut
    cases kq with
    | zero => exact absurd HA.out (by simp [laws_FnKeys.j0])
    | succ kj5 =>
     have H := HA.out
     clear HA
     simp only [laws_FnKeys.j0] at H
     by_cases c29 : x41_5 = true
     · subst c29
       have H1 : (some false) = some r := by rw [if_pos rfl] at H; exact H
       clear H
       have H := H1
       clear H1
       obtain rfl := Option.some.inj H
       go_wp2
       go_ret
       exact ⟨z674d, zcb41⟩
     · replace c29 := Bool.eq_false_iff.mpr c29
       subst c29
       have H1 : (if t116 = true then (laws_FnKeys.j1 kj5 t113 t117 (!t120) t101 t102 t105 t106 t107 t110) else (laws_FnKeys.j1 kj5 t113 t117 true t101 t102 t105 t106 t107 t110)) = some r := by rw [if_neg (show ¬ (false = true) by decide)] at H; exact H
       clear H
       have H := H1
       clear H1
       have HC30 := aM H
       clear H
       go_upto_region 8 with (fail)
       go_cut [47] (fun v47 wc => ∃ (kq : Nat) (x47_29 : Bool), v47 = .bool x47_29 ∧ Aside0 (laws_FnKeys.j1 kq t113 t117 x47_29 t101 t102 t105 t106 t107 t110 = some r) ∧ Aside0 (kq ≤ kj5) ∧ Aside0 (Kd.V (Kd.int .u8) 5 wc w.heap.size (fun k_ => k_ ≠ gb111 ∧ k_ ≠ gb112) v114 t113) ∧ Aside0 (Kd.V (Kd.int .u8) 5 wc w.heap.size (fun k_ => k_ ≠ gb111 ∧ k_ ≠ gb112) v118 t117) ∧ Aside0 (Kd.V k69 69 wc w.heap.size (fun k_ => k_ ≠ gb111 ∧ k_ ≠ gb112) (.slice Ao12 t102.length co12) t102) ∧ Aside0 (Kd.V k69 69 wc w.heap.size (fun k_ => k_ ≠ gb111 ∧ k_ ≠ gb112) (.slice Ao14 t107.length co14) t107) ∧ Aside0 (wc.heap[gb111]? = some (.cells #[.string t101, (.slice Ao12 t102.length co12), .int .i64 t105] 25 (0, 0))) ∧ Aside0 (wc.heap[gb112]? = some (.cells #[.string t106, (.slice Ao14 t107.length co14), .int .i64 t110] 25 (0, 0))) ∧ Aside0 (Below w.heap.size w wc))
       case first =>
        have H := HC30.out
        clear HC30
        by_cases c31 : t116 = true
        · subst c31
          have H1 : (laws_FnKeys.j1 kj5 t113 t117 (!t120) t101 t102 t105 t106 t107 t110) = some r := by rw [if_pos rfl] at H; exact H
          clear H
          have H := H1
          clear H1
          have H' := aM H
          clear H
          go_wp2
          go_meet
          case rel => exact ⟨_, (!t120), z4458, H', ⟨by have := HJ5.out; first | omega | exact Nat.le_refl _⟩, ⟨vZ HO_5.out⟩, ⟨vZ HO_7.out⟩, ⟨vZ HO_112001.out⟩, ⟨vZ HO_113001.out⟩, ⟨bkZ⟩, ⟨bkZ⟩, ⟨zcb41⟩⟩
        · replace c31 := Bool.eq_false_iff.mpr c31
          subst c31
          have H1 : (laws_FnKeys.j1 kj5 t113 t117 true t101 t102 t105 t106 t107 t110) = some r := by rw [if_neg (show ¬ (false = true) by decide)] at H; exact H
          clear H
          have H := H1
          clear H1
          have H' := aM H
          clear H
          go_wp2
          go_meet
          case rel => exact ⟨_, (true), z4458, H', ⟨by have := HJ5.out; first | omega | exact Nat.le_refl _⟩, ⟨vZ HO_5.out⟩, ⟨vZ HO_7.out⟩, ⟨vZ HO_112001.out⟩, ⟨vZ HO_113001.out⟩, ⟨bkZ⟩, ⟨bkZ⟩, ⟨zcb41⟩⟩
       case rest =>
        clear HC30
        try clear c1
        try clear c2
        try clear c2b0
        try clear c2b1
        try clear p2
        try clear c3
        try clear c8
        try clear c9
        try clear c10
        try clear c19
        try clear c19b0
        try clear c19b1
        try clear c19b2
        try clear c20
        try clear c24
        try clear c29
        try clear c31
        try clear hcz11_0 hcz11_1 hcz11_2
        try clear hcz13_0 hcz13_1 hcz13_2
        try clear hcz16_0 hcz16_1 hcz16_2
        try clear hcz21_0 hcz21_1 hcz21_2
        try clear hcz25_0 hcz25_1 hcz25_2
        try clear hcz27_0 hcz27_1 hcz27_2
        try clear hfz11_0 hfz11_1 hfz11_2
        try clear hfz13_0 hfz13_1 hfz13_2
        try clear hfz16_0 hfz16_1 hfz16_2
        try clear hfz21_0 hfz21_1 hfz21_2
        try clear hfz25_0 hfz25_1 hfz25_2
        try clear hfz27_0 hfz27_1 hfz27_2
        try clear p2
        obtain ⟨kq, x47_29, rfl, HA, HJ29, HO_5, HO_7, HO_112001, HO_113001, BK111, BK112, HB⟩ := hcut
        cases kq with
        | zero => exact absurd HA.out (by simp [laws_FnKeys.j1])
        | succ kj29 =>
         have H := HA.out
         clear HA
         simp only [laws_FnKeys.j1] at H
         by_cases c32 : x47_29 = true
         · subst c32
           have H1 : ((impl_CompareKeys.f kj29 t101 t102 t105 t106 t107 t110).bind fun t123 => (some (t123 == 0))) = some r := by rw [if_pos rfl] at H; exact H
           clear H
           have H := H1
           clear H1
           replace H := Option.bind_eq_some_iff.mp H
           obtain ⟨t123, A330, H⟩ := H
           try dsimp only at H
           have A33 := aM A330
           clear A330
           obtain rfl := Option.some.inj H
           have hnb34 := NB111_112.out
           have hnc34 := NB112_111.out
           obtain ⟨hcz35_0, hcz35_1, hcz35_2, hfz35_0, hfz35_1, hfz35_2⟩ := cellsZ3 BK111.out
           obtain ⟨hcz36_0, hcz36_1, hcz36_2, hfz36_0, hfz36_1, hfz36_2⟩ := cellsZ3 BK112.out
           go_wp2_with (first | ((with_reducible refine gate_callee (f := 11) rfl ?_); refine goesL_ (some 50) rfl rfl Tryd.func11 (by kernel_rfl) rfl #[.agg #[.string t101, .slice Ao12 t102.length co12, .int .i64 t105], .agg #[.string t106, .slice Ao14 t107.length co14, .int .i64 t110]] rfl zee81 ?_; (with_reducible refine (impl_CompareKeys.calls kj29 t101 _ _ t102 t105 t106 _ _ t107 t110 t123 _ ?side1 ?side2 ?side3 ?side4 A33.out).mono ?_); (case side1 => exact (by repeat (first | exact (Kd.V_reads' HO_112001.out).2.2 | (with_reducible refine Kd.C_alloc ?_ _) | (with_reducible refine Kd.C_drewN ?_ _) | (with_reducible refine Kd.C_drew ?_)))); (case side2 => exact (Kd.V_reads' HO_112001.out).2.1); (case side3 => exact (by repeat (first | exact (Kd.V_reads' HO_113001.out).2.2 | (with_reducible refine Kd.C_alloc ?_ _) | (with_reducible refine Kd.C_drewN ?_ _) | (with_reducible refine Kd.C_drew ?_)))); (case side4 => exact (Kd.V_reads' HO_113001.out).2.1); rintro e w37 ⟨rfl, hb⟩; refine ⟨_, rfl, ?_⟩; have _ := aM (Kd.V_below (vZ HO_5.out) hb); have _ := aM (Kd.V_below (vZ HO_7.out) hb); have _ := aM (Kd.V_below (vZ HO_112001.out) hb); have _ := aM (Kd.V_below (vZ HO_113001.out) hb); have _ := bB gb111 hb; have _ := bB gb112 hb; have _ := aM (below_step hbZ hb); clear HO_5 HO_7 HO_112001 HO_113001 BK111 BK112 HB; rename_i HO_5 HO_7 HO_112001 HO_113001 BK111 BK112 HB; (try clear hb)))
           go_ret
           exact ⟨z674d, zcb41⟩
         · replace c32 := Bool.eq_false_iff.mpr c32
           subst c32
           have H1 : ((impl_ReadKey.f kj29 t113).bind fun bt124 => ((impl_KeyBytes.f kj29 bt124.1 bt124.2.1 bt124.2.2.1).bind fun bt131 => (if (Op.bytesLess ((strOfNums t113).toList) ((strOfNums t117).toList)) = true then (if (Op.bytesLess ((strOfNums t117).toList) ((strOfNums t113).toList)) = true then (if bt124.2.2.2 = true then (if bt131.2 = true then (if (strOfNums bt131.1).toList = (strOfNums t113).toList then ((impl_CompareKeys.f kj29 t101 t102 t105 t106 t107 t110).bind fun t135 => (some (t135 == 1))) else (some false)) else (some false)) else (some false)) else (if bt124.2.2.2 = true then (if bt131.2 = true then (if (strOfNums bt131.1).toList = (strOfNums t113).toList then ((impl_CompareKeys.f kj29 t101 t102 t105 t106 t107 t110).bind fun t136 => (some (t136 == (-1)))) else (some false)) else (some false)) else (some false))) else (if (Op.bytesLess ((strOfNums t117).toList) ((strOfNums t113).toList)) = true then (if bt124.2.2.2 = true then (if bt131.2 = true then (if (strOfNums bt131.1).toList = (strOfNums t113).toList then ((impl_CompareKeys.f kj29 t101 t102 t105 t106 t107 t110).bind fun t137 => (some (t137 == 1))) else (some false)) else (some false)) else (some false)) else (if bt124.2.2.2 = true then (if bt131.2 = true then (if (strOfNums bt131.1).toList = (strOfNums t113).toList then ((impl_CompareKeys.f kj29 t101 t102 t105 t106 t107 t110).bind fun t138 => (some (t138 == 0))) else (some false)) else (some false)) else (some false)))))) = some r := by rw [if_neg (show ¬ (false = true) by decide)] at H; exact H
           clear H
           have H := H1
           clear H1
           replace H := Option.bind_eq_some_iff.mp H
           obtain ⟨⟨t124, t125, t128, t129⟩, A380, H⟩ := H
           try dsimp only at H
           have A38 := aM A380
           clear A380
           replace H := Option.bind_eq_some_iff.mp H
           obtain ⟨⟨t131, t134⟩, A390, H⟩ := H
           try dsimp only at H
           have A39 := aM A390
           clear A390
           by_cases c40 : (Op.bytesLess ((strOfNums t113).toList) ((strOfNums t117).toList)) = true
           · rw [if_pos c40] at H
             have c40b0 : (Op.bytesLess ((strOfNums t113).toList) ((strOfNums t117).toList)) = true := c40
             clear c40
             by_cases c41 : (Op.bytesLess ((strOfNums t117).toList) ((strOfNums t113).toList)) = true
             · rw [if_pos c41] at H
               have c41b0 : (Op.bytesLess ((strOfNums t117).toList) ((strOfNums t113).toList)) = true := c41
               clear c41
               by_cases c42 : t129 = true
               · subst c42
                 have H1 : (if t134 = true then (if (strOfNums t131).toList = (strOfNums t113).toList then ((impl_CompareKeys.f kj29 t101 t102 t105 t106 t107 t110).bind fun t135 => (some (t135 == 1))) else (some false)) else (some false)) = some r := by rw [if_pos rfl] at H; exact H
                 clear H
                 have H := H1
                 clear H1
                 by_cases c43 : t134 = true
                 · subst c43
                   have H1 : (if (strOfNums t131).toList = (strOfNums t113).toList then ((impl_CompareKeys.f kj29 t101 t102 t105 t106 t107 t110).bind fun t135 => (some (t135 == 1))) else (some false)) = some r := by rw [if_pos rfl] at H; exact H
                   clear H
                   have H := H1
                   clear H1
                   by_cases c44 : (strOfNums t131).toList = (strOfNums t113).toList
                   · rw [if_pos c44] at H
                     have c44b0 : ((strOfNums t131).toList == (strOfNums t113).toList) = true := beq_iff_eq.mpr c44
                     have c44b1 : ((strOfNums t131).toList != (strOfNums t113).toList) = false := bne_eq_false_iff_eq.mpr c44
                     clear c44
                     replace H := Option.bind_eq_some_iff.mp H
                     obtain ⟨t135, A450, H⟩ := H
                     try dsimp only at H
                     have A45 := aM A450
                     clear A450
                     obtain rfl := Option.some.inj H
                     obtain ⟨Ao46, co46, eo46⟩ := Kd.V_slice HO_5.out
                     subst eo46
                     go_wp2_with (first | ((with_reducible refine gate_callee (f := 12) rfl ?_); refine goesL_ (some 54) rfl rfl Tryd.func12 (by kernel_rfl) rfl #[.slice Ao46 t113.length co46] rfl zee81 ?_; (with_reducible refine (impl_ReadKey.calls kj29 _ _ t113 t124 t125 t128 true _ ?side1 ?side2 ?side3 A38.out).mono ?_); (case side1 => exact (by repeat (first | exact (Kd.V_reads' HO_5.out).2.2 | (with_reducible refine Kd.C_alloc ?_ _) | (with_reducible refine Kd.C_drewN ?_ _) | (with_reducible refine Kd.C_drew ?_)))); (case side2 => exact (Kd.V_reads' HO_5.out).2.1); (case side3 => exact TabM_.stays HTabM_.out hbZ); rintro e w47 ⟨v126, rfl, ho0, hb⟩; refine ⟨_, rfl, ?_⟩; have _ := aM (Kd.V_elder' (vZ HO_5.out) (Kd.R_base ho0) hb); have _ := aM (Kd.V_elder' (vZ HO_7.out) (Kd.R_base ho0) hb); have _ := aM (Kd.V_elder' (vZ HO_112001.out) (Kd.R_base ho0) hb); have _ := aM (Kd.V_elder' (vZ HO_113001.out) (Kd.R_base ho0) hb); have _ := aM (Kd.R_lower ho0 (below_size hbZ)); have _ := bB gb111 hb; have _ := bB gb112 hb; have _ := aM (below_step hbZ hb); clear HO_5 HO_7 HO_112001 HO_113001 BK111 BK112 HB; rename_i HO_5 HO_7 HO_112001 HO_113001 HO127 BK111 BK112 HB; (try clear hb); (try clear ho0)) | ((with_reducible refine gate_dst (N := 9) rfl ?_); refine box_event ?hg (N := 9) ?hd (cs := #[.string (⟨#[]⟩ : ByteArray), .slice none 0 0, .int .i64 0]) (t := 25) ?hr ?_; (case hd => rfl); (case hg => rfl); (case hr => first | (go_simp; done) | (go_simp; rfl)); intro gb130 hg w48 hbox hb; have _ := aM (Kd.V_below (Kd.V_elderB (vZ HO_5.out) gb130 (Nat.le_of_eq hg.symm)) hb); have _ := aM (Kd.V_below (Kd.V_elderB (vZ HO_7.out) gb130 (Nat.le_of_eq hg.symm)) hb); have _ := aM (Kd.V_below (Kd.V_elderB (vZ HO_112001.out) gb130 (Nat.le_of_eq hg.symm)) hb); have _ := aM (Kd.V_below (Kd.V_elderB (vZ HO_113001.out) gb130 (Nat.le_of_eq hg.symm)) hb); have _ := aM (Kd.R_below (rZ HO127.out) hb); have _ := bB gb111 hb; have _ := bB gb112 hb; have _ := aM (below_step hbZ hb); have _ := aM hbox; have _ := szZ hg; have _ := szZ hg; have ⟨_, _⟩ := nbB gb111 hg; have ⟨_, _⟩ := nbB gb112 hg; clear HO_5 HO_7 HO_112001 HO_113001 HO127 BK111 BK112 HB; rename_i HO_5 HO_7 HO_112001 HO_113001 HO127 BK111 BK112 HB BK130 GW130 GE130 NB111_130 NB130_111 NB112_130 NB130_112; clear hb hbox hg; have hnb49 := NB130_111.out; have hnc49 := NB111_130.out; have hnb50 := NB130_112.out; have hnc50 := NB112_130.out; obtain ⟨hcz51_0, hcz51_1, hcz51_2, hfz51_0, hfz51_1, hfz51_2⟩ := cellsZ3 BK130.out; obtain ⟨Ao52, co52, eo52⟩ := Kd.R_slice HO127.out; subst eo52) | ((with_reducible refine gate_callee (f := 9) rfl ?_); refine goesL_ (some 59) rfl rfl Tryd.func9 (by kernel_rfl) rfl #[.agg #[.string t124, .slice Ao52 t125.length co52, .int .i64 t128]] rfl zee81 ?_; (with_reducible refine (impl_KeyBytes.calls kj29 t124 _ _ t125 t128 t131 true _ ?side1 ?side2 A39.out).mono ?_); (case side1 => refine (Kd.R_reads' (e := 69) (base := w.heap.size) (ok := fun k_ => True) (n := t125.length) (c := co52) ?_).2.2; exact (rZ (rF3 HO127.out BK130.out))); (case side2 => exact (Kd.R_reads' HO127.out).2.1); rintro e w53 ⟨v132, rfl, ho0, hb⟩; refine ⟨_, rfl, ?_⟩; have _ := aM (Kd.V_below (by (with_reducible repeat (first | apply Kd.V_alloc | apply Kd.V_drewN | apply Kd.V_drew)); exact (Kd.V_mono (Kd.V_far (p := ⟨gb130, 2, none⟩) (Kd.V_far (p := ⟨gb130, 1, none⟩) (Kd.V_far (p := ⟨gb130, 0, none⟩) (Kd.V_mono HO_5.out (fun k_ hk => (⟨hk, hk.2⟩ : _ ∧ k_ ≠ gb130))) (fun _ hk => hk.2) (.string t124)) (fun _ hk => hk.2) (.slice Ao52 t125.length co52)) (fun _ hk => hk.2) (.int .i64 t128)) (fun _ h_ => h_.1))) hb); have _ := aM (Kd.V_below (by (with_reducible repeat (first | apply Kd.V_alloc | apply Kd.V_drewN | apply Kd.V_drew)); exact (Kd.V_mono (Kd.V_far (p := ⟨gb130, 2, none⟩) (Kd.V_far (p := ⟨gb130, 1, none⟩) (Kd.V_far (p := ⟨gb130, 0, none⟩) (Kd.V_mono HO_7.out (fun k_ hk => (⟨hk, hk.2⟩ : _ ∧ k_ ≠ gb130))) (fun _ hk => hk.2) (.string t124)) (fun _ hk => hk.2) (.slice Ao52 t125.length co52)) (fun _ hk => hk.2) (.int .i64 t128)) (fun _ h_ => h_.1))) hb); have _ := aM (Kd.V_below (by (with_reducible repeat (first | apply Kd.V_alloc | apply Kd.V_drewN | apply Kd.V_drew)); exact (Kd.V_mono (Kd.V_far (p := ⟨gb130, 2, none⟩) (Kd.V_far (p := ⟨gb130, 1, none⟩) (Kd.V_far (p := ⟨gb130, 0, none⟩) (Kd.V_mono HO_112001.out (fun k_ hk => (⟨hk, hk.2⟩ : _ ∧ k_ ≠ gb130))) (fun _ hk => hk.2) (.string t124)) (fun _ hk => hk.2) (.slice Ao52 t125.length co52)) (fun _ hk => hk.2) (.int .i64 t128)) (fun _ h_ => h_.1))) hb); have _ := aM (Kd.V_below (by (with_reducible repeat (first | apply Kd.V_alloc | apply Kd.V_drewN | apply Kd.V_drew)); exact (Kd.V_mono (Kd.V_far (p := ⟨gb130, 2, none⟩) (Kd.V_far (p := ⟨gb130, 1, none⟩) (Kd.V_far (p := ⟨gb130, 0, none⟩) (Kd.V_mono HO_113001.out (fun k_ hk => (⟨hk, hk.2⟩ : _ ∧ k_ ≠ gb130))) (fun _ hk => hk.2) (.string t124)) (fun _ hk => hk.2) (.slice Ao52 t125.length co52)) (fun _ hk => hk.2) (.int .i64 t128)) (fun _ h_ => h_.1))) hb); have _ := aM (Kd.R_below (rZ (rF3 HO127.out BK130.out)) hb); have _ := aM (Kd.V_lower (Kd.V_mono (ok' := fun k_ => some k_ ≠ (.slice Ao52 t125.length co52 : Value).ownBlock ∧ k_ ≠ gb111 ∧ k_ ≠ gb112 ∧ k_ ≠ gb130) ho0 (fun k_ hk_ => ⟨(Kd.fresh' (Kd.R_lt (rZ (rF3 HO127.out BK130.out))) k_ hk_), (Kd.freshB (g := gb111) bkZ k_ hk_), (Kd.freshB (g := gb112) bkZ k_ hk_), (Kd.freshB (g := gb130) (o := .cells #[.string t124, .slice Ao52 t125.length co52, .int .i64 t128] 25 (0, 0)) bkZ k_ hk_)⟩)) (below_size hbZ)); have _ := bB gb111 hb; have _ := bB gb112 hb; have _ := aM (blk_below (g := gb130) (o := .cells #[.string t124, .slice Ao52 t125.length co52, .int .i64 t128] 25 (0, 0)) bkZ hb); have _ := aM (below_step hbZ hb); clear HO_5 HO_7 HO_112001 HO_113001 HO127 BK111 BK112 BK130 HB; rename_i HO_5 HO_7 HO_112001 HO_113001 HO127 HO133 BK111 BK112 BK130 HB; (try clear hb); (try clear ho0); have hcv54 := V_string (P := Tryd.prog) Tryd.underlying22 Tryd.underlying5 Tryd.underlying9 (HO_5.out); have hcv55 := V_string (P := Tryd.prog) Tryd.underlying22 Tryd.underlying5 Tryd.underlying9 (HO_7.out); have hcv56 := V_string (P := Tryd.prog) Tryd.underlying22 Tryd.underlying5 Tryd.underlying9 (HO_5.out); have hcv57 := V_string (P := Tryd.prog) Tryd.underlying22 Tryd.underlying5 Tryd.underlying9 (HO_7.out); have hcv58 := V_string (P := Tryd.prog) Tryd.underlying22 Tryd.underlying5 Tryd.underlying9 (HO133.out); have hcv59 := V_string (P := Tryd.prog) Tryd.underlying22 Tryd.underlying5 Tryd.underlying9 (HO_5.out); have hnb60 := NB111_112.out; have hnc60 := NB112_111.out; obtain ⟨hcz61_0, hcz61_1, hcz61_2, hfz61_0, hfz61_1, hfz61_2⟩ := cellsZ3 BK111.out; obtain ⟨hcz62_0, hcz62_1, hcz62_2, hfz62_0, hfz62_1, hfz62_2⟩ := cellsZ3 BK112.out) | (go_at_call 11; (with_reducible refine (impl_CompareKeys.calls kj29 t101 _ _ t102 t105 t106 _ _ t107 t110 t135 _ ?side1 ?side2 ?side3 ?side4 A45.out).mono ?_); (case side1 => exact (by repeat (first | exact (Kd.V_reads' HO_112001.out).2.2 | (with_reducible refine Kd.C_alloc ?_ _) | (with_reducible refine Kd.C_drewN ?_ _) | (with_reducible refine Kd.C_drew ?_)))); (case side2 => exact (Kd.V_reads' HO_112001.out).2.1); (case side3 => exact (by repeat (first | exact (Kd.V_reads' HO_113001.out).2.2 | (with_reducible refine Kd.C_alloc ?_ _) | (with_reducible refine Kd.C_drewN ?_ _) | (with_reducible refine Kd.C_drew ?_)))); (case side4 => exact (Kd.V_reads' HO_113001.out).2.1); rintro e w63 ⟨rfl, hb⟩; have _ := aM (Kd.V_below (vZ HO_5.out) hb); have _ := aM (Kd.V_below (vZ HO_7.out) hb); have _ := aM (Kd.V_below (vZ HO_112001.out) hb); have _ := aM (Kd.V_below (vZ HO_113001.out) hb); have _ := aM (Kd.R_below (rZ HO127.out) hb); have _ := aM (Kd.V_below (vZ HO133.out) hb); have _ := bB gb111 hb; have _ := bB gb112 hb; have _ := bB gb130 hb; have _ := aM (below_step hbZ hb); clear HO_5 HO_7 HO_112001 HO_113001 HO127 HO133 BK111 BK112 BK130 HB; rename_i HO_5 HO_7 HO_112001 HO_113001 HO127 HO133 BK111 BK112 BK130 HB; (try clear hb)))
                     go_ret
                     exact ⟨z674d, zcb41⟩
                   · rw [if_neg c44] at H
                     have c44b0 : ((strOfNums t131).toList == (strOfNums t113).toList) = false := beq_eq_false_iff_ne.mpr c44
                     have c44b1 : ((strOfNums t131).toList != (strOfNums t113).toList) = true := bne_iff_ne.mpr c44
                     obtain rfl := Option.some.inj H
                     obtain ⟨Ao64, co64, eo64⟩ := Kd.V_slice HO_5.out
                     subst eo64
                     go_wp2_with (first | ((with_reducible refine gate_callee (f := 12) rfl ?_); refine goesL_ (some 54) rfl rfl Tryd.func12 (by kernel_rfl) rfl #[.slice Ao64 t113.length co64] rfl zee81 ?_; (with_reducible refine (impl_ReadKey.calls kj29 _ _ t113 t124 t125 t128 true _ ?side1 ?side2 ?side3 A38.out).mono ?_); (case side1 => exact (by repeat (first | exact (Kd.V_reads' HO_5.out).2.2 | (with_reducible refine Kd.C_alloc ?_ _) | (with_reducible refine Kd.C_drewN ?_ _) | (with_reducible refine Kd.C_drew ?_)))); (case side2 => exact (Kd.V_reads' HO_5.out).2.1); (case side3 => exact TabM_.stays HTabM_.out hbZ); rintro e w65 ⟨v126, rfl, ho0, hb⟩; refine ⟨_, rfl, ?_⟩; have _ := aM (Kd.V_elder' (vZ HO_5.out) (Kd.R_base ho0) hb); have _ := aM (Kd.V_elder' (vZ HO_7.out) (Kd.R_base ho0) hb); have _ := aM (Kd.V_elder' (vZ HO_112001.out) (Kd.R_base ho0) hb); have _ := aM (Kd.V_elder' (vZ HO_113001.out) (Kd.R_base ho0) hb); have _ := aM (Kd.R_lower ho0 (below_size hbZ)); have _ := bB gb111 hb; have _ := bB gb112 hb; have _ := aM (below_step hbZ hb); clear HO_5 HO_7 HO_112001 HO_113001 BK111 BK112 HB; rename_i HO_5 HO_7 HO_112001 HO_113001 HO127 BK111 BK112 HB; (try clear hb); (try clear ho0)) | ((with_reducible refine gate_dst (N := 9) rfl ?_); refine box_event ?hg (N := 9) ?hd (cs := #[.string (⟨#[]⟩ : ByteArray), .slice none 0 0, .int .i64 0]) (t := 25) ?hr ?_; (case hd => rfl); (case hg => rfl); (case hr => first | (go_simp; done) | (go_simp; rfl)); intro gb130 hg w66 hbox hb; have _ := aM (Kd.V_below (Kd.V_elderB (vZ HO_5.out) gb130 (Nat.le_of_eq hg.symm)) hb); have _ := aM (Kd.V_below (Kd.V_elderB (vZ HO_7.out) gb130 (Nat.le_of_eq hg.symm)) hb); have _ := aM (Kd.V_below (Kd.V_elderB (vZ HO_112001.out) gb130 (Nat.le_of_eq hg.symm)) hb); have _ := aM (Kd.V_below (Kd.V_elderB (vZ HO_113001.out) gb130 (Nat.le_of_eq hg.symm)) hb); have _ := aM (Kd.R_below (rZ HO127.out) hb); have _ := bB gb111 hb; have _ := bB gb112 hb; have _ := aM (below_step hbZ hb); have _ := aM hbox; have _ := szZ hg; have _ := szZ hg; have ⟨_, _⟩ := nbB gb111 hg; have ⟨_, _⟩ := nbB gb112 hg; clear HO_5 HO_7 HO_112001 HO_113001 HO127 BK111 BK112 HB; rename_i HO_5 HO_7 HO_112001 HO_113001 HO127 BK111 BK112 HB BK130 GW130 GE130 NB111_130 NB130_111 NB112_130 NB130_112; clear hb hbox hg; have hnb67 := NB130_111.out; have hnc67 := NB111_130.out; have hnb68 := NB130_112.out; have hnc68 := NB112_130.out; obtain ⟨hcz69_0, hcz69_1, hcz69_2, hfz69_0, hfz69_1, hfz69_2⟩ := cellsZ3 BK130.out; obtain ⟨Ao70, co70, eo70⟩ := Kd.R_slice HO127.out; subst eo70) | ((with_reducible refine gate_callee (f := 9) rfl ?_); refine goesL_ (some 59) rfl rfl Tryd.func9 (by kernel_rfl) rfl #[.agg #[.string t124, .slice Ao70 t125.length co70, .int .i64 t128]] rfl zee81 ?_; (with_reducible refine (impl_KeyBytes.calls kj29 t124 _ _ t125 t128 t131 true _ ?side1 ?side2 A39.out).mono ?_); (case side1 => refine (Kd.R_reads' (e := 69) (base := w.heap.size) (ok := fun k_ => True) (n := t125.length) (c := co70) ?_).2.2; exact (rZ (rF3 HO127.out BK130.out))); (case side2 => exact (Kd.R_reads' HO127.out).2.1); rintro e w71 ⟨v132, rfl, ho0, hb⟩; refine ⟨_, rfl, ?_⟩; have _ := aM (Kd.V_below (by (with_reducible repeat (first | apply Kd.V_alloc | apply Kd.V_drewN | apply Kd.V_drew)); exact (Kd.V_mono (Kd.V_far (p := ⟨gb130, 2, none⟩) (Kd.V_far (p := ⟨gb130, 1, none⟩) (Kd.V_far (p := ⟨gb130, 0, none⟩) (Kd.V_mono HO_5.out (fun k_ hk => (⟨hk, hk.2⟩ : _ ∧ k_ ≠ gb130))) (fun _ hk => hk.2) (.string t124)) (fun _ hk => hk.2) (.slice Ao70 t125.length co70)) (fun _ hk => hk.2) (.int .i64 t128)) (fun _ h_ => h_.1))) hb); have _ := aM (Kd.V_below (by (with_reducible repeat (first | apply Kd.V_alloc | apply Kd.V_drewN | apply Kd.V_drew)); exact (Kd.V_mono (Kd.V_far (p := ⟨gb130, 2, none⟩) (Kd.V_far (p := ⟨gb130, 1, none⟩) (Kd.V_far (p := ⟨gb130, 0, none⟩) (Kd.V_mono HO_7.out (fun k_ hk => (⟨hk, hk.2⟩ : _ ∧ k_ ≠ gb130))) (fun _ hk => hk.2) (.string t124)) (fun _ hk => hk.2) (.slice Ao70 t125.length co70)) (fun _ hk => hk.2) (.int .i64 t128)) (fun _ h_ => h_.1))) hb); have _ := aM (Kd.V_below (by (with_reducible repeat (first | apply Kd.V_alloc | apply Kd.V_drewN | apply Kd.V_drew)); exact (Kd.V_mono (Kd.V_far (p := ⟨gb130, 2, none⟩) (Kd.V_far (p := ⟨gb130, 1, none⟩) (Kd.V_far (p := ⟨gb130, 0, none⟩) (Kd.V_mono HO_112001.out (fun k_ hk => (⟨hk, hk.2⟩ : _ ∧ k_ ≠ gb130))) (fun _ hk => hk.2) (.string t124)) (fun _ hk => hk.2) (.slice Ao70 t125.length co70)) (fun _ hk => hk.2) (.int .i64 t128)) (fun _ h_ => h_.1))) hb); have _ := aM (Kd.V_below (by (with_reducible repeat (first | apply Kd.V_alloc | apply Kd.V_drewN | apply Kd.V_drew)); exact (Kd.V_mono (Kd.V_far (p := ⟨gb130, 2, none⟩) (Kd.V_far (p := ⟨gb130, 1, none⟩) (Kd.V_far (p := ⟨gb130, 0, none⟩) (Kd.V_mono HO_113001.out (fun k_ hk => (⟨hk, hk.2⟩ : _ ∧ k_ ≠ gb130))) (fun _ hk => hk.2) (.string t124)) (fun _ hk => hk.2) (.slice Ao70 t125.length co70)) (fun _ hk => hk.2) (.int .i64 t128)) (fun _ h_ => h_.1))) hb); have _ := aM (Kd.R_below (rZ (rF3 HO127.out BK130.out)) hb); have _ := aM (Kd.V_lower (Kd.V_mono (ok' := fun k_ => some k_ ≠ (.slice Ao70 t125.length co70 : Value).ownBlock ∧ k_ ≠ gb111 ∧ k_ ≠ gb112 ∧ k_ ≠ gb130) ho0 (fun k_ hk_ => ⟨(Kd.fresh' (Kd.R_lt (rZ (rF3 HO127.out BK130.out))) k_ hk_), (Kd.freshB (g := gb111) bkZ k_ hk_), (Kd.freshB (g := gb112) bkZ k_ hk_), (Kd.freshB (g := gb130) (o := .cells #[.string t124, .slice Ao70 t125.length co70, .int .i64 t128] 25 (0, 0)) bkZ k_ hk_)⟩)) (below_size hbZ)); have _ := bB gb111 hb; have _ := bB gb112 hb; have _ := aM (blk_below (g := gb130) (o := .cells #[.string t124, .slice Ao70 t125.length co70, .int .i64 t128] 25 (0, 0)) bkZ hb); have _ := aM (below_step hbZ hb); clear HO_5 HO_7 HO_112001 HO_113001 HO127 BK111 BK112 BK130 HB; rename_i HO_5 HO_7 HO_112001 HO_113001 HO127 HO133 BK111 BK112 BK130 HB; (try clear hb); (try clear ho0); have hcv72 := V_string (P := Tryd.prog) Tryd.underlying22 Tryd.underlying5 Tryd.underlying9 (HO_5.out); have hcv73 := V_string (P := Tryd.prog) Tryd.underlying22 Tryd.underlying5 Tryd.underlying9 (HO_7.out); have hcv74 := V_string (P := Tryd.prog) Tryd.underlying22 Tryd.underlying5 Tryd.underlying9 (HO_5.out); have hcv75 := V_string (P := Tryd.prog) Tryd.underlying22 Tryd.underlying5 Tryd.underlying9 (HO_7.out); have hcv76 := V_string (P := Tryd.prog) Tryd.underlying22 Tryd.underlying5 Tryd.underlying9 (HO133.out); have hcv77 := V_string (P := Tryd.prog) Tryd.underlying22 Tryd.underlying5 Tryd.underlying9 (HO_5.out)))
                     go_ret
                     exact ⟨z674d, zcb41⟩
                 · replace c43 := Bool.eq_false_iff.mpr c43
                   subst c43
                   have H1 : (some false) = some r := by rw [if_neg (show ¬ (false = true) by decide)] at H; exact H
                   clear H
                   have H := H1
                   clear H1
                   obtain rfl := Option.some.inj H
                   obtain ⟨Ao78, co78, eo78⟩ := Kd.V_slice HO_5.out
                   subst eo78
                   go_wp2_with (first | ((with_reducible refine gate_callee (f := 12) rfl ?_); refine goesL_ (some 54) rfl rfl Tryd.func12 (by kernel_rfl) rfl #[.slice Ao78 t113.length co78] rfl zee81 ?_; (with_reducible refine (impl_ReadKey.calls kj29 _ _ t113 t124 t125 t128 true _ ?side1 ?side2 ?side3 A38.out).mono ?_); (case side1 => exact (by repeat (first | exact (Kd.V_reads' HO_5.out).2.2 | (with_reducible refine Kd.C_alloc ?_ _) | (with_reducible refine Kd.C_drewN ?_ _) | (with_reducible refine Kd.C_drew ?_)))); (case side2 => exact (Kd.V_reads' HO_5.out).2.1); (case side3 => exact TabM_.stays HTabM_.out hbZ); rintro e w79 ⟨v126, rfl, ho0, hb⟩; refine ⟨_, rfl, ?_⟩; have _ := aM (Kd.V_elder' (vZ HO_5.out) (Kd.R_base ho0) hb); have _ := aM (Kd.V_elder' (vZ HO_7.out) (Kd.R_base ho0) hb); have _ := aM (Kd.V_elder' (vZ HO_112001.out) (Kd.R_base ho0) hb); have _ := aM (Kd.V_elder' (vZ HO_113001.out) (Kd.R_base ho0) hb); have _ := aM (Kd.R_lower ho0 (below_size hbZ)); have _ := bB gb111 hb; have _ := bB gb112 hb; have _ := aM (below_step hbZ hb); clear HO_5 HO_7 HO_112001 HO_113001 BK111 BK112 HB; rename_i HO_5 HO_7 HO_112001 HO_113001 HO127 BK111 BK112 HB; (try clear hb); (try clear ho0)) | ((with_reducible refine gate_dst (N := 9) rfl ?_); refine box_event ?hg (N := 9) ?hd (cs := #[.string (⟨#[]⟩ : ByteArray), .slice none 0 0, .int .i64 0]) (t := 25) ?hr ?_; (case hd => rfl); (case hg => rfl); (case hr => first | (go_simp; done) | (go_simp; rfl)); intro gb130 hg w80 hbox hb; have _ := aM (Kd.V_below (Kd.V_elderB (vZ HO_5.out) gb130 (Nat.le_of_eq hg.symm)) hb); have _ := aM (Kd.V_below (Kd.V_elderB (vZ HO_7.out) gb130 (Nat.le_of_eq hg.symm)) hb); have _ := aM (Kd.V_below (Kd.V_elderB (vZ HO_112001.out) gb130 (Nat.le_of_eq hg.symm)) hb); have _ := aM (Kd.V_below (Kd.V_elderB (vZ HO_113001.out) gb130 (Nat.le_of_eq hg.symm)) hb); have _ := aM (Kd.R_below (rZ HO127.out) hb); have _ := bB gb111 hb; have _ := bB gb112 hb; have _ := aM (below_step hbZ hb); have _ := aM hbox; have _ := szZ hg; have _ := szZ hg; have ⟨_, _⟩ := nbB gb111 hg; have ⟨_, _⟩ := nbB gb112 hg; clear HO_5 HO_7 HO_112001 HO_113001 HO127 BK111 BK112 HB; rename_i HO_5 HO_7 HO_112001 HO_113001 HO127 BK111 BK112 HB BK130 GW130 GE130 NB111_130 NB130_111 NB112_130 NB130_112; clear hb hbox hg; have hnb81 := NB130_111.out; have hnc81 := NB111_130.out; have hnb82 := NB130_112.out; have hnc82 := NB112_130.out; obtain ⟨hcz83_0, hcz83_1, hcz83_2, hfz83_0, hfz83_1, hfz83_2⟩ := cellsZ3 BK130.out; obtain ⟨Ao84, co84, eo84⟩ := Kd.R_slice HO127.out; subst eo84) | ((with_reducible refine gate_callee (f := 9) rfl ?_); refine goesL_ (some 59) rfl rfl Tryd.func9 (by kernel_rfl) rfl #[.agg #[.string t124, .slice Ao84 t125.length co84, .int .i64 t128]] rfl zee81 ?_; (with_reducible refine (impl_KeyBytes.calls kj29 t124 _ _ t125 t128 t131 false _ ?side1 ?side2 A39.out).mono ?_); (case side1 => refine (Kd.R_reads' (e := 69) (base := w.heap.size) (ok := fun k_ => True) (n := t125.length) (c := co84) ?_).2.2; exact (rZ (rF3 HO127.out BK130.out))); (case side2 => exact (Kd.R_reads' HO127.out).2.1); rintro e w85 ⟨v132, rfl, ho0, hb⟩; refine ⟨_, rfl, ?_⟩; have _ := aM (Kd.V_below (by (with_reducible repeat (first | apply Kd.V_alloc | apply Kd.V_drewN | apply Kd.V_drew)); exact (Kd.V_mono (Kd.V_far (p := ⟨gb130, 2, none⟩) (Kd.V_far (p := ⟨gb130, 1, none⟩) (Kd.V_far (p := ⟨gb130, 0, none⟩) (Kd.V_mono HO_5.out (fun k_ hk => (⟨hk, hk.2⟩ : _ ∧ k_ ≠ gb130))) (fun _ hk => hk.2) (.string t124)) (fun _ hk => hk.2) (.slice Ao84 t125.length co84)) (fun _ hk => hk.2) (.int .i64 t128)) (fun _ h_ => h_.1))) hb); have _ := aM (Kd.V_below (by (with_reducible repeat (first | apply Kd.V_alloc | apply Kd.V_drewN | apply Kd.V_drew)); exact (Kd.V_mono (Kd.V_far (p := ⟨gb130, 2, none⟩) (Kd.V_far (p := ⟨gb130, 1, none⟩) (Kd.V_far (p := ⟨gb130, 0, none⟩) (Kd.V_mono HO_7.out (fun k_ hk => (⟨hk, hk.2⟩ : _ ∧ k_ ≠ gb130))) (fun _ hk => hk.2) (.string t124)) (fun _ hk => hk.2) (.slice Ao84 t125.length co84)) (fun _ hk => hk.2) (.int .i64 t128)) (fun _ h_ => h_.1))) hb); have _ := aM (Kd.V_below (by (with_reducible repeat (first | apply Kd.V_alloc | apply Kd.V_drewN | apply Kd.V_drew)); exact (Kd.V_mono (Kd.V_far (p := ⟨gb130, 2, none⟩) (Kd.V_far (p := ⟨gb130, 1, none⟩) (Kd.V_far (p := ⟨gb130, 0, none⟩) (Kd.V_mono HO_112001.out (fun k_ hk => (⟨hk, hk.2⟩ : _ ∧ k_ ≠ gb130))) (fun _ hk => hk.2) (.string t124)) (fun _ hk => hk.2) (.slice Ao84 t125.length co84)) (fun _ hk => hk.2) (.int .i64 t128)) (fun _ h_ => h_.1))) hb); have _ := aM (Kd.V_below (by (with_reducible repeat (first | apply Kd.V_alloc | apply Kd.V_drewN | apply Kd.V_drew)); exact (Kd.V_mono (Kd.V_far (p := ⟨gb130, 2, none⟩) (Kd.V_far (p := ⟨gb130, 1, none⟩) (Kd.V_far (p := ⟨gb130, 0, none⟩) (Kd.V_mono HO_113001.out (fun k_ hk => (⟨hk, hk.2⟩ : _ ∧ k_ ≠ gb130))) (fun _ hk => hk.2) (.string t124)) (fun _ hk => hk.2) (.slice Ao84 t125.length co84)) (fun _ hk => hk.2) (.int .i64 t128)) (fun _ h_ => h_.1))) hb); have _ := aM (Kd.R_below (rZ (rF3 HO127.out BK130.out)) hb); have _ := aM (Kd.V_lower (Kd.V_mono (ok' := fun k_ => some k_ ≠ (.slice Ao84 t125.length co84 : Value).ownBlock ∧ k_ ≠ gb111 ∧ k_ ≠ gb112 ∧ k_ ≠ gb130) ho0 (fun k_ hk_ => ⟨(Kd.fresh' (Kd.R_lt (rZ (rF3 HO127.out BK130.out))) k_ hk_), (Kd.freshB (g := gb111) bkZ k_ hk_), (Kd.freshB (g := gb112) bkZ k_ hk_), (Kd.freshB (g := gb130) (o := .cells #[.string t124, .slice Ao84 t125.length co84, .int .i64 t128] 25 (0, 0)) bkZ k_ hk_)⟩)) (below_size hbZ)); have _ := bB gb111 hb; have _ := bB gb112 hb; have _ := aM (blk_below (g := gb130) (o := .cells #[.string t124, .slice Ao84 t125.length co84, .int .i64 t128] 25 (0, 0)) bkZ hb); have _ := aM (below_step hbZ hb); clear HO_5 HO_7 HO_112001 HO_113001 HO127 BK111 BK112 BK130 HB; rename_i HO_5 HO_7 HO_112001 HO_113001 HO127 HO133 BK111 BK112 BK130 HB; (try clear hb); (try clear ho0); have hcv86 := V_string (P := Tryd.prog) Tryd.underlying22 Tryd.underlying5 Tryd.underlying9 (HO_5.out); have hcv87 := V_string (P := Tryd.prog) Tryd.underlying22 Tryd.underlying5 Tryd.underlying9 (HO_7.out); have hcv88 := V_string (P := Tryd.prog) Tryd.underlying22 Tryd.underlying5 Tryd.underlying9 (HO_5.out); have hcv89 := V_string (P := Tryd.prog) Tryd.underlying22 Tryd.underlying5 Tryd.underlying9 (HO_7.out)))
                   go_ret
                   exact ⟨z674d, zcb41⟩
               · replace c42 := Bool.eq_false_iff.mpr c42
                 subst c42
                 have H1 : (some false) = some r := by rw [if_neg (show ¬ (false = true) by decide)] at H; exact H
                 clear H
                 have H := H1
                 clear H1
                 obtain rfl := Option.some.inj H
                 obtain ⟨Ao90, co90, eo90⟩ := Kd.V_slice HO_5.out
                 subst eo90
                 go_wp2_with (first | ((with_reducible refine gate_callee (f := 12) rfl ?_); refine goesL_ (some 54) rfl rfl Tryd.func12 (by kernel_rfl) rfl #[.slice Ao90 t113.length co90] rfl zee81 ?_; (with_reducible refine (impl_ReadKey.calls kj29 _ _ t113 t124 t125 t128 false _ ?side1 ?side2 ?side3 A38.out).mono ?_); (case side1 => exact (by repeat (first | exact (Kd.V_reads' HO_5.out).2.2 | (with_reducible refine Kd.C_alloc ?_ _) | (with_reducible refine Kd.C_drewN ?_ _) | (with_reducible refine Kd.C_drew ?_)))); (case side2 => exact (Kd.V_reads' HO_5.out).2.1); (case side3 => exact TabM_.stays HTabM_.out hbZ); rintro e w91 ⟨v126, rfl, ho0, hb⟩; refine ⟨_, rfl, ?_⟩; have _ := aM (Kd.V_elder' (vZ HO_5.out) (Kd.R_base ho0) hb); have _ := aM (Kd.V_elder' (vZ HO_7.out) (Kd.R_base ho0) hb); have _ := aM (Kd.V_elder' (vZ HO_112001.out) (Kd.R_base ho0) hb); have _ := aM (Kd.V_elder' (vZ HO_113001.out) (Kd.R_base ho0) hb); have _ := aM (Kd.R_lower ho0 (below_size hbZ)); have _ := bB gb111 hb; have _ := bB gb112 hb; have _ := aM (below_step hbZ hb); clear HO_5 HO_7 HO_112001 HO_113001 BK111 BK112 HB; rename_i HO_5 HO_7 HO_112001 HO_113001 HO127 BK111 BK112 HB; (try clear hb); (try clear ho0)) | ((with_reducible refine gate_dst (N := 9) rfl ?_); refine box_event ?hg (N := 9) ?hd (cs := #[.string (⟨#[]⟩ : ByteArray), .slice none 0 0, .int .i64 0]) (t := 25) ?hr ?_; (case hd => rfl); (case hg => rfl); (case hr => first | (go_simp; done) | (go_simp; rfl)); intro gb130 hg w92 hbox hb; have _ := aM (Kd.V_below (Kd.V_elderB (vZ HO_5.out) gb130 (Nat.le_of_eq hg.symm)) hb); have _ := aM (Kd.V_below (Kd.V_elderB (vZ HO_7.out) gb130 (Nat.le_of_eq hg.symm)) hb); have _ := aM (Kd.V_below (Kd.V_elderB (vZ HO_112001.out) gb130 (Nat.le_of_eq hg.symm)) hb); have _ := aM (Kd.V_below (Kd.V_elderB (vZ HO_113001.out) gb130 (Nat.le_of_eq hg.symm)) hb); have _ := aM (Kd.R_below (rZ HO127.out) hb); have _ := bB gb111 hb; have _ := bB gb112 hb; have _ := aM (below_step hbZ hb); have _ := aM hbox; have _ := szZ hg; have _ := szZ hg; have ⟨_, _⟩ := nbB gb111 hg; have ⟨_, _⟩ := nbB gb112 hg; clear HO_5 HO_7 HO_112001 HO_113001 HO127 BK111 BK112 HB; rename_i HO_5 HO_7 HO_112001 HO_113001 HO127 BK111 BK112 HB BK130 GW130 GE130 NB111_130 NB130_111 NB112_130 NB130_112; clear hb hbox hg; have hnb93 := NB130_111.out; have hnc93 := NB111_130.out; have hnb94 := NB130_112.out; have hnc94 := NB112_130.out; obtain ⟨hcz95_0, hcz95_1, hcz95_2, hfz95_0, hfz95_1, hfz95_2⟩ := cellsZ3 BK130.out; obtain ⟨Ao96, co96, eo96⟩ := Kd.R_slice HO127.out; subst eo96) | ((with_reducible refine gate_callee (f := 9) rfl ?_); refine goesL_ (some 59) rfl rfl Tryd.func9 (by kernel_rfl) rfl #[.agg #[.string t124, .slice Ao96 t125.length co96, .int .i64 t128]] rfl zee81 ?_; (with_reducible refine (impl_KeyBytes.calls kj29 t124 _ _ t125 t128 t131 t134 _ ?side1 ?side2 A39.out).mono ?_); (case side1 => refine (Kd.R_reads' (e := 69) (base := w.heap.size) (ok := fun k_ => True) (n := t125.length) (c := co96) ?_).2.2; exact (rZ (rF3 HO127.out BK130.out))); (case side2 => exact (Kd.R_reads' HO127.out).2.1); rintro e w97 ⟨v132, rfl, ho0, hb⟩; refine ⟨_, rfl, ?_⟩; have _ := aM (Kd.V_below (by (with_reducible repeat (first | apply Kd.V_alloc | apply Kd.V_drewN | apply Kd.V_drew)); exact (Kd.V_mono (Kd.V_far (p := ⟨gb130, 2, none⟩) (Kd.V_far (p := ⟨gb130, 1, none⟩) (Kd.V_far (p := ⟨gb130, 0, none⟩) (Kd.V_mono HO_5.out (fun k_ hk => (⟨hk, hk.2⟩ : _ ∧ k_ ≠ gb130))) (fun _ hk => hk.2) (.string t124)) (fun _ hk => hk.2) (.slice Ao96 t125.length co96)) (fun _ hk => hk.2) (.int .i64 t128)) (fun _ h_ => h_.1))) hb); have _ := aM (Kd.V_below (by (with_reducible repeat (first | apply Kd.V_alloc | apply Kd.V_drewN | apply Kd.V_drew)); exact (Kd.V_mono (Kd.V_far (p := ⟨gb130, 2, none⟩) (Kd.V_far (p := ⟨gb130, 1, none⟩) (Kd.V_far (p := ⟨gb130, 0, none⟩) (Kd.V_mono HO_7.out (fun k_ hk => (⟨hk, hk.2⟩ : _ ∧ k_ ≠ gb130))) (fun _ hk => hk.2) (.string t124)) (fun _ hk => hk.2) (.slice Ao96 t125.length co96)) (fun _ hk => hk.2) (.int .i64 t128)) (fun _ h_ => h_.1))) hb); have _ := aM (Kd.V_below (by (with_reducible repeat (first | apply Kd.V_alloc | apply Kd.V_drewN | apply Kd.V_drew)); exact (Kd.V_mono (Kd.V_far (p := ⟨gb130, 2, none⟩) (Kd.V_far (p := ⟨gb130, 1, none⟩) (Kd.V_far (p := ⟨gb130, 0, none⟩) (Kd.V_mono HO_112001.out (fun k_ hk => (⟨hk, hk.2⟩ : _ ∧ k_ ≠ gb130))) (fun _ hk => hk.2) (.string t124)) (fun _ hk => hk.2) (.slice Ao96 t125.length co96)) (fun _ hk => hk.2) (.int .i64 t128)) (fun _ h_ => h_.1))) hb); have _ := aM (Kd.V_below (by (with_reducible repeat (first | apply Kd.V_alloc | apply Kd.V_drewN | apply Kd.V_drew)); exact (Kd.V_mono (Kd.V_far (p := ⟨gb130, 2, none⟩) (Kd.V_far (p := ⟨gb130, 1, none⟩) (Kd.V_far (p := ⟨gb130, 0, none⟩) (Kd.V_mono HO_113001.out (fun k_ hk => (⟨hk, hk.2⟩ : _ ∧ k_ ≠ gb130))) (fun _ hk => hk.2) (.string t124)) (fun _ hk => hk.2) (.slice Ao96 t125.length co96)) (fun _ hk => hk.2) (.int .i64 t128)) (fun _ h_ => h_.1))) hb); have _ := aM (Kd.R_below (rZ (rF3 HO127.out BK130.out)) hb); have _ := aM (Kd.V_lower (Kd.V_mono (ok' := fun k_ => some k_ ≠ (.slice Ao96 t125.length co96 : Value).ownBlock ∧ k_ ≠ gb111 ∧ k_ ≠ gb112 ∧ k_ ≠ gb130) ho0 (fun k_ hk_ => ⟨(Kd.fresh' (Kd.R_lt (rZ (rF3 HO127.out BK130.out))) k_ hk_), (Kd.freshB (g := gb111) bkZ k_ hk_), (Kd.freshB (g := gb112) bkZ k_ hk_), (Kd.freshB (g := gb130) (o := .cells #[.string t124, .slice Ao96 t125.length co96, .int .i64 t128] 25 (0, 0)) bkZ k_ hk_)⟩)) (below_size hbZ)); have _ := bB gb111 hb; have _ := bB gb112 hb; have _ := aM (blk_below (g := gb130) (o := .cells #[.string t124, .slice Ao96 t125.length co96, .int .i64 t128] 25 (0, 0)) bkZ hb); have _ := aM (below_step hbZ hb); clear HO_5 HO_7 HO_112001 HO_113001 HO127 BK111 BK112 BK130 HB; rename_i HO_5 HO_7 HO_112001 HO_113001 HO127 HO133 BK111 BK112 BK130 HB; (try clear hb); (try clear ho0); have hcv98 := V_string (P := Tryd.prog) Tryd.underlying22 Tryd.underlying5 Tryd.underlying9 (HO_5.out); have hcv99 := V_string (P := Tryd.prog) Tryd.underlying22 Tryd.underlying5 Tryd.underlying9 (HO_7.out); have hcv100 := V_string (P := Tryd.prog) Tryd.underlying22 Tryd.underlying5 Tryd.underlying9 (HO_5.out); have hcv101 := V_string (P := Tryd.prog) Tryd.underlying22 Tryd.underlying5 Tryd.underlying9 (HO_7.out)))
                 go_ret
                 exact ⟨z674d, zcb41⟩
             · rw [if_neg c41] at H
               have c41b0 : (Op.bytesLess ((strOfNums t117).toList) ((strOfNums t113).toList)) = false := by simpa using c41
               clear c41
               by_cases c102 : t129 = true
               · subst c102
                 have H1 : (if t134 = true then (if (strOfNums t131).toList = (strOfNums t113).toList then ((impl_CompareKeys.f kj29 t101 t102 t105 t106 t107 t110).bind fun t136 => (some (t136 == (-1)))) else (some false)) else (some false)) = some r := by rw [if_pos rfl] at H; exact H
                 clear H
                 have H := H1
                 clear H1
                 by_cases c103 : t134 = true
                 · subst c103
                   have H1 : (if (strOfNums t131).toList = (strOfNums t113).toList then ((impl_CompareKeys.f kj29 t101 t102 t105 t106 t107 t110).bind fun t136 => (some (t136 == (-1)))) else (some false)) = some r := by rw [if_pos rfl] at H; exact H
                   clear H
                   have H := H1
                   clear H1
                   by_cases c104 : (strOfNums t131).toList = (strOfNums t113).toList
                   · rw [if_pos c104] at H
                     have c104b0 : ((strOfNums t131).toList == (strOfNums t113).toList) = true := beq_iff_eq.mpr c104
                     have c104b1 : ((strOfNums t131).toList != (strOfNums t113).toList) = false := bne_eq_false_iff_eq.mpr c104
                     clear c104
                     replace H := Option.bind_eq_some_iff.mp H
                     obtain ⟨t136, A1050, H⟩ := H
                     try dsimp only at H
                     have A105 := aM A1050
                     clear A1050
                     obtain rfl := Option.some.inj H
                     obtain ⟨Ao106, co106, eo106⟩ := Kd.V_slice HO_5.out
                     subst eo106
                     go_wp2_with (first | ((with_reducible refine gate_callee (f := 12) rfl ?_); refine goesL_ (some 54) rfl rfl Tryd.func12 (by kernel_rfl) rfl #[.slice Ao106 t113.length co106] rfl zee81 ?_; (with_reducible refine (impl_ReadKey.calls kj29 _ _ t113 t124 t125 t128 true _ ?side1 ?side2 ?side3 A38.out).mono ?_); (case side1 => exact (by repeat (first | exact (Kd.V_reads' HO_5.out).2.2 | (with_reducible refine Kd.C_alloc ?_ _) | (with_reducible refine Kd.C_drewN ?_ _) | (with_reducible refine Kd.C_drew ?_)))); (case side2 => exact (Kd.V_reads' HO_5.out).2.1); (case side3 => exact TabM_.stays HTabM_.out hbZ); rintro e w107 ⟨v126, rfl, ho0, hb⟩; refine ⟨_, rfl, ?_⟩; have _ := aM (Kd.V_elder' (vZ HO_5.out) (Kd.R_base ho0) hb); have _ := aM (Kd.V_elder' (vZ HO_7.out) (Kd.R_base ho0) hb); have _ := aM (Kd.V_elder' (vZ HO_112001.out) (Kd.R_base ho0) hb); have _ := aM (Kd.V_elder' (vZ HO_113001.out) (Kd.R_base ho0) hb); have _ := aM (Kd.R_lower ho0 (below_size hbZ)); have _ := bB gb111 hb; have _ := bB gb112 hb; have _ := aM (below_step hbZ hb); clear HO_5 HO_7 HO_112001 HO_113001 BK111 BK112 HB; rename_i HO_5 HO_7 HO_112001 HO_113001 HO127 BK111 BK112 HB; (try clear hb); (try clear ho0)) | ((with_reducible refine gate_dst (N := 9) rfl ?_); refine box_event ?hg (N := 9) ?hd (cs := #[.string (⟨#[]⟩ : ByteArray), .slice none 0 0, .int .i64 0]) (t := 25) ?hr ?_; (case hd => rfl); (case hg => rfl); (case hr => first | (go_simp; done) | (go_simp; rfl)); intro gb130 hg w108 hbox hb; have _ := aM (Kd.V_below (Kd.V_elderB (vZ HO_5.out) gb130 (Nat.le_of_eq hg.symm)) hb); have _ := aM (Kd.V_below (Kd.V_elderB (vZ HO_7.out) gb130 (Nat.le_of_eq hg.symm)) hb); have _ := aM (Kd.V_below (Kd.V_elderB (vZ HO_112001.out) gb130 (Nat.le_of_eq hg.symm)) hb); have _ := aM (Kd.V_below (Kd.V_elderB (vZ HO_113001.out) gb130 (Nat.le_of_eq hg.symm)) hb); have _ := aM (Kd.R_below (rZ HO127.out) hb); have _ := bB gb111 hb; have _ := bB gb112 hb; have _ := aM (below_step hbZ hb); have _ := aM hbox; have _ := szZ hg; have _ := szZ hg; have ⟨_, _⟩ := nbB gb111 hg; have ⟨_, _⟩ := nbB gb112 hg; clear HO_5 HO_7 HO_112001 HO_113001 HO127 BK111 BK112 HB; rename_i HO_5 HO_7 HO_112001 HO_113001 HO127 BK111 BK112 HB BK130 GW130 GE130 NB111_130 NB130_111 NB112_130 NB130_112; clear hb hbox hg; have hnb109 := NB130_111.out; have hnc109 := NB111_130.out; have hnb110 := NB130_112.out; have hnc110 := NB112_130.out; obtain ⟨hcz111_0, hcz111_1, hcz111_2, hfz111_0, hfz111_1, hfz111_2⟩ := cellsZ3 BK130.out; obtain ⟨Ao112, co112, eo112⟩ := Kd.R_slice HO127.out; subst eo112) | ((with_reducible refine gate_callee (f := 9) rfl ?_); refine goesL_ (some 59) rfl rfl Tryd.func9 (by kernel_rfl) rfl #[.agg #[.string t124, .slice Ao112 t125.length co112, .int .i64 t128]] rfl zee81 ?_; (with_reducible refine (impl_KeyBytes.calls kj29 t124 _ _ t125 t128 t131 true _ ?side1 ?side2 A39.out).mono ?_); (case side1 => refine (Kd.R_reads' (e := 69) (base := w.heap.size) (ok := fun k_ => True) (n := t125.length) (c := co112) ?_).2.2; exact (rZ (rF3 HO127.out BK130.out))); (case side2 => exact (Kd.R_reads' HO127.out).2.1); rintro e w113 ⟨v132, rfl, ho0, hb⟩; refine ⟨_, rfl, ?_⟩; have _ := aM (Kd.V_below (by (with_reducible repeat (first | apply Kd.V_alloc | apply Kd.V_drewN | apply Kd.V_drew)); exact (Kd.V_mono (Kd.V_far (p := ⟨gb130, 2, none⟩) (Kd.V_far (p := ⟨gb130, 1, none⟩) (Kd.V_far (p := ⟨gb130, 0, none⟩) (Kd.V_mono HO_5.out (fun k_ hk => (⟨hk, hk.2⟩ : _ ∧ k_ ≠ gb130))) (fun _ hk => hk.2) (.string t124)) (fun _ hk => hk.2) (.slice Ao112 t125.length co112)) (fun _ hk => hk.2) (.int .i64 t128)) (fun _ h_ => h_.1))) hb); have _ := aM (Kd.V_below (by (with_reducible repeat (first | apply Kd.V_alloc | apply Kd.V_drewN | apply Kd.V_drew)); exact (Kd.V_mono (Kd.V_far (p := ⟨gb130, 2, none⟩) (Kd.V_far (p := ⟨gb130, 1, none⟩) (Kd.V_far (p := ⟨gb130, 0, none⟩) (Kd.V_mono HO_7.out (fun k_ hk => (⟨hk, hk.2⟩ : _ ∧ k_ ≠ gb130))) (fun _ hk => hk.2) (.string t124)) (fun _ hk => hk.2) (.slice Ao112 t125.length co112)) (fun _ hk => hk.2) (.int .i64 t128)) (fun _ h_ => h_.1))) hb); have _ := aM (Kd.V_below (by (with_reducible repeat (first | apply Kd.V_alloc | apply Kd.V_drewN | apply Kd.V_drew)); exact (Kd.V_mono (Kd.V_far (p := ⟨gb130, 2, none⟩) (Kd.V_far (p := ⟨gb130, 1, none⟩) (Kd.V_far (p := ⟨gb130, 0, none⟩) (Kd.V_mono HO_112001.out (fun k_ hk => (⟨hk, hk.2⟩ : _ ∧ k_ ≠ gb130))) (fun _ hk => hk.2) (.string t124)) (fun _ hk => hk.2) (.slice Ao112 t125.length co112)) (fun _ hk => hk.2) (.int .i64 t128)) (fun _ h_ => h_.1))) hb); have _ := aM (Kd.V_below (by (with_reducible repeat (first | apply Kd.V_alloc | apply Kd.V_drewN | apply Kd.V_drew)); exact (Kd.V_mono (Kd.V_far (p := ⟨gb130, 2, none⟩) (Kd.V_far (p := ⟨gb130, 1, none⟩) (Kd.V_far (p := ⟨gb130, 0, none⟩) (Kd.V_mono HO_113001.out (fun k_ hk => (⟨hk, hk.2⟩ : _ ∧ k_ ≠ gb130))) (fun _ hk => hk.2) (.string t124)) (fun _ hk => hk.2) (.slice Ao112 t125.length co112)) (fun _ hk => hk.2) (.int .i64 t128)) (fun _ h_ => h_.1))) hb); have _ := aM (Kd.R_below (rZ (rF3 HO127.out BK130.out)) hb); have _ := aM (Kd.V_lower (Kd.V_mono (ok' := fun k_ => some k_ ≠ (.slice Ao112 t125.length co112 : Value).ownBlock ∧ k_ ≠ gb111 ∧ k_ ≠ gb112 ∧ k_ ≠ gb130) ho0 (fun k_ hk_ => ⟨(Kd.fresh' (Kd.R_lt (rZ (rF3 HO127.out BK130.out))) k_ hk_), (Kd.freshB (g := gb111) bkZ k_ hk_), (Kd.freshB (g := gb112) bkZ k_ hk_), (Kd.freshB (g := gb130) (o := .cells #[.string t124, .slice Ao112 t125.length co112, .int .i64 t128] 25 (0, 0)) bkZ k_ hk_)⟩)) (below_size hbZ)); have _ := bB gb111 hb; have _ := bB gb112 hb; have _ := aM (blk_below (g := gb130) (o := .cells #[.string t124, .slice Ao112 t125.length co112, .int .i64 t128] 25 (0, 0)) bkZ hb); have _ := aM (below_step hbZ hb); clear HO_5 HO_7 HO_112001 HO_113001 HO127 BK111 BK112 BK130 HB; rename_i HO_5 HO_7 HO_112001 HO_113001 HO127 HO133 BK111 BK112 BK130 HB; (try clear hb); (try clear ho0); have hcv114 := V_string (P := Tryd.prog) Tryd.underlying22 Tryd.underlying5 Tryd.underlying9 (HO_5.out); have hcv115 := V_string (P := Tryd.prog) Tryd.underlying22 Tryd.underlying5 Tryd.underlying9 (HO_7.out); have hcv116 := V_string (P := Tryd.prog) Tryd.underlying22 Tryd.underlying5 Tryd.underlying9 (HO_5.out); have hcv117 := V_string (P := Tryd.prog) Tryd.underlying22 Tryd.underlying5 Tryd.underlying9 (HO_7.out); have hcv118 := V_string (P := Tryd.prog) Tryd.underlying22 Tryd.underlying5 Tryd.underlying9 (HO133.out); have hcv119 := V_string (P := Tryd.prog) Tryd.underlying22 Tryd.underlying5 Tryd.underlying9 (HO_5.out); have hnb120 := NB111_112.out; have hnc120 := NB112_111.out; obtain ⟨hcz121_0, hcz121_1, hcz121_2, hfz121_0, hfz121_1, hfz121_2⟩ := cellsZ3 BK111.out; obtain ⟨hcz122_0, hcz122_1, hcz122_2, hfz122_0, hfz122_1, hfz122_2⟩ := cellsZ3 BK112.out) | (go_at_call 11; (with_reducible refine (impl_CompareKeys.calls kj29 t101 _ _ t102 t105 t106 _ _ t107 t110 t136 _ ?side1 ?side2 ?side3 ?side4 A105.out).mono ?_); (case side1 => exact (by repeat (first | exact (Kd.V_reads' HO_112001.out).2.2 | (with_reducible refine Kd.C_alloc ?_ _) | (with_reducible refine Kd.C_drewN ?_ _) | (with_reducible refine Kd.C_drew ?_)))); (case side2 => exact (Kd.V_reads' HO_112001.out).2.1); (case side3 => exact (by repeat (first | exact (Kd.V_reads' HO_113001.out).2.2 | (with_reducible refine Kd.C_alloc ?_ _) | (with_reducible refine Kd.C_drewN ?_ _) | (with_reducible refine Kd.C_drew ?_)))); (case side4 => exact (Kd.V_reads' HO_113001.out).2.1); rintro e w123 ⟨rfl, hb⟩; have _ := aM (Kd.V_below (vZ HO_5.out) hb); have _ := aM (Kd.V_below (vZ HO_7.out) hb); have _ := aM (Kd.V_below (vZ HO_112001.out) hb); have _ := aM (Kd.V_below (vZ HO_113001.out) hb); have _ := aM (Kd.R_below (rZ HO127.out) hb); have _ := aM (Kd.V_below (vZ HO133.out) hb); have _ := bB gb111 hb; have _ := bB gb112 hb; have _ := bB gb130 hb; have _ := aM (below_step hbZ hb); clear HO_5 HO_7 HO_112001 HO_113001 HO127 HO133 BK111 BK112 BK130 HB; rename_i HO_5 HO_7 HO_112001 HO_113001 HO127 HO133 BK111 BK112 BK130 HB; (try clear hb)))
                     go_ret
                     exact ⟨z674d, zcb41⟩
                   · rw [if_neg c104] at H
                     have c104b0 : ((strOfNums t131).toList == (strOfNums t113).toList) = false := beq_eq_false_iff_ne.mpr c104
                     have c104b1 : ((strOfNums t131).toList != (strOfNums t113).toList) = true := bne_iff_ne.mpr c104
                     obtain rfl := Option.some.inj H
                     obtain ⟨Ao124, co124, eo124⟩ := Kd.V_slice HO_5.out
                     subst eo124
                     go_wp2_with (first | ((with_reducible refine gate_callee (f := 12) rfl ?_); refine goesL_ (some 54) rfl rfl Tryd.func12 (by kernel_rfl) rfl #[.slice Ao124 t113.length co124] rfl zee81 ?_; (with_reducible refine (impl_ReadKey.calls kj29 _ _ t113 t124 t125 t128 true _ ?side1 ?side2 ?side3 A38.out).mono ?_); (case side1 => exact (by repeat (first | exact (Kd.V_reads' HO_5.out).2.2 | (with_reducible refine Kd.C_alloc ?_ _) | (with_reducible refine Kd.C_drewN ?_ _) | (with_reducible refine Kd.C_drew ?_)))); (case side2 => exact (Kd.V_reads' HO_5.out).2.1); (case side3 => exact TabM_.stays HTabM_.out hbZ); rintro e w125 ⟨v126, rfl, ho0, hb⟩; refine ⟨_, rfl, ?_⟩; have _ := aM (Kd.V_elder' (vZ HO_5.out) (Kd.R_base ho0) hb); have _ := aM (Kd.V_elder' (vZ HO_7.out) (Kd.R_base ho0) hb); have _ := aM (Kd.V_elder' (vZ HO_112001.out) (Kd.R_base ho0) hb); have _ := aM (Kd.V_elder' (vZ HO_113001.out) (Kd.R_base ho0) hb); have _ := aM (Kd.R_lower ho0 (below_size hbZ)); have _ := bB gb111 hb; have _ := bB gb112 hb; have _ := aM (below_step hbZ hb); clear HO_5 HO_7 HO_112001 HO_113001 BK111 BK112 HB; rename_i HO_5 HO_7 HO_112001 HO_113001 HO127 BK111 BK112 HB; (try clear hb); (try clear ho0)) | ((with_reducible refine gate_dst (N := 9) rfl ?_); refine box_event ?hg (N := 9) ?hd (cs := #[.string (⟨#[]⟩ : ByteArray), .slice none 0 0, .int .i64 0]) (t := 25) ?hr ?_; (case hd => rfl); (case hg => rfl); (case hr => first | (go_simp; done) | (go_simp; rfl)); intro gb130 hg w126 hbox hb; have _ := aM (Kd.V_below (Kd.V_elderB (vZ HO_5.out) gb130 (Nat.le_of_eq hg.symm)) hb); have _ := aM (Kd.V_below (Kd.V_elderB (vZ HO_7.out) gb130 (Nat.le_of_eq hg.symm)) hb); have _ := aM (Kd.V_below (Kd.V_elderB (vZ HO_112001.out) gb130 (Nat.le_of_eq hg.symm)) hb); have _ := aM (Kd.V_below (Kd.V_elderB (vZ HO_113001.out) gb130 (Nat.le_of_eq hg.symm)) hb); have _ := aM (Kd.R_below (rZ HO127.out) hb); have _ := bB gb111 hb; have _ := bB gb112 hb; have _ := aM (below_step hbZ hb); have _ := aM hbox; have _ := szZ hg; have _ := szZ hg; have ⟨_, _⟩ := nbB gb111 hg; have ⟨_, _⟩ := nbB gb112 hg; clear HO_5 HO_7 HO_112001 HO_113001 HO127 BK111 BK112 HB; rename_i HO_5 HO_7 HO_112001 HO_113001 HO127 BK111 BK112 HB BK130 GW130 GE130 NB111_130 NB130_111 NB112_130 NB130_112; clear hb hbox hg; have hnb127 := NB130_111.out; have hnc127 := NB111_130.out; have hnb128 := NB130_112.out; have hnc128 := NB112_130.out; obtain ⟨hcz129_0, hcz129_1, hcz129_2, hfz129_0, hfz129_1, hfz129_2⟩ := cellsZ3 BK130.out; obtain ⟨Ao130, co130, eo130⟩ := Kd.R_slice HO127.out; subst eo130) | ((with_reducible refine gate_callee (f := 9) rfl ?_); refine goesL_ (some 59) rfl rfl Tryd.func9 (by kernel_rfl) rfl #[.agg #[.string t124, .slice Ao130 t125.length co130, .int .i64 t128]] rfl zee81 ?_; (with_reducible refine (impl_KeyBytes.calls kj29 t124 _ _ t125 t128 t131 true _ ?side1 ?side2 A39.out).mono ?_); (case side1 => refine (Kd.R_reads' (e := 69) (base := w.heap.size) (ok := fun k_ => True) (n := t125.length) (c := co130) ?_).2.2; exact (rZ (rF3 HO127.out BK130.out))); (case side2 => exact (Kd.R_reads' HO127.out).2.1); rintro e w131 ⟨v132, rfl, ho0, hb⟩; refine ⟨_, rfl, ?_⟩; have _ := aM (Kd.V_below (by (with_reducible repeat (first | apply Kd.V_alloc | apply Kd.V_drewN | apply Kd.V_drew)); exact (Kd.V_mono (Kd.V_far (p := ⟨gb130, 2, none⟩) (Kd.V_far (p := ⟨gb130, 1, none⟩) (Kd.V_far (p := ⟨gb130, 0, none⟩) (Kd.V_mono HO_5.out (fun k_ hk => (⟨hk, hk.2⟩ : _ ∧ k_ ≠ gb130))) (fun _ hk => hk.2) (.string t124)) (fun _ hk => hk.2) (.slice Ao130 t125.length co130)) (fun _ hk => hk.2) (.int .i64 t128)) (fun _ h_ => h_.1))) hb); have _ := aM (Kd.V_below (by (with_reducible repeat (first | apply Kd.V_alloc | apply Kd.V_drewN | apply Kd.V_drew)); exact (Kd.V_mono (Kd.V_far (p := ⟨gb130, 2, none⟩) (Kd.V_far (p := ⟨gb130, 1, none⟩) (Kd.V_far (p := ⟨gb130, 0, none⟩) (Kd.V_mono HO_7.out (fun k_ hk => (⟨hk, hk.2⟩ : _ ∧ k_ ≠ gb130))) (fun _ hk => hk.2) (.string t124)) (fun _ hk => hk.2) (.slice Ao130 t125.length co130)) (fun _ hk => hk.2) (.int .i64 t128)) (fun _ h_ => h_.1))) hb); have _ := aM (Kd.V_below (by (with_reducible repeat (first | apply Kd.V_alloc | apply Kd.V_drewN | apply Kd.V_drew)); exact (Kd.V_mono (Kd.V_far (p := ⟨gb130, 2, none⟩) (Kd.V_far (p := ⟨gb130, 1, none⟩) (Kd.V_far (p := ⟨gb130, 0, none⟩) (Kd.V_mono HO_112001.out (fun k_ hk => (⟨hk, hk.2⟩ : _ ∧ k_ ≠ gb130))) (fun _ hk => hk.2) (.string t124)) (fun _ hk => hk.2) (.slice Ao130 t125.length co130)) (fun _ hk => hk.2) (.int .i64 t128)) (fun _ h_ => h_.1))) hb); have _ := aM (Kd.V_below (by (with_reducible repeat (first | apply Kd.V_alloc | apply Kd.V_drewN | apply Kd.V_drew)); exact (Kd.V_mono (Kd.V_far (p := ⟨gb130, 2, none⟩) (Kd.V_far (p := ⟨gb130, 1, none⟩) (Kd.V_far (p := ⟨gb130, 0, none⟩) (Kd.V_mono HO_113001.out (fun k_ hk => (⟨hk, hk.2⟩ : _ ∧ k_ ≠ gb130))) (fun _ hk => hk.2) (.string t124)) (fun _ hk => hk.2) (.slice Ao130 t125.length co130)) (fun _ hk => hk.2) (.int .i64 t128)) (fun _ h_ => h_.1))) hb); have _ := aM (Kd.R_below (rZ (rF3 HO127.out BK130.out)) hb); have _ := aM (Kd.V_lower (Kd.V_mono (ok' := fun k_ => some k_ ≠ (.slice Ao130 t125.length co130 : Value).ownBlock ∧ k_ ≠ gb111 ∧ k_ ≠ gb112 ∧ k_ ≠ gb130) ho0 (fun k_ hk_ => ⟨(Kd.fresh' (Kd.R_lt (rZ (rF3 HO127.out BK130.out))) k_ hk_), (Kd.freshB (g := gb111) bkZ k_ hk_), (Kd.freshB (g := gb112) bkZ k_ hk_), (Kd.freshB (g := gb130) (o := .cells #[.string t124, .slice Ao130 t125.length co130, .int .i64 t128] 25 (0, 0)) bkZ k_ hk_)⟩)) (below_size hbZ)); have _ := bB gb111 hb; have _ := bB gb112 hb; have _ := aM (blk_below (g := gb130) (o := .cells #[.string t124, .slice Ao130 t125.length co130, .int .i64 t128] 25 (0, 0)) bkZ hb); have _ := aM (below_step hbZ hb); clear HO_5 HO_7 HO_112001 HO_113001 HO127 BK111 BK112 BK130 HB; rename_i HO_5 HO_7 HO_112001 HO_113001 HO127 HO133 BK111 BK112 BK130 HB; (try clear hb); (try clear ho0); have hcv132 := V_string (P := Tryd.prog) Tryd.underlying22 Tryd.underlying5 Tryd.underlying9 (HO_5.out); have hcv133 := V_string (P := Tryd.prog) Tryd.underlying22 Tryd.underlying5 Tryd.underlying9 (HO_7.out); have hcv134 := V_string (P := Tryd.prog) Tryd.underlying22 Tryd.underlying5 Tryd.underlying9 (HO_5.out); have hcv135 := V_string (P := Tryd.prog) Tryd.underlying22 Tryd.underlying5 Tryd.underlying9 (HO_7.out); have hcv136 := V_string (P := Tryd.prog) Tryd.underlying22 Tryd.underlying5 Tryd.underlying9 (HO133.out); have hcv137 := V_string (P := Tryd.prog) Tryd.underlying22 Tryd.underlying5 Tryd.underlying9 (HO_5.out)))
                     go_ret
                     exact ⟨z674d, zcb41⟩
                 · replace c103 := Bool.eq_false_iff.mpr c103
                   subst c103
                   have H1 : (some false) = some r := by rw [if_neg (show ¬ (false = true) by decide)] at H; exact H
                   clear H
                   have H := H1
                   clear H1
                   obtain rfl := Option.some.inj H
                   obtain ⟨Ao138, co138, eo138⟩ := Kd.V_slice HO_5.out
                   subst eo138
                   go_wp2_with (first | ((with_reducible refine gate_callee (f := 12) rfl ?_); refine goesL_ (some 54) rfl rfl Tryd.func12 (by kernel_rfl) rfl #[.slice Ao138 t113.length co138] rfl zee81 ?_; (with_reducible refine (impl_ReadKey.calls kj29 _ _ t113 t124 t125 t128 true _ ?side1 ?side2 ?side3 A38.out).mono ?_); (case side1 => exact (by repeat (first | exact (Kd.V_reads' HO_5.out).2.2 | (with_reducible refine Kd.C_alloc ?_ _) | (with_reducible refine Kd.C_drewN ?_ _) | (with_reducible refine Kd.C_drew ?_)))); (case side2 => exact (Kd.V_reads' HO_5.out).2.1); (case side3 => exact TabM_.stays HTabM_.out hbZ); rintro e w139 ⟨v126, rfl, ho0, hb⟩; refine ⟨_, rfl, ?_⟩; have _ := aM (Kd.V_elder' (vZ HO_5.out) (Kd.R_base ho0) hb); have _ := aM (Kd.V_elder' (vZ HO_7.out) (Kd.R_base ho0) hb); have _ := aM (Kd.V_elder' (vZ HO_112001.out) (Kd.R_base ho0) hb); have _ := aM (Kd.V_elder' (vZ HO_113001.out) (Kd.R_base ho0) hb); have _ := aM (Kd.R_lower ho0 (below_size hbZ)); have _ := bB gb111 hb; have _ := bB gb112 hb; have _ := aM (below_step hbZ hb); clear HO_5 HO_7 HO_112001 HO_113001 BK111 BK112 HB; rename_i HO_5 HO_7 HO_112001 HO_113001 HO127 BK111 BK112 HB; (try clear hb); (try clear ho0)) | ((with_reducible refine gate_dst (N := 9) rfl ?_); refine box_event ?hg (N := 9) ?hd (cs := #[.string (⟨#[]⟩ : ByteArray), .slice none 0 0, .int .i64 0]) (t := 25) ?hr ?_; (case hd => rfl); (case hg => rfl); (case hr => first | (go_simp; done) | (go_simp; rfl)); intro gb130 hg w140 hbox hb; have _ := aM (Kd.V_below (Kd.V_elderB (vZ HO_5.out) gb130 (Nat.le_of_eq hg.symm)) hb); have _ := aM (Kd.V_below (Kd.V_elderB (vZ HO_7.out) gb130 (Nat.le_of_eq hg.symm)) hb); have _ := aM (Kd.V_below (Kd.V_elderB (vZ HO_112001.out) gb130 (Nat.le_of_eq hg.symm)) hb); have _ := aM (Kd.V_below (Kd.V_elderB (vZ HO_113001.out) gb130 (Nat.le_of_eq hg.symm)) hb); have _ := aM (Kd.R_below (rZ HO127.out) hb); have _ := bB gb111 hb; have _ := bB gb112 hb; have _ := aM (below_step hbZ hb); have _ := aM hbox; have _ := szZ hg; have _ := szZ hg; have ⟨_, _⟩ := nbB gb111 hg; have ⟨_, _⟩ := nbB gb112 hg; clear HO_5 HO_7 HO_112001 HO_113001 HO127 BK111 BK112 HB; rename_i HO_5 HO_7 HO_112001 HO_113001 HO127 BK111 BK112 HB BK130 GW130 GE130 NB111_130 NB130_111 NB112_130 NB130_112; clear hb hbox hg; have hnb141 := NB130_111.out; have hnc141 := NB111_130.out; have hnb142 := NB130_112.out; have hnc142 := NB112_130.out; obtain ⟨hcz143_0, hcz143_1, hcz143_2, hfz143_0, hfz143_1, hfz143_2⟩ := cellsZ3 BK130.out; obtain ⟨Ao144, co144, eo144⟩ := Kd.R_slice HO127.out; subst eo144) | ((with_reducible refine gate_callee (f := 9) rfl ?_); refine goesL_ (some 59) rfl rfl Tryd.func9 (by kernel_rfl) rfl #[.agg #[.string t124, .slice Ao144 t125.length co144, .int .i64 t128]] rfl zee81 ?_; (with_reducible refine (impl_KeyBytes.calls kj29 t124 _ _ t125 t128 t131 false _ ?side1 ?side2 A39.out).mono ?_); (case side1 => refine (Kd.R_reads' (e := 69) (base := w.heap.size) (ok := fun k_ => True) (n := t125.length) (c := co144) ?_).2.2; exact (rZ (rF3 HO127.out BK130.out))); (case side2 => exact (Kd.R_reads' HO127.out).2.1); rintro e w145 ⟨v132, rfl, ho0, hb⟩; refine ⟨_, rfl, ?_⟩; have _ := aM (Kd.V_below (by (with_reducible repeat (first | apply Kd.V_alloc | apply Kd.V_drewN | apply Kd.V_drew)); exact (Kd.V_mono (Kd.V_far (p := ⟨gb130, 2, none⟩) (Kd.V_far (p := ⟨gb130, 1, none⟩) (Kd.V_far (p := ⟨gb130, 0, none⟩) (Kd.V_mono HO_5.out (fun k_ hk => (⟨hk, hk.2⟩ : _ ∧ k_ ≠ gb130))) (fun _ hk => hk.2) (.string t124)) (fun _ hk => hk.2) (.slice Ao144 t125.length co144)) (fun _ hk => hk.2) (.int .i64 t128)) (fun _ h_ => h_.1))) hb); have _ := aM (Kd.V_below (by (with_reducible repeat (first | apply Kd.V_alloc | apply Kd.V_drewN | apply Kd.V_drew)); exact (Kd.V_mono (Kd.V_far (p := ⟨gb130, 2, none⟩) (Kd.V_far (p := ⟨gb130, 1, none⟩) (Kd.V_far (p := ⟨gb130, 0, none⟩) (Kd.V_mono HO_7.out (fun k_ hk => (⟨hk, hk.2⟩ : _ ∧ k_ ≠ gb130))) (fun _ hk => hk.2) (.string t124)) (fun _ hk => hk.2) (.slice Ao144 t125.length co144)) (fun _ hk => hk.2) (.int .i64 t128)) (fun _ h_ => h_.1))) hb); have _ := aM (Kd.V_below (by (with_reducible repeat (first | apply Kd.V_alloc | apply Kd.V_drewN | apply Kd.V_drew)); exact (Kd.V_mono (Kd.V_far (p := ⟨gb130, 2, none⟩) (Kd.V_far (p := ⟨gb130, 1, none⟩) (Kd.V_far (p := ⟨gb130, 0, none⟩) (Kd.V_mono HO_112001.out (fun k_ hk => (⟨hk, hk.2⟩ : _ ∧ k_ ≠ gb130))) (fun _ hk => hk.2) (.string t124)) (fun _ hk => hk.2) (.slice Ao144 t125.length co144)) (fun _ hk => hk.2) (.int .i64 t128)) (fun _ h_ => h_.1))) hb); have _ := aM (Kd.V_below (by (with_reducible repeat (first | apply Kd.V_alloc | apply Kd.V_drewN | apply Kd.V_drew)); exact (Kd.V_mono (Kd.V_far (p := ⟨gb130, 2, none⟩) (Kd.V_far (p := ⟨gb130, 1, none⟩) (Kd.V_far (p := ⟨gb130, 0, none⟩) (Kd.V_mono HO_113001.out (fun k_ hk => (⟨hk, hk.2⟩ : _ ∧ k_ ≠ gb130))) (fun _ hk => hk.2) (.string t124)) (fun _ hk => hk.2) (.slice Ao144 t125.length co144)) (fun _ hk => hk.2) (.int .i64 t128)) (fun _ h_ => h_.1))) hb); have _ := aM (Kd.R_below (rZ (rF3 HO127.out BK130.out)) hb); have _ := aM (Kd.V_lower (Kd.V_mono (ok' := fun k_ => some k_ ≠ (.slice Ao144 t125.length co144 : Value).ownBlock ∧ k_ ≠ gb111 ∧ k_ ≠ gb112 ∧ k_ ≠ gb130) ho0 (fun k_ hk_ => ⟨(Kd.fresh' (Kd.R_lt (rZ (rF3 HO127.out BK130.out))) k_ hk_), (Kd.freshB (g := gb111) bkZ k_ hk_), (Kd.freshB (g := gb112) bkZ k_ hk_), (Kd.freshB (g := gb130) (o := .cells #[.string t124, .slice Ao144 t125.length co144, .int .i64 t128] 25 (0, 0)) bkZ k_ hk_)⟩)) (below_size hbZ)); have _ := bB gb111 hb; have _ := bB gb112 hb; have _ := aM (blk_below (g := gb130) (o := .cells #[.string t124, .slice Ao144 t125.length co144, .int .i64 t128] 25 (0, 0)) bkZ hb); have _ := aM (below_step hbZ hb); clear HO_5 HO_7 HO_112001 HO_113001 HO127 BK111 BK112 BK130 HB; rename_i HO_5 HO_7 HO_112001 HO_113001 HO127 HO133 BK111 BK112 BK130 HB; (try clear hb); (try clear ho0); have hcv146 := V_string (P := Tryd.prog) Tryd.underlying22 Tryd.underlying5 Tryd.underlying9 (HO_5.out); have hcv147 := V_string (P := Tryd.prog) Tryd.underlying22 Tryd.underlying5 Tryd.underlying9 (HO_7.out); have hcv148 := V_string (P := Tryd.prog) Tryd.underlying22 Tryd.underlying5 Tryd.underlying9 (HO_5.out); have hcv149 := V_string (P := Tryd.prog) Tryd.underlying22 Tryd.underlying5 Tryd.underlying9 (HO_7.out)))
                   go_ret
                   exact ⟨z674d, zcb41⟩
               · replace c102 := Bool.eq_false_iff.mpr c102
                 subst c102
                 have H1 : (some false) = some r := by rw [if_neg (show ¬ (false = true) by decide)] at H; exact H
                 clear H
                 have H := H1
                 clear H1
                 obtain rfl := Option.some.inj H
                 obtain ⟨Ao150, co150, eo150⟩ := Kd.V_slice HO_5.out
                 subst eo150
                 go_wp2_with (first | ((with_reducible refine gate_callee (f := 12) rfl ?_); refine goesL_ (some 54) rfl rfl Tryd.func12 (by kernel_rfl) rfl #[.slice Ao150 t113.length co150] rfl zee81 ?_; (with_reducible refine (impl_ReadKey.calls kj29 _ _ t113 t124 t125 t128 false _ ?side1 ?side2 ?side3 A38.out).mono ?_); (case side1 => exact (by repeat (first | exact (Kd.V_reads' HO_5.out).2.2 | (with_reducible refine Kd.C_alloc ?_ _) | (with_reducible refine Kd.C_drewN ?_ _) | (with_reducible refine Kd.C_drew ?_)))); (case side2 => exact (Kd.V_reads' HO_5.out).2.1); (case side3 => exact TabM_.stays HTabM_.out hbZ); rintro e w151 ⟨v126, rfl, ho0, hb⟩; refine ⟨_, rfl, ?_⟩; have _ := aM (Kd.V_elder' (vZ HO_5.out) (Kd.R_base ho0) hb); have _ := aM (Kd.V_elder' (vZ HO_7.out) (Kd.R_base ho0) hb); have _ := aM (Kd.V_elder' (vZ HO_112001.out) (Kd.R_base ho0) hb); have _ := aM (Kd.V_elder' (vZ HO_113001.out) (Kd.R_base ho0) hb); have _ := aM (Kd.R_lower ho0 (below_size hbZ)); have _ := bB gb111 hb; have _ := bB gb112 hb; have _ := aM (below_step hbZ hb); clear HO_5 HO_7 HO_112001 HO_113001 BK111 BK112 HB; rename_i HO_5 HO_7 HO_112001 HO_113001 HO127 BK111 BK112 HB; (try clear hb); (try clear ho0)) | ((with_reducible refine gate_dst (N := 9) rfl ?_); refine box_event ?hg (N := 9) ?hd (cs := #[.string (⟨#[]⟩ : ByteArray), .slice none 0 0, .int .i64 0]) (t := 25) ?hr ?_; (case hd => rfl); (case hg => rfl); (case hr => first | (go_simp; done) | (go_simp; rfl)); intro gb130 hg w152 hbox hb; have _ := aM (Kd.V_below (Kd.V_elderB (vZ HO_5.out) gb130 (Nat.le_of_eq hg.symm)) hb); have _ := aM (Kd.V_below (Kd.V_elderB (vZ HO_7.out) gb130 (Nat.le_of_eq hg.symm)) hb); have _ := aM (Kd.V_below (Kd.V_elderB (vZ HO_112001.out) gb130 (Nat.le_of_eq hg.symm)) hb); have _ := aM (Kd.V_below (Kd.V_elderB (vZ HO_113001.out) gb130 (Nat.le_of_eq hg.symm)) hb); have _ := aM (Kd.R_below (rZ HO127.out) hb); have _ := bB gb111 hb; have _ := bB gb112 hb; have _ := aM (below_step hbZ hb); have _ := aM hbox; have _ := szZ hg; have _ := szZ hg; have ⟨_, _⟩ := nbB gb111 hg; have ⟨_, _⟩ := nbB gb112 hg; clear HO_5 HO_7 HO_112001 HO_113001 HO127 BK111 BK112 HB; rename_i HO_5 HO_7 HO_112001 HO_113001 HO127 BK111 BK112 HB BK130 GW130 GE130 NB111_130 NB130_111 NB112_130 NB130_112; clear hb hbox hg; have hnb153 := NB130_111.out; have hnc153 := NB111_130.out; have hnb154 := NB130_112.out; have hnc154 := NB112_130.out; obtain ⟨hcz155_0, hcz155_1, hcz155_2, hfz155_0, hfz155_1, hfz155_2⟩ := cellsZ3 BK130.out; obtain ⟨Ao156, co156, eo156⟩ := Kd.R_slice HO127.out; subst eo156) | ((with_reducible refine gate_callee (f := 9) rfl ?_); refine goesL_ (some 59) rfl rfl Tryd.func9 (by kernel_rfl) rfl #[.agg #[.string t124, .slice Ao156 t125.length co156, .int .i64 t128]] rfl zee81 ?_; (with_reducible refine (impl_KeyBytes.calls kj29 t124 _ _ t125 t128 t131 t134 _ ?side1 ?side2 A39.out).mono ?_); (case side1 => refine (Kd.R_reads' (e := 69) (base := w.heap.size) (ok := fun k_ => True) (n := t125.length) (c := co156) ?_).2.2; exact (rZ (rF3 HO127.out BK130.out))); (case side2 => exact (Kd.R_reads' HO127.out).2.1); rintro e w157 ⟨v132, rfl, ho0, hb⟩; refine ⟨_, rfl, ?_⟩; have _ := aM (Kd.V_below (by (with_reducible repeat (first | apply Kd.V_alloc | apply Kd.V_drewN | apply Kd.V_drew)); exact (Kd.V_mono (Kd.V_far (p := ⟨gb130, 2, none⟩) (Kd.V_far (p := ⟨gb130, 1, none⟩) (Kd.V_far (p := ⟨gb130, 0, none⟩) (Kd.V_mono HO_5.out (fun k_ hk => (⟨hk, hk.2⟩ : _ ∧ k_ ≠ gb130))) (fun _ hk => hk.2) (.string t124)) (fun _ hk => hk.2) (.slice Ao156 t125.length co156)) (fun _ hk => hk.2) (.int .i64 t128)) (fun _ h_ => h_.1))) hb); have _ := aM (Kd.V_below (by (with_reducible repeat (first | apply Kd.V_alloc | apply Kd.V_drewN | apply Kd.V_drew)); exact (Kd.V_mono (Kd.V_far (p := ⟨gb130, 2, none⟩) (Kd.V_far (p := ⟨gb130, 1, none⟩) (Kd.V_far (p := ⟨gb130, 0, none⟩) (Kd.V_mono HO_7.out (fun k_ hk => (⟨hk, hk.2⟩ : _ ∧ k_ ≠ gb130))) (fun _ hk => hk.2) (.string t124)) (fun _ hk => hk.2) (.slice Ao156 t125.length co156)) (fun _ hk => hk.2) (.int .i64 t128)) (fun _ h_ => h_.1))) hb); have _ := aM (Kd.V_below (by (with_reducible repeat (first | apply Kd.V_alloc | apply Kd.V_drewN | apply Kd.V_drew)); exact (Kd.V_mono (Kd.V_far (p := ⟨gb130, 2, none⟩) (Kd.V_far (p := ⟨gb130, 1, none⟩) (Kd.V_far (p := ⟨gb130, 0, none⟩) (Kd.V_mono HO_112001.out (fun k_ hk => (⟨hk, hk.2⟩ : _ ∧ k_ ≠ gb130))) (fun _ hk => hk.2) (.string t124)) (fun _ hk => hk.2) (.slice Ao156 t125.length co156)) (fun _ hk => hk.2) (.int .i64 t128)) (fun _ h_ => h_.1))) hb); have _ := aM (Kd.V_below (by (with_reducible repeat (first | apply Kd.V_alloc | apply Kd.V_drewN | apply Kd.V_drew)); exact (Kd.V_mono (Kd.V_far (p := ⟨gb130, 2, none⟩) (Kd.V_far (p := ⟨gb130, 1, none⟩) (Kd.V_far (p := ⟨gb130, 0, none⟩) (Kd.V_mono HO_113001.out (fun k_ hk => (⟨hk, hk.2⟩ : _ ∧ k_ ≠ gb130))) (fun _ hk => hk.2) (.string t124)) (fun _ hk => hk.2) (.slice Ao156 t125.length co156)) (fun _ hk => hk.2) (.int .i64 t128)) (fun _ h_ => h_.1))) hb); have _ := aM (Kd.R_below (rZ (rF3 HO127.out BK130.out)) hb); have _ := aM (Kd.V_lower (Kd.V_mono (ok' := fun k_ => some k_ ≠ (.slice Ao156 t125.length co156 : Value).ownBlock ∧ k_ ≠ gb111 ∧ k_ ≠ gb112 ∧ k_ ≠ gb130) ho0 (fun k_ hk_ => ⟨(Kd.fresh' (Kd.R_lt (rZ (rF3 HO127.out BK130.out))) k_ hk_), (Kd.freshB (g := gb111) bkZ k_ hk_), (Kd.freshB (g := gb112) bkZ k_ hk_), (Kd.freshB (g := gb130) (o := .cells #[.string t124, .slice Ao156 t125.length co156, .int .i64 t128] 25 (0, 0)) bkZ k_ hk_)⟩)) (below_size hbZ)); have _ := bB gb111 hb; have _ := bB gb112 hb; have _ := aM (blk_below (g := gb130) (o := .cells #[.string t124, .slice Ao156 t125.length co156, .int .i64 t128] 25 (0, 0)) bkZ hb); have _ := aM (below_step hbZ hb); clear HO_5 HO_7 HO_112001 HO_113001 HO127 BK111 BK112 BK130 HB; rename_i HO_5 HO_7 HO_112001 HO_113001 HO127 HO133 BK111 BK112 BK130 HB; (try clear hb); (try clear ho0); have hcv158 := V_string (P := Tryd.prog) Tryd.underlying22 Tryd.underlying5 Tryd.underlying9 (HO_5.out); have hcv159 := V_string (P := Tryd.prog) Tryd.underlying22 Tryd.underlying5 Tryd.underlying9 (HO_7.out); have hcv160 := V_string (P := Tryd.prog) Tryd.underlying22 Tryd.underlying5 Tryd.underlying9 (HO_5.out); have hcv161 := V_string (P := Tryd.prog) Tryd.underlying22 Tryd.underlying5 Tryd.underlying9 (HO_7.out)))
                 go_ret
                 exact ⟨z674d, zcb41⟩
           · rw [if_neg c40] at H
             have c40b0 : (Op.bytesLess ((strOfNums t113).toList) ((strOfNums t117).toList)) = false := by simpa using c40
             clear c40
             by_cases c162 : (Op.bytesLess ((strOfNums t117).toList) ((strOfNums t113).toList)) = true
             · rw [if_pos c162] at H
               have c162b0 : (Op.bytesLess ((strOfNums t117).toList) ((strOfNums t113).toList)) = true := c162
               clear c162
               by_cases c163 : t129 = true
               · subst c163
                 have H1 : (if t134 = true then (if (strOfNums t131).toList = (strOfNums t113).toList then ((impl_CompareKeys.f kj29 t101 t102 t105 t106 t107 t110).bind fun t137 => (some (t137 == 1))) else (some false)) else (some false)) = some r := by rw [if_pos rfl] at H; exact H
                 clear H
                 have H := H1
                 clear H1
                 by_cases c164 : t134 = true
                 · subst c164
                   have H1 : (if (strOfNums t131).toList = (strOfNums t113).toList then ((impl_CompareKeys.f kj29 t101 t102 t105 t106 t107 t110).bind fun t137 => (some (t137 == 1))) else (some false)) = some r := by rw [if_pos rfl] at H; exact H
                   clear H
                   have H := H1
                   clear H1
                   by_cases c165 : (strOfNums t131).toList = (strOfNums t113).toList
                   · rw [if_pos c165] at H
                     have c165b0 : ((strOfNums t131).toList == (strOfNums t113).toList) = true := beq_iff_eq.mpr c165
                     have c165b1 : ((strOfNums t131).toList != (strOfNums t113).toList) = false := bne_eq_false_iff_eq.mpr c165
                     clear c165
                     replace H := Option.bind_eq_some_iff.mp H
                     obtain ⟨t137, A1660, H⟩ := H
                     try dsimp only at H
                     have A166 := aM A1660
                     clear A1660
                     obtain rfl := Option.some.inj H
                     obtain ⟨Ao167, co167, eo167⟩ := Kd.V_slice HO_5.out
                     subst eo167
                     go_wp2_with (first | ((with_reducible refine gate_callee (f := 12) rfl ?_); refine goesL_ (some 54) rfl rfl Tryd.func12 (by kernel_rfl) rfl #[.slice Ao167 t113.length co167] rfl zee81 ?_; (with_reducible refine (impl_ReadKey.calls kj29 _ _ t113 t124 t125 t128 true _ ?side1 ?side2 ?side3 A38.out).mono ?_); (case side1 => exact (by repeat (first | exact (Kd.V_reads' HO_5.out).2.2 | (with_reducible refine Kd.C_alloc ?_ _) | (with_reducible refine Kd.C_drewN ?_ _) | (with_reducible refine Kd.C_drew ?_)))); (case side2 => exact (Kd.V_reads' HO_5.out).2.1); (case side3 => exact TabM_.stays HTabM_.out hbZ); rintro e w168 ⟨v126, rfl, ho0, hb⟩; refine ⟨_, rfl, ?_⟩; have _ := aM (Kd.V_elder' (vZ HO_5.out) (Kd.R_base ho0) hb); have _ := aM (Kd.V_elder' (vZ HO_7.out) (Kd.R_base ho0) hb); have _ := aM (Kd.V_elder' (vZ HO_112001.out) (Kd.R_base ho0) hb); have _ := aM (Kd.V_elder' (vZ HO_113001.out) (Kd.R_base ho0) hb); have _ := aM (Kd.R_lower ho0 (below_size hbZ)); have _ := bB gb111 hb; have _ := bB gb112 hb; have _ := aM (below_step hbZ hb); clear HO_5 HO_7 HO_112001 HO_113001 BK111 BK112 HB; rename_i HO_5 HO_7 HO_112001 HO_113001 HO127 BK111 BK112 HB; (try clear hb); (try clear ho0)) | ((with_reducible refine gate_dst (N := 9) rfl ?_); refine box_event ?hg (N := 9) ?hd (cs := #[.string (⟨#[]⟩ : ByteArray), .slice none 0 0, .int .i64 0]) (t := 25) ?hr ?_; (case hd => rfl); (case hg => rfl); (case hr => first | (go_simp; done) | (go_simp; rfl)); intro gb130 hg w169 hbox hb; have _ := aM (Kd.V_below (Kd.V_elderB (vZ HO_5.out) gb130 (Nat.le_of_eq hg.symm)) hb); have _ := aM (Kd.V_below (Kd.V_elderB (vZ HO_7.out) gb130 (Nat.le_of_eq hg.symm)) hb); have _ := aM (Kd.V_below (Kd.V_elderB (vZ HO_112001.out) gb130 (Nat.le_of_eq hg.symm)) hb); have _ := aM (Kd.V_below (Kd.V_elderB (vZ HO_113001.out) gb130 (Nat.le_of_eq hg.symm)) hb); have _ := aM (Kd.R_below (rZ HO127.out) hb); have _ := bB gb111 hb; have _ := bB gb112 hb; have _ := aM (below_step hbZ hb); have _ := aM hbox; have _ := szZ hg; have _ := szZ hg; have ⟨_, _⟩ := nbB gb111 hg; have ⟨_, _⟩ := nbB gb112 hg; clear HO_5 HO_7 HO_112001 HO_113001 HO127 BK111 BK112 HB; rename_i HO_5 HO_7 HO_112001 HO_113001 HO127 BK111 BK112 HB BK130 GW130 GE130 NB111_130 NB130_111 NB112_130 NB130_112; clear hb hbox hg; have hnb170 := NB130_111.out; have hnc170 := NB111_130.out; have hnb171 := NB130_112.out; have hnc171 := NB112_130.out; obtain ⟨hcz172_0, hcz172_1, hcz172_2, hfz172_0, hfz172_1, hfz172_2⟩ := cellsZ3 BK130.out; obtain ⟨Ao173, co173, eo173⟩ := Kd.R_slice HO127.out; subst eo173) | ((with_reducible refine gate_callee (f := 9) rfl ?_); refine goesL_ (some 59) rfl rfl Tryd.func9 (by kernel_rfl) rfl #[.agg #[.string t124, .slice Ao173 t125.length co173, .int .i64 t128]] rfl zee81 ?_; (with_reducible refine (impl_KeyBytes.calls kj29 t124 _ _ t125 t128 t131 true _ ?side1 ?side2 A39.out).mono ?_); (case side1 => refine (Kd.R_reads' (e := 69) (base := w.heap.size) (ok := fun k_ => True) (n := t125.length) (c := co173) ?_).2.2; exact (rZ (rF3 HO127.out BK130.out))); (case side2 => exact (Kd.R_reads' HO127.out).2.1); rintro e w174 ⟨v132, rfl, ho0, hb⟩; refine ⟨_, rfl, ?_⟩; have _ := aM (Kd.V_below (by (with_reducible repeat (first | apply Kd.V_alloc | apply Kd.V_drewN | apply Kd.V_drew)); exact (Kd.V_mono (Kd.V_far (p := ⟨gb130, 2, none⟩) (Kd.V_far (p := ⟨gb130, 1, none⟩) (Kd.V_far (p := ⟨gb130, 0, none⟩) (Kd.V_mono HO_5.out (fun k_ hk => (⟨hk, hk.2⟩ : _ ∧ k_ ≠ gb130))) (fun _ hk => hk.2) (.string t124)) (fun _ hk => hk.2) (.slice Ao173 t125.length co173)) (fun _ hk => hk.2) (.int .i64 t128)) (fun _ h_ => h_.1))) hb); have _ := aM (Kd.V_below (by (with_reducible repeat (first | apply Kd.V_alloc | apply Kd.V_drewN | apply Kd.V_drew)); exact (Kd.V_mono (Kd.V_far (p := ⟨gb130, 2, none⟩) (Kd.V_far (p := ⟨gb130, 1, none⟩) (Kd.V_far (p := ⟨gb130, 0, none⟩) (Kd.V_mono HO_7.out (fun k_ hk => (⟨hk, hk.2⟩ : _ ∧ k_ ≠ gb130))) (fun _ hk => hk.2) (.string t124)) (fun _ hk => hk.2) (.slice Ao173 t125.length co173)) (fun _ hk => hk.2) (.int .i64 t128)) (fun _ h_ => h_.1))) hb); have _ := aM (Kd.V_below (by (with_reducible repeat (first | apply Kd.V_alloc | apply Kd.V_drewN | apply Kd.V_drew)); exact (Kd.V_mono (Kd.V_far (p := ⟨gb130, 2, none⟩) (Kd.V_far (p := ⟨gb130, 1, none⟩) (Kd.V_far (p := ⟨gb130, 0, none⟩) (Kd.V_mono HO_112001.out (fun k_ hk => (⟨hk, hk.2⟩ : _ ∧ k_ ≠ gb130))) (fun _ hk => hk.2) (.string t124)) (fun _ hk => hk.2) (.slice Ao173 t125.length co173)) (fun _ hk => hk.2) (.int .i64 t128)) (fun _ h_ => h_.1))) hb); have _ := aM (Kd.V_below (by (with_reducible repeat (first | apply Kd.V_alloc | apply Kd.V_drewN | apply Kd.V_drew)); exact (Kd.V_mono (Kd.V_far (p := ⟨gb130, 2, none⟩) (Kd.V_far (p := ⟨gb130, 1, none⟩) (Kd.V_far (p := ⟨gb130, 0, none⟩) (Kd.V_mono HO_113001.out (fun k_ hk => (⟨hk, hk.2⟩ : _ ∧ k_ ≠ gb130))) (fun _ hk => hk.2) (.string t124)) (fun _ hk => hk.2) (.slice Ao173 t125.length co173)) (fun _ hk => hk.2) (.int .i64 t128)) (fun _ h_ => h_.1))) hb); have _ := aM (Kd.R_below (rZ (rF3 HO127.out BK130.out)) hb); have _ := aM (Kd.V_lower (Kd.V_mono (ok' := fun k_ => some k_ ≠ (.slice Ao173 t125.length co173 : Value).ownBlock ∧ k_ ≠ gb111 ∧ k_ ≠ gb112 ∧ k_ ≠ gb130) ho0 (fun k_ hk_ => ⟨(Kd.fresh' (Kd.R_lt (rZ (rF3 HO127.out BK130.out))) k_ hk_), (Kd.freshB (g := gb111) bkZ k_ hk_), (Kd.freshB (g := gb112) bkZ k_ hk_), (Kd.freshB (g := gb130) (o := .cells #[.string t124, .slice Ao173 t125.length co173, .int .i64 t128] 25 (0, 0)) bkZ k_ hk_)⟩)) (below_size hbZ)); have _ := bB gb111 hb; have _ := bB gb112 hb; have _ := aM (blk_below (g := gb130) (o := .cells #[.string t124, .slice Ao173 t125.length co173, .int .i64 t128] 25 (0, 0)) bkZ hb); have _ := aM (below_step hbZ hb); clear HO_5 HO_7 HO_112001 HO_113001 HO127 BK111 BK112 BK130 HB; rename_i HO_5 HO_7 HO_112001 HO_113001 HO127 HO133 BK111 BK112 BK130 HB; (try clear hb); (try clear ho0); have hcv175 := V_string (P := Tryd.prog) Tryd.underlying22 Tryd.underlying5 Tryd.underlying9 (HO_5.out); have hcv176 := V_string (P := Tryd.prog) Tryd.underlying22 Tryd.underlying5 Tryd.underlying9 (HO_7.out); have hcv177 := V_string (P := Tryd.prog) Tryd.underlying22 Tryd.underlying5 Tryd.underlying9 (HO_5.out); have hcv178 := V_string (P := Tryd.prog) Tryd.underlying22 Tryd.underlying5 Tryd.underlying9 (HO_7.out); have hcv179 := V_string (P := Tryd.prog) Tryd.underlying22 Tryd.underlying5 Tryd.underlying9 (HO133.out); have hcv180 := V_string (P := Tryd.prog) Tryd.underlying22 Tryd.underlying5 Tryd.underlying9 (HO_5.out); have hnb181 := NB111_112.out; have hnc181 := NB112_111.out; obtain ⟨hcz182_0, hcz182_1, hcz182_2, hfz182_0, hfz182_1, hfz182_2⟩ := cellsZ3 BK111.out; obtain ⟨hcz183_0, hcz183_1, hcz183_2, hfz183_0, hfz183_1, hfz183_2⟩ := cellsZ3 BK112.out) | (go_at_call 11; (with_reducible refine (impl_CompareKeys.calls kj29 t101 _ _ t102 t105 t106 _ _ t107 t110 t137 _ ?side1 ?side2 ?side3 ?side4 A166.out).mono ?_); (case side1 => exact (by repeat (first | exact (Kd.V_reads' HO_112001.out).2.2 | (with_reducible refine Kd.C_alloc ?_ _) | (with_reducible refine Kd.C_drewN ?_ _) | (with_reducible refine Kd.C_drew ?_)))); (case side2 => exact (Kd.V_reads' HO_112001.out).2.1); (case side3 => exact (by repeat (first | exact (Kd.V_reads' HO_113001.out).2.2 | (with_reducible refine Kd.C_alloc ?_ _) | (with_reducible refine Kd.C_drewN ?_ _) | (with_reducible refine Kd.C_drew ?_)))); (case side4 => exact (Kd.V_reads' HO_113001.out).2.1); rintro e w184 ⟨rfl, hb⟩; have _ := aM (Kd.V_below (vZ HO_5.out) hb); have _ := aM (Kd.V_below (vZ HO_7.out) hb); have _ := aM (Kd.V_below (vZ HO_112001.out) hb); have _ := aM (Kd.V_below (vZ HO_113001.out) hb); have _ := aM (Kd.R_below (rZ HO127.out) hb); have _ := aM (Kd.V_below (vZ HO133.out) hb); have _ := bB gb111 hb; have _ := bB gb112 hb; have _ := bB gb130 hb; have _ := aM (below_step hbZ hb); clear HO_5 HO_7 HO_112001 HO_113001 HO127 HO133 BK111 BK112 BK130 HB; rename_i HO_5 HO_7 HO_112001 HO_113001 HO127 HO133 BK111 BK112 BK130 HB; (try clear hb)))
                     go_ret
                     exact ⟨z674d, zcb41⟩
                   · rw [if_neg c165] at H
                     have c165b0 : ((strOfNums t131).toList == (strOfNums t113).toList) = false := beq_eq_false_iff_ne.mpr c165
                     have c165b1 : ((strOfNums t131).toList != (strOfNums t113).toList) = true := bne_iff_ne.mpr c165
                     obtain rfl := Option.some.inj H
                     obtain ⟨Ao185, co185, eo185⟩ := Kd.V_slice HO_5.out
                     subst eo185
                     go_wp2_with (first | ((with_reducible refine gate_callee (f := 12) rfl ?_); refine goesL_ (some 54) rfl rfl Tryd.func12 (by kernel_rfl) rfl #[.slice Ao185 t113.length co185] rfl zee81 ?_; (with_reducible refine (impl_ReadKey.calls kj29 _ _ t113 t124 t125 t128 true _ ?side1 ?side2 ?side3 A38.out).mono ?_); (case side1 => exact (by repeat (first | exact (Kd.V_reads' HO_5.out).2.2 | (with_reducible refine Kd.C_alloc ?_ _) | (with_reducible refine Kd.C_drewN ?_ _) | (with_reducible refine Kd.C_drew ?_)))); (case side2 => exact (Kd.V_reads' HO_5.out).2.1); (case side3 => exact TabM_.stays HTabM_.out hbZ); rintro e w186 ⟨v126, rfl, ho0, hb⟩; refine ⟨_, rfl, ?_⟩; have _ := aM (Kd.V_elder' (vZ HO_5.out) (Kd.R_base ho0) hb); have _ := aM (Kd.V_elder' (vZ HO_7.out) (Kd.R_base ho0) hb); have _ := aM (Kd.V_elder' (vZ HO_112001.out) (Kd.R_base ho0) hb); have _ := aM (Kd.V_elder' (vZ HO_113001.out) (Kd.R_base ho0) hb); have _ := aM (Kd.R_lower ho0 (below_size hbZ)); have _ := bB gb111 hb; have _ := bB gb112 hb; have _ := aM (below_step hbZ hb); clear HO_5 HO_7 HO_112001 HO_113001 BK111 BK112 HB; rename_i HO_5 HO_7 HO_112001 HO_113001 HO127 BK111 BK112 HB; (try clear hb); (try clear ho0)) | ((with_reducible refine gate_dst (N := 9) rfl ?_); refine box_event ?hg (N := 9) ?hd (cs := #[.string (⟨#[]⟩ : ByteArray), .slice none 0 0, .int .i64 0]) (t := 25) ?hr ?_; (case hd => rfl); (case hg => rfl); (case hr => first | (go_simp; done) | (go_simp; rfl)); intro gb130 hg w187 hbox hb; have _ := aM (Kd.V_below (Kd.V_elderB (vZ HO_5.out) gb130 (Nat.le_of_eq hg.symm)) hb); have _ := aM (Kd.V_below (Kd.V_elderB (vZ HO_7.out) gb130 (Nat.le_of_eq hg.symm)) hb); have _ := aM (Kd.V_below (Kd.V_elderB (vZ HO_112001.out) gb130 (Nat.le_of_eq hg.symm)) hb); have _ := aM (Kd.V_below (Kd.V_elderB (vZ HO_113001.out) gb130 (Nat.le_of_eq hg.symm)) hb); have _ := aM (Kd.R_below (rZ HO127.out) hb); have _ := bB gb111 hb; have _ := bB gb112 hb; have _ := aM (below_step hbZ hb); have _ := aM hbox; have _ := szZ hg; have _ := szZ hg; have ⟨_, _⟩ := nbB gb111 hg; have ⟨_, _⟩ := nbB gb112 hg; clear HO_5 HO_7 HO_112001 HO_113001 HO127 BK111 BK112 HB; rename_i HO_5 HO_7 HO_112001 HO_113001 HO127 BK111 BK112 HB BK130 GW130 GE130 NB111_130 NB130_111 NB112_130 NB130_112; clear hb hbox hg; have hnb188 := NB130_111.out; have hnc188 := NB111_130.out; have hnb189 := NB130_112.out; have hnc189 := NB112_130.out; obtain ⟨hcz190_0, hcz190_1, hcz190_2, hfz190_0, hfz190_1, hfz190_2⟩ := cellsZ3 BK130.out; obtain ⟨Ao191, co191, eo191⟩ := Kd.R_slice HO127.out; subst eo191) | ((with_reducible refine gate_callee (f := 9) rfl ?_); refine goesL_ (some 59) rfl rfl Tryd.func9 (by kernel_rfl) rfl #[.agg #[.string t124, .slice Ao191 t125.length co191, .int .i64 t128]] rfl zee81 ?_; (with_reducible refine (impl_KeyBytes.calls kj29 t124 _ _ t125 t128 t131 true _ ?side1 ?side2 A39.out).mono ?_); (case side1 => refine (Kd.R_reads' (e := 69) (base := w.heap.size) (ok := fun k_ => True) (n := t125.length) (c := co191) ?_).2.2; exact (rZ (rF3 HO127.out BK130.out))); (case side2 => exact (Kd.R_reads' HO127.out).2.1); rintro e w192 ⟨v132, rfl, ho0, hb⟩; refine ⟨_, rfl, ?_⟩; have _ := aM (Kd.V_below (by (with_reducible repeat (first | apply Kd.V_alloc | apply Kd.V_drewN | apply Kd.V_drew)); exact (Kd.V_mono (Kd.V_far (p := ⟨gb130, 2, none⟩) (Kd.V_far (p := ⟨gb130, 1, none⟩) (Kd.V_far (p := ⟨gb130, 0, none⟩) (Kd.V_mono HO_5.out (fun k_ hk => (⟨hk, hk.2⟩ : _ ∧ k_ ≠ gb130))) (fun _ hk => hk.2) (.string t124)) (fun _ hk => hk.2) (.slice Ao191 t125.length co191)) (fun _ hk => hk.2) (.int .i64 t128)) (fun _ h_ => h_.1))) hb); have _ := aM (Kd.V_below (by (with_reducible repeat (first | apply Kd.V_alloc | apply Kd.V_drewN | apply Kd.V_drew)); exact (Kd.V_mono (Kd.V_far (p := ⟨gb130, 2, none⟩) (Kd.V_far (p := ⟨gb130, 1, none⟩) (Kd.V_far (p := ⟨gb130, 0, none⟩) (Kd.V_mono HO_7.out (fun k_ hk => (⟨hk, hk.2⟩ : _ ∧ k_ ≠ gb130))) (fun _ hk => hk.2) (.string t124)) (fun _ hk => hk.2) (.slice Ao191 t125.length co191)) (fun _ hk => hk.2) (.int .i64 t128)) (fun _ h_ => h_.1))) hb); have _ := aM (Kd.V_below (by (with_reducible repeat (first | apply Kd.V_alloc | apply Kd.V_drewN | apply Kd.V_drew)); exact (Kd.V_mono (Kd.V_far (p := ⟨gb130, 2, none⟩) (Kd.V_far (p := ⟨gb130, 1, none⟩) (Kd.V_far (p := ⟨gb130, 0, none⟩) (Kd.V_mono HO_112001.out (fun k_ hk => (⟨hk, hk.2⟩ : _ ∧ k_ ≠ gb130))) (fun _ hk => hk.2) (.string t124)) (fun _ hk => hk.2) (.slice Ao191 t125.length co191)) (fun _ hk => hk.2) (.int .i64 t128)) (fun _ h_ => h_.1))) hb); have _ := aM (Kd.V_below (by (with_reducible repeat (first | apply Kd.V_alloc | apply Kd.V_drewN | apply Kd.V_drew)); exact (Kd.V_mono (Kd.V_far (p := ⟨gb130, 2, none⟩) (Kd.V_far (p := ⟨gb130, 1, none⟩) (Kd.V_far (p := ⟨gb130, 0, none⟩) (Kd.V_mono HO_113001.out (fun k_ hk => (⟨hk, hk.2⟩ : _ ∧ k_ ≠ gb130))) (fun _ hk => hk.2) (.string t124)) (fun _ hk => hk.2) (.slice Ao191 t125.length co191)) (fun _ hk => hk.2) (.int .i64 t128)) (fun _ h_ => h_.1))) hb); have _ := aM (Kd.R_below (rZ (rF3 HO127.out BK130.out)) hb); have _ := aM (Kd.V_lower (Kd.V_mono (ok' := fun k_ => some k_ ≠ (.slice Ao191 t125.length co191 : Value).ownBlock ∧ k_ ≠ gb111 ∧ k_ ≠ gb112 ∧ k_ ≠ gb130) ho0 (fun k_ hk_ => ⟨(Kd.fresh' (Kd.R_lt (rZ (rF3 HO127.out BK130.out))) k_ hk_), (Kd.freshB (g := gb111) bkZ k_ hk_), (Kd.freshB (g := gb112) bkZ k_ hk_), (Kd.freshB (g := gb130) (o := .cells #[.string t124, .slice Ao191 t125.length co191, .int .i64 t128] 25 (0, 0)) bkZ k_ hk_)⟩)) (below_size hbZ)); have _ := bB gb111 hb; have _ := bB gb112 hb; have _ := aM (blk_below (g := gb130) (o := .cells #[.string t124, .slice Ao191 t125.length co191, .int .i64 t128] 25 (0, 0)) bkZ hb); have _ := aM (below_step hbZ hb); clear HO_5 HO_7 HO_112001 HO_113001 HO127 BK111 BK112 BK130 HB; rename_i HO_5 HO_7 HO_112001 HO_113001 HO127 HO133 BK111 BK112 BK130 HB; (try clear hb); (try clear ho0); have hcv193 := V_string (P := Tryd.prog) Tryd.underlying22 Tryd.underlying5 Tryd.underlying9 (HO_5.out); have hcv194 := V_string (P := Tryd.prog) Tryd.underlying22 Tryd.underlying5 Tryd.underlying9 (HO_7.out); have hcv195 := V_string (P := Tryd.prog) Tryd.underlying22 Tryd.underlying5 Tryd.underlying9 (HO_5.out); have hcv196 := V_string (P := Tryd.prog) Tryd.underlying22 Tryd.underlying5 Tryd.underlying9 (HO_7.out); have hcv197 := V_string (P := Tryd.prog) Tryd.underlying22 Tryd.underlying5 Tryd.underlying9 (HO133.out); have hcv198 := V_string (P := Tryd.prog) Tryd.underlying22 Tryd.underlying5 Tryd.underlying9 (HO_5.out)))
                     go_ret
                     exact ⟨z674d, zcb41⟩
                 · replace c164 := Bool.eq_false_iff.mpr c164
                   subst c164
                   have H1 : (some false) = some r := by rw [if_neg (show ¬ (false = true) by decide)] at H; exact H
                   clear H
                   have H := H1
                   clear H1
                   obtain rfl := Option.some.inj H
                   obtain ⟨Ao199, co199, eo199⟩ := Kd.V_slice HO_5.out
                   subst eo199
                   go_wp2_with (first | ((with_reducible refine gate_callee (f := 12) rfl ?_); refine goesL_ (some 54) rfl rfl Tryd.func12 (by kernel_rfl) rfl #[.slice Ao199 t113.length co199] rfl zee81 ?_; (with_reducible refine (impl_ReadKey.calls kj29 _ _ t113 t124 t125 t128 true _ ?side1 ?side2 ?side3 A38.out).mono ?_); (case side1 => exact (by repeat (first | exact (Kd.V_reads' HO_5.out).2.2 | (with_reducible refine Kd.C_alloc ?_ _) | (with_reducible refine Kd.C_drewN ?_ _) | (with_reducible refine Kd.C_drew ?_)))); (case side2 => exact (Kd.V_reads' HO_5.out).2.1); (case side3 => exact TabM_.stays HTabM_.out hbZ); rintro e w200 ⟨v126, rfl, ho0, hb⟩; refine ⟨_, rfl, ?_⟩; have _ := aM (Kd.V_elder' (vZ HO_5.out) (Kd.R_base ho0) hb); have _ := aM (Kd.V_elder' (vZ HO_7.out) (Kd.R_base ho0) hb); have _ := aM (Kd.V_elder' (vZ HO_112001.out) (Kd.R_base ho0) hb); have _ := aM (Kd.V_elder' (vZ HO_113001.out) (Kd.R_base ho0) hb); have _ := aM (Kd.R_lower ho0 (below_size hbZ)); have _ := bB gb111 hb; have _ := bB gb112 hb; have _ := aM (below_step hbZ hb); clear HO_5 HO_7 HO_112001 HO_113001 BK111 BK112 HB; rename_i HO_5 HO_7 HO_112001 HO_113001 HO127 BK111 BK112 HB; (try clear hb); (try clear ho0)) | ((with_reducible refine gate_dst (N := 9) rfl ?_); refine box_event ?hg (N := 9) ?hd (cs := #[.string (⟨#[]⟩ : ByteArray), .slice none 0 0, .int .i64 0]) (t := 25) ?hr ?_; (case hd => rfl); (case hg => rfl); (case hr => first | (go_simp; done) | (go_simp; rfl)); intro gb130 hg w201 hbox hb; have _ := aM (Kd.V_below (Kd.V_elderB (vZ HO_5.out) gb130 (Nat.le_of_eq hg.symm)) hb); have _ := aM (Kd.V_below (Kd.V_elderB (vZ HO_7.out) gb130 (Nat.le_of_eq hg.symm)) hb); have _ := aM (Kd.V_below (Kd.V_elderB (vZ HO_112001.out) gb130 (Nat.le_of_eq hg.symm)) hb); have _ := aM (Kd.V_below (Kd.V_elderB (vZ HO_113001.out) gb130 (Nat.le_of_eq hg.symm)) hb); have _ := aM (Kd.R_below (rZ HO127.out) hb); have _ := bB gb111 hb; have _ := bB gb112 hb; have _ := aM (below_step hbZ hb); have _ := aM hbox; have _ := szZ hg; have _ := szZ hg; have ⟨_, _⟩ := nbB gb111 hg; have ⟨_, _⟩ := nbB gb112 hg; clear HO_5 HO_7 HO_112001 HO_113001 HO127 BK111 BK112 HB; rename_i HO_5 HO_7 HO_112001 HO_113001 HO127 BK111 BK112 HB BK130 GW130 GE130 NB111_130 NB130_111 NB112_130 NB130_112; clear hb hbox hg; have hnb202 := NB130_111.out; have hnc202 := NB111_130.out; have hnb203 := NB130_112.out; have hnc203 := NB112_130.out; obtain ⟨hcz204_0, hcz204_1, hcz204_2, hfz204_0, hfz204_1, hfz204_2⟩ := cellsZ3 BK130.out; obtain ⟨Ao205, co205, eo205⟩ := Kd.R_slice HO127.out; subst eo205) | ((with_reducible refine gate_callee (f := 9) rfl ?_); refine goesL_ (some 59) rfl rfl Tryd.func9 (by kernel_rfl) rfl #[.agg #[.string t124, .slice Ao205 t125.length co205, .int .i64 t128]] rfl zee81 ?_; (with_reducible refine (impl_KeyBytes.calls kj29 t124 _ _ t125 t128 t131 false _ ?side1 ?side2 A39.out).mono ?_); (case side1 => refine (Kd.R_reads' (e := 69) (base := w.heap.size) (ok := fun k_ => True) (n := t125.length) (c := co205) ?_).2.2; exact (rZ (rF3 HO127.out BK130.out))); (case side2 => exact (Kd.R_reads' HO127.out).2.1); rintro e w206 ⟨v132, rfl, ho0, hb⟩; refine ⟨_, rfl, ?_⟩; have _ := aM (Kd.V_below (by (with_reducible repeat (first | apply Kd.V_alloc | apply Kd.V_drewN | apply Kd.V_drew)); exact (Kd.V_mono (Kd.V_far (p := ⟨gb130, 2, none⟩) (Kd.V_far (p := ⟨gb130, 1, none⟩) (Kd.V_far (p := ⟨gb130, 0, none⟩) (Kd.V_mono HO_5.out (fun k_ hk => (⟨hk, hk.2⟩ : _ ∧ k_ ≠ gb130))) (fun _ hk => hk.2) (.string t124)) (fun _ hk => hk.2) (.slice Ao205 t125.length co205)) (fun _ hk => hk.2) (.int .i64 t128)) (fun _ h_ => h_.1))) hb); have _ := aM (Kd.V_below (by (with_reducible repeat (first | apply Kd.V_alloc | apply Kd.V_drewN | apply Kd.V_drew)); exact (Kd.V_mono (Kd.V_far (p := ⟨gb130, 2, none⟩) (Kd.V_far (p := ⟨gb130, 1, none⟩) (Kd.V_far (p := ⟨gb130, 0, none⟩) (Kd.V_mono HO_7.out (fun k_ hk => (⟨hk, hk.2⟩ : _ ∧ k_ ≠ gb130))) (fun _ hk => hk.2) (.string t124)) (fun _ hk => hk.2) (.slice Ao205 t125.length co205)) (fun _ hk => hk.2) (.int .i64 t128)) (fun _ h_ => h_.1))) hb); have _ := aM (Kd.V_below (by (with_reducible repeat (first | apply Kd.V_alloc | apply Kd.V_drewN | apply Kd.V_drew)); exact (Kd.V_mono (Kd.V_far (p := ⟨gb130, 2, none⟩) (Kd.V_far (p := ⟨gb130, 1, none⟩) (Kd.V_far (p := ⟨gb130, 0, none⟩) (Kd.V_mono HO_112001.out (fun k_ hk => (⟨hk, hk.2⟩ : _ ∧ k_ ≠ gb130))) (fun _ hk => hk.2) (.string t124)) (fun _ hk => hk.2) (.slice Ao205 t125.length co205)) (fun _ hk => hk.2) (.int .i64 t128)) (fun _ h_ => h_.1))) hb); have _ := aM (Kd.V_below (by (with_reducible repeat (first | apply Kd.V_alloc | apply Kd.V_drewN | apply Kd.V_drew)); exact (Kd.V_mono (Kd.V_far (p := ⟨gb130, 2, none⟩) (Kd.V_far (p := ⟨gb130, 1, none⟩) (Kd.V_far (p := ⟨gb130, 0, none⟩) (Kd.V_mono HO_113001.out (fun k_ hk => (⟨hk, hk.2⟩ : _ ∧ k_ ≠ gb130))) (fun _ hk => hk.2) (.string t124)) (fun _ hk => hk.2) (.slice Ao205 t125.length co205)) (fun _ hk => hk.2) (.int .i64 t128)) (fun _ h_ => h_.1))) hb); have _ := aM (Kd.R_below (rZ (rF3 HO127.out BK130.out)) hb); have _ := aM (Kd.V_lower (Kd.V_mono (ok' := fun k_ => some k_ ≠ (.slice Ao205 t125.length co205 : Value).ownBlock ∧ k_ ≠ gb111 ∧ k_ ≠ gb112 ∧ k_ ≠ gb130) ho0 (fun k_ hk_ => ⟨(Kd.fresh' (Kd.R_lt (rZ (rF3 HO127.out BK130.out))) k_ hk_), (Kd.freshB (g := gb111) bkZ k_ hk_), (Kd.freshB (g := gb112) bkZ k_ hk_), (Kd.freshB (g := gb130) (o := .cells #[.string t124, .slice Ao205 t125.length co205, .int .i64 t128] 25 (0, 0)) bkZ k_ hk_)⟩)) (below_size hbZ)); have _ := bB gb111 hb; have _ := bB gb112 hb; have _ := aM (blk_below (g := gb130) (o := .cells #[.string t124, .slice Ao205 t125.length co205, .int .i64 t128] 25 (0, 0)) bkZ hb); have _ := aM (below_step hbZ hb); clear HO_5 HO_7 HO_112001 HO_113001 HO127 BK111 BK112 BK130 HB; rename_i HO_5 HO_7 HO_112001 HO_113001 HO127 HO133 BK111 BK112 BK130 HB; (try clear hb); (try clear ho0); have hcv207 := V_string (P := Tryd.prog) Tryd.underlying22 Tryd.underlying5 Tryd.underlying9 (HO_5.out); have hcv208 := V_string (P := Tryd.prog) Tryd.underlying22 Tryd.underlying5 Tryd.underlying9 (HO_7.out); have hcv209 := V_string (P := Tryd.prog) Tryd.underlying22 Tryd.underlying5 Tryd.underlying9 (HO_5.out); have hcv210 := V_string (P := Tryd.prog) Tryd.underlying22 Tryd.underlying5 Tryd.underlying9 (HO_7.out)))
                   go_ret
                   exact ⟨z674d, zcb41⟩
               · replace c163 := Bool.eq_false_iff.mpr c163
                 subst c163
                 have H1 : (some false) = some r := by rw [if_neg (show ¬ (false = true) by decide)] at H; exact H
                 clear H
                 have H := H1
                 clear H1
                 obtain rfl := Option.some.inj H
                 obtain ⟨Ao211, co211, eo211⟩ := Kd.V_slice HO_5.out
                 subst eo211
                 go_wp2_with (first | ((with_reducible refine gate_callee (f := 12) rfl ?_); refine goesL_ (some 54) rfl rfl Tryd.func12 (by kernel_rfl) rfl #[.slice Ao211 t113.length co211] rfl zee81 ?_; (with_reducible refine (impl_ReadKey.calls kj29 _ _ t113 t124 t125 t128 false _ ?side1 ?side2 ?side3 A38.out).mono ?_); (case side1 => exact (by repeat (first | exact (Kd.V_reads' HO_5.out).2.2 | (with_reducible refine Kd.C_alloc ?_ _) | (with_reducible refine Kd.C_drewN ?_ _) | (with_reducible refine Kd.C_drew ?_)))); (case side2 => exact (Kd.V_reads' HO_5.out).2.1); (case side3 => exact TabM_.stays HTabM_.out hbZ); rintro e w212 ⟨v126, rfl, ho0, hb⟩; refine ⟨_, rfl, ?_⟩; have _ := aM (Kd.V_elder' (vZ HO_5.out) (Kd.R_base ho0) hb); have _ := aM (Kd.V_elder' (vZ HO_7.out) (Kd.R_base ho0) hb); have _ := aM (Kd.V_elder' (vZ HO_112001.out) (Kd.R_base ho0) hb); have _ := aM (Kd.V_elder' (vZ HO_113001.out) (Kd.R_base ho0) hb); have _ := aM (Kd.R_lower ho0 (below_size hbZ)); have _ := bB gb111 hb; have _ := bB gb112 hb; have _ := aM (below_step hbZ hb); clear HO_5 HO_7 HO_112001 HO_113001 BK111 BK112 HB; rename_i HO_5 HO_7 HO_112001 HO_113001 HO127 BK111 BK112 HB; (try clear hb); (try clear ho0)) | ((with_reducible refine gate_dst (N := 9) rfl ?_); refine box_event ?hg (N := 9) ?hd (cs := #[.string (⟨#[]⟩ : ByteArray), .slice none 0 0, .int .i64 0]) (t := 25) ?hr ?_; (case hd => rfl); (case hg => rfl); (case hr => first | (go_simp; done) | (go_simp; rfl)); intro gb130 hg w213 hbox hb; have _ := aM (Kd.V_below (Kd.V_elderB (vZ HO_5.out) gb130 (Nat.le_of_eq hg.symm)) hb); have _ := aM (Kd.V_below (Kd.V_elderB (vZ HO_7.out) gb130 (Nat.le_of_eq hg.symm)) hb); have _ := aM (Kd.V_below (Kd.V_elderB (vZ HO_112001.out) gb130 (Nat.le_of_eq hg.symm)) hb); have _ := aM (Kd.V_below (Kd.V_elderB (vZ HO_113001.out) gb130 (Nat.le_of_eq hg.symm)) hb); have _ := aM (Kd.R_below (rZ HO127.out) hb); have _ := bB gb111 hb; have _ := bB gb112 hb; have _ := aM (below_step hbZ hb); have _ := aM hbox; have _ := szZ hg; have _ := szZ hg; have ⟨_, _⟩ := nbB gb111 hg; have ⟨_, _⟩ := nbB gb112 hg; clear HO_5 HO_7 HO_112001 HO_113001 HO127 BK111 BK112 HB; rename_i HO_5 HO_7 HO_112001 HO_113001 HO127 BK111 BK112 HB BK130 GW130 GE130 NB111_130 NB130_111 NB112_130 NB130_112; clear hb hbox hg; have hnb214 := NB130_111.out; have hnc214 := NB111_130.out; have hnb215 := NB130_112.out; have hnc215 := NB112_130.out; obtain ⟨hcz216_0, hcz216_1, hcz216_2, hfz216_0, hfz216_1, hfz216_2⟩ := cellsZ3 BK130.out; obtain ⟨Ao217, co217, eo217⟩ := Kd.R_slice HO127.out; subst eo217) | ((with_reducible refine gate_callee (f := 9) rfl ?_); refine goesL_ (some 59) rfl rfl Tryd.func9 (by kernel_rfl) rfl #[.agg #[.string t124, .slice Ao217 t125.length co217, .int .i64 t128]] rfl zee81 ?_; (with_reducible refine (impl_KeyBytes.calls kj29 t124 _ _ t125 t128 t131 t134 _ ?side1 ?side2 A39.out).mono ?_); (case side1 => refine (Kd.R_reads' (e := 69) (base := w.heap.size) (ok := fun k_ => True) (n := t125.length) (c := co217) ?_).2.2; exact (rZ (rF3 HO127.out BK130.out))); (case side2 => exact (Kd.R_reads' HO127.out).2.1); rintro e w218 ⟨v132, rfl, ho0, hb⟩; refine ⟨_, rfl, ?_⟩; have _ := aM (Kd.V_below (by (with_reducible repeat (first | apply Kd.V_alloc | apply Kd.V_drewN | apply Kd.V_drew)); exact (Kd.V_mono (Kd.V_far (p := ⟨gb130, 2, none⟩) (Kd.V_far (p := ⟨gb130, 1, none⟩) (Kd.V_far (p := ⟨gb130, 0, none⟩) (Kd.V_mono HO_5.out (fun k_ hk => (⟨hk, hk.2⟩ : _ ∧ k_ ≠ gb130))) (fun _ hk => hk.2) (.string t124)) (fun _ hk => hk.2) (.slice Ao217 t125.length co217)) (fun _ hk => hk.2) (.int .i64 t128)) (fun _ h_ => h_.1))) hb); have _ := aM (Kd.V_below (by (with_reducible repeat (first | apply Kd.V_alloc | apply Kd.V_drewN | apply Kd.V_drew)); exact (Kd.V_mono (Kd.V_far (p := ⟨gb130, 2, none⟩) (Kd.V_far (p := ⟨gb130, 1, none⟩) (Kd.V_far (p := ⟨gb130, 0, none⟩) (Kd.V_mono HO_7.out (fun k_ hk => (⟨hk, hk.2⟩ : _ ∧ k_ ≠ gb130))) (fun _ hk => hk.2) (.string t124)) (fun _ hk => hk.2) (.slice Ao217 t125.length co217)) (fun _ hk => hk.2) (.int .i64 t128)) (fun _ h_ => h_.1))) hb); have _ := aM (Kd.V_below (by (with_reducible repeat (first | apply Kd.V_alloc | apply Kd.V_drewN | apply Kd.V_drew)); exact (Kd.V_mono (Kd.V_far (p := ⟨gb130, 2, none⟩) (Kd.V_far (p := ⟨gb130, 1, none⟩) (Kd.V_far (p := ⟨gb130, 0, none⟩) (Kd.V_mono HO_112001.out (fun k_ hk => (⟨hk, hk.2⟩ : _ ∧ k_ ≠ gb130))) (fun _ hk => hk.2) (.string t124)) (fun _ hk => hk.2) (.slice Ao217 t125.length co217)) (fun _ hk => hk.2) (.int .i64 t128)) (fun _ h_ => h_.1))) hb); have _ := aM (Kd.V_below (by (with_reducible repeat (first | apply Kd.V_alloc | apply Kd.V_drewN | apply Kd.V_drew)); exact (Kd.V_mono (Kd.V_far (p := ⟨gb130, 2, none⟩) (Kd.V_far (p := ⟨gb130, 1, none⟩) (Kd.V_far (p := ⟨gb130, 0, none⟩) (Kd.V_mono HO_113001.out (fun k_ hk => (⟨hk, hk.2⟩ : _ ∧ k_ ≠ gb130))) (fun _ hk => hk.2) (.string t124)) (fun _ hk => hk.2) (.slice Ao217 t125.length co217)) (fun _ hk => hk.2) (.int .i64 t128)) (fun _ h_ => h_.1))) hb); have _ := aM (Kd.R_below (rZ (rF3 HO127.out BK130.out)) hb); have _ := aM (Kd.V_lower (Kd.V_mono (ok' := fun k_ => some k_ ≠ (.slice Ao217 t125.length co217 : Value).ownBlock ∧ k_ ≠ gb111 ∧ k_ ≠ gb112 ∧ k_ ≠ gb130) ho0 (fun k_ hk_ => ⟨(Kd.fresh' (Kd.R_lt (rZ (rF3 HO127.out BK130.out))) k_ hk_), (Kd.freshB (g := gb111) bkZ k_ hk_), (Kd.freshB (g := gb112) bkZ k_ hk_), (Kd.freshB (g := gb130) (o := .cells #[.string t124, .slice Ao217 t125.length co217, .int .i64 t128] 25 (0, 0)) bkZ k_ hk_)⟩)) (below_size hbZ)); have _ := bB gb111 hb; have _ := bB gb112 hb; have _ := aM (blk_below (g := gb130) (o := .cells #[.string t124, .slice Ao217 t125.length co217, .int .i64 t128] 25 (0, 0)) bkZ hb); have _ := aM (below_step hbZ hb); clear HO_5 HO_7 HO_112001 HO_113001 HO127 BK111 BK112 BK130 HB; rename_i HO_5 HO_7 HO_112001 HO_113001 HO127 HO133 BK111 BK112 BK130 HB; (try clear hb); (try clear ho0); have hcv219 := V_string (P := Tryd.prog) Tryd.underlying22 Tryd.underlying5 Tryd.underlying9 (HO_5.out); have hcv220 := V_string (P := Tryd.prog) Tryd.underlying22 Tryd.underlying5 Tryd.underlying9 (HO_7.out); have hcv221 := V_string (P := Tryd.prog) Tryd.underlying22 Tryd.underlying5 Tryd.underlying9 (HO_5.out); have hcv222 := V_string (P := Tryd.prog) Tryd.underlying22 Tryd.underlying5 Tryd.underlying9 (HO_7.out)))
                 go_ret
                 exact ⟨z674d, zcb41⟩
             · rw [if_neg c162] at H
               have c162b0 : (Op.bytesLess ((strOfNums t117).toList) ((strOfNums t113).toList)) = false := by simpa using c162
               clear c162
               by_cases c223 : t129 = true
               · subst c223
                 have H1 : (if t134 = true then (if (strOfNums t131).toList = (strOfNums t113).toList then ((impl_CompareKeys.f kj29 t101 t102 t105 t106 t107 t110).bind fun t138 => (some (t138 == 0))) else (some false)) else (some false)) = some r := by rw [if_pos rfl] at H; exact H
                 clear H
                 have H := H1
                 clear H1
                 by_cases c224 : t134 = true
                 · subst c224
                   have H1 : (if (strOfNums t131).toList = (strOfNums t113).toList then ((impl_CompareKeys.f kj29 t101 t102 t105 t106 t107 t110).bind fun t138 => (some (t138 == 0))) else (some false)) = some r := by rw [if_pos rfl] at H; exact H
                   clear H
                   have H := H1
                   clear H1
                   by_cases c225 : (strOfNums t131).toList = (strOfNums t113).toList
                   · rw [if_pos c225] at H
                     have c225b0 : ((strOfNums t131).toList == (strOfNums t113).toList) = true := beq_iff_eq.mpr c225
                     have c225b1 : ((strOfNums t131).toList != (strOfNums t113).toList) = false := bne_eq_false_iff_eq.mpr c225
                     clear c225
                     replace H := Option.bind_eq_some_iff.mp H
                     obtain ⟨t138, A2260, H⟩ := H
                     try dsimp only at H
                     have A226 := aM A2260
                     clear A2260
                     obtain rfl := Option.some.inj H
                     obtain ⟨Ao227, co227, eo227⟩ := Kd.V_slice HO_5.out
                     subst eo227
                     go_wp2_with (first | ((with_reducible refine gate_callee (f := 12) rfl ?_); refine goesL_ (some 54) rfl rfl Tryd.func12 (by kernel_rfl) rfl #[.slice Ao227 t113.length co227] rfl zee81 ?_; (with_reducible refine (impl_ReadKey.calls kj29 _ _ t113 t124 t125 t128 true _ ?side1 ?side2 ?side3 A38.out).mono ?_); (case side1 => exact (by repeat (first | exact (Kd.V_reads' HO_5.out).2.2 | (with_reducible refine Kd.C_alloc ?_ _) | (with_reducible refine Kd.C_drewN ?_ _) | (with_reducible refine Kd.C_drew ?_)))); (case side2 => exact (Kd.V_reads' HO_5.out).2.1); (case side3 => exact TabM_.stays HTabM_.out hbZ); rintro e w228 ⟨v126, rfl, ho0, hb⟩; refine ⟨_, rfl, ?_⟩; have _ := aM (Kd.V_elder' (vZ HO_5.out) (Kd.R_base ho0) hb); have _ := aM (Kd.V_elder' (vZ HO_7.out) (Kd.R_base ho0) hb); have _ := aM (Kd.V_elder' (vZ HO_112001.out) (Kd.R_base ho0) hb); have _ := aM (Kd.V_elder' (vZ HO_113001.out) (Kd.R_base ho0) hb); have _ := aM (Kd.R_lower ho0 (below_size hbZ)); have _ := bB gb111 hb; have _ := bB gb112 hb; have _ := aM (below_step hbZ hb); clear HO_5 HO_7 HO_112001 HO_113001 BK111 BK112 HB; rename_i HO_5 HO_7 HO_112001 HO_113001 HO127 BK111 BK112 HB; (try clear hb); (try clear ho0)) | ((with_reducible refine gate_dst (N := 9) rfl ?_); refine box_event ?hg (N := 9) ?hd (cs := #[.string (⟨#[]⟩ : ByteArray), .slice none 0 0, .int .i64 0]) (t := 25) ?hr ?_; (case hd => rfl); (case hg => rfl); (case hr => first | (go_simp; done) | (go_simp; rfl)); intro gb130 hg w229 hbox hb; have _ := aM (Kd.V_below (Kd.V_elderB (vZ HO_5.out) gb130 (Nat.le_of_eq hg.symm)) hb); have _ := aM (Kd.V_below (Kd.V_elderB (vZ HO_7.out) gb130 (Nat.le_of_eq hg.symm)) hb); have _ := aM (Kd.V_below (Kd.V_elderB (vZ HO_112001.out) gb130 (Nat.le_of_eq hg.symm)) hb); have _ := aM (Kd.V_below (Kd.V_elderB (vZ HO_113001.out) gb130 (Nat.le_of_eq hg.symm)) hb); have _ := aM (Kd.R_below (rZ HO127.out) hb); have _ := bB gb111 hb; have _ := bB gb112 hb; have _ := aM (below_step hbZ hb); have _ := aM hbox; have _ := szZ hg; have _ := szZ hg; have ⟨_, _⟩ := nbB gb111 hg; have ⟨_, _⟩ := nbB gb112 hg; clear HO_5 HO_7 HO_112001 HO_113001 HO127 BK111 BK112 HB; rename_i HO_5 HO_7 HO_112001 HO_113001 HO127 BK111 BK112 HB BK130 GW130 GE130 NB111_130 NB130_111 NB112_130 NB130_112; clear hb hbox hg; have hnb230 := NB130_111.out; have hnc230 := NB111_130.out; have hnb231 := NB130_112.out; have hnc231 := NB112_130.out; obtain ⟨hcz232_0, hcz232_1, hcz232_2, hfz232_0, hfz232_1, hfz232_2⟩ := cellsZ3 BK130.out; obtain ⟨Ao233, co233, eo233⟩ := Kd.R_slice HO127.out; subst eo233) | ((with_reducible refine gate_callee (f := 9) rfl ?_); refine goesL_ (some 59) rfl rfl Tryd.func9 (by kernel_rfl) rfl #[.agg #[.string t124, .slice Ao233 t125.length co233, .int .i64 t128]] rfl zee81 ?_; (with_reducible refine (impl_KeyBytes.calls kj29 t124 _ _ t125 t128 t131 true _ ?side1 ?side2 A39.out).mono ?_); (case side1 => refine (Kd.R_reads' (e := 69) (base := w.heap.size) (ok := fun k_ => True) (n := t125.length) (c := co233) ?_).2.2; exact (rZ (rF3 HO127.out BK130.out))); (case side2 => exact (Kd.R_reads' HO127.out).2.1); rintro e w234 ⟨v132, rfl, ho0, hb⟩; refine ⟨_, rfl, ?_⟩; have _ := aM (Kd.V_below (by (with_reducible repeat (first | apply Kd.V_alloc | apply Kd.V_drewN | apply Kd.V_drew)); exact (Kd.V_mono (Kd.V_far (p := ⟨gb130, 2, none⟩) (Kd.V_far (p := ⟨gb130, 1, none⟩) (Kd.V_far (p := ⟨gb130, 0, none⟩) (Kd.V_mono HO_5.out (fun k_ hk => (⟨hk, hk.2⟩ : _ ∧ k_ ≠ gb130))) (fun _ hk => hk.2) (.string t124)) (fun _ hk => hk.2) (.slice Ao233 t125.length co233)) (fun _ hk => hk.2) (.int .i64 t128)) (fun _ h_ => h_.1))) hb); have _ := aM (Kd.V_below (by (with_reducible repeat (first | apply Kd.V_alloc | apply Kd.V_drewN | apply Kd.V_drew)); exact (Kd.V_mono (Kd.V_far (p := ⟨gb130, 2, none⟩) (Kd.V_far (p := ⟨gb130, 1, none⟩) (Kd.V_far (p := ⟨gb130, 0, none⟩) (Kd.V_mono HO_7.out (fun k_ hk => (⟨hk, hk.2⟩ : _ ∧ k_ ≠ gb130))) (fun _ hk => hk.2) (.string t124)) (fun _ hk => hk.2) (.slice Ao233 t125.length co233)) (fun _ hk => hk.2) (.int .i64 t128)) (fun _ h_ => h_.1))) hb); have _ := aM (Kd.V_below (by (with_reducible repeat (first | apply Kd.V_alloc | apply Kd.V_drewN | apply Kd.V_drew)); exact (Kd.V_mono (Kd.V_far (p := ⟨gb130, 2, none⟩) (Kd.V_far (p := ⟨gb130, 1, none⟩) (Kd.V_far (p := ⟨gb130, 0, none⟩) (Kd.V_mono HO_112001.out (fun k_ hk => (⟨hk, hk.2⟩ : _ ∧ k_ ≠ gb130))) (fun _ hk => hk.2) (.string t124)) (fun _ hk => hk.2) (.slice Ao233 t125.length co233)) (fun _ hk => hk.2) (.int .i64 t128)) (fun _ h_ => h_.1))) hb); have _ := aM (Kd.V_below (by (with_reducible repeat (first | apply Kd.V_alloc | apply Kd.V_drewN | apply Kd.V_drew)); exact (Kd.V_mono (Kd.V_far (p := ⟨gb130, 2, none⟩) (Kd.V_far (p := ⟨gb130, 1, none⟩) (Kd.V_far (p := ⟨gb130, 0, none⟩) (Kd.V_mono HO_113001.out (fun k_ hk => (⟨hk, hk.2⟩ : _ ∧ k_ ≠ gb130))) (fun _ hk => hk.2) (.string t124)) (fun _ hk => hk.2) (.slice Ao233 t125.length co233)) (fun _ hk => hk.2) (.int .i64 t128)) (fun _ h_ => h_.1))) hb); have _ := aM (Kd.R_below (rZ (rF3 HO127.out BK130.out)) hb); have _ := aM (Kd.V_lower (Kd.V_mono (ok' := fun k_ => some k_ ≠ (.slice Ao233 t125.length co233 : Value).ownBlock ∧ k_ ≠ gb111 ∧ k_ ≠ gb112 ∧ k_ ≠ gb130) ho0 (fun k_ hk_ => ⟨(Kd.fresh' (Kd.R_lt (rZ (rF3 HO127.out BK130.out))) k_ hk_), (Kd.freshB (g := gb111) bkZ k_ hk_), (Kd.freshB (g := gb112) bkZ k_ hk_), (Kd.freshB (g := gb130) (o := .cells #[.string t124, .slice Ao233 t125.length co233, .int .i64 t128] 25 (0, 0)) bkZ k_ hk_)⟩)) (below_size hbZ)); have _ := bB gb111 hb; have _ := bB gb112 hb; have _ := aM (blk_below (g := gb130) (o := .cells #[.string t124, .slice Ao233 t125.length co233, .int .i64 t128] 25 (0, 0)) bkZ hb); have _ := aM (below_step hbZ hb); clear HO_5 HO_7 HO_112001 HO_113001 HO127 BK111 BK112 BK130 HB; rename_i HO_5 HO_7 HO_112001 HO_113001 HO127 HO133 BK111 BK112 BK130 HB; (try clear hb); (try clear ho0); have hcv235 := V_string (P := Tryd.prog) Tryd.underlying22 Tryd.underlying5 Tryd.underlying9 (HO_5.out); have hcv236 := V_string (P := Tryd.prog) Tryd.underlying22 Tryd.underlying5 Tryd.underlying9 (HO_7.out); have hcv237 := V_string (P := Tryd.prog) Tryd.underlying22 Tryd.underlying5 Tryd.underlying9 (HO_5.out); have hcv238 := V_string (P := Tryd.prog) Tryd.underlying22 Tryd.underlying5 Tryd.underlying9 (HO_7.out); have hcv239 := V_string (P := Tryd.prog) Tryd.underlying22 Tryd.underlying5 Tryd.underlying9 (HO133.out); have hcv240 := V_string (P := Tryd.prog) Tryd.underlying22 Tryd.underlying5 Tryd.underlying9 (HO_5.out); have hnb241 := NB111_112.out; have hnc241 := NB112_111.out; obtain ⟨hcz242_0, hcz242_1, hcz242_2, hfz242_0, hfz242_1, hfz242_2⟩ := cellsZ3 BK111.out; obtain ⟨hcz243_0, hcz243_1, hcz243_2, hfz243_0, hfz243_1, hfz243_2⟩ := cellsZ3 BK112.out) | (go_at_call 11; (with_reducible refine (impl_CompareKeys.calls kj29 t101 _ _ t102 t105 t106 _ _ t107 t110 t138 _ ?side1 ?side2 ?side3 ?side4 A226.out).mono ?_); (case side1 => exact (by repeat (first | exact (Kd.V_reads' HO_112001.out).2.2 | (with_reducible refine Kd.C_alloc ?_ _) | (with_reducible refine Kd.C_drewN ?_ _) | (with_reducible refine Kd.C_drew ?_)))); (case side2 => exact (Kd.V_reads' HO_112001.out).2.1); (case side3 => exact (by repeat (first | exact (Kd.V_reads' HO_113001.out).2.2 | (with_reducible refine Kd.C_alloc ?_ _) | (with_reducible refine Kd.C_drewN ?_ _) | (with_reducible refine Kd.C_drew ?_)))); (case side4 => exact (Kd.V_reads' HO_113001.out).2.1); rintro e w244 ⟨rfl, hb⟩; have _ := aM (Kd.V_below (vZ HO_5.out) hb); have _ := aM (Kd.V_below (vZ HO_7.out) hb); have _ := aM (Kd.V_below (vZ HO_112001.out) hb); have _ := aM (Kd.V_below (vZ HO_113001.out) hb); have _ := aM (Kd.R_below (rZ HO127.out) hb); have _ := aM (Kd.V_below (vZ HO133.out) hb); have _ := bB gb111 hb; have _ := bB gb112 hb; have _ := bB gb130 hb; have _ := aM (below_step hbZ hb); clear HO_5 HO_7 HO_112001 HO_113001 HO127 HO133 BK111 BK112 BK130 HB; rename_i HO_5 HO_7 HO_112001 HO_113001 HO127 HO133 BK111 BK112 BK130 HB; (try clear hb)))
                     go_ret
                     exact ⟨z674d, zcb41⟩
                   · rw [if_neg c225] at H
                     have c225b0 : ((strOfNums t131).toList == (strOfNums t113).toList) = false := beq_eq_false_iff_ne.mpr c225
                     have c225b1 : ((strOfNums t131).toList != (strOfNums t113).toList) = true := bne_iff_ne.mpr c225
                     obtain rfl := Option.some.inj H
                     obtain ⟨Ao245, co245, eo245⟩ := Kd.V_slice HO_5.out
                     subst eo245
                     go_wp2_with (first | ((with_reducible refine gate_callee (f := 12) rfl ?_); refine goesL_ (some 54) rfl rfl Tryd.func12 (by kernel_rfl) rfl #[.slice Ao245 t113.length co245] rfl zee81 ?_; (with_reducible refine (impl_ReadKey.calls kj29 _ _ t113 t124 t125 t128 true _ ?side1 ?side2 ?side3 A38.out).mono ?_); (case side1 => exact (by repeat (first | exact (Kd.V_reads' HO_5.out).2.2 | (with_reducible refine Kd.C_alloc ?_ _) | (with_reducible refine Kd.C_drewN ?_ _) | (with_reducible refine Kd.C_drew ?_)))); (case side2 => exact (Kd.V_reads' HO_5.out).2.1); (case side3 => exact TabM_.stays HTabM_.out hbZ); rintro e w246 ⟨v126, rfl, ho0, hb⟩; refine ⟨_, rfl, ?_⟩; have _ := aM (Kd.V_elder' (vZ HO_5.out) (Kd.R_base ho0) hb); have _ := aM (Kd.V_elder' (vZ HO_7.out) (Kd.R_base ho0) hb); have _ := aM (Kd.V_elder' (vZ HO_112001.out) (Kd.R_base ho0) hb); have _ := aM (Kd.V_elder' (vZ HO_113001.out) (Kd.R_base ho0) hb); have _ := aM (Kd.R_lower ho0 (below_size hbZ)); have _ := bB gb111 hb; have _ := bB gb112 hb; have _ := aM (below_step hbZ hb); clear HO_5 HO_7 HO_112001 HO_113001 BK111 BK112 HB; rename_i HO_5 HO_7 HO_112001 HO_113001 HO127 BK111 BK112 HB; (try clear hb); (try clear ho0)) | ((with_reducible refine gate_dst (N := 9) rfl ?_); refine box_event ?hg (N := 9) ?hd (cs := #[.string (⟨#[]⟩ : ByteArray), .slice none 0 0, .int .i64 0]) (t := 25) ?hr ?_; (case hd => rfl); (case hg => rfl); (case hr => first | (go_simp; done) | (go_simp; rfl)); intro gb130 hg w247 hbox hb; have _ := aM (Kd.V_below (Kd.V_elderB (vZ HO_5.out) gb130 (Nat.le_of_eq hg.symm)) hb); have _ := aM (Kd.V_below (Kd.V_elderB (vZ HO_7.out) gb130 (Nat.le_of_eq hg.symm)) hb); have _ := aM (Kd.V_below (Kd.V_elderB (vZ HO_112001.out) gb130 (Nat.le_of_eq hg.symm)) hb); have _ := aM (Kd.V_below (Kd.V_elderB (vZ HO_113001.out) gb130 (Nat.le_of_eq hg.symm)) hb); have _ := aM (Kd.R_below (rZ HO127.out) hb); have _ := bB gb111 hb; have _ := bB gb112 hb; have _ := aM (below_step hbZ hb); have _ := aM hbox; have _ := szZ hg; have _ := szZ hg; have ⟨_, _⟩ := nbB gb111 hg; have ⟨_, _⟩ := nbB gb112 hg; clear HO_5 HO_7 HO_112001 HO_113001 HO127 BK111 BK112 HB; rename_i HO_5 HO_7 HO_112001 HO_113001 HO127 BK111 BK112 HB BK130 GW130 GE130 NB111_130 NB130_111 NB112_130 NB130_112; clear hb hbox hg; have hnb248 := NB130_111.out; have hnc248 := NB111_130.out; have hnb249 := NB130_112.out; have hnc249 := NB112_130.out; obtain ⟨hcz250_0, hcz250_1, hcz250_2, hfz250_0, hfz250_1, hfz250_2⟩ := cellsZ3 BK130.out; obtain ⟨Ao251, co251, eo251⟩ := Kd.R_slice HO127.out; subst eo251) | ((with_reducible refine gate_callee (f := 9) rfl ?_); refine goesL_ (some 59) rfl rfl Tryd.func9 (by kernel_rfl) rfl #[.agg #[.string t124, .slice Ao251 t125.length co251, .int .i64 t128]] rfl zee81 ?_; (with_reducible refine (impl_KeyBytes.calls kj29 t124 _ _ t125 t128 t131 true _ ?side1 ?side2 A39.out).mono ?_); (case side1 => refine (Kd.R_reads' (e := 69) (base := w.heap.size) (ok := fun k_ => True) (n := t125.length) (c := co251) ?_).2.2; exact (rZ (rF3 HO127.out BK130.out))); (case side2 => exact (Kd.R_reads' HO127.out).2.1); rintro e w252 ⟨v132, rfl, ho0, hb⟩; refine ⟨_, rfl, ?_⟩; have _ := aM (Kd.V_below (by (with_reducible repeat (first | apply Kd.V_alloc | apply Kd.V_drewN | apply Kd.V_drew)); exact (Kd.V_mono (Kd.V_far (p := ⟨gb130, 2, none⟩) (Kd.V_far (p := ⟨gb130, 1, none⟩) (Kd.V_far (p := ⟨gb130, 0, none⟩) (Kd.V_mono HO_5.out (fun k_ hk => (⟨hk, hk.2⟩ : _ ∧ k_ ≠ gb130))) (fun _ hk => hk.2) (.string t124)) (fun _ hk => hk.2) (.slice Ao251 t125.length co251)) (fun _ hk => hk.2) (.int .i64 t128)) (fun _ h_ => h_.1))) hb); have _ := aM (Kd.V_below (by (with_reducible repeat (first | apply Kd.V_alloc | apply Kd.V_drewN | apply Kd.V_drew)); exact (Kd.V_mono (Kd.V_far (p := ⟨gb130, 2, none⟩) (Kd.V_far (p := ⟨gb130, 1, none⟩) (Kd.V_far (p := ⟨gb130, 0, none⟩) (Kd.V_mono HO_7.out (fun k_ hk => (⟨hk, hk.2⟩ : _ ∧ k_ ≠ gb130))) (fun _ hk => hk.2) (.string t124)) (fun _ hk => hk.2) (.slice Ao251 t125.length co251)) (fun _ hk => hk.2) (.int .i64 t128)) (fun _ h_ => h_.1))) hb); have _ := aM (Kd.V_below (by (with_reducible repeat (first | apply Kd.V_alloc | apply Kd.V_drewN | apply Kd.V_drew)); exact (Kd.V_mono (Kd.V_far (p := ⟨gb130, 2, none⟩) (Kd.V_far (p := ⟨gb130, 1, none⟩) (Kd.V_far (p := ⟨gb130, 0, none⟩) (Kd.V_mono HO_112001.out (fun k_ hk => (⟨hk, hk.2⟩ : _ ∧ k_ ≠ gb130))) (fun _ hk => hk.2) (.string t124)) (fun _ hk => hk.2) (.slice Ao251 t125.length co251)) (fun _ hk => hk.2) (.int .i64 t128)) (fun _ h_ => h_.1))) hb); have _ := aM (Kd.V_below (by (with_reducible repeat (first | apply Kd.V_alloc | apply Kd.V_drewN | apply Kd.V_drew)); exact (Kd.V_mono (Kd.V_far (p := ⟨gb130, 2, none⟩) (Kd.V_far (p := ⟨gb130, 1, none⟩) (Kd.V_far (p := ⟨gb130, 0, none⟩) (Kd.V_mono HO_113001.out (fun k_ hk => (⟨hk, hk.2⟩ : _ ∧ k_ ≠ gb130))) (fun _ hk => hk.2) (.string t124)) (fun _ hk => hk.2) (.slice Ao251 t125.length co251)) (fun _ hk => hk.2) (.int .i64 t128)) (fun _ h_ => h_.1))) hb); have _ := aM (Kd.R_below (rZ (rF3 HO127.out BK130.out)) hb); have _ := aM (Kd.V_lower (Kd.V_mono (ok' := fun k_ => some k_ ≠ (.slice Ao251 t125.length co251 : Value).ownBlock ∧ k_ ≠ gb111 ∧ k_ ≠ gb112 ∧ k_ ≠ gb130) ho0 (fun k_ hk_ => ⟨(Kd.fresh' (Kd.R_lt (rZ (rF3 HO127.out BK130.out))) k_ hk_), (Kd.freshB (g := gb111) bkZ k_ hk_), (Kd.freshB (g := gb112) bkZ k_ hk_), (Kd.freshB (g := gb130) (o := .cells #[.string t124, .slice Ao251 t125.length co251, .int .i64 t128] 25 (0, 0)) bkZ k_ hk_)⟩)) (below_size hbZ)); have _ := bB gb111 hb; have _ := bB gb112 hb; have _ := aM (blk_below (g := gb130) (o := .cells #[.string t124, .slice Ao251 t125.length co251, .int .i64 t128] 25 (0, 0)) bkZ hb); have _ := aM (below_step hbZ hb); clear HO_5 HO_7 HO_112001 HO_113001 HO127 BK111 BK112 BK130 HB; rename_i HO_5 HO_7 HO_112001 HO_113001 HO127 HO133 BK111 BK112 BK130 HB; (try clear hb); (try clear ho0); have hcv253 := V_string (P := Tryd.prog) Tryd.underlying22 Tryd.underlying5 Tryd.underlying9 (HO_5.out); have hcv254 := V_string (P := Tryd.prog) Tryd.underlying22 Tryd.underlying5 Tryd.underlying9 (HO_7.out); have hcv255 := V_string (P := Tryd.prog) Tryd.underlying22 Tryd.underlying5 Tryd.underlying9 (HO_5.out); have hcv256 := V_string (P := Tryd.prog) Tryd.underlying22 Tryd.underlying5 Tryd.underlying9 (HO_7.out); have hcv257 := V_string (P := Tryd.prog) Tryd.underlying22 Tryd.underlying5 Tryd.underlying9 (HO133.out); have hcv258 := V_string (P := Tryd.prog) Tryd.underlying22 Tryd.underlying5 Tryd.underlying9 (HO_5.out)))
                     go_ret
                     exact ⟨z674d, zcb41⟩
                 · replace c224 := Bool.eq_false_iff.mpr c224
                   subst c224
                   have H1 : (some false) = some r := by rw [if_neg (show ¬ (false = true) by decide)] at H; exact H
                   clear H
                   have H := H1
                   clear H1
                   obtain rfl := Option.some.inj H
                   obtain ⟨Ao259, co259, eo259⟩ := Kd.V_slice HO_5.out
                   subst eo259
                   go_wp2_with (first | ((with_reducible refine gate_callee (f := 12) rfl ?_); refine goesL_ (some 54) rfl rfl Tryd.func12 (by kernel_rfl) rfl #[.slice Ao259 t113.length co259] rfl zee81 ?_; (with_reducible refine (impl_ReadKey.calls kj29 _ _ t113 t124 t125 t128 true _ ?side1 ?side2 ?side3 A38.out).mono ?_); (case side1 => exact (by repeat (first | exact (Kd.V_reads' HO_5.out).2.2 | (with_reducible refine Kd.C_alloc ?_ _) | (with_reducible refine Kd.C_drewN ?_ _) | (with_reducible refine Kd.C_drew ?_)))); (case side2 => exact (Kd.V_reads' HO_5.out).2.1); (case side3 => exact TabM_.stays HTabM_.out hbZ); rintro e w260 ⟨v126, rfl, ho0, hb⟩; refine ⟨_, rfl, ?_⟩; have _ := aM (Kd.V_elder' (vZ HO_5.out) (Kd.R_base ho0) hb); have _ := aM (Kd.V_elder' (vZ HO_7.out) (Kd.R_base ho0) hb); have _ := aM (Kd.V_elder' (vZ HO_112001.out) (Kd.R_base ho0) hb); have _ := aM (Kd.V_elder' (vZ HO_113001.out) (Kd.R_base ho0) hb); have _ := aM (Kd.R_lower ho0 (below_size hbZ)); have _ := bB gb111 hb; have _ := bB gb112 hb; have _ := aM (below_step hbZ hb); clear HO_5 HO_7 HO_112001 HO_113001 BK111 BK112 HB; rename_i HO_5 HO_7 HO_112001 HO_113001 HO127 BK111 BK112 HB; (try clear hb); (try clear ho0)) | ((with_reducible refine gate_dst (N := 9) rfl ?_); refine box_event ?hg (N := 9) ?hd (cs := #[.string (⟨#[]⟩ : ByteArray), .slice none 0 0, .int .i64 0]) (t := 25) ?hr ?_; (case hd => rfl); (case hg => rfl); (case hr => first | (go_simp; done) | (go_simp; rfl)); intro gb130 hg w261 hbox hb; have _ := aM (Kd.V_below (Kd.V_elderB (vZ HO_5.out) gb130 (Nat.le_of_eq hg.symm)) hb); have _ := aM (Kd.V_below (Kd.V_elderB (vZ HO_7.out) gb130 (Nat.le_of_eq hg.symm)) hb); have _ := aM (Kd.V_below (Kd.V_elderB (vZ HO_112001.out) gb130 (Nat.le_of_eq hg.symm)) hb); have _ := aM (Kd.V_below (Kd.V_elderB (vZ HO_113001.out) gb130 (Nat.le_of_eq hg.symm)) hb); have _ := aM (Kd.R_below (rZ HO127.out) hb); have _ := bB gb111 hb; have _ := bB gb112 hb; have _ := aM (below_step hbZ hb); have _ := aM hbox; have _ := szZ hg; have _ := szZ hg; have ⟨_, _⟩ := nbB gb111 hg; have ⟨_, _⟩ := nbB gb112 hg; clear HO_5 HO_7 HO_112001 HO_113001 HO127 BK111 BK112 HB; rename_i HO_5 HO_7 HO_112001 HO_113001 HO127 BK111 BK112 HB BK130 GW130 GE130 NB111_130 NB130_111 NB112_130 NB130_112; clear hb hbox hg; have hnb262 := NB130_111.out; have hnc262 := NB111_130.out; have hnb263 := NB130_112.out; have hnc263 := NB112_130.out; obtain ⟨hcz264_0, hcz264_1, hcz264_2, hfz264_0, hfz264_1, hfz264_2⟩ := cellsZ3 BK130.out; obtain ⟨Ao265, co265, eo265⟩ := Kd.R_slice HO127.out; subst eo265) | ((with_reducible refine gate_callee (f := 9) rfl ?_); refine goesL_ (some 59) rfl rfl Tryd.func9 (by kernel_rfl) rfl #[.agg #[.string t124, .slice Ao265 t125.length co265, .int .i64 t128]] rfl zee81 ?_; (with_reducible refine (impl_KeyBytes.calls kj29 t124 _ _ t125 t128 t131 false _ ?side1 ?side2 A39.out).mono ?_); (case side1 => refine (Kd.R_reads' (e := 69) (base := w.heap.size) (ok := fun k_ => True) (n := t125.length) (c := co265) ?_).2.2; exact (rZ (rF3 HO127.out BK130.out))); (case side2 => exact (Kd.R_reads' HO127.out).2.1); rintro e w266 ⟨v132, rfl, ho0, hb⟩; refine ⟨_, rfl, ?_⟩; have _ := aM (Kd.V_below (by (with_reducible repeat (first | apply Kd.V_alloc | apply Kd.V_drewN | apply Kd.V_drew)); exact (Kd.V_mono (Kd.V_far (p := ⟨gb130, 2, none⟩) (Kd.V_far (p := ⟨gb130, 1, none⟩) (Kd.V_far (p := ⟨gb130, 0, none⟩) (Kd.V_mono HO_5.out (fun k_ hk => (⟨hk, hk.2⟩ : _ ∧ k_ ≠ gb130))) (fun _ hk => hk.2) (.string t124)) (fun _ hk => hk.2) (.slice Ao265 t125.length co265)) (fun _ hk => hk.2) (.int .i64 t128)) (fun _ h_ => h_.1))) hb); have _ := aM (Kd.V_below (by (with_reducible repeat (first | apply Kd.V_alloc | apply Kd.V_drewN | apply Kd.V_drew)); exact (Kd.V_mono (Kd.V_far (p := ⟨gb130, 2, none⟩) (Kd.V_far (p := ⟨gb130, 1, none⟩) (Kd.V_far (p := ⟨gb130, 0, none⟩) (Kd.V_mono HO_7.out (fun k_ hk => (⟨hk, hk.2⟩ : _ ∧ k_ ≠ gb130))) (fun _ hk => hk.2) (.string t124)) (fun _ hk => hk.2) (.slice Ao265 t125.length co265)) (fun _ hk => hk.2) (.int .i64 t128)) (fun _ h_ => h_.1))) hb); have _ := aM (Kd.V_below (by (with_reducible repeat (first | apply Kd.V_alloc | apply Kd.V_drewN | apply Kd.V_drew)); exact (Kd.V_mono (Kd.V_far (p := ⟨gb130, 2, none⟩) (Kd.V_far (p := ⟨gb130, 1, none⟩) (Kd.V_far (p := ⟨gb130, 0, none⟩) (Kd.V_mono HO_112001.out (fun k_ hk => (⟨hk, hk.2⟩ : _ ∧ k_ ≠ gb130))) (fun _ hk => hk.2) (.string t124)) (fun _ hk => hk.2) (.slice Ao265 t125.length co265)) (fun _ hk => hk.2) (.int .i64 t128)) (fun _ h_ => h_.1))) hb); have _ := aM (Kd.V_below (by (with_reducible repeat (first | apply Kd.V_alloc | apply Kd.V_drewN | apply Kd.V_drew)); exact (Kd.V_mono (Kd.V_far (p := ⟨gb130, 2, none⟩) (Kd.V_far (p := ⟨gb130, 1, none⟩) (Kd.V_far (p := ⟨gb130, 0, none⟩) (Kd.V_mono HO_113001.out (fun k_ hk => (⟨hk, hk.2⟩ : _ ∧ k_ ≠ gb130))) (fun _ hk => hk.2) (.string t124)) (fun _ hk => hk.2) (.slice Ao265 t125.length co265)) (fun _ hk => hk.2) (.int .i64 t128)) (fun _ h_ => h_.1))) hb); have _ := aM (Kd.R_below (rZ (rF3 HO127.out BK130.out)) hb); have _ := aM (Kd.V_lower (Kd.V_mono (ok' := fun k_ => some k_ ≠ (.slice Ao265 t125.length co265 : Value).ownBlock ∧ k_ ≠ gb111 ∧ k_ ≠ gb112 ∧ k_ ≠ gb130) ho0 (fun k_ hk_ => ⟨(Kd.fresh' (Kd.R_lt (rZ (rF3 HO127.out BK130.out))) k_ hk_), (Kd.freshB (g := gb111) bkZ k_ hk_), (Kd.freshB (g := gb112) bkZ k_ hk_), (Kd.freshB (g := gb130) (o := .cells #[.string t124, .slice Ao265 t125.length co265, .int .i64 t128] 25 (0, 0)) bkZ k_ hk_)⟩)) (below_size hbZ)); have _ := bB gb111 hb; have _ := bB gb112 hb; have _ := aM (blk_below (g := gb130) (o := .cells #[.string t124, .slice Ao265 t125.length co265, .int .i64 t128] 25 (0, 0)) bkZ hb); have _ := aM (below_step hbZ hb); clear HO_5 HO_7 HO_112001 HO_113001 HO127 BK111 BK112 BK130 HB; rename_i HO_5 HO_7 HO_112001 HO_113001 HO127 HO133 BK111 BK112 BK130 HB; (try clear hb); (try clear ho0); have hcv267 := V_string (P := Tryd.prog) Tryd.underlying22 Tryd.underlying5 Tryd.underlying9 (HO_5.out); have hcv268 := V_string (P := Tryd.prog) Tryd.underlying22 Tryd.underlying5 Tryd.underlying9 (HO_7.out); have hcv269 := V_string (P := Tryd.prog) Tryd.underlying22 Tryd.underlying5 Tryd.underlying9 (HO_5.out); have hcv270 := V_string (P := Tryd.prog) Tryd.underlying22 Tryd.underlying5 Tryd.underlying9 (HO_7.out)))
                   go_ret
                   exact ⟨z674d, zcb41⟩
               · replace c223 := Bool.eq_false_iff.mpr c223
                 subst c223
                 have H1 : (some false) = some r := by rw [if_neg (show ¬ (false = true) by decide)] at H; exact H
                 clear H
                 have H := H1
                 clear H1
                 obtain rfl := Option.some.inj H
                 obtain ⟨Ao271, co271, eo271⟩ := Kd.V_slice HO_5.out
                 subst eo271
                 go_wp2_with (first | ((with_reducible refine gate_callee (f := 12) rfl ?_); refine goesL_ (some 54) rfl rfl Tryd.func12 (by kernel_rfl) rfl #[.slice Ao271 t113.length co271] rfl zee81 ?_; (with_reducible refine (impl_ReadKey.calls kj29 _ _ t113 t124 t125 t128 false _ ?side1 ?side2 ?side3 A38.out).mono ?_); (case side1 => exact (by repeat (first | exact (Kd.V_reads' HO_5.out).2.2 | (with_reducible refine Kd.C_alloc ?_ _) | (with_reducible refine Kd.C_drewN ?_ _) | (with_reducible refine Kd.C_drew ?_)))); (case side2 => exact (Kd.V_reads' HO_5.out).2.1); (case side3 => exact TabM_.stays HTabM_.out hbZ); rintro e w272 ⟨v126, rfl, ho0, hb⟩; refine ⟨_, rfl, ?_⟩; have _ := aM (Kd.V_elder' (vZ HO_5.out) (Kd.R_base ho0) hb); have _ := aM (Kd.V_elder' (vZ HO_7.out) (Kd.R_base ho0) hb); have _ := aM (Kd.V_elder' (vZ HO_112001.out) (Kd.R_base ho0) hb); have _ := aM (Kd.V_elder' (vZ HO_113001.out) (Kd.R_base ho0) hb); have _ := aM (Kd.R_lower ho0 (below_size hbZ)); have _ := bB gb111 hb; have _ := bB gb112 hb; have _ := aM (below_step hbZ hb); clear HO_5 HO_7 HO_112001 HO_113001 BK111 BK112 HB; rename_i HO_5 HO_7 HO_112001 HO_113001 HO127 BK111 BK112 HB; (try clear hb); (try clear ho0)) | ((with_reducible refine gate_dst (N := 9) rfl ?_); refine box_event ?hg (N := 9) ?hd (cs := #[.string (⟨#[]⟩ : ByteArray), .slice none 0 0, .int .i64 0]) (t := 25) ?hr ?_; (case hd => rfl); (case hg => rfl); (case hr => first | (go_simp; done) | (go_simp; rfl)); intro gb130 hg w273 hbox hb; have _ := aM (Kd.V_below (Kd.V_elderB (vZ HO_5.out) gb130 (Nat.le_of_eq hg.symm)) hb); have _ := aM (Kd.V_below (Kd.V_elderB (vZ HO_7.out) gb130 (Nat.le_of_eq hg.symm)) hb); have _ := aM (Kd.V_below (Kd.V_elderB (vZ HO_112001.out) gb130 (Nat.le_of_eq hg.symm)) hb); have _ := aM (Kd.V_below (Kd.V_elderB (vZ HO_113001.out) gb130 (Nat.le_of_eq hg.symm)) hb); have _ := aM (Kd.R_below (rZ HO127.out) hb); have _ := bB gb111 hb; have _ := bB gb112 hb; have _ := aM (below_step hbZ hb); have _ := aM hbox; have _ := szZ hg; have _ := szZ hg; have ⟨_, _⟩ := nbB gb111 hg; have ⟨_, _⟩ := nbB gb112 hg; clear HO_5 HO_7 HO_112001 HO_113001 HO127 BK111 BK112 HB; rename_i HO_5 HO_7 HO_112001 HO_113001 HO127 BK111 BK112 HB BK130 GW130 GE130 NB111_130 NB130_111 NB112_130 NB130_112; clear hb hbox hg; have hnb274 := NB130_111.out; have hnc274 := NB111_130.out; have hnb275 := NB130_112.out; have hnc275 := NB112_130.out; obtain ⟨hcz276_0, hcz276_1, hcz276_2, hfz276_0, hfz276_1, hfz276_2⟩ := cellsZ3 BK130.out; obtain ⟨Ao277, co277, eo277⟩ := Kd.R_slice HO127.out; subst eo277) | ((with_reducible refine gate_callee (f := 9) rfl ?_); refine goesL_ (some 59) rfl rfl Tryd.func9 (by kernel_rfl) rfl #[.agg #[.string t124, .slice Ao277 t125.length co277, .int .i64 t128]] rfl zee81 ?_; (with_reducible refine (impl_KeyBytes.calls kj29 t124 _ _ t125 t128 t131 t134 _ ?side1 ?side2 A39.out).mono ?_); (case side1 => refine (Kd.R_reads' (e := 69) (base := w.heap.size) (ok := fun k_ => True) (n := t125.length) (c := co277) ?_).2.2; exact (rZ (rF3 HO127.out BK130.out))); (case side2 => exact (Kd.R_reads' HO127.out).2.1); rintro e w278 ⟨v132, rfl, ho0, hb⟩; refine ⟨_, rfl, ?_⟩; have _ := aM (Kd.V_below (by (with_reducible repeat (first | apply Kd.V_alloc | apply Kd.V_drewN | apply Kd.V_drew)); exact (Kd.V_mono (Kd.V_far (p := ⟨gb130, 2, none⟩) (Kd.V_far (p := ⟨gb130, 1, none⟩) (Kd.V_far (p := ⟨gb130, 0, none⟩) (Kd.V_mono HO_5.out (fun k_ hk => (⟨hk, hk.2⟩ : _ ∧ k_ ≠ gb130))) (fun _ hk => hk.2) (.string t124)) (fun _ hk => hk.2) (.slice Ao277 t125.length co277)) (fun _ hk => hk.2) (.int .i64 t128)) (fun _ h_ => h_.1))) hb); have _ := aM (Kd.V_below (by (with_reducible repeat (first | apply Kd.V_alloc | apply Kd.V_drewN | apply Kd.V_drew)); exact (Kd.V_mono (Kd.V_far (p := ⟨gb130, 2, none⟩) (Kd.V_far (p := ⟨gb130, 1, none⟩) (Kd.V_far (p := ⟨gb130, 0, none⟩) (Kd.V_mono HO_7.out (fun k_ hk => (⟨hk, hk.2⟩ : _ ∧ k_ ≠ gb130))) (fun _ hk => hk.2) (.string t124)) (fun _ hk => hk.2) (.slice Ao277 t125.length co277)) (fun _ hk => hk.2) (.int .i64 t128)) (fun _ h_ => h_.1))) hb); have _ := aM (Kd.V_below (by (with_reducible repeat (first | apply Kd.V_alloc | apply Kd.V_drewN | apply Kd.V_drew)); exact (Kd.V_mono (Kd.V_far (p := ⟨gb130, 2, none⟩) (Kd.V_far (p := ⟨gb130, 1, none⟩) (Kd.V_far (p := ⟨gb130, 0, none⟩) (Kd.V_mono HO_112001.out (fun k_ hk => (⟨hk, hk.2⟩ : _ ∧ k_ ≠ gb130))) (fun _ hk => hk.2) (.string t124)) (fun _ hk => hk.2) (.slice Ao277 t125.length co277)) (fun _ hk => hk.2) (.int .i64 t128)) (fun _ h_ => h_.1))) hb); have _ := aM (Kd.V_below (by (with_reducible repeat (first | apply Kd.V_alloc | apply Kd.V_drewN | apply Kd.V_drew)); exact (Kd.V_mono (Kd.V_far (p := ⟨gb130, 2, none⟩) (Kd.V_far (p := ⟨gb130, 1, none⟩) (Kd.V_far (p := ⟨gb130, 0, none⟩) (Kd.V_mono HO_113001.out (fun k_ hk => (⟨hk, hk.2⟩ : _ ∧ k_ ≠ gb130))) (fun _ hk => hk.2) (.string t124)) (fun _ hk => hk.2) (.slice Ao277 t125.length co277)) (fun _ hk => hk.2) (.int .i64 t128)) (fun _ h_ => h_.1))) hb); have _ := aM (Kd.R_below (rZ (rF3 HO127.out BK130.out)) hb); have _ := aM (Kd.V_lower (Kd.V_mono (ok' := fun k_ => some k_ ≠ (.slice Ao277 t125.length co277 : Value).ownBlock ∧ k_ ≠ gb111 ∧ k_ ≠ gb112 ∧ k_ ≠ gb130) ho0 (fun k_ hk_ => ⟨(Kd.fresh' (Kd.R_lt (rZ (rF3 HO127.out BK130.out))) k_ hk_), (Kd.freshB (g := gb111) bkZ k_ hk_), (Kd.freshB (g := gb112) bkZ k_ hk_), (Kd.freshB (g := gb130) (o := .cells #[.string t124, .slice Ao277 t125.length co277, .int .i64 t128] 25 (0, 0)) bkZ k_ hk_)⟩)) (below_size hbZ)); have _ := bB gb111 hb; have _ := bB gb112 hb; have _ := aM (blk_below (g := gb130) (o := .cells #[.string t124, .slice Ao277 t125.length co277, .int .i64 t128] 25 (0, 0)) bkZ hb); have _ := aM (below_step hbZ hb); clear HO_5 HO_7 HO_112001 HO_113001 HO127 BK111 BK112 BK130 HB; rename_i HO_5 HO_7 HO_112001 HO_113001 HO127 HO133 BK111 BK112 BK130 HB; (try clear hb); (try clear ho0); have hcv279 := V_string (P := Tryd.prog) Tryd.underlying22 Tryd.underlying5 Tryd.underlying9 (HO_5.out); have hcv280 := V_string (P := Tryd.prog) Tryd.underlying22 Tryd.underlying5 Tryd.underlying9 (HO_7.out); have hcv281 := V_string (P := Tryd.prog) Tryd.underlying22 Tryd.underlying5 Tryd.underlying9 (HO_5.out); have hcv282 := V_string (P := Tryd.prog) Tryd.underlying22 Tryd.underlying5 Tryd.underlying9 (HO_7.out)))
                 go_ret
                 exact ⟨z674d, zcb41⟩

/-- THE ONE PURE STATEMENT of laws_FnKeys: yours. -/
def laws_FnKeys.Pure : Prop := ∀ (l0 : List Int), l0.length ≤ maxLen → l0.length * 1 ≤ 140737488351232 → (∀ x ∈ l0, (Lit.int .u8 x).wf = true) → ∃ k, laws_FnKeys.f k l0 = some true
theorem laws_FnKeys.walk (P : laws_FnKeys.Pure) (a0 : Option Addr) (len0 cap0 : Nat) (z0 : List Int) (w : World) (w0 : (a0 = none ∧ len0 = 0 ∧ cap0 = 0 ∧ z0 = []) ∨ ∃ x, a0 = some x ∧ len0 ≤ cap0 ∧ cap0 ≤ maxLen ∧ z0.length = cap0 ∧ (∀ i, i < z0.length → w.cell? (x.add i) = some (.int .u8 (z0.getD i 0))) ∧ ∀ n ∈ z0, (Lit.int .u8 n).wf = true) (y0 : len0 * 1 ≤ 140737488351232) (hTabM_ : TabM_ w) :
 Calls Tryd.prog 3 #[.slice a0 len0 cap0] w fun e w' => e = .returned (.bool true) ∧ Below w.heap.size w w' := by
 obtain ⟨l0, rfl, hr0, hm0, hw0, hc0⟩ := ReadsInt.ofRowC w0
 obtain ⟨k, h⟩ := P l0 hm0 y0 hw0
 refine (laws_FnKeys.calls k _ _ l0 true w (Kd.C_of_reads (d := (0 : Int)) (h1 := fun _ => rfl) hr0) hc0 hTabM_ h).mono ?_
 rintro e w' ⟨rfl, hd⟩
 exact ⟨rfl, hd⟩

end Go.Proofs.YteogadaloebdaaaDoor.P

namespace Go.Proofs.YteogadaloebdaaaDoor.Lem
open Go.RowKit Go.Proofs.YteogadaloebdaaaDoorW.PrintWords Go.Proofs.YteogadaloebdaaaDoorW.PrintLast Go.Proofs.YteogadaloebdaaaDoorW.PrintMore

theorem w64 {x : Int} (h0 : -9223372036854775808 ≤ x) (h1 : x < 9223372036854775808) : wrap64 x = x := by
  unfold wrap64; omega
theorem wu64 {x : Int} (h0 : 0 ≤ x) (h1 : x < 18446744073709551616) : IntKind.u64.wrap x = x := by
  rw [IntKind.wrap_u64]; omega
theorem wu64_lo (x : Int) : 0 ≤ IntKind.u64.wrap x := by rw [IntKind.wrap_u64]; omega
theorem wu64_hi (x : Int) : IntKind.u64.wrap x < 18446744073709551616 := by rw [IntKind.wrap_u64]; omega

/-- A list of bytes. -/
def Bytes (l : List Int) : Prop := ∀ x ∈ l, 0 ≤ x ∧ x < 256

theorem Bytes.of_wf {l : List Int} (h : ∀ x ∈ l, (Lit.int .u8 x).wf = true) : Bytes l := by
  intro x hx
  have := h x hx
  simp [Lit.wf, IntKind.min, IntKind.max, IntKind.signed, IntKind.bits] at this
  omega
theorem Bytes.append {a b : List Int} (ha : Bytes a) (hb : Bytes b) : Bytes (a ++ b) := by
  intro x hx
  rcases List.mem_append.1 hx with h | h
  · exact ha x h
  · exact hb x h
theorem Bytes.nil : Bytes [] := fun x hx => by simp at hx
theorem Bytes.cons {x : Int} {l : List Int} (h0 : 0 ≤ x) (h1 : x < 256) (hl : Bytes l) : Bytes (x :: l) := by
  intro y hy
  rcases List.mem_cons.1 hy with rfl | h
  · exact ⟨h0, h1⟩
  · exact hl y h
theorem Bytes.rd {l : List Int} (h : Bytes l) (i : Int) : 0 ≤ rd l i ∧ rd l i < 256 := by
  unfold Go.Proofs.YteogadaloebdaaaDoorW.PrintWords.rd
  rcases Nat.lt_or_ge i.toNat l.length with hl | hl
  · rw [List.getD_eq_getElem?_getD, List.getElem?_eq_getElem hl]
    exact h _ (List.getElem_mem hl)
  · rw [List.getD_eq_getElem?_getD, List.getElem?_eq_none hl]
    simp
theorem Bytes.take {l : List Int} (h : Bytes l) (n : Nat) : Bytes (l.take n) := fun x hx => h x (List.mem_of_mem_take hx)
theorem Bytes.drop {l : List Int} (h : Bytes l) (n : Nat) : Bytes (l.drop n) := fun x hx => h x (List.mem_of_mem_drop hx)

theorem and255 {x : Int} (h0 : 0 ≤ x) (h1 : x < 18446744073709551616) : 0 ≤ Go.bits .and .u64 x 255 ∧ Go.bits .and .u64 x 255 < 256 := by
  rw [u64_and x 255 h0 h1 (by decide) (by decide)]
  have : x.toNat &&& (255 : Int).toNat ≤ (255 : Int).toNat := Nat.and_le_right
  have e : (255 : Int).toNat = 255 := rfl
  omega

theorem shr_lo {k : IntKind} {x y : Int} (h : 0 ≤ x) : 0 ≤ shr k x y := by
  unfold shr
  exact Int.ediv_nonneg h (Int.le_of_lt (Int.pow_pos (by decide)))
theorem shr_hi {k : IntKind} {x y B : Int} (h : 0 ≤ x) (h1 : x < B) : shr k x y < B := by
  unfold shr
  have : x / 2 ^ min y.toNat k.bits ≤ x := Int.ediv_le_self _ h
  omega

end Go.Proofs.YteogadaloebdaaaDoor.Lem

/- Names and keys: what GoodKey says, the program's and the specification's. -/
namespace Go.Proofs.YteogadaloebdaaaDoor.Lem
open Go Go.RowKit Go.Proofs.YteogadaloebdaaaDoor.P Go.Proofs.YteogadaloebdaaaDoorW.PrintWords Go.Proofs.YteogadaloebdaaaDoorW.PrintLast Go.Proofs.YteogadaloebdaaaDoorW.PrintMore

abbrev Tg := S69
abbrev rdT := rd_T69

theorem dropWhile_head {α : Type} (p : α → Bool) : ∀ (l : List α) (x : α) (r : List α), l.dropWhile p = x :: r → p x = false
  | [], x, r, h => by simp at h
  | a :: l, x, r, h => by
    rw [List.dropWhile_cons] at h
    cases e : p a with
    | true => rw [e, if_pos rfl] at h; exact dropWhile_head p l x r h
    | false =>
      rw [e, if_neg (by decide)] at h
      injection h with h _
      rw [← h]; exact e
theorem dropWhile_all {α : Type} (p : α → Bool) : ∀ l : List α, l.all p = true → l.dropWhile p = []
  | [], _ => rfl
  | a :: l, h => by
    rw [List.all_cons, Bool.and_eq_true] at h
    rw [List.dropWhile_cons, h.1, if_pos rfl]
    exact dropWhile_all p l h.2
theorem dropWhile_nil {α : Type} (p : α → Bool) : ∀ l : List α, l.dropWhile p = [] → l.all p = true
  | [], _ => rfl
  | a :: l, h => by
    rw [List.dropWhile_cons] at h
    cases e : p a with
    | true => rw [e, if_pos rfl] at h; rw [List.all_cons, e, dropWhile_nil p l h]; rfl
    | false => rw [e, if_neg (by decide)] at h; exact absurd h (by simp)

theorem trim_nil (l cs : List UInt8) : (Go.Lib.trimS l cs == []) = l.all (cs.contains ·) := by
  unfold Go.Lib.trimS Go.Lib.trimLeftS Go.Lib.trimRightS
  cases e : l.all (cs.contains ·) with
  | true =>
    have h1 : l.reverse.all (cs.contains ·) = true := by rw [List.all_reverse]; exact e
    rw [dropWhile_all _ _ h1, List.reverse_nil, List.dropWhile_nil]
    rfl
  | false =>
    rw [beq_eq_false_iff_ne]
    intro h
    have h1 := dropWhile_nil _ _ h
    rw [List.all_reverse] at h1
    cases e2 : l.reverse.dropWhile (cs.contains ·) with
    | nil =>
      have h3 := dropWhile_nil _ _ e2
      rw [List.all_reverse, e] at h3
      exact absurd h3 (by decide)
    | cons x r =>
      have h3 := dropWhile_head _ _ x r e2
      rw [e2, List.all_cons, h3, Bool.false_and] at h1
      exact absurd h1 (by decide)

/-- A letter's byte. -/
def letter (b : UInt8) : Bool := (decide (97 ≤ b.toNat) && decide (b.toNat ≤ 122)) || (decide (65 ≤ b.toNat) && decide (b.toNat ≤ 90))
def alphabet : List UInt8 := [97, 98, 99, 100, 101, 102, 103, 104, 105, 106, 107, 108, 109, 110, 111, 112, 113, 114, 115, 116, 117, 118, 119, 120, 121, 122, 65, 66, 67, 68, 69, 70, 71, 72, 73, 74, 75, 76, 77, 78, 79, 80, 81, 82, 83, 84, 85, 86, 87, 88, 89, 90]
theorem alphabet_all : ∀ n, n < 256 → (alphabet.contains (UInt8.ofNat n) == letter (UInt8.ofNat n)) = true := of_decide_eq_true (by kernel_rfl)
theorem alphabet_letter (b : UInt8) : alphabet.contains b = letter b := by
  have h := alphabet_all b.toNat b.toNat_lt
  rw [UInt8.ofNat_toNat] at h
  exact eq_of_beq h

/-- A name. -/
def nameB (s : ByteArray) : Bool := decide (1 ≤ s.size) && decide (s.size ≤ 12) && s.data.toList.all letter
theorem nameB_size {s : ByteArray} (h : nameB s = true) : 1 ≤ s.size ∧ s.size ≤ 12 := by
  unfold nameB at h
  rw [Bool.and_eq_true, Bool.and_eq_true] at h
  exact ⟨of_decide_eq_true h.1.1, of_decide_eq_true h.1.2⟩
theorem nameB_letters {s : ByteArray} (h : nameB s = true) : s.data.toList.all letter = true := by
  unfold nameB at h
  rw [Bool.and_eq_true] at h
  exact h.2
theorem withinB_ok (n a b : Int) : impl_within.f n a b = some (decide (a ≤ n) && decide (n ≤ b)) := by
  unfold impl_within.f
  by_cases h : n ≥ a
  · rw [if_pos h, decide_eq_true h, Bool.true_and]
  · rw [if_neg h, decide_eq_false h, Bool.false_and]
theorem l1InB_ok (n a b : Int) : spec_l1In.f n a b = some (decide (a ≤ n) && decide (n ≤ b)) := by
  unfold spec_l1In.f
  by_cases h : n ≥ a
  · rw [if_pos h, decide_eq_true h, Bool.true_and]
  · rw [if_neg h, decide_eq_false h, Bool.false_and]
theorem size_b (s : ByteArray) : (decide ((1 : Int) ≤ (s.size : Int)) && decide ((s.size : Int) ≤ 12)) = (decide (1 ≤ s.size) && decide (s.size ≤ 12)) := by
  have e1 : ((1 : Int) ≤ (s.size : Int)) ↔ 1 ≤ s.size := by omega
  have e2 : ((s.size : Int) ≤ 12) ↔ s.size ≤ 12 := by omega
  rw [decide_eq_decide.2 e1, decide_eq_decide.2 e2]

theorem isName_ok (s : ByteArray) : impl_isName.f s = some (nameB s) := by
  unfold impl_isName.f nameB
  rw [withinB_ok, Option.bind_some, size_b]
  cases e : (decide (1 ≤ s.size) && decide (s.size ≤ 12)) with
  | false => rw [if_neg (by decide), Bool.false_and]
  | true =>
    rw [Bool.and_eq_true] at e
    have h1 := of_decide_eq_true e.2
    rw [if_pos rfl, Bool.true_and]
    unfold strings_Trim.f
    rw [if_pos ⟨by omega, of_decide_eq_true (by kernel_rfl), by kernel_rfl⟩, Option.bind_some, Go.Lib.toList_data]
    have e3 : s.data.toList.all (alphabet.contains ·) = s.data.toList.all letter := by
      congr 1
      funext b
      exact alphabet_letter b
    rw [← e3, ← trim_nil]
    rfl

theorem bt_get {s : ByteArray} {i : Nat} (h : i < s.size) : bt s (i : Int) = ((s.data.toList[i]'(by rw [← Go.Lib.size_eq]; exact h)).toNat : Int) := by
  rw [← bt_at s (i : Int) (by rw [Int.toNat_natCast]; exact h)]
  simp only [Int.toNat_natCast]
  rfl
theorem drop_get {α : Type} {l : List α} {i : Nat} (h : i < l.length) : l.drop i = l[i] :: l.drop (i + 1) := (List.drop_eq_getElem_cons h)

theorem l1Name_l0 (s : ByteArray) (hs : s.size ≤ 12) : ∀ (d i k : Nat), i + d = s.size → d < k → spec_l1Name.l0 k s (i : Int) = some ((s.data.toList.drop i).all letter) := by
  intro d
  induction d with
  | zero =>
    intro i k hi hk
    obtain ⟨k, rfl⟩ : ∃ m, k = m + 1 := ⟨k - 1, by omega⟩
    rw [spec_l1Name.l0, if_neg (by omega), List.drop_of_length_le (by rw [← Go.Lib.size_eq]; omega)]
    rfl
  | succ d ih =>
    intro i k hi hk
    obtain ⟨k, rfl⟩ : ∃ m, k = m + 1 := ⟨k - 1, by omega⟩
    have hn := ih (i + 1) k (by omega) (by omega)
    have hlt : i < s.data.toList.length := by rw [← Go.Lib.size_eq]; omega
    rw [spec_l1Name.l0, if_pos (by omega), if_pos (by omega), bt_get (by omega), show wrap64 ((i : Int) + 1) = ((i + 1 : Nat) : Int) from by rw [w64 (by omega) (by omega)]; omega, hn, drop_get hlt, List.all_cons]
    generalize s.data.toList[i] = b
    generalize (List.drop (i + 1) s.data.toList).all letter = v
    unfold letter
    by_cases h1 : 97 ≤ b.toNat
    · rw [if_pos (by omega), decide_eq_true h1, Bool.true_and]
      by_cases h2 : b.toNat ≤ 122
      · rw [if_pos (by omega), decide_eq_true h2, Bool.true_or, Bool.true_and]
      · rw [if_neg (by omega), if_pos (by omega), if_neg (by omega), decide_eq_false h2, decide_eq_false (show ¬ b.toNat ≤ 90 by omega), Bool.and_false, Bool.false_or, Bool.false_and]
    · rw [if_neg (by omega), decide_eq_false h1, Bool.false_and, Bool.false_or]
      by_cases h2 : 65 ≤ b.toNat
      · rw [if_pos (by omega), decide_eq_true h2, Bool.true_and]
        by_cases h3 : b.toNat ≤ 90
        · rw [if_pos (by omega), decide_eq_true h3, Bool.true_and]
        · rw [if_neg (by omega), decide_eq_false h3, Bool.false_and]
      · rw [if_neg (by omega), decide_eq_false h2, Bool.false_and, Bool.false_and]

theorem l1Name_ok (s : ByteArray) {k : Nat} (hk : 12 < k) : spec_l1Name.f k s = some (nameB s) := by
  unfold spec_l1Name.f nameB
  rw [l1InB_ok, Option.bind_some, size_b]
  cases e : (decide (1 ≤ s.size) && decide (s.size ≤ 12)) with
  | false => rw [if_neg (by decide), Bool.false_and]
  | true =>
    rw [Bool.and_eq_true] at e
    have h1 := of_decide_eq_true e.2
    rw [if_pos rfl, Bool.true_and]
    have h := l1Name_l0 s h1 s.size 0 k (by omega) (by omega)
    rw [List.drop_zero] at h
    exact h

def aft : Option ByteArray → ByteArray → Bool
  | none, _ => true
  | some q, x => Op.bytesLess q.data.toList x.data.toList
/-- Tags in their order: behind a name, or at the beginning. -/
def tagsB : Option ByteArray → List Tg → Bool
  | _, [] => true
  | p, t :: r => nameB t.f0 && (nameB t.f1 && (aft p t.f0 && tagsB (some t.f0) r))
/-- The tag before a place. -/
def prevT (l : List Tg) (i : Nat) : Option ByteArray := if i = 0 then none else some (rdT l ((i - 1 : Nat) : Int)).f0
theorem rdT_get {l : List Tg} {i : Nat} (h : i < l.length) : rdT l (i : Int) = l[i] := by
  unfold rdT rd_T69
  rw [Int.toNat_natCast, List.getD_eq_getElem?_getD, List.getElem?_eq_getElem h]
  rfl
/-- A good key. -/
def keyB (m : ByteArray) (l : List Tg) (st : Int) : Bool := nameB m && (decide (l.length ≤ 4) && (decide (0 ≤ st) && decide (st ≤ 1000000000)) && tagsB none l)
theorem keyB_parts {m : ByteArray} {l : List Tg} {st : Int} (h : keyB m l st = true) : nameB m = true ∧ l.length ≤ 4 ∧ 0 ≤ st ∧ st ≤ 1000000000 ∧ tagsB none l = true := by
  unfold keyB at h
  simp only [Bool.and_eq_true] at h
  exact ⟨h.1, of_decide_eq_true h.2.1.1, of_decide_eq_true h.2.1.2.1, of_decide_eq_true h.2.1.2.2, h.2.2⟩
theorem tagsB_names : ∀ {l : List Tg} {p : Option ByteArray}, tagsB p l = true → ∀ t ∈ l, nameB t.f0 = true ∧ nameB t.f1 = true
  | [], _, _, t, ht => by simp at ht
  | a :: l, p, h, t, ht => by
    rw [tagsB, Bool.and_eq_true, Bool.and_eq_true, Bool.and_eq_true] at h
    rcases List.mem_cons.1 ht with rfl | ht
    · exact ⟨h.1, h.2.1⟩
    · exact tagsB_names h.2.2.2 t ht

theorem implKey_l0 (l : List Tg) (hl : l.length ≤ 4) (m : ByteArray) (st : Int) : ∀ (d i k : Nat), i + d = l.length → d < k → impl_GoodKey.l0 k l (l.length : Int) (i : Int) m l st = some (tagsB (prevT l i) (l.drop i)) := by
  intro d
  induction d with
  | zero =>
    intro i k hi hk
    obtain ⟨k, rfl⟩ : ∃ q, k = q + 1 := ⟨k - 1, by omega⟩
    rw [impl_GoodKey.l0, if_neg (by omega), List.drop_of_length_le (by omega)]
    rfl
  | succ d ih =>
    intro i k hi hk
    obtain ⟨k, rfl⟩ : ∃ q, k = q + 1 := ⟨k - 1, by omega⟩
    have hn := ih (i + 1) k (by omega) (by omega)
    have hlt : i < l.length := by omega
    have hp : prevT l (i + 1) = some l[i].f0 := by unfold prevT; rw [if_neg (by omega), Nat.add_sub_cancel, rdT_get hlt]
    rw [hp] at hn
    have e0 : rd_T69 l (i : Int) = l[i] := rdT_get hlt
    rw [impl_GoodKey.l0, if_pos (by omega), if_pos (by omega), if_pos (by omega), e0, isName_ok, isName_ok, Option.bind_some, show wrap64 ((i : Int) + 1) = ((i + 1 : Nat) : Int) from by rw [w64 (by omega) (by omega)]; omega, hn, drop_get hlt, tagsB]
    cases e1 : nameB l[i].f0 with
    | false => rw [if_neg (by decide), Bool.false_and]
    | true =>
      rw [if_pos rfl, Option.bind_some, Bool.true_and]
      cases e2 : nameB l[i].f1 with
      | false => rw [if_neg (by decide), Bool.false_and]
      | true =>
        rw [if_pos rfl, Bool.true_and]
        by_cases h0 : i = 0
        · rw [if_neg (by omega)]
          unfold prevT
          rw [if_pos h0, aft, Bool.true_and]
        · have e3 : wrap64 ((i : Int) - 1) = ((i - 1 : Nat) : Int) := by rw [w64 (by omega) (by omega)]; omega
          rw [if_pos (by omega), e3, if_pos (by omega), if_pos (by omega)]
          unfold prevT
          rw [if_neg h0, aft, Go.Lib.toList_data, Go.Lib.toList_data]
          show (if Op.bytesLess (rdT l ((i - 1 : Nat) : Int)).f0.data.toList l[i].f0.data.toList = true then _ else _) = _
          cases Op.bytesLess (rdT l ((i - 1 : Nat) : Int)).f0.data.toList l[i].f0.data.toList with
          | true => rw [if_pos rfl, Bool.true_and]
          | false => rw [if_neg (by decide), Bool.false_and]

theorem implKey_ok (m : ByteArray) (l : List Tg) (st : Int) {k : Nat} (hk : 6 < k) : impl_GoodKey.f k m l st = some (keyB m l st) := by
  obtain ⟨k, rfl⟩ : ∃ q, k = q + 1 := ⟨k - 1, by omega⟩
  unfold impl_GoodKey.f keyB
  rw [isName_ok, Option.bind_some, impl_GoodKey.j0, if_pos rfl]
  cases e1 : nameB m with
  | false => rw [if_neg (by decide), Bool.false_and]
  | true =>
    rw [if_pos rfl, Bool.true_and]
    by_cases h : l.length ≤ 4
    · rw [if_neg (by omega), withinB_ok, Option.bind_some, decide_eq_true h, Bool.true_and, impl_GoodKey.j0]
      have h0 := implKey_l0 l h m st l.length 0 k (by omega) (by omega)
      rw [List.drop_zero] at h0
      cases e2 : (decide (0 ≤ st) && decide (st ≤ 1000000000)) with
      | false => rw [if_pos (show (!false) = true from rfl), Bool.false_and]
      | true => rw [if_neg (show ¬ (!true) = true by decide), Bool.true_and]; exact h0
    · rw [if_pos (by omega), decide_eq_false h, Bool.false_and, Bool.false_and]

theorem specKey_l0 (l : List Tg) (hl : l.length ≤ 4) (m : ByteArray) (st : Int) : ∀ (d i k : Nat), i + d = l.length → d + 14 < k → spec_GoodKey.l0 k l (l.length : Int) (i : Int) m l st = some (tagsB (prevT l i) (l.drop i)) := by
  intro d
  induction d with
  | zero =>
    intro i k hi hk
    obtain ⟨k, rfl⟩ : ∃ q, k = q + 1 := ⟨k - 1, by omega⟩
    rw [spec_GoodKey.l0, if_neg (by omega), List.drop_of_length_le (by omega)]
    rfl
  | succ d ih =>
    intro i k hi hk
    obtain ⟨k, rfl⟩ : ∃ q, k = q + 1 := ⟨k - 1, by omega⟩
    have hn := ih (i + 1) k (by omega) (by omega)
    have hlt : i < l.length := by omega
    have hp : prevT l (i + 1) = some l[i].f0 := by unfold prevT; rw [if_neg (by omega), Nat.add_sub_cancel, rdT_get hlt]
    rw [hp] at hn
    have e0 : rd_T69 l (i : Int) = l[i] := rdT_get hlt
    rw [spec_GoodKey.l0, if_pos (by omega), if_pos (by omega), if_pos (by omega), e0, l1Name_ok _ (by omega), l1Name_ok _ (by omega), Option.bind_some, show wrap64 ((i : Int) + 1) = ((i + 1 : Nat) : Int) from by rw [w64 (by omega) (by omega)]; omega, hn, drop_get hlt, tagsB]
    cases e1 : nameB l[i].f0 with
    | false => rw [if_neg (by decide), Bool.false_and]
    | true =>
      rw [if_pos rfl, Option.bind_some, Bool.true_and]
      cases e2 : nameB l[i].f1 with
      | false => rw [if_neg (by decide), Bool.false_and]
      | true =>
        rw [if_pos rfl, Bool.true_and]
        by_cases h0 : i = 0
        · rw [if_neg (by omega)]
          unfold prevT
          rw [if_pos h0, aft, Bool.true_and]
        · have e3 : wrap64 ((i : Int) - 1) = ((i - 1 : Nat) : Int) := by rw [w64 (by omega) (by omega)]; omega
          rw [if_pos (by omega), e3, if_pos (by omega), if_pos (by omega)]
          unfold prevT
          rw [if_neg h0, aft, Go.Lib.toList_data, Go.Lib.toList_data]
          show (if Op.bytesLess (rdT l ((i - 1 : Nat) : Int)).f0.data.toList l[i].f0.data.toList = true then _ else _) = _
          cases Op.bytesLess (rdT l ((i - 1 : Nat) : Int)).f0.data.toList l[i].f0.data.toList with
          | true => rw [if_pos rfl, Bool.true_and]
          | false => rw [if_neg (by decide), Bool.false_and]

theorem specKey_ok (m : ByteArray) (l : List Tg) (st : Int) {k : Nat} (hk : 20 < k) : spec_GoodKey.f k m l st = some (keyB m l st) := by
  obtain ⟨k, rfl⟩ : ∃ q, k = q + 1 := ⟨k - 1, by omega⟩
  unfold spec_GoodKey.f keyB
  rw [l1Name_ok _ (by omega), Option.bind_some, spec_GoodKey.j0, if_pos rfl]
  cases e1 : nameB m with
  | false => rw [if_neg (by decide), Bool.false_and]
  | true =>
    rw [if_pos rfl, Bool.true_and]
    by_cases h : l.length ≤ 4
    · rw [if_neg (by omega), l1InB_ok, Option.bind_some, decide_eq_true h, Bool.true_and, spec_GoodKey.j0]
      have h0 := specKey_l0 l h m st l.length 0 k (by omega) (by omega)
      rw [List.drop_zero] at h0
      cases e2 : (decide (0 ≤ st) && decide (st ≤ 1000000000)) with
      | false => rw [if_pos (show (!false) = true from rfl), Bool.false_and]
      | true => rw [if_neg (show ¬ (!true) = true by decide), Bool.true_and]; exact h0
    · rw [if_pos (by omega), decide_eq_false h, Bool.false_and, Bool.false_and]

end Go.Proofs.YteogadaloebdaaaDoor.Lem

/- The order of texts: words with ends that are less than every letter are in the order of their letters. -/
namespace Go.Proofs.YteogadaloebdaaaDoor.Lem
open Go

theorem less_irrefl : ∀ x : List UInt8, Op.bytesLess x x = false
  | [] => rfl
  | a :: x => by
    rw [Op.bytesLess, less_irrefl x, Bool.and_false, Bool.or_false]
    exact decide_eq_false (by rw [UInt8.lt_iff_toNat_lt]; omega)

theorem less_cons (a b : UInt8) (x y : List UInt8) : Op.bytesLess (a :: x) (b :: y) = if a = b then Op.bytesLess x y else decide (a < b) := by
  rw [Op.bytesLess]
  by_cases h : a = b
  · subst h
    rw [if_pos rfl, beq_self_eq_true, Bool.true_and, decide_eq_false (by rw [UInt8.lt_iff_toNat_lt]; omega), Bool.false_or]
  · rw [if_neg h, beq_eq_false_iff_ne.2 h, Bool.false_and, Bool.or_false]

/-- The order of two texts as a number. -/
def ord (x y : List UInt8) : Int := if Op.bytesLess x y = true then -1 else if Op.bytesLess y x = true then 1 else 0
theorem ord_self (x : List UInt8) : ord x x = 0 := by
  unfold ord
  rw [less_irrefl, if_neg (by decide), if_neg (by decide)]
theorem ord_cons (a b : UInt8) (x y : List UInt8) : ord (a :: x) (b :: y) = if a = b then ord x y else if a < b then -1 else 1 := by
  unfold ord
  rw [less_cons, less_cons]
  by_cases h : a = b
  · subst h
    rw [if_pos rfl, if_pos rfl, if_pos rfl]
  · rw [if_neg h, if_neg (Ne.symm h), if_neg h]
    have hn : a.toNat ≠ b.toNat := fun e => h (UInt8.toNat_inj.1 e)
    by_cases hl : a < b
    · rw [if_pos (decide_eq_true hl), if_pos hl]
    · rw [if_neg (by simpa using hl), if_neg hl]
      rw [UInt8.lt_iff_toNat_lt] at hl
      rw [if_pos (decide_eq_true (by rw [UInt8.lt_iff_toNat_lt]; omega))]
theorem ord_nil_cons (b : UInt8) (y : List UInt8) : ord [] (b :: y) = -1 := rfl
theorem ord_cons_nil (b : UInt8) (y : List UInt8) : ord (b :: y) [] = 1 := rfl

/-- Words whose ends are less than each letter. -/
theorem ord_ends : ∀ (a b : List UInt8) (c d : UInt8) (x y : List UInt8), (∀ h ∈ a, d < h) → (∀ h ∈ b, c < h) →
    ord (a ++ c :: x) (b ++ d :: y) = if a = b then ord (c :: x) (d :: y) else ord a b
  | [], [], c, d, x, y, _, _ => by rw [if_pos rfl]; rfl
  | [], g :: b, c, d, x, y, _, hb => by
    have h1 : c < g := hb g (List.mem_cons_self ..)
    have hne : c ≠ g := fun e => by subst e; rw [UInt8.lt_iff_toNat_lt] at h1; omega
    rw [if_neg (by simp), ord_nil_cons, List.nil_append, List.cons_append, ord_cons, if_neg hne, if_pos h1]
  | h :: a, [], c, d, x, y, ha, _ => by
    have h1 : d < h := ha h (List.mem_cons_self ..)
    have h2 : ¬ h < d := by rw [UInt8.lt_iff_toNat_lt] at h1 ⊢; omega
    have hne : h ≠ d := fun e => by subst e; exact h2 h1
    rw [if_neg (by simp), ord_cons_nil, List.nil_append, List.cons_append, ord_cons, if_neg hne, if_neg h2]
  | h :: a, g :: b, c, d, x, y, ha, hb => by
    have ih := ord_ends a b c d x y (fun q hq => ha q (List.mem_cons_of_mem _ hq)) (fun q hq => hb q (List.mem_cons_of_mem _ hq))
    rw [List.cons_append, List.cons_append, ord_cons h g (a ++ c :: x) (b ++ d :: y), ord_cons h g a b, ih]
    by_cases e : h = g
    · subst e
      rw [if_pos rfl, if_pos rfl]
      by_cases e2 : a = b
      · rw [if_pos e2, if_pos (by rw [e2])]
      · rw [if_neg e2, if_neg (by simpa using e2)]
    · rw [if_neg e, if_neg e, if_neg (show ¬ (h :: a = g :: b) from fun q => e (by injection q))]

theorem ord_eq_zero : ∀ {a b : List UInt8}, ord a b = 0 → a = b
  | [], [], _ => rfl
  | [], g :: b, h => by rw [ord_nil_cons] at h; exact absurd h (by decide)
  | x :: a, [], h => by rw [ord_cons_nil] at h; exact absurd h (by decide)
  | x :: a, g :: b, h => by
    rw [ord_cons] at h
    by_cases e : x = g
    · subst e
      rw [if_pos rfl] at h
      rw [ord_eq_zero h]
    · rw [if_neg e] at h
      split at h <;> exact absurd h (by decide)
end Go.Proofs.YteogadaloebdaaaDoor.Lem

-- written by a program of this session's (wip/pp)
namespace Go.Proofs.YteogadaloebdaaaDoor.P
open Go.RowKit Go.Proofs.YteogadaloebdaaaDoorW.PrintWords Go.Proofs.YteogadaloebdaaaDoorW.PrintLast Go.Proofs.YteogadaloebdaaaDoorW.PrintMore
attribute [local go_sem] max2_int min2_int max_two min_two max_three min_three max_four min_four str_geq str_gtr str_leq   -- for this text's walks alone
set_option linter.unusedVariables false
set_option linter.unusedSimpArgs false

/-! ### spec_l1Text: function 87 -/
def spec_l1Text.f (a0 : ByteArray) (a1 : ByteArray) : Option (Int) := if (Op.bytesLess a0.toList a1.toList) = true then (some (-1)) else (if (Op.bytesLess a1.toList a0.toList) = true then (some 1) else (some 0))
set_option maxHeartbeats 8000000 in
set_option maxRecDepth 100000 in
theorem spec_l1Text.calls (a0 : ByteArray) (a1 : ByteArray) (r : Int) (w : World) (h : spec_l1Text.f a0 a1 = some r) :
 Calls Tryd.prog 87 #[.string a0, .string a1] w fun e w' => e = .returned (.int .i64 r) ∧ Drawn0 w w' := by
 have H : (if (Op.bytesLess a0.toList a1.toList) = true then (some (-1)) else (if (Op.bytesLess a1.toList a0.toList) = true then (some 1) else (some 0))) = some r := h
 clear h
 by_cases c3 : (Op.bytesLess a0.toList a1.toList) = true
 · rw [if_pos c3] at H
   have c3b0 : (Op.bytesLess a0.toList a1.toList) = true := c3
   clear c3
   obtain rfl := Option.some.inj H
   go_enter Tryd.func87, Tryd.ntmps87
   go_wp2
   go_ret
   exact ⟨z4458, za9de⟩
 · rw [if_neg c3] at H
   have c3b0 : (Op.bytesLess a0.toList a1.toList) = false := by simpa using c3
   clear c3
   by_cases c4 : (Op.bytesLess a1.toList a0.toList) = true
   · rw [if_pos c4] at H
     have c4b0 : (Op.bytesLess a1.toList a0.toList) = true := c4
     clear c4
     obtain rfl := Option.some.inj H
     go_enter Tryd.func87, Tryd.ntmps87
     go_wp2
     go_ret
     exact ⟨z4458, za9de⟩
   · rw [if_neg c4] at H
     have c4b0 : (Op.bytesLess a1.toList a0.toList) = false := by simpa using c4
     clear c4
     obtain rfl := Option.some.inj H
     go_enter Tryd.func87, Tryd.ntmps87
     go_wp2
     go_ret
     exact ⟨z4458, za9de⟩

end Go.Proofs.YteogadaloebdaaaDoor.P

-- written by a program of this session's (wip/pp)
namespace Go.Proofs.YteogadaloebdaaaDoor.P
open Go.RowKit Go.Proofs.YteogadaloebdaaaDoorW.PrintWords Go.Proofs.YteogadaloebdaaaDoorW.PrintLast Go.Proofs.YteogadaloebdaaaDoorW.PrintMore
attribute [local go_sem] max2_int min2_int max_two min_two max_three min_three max_four min_four str_geq str_gtr str_leq   -- for this text's walks alone
set_option linter.unusedVariables false
set_option linter.unusedSimpArgs false

/-! ### spec_l1Compare: function 58 -/
mutual
def spec_l1Compare.l0 : Nat → Int → ByteArray → List (S69) → Int → ByteArray → List (S69) → Int → Option (Int)
 | 0, _, _, _, _, _, _, _ => none
 | k + 1, x6, x102000, x102001, x102002, x103000, x103001, x103002 => if x6 < (x102001.length : Int) then (spec_l1Compare.j1 k x6 (decide (x6 < (x103001.length : Int))) x102000 x102001 x102002 x103000 x103001 x103002) else (spec_l1Compare.j1 k x6 false x102000 x102001 x102002 x103000 x103001 x103002)
def spec_l1Compare.j1 : Nat → Int → Bool → ByteArray → List (S69) → Int → ByteArray → List (S69) → Int → Option (Int)
 | 0, _, _, _, _, _, _, _, _ => none
 | k + 1, x6, x29, x102000, x102001, x102002, x103000, x103001, x103002 => if x29 = true then (if 0 ≤ x6 then (if x6 < (x102001.length : Int) then (if x6 < (x103001.length : Int) then ((spec_l1Text.f ((rd_T69 x102001 x6).f0) ((rd_T69 x103001 x6).f0)).bind fun t106 => (if t106 = 0 then ((spec_l1Text.f ((rd_T69 x102001 x6).f1) ((rd_T69 x103001 x6).f1)).bind fun t109 => (if t109 = 0 then (spec_l1Compare.l0 k (wrap64 (x6 + 1)) x102000 x102001 x102002 x103000 x103001 x103002) else (some t109))) else (some t106))) else (none)) else (none)) else (none)) else (if (wrap64 ((x102001.length : Int) - (x103001.length : Int))) = 0 then (spec_l1Compare.j2 k (wrap64 (x102002 - x103002))) else (spec_l1Compare.j2 k (wrap64 ((x102001.length : Int) - (x103001.length : Int)))))
def spec_l1Compare.j2 : Nat → Int → Option (Int)
 | 0, _ => none
 | k + 1, x9 => if x9 < 0 then (some (-1)) else (if x9 > 0 then (some 1) else (some 0))
end
def spec_l1Compare.f (k : Nat) (a0_0 : ByteArray) (l0_1 : List (S69)) (a0_2 : Int) (a1_0 : ByteArray) (l1_1 : List (S69)) (a1_2 : Int) : Option (Int) := (spec_l1Text.f a0_0 a1_0).bind fun t103 => (if t103 = 0 then (spec_l1Compare.l0 k 0 a0_0 l0_1 a0_2 a1_0 l1_1 a1_2) else (some t103))
theorem spec_l1Compare.mono_l : ∀ k, (∀ y0 y1 y2 y3 y4 y5 y6, LeO (spec_l1Compare.l0 k y0 y1 y2 y3 y4 y5 y6) (spec_l1Compare.l0 (k + 1) y0 y1 y2 y3 y4 y5 y6)) ∧ (∀ y0 y1 y2 y3 y4 y5 y6 y7, LeO (spec_l1Compare.j1 k y0 y1 y2 y3 y4 y5 y6 y7) (spec_l1Compare.j1 (k + 1) y0 y1 y2 y3 y4 y5 y6 y7)) ∧ (∀ y0, LeO (spec_l1Compare.j2 k y0) (spec_l1Compare.j2 (k + 1) y0))
 | 0 => ⟨fun _ _ _ _ _ _ _ r h => by simp [spec_l1Compare.l0] at h, fun _ _ _ _ _ _ _ _ r h => by simp [spec_l1Compare.j1] at h, fun _ r h => by simp [spec_l1Compare.j2] at h⟩
 | k + 1 => by
  obtain ⟨ih0, ih1, ih2⟩ := spec_l1Compare.mono_l k
  refine ⟨?_, ?_, ?_⟩
  · intro y0 y1 y2 y3 y4 y5 y6
    unfold spec_l1Compare.l0
    repeat' first
     | (with_reducible first | exact ih0 .. | exact ih1 .. | exact ih2 .. | exact LeO.refl _ | exact LeO.none _ | refine LeO.ite ?_ ?_ | refine LeO.bind ?_ (fun _ => ?_))
     | exact LeO.none _
     | refine LeO.ite ?_ ?_
     | refine LeO.bind ?_ (fun _ => ?_)
  · intro y0 y1 y2 y3 y4 y5 y6 y7
    unfold spec_l1Compare.j1
    repeat' first
     | (with_reducible first | exact ih0 .. | exact ih1 .. | exact ih2 .. | exact LeO.refl _ | exact LeO.none _ | refine LeO.ite ?_ ?_ | refine LeO.bind ?_ (fun _ => ?_))
     | exact LeO.none _
     | refine LeO.ite ?_ ?_
     | refine LeO.bind ?_ (fun _ => ?_)
  · intro y0
    unfold spec_l1Compare.j2
    repeat' first
     | (with_reducible first | exact ih0 .. | exact ih1 .. | exact ih2 .. | exact LeO.refl _ | exact LeO.none _ | refine LeO.ite ?_ ?_ | refine LeO.bind ?_ (fun _ => ?_))
     | exact LeO.none _
     | refine LeO.ite ?_ ?_
     | refine LeO.bind ?_ (fun _ => ?_)
theorem spec_l1Compare.mono : ∀ a0 a1 a2 a3 a4 a5 k, LeO (spec_l1Compare.f k a0 a1 a2 a3 a4 a5) (spec_l1Compare.f (k + 1) a0 a1 a2 a3 a4 a5) := by
 intro a0 a1 a2 a3 a4 a5 k
 obtain ⟨ih0, ih1, ih2⟩ := spec_l1Compare.mono_l k
 unfold spec_l1Compare.f
 repeat' first
  | (with_reducible first | exact ih0 .. | exact ih1 .. | exact ih2 .. | exact LeO.refl _ | exact LeO.none _ | refine LeO.ite ?_ ?_ | refine LeO.bind ?_ (fun _ => ?_))
  | exact LeO.none _
  | refine LeO.ite ?_ ?_
  | refine LeO.bind ?_ (fun _ => ?_)
set_option maxHeartbeats 8000000 in
set_option maxRecDepth 100000 in
theorem spec_l1Compare.calls (k : Nat) (a0_0 : ByteArray) (A0_1 : Option Addr) (c0_1 : Nat) (l0_1 : List (S69)) (a0_2 : Int) (a1_0 : ByteArray) (A1_1 : Option Addr) (c1_1 : Nat) (l1_1 : List (S69)) (a1_2 : Int) (r : Int) (w : World) (hr0_1 : Kd.C k69 w A0_1 l0_1.length l0_1) (hc0_1 : l0_1.length ≤ c0_1) (hr1_1 : Kd.C k69 w A1_1 l1_1.length l1_1) (hc1_1 : l1_1.length ≤ c1_1) (h : spec_l1Compare.f k a0_0 l0_1 a0_2 a1_0 l1_1 a1_2 = some r) :
 Calls Tryd.prog 58 #[.agg #[.string a0_0, .slice A0_1 l0_1.length c0_1, .int .i64 a0_2], .agg #[.string a1_0, .slice A1_1 l1_1.length c1_1, .int .i64 a1_2]] w fun e w' => e = .returned (.int .i64 r) ∧ Below w.heap.size w w' := by
 have hu25 := Tryd.underlying25
 have HR0_1 := aM hr0_1
 have HC0_1 := aM hc0_1
 clear hr0_1 hc0_1
 have HR1_1 := aM hr1_1
 have HC1_1 := aM hc1_1
 clear hr1_1 hc1_1
 have HB := aM (Below.refl w.heap.size w)
 have H : ((spec_l1Text.f a0_0 a1_0).bind fun t103 => (if t103 = 0 then (spec_l1Compare.l0 k 0 a0_0 l0_1 a0_2 a1_0 l1_1 a1_2) else (some t103))) = some r := h
 clear h
 replace H := Option.bind_eq_some_iff.mp H
 obtain ⟨t103, A30, H⟩ := H
 try dsimp only at H
 have A3 := aM A30
 clear A30
 by_cases c4 : t103 = 0
 · rw [if_pos c4] at H
   have c4b0 : (t103 == 0) = true := beq_iff_eq.mpr c4
   have c4b1 : (t103 != 0) = false := bne_eq_false_iff_eq.mpr c4
   clear c4
   have H' := aM H
   clear H
   go_enter Tryd.func58, Tryd.ntmps58
   go_wp2_with (first | ((with_reducible refine gate_dst (N := 2) rfl ?_); (try (refine gate_guard (by rfl) ?_; dsimp only)); refine box_event ?hg (N := 2) ?hd (cs := #[.string a0_0, .slice A0_1 l0_1.length c0_1, .int .i64 a0_2]) (t := 25) ?hr ?_; (case hd => rfl); (case hg => rfl); (case hr => first | (go_simp; done) | (go_simp; rfl)); intro gb101 hg w5 hbox hb; have _ := aM (below_step hbZ hb); have _ := aM hbox; have _ := szZ hg; have _ := szZ hg; clear HB; rename_i HB BK101 GW101 GE101; clear hb hbox hg) | ((with_reducible refine gate_dst (N := 3) rfl ?_); (try (refine gate_guard (by rfl) ?_; dsimp only)); refine box_event ?hg (N := 3) ?hd (cs := #[.string a1_0, .slice A1_1 l1_1.length c1_1, .int .i64 a1_2]) (t := 25) ?hr ?_; (case hd => rfl); (case hg => rfl); (case hr => first | (go_simp; done) | (go_simp; rfl)); intro gb102 hg w6 hbox hb; have _ := bB gb101 hb; have _ := aM (below_step hbZ hb); have _ := aM hbox; have _ := szZ hg; have _ := szZ hg; have ⟨_, _⟩ := nbB gb101 hg; clear BK101 HB; rename_i BK101 HB BK102 GW102 GE102 NB101_102 NB102_101; clear hb hbox hg; have hnb7 := NB101_102.out; have hnc7 := NB102_101.out; obtain ⟨hcz8_0, hcz8_1, hcz8_2, hfz8_0, hfz8_1, hfz8_2⟩ := cellsZ3 BK101.out; obtain ⟨hcz9_0, hcz9_1, hcz9_2, hfz9_0, hfz9_1, hfz9_2⟩ := cellsZ3 BK102.out) | (go_at_call 87; (with_reducible refine (spec_l1Text.calls a0_0 a1_0 t103 _ A3.out).mono ?_); rintro e w' ⟨rfl, ⟨nd, rfl⟩⟩; (try first | exact ⟨rfl, _, World.drewN_drewN _ _ _⟩ | exact ⟨rfl, _, Eq.trans (World.drewN_drewN _ _ _) (congrArg (World.drewN _) (Nat.add_assoc _ _ _))⟩)))
   repeat (go_quiet (first | ((with_reducible refine gate_dst (N := 2) rfl ?_); (try (refine gate_guard (by rfl) ?_; dsimp only)); refine box_event ?hg (N := 2) ?hd (cs := #[.string a0_0, .slice A0_1 l0_1.length c0_1, .int .i64 a0_2]) (t := 25) ?hr ?_; (case hd => rfl); (case hg => rfl); (case hr => first | (go_simp; done) | (go_simp; rfl)); intro gb101 hg w5 hbox hb; have _ := aM (below_step hbZ hb); have _ := aM hbox; have _ := szZ hg; have _ := szZ hg; clear HB; rename_i HB BK101 GW101 GE101; clear hb hbox hg) | ((with_reducible refine gate_dst (N := 3) rfl ?_); (try (refine gate_guard (by rfl) ?_; dsimp only)); refine box_event ?hg (N := 3) ?hd (cs := #[.string a1_0, .slice A1_1 l1_1.length c1_1, .int .i64 a1_2]) (t := 25) ?hr ?_; (case hd => rfl); (case hg => rfl); (case hr => first | (go_simp; done) | (go_simp; rfl)); intro gb102 hg w6 hbox hb; have _ := bB gb101 hb; have _ := aM (below_step hbZ hb); have _ := aM hbox; have _ := szZ hg; have _ := szZ hg; have ⟨_, _⟩ := nbB gb101 hg; clear BK101 HB; rename_i BK101 HB BK102 GW102 GE102 NB101_102 NB102_101; clear hb hbox hg; have hnb7 := NB101_102.out; have hnc7 := NB102_101.out; obtain ⟨hcz8_0, hcz8_1, hcz8_2, hfz8_0, hfz8_1, hfz8_2⟩ := cellsZ3 BK101.out; obtain ⟨hcz9_0, hcz9_1, hcz9_2, hfz9_0, hfz9_1, hfz9_2⟩ := cellsZ3 BK102.out) | (go_at_call 87; (with_reducible refine (spec_l1Text.calls a0_0 a1_0 t103 _ A3.out).mono ?_); rintro e w' ⟨rfl, ⟨nd, rfl⟩⟩; (try first | exact ⟨rfl, _, World.drewN_drewN _ _ _⟩ | exact ⟨rfl, _, Eq.trans (World.drewN_drewN _ _ _) (congrArg (World.drewN _) (Nat.add_assoc _ _ _))⟩))); try go_wp2_with (first | ((with_reducible refine gate_dst (N := 2) rfl ?_); (try (refine gate_guard (by rfl) ?_; dsimp only)); refine box_event ?hg (N := 2) ?hd (cs := #[.string a0_0, .slice A0_1 l0_1.length c0_1, .int .i64 a0_2]) (t := 25) ?hr ?_; (case hd => rfl); (case hg => rfl); (case hr => first | (go_simp; done) | (go_simp; rfl)); intro gb101 hg w5 hbox hb; have _ := aM (below_step hbZ hb); have _ := aM hbox; have _ := szZ hg; have _ := szZ hg; clear HB; rename_i HB BK101 GW101 GE101; clear hb hbox hg) | ((with_reducible refine gate_dst (N := 3) rfl ?_); (try (refine gate_guard (by rfl) ?_; dsimp only)); refine box_event ?hg (N := 3) ?hd (cs := #[.string a1_0, .slice A1_1 l1_1.length c1_1, .int .i64 a1_2]) (t := 25) ?hr ?_; (case hd => rfl); (case hg => rfl); (case hr => first | (go_simp; done) | (go_simp; rfl)); intro gb102 hg w6 hbox hb; have _ := bB gb101 hb; have _ := aM (below_step hbZ hb); have _ := aM hbox; have _ := szZ hg; have _ := szZ hg; have ⟨_, _⟩ := nbB gb101 hg; clear BK101 HB; rename_i BK101 HB BK102 GW102 GE102 NB101_102 NB102_101; clear hb hbox hg; have hnb7 := NB101_102.out; have hnc7 := NB102_101.out; obtain ⟨hcz8_0, hcz8_1, hcz8_2, hfz8_0, hfz8_1, hfz8_2⟩ := cellsZ3 BK101.out; obtain ⟨hcz9_0, hcz9_1, hcz9_2, hfz9_0, hfz9_1, hfz9_2⟩ := cellsZ3 BK102.out) | (go_at_call 87; (with_reducible refine (spec_l1Text.calls a0_0 a1_0 t103 _ A3.out).mono ?_); rintro e w' ⟨rfl, ⟨nd, rfl⟩⟩; (try first | exact ⟨rfl, _, World.drewN_drewN _ _ _⟩ | exact ⟨rfl, _, Eq.trans (World.drewN_drewN _ _ _) (congrArg (World.drewN _) (Nat.add_assoc _ _ _))⟩))))
   go_loopg [6] k (fun kq v6 w' => ∃ (x6_1 : Int), v6 = .int .i64 x6_1 ∧ Aside0 (spec_l1Compare.l0 kq x6_1 a0_0 l0_1 a0_2 a1_0 l1_1 a1_2 = some r) ∧ Aside0 (kq ≤ k) ∧ Aside0 (w'.heap[gb101]? = some (.cells #[.string a0_0, (.slice A0_1 l0_1.length c0_1), .int .i64 a0_2] 25 (0, 0))) ∧ Aside0 (w'.heap[gb102]? = some (.cells #[.string a1_0, (.slice A1_1 l1_1.length c1_1), .int .i64 a1_2] 25 (0, 0))) ∧ Aside0 (Below w.heap.size w w'))
   case atStart => exact ⟨(0), z4458, H', ⟨Nat.le_refl _⟩, ⟨bkZ⟩, ⟨bkZ⟩, ⟨zcb41⟩⟩
   case round =>
    clear H'
    try clear c1
    try clear p2
    try clear c4
    try clear c4b0
    try clear c4b1
    try clear c5
    try clear c7
    try clear hcz8_0 hcz8_1 hcz8_2
    try clear hcz9_0 hcz9_1 hcz9_2
    try clear hfz8_0 hfz8_1 hfz8_2
    try clear hfz9_0 hfz9_1 hfz9_2
    obtain ⟨x6_1, rfl, HA, HK1, BK101, BK102, HB⟩ := hrel
    cases gk with
    | zero => exact absurd HA.out (by simp [spec_l1Compare.l0])
    | succ k1 =>
     have H := HA.out
     clear HA
     simp only [spec_l1Compare.l0] at H
     have HC10 := aM H
     clear H
     go_upto_region 5 with (fail)
     repeat (go_quiet (fail); go_upto_region 5 with (fail))
     go_cut [29] (fun v29 wc => ∃ (kq : Nat) (x29_9 : Bool), v29 = .bool x29_9 ∧ Aside0 (spec_l1Compare.j1 kq x6_1 x29_9 a0_0 l0_1 a0_2 a1_0 l1_1 a1_2 = some r) ∧ Aside0 (kq ≤ k1) ∧ Aside0 (wc.heap[gb101]? = some (.cells #[.string a0_0, (.slice A0_1 l0_1.length c0_1), .int .i64 a0_2] 25 (0, 0))) ∧ Aside0 (wc.heap[gb102]? = some (.cells #[.string a1_0, (.slice A1_1 l1_1.length c1_1), .int .i64 a1_2] 25 (0, 0))) ∧ Aside0 (Below w.heap.size w wc))
     case first =>
      have H := HC10.out
      clear HC10
      by_cases c11 : x6_1 < (l0_1.length : Int)
      · rw [if_pos c11] at H
        have c11b0 : decide (x6_1 < (l0_1.length : Int)) = true := decide_eq_true c11
        clear c11
        (first | rw [c11b0] | (simp only [i64_w, i32_w]; rw [c11b0]) | skip)
        have H' := aM H
        clear H
        have hnb12 := NB101_102.out
        have hnc12 := NB102_101.out
        obtain ⟨hcz13_0, hcz13_1, hcz13_2, hfz13_0, hfz13_1, hfz13_2⟩ := cellsZ3 BK101.out
        obtain ⟨hcz14_0, hcz14_1, hcz14_2, hfz14_0, hfz14_1, hfz14_2⟩ := cellsZ3 BK102.out
        go_wp2
        repeat (go_quiet (fail); try go_wp2)
        go_meet
        case rel => exact ⟨_, (decide (x6_1 < (l1_1.length : Int))), z4458, H', ⟨ze59a⟩, ⟨bkZ⟩, ⟨bkZ⟩, ⟨zcb41⟩⟩
      · rw [if_neg c11] at H
        have c11b0 : decide (x6_1 < (l0_1.length : Int)) = false := decide_eq_false c11
        clear c11
        (first | rw [c11b0] | (simp only [i64_w, i32_w]; rw [c11b0]) | skip)
        have H' := aM H
        clear H
        have hnb15 := NB101_102.out
        have hnc15 := NB102_101.out
        obtain ⟨hcz16_0, hcz16_1, hcz16_2, hfz16_0, hfz16_1, hfz16_2⟩ := cellsZ3 BK101.out
        go_wp2
        repeat (go_quiet (fail); try go_wp2)
        go_meet
        case rel => exact ⟨_, (false), z4458, H', ⟨ze59a⟩, ⟨bkZ⟩, ⟨bkZ⟩, ⟨zcb41⟩⟩
     case rest =>
      clear HC10
      try clear c1
      try clear p2
      try clear c4
      try clear c4b0
      try clear c4b1
      try clear c5
      try clear c7
      try clear c11
      try clear c11b0
      try clear c12
      try clear c15
      try clear hcz13_0 hcz13_1 hcz13_2
      try clear hcz14_0 hcz14_1 hcz14_2
      try clear hcz16_0 hcz16_1 hcz16_2
      try clear hcz8_0 hcz8_1 hcz8_2
      try clear hcz9_0 hcz9_1 hcz9_2
      try clear hfz13_0 hfz13_1 hfz13_2
      try clear hfz14_0 hfz14_1 hfz14_2
      try clear hfz16_0 hfz16_1 hfz16_2
      try clear hfz8_0 hfz8_1 hfz8_2
      try clear hfz9_0 hfz9_1 hfz9_2
      try clear p2
      obtain ⟨kq, x29_9, rfl, HA, HJ9, BK101, BK102, HB⟩ := hcut
      cases kq with
      | zero => exact absurd HA.out (by simp [spec_l1Compare.j1])
      | succ kj9 =>
       have H := HA.out
       clear HA
       simp only [spec_l1Compare.j1] at H
       by_cases c17 : x29_9 = true
       · subst c17
         have H1 : (if 0 ≤ x6_1 then (if x6_1 < (l0_1.length : Int) then (if x6_1 < (l1_1.length : Int) then ((spec_l1Text.f ((rd_T69 l0_1 x6_1).f0) ((rd_T69 l1_1 x6_1).f0)).bind fun t106 => (if t106 = 0 then ((spec_l1Text.f ((rd_T69 l0_1 x6_1).f1) ((rd_T69 l1_1 x6_1).f1)).bind fun t109 => (if t109 = 0 then (spec_l1Compare.l0 kj9 (wrap64 (x6_1 + 1)) a0_0 l0_1 a0_2 a1_0 l1_1 a1_2) else (some t109))) else (some t106))) else (none)) else (none)) else (none)) = some r := by rw [if_pos rfl] at H; exact H
         clear H
         have H := H1
         clear H1
         by_cases c18 : 0 ≤ x6_1
         · rw [if_pos c18] at H
           have c18b0 : decide (0 ≤ x6_1) = true := decide_eq_true c18
           clear c18
           by_cases c19 : x6_1 < (l0_1.length : Int)
           · rw [if_pos c19] at H
             have c19b0 : decide (x6_1 < (l0_1.length : Int)) = true := decide_eq_true c19
             clear c19
             by_cases c20 : x6_1 < (l1_1.length : Int)
             · rw [if_pos c20] at H
               have c20b0 : decide (x6_1 < (l1_1.length : Int)) = true := decide_eq_true c20
               clear c20
               replace H := Option.bind_eq_some_iff.mp H
               obtain ⟨t106, A210, H⟩ := H
               try dsimp only at H
               have A21 := aM A210
               clear A210
               by_cases c22 : t106 = 0
               · rw [if_pos c22] at H
                 have c22b0 : (t106 == 0) = true := beq_iff_eq.mpr c22
                 have c22b1 : (t106 != 0) = false := bne_eq_false_iff_eq.mpr c22
                 clear c22
                 replace H := Option.bind_eq_some_iff.mp H
                 obtain ⟨t109, A230, H⟩ := H
                 try dsimp only at H
                 have A23 := aM A230
                 clear A230
                 by_cases c24 : t109 = 0
                 · rw [if_pos c24] at H
                   have c24b0 : (t109 == 0) = true := beq_iff_eq.mpr c24
                   have c24b1 : (t109 != 0) = false := bne_eq_false_iff_eq.mpr c24
                   clear c24
                   have H' := aM H
                   clear H
                   have hnb25 := NB101_102.out
                   have hnc25 := NB102_101.out
                   obtain ⟨hcz26_0, hcz26_1, hcz26_2, hfz26_0, hfz26_1, hfz26_2⟩ := cellsZ3 BK101.out
                   have p104 : 0 ≤ (x6_1 : Int) := of_decide_eq_true z1200
                   have q104 : x6_1 < (l0_1.length : Int) := of_decide_eq_true z1200
                   obtain ⟨ad104, e104, hx104_0, hx104_1⟩ := at_T69 HR0_1.out x6_1 p104 q104
                   cases e104
                   replace hx104_0 := (HB.out.cell (World.block_lt_of_cell? w _ hx104_0)).trans hx104_0
                   replace hx104_1 := (HB.out.cell (World.block_lt_of_cell? w _ hx104_1)).trans hx104_1
                   replace p104 := eq_true p104
                   replace q104 := eq_true q104
                   obtain ⟨hcz27_0, hcz27_1, hcz27_2, hfz27_0, hfz27_1, hfz27_2⟩ := cellsZ3 BK102.out
                   have p105 : 0 ≤ (x6_1 : Int) := of_decide_eq_true z1200
                   have q105 : x6_1 < (l1_1.length : Int) := of_decide_eq_true z1200
                   obtain ⟨ad105, e105, hx105_0, hx105_1⟩ := at_T69 HR1_1.out x6_1 p105 q105
                   cases e105
                   replace hx105_0 := (HB.out.cell (World.block_lt_of_cell? w _ hx105_0)).trans hx105_0
                   replace hx105_1 := (HB.out.cell (World.block_lt_of_cell? w _ hx105_1)).trans hx105_1
                   replace p105 := eq_true p105
                   replace q105 := eq_true q105
                   go_wp2_with (first | (go_at_call 87; (with_reducible refine (spec_l1Text.calls ((rd_T69 l0_1 x6_1).f0) ((rd_T69 l1_1 x6_1).f0) t106 _ A21.out).mono ?_); rintro e w' ⟨rfl, ⟨nd, rfl⟩⟩; (try first | exact ⟨rfl, _, World.drewN_drewN _ _ _⟩ | exact ⟨rfl, _, Eq.trans (World.drewN_drewN _ _ _) (congrArg (World.drewN _) (Nat.add_assoc _ _ _))⟩); have p107 : 0 ≤ (x6_1 : Int) := of_decide_eq_true z1200; have q107 : x6_1 < (l0_1.length : Int) := of_decide_eq_true z1200; obtain ⟨ad107, e107, hx107_0, hx107_1⟩ := at_T69 HR0_1.out x6_1 p107 q107; obtain rfl : ad104 = ad107 := (by injection e107); replace hx107_0 := (HB.out.cell (World.block_lt_of_cell? w _ hx107_0)).trans hx107_0; replace hx107_1 := (HB.out.cell (World.block_lt_of_cell? w _ hx107_1)).trans hx107_1; replace p107 := eq_true p107; replace q107 := eq_true q107; have p108 : 0 ≤ (x6_1 : Int) := of_decide_eq_true z1200; have q108 : x6_1 < (l1_1.length : Int) := of_decide_eq_true z1200; obtain ⟨ad108, e108, hx108_0, hx108_1⟩ := at_T69 HR1_1.out x6_1 p108 q108; obtain rfl : ad105 = ad108 := (by injection e108); replace hx108_0 := (HB.out.cell (World.block_lt_of_cell? w _ hx108_0)).trans hx108_0; replace hx108_1 := (HB.out.cell (World.block_lt_of_cell? w _ hx108_1)).trans hx108_1; replace p108 := eq_true p108; replace q108 := eq_true q108) | (go_at_call 87; (with_reducible refine (spec_l1Text.calls ((rd_T69 l0_1 x6_1).f1) ((rd_T69 l1_1 x6_1).f1) t109 _ A23.out).mono ?_); rintro e w' ⟨rfl, ⟨nd, rfl⟩⟩; (try first | exact ⟨rfl, _, World.drewN_drewN _ _ _⟩ | exact ⟨rfl, _, Eq.trans (World.drewN_drewN _ _ _) (congrArg (World.drewN _) (Nat.add_assoc _ _ _))⟩)))
                   repeat (go_quiet (first | (go_at_call 87; (with_reducible refine (spec_l1Text.calls ((rd_T69 l0_1 x6_1).f0) ((rd_T69 l1_1 x6_1).f0) t106 _ A21.out).mono ?_); rintro e w' ⟨rfl, ⟨nd, rfl⟩⟩; (try first | exact ⟨rfl, _, World.drewN_drewN _ _ _⟩ | exact ⟨rfl, _, Eq.trans (World.drewN_drewN _ _ _) (congrArg (World.drewN _) (Nat.add_assoc _ _ _))⟩); have p107 : 0 ≤ (x6_1 : Int) := of_decide_eq_true z1200; have q107 : x6_1 < (l0_1.length : Int) := of_decide_eq_true z1200; obtain ⟨ad107, e107, hx107_0, hx107_1⟩ := at_T69 HR0_1.out x6_1 p107 q107; obtain rfl : ad104 = ad107 := (by injection e107); replace hx107_0 := (HB.out.cell (World.block_lt_of_cell? w _ hx107_0)).trans hx107_0; replace hx107_1 := (HB.out.cell (World.block_lt_of_cell? w _ hx107_1)).trans hx107_1; replace p107 := eq_true p107; replace q107 := eq_true q107; have p108 : 0 ≤ (x6_1 : Int) := of_decide_eq_true z1200; have q108 : x6_1 < (l1_1.length : Int) := of_decide_eq_true z1200; obtain ⟨ad108, e108, hx108_0, hx108_1⟩ := at_T69 HR1_1.out x6_1 p108 q108; obtain rfl : ad105 = ad108 := (by injection e108); replace hx108_0 := (HB.out.cell (World.block_lt_of_cell? w _ hx108_0)).trans hx108_0; replace hx108_1 := (HB.out.cell (World.block_lt_of_cell? w _ hx108_1)).trans hx108_1; replace p108 := eq_true p108; replace q108 := eq_true q108) | (go_at_call 87; (with_reducible refine (spec_l1Text.calls ((rd_T69 l0_1 x6_1).f1) ((rd_T69 l1_1 x6_1).f1) t109 _ A23.out).mono ?_); rintro e w' ⟨rfl, ⟨nd, rfl⟩⟩; (try first | exact ⟨rfl, _, World.drewN_drewN _ _ _⟩ | exact ⟨rfl, _, Eq.trans (World.drewN_drewN _ _ _) (congrArg (World.drewN _) (Nat.add_assoc _ _ _))⟩))); try go_wp2_with (first | (go_at_call 87; (with_reducible refine (spec_l1Text.calls ((rd_T69 l0_1 x6_1).f0) ((rd_T69 l1_1 x6_1).f0) t106 _ A21.out).mono ?_); rintro e w' ⟨rfl, ⟨nd, rfl⟩⟩; (try first | exact ⟨rfl, _, World.drewN_drewN _ _ _⟩ | exact ⟨rfl, _, Eq.trans (World.drewN_drewN _ _ _) (congrArg (World.drewN _) (Nat.add_assoc _ _ _))⟩); have p107 : 0 ≤ (x6_1 : Int) := of_decide_eq_true z1200; have q107 : x6_1 < (l0_1.length : Int) := of_decide_eq_true z1200; obtain ⟨ad107, e107, hx107_0, hx107_1⟩ := at_T69 HR0_1.out x6_1 p107 q107; obtain rfl : ad104 = ad107 := (by injection e107); replace hx107_0 := (HB.out.cell (World.block_lt_of_cell? w _ hx107_0)).trans hx107_0; replace hx107_1 := (HB.out.cell (World.block_lt_of_cell? w _ hx107_1)).trans hx107_1; replace p107 := eq_true p107; replace q107 := eq_true q107; have p108 : 0 ≤ (x6_1 : Int) := of_decide_eq_true z1200; have q108 : x6_1 < (l1_1.length : Int) := of_decide_eq_true z1200; obtain ⟨ad108, e108, hx108_0, hx108_1⟩ := at_T69 HR1_1.out x6_1 p108 q108; obtain rfl : ad105 = ad108 := (by injection e108); replace hx108_0 := (HB.out.cell (World.block_lt_of_cell? w _ hx108_0)).trans hx108_0; replace hx108_1 := (HB.out.cell (World.block_lt_of_cell? w _ hx108_1)).trans hx108_1; replace p108 := eq_true p108; replace q108 := eq_true q108) | (go_at_call 87; (with_reducible refine (spec_l1Text.calls ((rd_T69 l0_1 x6_1).f1) ((rd_T69 l1_1 x6_1).f1) t109 _ A23.out).mono ?_); rintro e w' ⟨rfl, ⟨nd, rfl⟩⟩; (try first | exact ⟨rfl, _, World.drewN_drewN _ _ _⟩ | exact ⟨rfl, _, Eq.trans (World.drewN_drewN _ _ _) (congrArg (World.drewN _) (Nat.add_assoc _ _ _))⟩))))
                   go_roundg kj9
                   case measure => have := HK1.out; have := HJ9.out; omega
                   case rel => exact ⟨(wrap64 (x6_1 + 1)), z4458, H', ⟨by have := HK1.out; have := HJ9.out; omega⟩, ⟨bkZ⟩, ⟨bkZ⟩, ⟨zcb41⟩⟩
                 · rw [if_neg c24] at H
                   have c24b0 : (t109 == 0) = false := beq_eq_false_iff_ne.mpr c24
                   have c24b1 : (t109 != 0) = true := bne_iff_ne.mpr c24
                   obtain rfl := Option.some.inj H
                   have hnb28 := NB101_102.out
                   have hnc28 := NB102_101.out
                   obtain ⟨hcz29_0, hcz29_1, hcz29_2, hfz29_0, hfz29_1, hfz29_2⟩ := cellsZ3 BK101.out
                   have p104 : 0 ≤ (x6_1 : Int) := of_decide_eq_true z1200
                   have q104 : x6_1 < (l0_1.length : Int) := of_decide_eq_true z1200
                   obtain ⟨ad104, e104, hx104_0, hx104_1⟩ := at_T69 HR0_1.out x6_1 p104 q104
                   cases e104
                   replace hx104_0 := (HB.out.cell (World.block_lt_of_cell? w _ hx104_0)).trans hx104_0
                   replace hx104_1 := (HB.out.cell (World.block_lt_of_cell? w _ hx104_1)).trans hx104_1
                   replace p104 := eq_true p104
                   replace q104 := eq_true q104
                   obtain ⟨hcz30_0, hcz30_1, hcz30_2, hfz30_0, hfz30_1, hfz30_2⟩ := cellsZ3 BK102.out
                   have p105 : 0 ≤ (x6_1 : Int) := of_decide_eq_true z1200
                   have q105 : x6_1 < (l1_1.length : Int) := of_decide_eq_true z1200
                   obtain ⟨ad105, e105, hx105_0, hx105_1⟩ := at_T69 HR1_1.out x6_1 p105 q105
                   cases e105
                   replace hx105_0 := (HB.out.cell (World.block_lt_of_cell? w _ hx105_0)).trans hx105_0
                   replace hx105_1 := (HB.out.cell (World.block_lt_of_cell? w _ hx105_1)).trans hx105_1
                   replace p105 := eq_true p105
                   replace q105 := eq_true q105
                   go_wp2_with (first | (go_at_call 87; (with_reducible refine (spec_l1Text.calls ((rd_T69 l0_1 x6_1).f0) ((rd_T69 l1_1 x6_1).f0) t106 _ A21.out).mono ?_); rintro e w' ⟨rfl, ⟨nd, rfl⟩⟩; (try first | exact ⟨rfl, _, World.drewN_drewN _ _ _⟩ | exact ⟨rfl, _, Eq.trans (World.drewN_drewN _ _ _) (congrArg (World.drewN _) (Nat.add_assoc _ _ _))⟩); have p107 : 0 ≤ (x6_1 : Int) := of_decide_eq_true z1200; have q107 : x6_1 < (l0_1.length : Int) := of_decide_eq_true z1200; obtain ⟨ad107, e107, hx107_0, hx107_1⟩ := at_T69 HR0_1.out x6_1 p107 q107; obtain rfl : ad104 = ad107 := (by injection e107); replace hx107_0 := (HB.out.cell (World.block_lt_of_cell? w _ hx107_0)).trans hx107_0; replace hx107_1 := (HB.out.cell (World.block_lt_of_cell? w _ hx107_1)).trans hx107_1; replace p107 := eq_true p107; replace q107 := eq_true q107; have p108 : 0 ≤ (x6_1 : Int) := of_decide_eq_true z1200; have q108 : x6_1 < (l1_1.length : Int) := of_decide_eq_true z1200; obtain ⟨ad108, e108, hx108_0, hx108_1⟩ := at_T69 HR1_1.out x6_1 p108 q108; obtain rfl : ad105 = ad108 := (by injection e108); replace hx108_0 := (HB.out.cell (World.block_lt_of_cell? w _ hx108_0)).trans hx108_0; replace hx108_1 := (HB.out.cell (World.block_lt_of_cell? w _ hx108_1)).trans hx108_1; replace p108 := eq_true p108; replace q108 := eq_true q108) | (go_at_call 87; (with_reducible refine (spec_l1Text.calls ((rd_T69 l0_1 x6_1).f1) ((rd_T69 l1_1 x6_1).f1) t109 _ A23.out).mono ?_); rintro e w' ⟨rfl, ⟨nd, rfl⟩⟩; (try first | exact ⟨rfl, _, World.drewN_drewN _ _ _⟩ | exact ⟨rfl, _, Eq.trans (World.drewN_drewN _ _ _) (congrArg (World.drewN _) (Nat.add_assoc _ _ _))⟩)))
                   repeat (go_quiet (first | (go_at_call 87; (with_reducible refine (spec_l1Text.calls ((rd_T69 l0_1 x6_1).f0) ((rd_T69 l1_1 x6_1).f0) t106 _ A21.out).mono ?_); rintro e w' ⟨rfl, ⟨nd, rfl⟩⟩; (try first | exact ⟨rfl, _, World.drewN_drewN _ _ _⟩ | exact ⟨rfl, _, Eq.trans (World.drewN_drewN _ _ _) (congrArg (World.drewN _) (Nat.add_assoc _ _ _))⟩); have p107 : 0 ≤ (x6_1 : Int) := of_decide_eq_true z1200; have q107 : x6_1 < (l0_1.length : Int) := of_decide_eq_true z1200; obtain ⟨ad107, e107, hx107_0, hx107_1⟩ := at_T69 HR0_1.out x6_1 p107 q107; obtain rfl : ad104 = ad107 := (by injection e107); replace hx107_0 := (HB.out.cell (World.block_lt_of_cell? w _ hx107_0)).trans hx107_0; replace hx107_1 := (HB.out.cell (World.block_lt_of_cell? w _ hx107_1)).trans hx107_1; replace p107 := eq_true p107; replace q107 := eq_true q107; have p108 : 0 ≤ (x6_1 : Int) := of_decide_eq_true z1200; have q108 : x6_1 < (l1_1.length : Int) := of_decide_eq_true z1200; obtain ⟨ad108, e108, hx108_0, hx108_1⟩ := at_T69 HR1_1.out x6_1 p108 q108; obtain rfl : ad105 = ad108 := (by injection e108); replace hx108_0 := (HB.out.cell (World.block_lt_of_cell? w _ hx108_0)).trans hx108_0; replace hx108_1 := (HB.out.cell (World.block_lt_of_cell? w _ hx108_1)).trans hx108_1; replace p108 := eq_true p108; replace q108 := eq_true q108) | (go_at_call 87; (with_reducible refine (spec_l1Text.calls ((rd_T69 l0_1 x6_1).f1) ((rd_T69 l1_1 x6_1).f1) t109 _ A23.out).mono ?_); rintro e w' ⟨rfl, ⟨nd, rfl⟩⟩; (try first | exact ⟨rfl, _, World.drewN_drewN _ _ _⟩ | exact ⟨rfl, _, Eq.trans (World.drewN_drewN _ _ _) (congrArg (World.drewN _) (Nat.add_assoc _ _ _))⟩))); try go_wp2_with (first | (go_at_call 87; (with_reducible refine (spec_l1Text.calls ((rd_T69 l0_1 x6_1).f0) ((rd_T69 l1_1 x6_1).f0) t106 _ A21.out).mono ?_); rintro e w' ⟨rfl, ⟨nd, rfl⟩⟩; (try first | exact ⟨rfl, _, World.drewN_drewN _ _ _⟩ | exact ⟨rfl, _, Eq.trans (World.drewN_drewN _ _ _) (congrArg (World.drewN _) (Nat.add_assoc _ _ _))⟩); have p107 : 0 ≤ (x6_1 : Int) := of_decide_eq_true z1200; have q107 : x6_1 < (l0_1.length : Int) := of_decide_eq_true z1200; obtain ⟨ad107, e107, hx107_0, hx107_1⟩ := at_T69 HR0_1.out x6_1 p107 q107; obtain rfl : ad104 = ad107 := (by injection e107); replace hx107_0 := (HB.out.cell (World.block_lt_of_cell? w _ hx107_0)).trans hx107_0; replace hx107_1 := (HB.out.cell (World.block_lt_of_cell? w _ hx107_1)).trans hx107_1; replace p107 := eq_true p107; replace q107 := eq_true q107; have p108 : 0 ≤ (x6_1 : Int) := of_decide_eq_true z1200; have q108 : x6_1 < (l1_1.length : Int) := of_decide_eq_true z1200; obtain ⟨ad108, e108, hx108_0, hx108_1⟩ := at_T69 HR1_1.out x6_1 p108 q108; obtain rfl : ad105 = ad108 := (by injection e108); replace hx108_0 := (HB.out.cell (World.block_lt_of_cell? w _ hx108_0)).trans hx108_0; replace hx108_1 := (HB.out.cell (World.block_lt_of_cell? w _ hx108_1)).trans hx108_1; replace p108 := eq_true p108; replace q108 := eq_true q108) | (go_at_call 87; (with_reducible refine (spec_l1Text.calls ((rd_T69 l0_1 x6_1).f1) ((rd_T69 l1_1 x6_1).f1) t109 _ A23.out).mono ?_); rintro e w' ⟨rfl, ⟨nd, rfl⟩⟩; (try first | exact ⟨rfl, _, World.drewN_drewN _ _ _⟩ | exact ⟨rfl, _, Eq.trans (World.drewN_drewN _ _ _) (congrArg (World.drewN _) (Nat.add_assoc _ _ _))⟩))))
                   go_ret
                   exact ⟨z674d, zcb41⟩
               · rw [if_neg c22] at H
                 have c22b0 : (t106 == 0) = false := beq_eq_false_iff_ne.mpr c22
                 have c22b1 : (t106 != 0) = true := bne_iff_ne.mpr c22
                 obtain rfl := Option.some.inj H
                 have hnb31 := NB101_102.out
                 have hnc31 := NB102_101.out
                 obtain ⟨hcz32_0, hcz32_1, hcz32_2, hfz32_0, hfz32_1, hfz32_2⟩ := cellsZ3 BK101.out
                 have p104 : 0 ≤ (x6_1 : Int) := of_decide_eq_true z1200
                 have q104 : x6_1 < (l0_1.length : Int) := of_decide_eq_true z1200
                 obtain ⟨ad104, e104, hx104_0, hx104_1⟩ := at_T69 HR0_1.out x6_1 p104 q104
                 cases e104
                 replace hx104_0 := (HB.out.cell (World.block_lt_of_cell? w _ hx104_0)).trans hx104_0
                 replace hx104_1 := (HB.out.cell (World.block_lt_of_cell? w _ hx104_1)).trans hx104_1
                 replace p104 := eq_true p104
                 replace q104 := eq_true q104
                 obtain ⟨hcz33_0, hcz33_1, hcz33_2, hfz33_0, hfz33_1, hfz33_2⟩ := cellsZ3 BK102.out
                 have p105 : 0 ≤ (x6_1 : Int) := of_decide_eq_true z1200
                 have q105 : x6_1 < (l1_1.length : Int) := of_decide_eq_true z1200
                 obtain ⟨ad105, e105, hx105_0, hx105_1⟩ := at_T69 HR1_1.out x6_1 p105 q105
                 cases e105
                 replace hx105_0 := (HB.out.cell (World.block_lt_of_cell? w _ hx105_0)).trans hx105_0
                 replace hx105_1 := (HB.out.cell (World.block_lt_of_cell? w _ hx105_1)).trans hx105_1
                 replace p105 := eq_true p105
                 replace q105 := eq_true q105
                 go_wp2_with (first | (go_at_call 87; (with_reducible refine (spec_l1Text.calls ((rd_T69 l0_1 x6_1).f0) ((rd_T69 l1_1 x6_1).f0) t106 _ A21.out).mono ?_); rintro e w' ⟨rfl, ⟨nd, rfl⟩⟩; (try first | exact ⟨rfl, _, World.drewN_drewN _ _ _⟩ | exact ⟨rfl, _, Eq.trans (World.drewN_drewN _ _ _) (congrArg (World.drewN _) (Nat.add_assoc _ _ _))⟩)))
                 repeat (go_quiet (first | (go_at_call 87; (with_reducible refine (spec_l1Text.calls ((rd_T69 l0_1 x6_1).f0) ((rd_T69 l1_1 x6_1).f0) t106 _ A21.out).mono ?_); rintro e w' ⟨rfl, ⟨nd, rfl⟩⟩; (try first | exact ⟨rfl, _, World.drewN_drewN _ _ _⟩ | exact ⟨rfl, _, Eq.trans (World.drewN_drewN _ _ _) (congrArg (World.drewN _) (Nat.add_assoc _ _ _))⟩))); try go_wp2_with (first | (go_at_call 87; (with_reducible refine (spec_l1Text.calls ((rd_T69 l0_1 x6_1).f0) ((rd_T69 l1_1 x6_1).f0) t106 _ A21.out).mono ?_); rintro e w' ⟨rfl, ⟨nd, rfl⟩⟩; (try first | exact ⟨rfl, _, World.drewN_drewN _ _ _⟩ | exact ⟨rfl, _, Eq.trans (World.drewN_drewN _ _ _) (congrArg (World.drewN _) (Nat.add_assoc _ _ _))⟩))))
                 go_ret
                 exact ⟨z674d, zcb41⟩
             · rw [if_neg c20] at H
               exact absurd H (by simp)
           · rw [if_neg c19] at H
             exact absurd H (by simp)
         · rw [if_neg c18] at H
           exact absurd H (by simp)
       · replace c17 := Bool.eq_false_iff.mpr c17
         subst c17
         have H1 : (if (wrap64 ((l0_1.length : Int) - (l1_1.length : Int))) = 0 then (spec_l1Compare.j2 kj9 (wrap64 (a0_2 - a1_2))) else (spec_l1Compare.j2 kj9 (wrap64 ((l0_1.length : Int) - (l1_1.length : Int))))) = some r := by rw [if_neg (show ¬ (false = true) by decide)] at H; exact H
         clear H
         have H := H1
         clear H1
         have HC34 := aM H
         clear H
         have hnb35 := NB101_102.out
         have hnc35 := NB102_101.out
         obtain ⟨hcz36_0, hcz36_1, hcz36_2, hfz36_0, hfz36_1, hfz36_2⟩ := cellsZ3 BK101.out
         obtain ⟨hcz37_0, hcz37_1, hcz37_2, hfz37_0, hfz37_1, hfz37_2⟩ := cellsZ3 BK102.out
         go_upto_if 72 with (fail)
         repeat (go_quiet (fail); go_upto_if 72 with (fail))
         go_cut [9] (fun v9 wc => ∃ (kq : Nat) (x9_33 : Int), v9 = .int .i64 x9_33 ∧ Aside0 (spec_l1Compare.j2 kq x9_33 = some r) ∧ Aside0 (kq ≤ kj9) ∧ Aside0 (wc.heap[gb101]? = some (.cells #[.string a0_0, (.slice A0_1 l0_1.length c0_1), .int .i64 a0_2] 25 (0, 0))) ∧ Aside0 (wc.heap[gb102]? = some (.cells #[.string a1_0, (.slice A1_1 l1_1.length c1_1), .int .i64 a1_2] 25 (0, 0))) ∧ Aside0 (Below w.heap.size w wc))
         case first =>
          have H := HC34.out
          clear HC34
          by_cases c38 : (wrap64 ((l0_1.length : Int) - (l1_1.length : Int))) = 0
          · rw [if_pos c38] at H
            have c38b0 : ((wrap64 ((l0_1.length : Int) - (l1_1.length : Int))) == 0) = true := beq_iff_eq.mpr c38
            have c38b1 : ((wrap64 ((l0_1.length : Int) - (l1_1.length : Int))) != 0) = false := bne_eq_false_iff_eq.mpr c38
            clear c38
            (first | rw [c38b0] | (simp only [i64_w, i32_w]; rw [c38b0]) | skip)
            have H' := aM H
            clear H
            have hnb39 := NB101_102.out
            have hnc39 := NB102_101.out
            obtain ⟨hcz40_0, hcz40_1, hcz40_2, hfz40_0, hfz40_1, hfz40_2⟩ := cellsZ3 BK101.out
            obtain ⟨hcz41_0, hcz41_1, hcz41_2, hfz41_0, hfz41_1, hfz41_2⟩ := cellsZ3 BK102.out
            go_wp2
            repeat (go_quiet (fail); try go_wp2)
            go_meet
            case rel => exact ⟨_, (wrap64 (a0_2 - a1_2)), z4458, H', ⟨by have := HK1.out; have := HJ9.out; first | omega | exact Nat.le_refl _⟩, ⟨bkZ⟩, ⟨bkZ⟩, ⟨zcb41⟩⟩
          · rw [if_neg c38] at H
            have c38b0 : ((wrap64 ((l0_1.length : Int) - (l1_1.length : Int))) == 0) = false := beq_eq_false_iff_ne.mpr c38
            have c38b1 : ((wrap64 ((l0_1.length : Int) - (l1_1.length : Int))) != 0) = true := bne_iff_ne.mpr c38
            (first | rw [c38b0] | (simp only [i64_w, i32_w]; rw [c38b0]) | skip)
            have H' := aM H
            clear H
            go_wp2
            repeat (go_quiet (fail); try go_wp2)
            go_meet
            case rel => exact ⟨_, (wrap64 ((l0_1.length : Int) - (l1_1.length : Int))), z4458, H', ⟨by have := HK1.out; have := HJ9.out; first | omega | exact Nat.le_refl _⟩, ⟨bkZ⟩, ⟨bkZ⟩, ⟨zcb41⟩⟩
         case rest =>
          clear HC34
          try clear c1
          try clear p1
          try clear q1
          try clear hx1
          try clear c2
          try clear p2
          try clear c3
          try clear c4
          try clear c4b0
          try clear c4b1
          try clear c5
          try clear p6
          try clear c7
          try clear p10
          try clear q10
          try clear hx10
          try clear c11
          try clear c11b0
          try clear c12
          try clear c15
          try clear c17
          try clear c18
          try clear c18b0
          try clear c19
          try clear c19b0
          try clear c20
          try clear c20b0
          try clear c22
          try clear c22b0
          try clear c22b1
          try clear c24
          try clear c24b0
          try clear c24b1
          try clear c25
          try clear c28
          try clear c31
          try clear c35
          try clear c38
          try clear c38b0
          try clear c38b1
          try clear c39
          try clear hcz13_0 hcz13_1 hcz13_2
          try clear hcz14_0 hcz14_1 hcz14_2
          try clear hcz16_0 hcz16_1 hcz16_2
          try clear hcz26_0 hcz26_1 hcz26_2
          try clear hcz27_0 hcz27_1 hcz27_2
          try clear hcz29_0 hcz29_1 hcz29_2
          try clear hcz30_0 hcz30_1 hcz30_2
          try clear hcz32_0 hcz32_1 hcz32_2
          try clear hcz33_0 hcz33_1 hcz33_2
          try clear hcz36_0 hcz36_1 hcz36_2
          try clear hcz37_0 hcz37_1 hcz37_2
          try clear hcz40_0 hcz40_1 hcz40_2
          try clear hcz41_0 hcz41_1 hcz41_2
          try clear hcz8_0 hcz8_1 hcz8_2
          try clear hcz9_0 hcz9_1 hcz9_2
          try clear hfz13_0 hfz13_1 hfz13_2
          try clear hfz14_0 hfz14_1 hfz14_2
          try clear hfz16_0 hfz16_1 hfz16_2
          try clear hfz26_0 hfz26_1 hfz26_2
          try clear hfz27_0 hfz27_1 hfz27_2
          try clear hfz29_0 hfz29_1 hfz29_2
          try clear hfz30_0 hfz30_1 hfz30_2
          try clear hfz32_0 hfz32_1 hfz32_2
          try clear hfz33_0 hfz33_1 hfz33_2
          try clear hfz36_0 hfz36_1 hfz36_2
          try clear hfz37_0 hfz37_1 hfz37_2
          try clear hfz40_0 hfz40_1 hfz40_2
          try clear hfz41_0 hfz41_1 hfz41_2
          try clear hfz8_0 hfz8_1 hfz8_2
          try clear hfz9_0 hfz9_1 hfz9_2
          try clear hx104_0
          try clear hx104_1
          try clear hx105_0
          try clear hx105_1
          try clear hx107_0
          try clear hx107_1
          try clear hx108_0
          try clear hx108_1
          try clear p104
          try clear p105
          try clear p107
          try clear p108
          try clear p2
          try clear q104
          try clear q105
          try clear q107
          try clear q108
          obtain ⟨kq, x9_33, rfl, HA, HJ33, BK101, BK102, HB⟩ := hcut
          cases kq with
          | zero => exact absurd HA.out (by simp [spec_l1Compare.j2])
          | succ kj33 =>
           have H := HA.out
           clear HA
           simp only [spec_l1Compare.j2] at H
           by_cases c42 : x9_33 < 0
           · rw [if_pos c42] at H
             have c42b0 : decide (x9_33 < 0) = true := decide_eq_true c42
             clear c42
             obtain rfl := Option.some.inj H
             go_wp2
             repeat (go_quiet (fail); try go_wp2)
             go_ret
             exact ⟨z674d, zcb41⟩
           · rw [if_neg c42] at H
             have c42b0 : decide (x9_33 < 0) = false := decide_eq_false c42
             clear c42
             by_cases c43 : x9_33 > 0
             · rw [if_pos c43] at H
               have c43b0 : decide (0 < x9_33) = true := decide_eq_true c43
               clear c43
               obtain rfl := Option.some.inj H
               go_wp2
               repeat (go_quiet (fail); try go_wp2)
               go_ret
               exact ⟨z674d, zcb41⟩
             · rw [if_neg c43] at H
               have c43b0 : decide (0 < x9_33) = false := decide_eq_false c43
               clear c43
               obtain rfl := Option.some.inj H
               go_wp2
               repeat (go_quiet (fail); try go_wp2)
               go_ret
               exact ⟨z674d, zcb41⟩
 · rw [if_neg c4] at H
   have c4b0 : (t103 == 0) = false := beq_eq_false_iff_ne.mpr c4
   have c4b1 : (t103 != 0) = true := bne_iff_ne.mpr c4
   obtain rfl := Option.some.inj H
   go_enter Tryd.func58, Tryd.ntmps58
   go_wp2_with (first | ((with_reducible refine gate_dst (N := 2) rfl ?_); (try (refine gate_guard (by rfl) ?_; dsimp only)); refine box_event ?hg (N := 2) ?hd (cs := #[.string a0_0, .slice A0_1 l0_1.length c0_1, .int .i64 a0_2]) (t := 25) ?hr ?_; (case hd => rfl); (case hg => rfl); (case hr => first | (go_simp; done) | (go_simp; rfl)); intro gb101 hg w44 hbox hb; have _ := aM (below_step hbZ hb); have _ := aM hbox; have _ := szZ hg; have _ := szZ hg; clear HB; rename_i HB BK101 GW101 GE101; clear hb hbox hg) | ((with_reducible refine gate_dst (N := 3) rfl ?_); (try (refine gate_guard (by rfl) ?_; dsimp only)); refine box_event ?hg (N := 3) ?hd (cs := #[.string a1_0, .slice A1_1 l1_1.length c1_1, .int .i64 a1_2]) (t := 25) ?hr ?_; (case hd => rfl); (case hg => rfl); (case hr => first | (go_simp; done) | (go_simp; rfl)); intro gb102 hg w45 hbox hb; have _ := bB gb101 hb; have _ := aM (below_step hbZ hb); have _ := aM hbox; have _ := szZ hg; have _ := szZ hg; have ⟨_, _⟩ := nbB gb101 hg; clear BK101 HB; rename_i BK101 HB BK102 GW102 GE102 NB101_102 NB102_101; clear hb hbox hg; have hnb46 := NB101_102.out; have hnc46 := NB102_101.out; obtain ⟨hcz47_0, hcz47_1, hcz47_2, hfz47_0, hfz47_1, hfz47_2⟩ := cellsZ3 BK101.out; obtain ⟨hcz48_0, hcz48_1, hcz48_2, hfz48_0, hfz48_1, hfz48_2⟩ := cellsZ3 BK102.out) | (go_at_call 87; (with_reducible refine (spec_l1Text.calls a0_0 a1_0 t103 _ A3.out).mono ?_); rintro e w' ⟨rfl, ⟨nd, rfl⟩⟩; (try first | exact ⟨rfl, _, World.drewN_drewN _ _ _⟩ | exact ⟨rfl, _, Eq.trans (World.drewN_drewN _ _ _) (congrArg (World.drewN _) (Nat.add_assoc _ _ _))⟩)))
   repeat (go_quiet (first | ((with_reducible refine gate_dst (N := 2) rfl ?_); (try (refine gate_guard (by rfl) ?_; dsimp only)); refine box_event ?hg (N := 2) ?hd (cs := #[.string a0_0, .slice A0_1 l0_1.length c0_1, .int .i64 a0_2]) (t := 25) ?hr ?_; (case hd => rfl); (case hg => rfl); (case hr => first | (go_simp; done) | (go_simp; rfl)); intro gb101 hg w44 hbox hb; have _ := aM (below_step hbZ hb); have _ := aM hbox; have _ := szZ hg; have _ := szZ hg; clear HB; rename_i HB BK101 GW101 GE101; clear hb hbox hg) | ((with_reducible refine gate_dst (N := 3) rfl ?_); (try (refine gate_guard (by rfl) ?_; dsimp only)); refine box_event ?hg (N := 3) ?hd (cs := #[.string a1_0, .slice A1_1 l1_1.length c1_1, .int .i64 a1_2]) (t := 25) ?hr ?_; (case hd => rfl); (case hg => rfl); (case hr => first | (go_simp; done) | (go_simp; rfl)); intro gb102 hg w45 hbox hb; have _ := bB gb101 hb; have _ := aM (below_step hbZ hb); have _ := aM hbox; have _ := szZ hg; have _ := szZ hg; have ⟨_, _⟩ := nbB gb101 hg; clear BK101 HB; rename_i BK101 HB BK102 GW102 GE102 NB101_102 NB102_101; clear hb hbox hg; have hnb46 := NB101_102.out; have hnc46 := NB102_101.out; obtain ⟨hcz47_0, hcz47_1, hcz47_2, hfz47_0, hfz47_1, hfz47_2⟩ := cellsZ3 BK101.out; obtain ⟨hcz48_0, hcz48_1, hcz48_2, hfz48_0, hfz48_1, hfz48_2⟩ := cellsZ3 BK102.out) | (go_at_call 87; (with_reducible refine (spec_l1Text.calls a0_0 a1_0 t103 _ A3.out).mono ?_); rintro e w' ⟨rfl, ⟨nd, rfl⟩⟩; (try first | exact ⟨rfl, _, World.drewN_drewN _ _ _⟩ | exact ⟨rfl, _, Eq.trans (World.drewN_drewN _ _ _) (congrArg (World.drewN _) (Nat.add_assoc _ _ _))⟩))); try go_wp2_with (first | ((with_reducible refine gate_dst (N := 2) rfl ?_); (try (refine gate_guard (by rfl) ?_; dsimp only)); refine box_event ?hg (N := 2) ?hd (cs := #[.string a0_0, .slice A0_1 l0_1.length c0_1, .int .i64 a0_2]) (t := 25) ?hr ?_; (case hd => rfl); (case hg => rfl); (case hr => first | (go_simp; done) | (go_simp; rfl)); intro gb101 hg w44 hbox hb; have _ := aM (below_step hbZ hb); have _ := aM hbox; have _ := szZ hg; have _ := szZ hg; clear HB; rename_i HB BK101 GW101 GE101; clear hb hbox hg) | ((with_reducible refine gate_dst (N := 3) rfl ?_); (try (refine gate_guard (by rfl) ?_; dsimp only)); refine box_event ?hg (N := 3) ?hd (cs := #[.string a1_0, .slice A1_1 l1_1.length c1_1, .int .i64 a1_2]) (t := 25) ?hr ?_; (case hd => rfl); (case hg => rfl); (case hr => first | (go_simp; done) | (go_simp; rfl)); intro gb102 hg w45 hbox hb; have _ := bB gb101 hb; have _ := aM (below_step hbZ hb); have _ := aM hbox; have _ := szZ hg; have _ := szZ hg; have ⟨_, _⟩ := nbB gb101 hg; clear BK101 HB; rename_i BK101 HB BK102 GW102 GE102 NB101_102 NB102_101; clear hb hbox hg; have hnb46 := NB101_102.out; have hnc46 := NB102_101.out; obtain ⟨hcz47_0, hcz47_1, hcz47_2, hfz47_0, hfz47_1, hfz47_2⟩ := cellsZ3 BK101.out; obtain ⟨hcz48_0, hcz48_1, hcz48_2, hfz48_0, hfz48_1, hfz48_2⟩ := cellsZ3 BK102.out) | (go_at_call 87; (with_reducible refine (spec_l1Text.calls a0_0 a1_0 t103 _ A3.out).mono ?_); rintro e w' ⟨rfl, ⟨nd, rfl⟩⟩; (try first | exact ⟨rfl, _, World.drewN_drewN _ _ _⟩ | exact ⟨rfl, _, Eq.trans (World.drewN_drewN _ _ _) (congrArg (World.drewN _) (Nat.add_assoc _ _ _))⟩))))
   go_ret
   exact ⟨z674d, zcb41⟩

end Go.Proofs.YteogadaloebdaaaDoor.P

/- Two good keys compared: the program's CompareKeys and the specification's comparison give one number. -/
namespace Go.Proofs.YteogadaloebdaaaDoor.Lem
open Go Go.RowKit Go.Proofs.YteogadaloebdaaaDoor.P Go.Proofs.YteogadaloebdaaaDoorW.PrintWords Go.Proofs.YteogadaloebdaaaDoorW.PrintLast Go.Proofs.YteogadaloebdaaaDoorW.PrintMore

def ordB (a b : ByteArray) : Int := ord a.data.toList b.data.toList
/-- Tags in line. -/
def ordT : List Tg → List Tg → Int
  | [], [] => 0
  | [], _ :: _ => -1
  | _ :: _, [] => 1
  | a :: x, b :: y => if ordB a.f0 b.f0 = 0 then (if ordB a.f1 b.f1 = 0 then ordT x y else ordB a.f1 b.f1) else ordB a.f0 b.f0
def sgnI (a b : Int) : Int := if a < b then -1 else if a > b then 1 else 0
def keyOrd (m : ByteArray) (l : List Tg) (s : Int) (m' : ByteArray) (l' : List Tg) (s' : Int) : Int :=
  if ordB m m' = 0 then (if ordT l l' = 0 then sgnI s s' else ordT l l') else ordB m m'

theorem l1Text_ok (a b : ByteArray) : spec_l1Text.f a b = some (ordB a b) := by
  unfold spec_l1Text.f ordB ord
  rw [Go.Lib.toList_data, Go.Lib.toList_data]
  split
  · rfl
  · split <;> rfl
theorem cmpS_ok (a b : ByteArray) : cmp_Compare_string.f a b = some (ordB a b) := by
  unfold cmp_Compare_string.f cmp_isNaN_string.f
  rw [bne_self_eq_false, bne_self_eq_false, Option.bind_some, Option.bind_some, if_neg (by decide), if_neg (by decide)]
  unfold ordB ord
  rw [Go.Lib.toList_data, Go.Lib.toList_data]
  split
  · rfl
  · split <;> rfl
theorem cmpI_ok (a b : Int) : cmp_Compare_int.f a b = some (sgnI a b) := by
  unfold cmp_Compare_int.f cmp_isNaN_int.f
  rw [bne_self_eq_false, bne_self_eq_false, Option.bind_some, Option.bind_some, if_neg (by decide), if_neg (by decide)]
  unfold sgnI
  split
  · rfl
  · split <;> rfl
theorem or2_ok (x y : Int) (k : Nat) : cmp_Or_int.f (k + 3) [x, y] = some (if x = 0 then y else x) := by
  unfold cmp_Or_int.f
  show cmp_Or_int.l0 (k + 3) 0 [x, y] 2 0 = _
  rw [cmp_Or_int.l0, if_pos (by decide), if_pos (by decide), if_pos (show (0 : Int) < ([x, y].length : Int) from (by decide : (0 : Int) < ((2 : Nat) : Int))), show rd [x, y] 0 = x from rfl]
  by_cases h : x = 0
  · rw [if_pos h, if_pos h, show wrap64 (0 + 1) = 1 from w64 (by decide) (by decide), cmp_Or_int.l0, if_pos (by decide), if_pos (by decide), if_pos (show (1 : Int) < ([x, y].length : Int) from (by decide : (1 : Int) < ((2 : Nat) : Int))), show rd [x, y] 1 = y from rfl]
    by_cases h2 : y = 0
    · rw [if_pos h2, show wrap64 (1 + 1) = 2 from w64 (by decide) (by decide), cmp_Or_int.l0, if_neg (by decide), h2]
    · rw [if_neg h2]
  · rw [if_neg h, if_neg h]
theorem or3_ok (x y z : Int) (k : Nat) : cmp_Or_int.f (k + 4) [x, y, z] = some (if x = 0 then (if y = 0 then z else y) else x) := by
  unfold cmp_Or_int.f
  show cmp_Or_int.l0 (k + 4) 0 [x, y, z] 3 0 = _
  rw [cmp_Or_int.l0, if_pos (by decide), if_pos (by decide), if_pos (show (0 : Int) < ([x, y, z].length : Int) from (by decide : (0 : Int) < ((3 : Nat) : Int))), show rd [x, y, z] 0 = x from rfl]
  by_cases h : x = 0
  · rw [if_pos h, if_pos h, show wrap64 (0 + 1) = 1 from w64 (by decide) (by decide), cmp_Or_int.l0, if_pos (by decide), if_pos (by decide), if_pos (show (1 : Int) < ([x, y, z].length : Int) from (by decide : (1 : Int) < ((3 : Nat) : Int))), show rd [x, y, z] 1 = y from rfl]
    by_cases h2 : y = 0
    · rw [if_pos h2, if_pos h2, show wrap64 (1 + 1) = 2 from w64 (by decide) (by decide), cmp_Or_int.l0, if_pos (by decide), if_pos (by decide), if_pos (show (2 : Int) < ([x, y, z].length : Int) from (by decide : (2 : Int) < ((3 : Nat) : Int))), show rd [x, y, z] 2 = z from rfl]
      by_cases h3 : z = 0
      · rw [if_pos h3, show wrap64 (2 + 1) = 3 from w64 (by decide) (by decide), cmp_Or_int.l0, if_neg (by decide), h3]
      · rw [if_neg h3]
    · rw [if_neg h2, if_neg h2]
  · rw [if_neg h, if_neg h]
theorem cmpTag_ok (a b : Tg) {k : Nat} (hk : 3 < k) : impl_CompareKeys_1.f k a.f0 a.f1 b.f0 b.f1 = some (if ordB a.f0 b.f0 = 0 then ordB a.f1 b.f1 else ordB a.f0 b.f0) := by
  obtain ⟨k, rfl⟩ : ∃ q, k = q + 3 := ⟨k - 3, by omega⟩
  unfold impl_CompareKeys_1.f
  rw [cmpS_ok, cmpS_ok, Option.bind_some, Option.bind_some, or2_ok, Option.bind_some]

theorem implTags_l0 (l l' : List Tg) (hl : l.length ≤ 4) : ∀ (d i k : Nat), i + d = l.length → i ≤ l'.length → d + 6 < k →
    impl_Tag_with_impl_CompareKeys_1.l0 k l l' l (l.length : Int) (i : Int) = some (ordT (l.drop i) (l'.drop i)) := by
  intro d
  induction d with
  | zero =>
    intro i k hi hi' hk
    obtain ⟨k, rfl⟩ : ∃ q, k = q + 1 := ⟨k - 1, by omega⟩
    rw [impl_Tag_with_impl_CompareKeys_1.l0, if_neg (by omega), List.drop_of_length_le (show l.length ≤ i by omega)]
    by_cases h : l.length < l'.length
    · rw [if_pos (by omega), drop_get (show i < l'.length by omega)]
      rfl
    · rw [if_neg (by omega), List.drop_of_length_le (show l'.length ≤ i by omega)]
      rfl
  | succ d ih =>
    intro i k hi hi' hk
    obtain ⟨k, rfl⟩ : ∃ q, k = q + 1 := ⟨k - 1, by omega⟩
    have hlt : i < l.length := by omega
    have e0 : rd_T69 l (i : Int) = l[i] := rdT_get hlt
    rw [impl_Tag_with_impl_CompareKeys_1.l0, if_pos (by omega), if_pos (by omega), if_pos (by omega), drop_get hlt]
    by_cases h : i < l'.length
    · have e1 : rd_T69 l' (i : Int) = l'[i] := rdT_get h
      have hnext := ih (i + 1) k (by omega) (by omega) (by omega)
      rw [if_neg (by omega), if_pos (by omega), e0, e1, cmpTag_ok _ _ (by omega), Option.bind_some, drop_get h, ordT, show wrap64 ((i : Int) + 1) = ((i + 1 : Nat) : Int) from by rw [w64 (by omega) (by omega)]; omega, hnext]
      by_cases h1 : ordB l[i].f0 l'[i].f0 = 0
      · rw [if_pos h1, if_pos h1]
        by_cases h2 : ordB l[i].f1 l'[i].f1 = 0
        · rw [if_pos h2, if_pos h2]
        · rw [if_neg h2, if_neg h2]
      · rw [if_neg h1, if_neg h1, if_neg h1]
    · rw [if_pos (by omega), List.drop_of_length_le (show l'.length ≤ i by omega)]
      rfl
theorem implTags_ok (l l' : List Tg) (hl : l.length ≤ 4) {k : Nat} (hk : 12 < k) : impl_Tag_with_impl_CompareKeys_1.f k l l' = some (ordT l l') := by
  unfold impl_Tag_with_impl_CompareKeys_1.f
  have h := implTags_l0 l l' hl l.length 0 k (by omega) (by omega) (by omega)
  rw [List.drop_zero, List.drop_zero] at h
  exact h
theorem implCompare_ok {m m' : ByteArray} {l l' : List Tg} {s s' : Int} (h : keyB m l s = true) (h' : keyB m' l' s' = true) {k : Nat} (hk : 20 < k) : impl_CompareKeys.f k m l s m' l' s' = some (keyOrd m l s m' l' s') := by
  obtain ⟨k, rfl⟩ : ∃ q, k = q + 5 := ⟨k - 5, by omega⟩
  obtain ⟨_, hl, _⟩ := keyB_parts h
  unfold impl_CompareKeys.f
  rw [implKey_ok _ _ _ (by omega), implKey_ok _ _ _ (by omega), h, h', Option.bind_some, if_pos rfl, Option.bind_some, impl_CompareKeys.j0, if_neg (by decide), implTags_ok l l' hl (by omega), cmpS_ok, cmpI_ok, Option.bind_some, Option.bind_some, Option.bind_some, or3_ok, Option.bind_some]
  rfl

theorem specCmp_j2 (x : Int) (k : Nat) : spec_l1Compare.j2 (k + 1) x = some (sgnI x 0) := by
  rw [spec_l1Compare.j2]
  unfold sgnI
  split
  · rfl
  · split <;> rfl
theorem specCmp_l0 (m m' : ByteArray) (l l' : List Tg) (hl : l.length ≤ 4) (hl' : l'.length ≤ 4) {s s' : Int} (h0 : 0 ≤ s ∧ s ≤ 1000000000) (h1 : 0 ≤ s' ∧ s' ≤ 1000000000) : ∀ (d i k : Nat), i + d = l.length → i ≤ l'.length → 2 * d + 6 < k →
    spec_l1Compare.l0 k (i : Int) m l s m' l' s' = some (if ordT (l.drop i) (l'.drop i) = 0 then sgnI s s' else ordT (l.drop i) (l'.drop i)) := by
  have hend : ∀ (i k : Nat), (i = l.length ∨ i = l'.length) → i ≤ l.length → i ≤ l'.length → spec_l1Compare.j1 (k + 2) (i : Int) false m l s m' l' s' = some (if ordT (l.drop i) (l'.drop i) = 0 then sgnI s s' else ordT (l.drop i) (l'.drop i)) := by
    intro i k hi h2 h3
    rw [spec_l1Compare.j1, if_neg (by decide), show wrap64 ((l.length : Int) - (l'.length : Int)) = (l.length : Int) - (l'.length : Int) from w64 (by omega) (by omega)]
    by_cases e : l.length = l'.length
    · rw [if_pos (by omega), show wrap64 (s - s') = s - s' from w64 (by omega) (by omega), specCmp_j2, List.drop_of_length_le (show l.length ≤ i by omega), List.drop_of_length_le (show l'.length ≤ i by omega)]
      show _ = some (if (0 : Int) = 0 then sgnI s s' else 0)
      rw [if_pos rfl]
      unfold sgnI
      by_cases q : s < s'
      · rw [if_pos (by omega), if_pos q]
      · rw [if_neg (by omega), if_neg q]
        by_cases q2 : s > s'
        · rw [if_pos (by omega), if_pos q2]
        · rw [if_neg (by omega), if_neg q2]
    · rw [if_neg (by omega), specCmp_j2]
      rcases Nat.lt_or_ge l.length l'.length with q | q
      · rw [List.drop_of_length_le (show l.length ≤ i by omega), drop_get (show i < l'.length by omega)]
        show some (sgnI _ 0) = some (if (-1 : Int) = 0 then sgnI s s' else -1)
        rw [if_neg (by decide)]
        unfold sgnI
        rw [if_pos (by omega)]
      · rw [List.drop_of_length_le (show l'.length ≤ i by omega), drop_get (show i < l.length by omega)]
        show some (sgnI _ 0) = some (if (1 : Int) = 0 then sgnI s s' else 1)
        rw [if_neg (by decide)]
        unfold sgnI
        rw [if_neg (by omega), if_pos (by omega)]
  intro d
  induction d with
  | zero =>
    intro i k hi hi' hk
    obtain ⟨k, rfl⟩ : ∃ q, k = q + 3 := ⟨k - 3, by omega⟩
    rw [spec_l1Compare.l0, if_neg (by omega)]
    exact hend i k (by omega) (by omega) hi'
  | succ d ih =>
    intro i k hi hi' hk
    obtain ⟨k, rfl⟩ : ∃ q, k = q + 3 := ⟨k - 3, by omega⟩
    have hlt : i < l.length := by omega
    have e0 : rd_T69 l (i : Int) = l[i] := rdT_get hlt
    rw [spec_l1Compare.l0, if_pos (by omega)]
    by_cases h : i < l'.length
    · have e1 : rd_T69 l' (i : Int) = l'[i] := rdT_get h
      have hnext := ih (i + 1) (k + 1) (by omega) (by omega) (by omega)
      rw [decide_eq_true (by omega), spec_l1Compare.j1, if_pos rfl, if_pos (by omega), if_pos (by omega), if_pos (by omega), e0, e1, l1Text_ok, l1Text_ok, Option.bind_some, Option.bind_some, drop_get hlt, drop_get h, ordT, show wrap64 ((i : Int) + 1) = ((i + 1 : Nat) : Int) from by rw [w64 (by omega) (by omega)]; omega, hnext]
      by_cases q1 : ordB l[i].f0 l'[i].f0 = 0
      · rw [if_pos q1, if_pos q1]
        by_cases q2 : ordB l[i].f1 l'[i].f1 = 0
        · rw [if_pos q2, if_pos q2]
        · rw [if_neg q2, if_neg q2, if_neg q2]
      · rw [if_neg q1, if_neg q1, if_neg q1]
    · rw [decide_eq_false (by omega)]
      exact hend i k (.inr (by omega)) (by omega) hi'
theorem specCompare_ok {m m' : ByteArray} {l l' : List Tg} {s s' : Int} (h : keyB m l s = true) (h' : keyB m' l' s' = true) {k : Nat} (hk : 20 < k) : spec_l1Compare.f k m l s m' l' s' = some (keyOrd m l s m' l' s') := by
  obtain ⟨_, hl, h0, h1, _⟩ := keyB_parts h
  obtain ⟨_, hl', h0', h1', _⟩ := keyB_parts h'
  unfold spec_l1Compare.f keyOrd
  rw [l1Text_ok, Option.bind_some]
  by_cases q : ordB m m' = 0
  · have e := specCmp_l0 m m' l l' hl hl' ⟨h0, h1⟩ ⟨h0', h1'⟩ l.length 0 k (by omega) (by omega) (by omega)
    rw [List.drop_zero, List.drop_zero] at e
    rw [if_pos q, if_pos q]
    exact e
  · rw [if_neg q, if_neg q]
end Go.Proofs.YteogadaloebdaaaDoor.Lem

namespace Go.Proofs.YteogadaloebdaaaDoor.Lem
open Go.RowKit Go.Proofs.YteogadaloebdaaaDoor.P Go.Proofs.YteogadaloebdaaaDoorW.PrintWords Go.Proofs.YteogadaloebdaaaDoorW.PrintLast Go.Proofs.YteogadaloebdaaaDoorW.PrintMore

theorem within_ok (a b c : Int) : impl_within.f a b c = some (decide (b ≤ a ∧ a ≤ c)) := by
  unfold impl_within.f
  by_cases h : a ≥ b
  · rw [if_pos h]
    congr 1
    simp [show b ≤ a from h]
  · rw [if_neg h]
    congr 1
    simp [show ¬ b ≤ a from h]

end Go.Proofs.YteogadaloebdaaaDoor.Lem

/- A number of eight bytes, written and read. -/
namespace Go.Proofs.YteogadaloebdaaaDoor.Lem.B8
open Go.Proofs.YteogadaloebdaaaDoor.Lem Go.RowKit Go.Proofs.YteogadaloebdaaaDoor.P Go.Proofs.YteogadaloebdaaaDoorW.PrintWords Go.Proofs.YteogadaloebdaaaDoorW.PrintLast Go.Proofs.YteogadaloebdaaaDoorW.PrintMore

theorem rd_eq {l : List Int} {i : Nat} {x : Int} {t : List Int} (h : l.drop i = x :: t) : rd l (i : Int) = x := by
  unfold Go.Proofs.YteogadaloebdaaaDoorW.PrintWords.rd
  have hl : i < l.length := by
    have := congrArg List.length h
    simp at this; omega
  rw [Int.toNat_natCast, List.getD_eq_getElem?_getD, List.getElem?_eq_getElem hl]
  have h2 := List.drop_eq_getElem_cons hl
  rw [h] at h2
  injection h2 with h3 _
  simp [h3]

def be : Nat → Nat → List Int
  | 0, _ => []
  | m + 1, n => be m (n / 256) ++ [((n % 256 : Nat) : Int)]

theorem be_length : ∀ m n, (be m n).length = m := by
  intro m
  induction m with
  | zero => intro n; rfl
  | succ m ih => intro n; simp [be, ih]
theorem be_bytes : ∀ m n, Bytes (be m n) := by
  intro m
  induction m with
  | zero => intro n; exact Bytes.nil
  | succ m ih => intro n; exact (ih _).append (Bytes.cons (by omega) (by omega) Bytes.nil)
theorem putFixed_l0 : ∀ (i k n : Nat) (suf : List Int), i < k → i + suf.length < 4611686018427387904 → impl_PutFixed.l0 k (n : Int) (List.replicate i 0 ++ suf) ((i : Int) - 1) = some (be i n ++ suf, true) := by
  intro i
  induction i with
  | zero =>
    intro k n suf hk hs
    obtain ⟨k, rfl⟩ : ∃ m, k = m + 1 := ⟨k - 1, by omega⟩
    simp only [impl_PutFixed.l0]
    rw [if_neg (by omega)]
    rfl
  | succ i ih =>
    intro k n suf hk hs
    obtain ⟨k, rfl⟩ : ∃ m, k = m + 1 := ⟨k - 1, by omega⟩
    simp only [impl_PutFixed.l0]
    rw [show ((i + 1 : Nat) : Int) - 1 = (i : Int) by omega, if_pos (by omega), if_pos (by omega), if_pos (by simp; omega)]
    rw [show wrap64 ((i : Int) - 1) = (i : Int) - 1 from w64 (by omega) (by omega), Int.toNat_natCast, show (n : Int) / 256 = ((n / 256 : Nat) : Int) by omega]
    have hset : (List.replicate (i + 1) 0 ++ suf).set i ((n : Int) % 256) = List.replicate i 0 ++ (((n % 256 : Nat) : Int) :: suf) := by
      rw [List.replicate_succ', List.append_assoc, List.set_append_right _ _ (by simp)]
      simp
    rw [hset, ih k (n / 256) _ (by omega) (by simp; omega)]
    simp [be]

def valB (l : List Int) (v : Int) : Int := l.foldl (fun a c => a * 256 + c) v

theorem valB_be : ∀ m a v, a < 256 ^ m → valB (be m a) v = v * 256 ^ m + a := by
  intro m
  induction m with
  | zero => intro a v h; simp [be, valB]; omega
  | succ m ih =>
    intro a v h
    have h2 : a / 256 < 256 ^ m := by
      rw [Nat.div_lt_iff_lt_mul (by decide)]
      rw [Nat.pow_succ] at h
      exact h
    have := ih (a / 256) v h2
    unfold valB at this ⊢
    rw [be, List.foldl_append, this]
    simp only [List.foldl_cons, List.foldl_nil]
    have e : (256 : Int) ^ (m + 1) = 256 ^ m * 256 := by rw [Int.pow_succ]
    rw [e, Int.add_mul, Int.mul_assoc]
    omega

theorem or_low {a c : Int} (ha : 0 ≤ a) (hb : a < 72057594037927936) (h0 : 0 ≤ c) (h1 : c < 256) : Go.bits .or .u64 (IntKind.u64.wrap (a * 256)) (IntKind.u64.wrap c) = a * 256 + c := by
  rw [wu64 (by omega) (by omega), wu64 h0 (by omega), u64_or _ _ (by omega) (by omega) h0 (by omega)]
  have e1 : (a * 256).toNat = 2 ^ 8 * a.toNat := by omega
  have h := Nat.two_pow_add_eq_or_of_lt (i := 8) (b := c.toNat) (by omega) a.toNat
  rw [e1, ← h]
  omega

theorem readFixed_l0 : ∀ (t : List Int) (k i : Nat) (l : List Int) (v : Int), Bytes l → l.length < 4611686018427387904 → l.drop i = t → t.length < k → 0 ≤ v → v < 256 ^ (8 - t.length) → t.length ≤ 8 →
    impl_ReadFixed.l0 k v l (l.length : Int) (i : Int) = if valB t v < 9223372036854775808 then some (valB t v, true) else some (0, false) := by
  intro t
  induction t with
  | nil =>
    intro k i l v hl hlen hd hk h0 h1 h8
    obtain ⟨k, rfl⟩ : ∃ m, k = m + 1 := ⟨k - 1, by omega⟩
    have hi : l.length ≤ i := by simpa using List.drop_eq_nil_iff.1 hd
    have h1' : v < 18446744073709551616 := by simpa using h1
    simp only [impl_ReadFixed.l0]
    rw [if_neg (by omega)]
    show _ = if v < _ then some (v, true) else _
    by_cases hv : v < 9223372036854775808
    · rw [if_pos (by omega), if_pos hv, w64 (by omega) hv]
    · rw [if_neg (by omega), if_neg hv]
  | cons c t ih =>
    intro k i l v hl hlen hd hk h0 h1 h8
    obtain ⟨k, rfl⟩ : ∃ m, k = m + 1 := ⟨k - 1, by omega⟩
    have hi : i < l.length := by
      have := congrArg List.length hd
      simp at this; omega
    have hc := rd_eq hd
    have hb : 0 ≤ c ∧ c < 256 := hl c (by
      have : c ∈ l.drop i := by rw [hd]; exact List.mem_cons_self
      exact List.mem_of_mem_drop this)
    have hd2 : l.drop (i + 1) = t := by rw [← List.drop_drop, hd]; rfl
    simp only [List.length_cons] at h1 h8 hk
    have hp : (256 : Int) ^ (8 - t.length) = 256 ^ (8 - (t.length + 1)) * 256 := by
      rw [← Int.pow_succ]; congr 1; omega
    have hp7 : (256 : Int) ^ (8 - (t.length + 1)) ≤ 72057594037927936 := by
      have key : ∀ m : Fin 8, (256 : Int) ^ (8 - (m.val + 1)) ≤ 72057594037927936 := by decide
      exact key ⟨t.length, by omega⟩
    simp only [impl_ReadFixed.l0]
    rw [if_pos (by omega), if_pos (by omega), if_pos (by omega), hc, or_low h0 (by omega) hb.1 hb.2]
    rw [show wrap64 ((i : Int) + 1) = ((i + 1 : Nat) : Int) from by rw [w64 (by omega) (by omega)]; omega]
    rw [ih k (i + 1) l (v * 256 + c) hl hlen hd2 (by omega) (by omega) (by rw [hp]; omega) (by omega)]
    rfl

theorem readFixed_ok {k : Nat} {l : List Int} {at_ many : Nat} (hk : 12 < k) (hl : Bytes l) (hlen : l.length < 4611686018427387904) (h1 : 1 ≤ many) (h8 : many ≤ 8) (hat : at_ + many ≤ l.length) :
    impl_ReadFixed.f k l (at_ : Int) (many : Int) = if valB ((l.drop at_).take many) 0 < 9223372036854775808 then some (valB ((l.drop at_).take many) 0, true) else some (0, false) := by
  obtain ⟨k, rfl⟩ : ∃ m, k = m + 1 := ⟨k - 1, by omega⟩
  unfold impl_ReadFixed.f
  rw [within_ok, show decide (1 ≤ (many : Int) ∧ (many : Int) ≤ 8) = true from decide_eq_true (by omega)]
  rw [Option.bind_some, if_pos rfl]
  rw [within_ok, w64 (by omega) (by omega), show decide (0 ≤ (at_ : Int) ∧ (at_ : Int) ≤ (l.length : Int) - (many : Int)) = true from decide_eq_true (by omega)]
  rw [Option.bind_some, Bool.not_true]
  simp only [impl_ReadFixed.j0]
  rw [if_neg (by decide), if_pos (by omega), w64 (by omega) (by omega), if_pos (by omega), if_pos (by omega), Option.bind_some]
  have hcut : (l.take ((at_ : Int) + (many : Int)).toNat).drop (at_ : Int).toNat = (l.drop at_).take many := by
    rw [Int.toNat_natCast, show ((at_ : Int) + (many : Int)).toNat = at_ + many by omega, List.drop_take]
    congr 1
    omega
  rw [hcut]
  have hl2 : Bytes ((l.drop at_).take many) := (hl.drop _).take _
  have hlen2 : ((l.drop at_).take many).length = many := by simp; omega
  have hfin := readFixed_l0 ((l.drop at_).take many) k 0 ((l.drop at_).take many) 0 hl2 (by omega) List.drop_zero (by omega) (Int.le_refl 0) (Int.pow_pos (by decide)) (by omega)
  rw [Int.natCast_zero] at hfin
  exact hfin


theorem putFixed8 {k : Nat} (hk : 12 < k) {n : Int} (h0 : 0 ≤ n) (h1 : n ≤ 1000000000) : impl_PutFixed.f k n 8 = some (be 8 n.toNat, true) := by
  obtain ⟨k, rfl⟩ : ∃ m, k = m + 1 := ⟨k - 1, by omega⟩
  unfold impl_PutFixed.f
  rw [if_neg (by omega), within_ok, show decide ((1 : Int) ≤ 8 ∧ (8 : Int) ≤ 8) = true from by decide, Option.bind_some, if_pos rfl, if_neg (by decide)]
  simp only [impl_PutFixed.j0]
  rw [if_neg (by decide), if_pos (by decide), if_pos (by decide), show wrap64 (8 - 1) = ((8 : Nat) : Int) - 1 from w64 (by decide) (by decide)]
  have := putFixed_l0 8 k n.toNat [] (by omega) (by decide)
  rw [Int.toNat_of_nonneg h0, List.append_nil, List.append_nil] at this
  exact this
end Go.Proofs.YteogadaloebdaaaDoor.Lem.B8

-- written by a program of this session's (wip/pp)
namespace Go.Proofs.YteogadaloebdaaaDoor.P
open Go.RowKit Go.Proofs.YteogadaloebdaaaDoorW.PrintWords Go.Proofs.YteogadaloebdaaaDoorW.PrintLast Go.Proofs.YteogadaloebdaaaDoorW.PrintMore
attribute [local go_sem] max2_int min2_int max_two min_two max_three min_three max_four min_four str_geq str_gtr str_leq   -- for this text's walks alone
set_option linter.unusedVariables false
set_option linter.unusedSimpArgs false

/-! ### spec_l12Split: function 82 -/
def spec_l12Split.l0 : Nat → ByteArray → Int → List ByteArray → Int → Int → Option (List ByteArray)
 | 0, _, _, _, _, _ => none
 | k + 1, x0, x1, x5, x6, x7 => if x7 ≤ (x0.size : Int) then (if x7 = (x0.size : Int) then (if 0 ≤ x6 then (if x6 ≤ x7 then (if x5.length < 8796093022208 then (spec_l12Split.l0 k x0 x1 (x5 ++ [x0.extract (x6 : Int).toNat (x7 : Int).toNat]) (wrap64 (x7 + 1)) (wrap64 (x7 + 1))) else (none)) else (none)) else (none)) else (if 0 ≤ x7 then (if x7 < (x0.size : Int) then (if (bt x0 x7) = x1 then (if 0 ≤ x6 then (if x6 ≤ x7 then (if x5.length < 8796093022208 then (spec_l12Split.l0 k x0 x1 (x5 ++ [x0.extract (x6 : Int).toNat (x7 : Int).toNat]) (wrap64 (x7 + 1)) (wrap64 (x7 + 1))) else (none)) else (none)) else (none)) else (spec_l12Split.l0 k x0 x1 x5 x6 (wrap64 (x7 + 1)))) else (none)) else (none))) else (some x5)
def spec_l12Split.f (k : Nat) (a0 : ByteArray) (a1 : Int) : Option (List ByteArray) := spec_l12Split.l0 k a0 a1 ([] : List ByteArray) 0 0
theorem spec_l12Split.mono_l : ∀ k, (∀ y0 y1 y2 y3 y4, LeO (spec_l12Split.l0 k y0 y1 y2 y3 y4) (spec_l12Split.l0 (k + 1) y0 y1 y2 y3 y4))
 | 0 => fun _ _ _ _ _ r h => by simp [spec_l12Split.l0] at h
 | k + 1 => by
  have ih0 := spec_l12Split.mono_l k
  · intro y0 y1 y2 y3 y4
    unfold spec_l12Split.l0
    repeat' first
     | (with_reducible first | exact ih0 .. | exact LeO.refl _ | exact LeO.none _ | refine LeO.ite ?_ ?_ | refine LeO.bind ?_ (fun _ => ?_))
     | exact LeO.none _
     | refine LeO.ite ?_ ?_
     | refine LeO.bind ?_ (fun _ => ?_)
theorem spec_l12Split.mono : ∀ a0 a1 k, LeO (spec_l12Split.f k a0 a1) (spec_l12Split.f (k + 1) a0 a1) := by
 intro a0 a1 k
 have ih0 := spec_l12Split.mono_l k
 unfold spec_l12Split.f
 repeat' first
  | (with_reducible first | exact ih0 .. | exact LeO.refl _ | exact LeO.none _ | refine LeO.ite ?_ ?_ | refine LeO.bind ?_ (fun _ => ?_))
  | exact LeO.none _
  | refine LeO.ite ?_ ?_
  | refine LeO.bind ?_ (fun _ => ?_)
set_option maxHeartbeats 8000000 in
set_option maxRecDepth 100000 in
theorem spec_l12Split.calls (k : Nat) (a0 : ByteArray) (a1 : Int) (r : List ByteArray) (w : World) (h : spec_l12Split.f k a0 a1 = some r) :
 Calls Tryd.prog 82 #[.string a0, .int .u8 a1] w fun e w' => ∃ v0_ : Value, e = .returned (v0_) ∧ Kd.R Kd.string 9 w' w.heap.size (fun _ => True) v0_ r ∧ Below w.heap.size w w' := by
 have HB := aM (Below.refl w.heap.size w)
 have H : (spec_l12Split.l0 k a0 a1 ([] : List ByteArray) 0 0) = some r := h
 clear h
 have H' := aM H
 clear H
 go_enter Tryd.func82, Tryd.ntmps82
 go_wp2
 go_loopg [5, 6, 7] k (fun kq v5 v6 v7 w' => ∃ (x5_1 : List ByteArray) (x6_1 : Int) (x7_1 : Int), v6 = .int .i64 x6_1 ∧ v7 = .int .i64 x7_1 ∧ Aside0 (spec_l12Split.l0 kq a0 a1 x5_1 x6_1 x7_1 = some r) ∧ Aside0 (kq ≤ k) ∧ Aside0 (Kd.R Kd.string 9 w' w.heap.size (fun _ => True) v5 x5_1) ∧ Aside0 (Below w.heap.size w w'))
 case atStart => exact ⟨(([] : List ByteArray)), (0), (0), z4458, z4458, H', ⟨Nat.le_refl _⟩, ⟨z02fa⟩, ⟨z5acd⟩⟩
 case round =>
  clear H'
  try clear p2
  obtain ⟨x5_1, x6_1, x7_1, rfl, rfl, HA, HK1, HO_5, HB⟩ := hrel
  cases gk with
  | zero => exact absurd HA.out (by simp [spec_l12Split.l0])
  | succ k1 =>
   have H := HA.out
   clear HA
   simp only [spec_l12Split.l0] at H
   by_cases c3 : x7_1 ≤ (a0.size : Int)
   · rw [if_pos c3] at H
     have c3b0 : decide (x7_1 ≤ (a0.size : Int)) = true := decide_eq_true c3
     clear c3
     by_cases c4 : x7_1 = (a0.size : Int)
     · rw [if_pos c4] at H
       have c4b0 : (x7_1 == (a0.size : Int)) = true := beq_iff_eq.mpr c4
       have c4b1 : (x7_1 != (a0.size : Int)) = false := bne_eq_false_iff_eq.mpr c4
       clear c4
       by_cases c5 : 0 ≤ x6_1
       · rw [if_pos c5] at H
         have c5b0 := eq_true c5
         have c5b1 : decide (0 ≤ x6_1) = true := decide_eq_true c5
         clear c5
         by_cases c6 : x6_1 ≤ x7_1
         · rw [if_pos c6] at H
           have c6b0 := eq_true c6
           have c6b1 : decide (x6_1 ≤ x7_1) = true := decide_eq_true c6
           clear c6
           have c7b0 := eq_true (of_decide_eq_true z1200 : x7_1 ≤ (a0.size : Int))
           by_cases c8 : x5_1.length < 8796093022208
           · rw [if_pos c8] at H
             have LMc8 := aM c8
             clear c8
             obtain ⟨y101, hy101⟩ : ∃ y_ : List ByteArray, y_ = (x5_1 ++ [a0.extract (x6_1 : Int).toNat (x7_1 : Int).toNat]) := ⟨_, rfl⟩
             replace H : (spec_l12Split.l0 k1 a0 a1 y101 (wrap64 (x7_1 + 1)) (wrap64 (x7_1 + 1))) = some r := by first | (rw [hy101]; with_reducible exact H) | (have H2_ := (Option.bind_some _ _).symm.trans H; rw [hy101]; with_reducible exact H2_) | (have H2_ := (Option.bind_some _ _).symm.trans H; with_reducible exact H2_) | with_reducible exact H | (rw [hy101]; exact H) | exact H
             have Ny101 := aM hy101
             clear hy101
             have H' := aM H
             clear H
             go_wp2_with (first | ((with_reducible refine gate_builtin (b := .append) (xs := #[.tmp 25, .tmp 30]) rfl ?_); at_builtin; refine Kd.R_append Kd.string (w0 := w) w.heap.size rfl (.tmp 25) (.tmp 30) 89 9 (.string ⟨#[]⟩) 16 rfl Tryd.underlying89 info9 rfl (by decide) (by omega) u5 x5_1 (a0.extract (x6_1 : Int).toNat (x7_1 : Int).toNat) [.string (a0.extract (x6_1 : Int).toNat (x7_1 : Int).toNat)] (fun _ => True) (fun _ => False) rfl rfl ?aP (fun _ hk => hk.elim) ?aF ?aO ?aB ?aS ?aL ?_; (case aP => exact rfl); (case aB => exact hbZ); (case aF => exact (fun _ _ => trivial)); (case aO => exact (rZ HO_5.out)); (case aS => exact (below_size hbZ)); (case aL => have := LMc8.out; omega); intro v102 w9 ho hb hg hat; rw [← Ny101.out] at ho; have _ := aM hb; have _ := aM ho; clear HB HO_5; rename_i HB HO103; clear ho hb hg hat))
             go_roundg k1
             case measure => have := HK1.out; omega
             case rel => exact ⟨(y101), (wrap64 (x7_1 + 1)), (wrap64 (x7_1 + 1)), z4458, z4458, H', ⟨zfb39⟩, ⟨rZ HO103.out⟩, ⟨z5acd⟩⟩
           · rw [if_neg c8] at H
             exact absurd H (by simp)
         · rw [if_neg c6] at H
           exact absurd H (by simp)
       · rw [if_neg c5] at H
         exact absurd H (by simp)
     · rw [if_neg c4] at H
       have c4b0 : (x7_1 == (a0.size : Int)) = false := beq_eq_false_iff_ne.mpr c4
       have c4b1 : (x7_1 != (a0.size : Int)) = true := bne_iff_ne.mpr c4
       by_cases c10 : 0 ≤ x7_1
       · rw [if_pos c10] at H
         have c10b0 : decide (0 ≤ x7_1) = true := decide_eq_true c10
         clear c10
         by_cases c11 : x7_1 < (a0.size : Int)
         · rw [if_pos c11] at H
           have c11b0 : decide (x7_1 < (a0.size : Int)) = true := decide_eq_true c11
           clear c11
           by_cases c13 : (bt a0 x7_1) = a1
           · rw [if_pos c13] at H
             have c13b0 : ((bt a0 x7_1) == a1) = true := beq_iff_eq.mpr c13
             have c13b1 : ((bt a0 x7_1) != a1) = false := bne_eq_false_iff_eq.mpr c13
             clear c13
             by_cases c14 : 0 ≤ x6_1
             · rw [if_pos c14] at H
               have c14b0 := eq_true c14
               have c14b1 : decide (0 ≤ x6_1) = true := decide_eq_true c14
               clear c14
               by_cases c15 : x6_1 ≤ x7_1
               · rw [if_pos c15] at H
                 have c15b0 := eq_true c15
                 have c15b1 : decide (x6_1 ≤ x7_1) = true := decide_eq_true c15
                 clear c15
                 have c16b0 := eq_true (of_decide_eq_true z1200 : x7_1 ≤ (a0.size : Int))
                 by_cases c17 : x5_1.length < 8796093022208
                 · rw [if_pos c17] at H
                   have LMc17 := aM c17
                   clear c17
                   obtain ⟨y104, hy104⟩ : ∃ y_ : List ByteArray, y_ = (x5_1 ++ [a0.extract (x6_1 : Int).toNat (x7_1 : Int).toNat]) := ⟨_, rfl⟩
                   replace H : (spec_l12Split.l0 k1 a0 a1 y104 (wrap64 (x7_1 + 1)) (wrap64 (x7_1 + 1))) = some r := by first | (rw [hy104]; with_reducible exact H) | (have H2_ := (Option.bind_some _ _).symm.trans H; rw [hy104]; with_reducible exact H2_) | (have H2_ := (Option.bind_some _ _).symm.trans H; with_reducible exact H2_) | with_reducible exact H | (rw [hy104]; exact H) | exact H
                   have Ny104 := aM hy104
                   clear hy104
                   have H' := aM H
                   clear H
                   have p12 : 0 ≤ (x7_1 : Int) := of_decide_eq_true z1200
                   have q12 : x7_1 < (a0.size : Int) := of_decide_eq_true z1200
                   have hx12 := bt_at a0 x7_1
                   replace p12 := eq_true p12
                   replace q12 := eq_true q12
                   go_wp2_with (first | ((with_reducible refine gate_builtin (b := .append) (xs := #[.tmp 25, .tmp 30]) rfl ?_); at_builtin; refine Kd.R_append Kd.string (w0 := w) w.heap.size rfl (.tmp 25) (.tmp 30) 89 9 (.string ⟨#[]⟩) 16 rfl Tryd.underlying89 info9 rfl (by decide) (by omega) u5 x5_1 (a0.extract (x6_1 : Int).toNat (x7_1 : Int).toNat) [.string (a0.extract (x6_1 : Int).toNat (x7_1 : Int).toNat)] (fun _ => True) (fun _ => False) rfl rfl ?aP (fun _ hk => hk.elim) ?aF ?aO ?aB ?aS ?aL ?_; (case aP => exact rfl); (case aB => exact hbZ); (case aF => exact (fun _ _ => trivial)); (case aO => exact (rZ HO_5.out)); (case aS => exact (below_size hbZ)); (case aL => have := LMc17.out; omega); intro v105 w18 ho hb hg hat; rw [← Ny104.out] at ho; have _ := aM hb; have _ := aM ho; clear HB HO_5; rename_i HB HO106; clear ho hb hg hat))
                   go_roundg k1
                   case measure => have := HK1.out; omega
                   case rel => exact ⟨(y104), (wrap64 (x7_1 + 1)), (wrap64 (x7_1 + 1)), z4458, z4458, H', ⟨zfb39⟩, ⟨rZ HO106.out⟩, ⟨z5acd⟩⟩
                 · rw [if_neg c17] at H
                   exact absurd H (by simp)
               · rw [if_neg c15] at H
                 exact absurd H (by simp)
             · rw [if_neg c14] at H
               exact absurd H (by simp)
           · rw [if_neg c13] at H
             have c13b0 : ((bt a0 x7_1) == a1) = false := beq_eq_false_iff_ne.mpr c13
             have c13b1 : ((bt a0 x7_1) != a1) = true := bne_iff_ne.mpr c13
             have H' := aM H
             clear H
             have p12 : 0 ≤ (x7_1 : Int) := of_decide_eq_true z1200
             have q12 : x7_1 < (a0.size : Int) := of_decide_eq_true z1200
             have hx12 := bt_at a0 x7_1
             replace p12 := eq_true p12
             replace q12 := eq_true q12
             go_wp2
             go_roundg k1
             case measure => have := HK1.out; omega
             case rel => exact ⟨(x5_1), (x6_1), (wrap64 (x7_1 + 1)), z4458, z4458, H', ⟨zfb39⟩, ⟨rZ HO_5.out⟩, ⟨z5acd⟩⟩
         · rw [if_neg c11] at H
           exact absurd H (by simp)
       · rw [if_neg c10] at H
         exact absurd H (by simp)
   · rw [if_neg c3] at H
     have c3b0 : decide (x7_1 ≤ (a0.size : Int)) = false := decide_eq_false c3
     clear c3
     obtain rfl := Option.some.inj H
     go_wp2
     go_ret
     exact ⟨_, z674d, rZ HO_5.out, z5acd⟩

end Go.Proofs.YteogadaloebdaaaDoor.P

/- Texts cut at a byte: the pieces, the specification's cutter, and the library's. -/
namespace Go.Proofs.YteogadaloebdaaaDoor.Lem
open Go Go.RowKit Go.Proofs.YteogadaloebdaaaDoor.P Go.Proofs.YteogadaloebdaaaDoorW.PrintWords Go.Proofs.YteogadaloebdaaaDoorW.PrintLast Go.Proofs.YteogadaloebdaaaDoorW.PrintMore

/-- The pieces of a text, 'cur' ahead of the first. -/
def splA (c : UInt8) : List UInt8 → List UInt8 → List (List UInt8)
  | cur, [] => [cur]
  | cur, a :: r => if a = c then cur :: splA c [] r else splA c (cur ++ [a]) r
theorem splA_free {c : UInt8} : ∀ (l cur : List UInt8), c ∉ l → splA c cur l = [cur ++ l]
  | [], cur, _ => by rw [splA, List.append_nil]
  | a :: r, cur, h => by
    rw [List.mem_cons, not_or] at h
    rw [splA, if_neg (fun e => h.1 e.symm), splA_free r _ h.2, List.append_assoc]
    rfl
theorem splA_hit {c : UInt8} (r : List UInt8) : ∀ (l cur : List UInt8), c ∉ l → splA c cur (l ++ c :: r) = (cur ++ l) :: splA c [] r
  | [], cur, _ => by rw [List.nil_append, splA, if_pos rfl, List.append_nil]
  | a :: l, cur, h => by
    rw [List.mem_cons, not_or] at h
    rw [List.cons_append, splA, if_neg (fun e => h.1 e.symm), splA_hit r l _ h.2, List.append_assoc]
    rfl
theorem splA_inv {c : UInt8} : ∀ (l cur : List UInt8) {x : List UInt8} {r : List (List UInt8)}, splA c cur l = x :: r →
    (r = [] ∧ x = cur ++ l ∧ c ∉ l) ∨ ∃ l1 l2, l = l1 ++ c :: l2 ∧ c ∉ l1 ∧ x = cur ++ l1 ∧ r = splA c [] l2
  | [], cur, x, r, h => by
    rw [splA] at h
    injection h with h1 h2
    exact Or.inl ⟨h2.symm, by rw [List.append_nil]; exact h1.symm, List.not_mem_nil⟩
  | a :: l, cur, x, r, h => by
    rw [splA] at h
    by_cases e : a = c
    · rw [if_pos e] at h
      injection h with h1 h2
      subst e
      exact Or.inr ⟨[], l, rfl, List.not_mem_nil, by rw [List.append_nil]; exact h1.symm, h2.symm⟩
    · rw [if_neg e] at h
      rcases splA_inv l _ h with ⟨h1, h2, h3⟩ | ⟨l1, l2, h1, h2, h3, h4⟩
      · exact Or.inl ⟨h1, by rw [h2, List.append_assoc]; rfl, by rw [List.mem_cons, not_or]; exact ⟨fun x => e x.symm, h3⟩⟩
      · exact Or.inr ⟨a :: l1, l2, by rw [h1]; rfl, by rw [List.mem_cons, not_or]; exact ⟨fun x => e x.symm, h2⟩, by rw [h3, List.append_assoc]; rfl, h4⟩
theorem splA_ne {c : UInt8} : ∀ (l cur : List UInt8), splA c cur l ≠ []
  | [], cur => by rw [splA]; exact List.cons_ne_nil _ _
  | a :: l, cur => by
    rw [splA]
    split
    · exact List.cons_ne_nil _ _
    · exact splA_ne l _
theorem splA_length {c : UInt8} : ∀ (l cur : List UInt8), (splA c cur l).length ≤ l.length + 1
  | [], cur => by rw [splA]; exact Nat.le_refl _
  | a :: l, cur => by
    rw [splA]
    split
    · have := splA_length (c := c) l []
      rw [List.length_cons, List.length_cons]
      omega
    · have := splA_length (c := c) l (cur ++ [a])
      rw [List.length_cons]
      omega
theorem splA_sizes {c : UInt8} : ∀ (l cur : List UInt8), ∀ p ∈ splA c cur l, p.length ≤ cur.length + l.length
  | [], cur, p, h => by
    rw [splA, List.mem_singleton] at h
    subst h
    exact Nat.le_refl _
  | a :: l, cur, p, h => by
    rw [splA] at h
    rw [List.length_cons]
    split at h
    · rcases List.mem_cons.1 h with rfl | h
      · omega
      · have := splA_sizes l [] p h
        rw [List.length_nil] at this
        omega
    · have := splA_sizes l _ p h
      rw [List.length_append, List.length_singleton] at this
      omega

/-- A text out of bytes. -/
def mkB (l : List UInt8) : ByteArray := ⟨l.toArray⟩
theorem mkB_list (l : List UInt8) : (mkB l).data.toList = l := rfl
theorem mkB_size (l : List UInt8) : (mkB l).size = l.length := List.size_toArray ..
theorem mkB_of (s : ByteArray) : mkB s.data.toList = s := Go.WideShapes.bytes_inj (mkB_list _)
theorem extract_list (s : ByteArray) (a b : Nat) : (s.extract a b).data.toList = (s.data.toList.drop a).take (b - a) := by
  rw [Go.Lib.extract_data]

theorem l12Split_l0 (s : ByteArray) (hs : s.size ≤ 1048576) (c : UInt8) : ∀ (d i at_ k : Nat) (acc : List ByteArray), i + d = s.size → at_ ≤ i → d + 2 < k → acc.length ≤ i →
    spec_l12Split.l0 k s (c.toNat : Int) acc (at_ : Int) (i : Int) = some (acc ++ (splA c ((s.data.toList.drop at_).take (i - at_)) (s.data.toList.drop i)).map mkB) := by
  intro d
  induction d with
  | zero =>
    intro i a k acc hi ha hk hl
    obtain ⟨k, rfl⟩ : ∃ q, k = q + 2 := ⟨k - 2, by omega⟩
    have hlen : s.data.toList.length = s.size := (Go.Lib.size_eq s).symm
    rw [spec_l12Split.l0, if_pos (by omega), if_pos (by omega), if_pos (by omega), if_pos (by omega), if_pos (by omega), show wrap64 ((i : Int) + 1) = ((i + 1 : Nat) : Int) from by rw [w64 (by omega) (by omega)]; omega]
    rw [spec_l12Split.l0, if_neg (by omega), List.drop_of_length_le (i := i) (by omega), splA, List.map_singleton]
    congr 3
    apply Go.WideShapes.bytes_inj
    rw [mkB_list, extract_list, Int.toNat_natCast, Int.toNat_natCast]
  | succ d ih =>
    intro i a k acc hi ha hk hl
    obtain ⟨k, rfl⟩ : ∃ q, k = q + 1 := ⟨k - 1, by omega⟩
    have hlen : s.data.toList.length = s.size := (Go.Lib.size_eq s).symm
    have hlt : i < s.data.toList.length := by omega
    rw [spec_l12Split.l0, if_pos (by omega), if_neg (by omega), if_pos (by omega), if_pos (by omega), bt_get (by omega), show wrap64 ((i : Int) + 1) = ((i + 1 : Nat) : Int) from by rw [w64 (by omega) (by omega)]; omega, drop_get hlt, splA]
    by_cases e : s.data.toList[i] = c
    · rw [if_pos (by rw [e]), if_pos (by omega), if_pos (by omega), if_pos (by omega), if_pos e]
      rw [ih (i + 1) (i + 1) k _ (by omega) (by omega) (by omega) (by rw [List.length_append, List.length_singleton]; omega)]
      rw [Nat.sub_self, List.take_zero, List.map_cons, List.append_assoc]
      congr 3
      rw [List.singleton_append]
      congr 1
      apply Go.WideShapes.bytes_inj
      rw [mkB_list, extract_list, Int.toNat_natCast, Int.toNat_natCast]
    · rw [if_neg (by
        intro h
        exact e (UInt8.toNat_inj.1 (by omega))), if_neg e]
      rw [ih (i + 1) a k _ (by omega) (by omega) (by omega) (by omega)]
      congr 4
      rw [show i + 1 - a = (i - a) + 1 by omega, List.take_succ_eq_append_getElem (by rw [List.length_drop]; omega), List.getElem_drop]
      congr 2
      simp only [show a + (i - a) = i by omega]
theorem l12Split_ok {s : ByteArray} (hs : s.size ≤ 1048576) (c : UInt8) {k : Nat} (hk : s.size + 2 < k) : spec_l12Split.f k s (c.toNat : Int) = some ((splA c [] s.data.toList).map mkB) :=
  l12Split_l0 s hs c s.size 0 0 k [] (by omega) (Nat.le_refl _) hk (Nat.zero_le _)

/-- The library's 'Cut' at one byte. -/
theorem occ1 (c : UInt8) (l : List UInt8) (i : Nat) : Go.Lib.occAt l [c] i = (l[i]? == some c) := by
  unfold Go.Lib.occAt
  cases h : l.drop i with
  | nil =>
    rw [List.getElem?_eq_none (List.drop_eq_nil_iff.1 h)]
    rfl
  | cons a r =>
    have : l[i]? = some a := by
      have := List.head?_drop (l := l) (i := i)
      rw [h] at this
      exact this.symm
    rw [this]
    simp only [List.isPrefixOf, Bool.and_true]
    exact Bool.beq_comm
theorem index_free {c : UInt8} {l : List UInt8} (h : c ∉ l) : Go.Lib.index l [c] = -1 := by
  refine Go.Lib.index_none fun j hj => ?_
  rw [occ1]
  cases e : l[j]? with
  | none => rfl
  | some a =>
    have hm : a ∈ l := List.mem_of_getElem? e
    have : a ≠ c := fun x => h (x ▸ hm)
    simpa using this
theorem index_hit {c : UInt8} {l r : List UInt8} (h : c ∉ l) : Go.Lib.index (l ++ c :: r) [c] = (l.length : Int) := by
  refine Go.Lib.index_first (by rw [List.length_append]; omega) ?_ fun j hj => ?_
  · rw [occ1, List.getElem?_append_right (Nat.le_refl _), Nat.sub_self]
    simp
  · rw [occ1, List.getElem?_append_left hj, List.getElem?_eq_getElem hj]
    have hm : l[j] ∈ l := List.getElem_mem hj
    have : l[j] ≠ c := fun x => h (x ▸ hm)
    simpa using this
theorem cut_free {c : UInt8} {l : List UInt8} (h : c ∉ l) : Go.Lib.cut l [c] = (l, [], false) := by
  unfold Go.Lib.cut
  rw [index_free h, if_neg (by decide)]
theorem cut_hit {c : UInt8} {l r : List UInt8} (h : c ∉ l) : Go.Lib.cut (l ++ c :: r) [c] = (l, r, true) := by
  unfold Go.Lib.cut
  rw [index_hit h, if_pos (by omega), Int.toNat_natCast, List.take_left, List.length_singleton]
  congr 2
  rw [← List.drop_drop, List.drop_left]
  rfl
theorem cut_sizes (c : UInt8) (l : List UInt8) : (Go.Lib.cut l [c]).1.length ≤ l.length ∧ (Go.Lib.cut l [c]).2.1.length ≤ l.length := by
  unfold Go.Lib.cut
  split
  · refine ⟨?_, ?_⟩
    · show (l.take _).length ≤ _
      rw [List.length_take]
      omega
    · show (l.drop _).length ≤ _
      rw [List.length_drop]
      omega
  · exact ⟨Nat.le_refl _, Nat.zero_le _⟩
theorem splitK_eq (c : UInt8) : ∀ (k : Nat) (l : List UInt8), (splA c [] l).length ≤ k + 1 → Go.Lib.splitK [c] 0 k l = splA c [] l
  | 0, l, h => by
    rw [Go.Lib.splitK]
    cases e : splA c [] l with
    | nil => exact absurd e (splA_ne _ _)
    | cons x r =>
      rcases splA_inv l [] e with ⟨h1, h2, h3⟩ | ⟨l1, l2, h1, h2, h3, h4⟩
      · rw [h1, h2]
        rfl
      · rw [e, h4, List.length_cons] at h
        have := List.length_pos_iff.2 (splA_ne (c := c) l2 [])
        omega
  | k + 1, l, h => by
    rw [Go.Lib.splitK]
    cases e : splA c [] l with
    | nil => exact absurd e (splA_ne _ _)
    | cons x r =>
      rcases splA_inv l [] e with ⟨h1, h2, h3⟩ | ⟨l1, l2, h1, h2, h3, h4⟩
      · rw [index_free h3, if_pos (beq_self_eq_true _), h1, h2]
        rfl
      · rw [e, h4, List.length_cons] at h
        have ih := splitK_eq c k l2 (by omega)
        rw [h1, index_hit h2, if_neg (by
          intro x
          have := beq_iff_eq.1 x
          omega), Int.toNat_natCast, Nat.add_zero, List.take_left, List.length_singleton, ← List.drop_drop, List.drop_left, List.drop_one, List.tail_cons, ih, h3, h4]
        rfl
end Go.Proofs.YteogadaloebdaaaDoor.Lem

/- The bytes of a good key: what the program writes, that it reads them back, and their order. -/
namespace Go.Proofs.YteogadaloebdaaaDoor.Lem
open Go Go.RowKit Go.Proofs.YteogadaloebdaaaDoor.P Go.Proofs.YteogadaloebdaaaDoorW.PrintWords Go.Proofs.YteogadaloebdaaaDoorW.PrintLast Go.Proofs.YteogadaloebdaaaDoorW.PrintMore

def toI (x : List UInt8) : List Int := x.map (fun b => (b.toNat : Int))
theorem bytesOf_toI (s : ByteArray) : bytesOf s = toI s.data.toList := rfl
def toU (x : List Int) : List UInt8 := x.map (fun n => UInt8.ofNat n.toNat)
theorem toU_toI (x : List UInt8) : toU (toI x) = x := by
  unfold toU toI
  rw [List.map_map]
  conv => rhs; rw [← List.map_id x]
  refine List.map_congr_left (fun a _ => ?_)
  simp
theorem strOfNums_list (x : List Int) : (strOfNums x).data.toList = toU x := rfl
theorem strOfNums_toI (x : List UInt8) : strOfNums (toI x) = mkB x := Go.WideShapes.bytes_inj (by rw [strOfNums_list, toU_toI, mkB_list])
theorem toI_bytes (x : List UInt8) : Bytes (toI x) := by
  intro a ha
  obtain ⟨b, _, rfl⟩ := List.mem_map.1 ha
  have := b.toNat_lt
  omega
/-- A tag's bytes, behind its mark and ahead of its end. -/
def partU (t : Tg) : List UInt8 := 2 :: (t.f0.data.toList ++ 1 :: t.f1.data.toList)
def tagsU : List Tg → List UInt8
  | [] => []
  | t :: r => partU t ++ 0 :: tagsU r
def headU (m : ByteArray) (l : List Tg) : List UInt8 := m.data.toList ++ 0 :: tagsU l
def keyI (m : ByteArray) (l : List Tg) (st : Int) : List Int := toI (headU m l) ++ 1 :: B8.be 8 st.toNat
theorem partU_length (t : Tg) : (partU t).length = t.f0.size + t.f1.size + 2 := by
  unfold partU
  rw [List.length_cons, List.length_append, List.length_cons, ← Go.Lib.size_eq, ← Go.Lib.size_eq]
  omega
theorem tagsU_length : ∀ (l : List Tg), (∀ t ∈ l, t.f0.size ≤ 12 ∧ t.f1.size ≤ 12) → (tagsU l).length ≤ 27 * l.length
  | [], _ => Nat.zero_le _
  | t :: r, h => by
    have ih := tagsU_length r (fun t ht => h t (List.mem_cons_of_mem _ ht))
    have ht := h t List.mem_cons_self
    rw [tagsU, List.length_append, List.length_cons, partU_length, List.length_cons]
    omega
theorem keyBytes_l0 (l : List Tg) (hl : l.length ≤ 4) (hn : ∀ t ∈ l, t.f0.size ≤ 12 ∧ t.f1.size ≤ 12) (m : ByteArray) {st : Int} (h0 : 0 ≤ st) (h1 : st ≤ 1000000000) : ∀ (d i k : Nat) (x : List Int), i + d = l.length → d + 14 < k → x.length + 30 * d ≤ 1000 →
    impl_keyBytes.l0 k x l (l.length : Int) (i : Int) m l st = some (x ++ (toI (tagsU (l.drop i)) ++ 1 :: B8.be 8 st.toNat)) := by
  intro d
  induction d with
  | zero =>
    intro i k x hi hk hx
    obtain ⟨k, rfl⟩ : ∃ q, k = q + 1 := ⟨k - 1, by omega⟩
    have hb : (B8.be 8 st.toNat).length = 8 := B8.be_length 8 _
    rw [impl_keyBytes.l0, if_neg (by omega), B8.putFixed8 (by omega) h0 h1, Option.bind_some, if_pos (by omega), Option.bind_some]
    dsimp only
    rw [if_pos (by rw [List.length_append, List.length_singleton, hb]; omega), List.drop_of_length_le (by omega), List.append_assoc]
    rfl
  | succ d ih =>
    intro i k x hi hk hx
    obtain ⟨k, rfl⟩ : ∃ q, k = q + 1 := ⟨k - 1, by omega⟩
    have hlt : i < l.length := by omega
    have e0 : rd_T69 l (i : Int) = l[i] := rdT_get hlt
    obtain ⟨hn0, hn1⟩ := hn l[i] (List.getElem_mem hlt)
    have hz0 := bytesOf_length l[i].f0
    have hz1 := bytesOf_length l[i].f1
    have hstep : (((((x ++ [2]) ++ bytesOf l[i].f0) ++ [1]) ++ bytesOf l[i].f1) ++ [0]) = x ++ toI (partU l[i] ++ [0]) := by
      simp [toI, partU, bytesOf]
    have hnext := ih (i + 1) k (((((x ++ [2]) ++ bytesOf l[i].f0) ++ [1]) ++ bytesOf l[i].f1) ++ [0]) (by omega) (by omega) (by simp only [List.length_append, List.length_singleton]; omega)
    rw [impl_keyBytes.l0, if_pos (by omega), if_pos (by omega), if_pos (by omega), e0, if_pos (by omega), Option.bind_some, if_pos (by simp only [List.length_append, List.length_singleton]; omega), Option.bind_some,
      if_pos (by simp only [List.length_append, List.length_singleton]; omega), Option.bind_some, if_pos (by simp only [List.length_append, List.length_singleton]; omega), Option.bind_some,
      if_pos (by simp only [List.length_append, List.length_singleton]; omega), show wrap64 ((i : Int) + 1) = ((i + 1 : Nat) : Int) from by rw [w64 (by omega) (by omega)]; omega, hnext, hstep, drop_get hlt]
    congr 1
    rw [List.append_assoc]
    congr 1
    rw [tagsU]
    simp [toI]
theorem names_le {l : List Tg} (h : tagsB none l = true) : ∀ t ∈ l, t.f0.size ≤ 12 ∧ t.f1.size ≤ 12 := fun t ht => ⟨(nameB_size (tagsB_names h t ht).1).2, (nameB_size (tagsB_names h t ht).2).2⟩
theorem keyBytes_ok {m : ByteArray} {l : List Tg} {st : Int} (h : keyB m l st = true) {k : Nat} (hk : 30 < k) : impl_keyBytes.f k m l st = some (keyI m l st) := by
  obtain ⟨hm, hl, h0, h1, ht⟩ := keyB_parts h
  have hs := nameB_size hm
  have hb := bytesOf_length m
  unfold impl_keyBytes.f
  rw [if_pos (by omega), Option.bind_some, if_pos (by omega)]
  have := keyBytes_l0 l hl (names_le ht) m h0 h1 l.length 0 k (bytesOf m ++ [0]) (by omega) (by omega) (by simp only [List.length_append, List.length_singleton]; omega)
  rw [show ((0 : Nat) : Int) = 0 from rfl] at this
  rw [this, List.drop_zero]
  simp [keyI, headU, toI, bytesOf]
theorem KeyBytes_ok (m : ByteArray) (l : List Tg) (st : Int) {k : Nat} (hk : 30 < k) : impl_KeyBytes.f k m l st = some (if keyB m l st = true then (keyI m l st, true) else ([], false)) := by
  unfold impl_KeyBytes.f
  rw [implKey_ok m l st (by omega), Option.bind_some]
  by_cases h : keyB m l st = true
  · rw [if_pos h, if_pos h, keyBytes_ok h hk]
    rfl
  · rw [if_neg h, if_neg h]
end Go.Proofs.YteogadaloebdaaaDoor.Lem
