/- The statement's own text and the last of the walks that it uses. -/
import Derived.Laws.BitsAllLaws
import Derived.Lib.SlTrimSet
import Derived.Lib.ItoaLen
import Derived.Lib.ItoaMem
import Derived.Lib.IndexMore
import Derived.Lib.Split
import Derived.WideShapes
import Derived.Lib.AtoiAllCases
import Derived.ChangeArms
import Derived.ChangeSlices
import Derived.DataReads
import Derived.Handed
import Derived.Shelf.Vars
import Derived.Test.YteogadaloebdaaaDoorRows
import Derived.Test.YteogadaloebdaaaDoorTie
import Derived.Test.YteogadaloebdaaaDoorCards
import Derived.WalkKit
import Derived.ProofKit
import Derived.OpenShut
import Derived.ChangeOld
import Derived.Below
import Derived.Lay
import Derived.MakeChecks
import Derived.LaidHandle
import Derived.Lib.LaidTab
import Derived.Stop.LaidErr
import Derived.JoinedOf
import Derived.SevenTiedAt
import Derived.RowKit
import Derived.Test.YteogadaloebdaaaDoorMRdKey3

-- written by a program of this session's (wip/pp)
namespace Go.Proofs.YteogadaloebdaaaDoor.P
open Go.RowKit Go.Proofs.YteogadaloebdaaaDoorW.PrintWords Go.Proofs.YteogadaloebdaaaDoorW.PrintLast Go.Proofs.YteogadaloebdaaaDoorW.PrintMore
attribute [local go_sem] max2_int min2_int max_two min_two max_three min_three max_four min_four str_geq str_gtr str_leq   -- for this text's walks alone
set_option linter.unusedVariables false
set_option linter.unusedSimpArgs false

/-! ### laws_FnExactReadKeyText: function 6 -/
mutual
def laws_FnExactReadKeyText.j0 : Nat → ByteArray → Bool → Bool → ByteArray → List (S69) → Int → ByteArray → List (S69) → Int → Option (Bool)
 | 0, _, _, _, _, _, _, _, _, _ => none
 | k + 1, x0, x4, x32, x108000, x108001, x108002, x115000, x115001, x115002 => if x32 = true then (some false) else ((laws_markKey.f k x115000 x115001 x115002 1).bind fun bt116 => ((laws_heldKey.f k x115000 bt116.2 x115002 1).bind fun t118 => (if t118 < 0 then (some false) else (if t118 = bt116.1 then ((impl_ReadKeyText.f k x0).bind fun bt119 => ((laws_eqKey.f k bt119.1 bt119.2.1 bt119.2.2.1 x108000 x108001 x108002).bind fun t126 => (if t126 = true then (laws_FnExactReadKeyText.j1 k bt116.1 (bt119.2.2.2 != x4) x115000 bt116.2 x115002) else (laws_FnExactReadKeyText.j1 k bt116.1 true x115000 bt116.2 x115002)))) else (some false)))))
def laws_FnExactReadKeyText.j1 : Nat → Int → Bool → ByteArray → List (S69) → Int → Option (Bool)
 | 0, _, _, _, _, _ => none
 | k + 1, x7, x57, x115000, x115001, x115002 => if x57 = true then (some false) else ((laws_heldKey.f k x115000 x115001 x115002 1).bind fun t127 => (if t127 < 0 then (some false) else (if t127 = x7 then (some true) else (some false))))
end
def laws_FnExactReadKeyText.f (k : Nat) (a0 : ByteArray) : Option (Bool) := if (a0.size : Int) > 1048576 then (some true) else ((spec_ReadKeyText.f k a0).bind fun bt101 => ((impl_ReadKeyText.f k a0).bind fun bt108 => ((laws_eqKey.f k bt108.1 bt108.2.1 bt108.2.2.1 bt101.1 bt101.2.1 bt101.2.2.1).bind fun t115 => (if t115 = true then (laws_FnExactReadKeyText.j0 k a0 bt101.2.2.2 (bt108.2.2.2 != bt101.2.2.2) bt101.1 bt101.2.1 bt101.2.2.1 bt108.1 bt108.2.1 bt108.2.2.1) else (laws_FnExactReadKeyText.j0 k a0 bt101.2.2.2 true bt101.1 bt101.2.1 bt101.2.2.1 bt108.1 bt108.2.1 bt108.2.2.1)))))
theorem laws_FnExactReadKeyText.mono_l : ∀ k, (∀ y0 y1 y2 y3 y4 y5 y6 y7 y8, LeO (laws_FnExactReadKeyText.j0 k y0 y1 y2 y3 y4 y5 y6 y7 y8) (laws_FnExactReadKeyText.j0 (k + 1) y0 y1 y2 y3 y4 y5 y6 y7 y8)) ∧ (∀ y0 y1 y2 y3 y4, LeO (laws_FnExactReadKeyText.j1 k y0 y1 y2 y3 y4) (laws_FnExactReadKeyText.j1 (k + 1) y0 y1 y2 y3 y4))
 | 0 => ⟨fun _ _ _ _ _ _ _ _ _ r h => by simp [laws_FnExactReadKeyText.j0] at h, fun _ _ _ _ _ r h => by simp [laws_FnExactReadKeyText.j1] at h⟩
 | k + 1 => by
  obtain ⟨ih0, ih1⟩ := laws_FnExactReadKeyText.mono_l k
  refine ⟨?_, ?_⟩
  · intro y0 y1 y2 y3 y4 y5 y6 y7 y8
    unfold laws_FnExactReadKeyText.j0
    repeat' first
     | (with_reducible first | exact ih0 .. | exact ih1 .. | exact impl_ReadKeyText.mono .. | exact laws_eqKey.mono .. | exact laws_heldKey.mono .. | exact laws_markKey.mono .. | exact spec_ReadKeyText.mono .. | exact LeO.refl _ | exact LeO.none _ | refine LeO.ite ?_ ?_ | refine LeO.bind ?_ (fun _ => ?_))
     | exact LeO.none _
     | refine LeO.ite ?_ ?_
     | refine LeO.bind ?_ (fun _ => ?_)
  · intro y0 y1 y2 y3 y4
    unfold laws_FnExactReadKeyText.j1
    repeat' first
     | (with_reducible first | exact ih0 .. | exact ih1 .. | exact impl_ReadKeyText.mono .. | exact laws_eqKey.mono .. | exact laws_heldKey.mono .. | exact laws_markKey.mono .. | exact spec_ReadKeyText.mono .. | exact LeO.refl _ | exact LeO.none _ | refine LeO.ite ?_ ?_ | refine LeO.bind ?_ (fun _ => ?_))
     | exact LeO.none _
     | refine LeO.ite ?_ ?_
     | refine LeO.bind ?_ (fun _ => ?_)
theorem laws_FnExactReadKeyText.mono : ∀ a0 k, LeO (laws_FnExactReadKeyText.f k a0) (laws_FnExactReadKeyText.f (k + 1) a0) := by
 intro a0 k
 obtain ⟨ih0, ih1⟩ := laws_FnExactReadKeyText.mono_l k
 unfold laws_FnExactReadKeyText.f
 repeat' first
  | (with_reducible first | exact ih0 .. | exact ih1 .. | exact impl_ReadKeyText.mono .. | exact laws_eqKey.mono .. | exact laws_heldKey.mono .. | exact laws_markKey.mono .. | exact spec_ReadKeyText.mono .. | exact LeO.refl _ | exact LeO.none _ | refine LeO.ite ?_ ?_ | refine LeO.bind ?_ (fun _ => ?_))
  | exact LeO.none _
  | refine LeO.ite ?_ ?_
  | refine LeO.bind ?_ (fun _ => ?_)
set_option maxHeartbeats 8000000 in
set_option maxRecDepth 100000 in
theorem laws_FnExactReadKeyText.calls (k : Nat) (a0 : ByteArray) (r : Bool) (w : World) (hTabE_ : TabE_ w) (hTabM_ : TabM_ w) (hTab_ : Tab_ w) (h : laws_FnExactReadKeyText.f k a0 = some r) :
 Calls Tryd.prog 6 #[.string a0] w fun e w' => e = .returned (.bool r) ∧ Below w.heap.size w w' := by
 have hu25 := Tryd.underlying25
 have HTabE_ := aM hTabE_
 clear hTabE_
 have HTabM_ := aM hTabM_
 clear hTabM_
 have HTab_ := aM hTab_
 clear hTab_
 have HB := aM (Below.refl w.heap.size w)
 have H : (if (a0.size : Int) > 1048576 then (some true) else ((spec_ReadKeyText.f k a0).bind fun bt101 => ((impl_ReadKeyText.f k a0).bind fun bt108 => ((laws_eqKey.f k bt108.1 bt108.2.1 bt108.2.2.1 bt101.1 bt101.2.1 bt101.2.2.1).bind fun t115 => (if t115 = true then (laws_FnExactReadKeyText.j0 k a0 bt101.2.2.2 (bt108.2.2.2 != bt101.2.2.2) bt101.1 bt101.2.1 bt101.2.2.1 bt108.1 bt108.2.1 bt108.2.2.1) else (laws_FnExactReadKeyText.j0 k a0 bt101.2.2.2 true bt101.1 bt101.2.1 bt101.2.2.1 bt108.1 bt108.2.1 bt108.2.2.1)))))) = some r := h
 clear h
 by_cases c2 : (a0.size : Int) > 1048576
 · rw [if_pos c2] at H
   have c2b0 : decide (1048576 < (a0.size : Int)) = true := decide_eq_true c2
   have c2b1 : decide (1048576 < a0.size) = true := decide_eq_true (by omega)
   clear c2
   obtain rfl := Option.some.inj H
   go_enter Tryd.func6, Tryd.ntmps6
   go_wp2
   go_ret
   exact ⟨z674d, z5acd⟩
 · rw [if_neg c2] at H
   have c2b0 : decide (1048576 < (a0.size : Int)) = false := decide_eq_false c2
   have c2b1 : decide (1048576 < a0.size) = false := decide_eq_false (by omega)
   clear c2
   replace H := Option.bind_eq_some_iff.mp H
   obtain ⟨⟨t101, t102, t105, t106⟩, A30, H⟩ := H
   try dsimp only at H
   have A3 := aM A30
   clear A30
   replace H := Option.bind_eq_some_iff.mp H
   obtain ⟨⟨t108, t109, t112, t113⟩, A40, H⟩ := H
   try dsimp only at H
   have A4 := aM A40
   clear A40
   have HC5 := aM H
   clear H
   go_enter Tryd.func6, Tryd.ntmps6
   go_upto_region 5 with (first | ((with_reducible refine gate_callee (f := 20) rfl ?_); refine goesL_ (some 16) rfl rfl Tryd.func20 (by kernel_rfl) rfl #[.string a0] rfl zee81 ?_; (with_reducible refine (spec_ReadKeyText.calls k a0 t101 t102 t105 t106 _ A3.out).mono ?_); rintro e w6 ⟨v103, rfl, ho0, hb⟩; refine ⟨_, rfl, ?_⟩; have _ := aM (Kd.R_lower ho0 (below_size hbZ)); have _ := aM (below_step hbZ hb); clear HB; rename_i HO104 HB; (try clear hb); (try clear ho0)) | ((with_reducible refine gate_dst (N := 3) rfl ?_); refine box_event ?hg (N := 3) ?hd (cs := #[.string (⟨#[]⟩ : ByteArray), .slice none 0 0, .int .i64 0]) (t := 25) ?hr ?_; (case hd => rfl); (case hg => rfl); (case hr => first | (go_simp; done) | (go_simp; rfl)); intro gb107 hg w7 hbox hb; have _ := aM (Kd.R_below (rZ HO104.out) hb); have _ := aM (below_step hbZ hb); have _ := aM hbox; have _ := szZ hg; have _ := szZ hg; clear HO104 HB; rename_i HO104 HB BK107 GW107 GE107; clear hb hbox hg; obtain ⟨hcz8_0, hcz8_1, hcz8_2, hfz8_0, hfz8_1, hfz8_2⟩ := cellsZ3 BK107.out; obtain ⟨Ao9, co9, eo9⟩ := Kd.R_slice HO104.out; subst eo9) | ((with_reducible refine gate_callee (f := 19) rfl ?_); refine goesL_ (some 21) rfl rfl Tryd.func19 (by kernel_rfl) rfl #[.string a0] rfl zee81 ?_; (with_reducible refine (impl_ReadKeyText.calls k a0 t108 t109 t112 t113 _ ?side1 ?side2 ?side3 A4.out).mono ?_); (case side1 => exact TabE_.stays HTabE_.out hbZ); (case side2 => exact TabM_.stays HTabM_.out hbZ); (case side3 => exact Tab_.stays HTab_.out hbZ); rintro e w10 ⟨v110, rfl, ho0, hb⟩; refine ⟨_, rfl, ?_⟩; have _ := aM (Kd.R_elder' (rZ (rF3 HO104.out BK107.out)) (Kd.R_base ho0) hb); have _ := aM (Kd.R_lower (Kd.R_new' ho0 (Kd.R_lt (rZ (rF3 HO104.out BK107.out)))) (below_size hbZ)); have _ := aM (blk_below (g := gb107) (o := .cells #[.string t101, .slice Ao9 t102.length co9, .int .i64 t105] 25 (0, 0)) bkZ hb); have _ := aM (below_step hbZ hb); clear HO104 BK107 HB; rename_i HO104 HO111 BK107 HB; (try clear hb); (try clear ho0)) | ((with_reducible refine gate_dst (N := 5) rfl ?_); refine box_event ?hg (N := 5) ?hd (cs := #[.string (⟨#[]⟩ : ByteArray), .slice none 0 0, .int .i64 0]) (t := 25) ?hr ?_; (case hd => rfl); (case hg => rfl); (case hr => first | (go_simp; done) | (go_simp; rfl)); intro gb114 hg w11 hbox hb; have _ := aM (Kd.R_below (rZ HO104.out) hb); have _ := aM (Kd.R_below (rZ HO111.out) hb); have _ := bB gb107 hb; have _ := aM (below_step hbZ hb); have _ := aM hbox; have _ := szZ hg; have _ := szZ hg; have ⟨_, _⟩ := nbB gb107 hg; clear HO104 HO111 BK107 HB; rename_i HO104 HO111 BK107 HB BK114 GW114 GE114 NB107_114 NB114_107; clear hb hbox hg; have hnb12 := NB114_107.out; have hnc12 := NB107_114.out; obtain ⟨hcz13_0, hcz13_1, hcz13_2, hfz13_0, hfz13_1, hfz13_2⟩ := cellsZ3 BK114.out; obtain ⟨Ao14, co14, eo14⟩ := Kd.R_slice HO111.out; subst eo14))
   (try simp only [Act.put, List.setIfInBounds_toArray, List.set_cons_zero, List.set_cons_succ])
   go_cut [32] (fun v32 wc => ∃ (kq : Nat) (x32_4 : Bool), v32 = .bool x32_4 ∧ Aside0 (laws_FnExactReadKeyText.j0 kq a0 t106 x32_4 t101 t102 t105 t108 t109 t112 = some r) ∧ Aside0 (kq ≤ k) ∧ Aside0 (Kd.R k69 69 wc w.heap.size (fun k_ => some k_ ≠ ((.slice Ao14 t109.length co14) : Value).ownBlock) (.slice Ao9 t102.length co9) t102) ∧ Aside0 (Kd.R k69 69 wc w.heap.size (fun k_ => some k_ ≠ ((.slice Ao9 t102.length co9) : Value).ownBlock) (.slice Ao14 t109.length co14) t109) ∧ Aside0 (wc.heap[gb107]? = some (.cells #[.string t101, (.slice Ao9 t102.length co9), .int .i64 t105] 25 (0, 0))) ∧ Aside0 (wc.heap[gb114]? = some (.cells #[.string t108, (.slice Ao14 t109.length co14), .int .i64 t112] 25 (0, 0))) ∧ Aside0 (Below w.heap.size w wc))
   case first =>
    have H := HC5.out
    clear HC5
    replace H := Option.bind_eq_some_iff.mp H
    obtain ⟨t115, A150, H⟩ := H
    try dsimp only at H
    have A15 := aM A150
    clear A150
    by_cases c16 : t115 = true
    · subst c16
      have H1 : (laws_FnExactReadKeyText.j0 k a0 t106 (t113 != t106) t101 t102 t105 t108 t109 t112) = some r := by rw [if_pos rfl] at H; exact H
      clear H
      have H := H1
      clear H1
      have H' := aM H
      clear H
      have hnb17 := NB114_107.out
      have hnc17 := NB107_114.out
      obtain ⟨hcz18_0, hcz18_1, hcz18_2, hfz18_0, hfz18_1, hfz18_2⟩ := cellsZ3 BK114.out
      obtain ⟨hcz19_0, hcz19_1, hcz19_2, hfz19_0, hfz19_1, hfz19_2⟩ := cellsZ3 BK107.out
      go_wp2_with (first | ((with_reducible refine gate_callee (f := 17) rfl ?_); refine goesL_ (some 26) rfl rfl Tryd.func17 (by kernel_rfl) rfl #[.agg #[.string t108, .slice Ao14 t109.length co14, .int .i64 t112], .agg #[.string t101, .slice Ao9 t102.length co9, .int .i64 t105]] rfl zee81 ?_; (with_reducible refine (laws_eqKey.calls k t108 _ _ t109 t112 t101 _ _ t102 t105 true _ ?side1 ?side2 ?side3 ?side4 A15.out).mono ?_); (case side1 => refine (Kd.R_reads' (e := 69) (base := w.heap.size) (ok := fun k_ => (True ∧ some k_ ≠ (.slice Ao9 t102.length co9 : Value).ownBlock)) (n := t109.length) (c := co14) ?_).2.2; exact (rZ (rF3 HO111.out BK114.out))); (case side2 => exact (Kd.R_reads' HO111.out).2.1); (case side3 => refine (Kd.R_reads' (e := 69) (base := w.heap.size) (ok := fun k_ => (True ∧ some k_ ≠ (.slice Ao14 t109.length co14 : Value).ownBlock)) (n := t102.length) (c := co9) ?_).2.2; exact (rZ (rF3 HO104.out BK114.out))); (case side4 => exact (Kd.R_reads' HO104.out).2.1); rintro e w20 ⟨rfl, hb⟩; refine ⟨_, rfl, ?_⟩; have _ := aM (Kd.R_below (rZ (rF3 HO104.out BK114.out)) hb); have _ := aM (Kd.R_below (rZ (rF3 HO111.out BK114.out)) hb); have _ := bB gb107 hb; have _ := aM (blk_below (g := gb114) (o := .cells #[.string t108, .slice Ao14 t109.length co14, .int .i64 t112] 25 (0, 0)) bkZ hb); have _ := aM (below_step hbZ hb); clear HO104 HO111 BK107 BK114 HB; rename_i HO104 HO111 BK107 BK114 HB; (try clear hb)))
      go_meet
      case rel => exact ⟨_, ((t113 != t106)), z4458, H', ⟨zb79b⟩, ⟨by (with_reducible repeat (first | apply Kd.R_alloc | apply Kd.R_drewN | apply Kd.R_drew)); exact Kd.R_mono HO104.out (fun _ hk => hk.2)⟩, ⟨by (with_reducible repeat (first | apply Kd.R_alloc | apply Kd.R_drewN | apply Kd.R_drew)); exact Kd.R_mono HO111.out (fun _ hk => hk.2)⟩, ⟨bkZ⟩, ⟨bkZ⟩, ⟨zcb41⟩⟩
    · replace c16 := Bool.eq_false_iff.mpr c16
      subst c16
      have H1 : (laws_FnExactReadKeyText.j0 k a0 t106 true t101 t102 t105 t108 t109 t112) = some r := by rw [if_neg (show ¬ (false = true) by decide)] at H; exact H
      clear H
      have H := H1
      clear H1
      have H' := aM H
      clear H
      have hnb21 := NB114_107.out
      have hnc21 := NB107_114.out
      obtain ⟨hcz22_0, hcz22_1, hcz22_2, hfz22_0, hfz22_1, hfz22_2⟩ := cellsZ3 BK114.out
      obtain ⟨hcz23_0, hcz23_1, hcz23_2, hfz23_0, hfz23_1, hfz23_2⟩ := cellsZ3 BK107.out
      go_wp2_with (first | ((with_reducible refine gate_callee (f := 17) rfl ?_); refine goesL_ (some 26) rfl rfl Tryd.func17 (by kernel_rfl) rfl #[.agg #[.string t108, .slice Ao14 t109.length co14, .int .i64 t112], .agg #[.string t101, .slice Ao9 t102.length co9, .int .i64 t105]] rfl zee81 ?_; (with_reducible refine (laws_eqKey.calls k t108 _ _ t109 t112 t101 _ _ t102 t105 false _ ?side1 ?side2 ?side3 ?side4 A15.out).mono ?_); (case side1 => refine (Kd.R_reads' (e := 69) (base := w.heap.size) (ok := fun k_ => (True ∧ some k_ ≠ (.slice Ao9 t102.length co9 : Value).ownBlock)) (n := t109.length) (c := co14) ?_).2.2; exact (rZ (rF3 HO111.out BK114.out))); (case side2 => exact (Kd.R_reads' HO111.out).2.1); (case side3 => refine (Kd.R_reads' (e := 69) (base := w.heap.size) (ok := fun k_ => (True ∧ some k_ ≠ (.slice Ao14 t109.length co14 : Value).ownBlock)) (n := t102.length) (c := co9) ?_).2.2; exact (rZ (rF3 HO104.out BK114.out))); (case side4 => exact (Kd.R_reads' HO104.out).2.1); rintro e w24 ⟨rfl, hb⟩; refine ⟨_, rfl, ?_⟩; have _ := aM (Kd.R_below (rZ (rF3 HO104.out BK114.out)) hb); have _ := aM (Kd.R_below (rZ (rF3 HO111.out BK114.out)) hb); have _ := bB gb107 hb; have _ := aM (blk_below (g := gb114) (o := .cells #[.string t108, .slice Ao14 t109.length co14, .int .i64 t112] 25 (0, 0)) bkZ hb); have _ := aM (below_step hbZ hb); clear HO104 HO111 BK107 BK114 HB; rename_i HO104 HO111 BK107 BK114 HB; (try clear hb)))
      go_meet
      case rel => exact ⟨_, (true), z4458, H', ⟨zb79b⟩, ⟨by (with_reducible repeat (first | apply Kd.R_alloc | apply Kd.R_drewN | apply Kd.R_drew)); exact Kd.R_mono HO104.out (fun _ hk => hk.2)⟩, ⟨by (with_reducible repeat (first | apply Kd.R_alloc | apply Kd.R_drewN | apply Kd.R_drew)); exact Kd.R_mono HO111.out (fun _ hk => hk.2)⟩, ⟨bkZ⟩, ⟨bkZ⟩, ⟨zcb41⟩⟩
   case rest =>
    clear HC5
    try clear c1
    try clear c2
    try clear c2b0
    try clear c2b1
    try clear p2
    try clear c6
    try clear c12
    try clear c16
    try clear c17
    try clear c19
    try clear c20
    try clear c21
    try clear hcz13_0 hcz13_1 hcz13_2
    try clear hcz18_0 hcz18_1 hcz18_2
    try clear hcz19_0 hcz19_1 hcz19_2
    try clear hcz22_0 hcz22_1 hcz22_2
    try clear hcz23_0 hcz23_1 hcz23_2
    try clear hcz8_0 hcz8_1 hcz8_2
    try clear hfz13_0 hfz13_1 hfz13_2
    try clear hfz18_0 hfz18_1 hfz18_2
    try clear hfz19_0 hfz19_1 hfz19_2
    try clear hfz22_0 hfz22_1 hfz22_2
    try clear hfz23_0 hfz23_1 hfz23_2
    try clear hfz8_0 hfz8_1 hfz8_2
    obtain ⟨kq, x32_4, rfl, HA, HJ4, HO_108001, HO_115001, BK107, BK114, HB⟩ := hcut
    cases kq with
    | zero => exact absurd HA.out (by simp [laws_FnExactReadKeyText.j0])
    | succ kj4 =>
     have H := HA.out
     clear HA
     simp only [laws_FnExactReadKeyText.j0] at H
     by_cases c25 : x32_4 = true
     · subst c25
       have H1 : (some false) = some r := by rw [if_pos rfl] at H; exact H
       clear H
       have H := H1
       clear H1
       obtain rfl := Option.some.inj H
       go_wp2
       go_ret
       exact ⟨z674d, zcb41⟩
     · replace c25 := Bool.eq_false_iff.mpr c25
       subst c25
       have H1 : ((laws_markKey.f kj4 t108 t109 t112 1).bind fun bt116 => ((laws_heldKey.f kj4 t108 bt116.2 t112 1).bind fun t118 => (if t118 < 0 then (some false) else (if t118 = bt116.1 then ((impl_ReadKeyText.f kj4 a0).bind fun bt119 => ((laws_eqKey.f kj4 bt119.1 bt119.2.1 bt119.2.2.1 t101 t102 t105).bind fun t126 => (if t126 = true then (laws_FnExactReadKeyText.j1 kj4 bt116.1 (bt119.2.2.2 != t106) t108 bt116.2 t112) else (laws_FnExactReadKeyText.j1 kj4 bt116.1 true t108 bt116.2 t112)))) else (some false))))) = some r := by rw [if_neg (show ¬ (false = true) by decide)] at H; exact H
       clear H
       have H := H1
       clear H1
       replace H := Option.bind_eq_some_iff.mp H
       obtain ⟨⟨t116, t117⟩, A260, H⟩ := H
       try dsimp only at H
       have A26 := aM A260
       clear A260
       replace H := Option.bind_eq_some_iff.mp H
       obtain ⟨t118, A270, H⟩ := H
       try dsimp only at H
       have A27 := aM A270
       clear A270
       by_cases c28 : t118 < 0
       · rw [if_pos c28] at H
         have c28b0 : decide (t118 < 0) = true := decide_eq_true c28
         clear c28
         obtain rfl := Option.some.inj H
         have hnb29 := NB114_107.out
         have hnc29 := NB107_114.out
         obtain ⟨hcz30_0, hcz30_1, hcz30_2, hfz30_0, hfz30_1, hfz30_2⟩ := cellsZ3 BK114.out
         go_wp2_with (first | ((with_reducible refine gate_callee (f := 21) rfl ?_); refine goesL_ (some 35) rfl rfl Tryd.func21 (by kernel_rfl) rfl #[.agg #[.string t108, .slice Ao14 t109.length co14, .int .i64 t112], .int .i64 1] rfl zee81 ?_; (with_reducible refine (laws_markKey.calls kj4 t108 (fun k_ => some k_ = (.slice Ao14 t109.length co14 : Value).ownBlock) (.slice Ao14 t109.length co14) t109 t112 1 t116 t117 w _ ?side1 ?side2 A26.out).mono ?_); (case side1 => exact zcb41); (case side2 => exact Kd.R_tight rfl HO_115001.out); rintro e w31 ⟨rfl, hy0, hb, hkp⟩; refine ⟨_, rfl, ?_⟩; have _ := aM (Kd.R_mono (ok' := fun k_ => some k_ ≠ (.slice Ao14 t109.length co14 : Value).ownBlock) (Kd.R_keptB (HO_108001.out) hkp (fun k_ hk_ hs_ => (hk_) hs_)) (fun k_ hk_ => hk_.1)); have _ := aM (Kd.R_reok rfl hy0 (fun k_ e_ => HO_115001.out.1 k_ e_)); have _ := aM (blk_kept bkZ hkp (fun hs_ => (fun e_ => (Kd.R_ne HO_115001.out BK107.out (by decide)) e_) hs_)); have _ := aM (blk_kept bkZ hkp (fun hs_ => (fun e_ => (Kd.R_ne HO_115001.out BK114.out (by decide)) e_) hs_)); have _ := aM hb; clear HO_108001 HO_115001 BK107 BK114 HB; rename_i HO_108001 HO_115001 BK107 BK114 HB; (try clear hb); (try clear hkp); (try clear hy0); obtain ⟨hcz32_0, hcz32_1, hcz32_2, hfz32_0, hfz32_1, hfz32_2⟩ := cellsZ3 BK114.out) | ((with_reducible refine gate_callee (f := 22) rfl ?_); refine goesL_ (some 38) rfl rfl Tryd.func22 (by kernel_rfl) rfl #[.agg #[.string t108, .slice Ao14 t117.length co14, .int .i64 t112], .int .i64 1] rfl (by (try simp only [List.map_toArray, List.map_cons, List.map_nil]); first | done | (rw [show t117.length = t109.length from (Kd.R_reads' HO_115001.out).1.symm] <;> rfl) | rfl | (simp only [List.length_drop, List.length_take]; rfl)) ?_; (with_reducible refine (laws_heldKey.calls kj4 t108 _ _ t117 t112 1 t118 _ ?side1 ?side2 A27.out).mono ?_); (case side1 => exact (by repeat (first | exact (Kd.R_reads' HO_115001.out).2.2 | (with_reducible refine Kd.C_alloc ?_ _) | (with_reducible refine Kd.C_drewN ?_ _) | (with_reducible refine Kd.C_drew ?_)))); (case side2 => rw [show t117.length = t109.length from (Kd.R_reads' HO_115001.out).1.symm]; exact (Kd.R_reads' HO_115001.out).2.1); rintro e w33 ⟨rfl, hb⟩; refine ⟨_, rfl, ?_⟩; have _ := aM (Kd.R_below (rZ HO_108001.out) hb); have _ := aM (Kd.R_below (rZ HO_115001.out) hb); have _ := bB gb107 hb; have _ := bB gb114 hb; have _ := aM (below_step hbZ hb); clear HO_108001 HO_115001 BK107 BK114 HB; rename_i HO_108001 HO_115001 BK107 BK114 HB; (try clear hb)))
         go_ret
         exact ⟨z674d, zcb41⟩
       · rw [if_neg c28] at H
         have c28b0 : decide (t118 < 0) = false := decide_eq_false c28
         clear c28
         by_cases c34 : t118 = t116
         · rw [if_pos c34] at H
           have c34b0 : (t118 == t116) = true := beq_iff_eq.mpr c34
           have c34b1 : (t118 != t116) = false := bne_eq_false_iff_eq.mpr c34
           clear c34
           replace H := Option.bind_eq_some_iff.mp H
           obtain ⟨⟨t119, t120, t123, t124⟩, A350, H⟩ := H
           try dsimp only at H
           have A35 := aM A350
           clear A350
           have HC36 := aM H
           clear H
           have hnb37 := NB114_107.out
           have hnc37 := NB107_114.out
           obtain ⟨hcz38_0, hcz38_1, hcz38_2, hfz38_0, hfz38_1, hfz38_2⟩ := cellsZ3 BK114.out
           go_upto_region 16 with (first | ((with_reducible refine gate_callee (f := 21) rfl ?_); refine goesL_ (some 35) rfl rfl Tryd.func21 (by kernel_rfl) rfl #[.agg #[.string t108, .slice Ao14 t109.length co14, .int .i64 t112], .int .i64 1] rfl zee81 ?_; (with_reducible refine (laws_markKey.calls kj4 t108 (fun k_ => some k_ = (.slice Ao14 t109.length co14 : Value).ownBlock) (.slice Ao14 t109.length co14) t109 t112 1 t116 t117 w _ ?side1 ?side2 A26.out).mono ?_); (case side1 => exact zcb41); (case side2 => exact Kd.R_tight rfl HO_115001.out); rintro e w39 ⟨rfl, hy0, hb, hkp⟩; refine ⟨_, rfl, ?_⟩; have _ := aM (Kd.R_mono (ok' := fun k_ => some k_ ≠ (.slice Ao14 t109.length co14 : Value).ownBlock) (Kd.R_keptB (HO_108001.out) hkp (fun k_ hk_ hs_ => (hk_) hs_)) (fun k_ hk_ => hk_.1)); have _ := aM (Kd.R_reok rfl hy0 (fun k_ e_ => HO_115001.out.1 k_ e_)); have _ := aM (blk_kept bkZ hkp (fun hs_ => (fun e_ => (Kd.R_ne HO_115001.out BK107.out (by decide)) e_) hs_)); have _ := aM (blk_kept bkZ hkp (fun hs_ => (fun e_ => (Kd.R_ne HO_115001.out BK114.out (by decide)) e_) hs_)); have _ := aM hb; clear HO_108001 HO_115001 BK107 BK114 HB; rename_i HO_108001 HO_115001 BK107 BK114 HB; (try clear hb); (try clear hkp); (try clear hy0); obtain ⟨hcz40_0, hcz40_1, hcz40_2, hfz40_0, hfz40_1, hfz40_2⟩ := cellsZ3 BK114.out) | ((with_reducible refine gate_callee (f := 22) rfl ?_); refine goesL_ (some 38) rfl rfl Tryd.func22 (by kernel_rfl) rfl #[.agg #[.string t108, .slice Ao14 t117.length co14, .int .i64 t112], .int .i64 1] rfl (by (try simp only [List.map_toArray, List.map_cons, List.map_nil]); first | done | (rw [show t117.length = t109.length from (Kd.R_reads' HO_115001.out).1.symm] <;> rfl) | rfl | (simp only [List.length_drop, List.length_take]; rfl)) ?_; (with_reducible refine (laws_heldKey.calls kj4 t108 _ _ t117 t112 1 t118 _ ?side1 ?side2 A27.out).mono ?_); (case side1 => exact (by repeat (first | exact (Kd.R_reads' HO_115001.out).2.2 | (with_reducible refine Kd.C_alloc ?_ _) | (with_reducible refine Kd.C_drewN ?_ _) | (with_reducible refine Kd.C_drew ?_)))); (case side2 => rw [show t117.length = t109.length from (Kd.R_reads' HO_115001.out).1.symm]; exact (Kd.R_reads' HO_115001.out).2.1); rintro e w41 ⟨rfl, hb⟩; refine ⟨_, rfl, ?_⟩; have _ := aM (Kd.R_below (rZ HO_108001.out) hb); have _ := aM (Kd.R_below (rZ HO_115001.out) hb); have _ := bB gb107 hb; have _ := bB gb114 hb; have _ := aM (below_step hbZ hb); clear HO_108001 HO_115001 BK107 BK114 HB; rename_i HO_108001 HO_115001 BK107 BK114 HB; (try clear hb)) | ((with_reducible refine gate_callee (f := 19) rfl ?_); refine goesL_ (some 46) rfl rfl Tryd.func19 (by kernel_rfl) rfl #[.string a0] rfl zee81 ?_; (with_reducible refine (impl_ReadKeyText.calls kj4 a0 t119 t120 t123 t124 _ ?side1 ?side2 ?side3 A35.out).mono ?_); (case side1 => exact TabE_.stays HTabE_.out hbZ); (case side2 => exact TabM_.stays HTabM_.out hbZ); (case side3 => exact Tab_.stays HTab_.out hbZ); rintro e w42 ⟨v121, rfl, ho0, hb⟩; refine ⟨_, rfl, ?_⟩; have _ := aM (Kd.R_elder' (rZ HO_108001.out) (Kd.R_base ho0) hb); have _ := aM (Kd.R_elder' (rZ HO_115001.out) (Kd.R_base ho0) hb); have _ := aM (Kd.R_lower (Kd.R_new' (Kd.R_new' ho0 (Kd.R_lt (rZ HO_108001.out))) (Kd.R_lt (rZ HO_115001.out))) (below_size hbZ)); have _ := bB gb107 hb; have _ := bB gb114 hb; have _ := aM (below_step hbZ hb); clear HO_108001 HO_115001 BK107 BK114 HB; rename_i HO_108001 HO_115001 HO122 BK107 BK114 HB; (try clear hb); (try clear ho0)) | ((with_reducible refine gate_dst (N := 9) rfl ?_); refine box_event ?hg (N := 9) ?hd (cs := #[.string (⟨#[]⟩ : ByteArray), .slice none 0 0, .int .i64 0]) (t := 25) ?hr ?_; (case hd => rfl); (case hg => rfl); (case hr => first | (go_simp; done) | (go_simp; rfl)); intro gb125 hg w43 hbox hb; have _ := aM (Kd.R_below (rZ HO_108001.out) hb); have _ := aM (Kd.R_below (rZ HO_115001.out) hb); have _ := aM (Kd.R_below (rZ HO122.out) hb); have _ := bB gb107 hb; have _ := bB gb114 hb; have _ := aM (below_step hbZ hb); have _ := aM hbox; have _ := szZ hg; have _ := szZ hg; have ⟨_, _⟩ := nbB gb107 hg; have ⟨_, _⟩ := nbB gb114 hg; clear HO_108001 HO_115001 HO122 BK107 BK114 HB; rename_i HO_108001 HO_115001 HO122 BK107 BK114 HB BK125 GW125 GE125 NB107_125 NB125_107 NB114_125 NB125_114; clear hb hbox hg; have hnb44 := NB125_107.out; have hnc44 := NB107_125.out; have hnb45 := NB125_114.out; have hnc45 := NB114_125.out; obtain ⟨hcz46_0, hcz46_1, hcz46_2, hfz46_0, hfz46_1, hfz46_2⟩ := cellsZ3 BK125.out; obtain ⟨Ao47, co47, eo47⟩ := Kd.R_slice HO122.out; subst eo47))
           (try simp only [Act.put, List.setIfInBounds_toArray, List.set_cons_zero, List.set_cons_succ])
           go_cut [57] (fun v57 wc => ∃ (kq : Nat) (x57_35 : Bool), v57 = .bool x57_35 ∧ Aside0 (laws_FnExactReadKeyText.j1 kq t116 x57_35 t108 t117 t112 = some r) ∧ Aside0 (kq ≤ kj4) ∧ Aside0 (Kd.R k69 69 wc w.heap.size (fun k_ => some k_ ≠ ((.slice Ao14 t109.length co14) : Value).ownBlock ∧ some k_ ≠ ((.slice Ao47 t120.length co47) : Value).ownBlock) (.slice Ao9 t102.length co9) t102) ∧ Aside0 (Kd.R k69 69 wc w.heap.size (fun k_ => some k_ ≠ ((.slice Ao9 t102.length co9) : Value).ownBlock ∧ some k_ ≠ ((.slice Ao47 t120.length co47) : Value).ownBlock) (.slice Ao14 t109.length co14) t117) ∧ Aside0 (Kd.R k69 69 wc w.heap.size (fun k_ => some k_ ≠ ((.slice Ao9 t102.length co9) : Value).ownBlock ∧ some k_ ≠ ((.slice Ao14 t109.length co14) : Value).ownBlock) (.slice Ao47 t120.length co47) t120) ∧ Aside0 (wc.heap[gb107]? = some (.cells #[.string t101, (.slice Ao9 t102.length co9), .int .i64 t105] 25 (0, 0))) ∧ Aside0 (wc.heap[gb114]? = some (.cells #[.string t108, (.slice Ao14 t109.length co14), .int .i64 t112] 25 (0, 0))) ∧ Aside0 (wc.heap[gb125]? = some (.cells #[.string t119, (.slice Ao47 t120.length co47), .int .i64 t123] 25 (0, 0))) ∧ Aside0 (Below w.heap.size w wc))
           case first =>
            have H := HC36.out
            clear HC36
            replace H := Option.bind_eq_some_iff.mp H
            obtain ⟨t126, A480, H⟩ := H
            try dsimp only at H
            have A48 := aM A480
            clear A480
            by_cases c49 : t126 = true
            · subst c49
              have H1 : (laws_FnExactReadKeyText.j1 kj4 t116 (t124 != t106) t108 t117 t112) = some r := by rw [if_pos rfl] at H; exact H
              clear H
              have H := H1
              clear H1
              have H' := aM H
              clear H
              have hnb50 := NB125_107.out
              have hnc50 := NB107_125.out
              have hnb51 := NB125_114.out
              have hnc51 := NB114_125.out
              obtain ⟨hcz52_0, hcz52_1, hcz52_2, hfz52_0, hfz52_1, hfz52_2⟩ := cellsZ3 BK125.out
              have hnb53 := NB107_114.out
              have hnc53 := NB114_107.out
              obtain ⟨hcz54_0, hcz54_1, hcz54_2, hfz54_0, hfz54_1, hfz54_2⟩ := cellsZ3 BK107.out
              go_wp2_with (first | ((with_reducible refine gate_callee (f := 17) rfl ?_); refine goesL_ (some 51) rfl rfl Tryd.func17 (by kernel_rfl) rfl #[.agg #[.string t119, .slice Ao47 t120.length co47, .int .i64 t123], .agg #[.string t101, .slice Ao9 t102.length co9, .int .i64 t105]] rfl zee81 ?_; (with_reducible refine (laws_eqKey.calls kj4 t119 _ _ t120 t123 t101 _ _ t102 t105 true _ ?side1 ?side2 ?side3 ?side4 A48.out).mono ?_); (case side1 => refine (Kd.R_reads' (e := 69) (base := w.heap.size) (ok := fun k_ => ((True ∧ some k_ ≠ (.slice Ao9 t102.length co9 : Value).ownBlock) ∧ some k_ ≠ (.slice Ao14 t109.length co14 : Value).ownBlock)) (n := t120.length) (c := co47) ?_).2.2; exact (rZ (rF3 HO122.out BK125.out))); (case side2 => exact (Kd.R_reads' HO122.out).2.1); (case side3 => refine (Kd.R_reads' (e := 69) (base := w.heap.size) (ok := fun k_ => (some k_ ≠ (.slice Ao14 t109.length co14 : Value).ownBlock ∧ some k_ ≠ (.slice Ao47 t120.length co47 : Value).ownBlock)) (n := t102.length) (c := co9) ?_).2.2; exact (rZ (rF3 HO_108001.out BK125.out))); (case side4 => exact (Kd.R_reads' HO_108001.out).2.1); rintro e w55 ⟨rfl, hb⟩; refine ⟨_, rfl, ?_⟩; have _ := aM (Kd.R_below (rZ (rF3 HO_108001.out BK125.out)) hb); have _ := aM (Kd.R_below (rZ (rF3 HO_115001.out BK125.out)) hb); have _ := aM (Kd.R_below (rZ (rF3 HO122.out BK125.out)) hb); have _ := bB gb107 hb; have _ := bB gb114 hb; have _ := aM (blk_below (g := gb125) (o := .cells #[.string t119, .slice Ao47 t120.length co47, .int .i64 t123] 25 (0, 0)) bkZ hb); have _ := aM (below_step hbZ hb); clear HO_108001 HO_115001 HO122 BK107 BK114 BK125 HB; rename_i HO_108001 HO_115001 HO122 BK107 BK114 BK125 HB; (try clear hb)))
              go_meet
              case rel => exact ⟨_, ((t124 != t106)), z4458, H', ⟨by have := HJ4.out; first | omega | exact Nat.le_refl _⟩, ⟨rZ HO_108001.out⟩, ⟨rZ HO_115001.out⟩, ⟨by (with_reducible repeat (first | apply Kd.R_alloc | apply Kd.R_drewN | apply Kd.R_drew)); exact Kd.R_mono HO122.out (fun _ hk => ⟨hk.1.2, hk.2⟩)⟩, ⟨bkZ⟩, ⟨bkZ⟩, ⟨bkZ⟩, ⟨zcb41⟩⟩
            · replace c49 := Bool.eq_false_iff.mpr c49
              subst c49
              have H1 : (laws_FnExactReadKeyText.j1 kj4 t116 true t108 t117 t112) = some r := by rw [if_neg (show ¬ (false = true) by decide)] at H; exact H
              clear H
              have H := H1
              clear H1
              have H' := aM H
              clear H
              have hnb56 := NB125_107.out
              have hnc56 := NB107_125.out
              have hnb57 := NB125_114.out
              have hnc57 := NB114_125.out
              obtain ⟨hcz58_0, hcz58_1, hcz58_2, hfz58_0, hfz58_1, hfz58_2⟩ := cellsZ3 BK125.out
              have hnb59 := NB107_114.out
              have hnc59 := NB114_107.out
              obtain ⟨hcz60_0, hcz60_1, hcz60_2, hfz60_0, hfz60_1, hfz60_2⟩ := cellsZ3 BK107.out
              go_wp2_with (first | ((with_reducible refine gate_callee (f := 17) rfl ?_); refine goesL_ (some 51) rfl rfl Tryd.func17 (by kernel_rfl) rfl #[.agg #[.string t119, .slice Ao47 t120.length co47, .int .i64 t123], .agg #[.string t101, .slice Ao9 t102.length co9, .int .i64 t105]] rfl zee81 ?_; (with_reducible refine (laws_eqKey.calls kj4 t119 _ _ t120 t123 t101 _ _ t102 t105 false _ ?side1 ?side2 ?side3 ?side4 A48.out).mono ?_); (case side1 => refine (Kd.R_reads' (e := 69) (base := w.heap.size) (ok := fun k_ => ((True ∧ some k_ ≠ (.slice Ao9 t102.length co9 : Value).ownBlock) ∧ some k_ ≠ (.slice Ao14 t109.length co14 : Value).ownBlock)) (n := t120.length) (c := co47) ?_).2.2; exact (rZ (rF3 HO122.out BK125.out))); (case side2 => exact (Kd.R_reads' HO122.out).2.1); (case side3 => refine (Kd.R_reads' (e := 69) (base := w.heap.size) (ok := fun k_ => (some k_ ≠ (.slice Ao14 t109.length co14 : Value).ownBlock ∧ some k_ ≠ (.slice Ao47 t120.length co47 : Value).ownBlock)) (n := t102.length) (c := co9) ?_).2.2; exact (rZ (rF3 HO_108001.out BK125.out))); (case side4 => exact (Kd.R_reads' HO_108001.out).2.1); rintro e w61 ⟨rfl, hb⟩; refine ⟨_, rfl, ?_⟩; have _ := aM (Kd.R_below (rZ (rF3 HO_108001.out BK125.out)) hb); have _ := aM (Kd.R_below (rZ (rF3 HO_115001.out BK125.out)) hb); have _ := aM (Kd.R_below (rZ (rF3 HO122.out BK125.out)) hb); have _ := bB gb107 hb; have _ := bB gb114 hb; have _ := aM (blk_below (g := gb125) (o := .cells #[.string t119, .slice Ao47 t120.length co47, .int .i64 t123] 25 (0, 0)) bkZ hb); have _ := aM (below_step hbZ hb); clear HO_108001 HO_115001 HO122 BK107 BK114 BK125 HB; rename_i HO_108001 HO_115001 HO122 BK107 BK114 BK125 HB; (try clear hb)))
              go_meet
              case rel => exact ⟨_, (true), z4458, H', ⟨by have := HJ4.out; first | omega | exact Nat.le_refl _⟩, ⟨rZ HO_108001.out⟩, ⟨rZ HO_115001.out⟩, ⟨by (with_reducible repeat (first | apply Kd.R_alloc | apply Kd.R_drewN | apply Kd.R_drew)); exact Kd.R_mono HO122.out (fun _ hk => ⟨hk.1.2, hk.2⟩)⟩, ⟨bkZ⟩, ⟨bkZ⟩, ⟨bkZ⟩, ⟨zcb41⟩⟩
           case rest =>
            clear HC36
            try clear c1
            try clear c2
            try clear c2b0
            try clear c2b1
            try clear p2
            try clear c3
            try clear c4
            try clear c5
            try clear c6
            try clear c12
            try clear c16
            try clear c17
            try clear c19
            try clear c20
            try clear c21
            try clear c22
            try clear c25
            try clear c28
            try clear c28b0
            try clear c29
            try clear c34
            try clear c34b0
            try clear c34b1
            try clear c37
            try clear c44
            try clear c45
            try clear c49
            try clear c50
            try clear c51
            try clear c53
            try clear c56
            try clear c57
            try clear c59
            try clear hcz13_0 hcz13_1 hcz13_2
            try clear hcz18_0 hcz18_1 hcz18_2
            try clear hcz19_0 hcz19_1 hcz19_2
            try clear hcz22_0 hcz22_1 hcz22_2
            try clear hcz23_0 hcz23_1 hcz23_2
            try clear hcz30_0 hcz30_1 hcz30_2
            try clear hcz32_0 hcz32_1 hcz32_2
            try clear hcz38_0 hcz38_1 hcz38_2
            try clear hcz40_0 hcz40_1 hcz40_2
            try clear hcz46_0 hcz46_1 hcz46_2
            try clear hcz52_0 hcz52_1 hcz52_2
            try clear hcz54_0 hcz54_1 hcz54_2
            try clear hcz58_0 hcz58_1 hcz58_2
            try clear hcz60_0 hcz60_1 hcz60_2
            try clear hcz8_0 hcz8_1 hcz8_2
            try clear hfz13_0 hfz13_1 hfz13_2
            try clear hfz18_0 hfz18_1 hfz18_2
            try clear hfz19_0 hfz19_1 hfz19_2
            try clear hfz22_0 hfz22_1 hfz22_2
            try clear hfz23_0 hfz23_1 hfz23_2
            try clear hfz30_0 hfz30_1 hfz30_2
            try clear hfz32_0 hfz32_1 hfz32_2
            try clear hfz38_0 hfz38_1 hfz38_2
            try clear hfz40_0 hfz40_1 hfz40_2
            try clear hfz46_0 hfz46_1 hfz46_2
            try clear hfz52_0 hfz52_1 hfz52_2
            try clear hfz54_0 hfz54_1 hfz54_2
            try clear hfz58_0 hfz58_1 hfz58_2
            try clear hfz60_0 hfz60_1 hfz60_2
            try clear hfz8_0 hfz8_1 hfz8_2
            try clear p2
            obtain ⟨kq, x57_35, rfl, HA, HJ35, HO_108001, HO_115001, HO_126001, BK107, BK114, BK125, HB⟩ := hcut
            have hl115001_35 := (Kd.R_reads' HO_115001.out).1
            rw [hl115001_35] at HO_115001
            (try simp only [hl115001_35])
            (try simp only [hl115001_35] at BK107)
            (try simp only [hl115001_35] at BK114)
            (try simp only [hl115001_35] at BK125)
            (try simp only [hl115001_35] at HO_108001)
            (try simp only [hl115001_35] at HO_126001)
            cases kq with
            | zero => exact absurd HA.out (by simp [laws_FnExactReadKeyText.j1])
            | succ kj35 =>
             have H := HA.out
             clear HA
             simp only [laws_FnExactReadKeyText.j1] at H
             by_cases c62 : x57_35 = true
             · subst c62
               have H1 : (some false) = some r := by rw [if_pos rfl] at H; exact H
               clear H
               have H := H1
               clear H1
               obtain rfl := Option.some.inj H
               go_wp2
               go_ret
               exact ⟨z674d, zcb41⟩
             · replace c62 := Bool.eq_false_iff.mpr c62
               subst c62
               have H1 : ((laws_heldKey.f kj35 t108 t117 t112 1).bind fun t127 => (if t127 < 0 then (some false) else (if t127 = t116 then (some true) else (some false)))) = some r := by rw [if_neg (show ¬ (false = true) by decide)] at H; exact H
               clear H
               have H := H1
               clear H1
               replace H := Option.bind_eq_some_iff.mp H
               obtain ⟨t127, A630, H⟩ := H
               try dsimp only at H
               have A63 := aM A630
               clear A630
               by_cases c64 : t127 < 0
               · rw [if_pos c64] at H
                 have c64b0 : decide (t127 < 0) = true := decide_eq_true c64
                 clear c64
                 obtain rfl := Option.some.inj H
                 have hnb65 := NB114_107.out
                 have hnc65 := NB107_114.out
                 have hnb66 := NB114_125.out
                 have hnc66 := NB125_114.out
                 obtain ⟨hcz67_0, hcz67_1, hcz67_2, hfz67_0, hfz67_1, hfz67_2⟩ := cellsZ3 BK114.out
                 go_wp2_with (first | ((with_reducible refine gate_callee (f := 22) rfl ?_); refine goesL_ (some 60) rfl rfl Tryd.func22 (by kernel_rfl) rfl #[.agg #[.string t108, .slice Ao14 t117.length co14, .int .i64 t112], .int .i64 1] rfl zee81 ?_; (with_reducible refine (laws_heldKey.calls kj35 t108 _ _ t117 t112 1 t127 _ ?side1 ?side2 A63.out).mono ?_); (case side1 => exact (by repeat (first | exact (Kd.R_reads' HO_115001.out).2.2 | (with_reducible refine Kd.C_alloc ?_ _) | (with_reducible refine Kd.C_drewN ?_ _) | (with_reducible refine Kd.C_drew ?_)))); (case side2 => exact (Kd.R_reads' HO_115001.out).2.1); rintro e w68 ⟨rfl, hb⟩; refine ⟨_, rfl, ?_⟩; have _ := aM (Kd.R_below (rZ HO_108001.out) hb); have _ := aM (Kd.R_below (rZ HO_115001.out) hb); have _ := aM (Kd.R_below (rZ HO_126001.out) hb); have _ := bB gb107 hb; have _ := bB gb114 hb; have _ := bB gb125 hb; have _ := aM (below_step hbZ hb); clear HO_108001 HO_115001 HO_126001 BK107 BK114 BK125 HB; rename_i HO_108001 HO_115001 HO_126001 BK107 BK114 BK125 HB; (try clear hb)))
                 go_ret
                 exact ⟨z674d, zcb41⟩
               · rw [if_neg c64] at H
                 have c64b0 : decide (t127 < 0) = false := decide_eq_false c64
                 clear c64
                 by_cases c69 : t127 = t116
                 · rw [if_pos c69] at H
                   have c69b0 : (t127 == t116) = true := beq_iff_eq.mpr c69
                   have c69b1 : (t127 != t116) = false := bne_eq_false_iff_eq.mpr c69
                   clear c69
                   obtain rfl := Option.some.inj H
                   have hnb70 := NB114_107.out
                   have hnc70 := NB107_114.out
                   have hnb71 := NB114_125.out
                   have hnc71 := NB125_114.out
                   obtain ⟨hcz72_0, hcz72_1, hcz72_2, hfz72_0, hfz72_1, hfz72_2⟩ := cellsZ3 BK114.out
                   go_wp2_with (first | ((with_reducible refine gate_callee (f := 22) rfl ?_); refine goesL_ (some 60) rfl rfl Tryd.func22 (by kernel_rfl) rfl #[.agg #[.string t108, .slice Ao14 t117.length co14, .int .i64 t112], .int .i64 1] rfl zee81 ?_; (with_reducible refine (laws_heldKey.calls kj35 t108 _ _ t117 t112 1 t127 _ ?side1 ?side2 A63.out).mono ?_); (case side1 => exact (by repeat (first | exact (Kd.R_reads' HO_115001.out).2.2 | (with_reducible refine Kd.C_alloc ?_ _) | (with_reducible refine Kd.C_drewN ?_ _) | (with_reducible refine Kd.C_drew ?_)))); (case side2 => exact (Kd.R_reads' HO_115001.out).2.1); rintro e w73 ⟨rfl, hb⟩; refine ⟨_, rfl, ?_⟩; have _ := aM (Kd.R_below (rZ HO_108001.out) hb); have _ := aM (Kd.R_below (rZ HO_115001.out) hb); have _ := aM (Kd.R_below (rZ HO_126001.out) hb); have _ := bB gb107 hb; have _ := bB gb114 hb; have _ := bB gb125 hb; have _ := aM (below_step hbZ hb); clear HO_108001 HO_115001 HO_126001 BK107 BK114 BK125 HB; rename_i HO_108001 HO_115001 HO_126001 BK107 BK114 BK125 HB; (try clear hb)))
                   go_ret
                   exact ⟨z674d, zcb41⟩
                 · rw [if_neg c69] at H
                   have c69b0 : (t127 == t116) = false := beq_eq_false_iff_ne.mpr c69
                   have c69b1 : (t127 != t116) = true := bne_iff_ne.mpr c69
                   obtain rfl := Option.some.inj H
                   have hnb74 := NB114_107.out
                   have hnc74 := NB107_114.out
                   have hnb75 := NB114_125.out
                   have hnc75 := NB125_114.out
                   obtain ⟨hcz76_0, hcz76_1, hcz76_2, hfz76_0, hfz76_1, hfz76_2⟩ := cellsZ3 BK114.out
                   go_wp2_with (first | ((with_reducible refine gate_callee (f := 22) rfl ?_); refine goesL_ (some 60) rfl rfl Tryd.func22 (by kernel_rfl) rfl #[.agg #[.string t108, .slice Ao14 t117.length co14, .int .i64 t112], .int .i64 1] rfl zee81 ?_; (with_reducible refine (laws_heldKey.calls kj35 t108 _ _ t117 t112 1 t127 _ ?side1 ?side2 A63.out).mono ?_); (case side1 => exact (by repeat (first | exact (Kd.R_reads' HO_115001.out).2.2 | (with_reducible refine Kd.C_alloc ?_ _) | (with_reducible refine Kd.C_drewN ?_ _) | (with_reducible refine Kd.C_drew ?_)))); (case side2 => exact (Kd.R_reads' HO_115001.out).2.1); rintro e w77 ⟨rfl, hb⟩; refine ⟨_, rfl, ?_⟩; have _ := aM (Kd.R_below (rZ HO_108001.out) hb); have _ := aM (Kd.R_below (rZ HO_115001.out) hb); have _ := aM (Kd.R_below (rZ HO_126001.out) hb); have _ := bB gb107 hb; have _ := bB gb114 hb; have _ := bB gb125 hb; have _ := aM (below_step hbZ hb); clear HO_108001 HO_115001 HO_126001 BK107 BK114 BK125 HB; rename_i HO_108001 HO_115001 HO_126001 BK107 BK114 BK125 HB; (try clear hb)))
                   go_ret
                   exact ⟨z674d, zcb41⟩
         · rw [if_neg c34] at H
           have c34b0 : (t118 == t116) = false := beq_eq_false_iff_ne.mpr c34
           have c34b1 : (t118 != t116) = true := bne_iff_ne.mpr c34
           obtain rfl := Option.some.inj H
           have hnb78 := NB114_107.out
           have hnc78 := NB107_114.out
           obtain ⟨hcz79_0, hcz79_1, hcz79_2, hfz79_0, hfz79_1, hfz79_2⟩ := cellsZ3 BK114.out
           go_wp2_with (first | ((with_reducible refine gate_callee (f := 21) rfl ?_); refine goesL_ (some 35) rfl rfl Tryd.func21 (by kernel_rfl) rfl #[.agg #[.string t108, .slice Ao14 t109.length co14, .int .i64 t112], .int .i64 1] rfl zee81 ?_; (with_reducible refine (laws_markKey.calls kj4 t108 (fun k_ => some k_ = (.slice Ao14 t109.length co14 : Value).ownBlock) (.slice Ao14 t109.length co14) t109 t112 1 t116 t117 w _ ?side1 ?side2 A26.out).mono ?_); (case side1 => exact zcb41); (case side2 => exact Kd.R_tight rfl HO_115001.out); rintro e w80 ⟨rfl, hy0, hb, hkp⟩; refine ⟨_, rfl, ?_⟩; have _ := aM (Kd.R_mono (ok' := fun k_ => some k_ ≠ (.slice Ao14 t109.length co14 : Value).ownBlock) (Kd.R_keptB (HO_108001.out) hkp (fun k_ hk_ hs_ => (hk_) hs_)) (fun k_ hk_ => hk_.1)); have _ := aM (Kd.R_reok rfl hy0 (fun k_ e_ => HO_115001.out.1 k_ e_)); have _ := aM (blk_kept bkZ hkp (fun hs_ => (fun e_ => (Kd.R_ne HO_115001.out BK107.out (by decide)) e_) hs_)); have _ := aM (blk_kept bkZ hkp (fun hs_ => (fun e_ => (Kd.R_ne HO_115001.out BK114.out (by decide)) e_) hs_)); have _ := aM hb; clear HO_108001 HO_115001 BK107 BK114 HB; rename_i HO_108001 HO_115001 BK107 BK114 HB; (try clear hb); (try clear hkp); (try clear hy0); obtain ⟨hcz81_0, hcz81_1, hcz81_2, hfz81_0, hfz81_1, hfz81_2⟩ := cellsZ3 BK114.out) | ((with_reducible refine gate_callee (f := 22) rfl ?_); refine goesL_ (some 38) rfl rfl Tryd.func22 (by kernel_rfl) rfl #[.agg #[.string t108, .slice Ao14 t117.length co14, .int .i64 t112], .int .i64 1] rfl (by (try simp only [List.map_toArray, List.map_cons, List.map_nil]); first | done | (rw [show t117.length = t109.length from (Kd.R_reads' HO_115001.out).1.symm] <;> rfl) | rfl | (simp only [List.length_drop, List.length_take]; rfl)) ?_; (with_reducible refine (laws_heldKey.calls kj4 t108 _ _ t117 t112 1 t118 _ ?side1 ?side2 A27.out).mono ?_); (case side1 => exact (by repeat (first | exact (Kd.R_reads' HO_115001.out).2.2 | (with_reducible refine Kd.C_alloc ?_ _) | (with_reducible refine Kd.C_drewN ?_ _) | (with_reducible refine Kd.C_drew ?_)))); (case side2 => rw [show t117.length = t109.length from (Kd.R_reads' HO_115001.out).1.symm]; exact (Kd.R_reads' HO_115001.out).2.1); rintro e w82 ⟨rfl, hb⟩; refine ⟨_, rfl, ?_⟩; have _ := aM (Kd.R_below (rZ HO_108001.out) hb); have _ := aM (Kd.R_below (rZ HO_115001.out) hb); have _ := bB gb107 hb; have _ := bB gb114 hb; have _ := aM (below_step hbZ hb); clear HO_108001 HO_115001 BK107 BK114 HB; rename_i HO_108001 HO_115001 BK107 BK114 HB; (try clear hb)))
           go_ret
           exact ⟨z674d, zcb41⟩

/-- THE ONE PURE STATEMENT of laws_FnExactReadKeyText: yours. -/
def laws_FnExactReadKeyText.Pure : Prop := ∀ (a0 : ByteArray), a0.size ≤ 140737488351232 → ∃ k, laws_FnExactReadKeyText.f k a0 = some true
theorem laws_FnExactReadKeyText.walk (P : laws_FnExactReadKeyText.Pure) (a0 : ByteArray) (w : World) (w0 : a0.size ≤ 140737488351232) (hTabE_ : TabE_ w) (hTabM_ : TabM_ w) (hTab_ : Tab_ w) :
 Calls Tryd.prog 6 #[.string a0] w fun e w' => e = .returned (.bool true) ∧ Below w.heap.size w w' := by
 obtain ⟨k, h⟩ := P a0 w0
 refine (laws_FnExactReadKeyText.calls k a0 true w hTabE_ hTabM_ hTab_ h).mono ?_
 rintro e w' ⟨rfl, hd⟩
 exact ⟨rfl, hd⟩

end Go.Proofs.YteogadaloebdaaaDoor.P

namespace Go.Proofs.YteogadaloebdaaaDoor.Lem
open Go.RowKit Go.Proofs.YteogadaloebdaaaDoorW.PrintWords Go.Proofs.YteogadaloebdaaaDoorW.PrintLast Go.Proofs.YteogadaloebdaaaDoorW.PrintMore

theorem w64 {x : Int} (h0 : -9223372036854775808 ≤ x) (h1 : x < 9223372036854775808) : wrap64 x = x := by
  unfold wrap64; omega
theorem wu64 {x : Int} (h0 : 0 ≤ x) (h1 : x < 18446744073709551616) : IntKind.u64.wrap x = x := by
  rw [IntKind.wrap_u64]; omega
theorem wu64_lo (x : Int) : 0 ≤ IntKind.u64.wrap x := by rw [IntKind.wrap_u64]; omega
theorem wu64_hi (x : Int) : IntKind.u64.wrap x < 18446744073709551616 := by rw [IntKind.wrap_u64]; omega

/-- A list of bytes. -/
def Bytes (l : List Int) : Prop := ∀ x ∈ l, 0 ≤ x ∧ x < 256

theorem Bytes.of_wf {l : List Int} (h : ∀ x ∈ l, (Lit.int .u8 x).wf = true) : Bytes l := by
  intro x hx
  have := h x hx
  simp [Lit.wf, IntKind.min, IntKind.max, IntKind.signed, IntKind.bits] at this
  omega
theorem Bytes.append {a b : List Int} (ha : Bytes a) (hb : Bytes b) : Bytes (a ++ b) := by
  intro x hx
  rcases List.mem_append.1 hx with h | h
  · exact ha x h
  · exact hb x h
theorem Bytes.nil : Bytes [] := fun x hx => by simp at hx
theorem Bytes.cons {x : Int} {l : List Int} (h0 : 0 ≤ x) (h1 : x < 256) (hl : Bytes l) : Bytes (x :: l) := by
  intro y hy
  rcases List.mem_cons.1 hy with rfl | h
  · exact ⟨h0, h1⟩
  · exact hl y h
theorem Bytes.rd {l : List Int} (h : Bytes l) (i : Int) : 0 ≤ rd l i ∧ rd l i < 256 := by
  unfold Go.Proofs.YteogadaloebdaaaDoorW.PrintWords.rd
  rcases Nat.lt_or_ge i.toNat l.length with hl | hl
  · rw [List.getD_eq_getElem?_getD, List.getElem?_eq_getElem hl]
    exact h _ (List.getElem_mem hl)
  · rw [List.getD_eq_getElem?_getD, List.getElem?_eq_none hl]
    simp
theorem Bytes.take {l : List Int} (h : Bytes l) (n : Nat) : Bytes (l.take n) := fun x hx => h x (List.mem_of_mem_take hx)
theorem Bytes.drop {l : List Int} (h : Bytes l) (n : Nat) : Bytes (l.drop n) := fun x hx => h x (List.mem_of_mem_drop hx)

theorem and255 {x : Int} (h0 : 0 ≤ x) (h1 : x < 18446744073709551616) : 0 ≤ Go.bits .and .u64 x 255 ∧ Go.bits .and .u64 x 255 < 256 := by
  rw [u64_and x 255 h0 h1 (by decide) (by decide)]
  have : x.toNat &&& (255 : Int).toNat ≤ (255 : Int).toNat := Nat.and_le_right
  have e : (255 : Int).toNat = 255 := rfl
  omega

theorem shr_lo {k : IntKind} {x y : Int} (h : 0 ≤ x) : 0 ≤ shr k x y := by
  unfold shr
  exact Int.ediv_nonneg h (Int.le_of_lt (Int.pow_pos (by decide)))
theorem shr_hi {k : IntKind} {x y B : Int} (h : 0 ≤ x) (h1 : x < B) : shr k x y < B := by
  unfold shr
  have : x / 2 ^ min y.toNat k.bits ≤ x := Int.ediv_le_self _ h
  omega

end Go.Proofs.YteogadaloebdaaaDoor.Lem

/- Names and keys: what GoodKey says, the program's and the specification's. -/
namespace Go.Proofs.YteogadaloebdaaaDoor.Lem
open Go Go.RowKit Go.Proofs.YteogadaloebdaaaDoor.P Go.Proofs.YteogadaloebdaaaDoorW.PrintWords Go.Proofs.YteogadaloebdaaaDoorW.PrintLast Go.Proofs.YteogadaloebdaaaDoorW.PrintMore

abbrev Tg := S69
abbrev rdT := rd_T69

theorem dropWhile_head {α : Type} (p : α → Bool) : ∀ (l : List α) (x : α) (r : List α), l.dropWhile p = x :: r → p x = false
  | [], x, r, h => by simp at h
  | a :: l, x, r, h => by
    rw [List.dropWhile_cons] at h
    cases e : p a with
    | true => rw [e, if_pos rfl] at h; exact dropWhile_head p l x r h
    | false =>
      rw [e, if_neg (by decide)] at h
      injection h with h _
      rw [← h]; exact e
theorem dropWhile_all {α : Type} (p : α → Bool) : ∀ l : List α, l.all p = true → l.dropWhile p = []
  | [], _ => rfl
  | a :: l, h => by
    rw [List.all_cons, Bool.and_eq_true] at h
    rw [List.dropWhile_cons, h.1, if_pos rfl]
    exact dropWhile_all p l h.2
theorem dropWhile_nil {α : Type} (p : α → Bool) : ∀ l : List α, l.dropWhile p = [] → l.all p = true
  | [], _ => rfl
  | a :: l, h => by
    rw [List.dropWhile_cons] at h
    cases e : p a with
    | true => rw [e, if_pos rfl] at h; rw [List.all_cons, e, dropWhile_nil p l h]; rfl
    | false => rw [e, if_neg (by decide)] at h; exact absurd h (by simp)

theorem trim_nil (l cs : List UInt8) : (Go.Lib.trimS l cs == []) = l.all (cs.contains ·) := by
  unfold Go.Lib.trimS Go.Lib.trimLeftS Go.Lib.trimRightS
  cases e : l.all (cs.contains ·) with
  | true =>
    have h1 : l.reverse.all (cs.contains ·) = true := by rw [List.all_reverse]; exact e
    rw [dropWhile_all _ _ h1, List.reverse_nil, List.dropWhile_nil]
    rfl
  | false =>
    rw [beq_eq_false_iff_ne]
    intro h
    have h1 := dropWhile_nil _ _ h
    rw [List.all_reverse] at h1
    cases e2 : l.reverse.dropWhile (cs.contains ·) with
    | nil =>
      have h3 := dropWhile_nil _ _ e2
      rw [List.all_reverse, e] at h3
      exact absurd h3 (by decide)
    | cons x r =>
      have h3 := dropWhile_head _ _ x r e2
      rw [e2, List.all_cons, h3, Bool.false_and] at h1
      exact absurd h1 (by decide)

/-- A letter's byte. -/
def letter (b : UInt8) : Bool := (decide (97 ≤ b.toNat) && decide (b.toNat ≤ 122)) || (decide (65 ≤ b.toNat) && decide (b.toNat ≤ 90))
def alphabet : List UInt8 := [97, 98, 99, 100, 101, 102, 103, 104, 105, 106, 107, 108, 109, 110, 111, 112, 113, 114, 115, 116, 117, 118, 119, 120, 121, 122, 65, 66, 67, 68, 69, 70, 71, 72, 73, 74, 75, 76, 77, 78, 79, 80, 81, 82, 83, 84, 85, 86, 87, 88, 89, 90]
theorem alphabet_all : ∀ n, n < 256 → (alphabet.contains (UInt8.ofNat n) == letter (UInt8.ofNat n)) = true := of_decide_eq_true (by kernel_rfl)
theorem alphabet_letter (b : UInt8) : alphabet.contains b = letter b := by
  have h := alphabet_all b.toNat b.toNat_lt
  rw [UInt8.ofNat_toNat] at h
  exact eq_of_beq h

/-- A name. -/
def nameB (s : ByteArray) : Bool := decide (1 ≤ s.size) && decide (s.size ≤ 12) && s.data.toList.all letter
theorem nameB_size {s : ByteArray} (h : nameB s = true) : 1 ≤ s.size ∧ s.size ≤ 12 := by
  unfold nameB at h
  rw [Bool.and_eq_true, Bool.and_eq_true] at h
  exact ⟨of_decide_eq_true h.1.1, of_decide_eq_true h.1.2⟩
theorem nameB_letters {s : ByteArray} (h : nameB s = true) : s.data.toList.all letter = true := by
  unfold nameB at h
  rw [Bool.and_eq_true] at h
  exact h.2
theorem withinB_ok (n a b : Int) : impl_within.f n a b = some (decide (a ≤ n) && decide (n ≤ b)) := by
  unfold impl_within.f
  by_cases h : n ≥ a
  · rw [if_pos h, decide_eq_true h, Bool.true_and]
  · rw [if_neg h, decide_eq_false h, Bool.false_and]
theorem l1InB_ok (n a b : Int) : spec_l1In.f n a b = some (decide (a ≤ n) && decide (n ≤ b)) := by
  unfold spec_l1In.f
  by_cases h : n ≥ a
  · rw [if_pos h, decide_eq_true h, Bool.true_and]
  · rw [if_neg h, decide_eq_false h, Bool.false_and]
theorem size_b (s : ByteArray) : (decide ((1 : Int) ≤ (s.size : Int)) && decide ((s.size : Int) ≤ 12)) = (decide (1 ≤ s.size) && decide (s.size ≤ 12)) := by
  have e1 : ((1 : Int) ≤ (s.size : Int)) ↔ 1 ≤ s.size := by omega
  have e2 : ((s.size : Int) ≤ 12) ↔ s.size ≤ 12 := by omega
  rw [decide_eq_decide.2 e1, decide_eq_decide.2 e2]

theorem isName_ok (s : ByteArray) : impl_isName.f s = some (nameB s) := by
  unfold impl_isName.f nameB
  rw [withinB_ok, Option.bind_some, size_b]
  cases e : (decide (1 ≤ s.size) && decide (s.size ≤ 12)) with
  | false => rw [if_neg (by decide), Bool.false_and]
  | true =>
    rw [Bool.and_eq_true] at e
    have h1 := of_decide_eq_true e.2
    rw [if_pos rfl, Bool.true_and]
    unfold strings_Trim.f
    rw [if_pos ⟨by omega, of_decide_eq_true (by kernel_rfl), by kernel_rfl⟩, Option.bind_some, Go.Lib.toList_data]
    have e3 : s.data.toList.all (alphabet.contains ·) = s.data.toList.all letter := by
      congr 1
      funext b
      exact alphabet_letter b
    rw [← e3, ← trim_nil]
    rfl

theorem bt_get {s : ByteArray} {i : Nat} (h : i < s.size) : bt s (i : Int) = ((s.data.toList[i]'(by rw [← Go.Lib.size_eq]; exact h)).toNat : Int) := by
  rw [← bt_at s (i : Int) (by rw [Int.toNat_natCast]; exact h)]
  simp only [Int.toNat_natCast]
  rfl
theorem drop_get {α : Type} {l : List α} {i : Nat} (h : i < l.length) : l.drop i = l[i] :: l.drop (i + 1) := (List.drop_eq_getElem_cons h)

theorem l1Name_l0 (s : ByteArray) (hs : s.size ≤ 12) : ∀ (d i k : Nat), i + d = s.size → d < k → spec_l1Name.l0 k s (i : Int) = some ((s.data.toList.drop i).all letter) := by
  intro d
  induction d with
  | zero =>
    intro i k hi hk
    obtain ⟨k, rfl⟩ : ∃ m, k = m + 1 := ⟨k - 1, by omega⟩
    rw [spec_l1Name.l0, if_neg (by omega), List.drop_of_length_le (by rw [← Go.Lib.size_eq]; omega)]
    rfl
  | succ d ih =>
    intro i k hi hk
    obtain ⟨k, rfl⟩ : ∃ m, k = m + 1 := ⟨k - 1, by omega⟩
    have hn := ih (i + 1) k (by omega) (by omega)
    have hlt : i < s.data.toList.length := by rw [← Go.Lib.size_eq]; omega
    rw [spec_l1Name.l0, if_pos (by omega), if_pos (by omega), bt_get (by omega), show wrap64 ((i : Int) + 1) = ((i + 1 : Nat) : Int) from by rw [w64 (by omega) (by omega)]; omega, hn, drop_get hlt, List.all_cons]
    generalize s.data.toList[i] = b
    generalize (List.drop (i + 1) s.data.toList).all letter = v
    unfold letter
    by_cases h1 : 97 ≤ b.toNat
    · rw [if_pos (by omega), decide_eq_true h1, Bool.true_and]
      by_cases h2 : b.toNat ≤ 122
      · rw [if_pos (by omega), decide_eq_true h2, Bool.true_or, Bool.true_and]
      · rw [if_neg (by omega), if_pos (by omega), if_neg (by omega), decide_eq_false h2, decide_eq_false (show ¬ b.toNat ≤ 90 by omega), Bool.and_false, Bool.false_or, Bool.false_and]
    · rw [if_neg (by omega), decide_eq_false h1, Bool.false_and, Bool.false_or]
      by_cases h2 : 65 ≤ b.toNat
      · rw [if_pos (by omega), decide_eq_true h2, Bool.true_and]
        by_cases h3 : b.toNat ≤ 90
        · rw [if_pos (by omega), decide_eq_true h3, Bool.true_and]
        · rw [if_neg (by omega), decide_eq_false h3, Bool.false_and]
      · rw [if_neg (by omega), decide_eq_false h2, Bool.false_and, Bool.false_and]

theorem l1Name_ok (s : ByteArray) {k : Nat} (hk : 12 < k) : spec_l1Name.f k s = some (nameB s) := by
  unfold spec_l1Name.f nameB
  rw [l1InB_ok, Option.bind_some, size_b]
  cases e : (decide (1 ≤ s.size) && decide (s.size ≤ 12)) with
  | false => rw [if_neg (by decide), Bool.false_and]
  | true =>
    rw [Bool.and_eq_true] at e
    have h1 := of_decide_eq_true e.2
    rw [if_pos rfl, Bool.true_and]
    have h := l1Name_l0 s h1 s.size 0 k (by omega) (by omega)
    rw [List.drop_zero] at h
    exact h

def aft : Option ByteArray → ByteArray → Bool
  | none, _ => true
  | some q, x => Op.bytesLess q.data.toList x.data.toList
/-- Tags in their order: behind a name, or at the beginning. -/
def tagsB : Option ByteArray → List Tg → Bool
  | _, [] => true
  | p, t :: r => nameB t.f0 && (nameB t.f1 && (aft p t.f0 && tagsB (some t.f0) r))
/-- The tag before a place. -/
def prevT (l : List Tg) (i : Nat) : Option ByteArray := if i = 0 then none else some (rdT l ((i - 1 : Nat) : Int)).f0
theorem rdT_get {l : List Tg} {i : Nat} (h : i < l.length) : rdT l (i : Int) = l[i] := by
  unfold rdT rd_T69
  rw [Int.toNat_natCast, List.getD_eq_getElem?_getD, List.getElem?_eq_getElem h]
  rfl
/-- A good key. -/
def keyB (m : ByteArray) (l : List Tg) (st : Int) : Bool := nameB m && (decide (l.length ≤ 4) && (decide (0 ≤ st) && decide (st ≤ 1000000000)) && tagsB none l)
theorem keyB_parts {m : ByteArray} {l : List Tg} {st : Int} (h : keyB m l st = true) : nameB m = true ∧ l.length ≤ 4 ∧ 0 ≤ st ∧ st ≤ 1000000000 ∧ tagsB none l = true := by
  unfold keyB at h
  simp only [Bool.and_eq_true] at h
  exact ⟨h.1, of_decide_eq_true h.2.1.1, of_decide_eq_true h.2.1.2.1, of_decide_eq_true h.2.1.2.2, h.2.2⟩
theorem tagsB_names : ∀ {l : List Tg} {p : Option ByteArray}, tagsB p l = true → ∀ t ∈ l, nameB t.f0 = true ∧ nameB t.f1 = true
  | [], _, _, t, ht => by simp at ht
  | a :: l, p, h, t, ht => by
    rw [tagsB, Bool.and_eq_true, Bool.and_eq_true, Bool.and_eq_true] at h
    rcases List.mem_cons.1 ht with rfl | ht
    · exact ⟨h.1, h.2.1⟩
    · exact tagsB_names h.2.2.2 t ht

theorem implKey_l0 (l : List Tg) (hl : l.length ≤ 4) (m : ByteArray) (st : Int) : ∀ (d i k : Nat), i + d = l.length → d < k → impl_GoodKey.l0 k l (l.length : Int) (i : Int) m l st = some (tagsB (prevT l i) (l.drop i)) := by
  intro d
  induction d with
  | zero =>
    intro i k hi hk
    obtain ⟨k, rfl⟩ : ∃ q, k = q + 1 := ⟨k - 1, by omega⟩
    rw [impl_GoodKey.l0, if_neg (by omega), List.drop_of_length_le (by omega)]
    rfl
  | succ d ih =>
    intro i k hi hk
    obtain ⟨k, rfl⟩ : ∃ q, k = q + 1 := ⟨k - 1, by omega⟩
    have hn := ih (i + 1) k (by omega) (by omega)
    have hlt : i < l.length := by omega
    have hp : prevT l (i + 1) = some l[i].f0 := by unfold prevT; rw [if_neg (by omega), Nat.add_sub_cancel, rdT_get hlt]
    rw [hp] at hn
    have e0 : rd_T69 l (i : Int) = l[i] := rdT_get hlt
    rw [impl_GoodKey.l0, if_pos (by omega), if_pos (by omega), if_pos (by omega), e0, isName_ok, isName_ok, Option.bind_some, show wrap64 ((i : Int) + 1) = ((i + 1 : Nat) : Int) from by rw [w64 (by omega) (by omega)]; omega, hn, drop_get hlt, tagsB]
    cases e1 : nameB l[i].f0 with
    | false => rw [if_neg (by decide), Bool.false_and]
    | true =>
      rw [if_pos rfl, Option.bind_some, Bool.true_and]
      cases e2 : nameB l[i].f1 with
      | false => rw [if_neg (by decide), Bool.false_and]
      | true =>
        rw [if_pos rfl, Bool.true_and]
        by_cases h0 : i = 0
        · rw [if_neg (by omega)]
          unfold prevT
          rw [if_pos h0, aft, Bool.true_and]
        · have e3 : wrap64 ((i : Int) - 1) = ((i - 1 : Nat) : Int) := by rw [w64 (by omega) (by omega)]; omega
          rw [if_pos (by omega), e3, if_pos (by omega), if_pos (by omega)]
          unfold prevT
          rw [if_neg h0, aft, Go.Lib.toList_data, Go.Lib.toList_data]
          show (if Op.bytesLess (rdT l ((i - 1 : Nat) : Int)).f0.data.toList l[i].f0.data.toList = true then _ else _) = _
          cases Op.bytesLess (rdT l ((i - 1 : Nat) : Int)).f0.data.toList l[i].f0.data.toList with
          | true => rw [if_pos rfl, Bool.true_and]
          | false => rw [if_neg (by decide), Bool.false_and]

theorem implKey_ok (m : ByteArray) (l : List Tg) (st : Int) {k : Nat} (hk : 6 < k) : impl_GoodKey.f k m l st = some (keyB m l st) := by
  obtain ⟨k, rfl⟩ : ∃ q, k = q + 1 := ⟨k - 1, by omega⟩
  unfold impl_GoodKey.f keyB
  rw [isName_ok, Option.bind_some, impl_GoodKey.j0, if_pos rfl]
  cases e1 : nameB m with
  | false => rw [if_neg (by decide), Bool.false_and]
  | true =>
    rw [if_pos rfl, Bool.true_and]
    by_cases h : l.length ≤ 4
    · rw [if_neg (by omega), withinB_ok, Option.bind_some, decide_eq_true h, Bool.true_and, impl_GoodKey.j0]
      have h0 := implKey_l0 l h m st l.length 0 k (by omega) (by omega)
      rw [List.drop_zero] at h0
      cases e2 : (decide (0 ≤ st) && decide (st ≤ 1000000000)) with
      | false => rw [if_pos (show (!false) = true from rfl), Bool.false_and]
      | true => rw [if_neg (show ¬ (!true) = true by decide), Bool.true_and]; exact h0
    · rw [if_pos (by omega), decide_eq_false h, Bool.false_and, Bool.false_and]

theorem specKey_l0 (l : List Tg) (hl : l.length ≤ 4) (m : ByteArray) (st : Int) : ∀ (d i k : Nat), i + d = l.length → d + 14 < k → spec_GoodKey.l0 k l (l.length : Int) (i : Int) m l st = some (tagsB (prevT l i) (l.drop i)) := by
  intro d
  induction d with
  | zero =>
    intro i k hi hk
    obtain ⟨k, rfl⟩ : ∃ q, k = q + 1 := ⟨k - 1, by omega⟩
    rw [spec_GoodKey.l0, if_neg (by omega), List.drop_of_length_le (by omega)]
    rfl
  | succ d ih =>
    intro i k hi hk
    obtain ⟨k, rfl⟩ : ∃ q, k = q + 1 := ⟨k - 1, by omega⟩
    have hn := ih (i + 1) k (by omega) (by omega)
    have hlt : i < l.length := by omega
    have hp : prevT l (i + 1) = some l[i].f0 := by unfold prevT; rw [if_neg (by omega), Nat.add_sub_cancel, rdT_get hlt]
    rw [hp] at hn
    have e0 : rd_T69 l (i : Int) = l[i] := rdT_get hlt
    rw [spec_GoodKey.l0, if_pos (by omega), if_pos (by omega), if_pos (by omega), e0, l1Name_ok _ (by omega), l1Name_ok _ (by omega), Option.bind_some, show wrap64 ((i : Int) + 1) = ((i + 1 : Nat) : Int) from by rw [w64 (by omega) (by omega)]; omega, hn, drop_get hlt, tagsB]
    cases e1 : nameB l[i].f0 with
    | false => rw [if_neg (by decide), Bool.false_and]
    | true =>
      rw [if_pos rfl, Option.bind_some, Bool.true_and]
      cases e2 : nameB l[i].f1 with
      | false => rw [if_neg (by decide), Bool.false_and]
      | true =>
        rw [if_pos rfl, Bool.true_and]
        by_cases h0 : i = 0
        · rw [if_neg (by omega)]
          unfold prevT
          rw [if_pos h0, aft, Bool.true_and]
        · have e3 : wrap64 ((i : Int) - 1) = ((i - 1 : Nat) : Int) := by rw [w64 (by omega) (by omega)]; omega
          rw [if_pos (by omega), e3, if_pos (by omega), if_pos (by omega)]
          unfold prevT
          rw [if_neg h0, aft, Go.Lib.toList_data, Go.Lib.toList_data]
          show (if Op.bytesLess (rdT l ((i - 1 : Nat) : Int)).f0.data.toList l[i].f0.data.toList = true then _ else _) = _
          cases Op.bytesLess (rdT l ((i - 1 : Nat) : Int)).f0.data.toList l[i].f0.data.toList with
          | true => rw [if_pos rfl, Bool.true_and]
          | false => rw [if_neg (by decide), Bool.false_and]

theorem specKey_ok (m : ByteArray) (l : List Tg) (st : Int) {k : Nat} (hk : 20 < k) : spec_GoodKey.f k m l st = some (keyB m l st) := by
  obtain ⟨k, rfl⟩ : ∃ q, k = q + 1 := ⟨k - 1, by omega⟩
  unfold spec_GoodKey.f keyB
  rw [l1Name_ok _ (by omega), Option.bind_some, spec_GoodKey.j0, if_pos rfl]
  cases e1 : nameB m with
  | false => rw [if_neg (by decide), Bool.false_and]
  | true =>
    rw [if_pos rfl, Bool.true_and]
    by_cases h : l.length ≤ 4
    · rw [if_neg (by omega), l1InB_ok, Option.bind_some, decide_eq_true h, Bool.true_and, spec_GoodKey.j0]
      have h0 := specKey_l0 l h m st l.length 0 k (by omega) (by omega)
      rw [List.drop_zero] at h0
      cases e2 : (decide (0 ≤ st) && decide (st ≤ 1000000000)) with
      | false => rw [if_pos (show (!false) = true from rfl), Bool.false_and]
      | true => rw [if_neg (show ¬ (!true) = true by decide), Bool.true_and]; exact h0
    · rw [if_pos (by omega), decide_eq_false h, Bool.false_and, Bool.false_and]

end Go.Proofs.YteogadaloebdaaaDoor.Lem

-- written by a program of this session's (wip/pp)
namespace Go.Proofs.YteogadaloebdaaaDoor.P
open Go.RowKit Go.Proofs.YteogadaloebdaaaDoorW.PrintWords Go.Proofs.YteogadaloebdaaaDoorW.PrintLast Go.Proofs.YteogadaloebdaaaDoorW.PrintMore
attribute [local go_sem] max2_int min2_int max_two min_two max_three min_three max_four min_four str_geq str_gtr str_leq   -- for this text's walks alone
set_option linter.unusedVariables false
set_option linter.unusedSimpArgs false

/-! ### spec_l1Num: function 75 -/
def spec_l1Num.f : Nat → Int → Option (ByteArray)
 | 0, _ => none
 | k + 1, a0 => if a0 < 0 then (if a0 = (-9223372036854775808) then (some (⟨#[45, 57, 50, 50, 51, 51, 55, 50, 48, 51, 54, 56, 53, 52, 55, 55, 53, 56, 48, 56]⟩ : ByteArray)) else ((spec_l1Num.f k (wrap64 (-a0))).bind fun t101 => (if 1 + t101.size ≤ 9223372036854775807 then (some ((⟨#[45]⟩ : ByteArray) ++ t101)) else (none)))) else (if a0 < 10 then (some (strOfNums (([(wrap64 (48 + a0)) % 256] : List Int)))) else ((spec_l1Num.f k (wrap64 (Int.tdiv a0 10))).bind fun t105 => ((some (([(wrap64 (48 + (Int.tmod a0 10))) % 256] : List Int) : List Int)).bind fun y106 => (if t105.size + (strOfNums y106).size ≤ 9223372036854775807 then (some (t105 ++ (strOfNums y106))) else (none)))))
theorem spec_l1Num.mono_l : ∀ k, (∀ y0, LeO (spec_l1Num.f k y0) (spec_l1Num.f (k + 1) y0))
 | 0 => fun _ r h => by simp [spec_l1Num.f] at h
 | k + 1 => by
  have ih0 := spec_l1Num.mono_l k
  · intro y0
    unfold spec_l1Num.f
    repeat' first
     | (with_reducible first | exact ih0 .. | exact LeO.refl _ | exact LeO.none _ | refine LeO.ite ?_ ?_ | refine LeO.bind ?_ (fun _ => ?_))
     | exact LeO.none _
     | refine LeO.ite ?_ ?_
     | refine LeO.bind ?_ (fun _ => ?_)
theorem spec_l1Num.mono : ∀ a0 k, LeO (spec_l1Num.f k a0) (spec_l1Num.f (k + 1) a0) := by
 intro a0 k
 have ih0 := spec_l1Num.mono_l k
 exact ih0 a0
def spec_l1Num.T7 : Bool × List (List Nat × List Nat) := (true, [([], []), ([0], [0]), ([1], [1]), ([], []), ([3], [3]), ([4], [4]), ([5], [5]), ([6], [6]), ([7], [7]), ([2, 8], [2, 8]), ([9, 2, 0, 1, 2, 3, 4, 5, 6, 7, 8, 9], [9])])
def spec_l1Num.B7 : List Nat := [0, 1, 3, 0, 8, 24, 56, 120, 248, 511, 1023]
theorem spec_l1Num.tab7 : rtab .any (opsOf Tryd.f75 7) = spec_l1Num.T7 := by kernel_rfl
theorem spec_l1Num.bits7 : waitsOk spec_l1Num.T7.2 spec_l1Num.B7 = true := by kernel_rfl
set_option maxHeartbeats 8000000 in
set_option maxRecDepth 100000 in
theorem spec_l1Num.calls (k : Nat) : ∀ (a0 : Int) (r : ByteArray) (w : World) (h : spec_l1Num.f k a0 = some r),
 Calls Tryd.prog 75 #[.int .i64 a0] w fun e w' => e = .returned (.string r) ∧ Below w.heap.size w w' := by
 induction k using Nat.strongRecOn with
 | _ k ih =>
 intro a0 r w h
 cases k with
 | zero => exact absurd h (by simp [spec_l1Num.f])
 | succ k =>
 simp only [spec_l1Num.f] at h
 have HB := aM (Below.refl w.heap.size w)
 have H : (if a0 < 0 then (if a0 = (-9223372036854775808) then (some (⟨#[45, 57, 50, 50, 51, 51, 55, 50, 48, 51, 54, 56, 53, 52, 55, 55, 53, 56, 48, 56]⟩ : ByteArray)) else ((spec_l1Num.f k (wrap64 (-a0))).bind fun t101 => (if 1 + t101.size ≤ 9223372036854775807 then (some ((⟨#[45]⟩ : ByteArray) ++ t101)) else (none)))) else (if a0 < 10 then (some (strOfNums (([(wrap64 (48 + a0)) % 256] : List Int)))) else ((spec_l1Num.f k (wrap64 (Int.tdiv a0 10))).bind fun t105 => ((some (([(wrap64 (48 + (Int.tmod a0 10))) % 256] : List Int) : List Int)).bind fun y106 => (if t105.size + (strOfNums y106).size ≤ 9223372036854775807 then (some (t105 ++ (strOfNums y106))) else (none)))))) = some r := h
 clear h
 by_cases c2 : a0 < 0
 · rw [if_pos c2] at H
   have c2b0 : decide (a0 < 0) = true := decide_eq_true c2
   clear c2
   by_cases c3 : a0 = (-9223372036854775808)
   · rw [if_pos c3] at H
     have c3b0 : (a0 == (-9223372036854775808)) = true := beq_iff_eq.mpr c3
     have c3b1 : (a0 != (-9223372036854775808)) = false := bne_eq_false_iff_eq.mpr c3
     clear c3
     obtain rfl := Option.some.inj H
     go_enter Tryd.func75, Tryd.ntmps75
     go_wp2
     go_ret
     exact ⟨z674d, z5acd⟩
   · rw [if_neg c3] at H
     have c3b0 : (a0 == (-9223372036854775808)) = false := beq_eq_false_iff_ne.mpr c3
     have c3b1 : (a0 != (-9223372036854775808)) = true := bne_iff_ne.mpr c3
     replace H := Option.bind_eq_some_iff.mp H
     obtain ⟨t101, A40, H⟩ := H
     try dsimp only at H
     have A4 := aM A40
     clear A40
     by_cases c5 : 1 + t101.size ≤ 9223372036854775807
     · rw [if_pos c5] at H
       have c5b0 := eq_true c5
       have c5b1 : decide (1 + t101.size ≤ 9223372036854775807) = true := decide_eq_true c5
       try have c5b2 : (9223372036854775807 < 1 + t101.size) = False := eq_false (Nat.not_lt.2 c5)
       obtain rfl := Option.some.inj H
       go_enter Tryd.func75, Tryd.ntmps75
       go_wp2_with (first | ((with_reducible refine gate_callee (f := 75) rfl ?_); refine goesL_ (some 9) rfl rfl Tryd.func75 (by kernel_rfl) rfl #[.int .i64 (wrap64 (-a0))] rfl zee81 ?_; (with_reducible refine (ih k (by omega) (wrap64 (-a0)) t101 _ A4.out).mono ?_); rintro e w6 ⟨rfl, hb⟩; refine ⟨_, rfl, ?_⟩; have _ := aM (below_step hbZ hb); clear HB; rename_i HB; (try clear hb)))
       go_ret
       exact ⟨z674d, z5acd⟩
     · rw [if_neg c5] at H
       exact absurd H (by simp)
 · rw [if_neg c2] at H
   have c2b0 : decide (a0 < 0) = false := decide_eq_false c2
   clear c2
   by_cases c7 : a0 < 10
   · rw [if_pos c7] at H
     have c7b0 : decide (a0 < 10) = true := decide_eq_true c7
     clear c7
     obtain ⟨y102, hy102⟩ : ∃ y_ : List Int, y_ = (([(wrap64 (48 + a0)) % 256] : List Int)) := ⟨_, rfl⟩
     replace H : (some (strOfNums y102)) = some r := by first | (rw [hy102]; with_reducible exact H) | (have H2_ := (Option.bind_some _ _).symm.trans H; rw [hy102]; with_reducible exact H2_) | (have H2_ := (Option.bind_some _ _).symm.trans H; with_reducible exact H2_) | with_reducible exact H | (rw [hy102]; exact H) | exact H
     have Ny102 := aM hy102
     clear hy102
     obtain rfl := Option.some.inj H
     go_enter Tryd.func75, Tryd.ntmps75
     go_wp2_with (first | ((with_reducible refine gate_dst (N := 16) rfl ?_); refine Kd.R_lit (Kd.int .u8) _ 5 ?hg (N := 16) ?hd (xs := ([(wrap64 (48 + a0)) % 256] : List Int)) (inner := [.int .u8 ((wrap64 (48 + a0)) % 256)]) (ok := fun _ => True) (okp := fun _ => True) ?hr ?hp (fun _ hk => hk) trivial (Below.refl _ _) (Nat.le_refl _) (by simp) ?_; (case hd => rfl); (case hg => rfl); (case hr => first | (go_simp; done) | (go_simp; rfl)); (case hp => exact (Reps.one (show Kd.M (Kd.int .u8) _ _ _ ((wrap64 (48 + a0)) % 256) [.int .u8 ((wrap64 (48 + a0)) % 256)] from rfl) (Reps.none _ _))); intro v103 w8 ho9 hb hg_ hnew_; clear hg_ hnew_; (first | rw [← Ny102.out] at ho9 | (simp only [Int.reduceToNat] at ho9; rw [← Ny102.out] at ho9)); have _ := aM (Kd.R_lower ho9 (below_size hbZ)); have _ := aM (below_step hbZ hb); clear HB; rename_i HO104 HB; clear hb ho9; have hcv10 := own_string (P := Tryd.prog) Tryd.underlying22 Tryd.underlying5 Tryd.underlying9 (Kd.own_of_R HO104.out)))
     go_ret
     exact ⟨z674d, z5acd⟩
   · rw [if_neg c7] at H
     have c7b0 : decide (a0 < 10) = false := decide_eq_false c7
     clear c7
     replace H := Option.bind_eq_some_iff.mp H
     obtain ⟨t105, A110, H⟩ := H
     try dsimp only at H
     have A11 := aM A110
     clear A110
     obtain ⟨y106, hy106⟩ : ∃ y_ : List Int, y_ = (([(wrap64 (48 + (Int.tmod a0 10))) % 256] : List Int)) := ⟨_, rfl⟩
     replace H : (if t105.size + (strOfNums y106).size ≤ 9223372036854775807 then (some (t105 ++ (strOfNums y106))) else (none)) = some r := by first | (rw [hy106]; with_reducible exact H) | (have H2_ := (Option.bind_some _ _).symm.trans H; rw [hy106]; with_reducible exact H2_) | (have H2_ := (Option.bind_some _ _).symm.trans H; with_reducible exact H2_) | with_reducible exact H | (rw [hy106]; exact H) | exact H
     have Ny106 := aM hy106
     clear hy106
     by_cases c12 : t105.size + (strOfNums y106).size ≤ 9223372036854775807
     · rw [if_pos c12] at H
       have c12b0 := eq_true c12
       have c12b1 : decide (t105.size + (strOfNums y106).size ≤ 9223372036854775807) = true := decide_eq_true c12
       try have c12b2 : (9223372036854775807 < t105.size + (strOfNums y106).size) = False := eq_false (Nat.not_lt.2 c12)
       obtain rfl := Option.some.inj H
       go_enter Tryd.func75, Tryd.ntmps75
       try go_wp2
       have _ := aM (below_drew1 HB.out)
       clear HB
       rename_i HB
       refine start_ (n := 11) (S := fun w' => True) (ds := []) #[false, false, false, false, false, false, false, false, false, false, false] (by kernel_rfl) rfl rfl trivial (fun hHeld => ?_); refine with_tabW spec_l1Num.tab7 spec_l1Num.bits7 (fun HT_ HW_ => ?_)
       generalize w.drew = w13 at HB hHeld ⊢
       refine pure_ (i := 0) (N := some 18) (v := ?_) (a' := ?_) #[true, false, false, false, false, false, false, false, false, false, false] rfl rfl (any_of HT_.out (by kernel_rfl)) (fun _ _ _ h => h) (Or.inl ⟨by rfl, ?_⟩) ?_ ?_
       rotate_left
       · intro w'
         go_simp
         with_reducible rfl
       rotate_left
       · simp only [Act.put, List.setIfInBounds_toArray, List.set_cons_zero, List.set_cons_succ, i64_w, i32_w]
         rfl
       refine pure_ (i := 1) (N := some 19) (v := ?_) (a' := ?_) #[true, true, false, false, false, false, false, false, false, false, false] rfl rfl (any_of HT_.out (by kernel_rfl)) (fun _ _ _ h => h) (Or.inl ⟨by rfl, ?_⟩) ?_ ?_
       rotate_left
       · intro w'
         go_simp
         with_reducible rfl
       rotate_left
       · simp only [Act.put, List.setIfInBounds_toArray, List.set_cons_zero, List.set_cons_succ, i64_w, i32_w]
         rfl
       refine pure_ (i := 3) (N := some 21) (v := ?_) (a' := ?_) #[true, true, false, true, false, false, false, false, false, false, false] rfl rfl (any_of HT_.out (by kernel_rfl)) (fun _ _ _ h => h) (Or.inl ⟨by rfl, ?_⟩) ?_ ?_
       rotate_left
       · intro w'
         go_simp
         with_reducible rfl
       rotate_left
       · simp only [Act.put, List.setIfInBounds_toArray, List.set_cons_zero, List.set_cons_succ, i64_w, i32_w]
         rfl
       refine pure_ (i := 4) (N := some 22) (v := ?_) (a' := ?_) #[true, true, false, true, true, false, false, false, false, false, false] rfl rfl (any_of HT_.out (by kernel_rfl)) (fun _ _ _ h => h) (Or.inl ⟨by rfl, ?_⟩) ?_ ?_
       rotate_left
       · intro w'
         go_simp
         with_reducible rfl
       rotate_left
       · simp only [Act.put, List.setIfInBounds_toArray, List.set_cons_zero, List.set_cons_succ, i64_w, i32_w]
         rfl
       refine pure_ (i := 5) (N := some 23) (v := ?_) (a' := ?_) #[true, true, false, true, true, true, false, false, false, false, false] rfl rfl (any_of HT_.out (by kernel_rfl)) (fun _ _ _ h => h) (Or.inl ⟨by rfl, ?_⟩) ?_ ?_
       rotate_left
       · intro w'
         go_simp
         with_reducible rfl
       rotate_left
       · simp only [Act.put, List.setIfInBounds_toArray, List.set_cons_zero, List.set_cons_succ, i64_w, i32_w]
         rfl
       refine pure_ (i := 6) (N := some 24) (v := ?_) (a' := ?_) #[true, true, false, true, true, true, true, false, false, false, false] rfl rfl (any_of HT_.out (by kernel_rfl)) (fun _ _ _ h => h) (Or.inl ⟨by rfl, ?_⟩) ?_ ?_
       rotate_left
       · intro w'
         go_simp
         with_reducible rfl
       rotate_left
       · simp only [Act.put, List.setIfInBounds_toArray, List.set_cons_zero, List.set_cons_succ, i64_w, i32_w]
         rfl
       refine join_ (σ := Value) 2 #[true, true, true, true, true, true, true, true, true, false, false] (fun s_ => [(20, .string t105), (25, s_), (26, .string (strOfNums y106))]) (fun s_ w' => (Kd.R (Kd.int .u8) 5 w' w.heap.size (fun _ => True) s_ y106) ∧ (Below w.heap.size w w')) ?_ ?_
       rotate_left
       · intro hCont
         refine two_ (i := 2) (j := 7) (Ni := some 20) (Nj := some 25) #[true, true, true, true, true, true, true, false, false, false, false] #[true, true, false, true, true, true, true, true, false, false, false] rfl rfl rfl rfl (two_of HT_.out (by kernel_rfl)) (by decide) (by decide) (fun K hK => ?_) (fun K hK => ?_)
         · skip
           refine goes_ Tryd.func75 (by kernel_rfl) rfl #[.int .i64 (wrap64 (Int.tdiv a0 10))] (by rfl) rfl rfl zee81 ?_
           with_reducible refine (ih k (by omega) (wrap64 (Int.tdiv a0 10)) t105 _ A11.out).mono ?_
           rintro e w14 ⟨rfl, hb⟩
           refine ⟨_, rfl, ?_⟩
           have _ := aM (below_step hbZ hb)
           clear HB
           rename_i HB
           (try clear hb)
           (try clear hb2)
           (try clear hk)
           (try clear hi)
           refine hK.out _ _ trivial (fun hHeld => ?_)
           clear hK K
           refine norm_ (a' := ?_) ?_ ?_
           rotate_left
           · show Act.put _ (some 20) _ = _
             simp only [Act.put, List.setIfInBounds_toArray, List.set_cons_zero, List.set_cons_succ, i64_w, i32_w]
             rfl
           refine one_ (i := 7) (N := some 25) #[true, true, true, true, true, true, true, true, false, false, false] rfl rfl (one_of HT_.out (by kernel_rfl)) (by decide) (fun K hK => ?_)
           refine Kd.R_lit_step (Kd.int .u8) _ 5 ?hg (N := 25) ?hd (xs := ([(wrap64 (48 + (Int.tmod a0 10))) % 256] : List Int)) (inner := [.int .u8 ((wrap64 (48 + (Int.tmod a0 10))) % 256)]) (ok := fun _ => True) (okp := fun _ => True) ?hr ?hp (fun _ hk => hk) trivial (Below.refl _ _) (Nat.le_refl _) (by simp) ?_; (case hd => rfl); (case hg => rfl); (case hr => first | (go_simp; done) | (go_simp; rfl)); (case hp => exact (Reps.one (show Kd.M (Kd.int .u8) _ _ _ ((wrap64 (48 + (Int.tmod a0 10))) % 256) [.int .u8 ((wrap64 (48 + (Int.tmod a0 10))) % 256)] from rfl) (Reps.none _ _)))
           intro v107 w15 ho16 hb hg_ hnew_
           clear hg_ hnew_
           (first | rw [← Ny106.out] at ho16 | (simp only [Int.reduceToNat] at ho16; rw [← Ny106.out] at ho16))
           have _ := aM (Kd.R_lower ho16 (below_size hbZ))
           have _ := aM (below_step hbZ hb)
           clear HB
           rename_i HO108 HB
           clear hb ho16
           refine hK.out _ _ trivial (fun hHeld => ?_)
           clear hK K
           refine norm_ (a' := ?_) ?_ ?_
           rotate_left
           · show Act.put _ (some 25) _ = _
             simp only [Act.put, List.setIfInBounds_toArray, List.set_cons_zero, List.set_cons_succ, i64_w, i32_w]
             rfl
           refine one_ (i := 8) (N := some 26) #[true, true, true, true, true, true, true, true, true, false, false] rfl rfl (one_of HT_.out (by kernel_rfl)) (by decide) (fun K hK => ?_)
           have hcv17 := own_string (P := Tryd.prog) Tryd.underlying22 Tryd.underlying5 Tryd.underlying9 (Kd.own_of_R HO108.out)
           refine value_ (w1 := ?_) (v := ?_) (by rfl) rfl ?_ ?_
           rotate_left 2
           · go_simp
             constructor
             · rfl
             · rfl
           clear hcv17
           refine hK.out _ _ trivial (fun hHeld => ?_)
           clear hK K
           refine norm_ (a' := ?_) ?_ ?_
           rotate_left
           · show Act.put _ (some 26) _ = _
             simp only [Act.put, List.setIfInBounds_toArray, List.set_cons_zero, List.set_cons_succ, i64_w, i32_w]
             rfl
           exact norm_ z87ef (hCont (v107) _ ⟨(rZ HO108.out), hbZ⟩)
         · skip
           refine Kd.R_lit_step (Kd.int .u8) _ 5 ?hg (N := 25) ?hd (xs := ([(wrap64 (48 + (Int.tmod a0 10))) % 256] : List Int)) (inner := [.int .u8 ((wrap64 (48 + (Int.tmod a0 10))) % 256)]) (ok := fun _ => True) (okp := fun _ => True) ?hr ?hp (fun _ hk => hk) trivial (Below.refl _ _) (Nat.le_refl _) (by simp) ?_; (case hd => rfl); (case hg => rfl); (case hr => first | (go_simp; done) | (go_simp; rfl)); (case hp => exact (Reps.one (show Kd.M (Kd.int .u8) _ _ _ ((wrap64 (48 + (Int.tmod a0 10))) % 256) [.int .u8 ((wrap64 (48 + (Int.tmod a0 10))) % 256)] from rfl) (Reps.none _ _)))
           intro v107 w14 ho15 hb hg_ hnew_
           clear hg_ hnew_
           (first | rw [← Ny106.out] at ho15 | (simp only [Int.reduceToNat] at ho15; rw [← Ny106.out] at ho15))
           have _ := aM (Kd.R_lower ho15 (below_size hbZ))
           have _ := aM (below_step hbZ hb)
           clear HB
           rename_i HO108 HB
           clear hb ho15
           refine hK.out _ _ trivial (fun hHeld => ?_)
           clear hK K
           refine norm_ (a' := ?_) ?_ ?_
           rotate_left
           · show Act.put _ (some 25) _ = _
             simp only [Act.put, List.setIfInBounds_toArray, List.set_cons_zero, List.set_cons_succ, i64_w, i32_w]
             rfl
           refine two_ (i := 2) (j := 8) (Ni := some 20) (Nj := some 26) #[true, true, true, true, true, true, true, true, false, false, false] #[true, true, false, true, true, true, true, true, true, false, false] rfl rfl rfl rfl (two_of HT_.out (by kernel_rfl)) (by decide) (by decide) (fun K hK => ?_) (fun K hK => ?_)
           · skip
             refine goes_ Tryd.func75 (by kernel_rfl) rfl #[.int .i64 (wrap64 (Int.tdiv a0 10))] (by rfl) rfl rfl zee81 ?_
             with_reducible refine (ih k (by omega) (wrap64 (Int.tdiv a0 10)) t105 _ A11.out).mono ?_
             rintro e w16 ⟨rfl, hb⟩
             refine ⟨_, rfl, ?_⟩
             have _ := aM (Kd.R_below (rZ HO108.out) hb)
             have _ := aM (below_step hbZ hb)
             clear HO108
             clear HB
             rename_i HO108 HB
             (try clear hb)
             (try clear hb2)
             (try clear hk)
             (try clear hi)
             refine hK.out _ _ trivial (fun hHeld => ?_)
             clear hK K
             refine norm_ (a' := ?_) ?_ ?_
             rotate_left
             · show Act.put _ (some 20) _ = _
               simp only [Act.put, List.setIfInBounds_toArray, List.set_cons_zero, List.set_cons_succ, i64_w, i32_w]
               rfl
             refine one_ (i := 8) (N := some 26) #[true, true, true, true, true, true, true, true, true, false, false] rfl rfl (one_of HT_.out (by kernel_rfl)) (by decide) (fun K hK => ?_)
             have hcv17 := own_string (P := Tryd.prog) Tryd.underlying22 Tryd.underlying5 Tryd.underlying9 (Kd.own_of_R HO108.out)
             refine value_ (w1 := ?_) (v := ?_) (by rfl) rfl ?_ ?_
             rotate_left 2
             · go_simp
               constructor
               · rfl
               · rfl
             clear hcv17
             refine hK.out _ _ trivial (fun hHeld => ?_)
             clear hK K
             refine norm_ (a' := ?_) ?_ ?_
             rotate_left
             · show Act.put _ (some 26) _ = _
               simp only [Act.put, List.setIfInBounds_toArray, List.set_cons_zero, List.set_cons_succ, i64_w, i32_w]
               rfl
             exact norm_ z87ef (hCont (v107) _ ⟨(rZ HO108.out), hbZ⟩)
           · skip
             have hcv16 := own_string (P := Tryd.prog) Tryd.underlying22 Tryd.underlying5 Tryd.underlying9 (Kd.own_of_R HO108.out)
             refine value_ (w1 := ?_) (v := ?_) (by rfl) rfl ?_ ?_
             rotate_left 2
             · go_simp
               constructor
               · rfl
               · rfl
             clear hcv16
             refine hK.out _ _ trivial (fun hHeld => ?_)
             clear hK K
             refine norm_ (a' := ?_) ?_ ?_
             rotate_left
             · show Act.put _ (some 26) _ = _
               simp only [Act.put, List.setIfInBounds_toArray, List.set_cons_zero, List.set_cons_succ, i64_w, i32_w]
               rfl
             refine one_ (i := 2) (N := some 20) #[true, true, true, true, true, true, true, true, true, false, false] rfl rfl (one_of HT_.out (by kernel_rfl)) (by decide) (fun K hK => ?_)
             refine goes_ Tryd.func75 (by kernel_rfl) rfl #[.int .i64 (wrap64 (Int.tdiv a0 10))] (by rfl) rfl rfl zee81 ?_
             with_reducible refine (ih k (by omega) (wrap64 (Int.tdiv a0 10)) t105 _ A11.out).mono ?_
             rintro e w17 ⟨rfl, hb⟩
             refine ⟨_, rfl, ?_⟩
             have _ := aM (Kd.R_below (rZ HO108.out) hb)
             have _ := aM (below_step hbZ hb)
             clear HO108
             clear HB
             rename_i HO108 HB
             (try clear hb)
             (try clear hb2)
             (try clear hk)
             (try clear hi)
             refine hK.out _ _ trivial (fun hHeld => ?_)
             clear hK K
             refine norm_ (a' := ?_) ?_ ?_
             rotate_left
             · show Act.put _ (some 20) _ = _
               simp only [Act.put, List.setIfInBounds_toArray, List.set_cons_zero, List.set_cons_succ, i64_w, i32_w]
               rfl
             exact norm_ z87ef (hCont (v107) _ ⟨(rZ HO108.out), hbZ⟩)
       rintro v107 w18 ⟨h0_, h1_⟩
       have _ : Aside0 (Kd.R (Kd.int .u8) 5 w18 w.heap.size (fun _ => True) v107 y106) := ⟨h0_⟩
       have _ : Aside0 (Below w.heap.size w w18) := ⟨h1_⟩
       clear HB
       clear h0_ h1_
       rename_i HO108 HB
       have hHeld := trivial
       refine norm_ (a' := ?_) ?_ ?_
       rotate_left
       · simp only [putAll, Act.put, List.setIfInBounds_toArray, List.set_cons_zero, List.set_cons_succ]
         rfl
       refine pure_ (i := 9) (N := some 27) (v := ?_) (a' := ?_) #[true, true, true, true, true, true, true, true, true, true, false] rfl rfl (any_of HT_.out (by kernel_rfl)) (fun _ _ _ h => h) (Or.inl ⟨by rfl, ?_⟩) ?_ ?_
       rotate_left
       · intro w'
         go_simp
         with_reducible rfl
       rotate_left
       · simp only [Act.put, List.setIfInBounds_toArray, List.set_cons_zero, List.set_cons_succ, i64_w, i32_w]
         rfl
       refine pure_ (i := 10) (N := some 2) (v := ?_) (a' := ?_) #[true, true, true, true, true, true, true, true, true, true, true] rfl rfl (any_of HT_.out (by kernel_rfl)) (fun _ _ _ h => h) (Or.inl ⟨by rfl, ?_⟩) ?_ ?_
       rotate_left
       · intro w'
         go_simp
         with_reducible rfl
       rotate_left
       · simp only [Act.put, List.setIfInBounds_toArray, List.set_cons_zero, List.set_cons_succ, i64_w, i32_w]
         rfl
       refine done_ (done_of HT_.out (by kernel_rfl)) ?_
       try go_wp2
       go_ret
       exact ⟨z674d, z5acd⟩
     · rw [if_neg c12] at H
       exact absurd H (by simp)

end Go.Proofs.YteogadaloebdaaaDoor.P

/- The text of a whole number: the program's and the specification's are one. -/
namespace Go.Proofs.YteogadaloebdaaaDoor.Lem
open Go.RowKit Go.Proofs.YteogadaloebdaaaDoor.P Go.Proofs.YteogadaloebdaaaDoorW.PrintWords Go.Proofs.YteogadaloebdaaaDoorW.PrintLast Go.Proofs.YteogadaloebdaaaDoorW.PrintMore

/-- The text of a number. -/
def numT (n : Int) : ByteArray := ⟨(Go.Lib.itoa n).toArray⟩
theorem numT_size {n : Int} (h0 : -9223372036854775808 ≤ n) (h1 : n ≤ 9223372036854775807) : (numT n).size ≤ 21 := by
  show (Go.Lib.itoa n).toArray.size ≤ 21
  rw [List.size_toArray]
  exact Go.Lib.itoa_length_le n h0 h1
theorem itoa_ok {n : Int} (h0 : -9223372036854775808 ≤ n) (h1 : n ≤ 9223372036854775807) : strconv_Itoa_77.f n = some (numT n) := by
  unfold strconv_Itoa_77.f
  rw [if_pos ⟨h0, h1⟩]
  rfl

theorem digit_ok {d : Nat} (hd : d < 10) : strOfNums [(wrap64 (48 + (d : Int))) % 256] = ⟨#[UInt8.ofNat (48 + d)]⟩ := by
  have e : (wrap64 (48 + (d : Int))) % 256 = ((48 + d : Nat) : Int) := by rw [w64 (by omega) (by omega)]; omega
  rw [e]
  unfold strOfNums
  rw [List.map_cons, List.map_nil, Int.toNat_natCast]

theorem l1Num_nat : ∀ (m k n : Nat), n < 10 ^ (m + 1) → n < 9223372036854775808 → m < 19 → m < k → spec_l1Num.f k (n : Int) = some ⟨(Go.Lib.decDigits n).toArray⟩ := by
  intro m
  induction m with
  | zero =>
    intro k n hn h1 _ hk
    obtain ⟨k, rfl⟩ : ∃ q, k = q + 1 := ⟨k - 1, by omega⟩
    have hn10 : n < 10 := by simpa using hn
    rw [spec_l1Num.f, if_neg (by omega), if_pos (by omega), digit_ok hn10, Go.Lib.decDigits_one hn10]
  | succ m ih =>
    intro k n hn h1 hm hk
    obtain ⟨k, rfl⟩ : ∃ q, k = q + 1 := ⟨k - 1, by omega⟩
    by_cases h10 : n < 10
    · rw [spec_l1Num.f, if_neg (by omega), if_pos (by omega), digit_ok h10, Go.Lib.decDigits_one h10]
    · have hdiv : n / 10 < 10 ^ (m + 1) := by
        rw [Nat.div_lt_iff_lt_mul (by decide), ← Nat.pow_succ]
        exact hn
      have e1 : Int.tdiv (n : Int) 10 = ((n / 10 : Nat) : Int) := by rw [Int.tdiv_eq_ediv_of_nonneg (by omega)]; omega
      have e2 : Int.tmod (n : Int) 10 = ((n % 10 : Nat) : Int) := by rw [Int.tmod_eq_emod_of_nonneg (by omega)]; omega
      have hlen : (Go.Lib.decDigits (n / 10)).length ≤ 21 := by
        have := Go.Lib.itoa_length_le ((n / 10 : Nat) : Int) (by clear hn hdiv; omega) (by clear hn hdiv; omega)
        rw [Go.Lib.itoa_nonneg] at this
        exact this
      have ih' := ih k (n / 10) hdiv (by clear hn hdiv; omega) (by omega) (by omega)
      clear hn hdiv ih
      rw [spec_l1Num.f, if_neg (by omega), if_neg (by omega), e1, e2, w64 (x := ((n / 10 : Nat) : Int)) (by omega) (by omega), ih', Option.bind_some, Option.bind_some, digit_ok (by omega)]
      rw [if_pos (by
        show (Go.Lib.decDigits (n / 10)).toArray.size + 1 ≤ _
        rw [List.size_toArray]
        omega)]
      rw [show Go.Lib.decDigits n = Go.Lib.decDigits (n / 10) ++ [UInt8.ofNat (48 + n % 10)] from by rw [Go.Lib.decDigits, dif_neg h10]]
      congr 1
      try (apply ByteArray.ext; simp)

theorem l1Num_ok {n : Int} (h0 : -9223372036854775808 ≤ n) (h1 : n ≤ 9223372036854775807) {k : Nat} (hk : 30 < k) : spec_l1Num.f k n = some (numT n) := by
  have hnat : ∀ (m k : Nat), m < 9223372036854775808 → 20 < k → spec_l1Num.f k (m : Int) = some ⟨(Go.Lib.decDigits m).toArray⟩ := by
    intro m k hm hk
    exact l1Num_nat 18 k m (Nat.lt_of_lt_of_le hm (by decide)) hm (by omega) (by omega)
  by_cases hneg : n < 0
  · obtain ⟨k, rfl⟩ : ∃ q, k = q + 1 := ⟨k - 1, by omega⟩
    obtain ⟨m, rfl⟩ : ∃ m : Nat, n = -(m : Int) := ⟨n.natAbs, by omega⟩
    by_cases hmin : -(m : Int) = -9223372036854775808
    · have hm : m = 9223372036854775808 := by omega
      subst hm
      rw [spec_l1Num.f, if_pos hneg, if_pos hmin]
      unfold numT
      rw [Go.Lib.itoa_neg _ (by omega)]
      decide +kernel
    · rw [spec_l1Num.f, if_pos hneg, if_neg hmin, show wrap64 (- -(m : Int)) = (m : Int) from by rw [w64 (by omega) (by omega)]; omega, hnat m k (by omega) (by omega), Option.bind_some]
      have hlen : (Go.Lib.decDigits m).length ≤ 21 := by
        have := Go.Lib.itoa_length_le ((m : Nat) : Int) (by omega) (by omega)
        rw [Go.Lib.itoa_nonneg] at this
        exact this
      rw [if_pos (by
        show 1 + (Go.Lib.decDigits m).toArray.size ≤ _
        rw [List.size_toArray]
        omega)]
      unfold numT
      rw [Go.Lib.itoa_neg _ (by omega)]
      congr 1
      try (apply ByteArray.ext; simp)
  · obtain ⟨m, rfl⟩ : ∃ m : Nat, n = (m : Int) := ⟨n.toNat, by omega⟩
    rw [hnat m k (by omega) (by omega)]
    unfold numT
    rw [Go.Lib.itoa_nonneg]

end Go.Proofs.YteogadaloebdaaaDoor.Lem

-- written by a program of this session's (wip/pp)
namespace Go.Proofs.YteogadaloebdaaaDoor.P
open Go.RowKit Go.Proofs.YteogadaloebdaaaDoorW.PrintWords Go.Proofs.YteogadaloebdaaaDoorW.PrintLast Go.Proofs.YteogadaloebdaaaDoorW.PrintMore
attribute [local go_sem] max2_int min2_int max_two min_two max_three min_three max_four min_four str_geq str_gtr str_leq   -- for this text's walks alone
set_option linter.unusedVariables false
set_option linter.unusedSimpArgs false

/-! ### impl_KeyText: function 16 -/
def impl_KeyText.f (k : Nat) (a0_0 : ByteArray) (l0_1 : List (S69)) (a0_2 : Int) : Option (ByteArray × Bool) := (impl_GoodKey.f k a0_0 l0_1 a0_2).bind fun t102 => (if t102 = true then ((impl_keyText.f k a0_0 l0_1 a0_2).bind fun t103 => (some (t103, true))) else (some ((⟨#[]⟩ : ByteArray), false)))
theorem impl_KeyText.mono : ∀ a0 a1 a2 k, LeO (impl_KeyText.f k a0 a1 a2) (impl_KeyText.f (k + 1) a0 a1 a2) := by
 intro a0 a1 a2 k
 unfold impl_KeyText.f
 repeat' first
  | (with_reducible first | exact impl_GoodKey.mono .. | exact impl_keyText.mono .. | exact LeO.refl _ | exact LeO.none _ | refine LeO.ite ?_ ?_ | refine LeO.bind ?_ (fun _ => ?_))
  | exact LeO.none _
  | refine LeO.ite ?_ ?_
  | refine LeO.bind ?_ (fun _ => ?_)
set_option maxHeartbeats 8000000 in
set_option maxRecDepth 100000 in
theorem impl_KeyText.calls (k : Nat) (a0_0 : ByteArray) (A0_1 : Option Addr) (c0_1 : Nat) (l0_1 : List (S69)) (a0_2 : Int) (r1 : ByteArray) (r2 : Bool) (w : World) (hr0_1 : Kd.C k69 w A0_1 l0_1.length l0_1) (hc0_1 : l0_1.length ≤ c0_1) (hTab_ : Tab_ w) (h : impl_KeyText.f k a0_0 l0_1 a0_2 = some (r1, r2)) :
 Calls Tryd.prog 16 #[.agg #[.string a0_0, .slice A0_1 l0_1.length c0_1, .int .i64 a0_2]] w fun e w' => e = .returned (.tuple #[.string r1, .bool r2]) ∧ Below w.heap.size w w' := by
 have hu25 := Tryd.underlying25
 have HR0_1 := aM hr0_1
 have HC0_1 := aM hc0_1
 clear hr0_1 hc0_1
 have HTab_ := aM hTab_
 clear hTab_
 have HB := aM (Below.refl w.heap.size w)
 have H : ((impl_GoodKey.f k a0_0 l0_1 a0_2).bind fun t102 => (if t102 = true then ((impl_keyText.f k a0_0 l0_1 a0_2).bind fun t103 => (some (t103, true))) else (some ((⟨#[]⟩ : ByteArray), false)))) = some (r1, r2) := h
 clear h
 replace H := Option.bind_eq_some_iff.mp H
 obtain ⟨t102, A20, H⟩ := H
 try dsimp only at H
 have A2 := aM A20
 clear A20
 by_cases c3 : t102 = true
 · subst c3
   have H1 : ((impl_keyText.f k a0_0 l0_1 a0_2).bind fun t103 => (some (t103, true))) = some (r1, r2) := by rw [if_pos rfl] at H; exact H
   clear H
   have H := H1
   clear H1
   replace H := Option.bind_eq_some_iff.mp H
   obtain ⟨t103, A40, H⟩ := H
   try dsimp only at H
   have A4 := aM A40
   clear A40
   simp only [Option.some.injEq, Prod.mk.injEq] at H
   obtain ⟨rfl, rfl⟩ := H
   go_enter Tryd.func16, Tryd.ntmps16
   go_wp2_with (first | ((with_reducible refine gate_dst (N := 1) rfl ?_); refine box_event ?hg (N := 1) ?hd (cs := #[.string a0_0, .slice A0_1 l0_1.length c0_1, .int .i64 a0_2]) (t := 25) ?hr ?_; (case hd => rfl); (case hg => rfl); (case hr => first | (go_simp; done) | (go_simp; rfl)); intro gb101 hg w5 hbox hb; have _ := aM (below_step hbZ hb); have _ := aM hbox; have _ := szZ hg; have _ := szZ hg; clear HB; rename_i HB BK101 GW101 GE101; clear hb hbox hg; obtain ⟨hcz6_0, hcz6_1, hcz6_2, hfz6_0, hfz6_1, hfz6_2⟩ := cellsZ3 BK101.out) | ((with_reducible refine gate_callee (f := 31) rfl ?_); refine goesL_ (some 5) rfl rfl Tryd.func31 (by kernel_rfl) rfl #[.agg #[.string a0_0, .slice A0_1 l0_1.length c0_1, .int .i64 a0_2]] rfl zee81 ?_; (with_reducible refine (impl_GoodKey.calls k a0_0 _ _ l0_1 a0_2 true _ ?side1 ?side2 A2.out).mono ?_); (case side1 => exact (cZ (Kd.C_below HR0_1.out HB.out))); (case side2 => exact HC0_1.out); rintro e w7 ⟨rfl, hb⟩; refine ⟨_, rfl, ?_⟩; have _ := bB gb101 hb; have _ := aM (below_step hbZ hb); clear BK101 HB; rename_i BK101 HB; (try clear hb); obtain ⟨hcz8_0, hcz8_1, hcz8_2, hfz8_0, hfz8_1, hfz8_2⟩ := cellsZ3 BK101.out) | ((with_reducible refine gate_callee (f := 47) rfl ?_); refine goesL_ (some 8) rfl rfl Tryd.func47 (by kernel_rfl) rfl #[.agg #[.string a0_0, .slice A0_1 l0_1.length c0_1, .int .i64 a0_2]] rfl zee81 ?_; (with_reducible refine (impl_keyText.calls k a0_0 _ _ l0_1 a0_2 t103 _ ?side1 ?side2 ?side3 A4.out).mono ?_); (case side1 => exact (cZ (Kd.C_below HR0_1.out HB.out))); (case side2 => exact HC0_1.out); (case side3 => exact Tab_.stays HTab_.out hbZ); rintro e w9 ⟨rfl, hb⟩; refine ⟨_, rfl, ?_⟩; have _ := bB gb101 hb; have _ := aM (below_step hbZ hb); clear BK101 HB; rename_i BK101 HB; (try clear hb)))
   go_ret2
   exact ⟨z674d, zcb41⟩
 · replace c3 := Bool.eq_false_iff.mpr c3
   subst c3
   have H1 : (some ((⟨#[]⟩ : ByteArray), false)) = some (r1, r2) := by rw [if_neg (show ¬ (false = true) by decide)] at H; exact H
   clear H
   have H := H1
   clear H1
   simp only [Option.some.injEq, Prod.mk.injEq] at H
   obtain ⟨rfl, rfl⟩ := H
   go_enter Tryd.func16, Tryd.ntmps16
   go_wp2_with (first | ((with_reducible refine gate_dst (N := 1) rfl ?_); refine box_event ?hg (N := 1) ?hd (cs := #[.string a0_0, .slice A0_1 l0_1.length c0_1, .int .i64 a0_2]) (t := 25) ?hr ?_; (case hd => rfl); (case hg => rfl); (case hr => first | (go_simp; done) | (go_simp; rfl)); intro gb101 hg w10 hbox hb; have _ := aM (below_step hbZ hb); have _ := aM hbox; have _ := szZ hg; have _ := szZ hg; clear HB; rename_i HB BK101 GW101 GE101; clear hb hbox hg; obtain ⟨hcz11_0, hcz11_1, hcz11_2, hfz11_0, hfz11_1, hfz11_2⟩ := cellsZ3 BK101.out) | ((with_reducible refine gate_callee (f := 31) rfl ?_); refine goesL_ (some 5) rfl rfl Tryd.func31 (by kernel_rfl) rfl #[.agg #[.string a0_0, .slice A0_1 l0_1.length c0_1, .int .i64 a0_2]] rfl zee81 ?_; (with_reducible refine (impl_GoodKey.calls k a0_0 _ _ l0_1 a0_2 false _ ?side1 ?side2 A2.out).mono ?_); (case side1 => exact (cZ (Kd.C_below HR0_1.out HB.out))); (case side2 => exact HC0_1.out); rintro e w12 ⟨rfl, hb⟩; refine ⟨_, rfl, ?_⟩; have _ := bB gb101 hb; have _ := aM (below_step hbZ hb); clear BK101 HB; rename_i BK101 HB; (try clear hb)))
   go_ret2
   exact ⟨z674d, zcb41⟩

end Go.Proofs.YteogadaloebdaaaDoor.P

-- written by a program of this session's (wip/pp)
namespace Go.Proofs.YteogadaloebdaaaDoor.P
open Go.RowKit Go.Proofs.YteogadaloebdaaaDoorW.PrintWords Go.Proofs.YteogadaloebdaaaDoorW.PrintLast Go.Proofs.YteogadaloebdaaaDoorW.PrintMore
attribute [local go_sem] max2_int min2_int max_two min_two max_three min_three max_four min_four str_geq str_gtr str_leq   -- for this text's walks alone
set_option linter.unusedVariables false
set_option linter.unusedSimpArgs false

/-! ### spec_l12KeyText: function 45 -/
def spec_l12KeyText.l0 : Nat → ByteArray → List (S69) → Int → Int → ByteArray → List (S69) → Int → Option (ByteArray)
 | 0, _, _, _, _, _, _, _ => none
 | k + 1, x3, x9, x10, x11, x102000, x102001, x102002 => if x11 < x10 then (if 0 ≤ x11 then (if x11 < (x9.length : Int) then (if 1 + ((rd_T69 x9 x11).f0).size ≤ 9223372036854775807 then (if 1 + (((rd_T69 x9 x11).f0).size) + 1 ≤ 9223372036854775807 then (if 1 + (((rd_T69 x9 x11).f0).size) + 1 + ((rd_T69 x9 x11).f1).size ≤ 9223372036854775807 then (if x3.size + 1 + (((rd_T69 x9 x11).f0).size) + 1 + (((rd_T69 x9 x11).f1).size) ≤ 9223372036854775807 then (spec_l12KeyText.l0 k (x3 ++ ((((⟨#[44]⟩ : ByteArray) ++ ((rd_T69 x9 x11).f0)) ++ (⟨#[61]⟩ : ByteArray)) ++ ((rd_T69 x9 x11).f1))) x9 x10 (wrap64 (x11 + 1)) x102000 x102001 x102002) else (none)) else (none)) else (none)) else (none)) else (none)) else (none)) else (if x3.size + 1 ≤ 9223372036854775807 then ((spec_l1Num.f k x102002).bind fun t104 => (if x3.size + 1 + t104.size ≤ 9223372036854775807 then (some ((x3 ++ (⟨#[64]⟩ : ByteArray)) ++ t104)) else (none))) else (none))
def spec_l12KeyText.f (k : Nat) (a0_0 : ByteArray) (l0_1 : List (S69)) (a0_2 : Int) : Option (ByteArray) := spec_l12KeyText.l0 k a0_0 l0_1 (l0_1.length : Int) 0 a0_0 l0_1 a0_2
theorem spec_l12KeyText.mono_l : ∀ k, (∀ y0 y1 y2 y3 y4 y5 y6, LeO (spec_l12KeyText.l0 k y0 y1 y2 y3 y4 y5 y6) (spec_l12KeyText.l0 (k + 1) y0 y1 y2 y3 y4 y5 y6))
 | 0 => fun _ _ _ _ _ _ _ r h => by simp [spec_l12KeyText.l0] at h
 | k + 1 => by
  have ih0 := spec_l12KeyText.mono_l k
  · intro y0 y1 y2 y3 y4 y5 y6
    unfold spec_l12KeyText.l0
    repeat' first
     | (with_reducible first | exact ih0 .. | exact spec_l1Num.mono .. | exact LeO.refl _ | exact LeO.none _ | refine LeO.ite ?_ ?_ | refine LeO.bind ?_ (fun _ => ?_))
     | exact LeO.none _
     | refine LeO.ite ?_ ?_
     | refine LeO.bind ?_ (fun _ => ?_)
theorem spec_l12KeyText.mono : ∀ a0 a1 a2 k, LeO (spec_l12KeyText.f k a0 a1 a2) (spec_l12KeyText.f (k + 1) a0 a1 a2) := by
 intro a0 a1 a2 k
 have ih0 := spec_l12KeyText.mono_l k
 unfold spec_l12KeyText.f
 repeat' first
  | (with_reducible first | exact ih0 .. | exact spec_l1Num.mono .. | exact LeO.refl _ | exact LeO.none _ | refine LeO.ite ?_ ?_ | refine LeO.bind ?_ (fun _ => ?_))
  | exact LeO.none _
  | refine LeO.ite ?_ ?_
  | refine LeO.bind ?_ (fun _ => ?_)
set_option maxHeartbeats 8000000 in
set_option maxRecDepth 100000 in
theorem spec_l12KeyText.calls (k : Nat) (a0_0 : ByteArray) (A0_1 : Option Addr) (c0_1 : Nat) (l0_1 : List (S69)) (a0_2 : Int) (r : ByteArray) (w : World) (hr0_1 : Kd.C k69 w A0_1 l0_1.length l0_1) (hc0_1 : l0_1.length ≤ c0_1) (h : spec_l12KeyText.f k a0_0 l0_1 a0_2 = some r) :
 Calls Tryd.prog 45 #[.agg #[.string a0_0, .slice A0_1 l0_1.length c0_1, .int .i64 a0_2]] w fun e w' => e = .returned (.string r) ∧ Below w.heap.size w w' := by
 have hu25 := Tryd.underlying25
 have hu69 := Tryd.underlying69
 have HR0_1 := aM hr0_1
 have HC0_1 := aM hc0_1
 clear hr0_1 hc0_1
 have HB := aM (Below.refl w.heap.size w)
 have H : (spec_l12KeyText.l0 k a0_0 l0_1 (l0_1.length : Int) 0 a0_0 l0_1 a0_2) = some r := h
 clear h
 have H' := aM H
 clear H
 go_enter Tryd.func45, Tryd.ntmps45
 go_wp2_with (first | ((with_reducible refine gate_dst (N := 1) rfl ?_); refine box_event ?hg (N := 1) ?hd (cs := #[.string a0_0, .slice A0_1 l0_1.length c0_1, .int .i64 a0_2]) (t := 25) ?hr ?_; (case hd => rfl); (case hg => rfl); (case hr => first | (go_simp; done) | (go_simp; rfl)); intro gb101 hg w2 hbox hb; have _ := aM (below_step hbZ hb); have _ := aM hbox; have _ := szZ hg; have _ := szZ hg; clear HB; rename_i HB BK101 GW101 GE101; clear hb hbox hg; obtain ⟨hcz3_0, hcz3_1, hcz3_2, hfz3_0, hfz3_1, hfz3_2⟩ := cellsZ3 BK101.out))
 go_loopg [3, 11] k (fun kq v3 v11 w' => ∃ (x3_1 : ByteArray) (x11_1 : Int), v3 = .string x3_1 ∧ v11 = .int .i64 x11_1 ∧ Aside0 (spec_l12KeyText.l0 kq x3_1 l0_1 (l0_1.length : Int) x11_1 a0_0 l0_1 a0_2 = some r) ∧ Aside0 (kq ≤ k) ∧ Aside0 (w'.heap[gb101]? = some (.cells #[.string a0_0, (.slice A0_1 l0_1.length c0_1), .int .i64 a0_2] 25 (0, 0))) ∧ Aside0 (Below w.heap.size w w'))
 case atStart => exact ⟨(a0_0), (0), z4458, z4458, H', ⟨Nat.le_refl _⟩, ⟨bkZ⟩, ⟨zcb41⟩⟩
 case round =>
  clear H'
  try clear p2
  try clear hcz3_0 hcz3_1 hcz3_2 hfz3_0 hfz3_1 hfz3_2
  obtain ⟨x3_1, x11_1, rfl, rfl, HA, HK1, BK101, HB⟩ := hrel
  cases gk with
  | zero => exact absurd HA.out (by simp [spec_l12KeyText.l0])
  | succ k1 =>
   have H := HA.out
   clear HA
   simp only [spec_l12KeyText.l0] at H
   by_cases c4 : x11_1 < (l0_1.length : Int)
   · rw [if_pos c4] at H
     have c4b0 : decide (x11_1 < (l0_1.length : Int)) = true := decide_eq_true c4
     clear c4
     by_cases c5 : 0 ≤ x11_1
     · rw [if_pos c5] at H
       have c5b0 : decide (0 ≤ x11_1) = true := decide_eq_true c5
       clear c5
       by_cases c6 : x11_1 < (l0_1.length : Int)
       · rw [if_pos c6] at H
         have c6b0 : decide (x11_1 < (l0_1.length : Int)) = true := decide_eq_true c6
         clear c6
         by_cases c7 : 1 + ((rd_T69 l0_1 x11_1).f0).size ≤ 9223372036854775807
         · rw [if_pos c7] at H
           have c7b0 := eq_true c7
           have c7b1 : decide (1 + ((rd_T69 l0_1 x11_1).f0).size ≤ 9223372036854775807) = true := decide_eq_true c7
           try have c7b2 : (9223372036854775807 < 1 + ((rd_T69 l0_1 x11_1).f0).size) = False := eq_false (Nat.not_lt.2 c7)
           by_cases c8 : 1 + (((rd_T69 l0_1 x11_1).f0).size) + 1 ≤ 9223372036854775807
           · rw [if_pos c8] at H
             have c8b0 := eq_true c8
             have c8b1 : decide (1 + (((rd_T69 l0_1 x11_1).f0).size) + 1 ≤ 9223372036854775807) = true := decide_eq_true c8
             try have c8b2 : (9223372036854775807 < 1 + (((rd_T69 l0_1 x11_1).f0).size) + 1) = False := eq_false (Nat.not_lt.2 c8)
             by_cases c9 : 1 + (((rd_T69 l0_1 x11_1).f0).size) + 1 + ((rd_T69 l0_1 x11_1).f1).size ≤ 9223372036854775807
             · rw [if_pos c9] at H
               have c9b0 := eq_true c9
               have c9b1 : decide (1 + (((rd_T69 l0_1 x11_1).f0).size) + 1 + ((rd_T69 l0_1 x11_1).f1).size ≤ 9223372036854775807) = true := decide_eq_true c9
               try have c9b2 : (9223372036854775807 < 1 + (((rd_T69 l0_1 x11_1).f0).size) + 1 + ((rd_T69 l0_1 x11_1).f1).size) = False := eq_false (Nat.not_lt.2 c9)
               by_cases c10 : x3_1.size + 1 + (((rd_T69 l0_1 x11_1).f0).size) + 1 + (((rd_T69 l0_1 x11_1).f1).size) ≤ 9223372036854775807
               · rw [if_pos c10] at H
                 have c10b0 := eq_true c10
                 have c10b1 : decide (x3_1.size + 1 + (((rd_T69 l0_1 x11_1).f0).size) + 1 + (((rd_T69 l0_1 x11_1).f1).size) ≤ 9223372036854775807) = true := decide_eq_true c10
                 try have c10b2 : (9223372036854775807 < x3_1.size + 1 + (((rd_T69 l0_1 x11_1).f0).size) + 1 + (((rd_T69 l0_1 x11_1).f1).size)) = False := eq_false (Nat.not_lt.2 c10)
                 have H' := aM H
                 clear H
                 have p102 : 0 ≤ (x11_1 : Int) := of_decide_eq_true z1200
                 have q102 : x11_1 < (l0_1.length : Int) := of_decide_eq_true z1200
                 obtain ⟨ad102, e102, hx102_0, hx102_1⟩ := at_T69 HR0_1.out x11_1 p102 q102
                 cases e102
                 replace hx102_0 := (HB.out.cell (World.block_lt_of_cell? w _ hx102_0)).trans hx102_0
                 replace hx102_1 := (HB.out.cell (World.block_lt_of_cell? w _ hx102_1)).trans hx102_1
                 replace p102 := eq_true p102
                 replace q102 := eq_true q102
                 go_wp2_with (first | ((with_reducible refine gate_dst (N := 5) rfl ?_); refine box_event ?hg (N := 5) ?hd (cs := #[.string (⟨#[]⟩ : ByteArray), .string (⟨#[]⟩ : ByteArray)]) (t := 69) ?hr ?_; (case hd => rfl); (case hg => rfl); (case hr => first | (go_simp; done) | (go_simp; rfl)); intro gb103 hg w11 hbox hb; have _ := bB gb101 hb; have _ := aM (below_step hbZ hb); have _ := aM hbox; have _ := szZ hg; have _ := szZ hg; have ⟨_, _⟩ := nbB gb101 hg; clear BK101 HB; rename_i BK101 HB BK103 GW103 GE103 NB101_103 NB103_101; clear hb hbox hg; have hnb12 := NB103_101.out; have hnc12 := NB101_103.out; obtain ⟨hcz13_0, hcz13_1, hfz13_0, hfz13_1⟩ := cellsZ2 BK103.out))
                 go_roundg k1
                 case measure => have := HK1.out; omega
                 case rel => exact ⟨(x3_1 ++ ((((⟨#[44]⟩ : ByteArray) ++ ((rd_T69 l0_1 x11_1).f0)) ++ (⟨#[61]⟩ : ByteArray)) ++ ((rd_T69 l0_1 x11_1).f1))), (wrap64 (x11_1 + 1)), z4458, z4458, H', ⟨zfb39⟩, ⟨bkZ⟩, ⟨zcb41⟩⟩
               · rw [if_neg c10] at H
                 exact absurd H (by simp)
             · rw [if_neg c9] at H
               exact absurd H (by simp)
           · rw [if_neg c8] at H
             exact absurd H (by simp)
         · rw [if_neg c7] at H
           exact absurd H (by simp)
       · rw [if_neg c6] at H
         exact absurd H (by simp)
     · rw [if_neg c5] at H
       exact absurd H (by simp)
   · rw [if_neg c4] at H
     have c4b0 : decide (x11_1 < (l0_1.length : Int)) = false := decide_eq_false c4
     clear c4
     by_cases c14 : x3_1.size + 1 ≤ 9223372036854775807
     · rw [if_pos c14] at H
       have c14b0 := eq_true c14
       have c14b1 : decide (x3_1.size + 1 ≤ 9223372036854775807) = true := decide_eq_true c14
       try have c14b2 : (9223372036854775807 < x3_1.size + 1) = False := eq_false (Nat.not_lt.2 c14)
       replace H := Option.bind_eq_some_iff.mp H
       obtain ⟨t104, A150, H⟩ := H
       try dsimp only at H
       have A15 := aM A150
       clear A150
       by_cases c16 : x3_1.size + 1 + t104.size ≤ 9223372036854775807
       · rw [if_pos c16] at H
         have c16b0 := eq_true c16
         have c16b1 : decide (x3_1.size + 1 + t104.size ≤ 9223372036854775807) = true := decide_eq_true c16
         try have c16b2 : (9223372036854775807 < x3_1.size + 1 + t104.size) = False := eq_false (Nat.not_lt.2 c16)
         obtain rfl := Option.some.inj H
         obtain ⟨hcz17_0, hcz17_1, hcz17_2, hfz17_0, hfz17_1, hfz17_2⟩ := cellsZ3 BK101.out
         go_wp2_with (first | ((with_reducible refine gate_callee (f := 75) rfl ?_); refine goesL_ (some 29) rfl rfl Tryd.func75 (by kernel_rfl) rfl #[.int .i64 a0_2] rfl zee81 ?_; (with_reducible refine (spec_l1Num.calls k1 a0_2 t104 _ A15.out).mono ?_); rintro e w18 ⟨rfl, hb⟩; refine ⟨_, rfl, ?_⟩; have _ := bB gb101 hb; have _ := aM (below_step hbZ hb); clear BK101 HB; rename_i BK101 HB; (try clear hb)))
         go_ret
         exact ⟨z674d, zcb41⟩
       · rw [if_neg c16] at H
         exact absurd H (by simp)
     · rw [if_neg c14] at H
       exact absurd H (by simp)

end Go.Proofs.YteogadaloebdaaaDoor.P

-- written by a program of this session's (wip/pp)
namespace Go.Proofs.YteogadaloebdaaaDoor.P
open Go.RowKit Go.Proofs.YteogadaloebdaaaDoorW.PrintWords Go.Proofs.YteogadaloebdaaaDoorW.PrintLast Go.Proofs.YteogadaloebdaaaDoorW.PrintMore
attribute [local go_sem] max2_int min2_int max_two min_two max_three min_three max_four min_four str_geq str_gtr str_leq   -- for this text's walks alone
set_option linter.unusedVariables false
set_option linter.unusedSimpArgs false

/-! ### spec_KeyText: function 14 -/
def spec_KeyText.f (k : Nat) (a0_0 : ByteArray) (l0_1 : List (S69)) (a0_2 : Int) : Option (ByteArray × Bool) := (spec_GoodKey.f k a0_0 l0_1 a0_2).bind fun t102 => (if t102 = true then ((spec_l12KeyText.f k a0_0 l0_1 a0_2).bind fun t103 => (some (t103, true))) else (some ((⟨#[]⟩ : ByteArray), false)))
theorem spec_KeyText.mono : ∀ a0 a1 a2 k, LeO (spec_KeyText.f k a0 a1 a2) (spec_KeyText.f (k + 1) a0 a1 a2) := by
 intro a0 a1 a2 k
 unfold spec_KeyText.f
 repeat' first
  | (with_reducible first | exact spec_GoodKey.mono .. | exact spec_l12KeyText.mono .. | exact LeO.refl _ | exact LeO.none _ | refine LeO.ite ?_ ?_ | refine LeO.bind ?_ (fun _ => ?_))
  | exact LeO.none _
  | refine LeO.ite ?_ ?_
  | refine LeO.bind ?_ (fun _ => ?_)
set_option maxHeartbeats 8000000 in
set_option maxRecDepth 100000 in
theorem spec_KeyText.calls (k : Nat) (a0_0 : ByteArray) (A0_1 : Option Addr) (c0_1 : Nat) (l0_1 : List (S69)) (a0_2 : Int) (r1 : ByteArray) (r2 : Bool) (w : World) (hr0_1 : Kd.C k69 w A0_1 l0_1.length l0_1) (hc0_1 : l0_1.length ≤ c0_1) (h : spec_KeyText.f k a0_0 l0_1 a0_2 = some (r1, r2)) :
 Calls Tryd.prog 14 #[.agg #[.string a0_0, .slice A0_1 l0_1.length c0_1, .int .i64 a0_2]] w fun e w' => e = .returned (.tuple #[.string r1, .bool r2]) ∧ Below w.heap.size w w' := by
 have hu25 := Tryd.underlying25
 have HR0_1 := aM hr0_1
 have HC0_1 := aM hc0_1
 clear hr0_1 hc0_1
 have HB := aM (Below.refl w.heap.size w)
 have H : ((spec_GoodKey.f k a0_0 l0_1 a0_2).bind fun t102 => (if t102 = true then ((spec_l12KeyText.f k a0_0 l0_1 a0_2).bind fun t103 => (some (t103, true))) else (some ((⟨#[]⟩ : ByteArray), false)))) = some (r1, r2) := h
 clear h
 replace H := Option.bind_eq_some_iff.mp H
 obtain ⟨t102, A20, H⟩ := H
 try dsimp only at H
 have A2 := aM A20
 clear A20
 by_cases c3 : t102 = true
 · subst c3
   have H1 : ((spec_l12KeyText.f k a0_0 l0_1 a0_2).bind fun t103 => (some (t103, true))) = some (r1, r2) := by rw [if_pos rfl] at H; exact H
   clear H
   have H := H1
   clear H1
   replace H := Option.bind_eq_some_iff.mp H
   obtain ⟨t103, A40, H⟩ := H
   try dsimp only at H
   have A4 := aM A40
   clear A40
   simp only [Option.some.injEq, Prod.mk.injEq] at H
   obtain ⟨rfl, rfl⟩ := H
   go_enter Tryd.func14, Tryd.ntmps14
   go_wp2_with (first | ((with_reducible refine gate_dst (N := 1) rfl ?_); refine box_event ?hg (N := 1) ?hd (cs := #[.string a0_0, .slice A0_1 l0_1.length c0_1, .int .i64 a0_2]) (t := 25) ?hr ?_; (case hd => rfl); (case hg => rfl); (case hr => first | (go_simp; done) | (go_simp; rfl)); intro gb101 hg w5 hbox hb; have _ := aM (below_step hbZ hb); have _ := aM hbox; have _ := szZ hg; have _ := szZ hg; clear HB; rename_i HB BK101 GW101 GE101; clear hb hbox hg; obtain ⟨hcz6_0, hcz6_1, hcz6_2, hfz6_0, hfz6_1, hfz6_2⟩ := cellsZ3 BK101.out) | ((with_reducible refine gate_callee (f := 10) rfl ?_); refine goesL_ (some 5) rfl rfl Tryd.func10 (by kernel_rfl) rfl #[.agg #[.string a0_0, .slice A0_1 l0_1.length c0_1, .int .i64 a0_2]] rfl zee81 ?_; (with_reducible refine (spec_GoodKey.calls k a0_0 _ _ l0_1 a0_2 true _ ?side1 ?side2 A2.out).mono ?_); (case side1 => exact (cZ (Kd.C_below HR0_1.out HB.out))); (case side2 => exact HC0_1.out); rintro e w7 ⟨rfl, hb⟩; refine ⟨_, rfl, ?_⟩; have _ := bB gb101 hb; have _ := aM (below_step hbZ hb); clear BK101 HB; rename_i BK101 HB; (try clear hb); obtain ⟨hcz8_0, hcz8_1, hcz8_2, hfz8_0, hfz8_1, hfz8_2⟩ := cellsZ3 BK101.out) | ((with_reducible refine gate_callee (f := 45) rfl ?_); refine goesL_ (some 8) rfl rfl Tryd.func45 (by kernel_rfl) rfl #[.agg #[.string a0_0, .slice A0_1 l0_1.length c0_1, .int .i64 a0_2]] rfl zee81 ?_; (with_reducible refine (spec_l12KeyText.calls k a0_0 _ _ l0_1 a0_2 t103 _ ?side1 ?side2 A4.out).mono ?_); (case side1 => exact (cZ (Kd.C_below HR0_1.out HB.out))); (case side2 => exact HC0_1.out); rintro e w9 ⟨rfl, hb⟩; refine ⟨_, rfl, ?_⟩; have _ := bB gb101 hb; have _ := aM (below_step hbZ hb); clear BK101 HB; rename_i BK101 HB; (try clear hb)))
   go_ret2
   exact ⟨z674d, zcb41⟩
 · replace c3 := Bool.eq_false_iff.mpr c3
   subst c3
   have H1 : (some ((⟨#[]⟩ : ByteArray), false)) = some (r1, r2) := by rw [if_neg (show ¬ (false = true) by decide)] at H; exact H
   clear H
   have H := H1
   clear H1
   simp only [Option.some.injEq, Prod.mk.injEq] at H
   obtain ⟨rfl, rfl⟩ := H
   go_enter Tryd.func14, Tryd.ntmps14
   go_wp2_with (first | ((with_reducible refine gate_dst (N := 1) rfl ?_); refine box_event ?hg (N := 1) ?hd (cs := #[.string a0_0, .slice A0_1 l0_1.length c0_1, .int .i64 a0_2]) (t := 25) ?hr ?_; (case hd => rfl); (case hg => rfl); (case hr => first | (go_simp; done) | (go_simp; rfl)); intro gb101 hg w10 hbox hb; have _ := aM (below_step hbZ hb); have _ := aM hbox; have _ := szZ hg; have _ := szZ hg; clear HB; rename_i HB BK101 GW101 GE101; clear hb hbox hg; obtain ⟨hcz11_0, hcz11_1, hcz11_2, hfz11_0, hfz11_1, hfz11_2⟩ := cellsZ3 BK101.out) | ((with_reducible refine gate_callee (f := 10) rfl ?_); refine goesL_ (some 5) rfl rfl Tryd.func10 (by kernel_rfl) rfl #[.agg #[.string a0_0, .slice A0_1 l0_1.length c0_1, .int .i64 a0_2]] rfl zee81 ?_; (with_reducible refine (spec_GoodKey.calls k a0_0 _ _ l0_1 a0_2 false _ ?side1 ?side2 A2.out).mono ?_); (case side1 => exact (cZ (Kd.C_below HR0_1.out HB.out))); (case side2 => exact HC0_1.out); rintro e w12 ⟨rfl, hb⟩; refine ⟨_, rfl, ?_⟩; have _ := bB gb101 hb; have _ := aM (below_step hbZ hb); clear BK101 HB; rename_i BK101 HB; (try clear hb)))
   go_ret2
   exact ⟨z674d, zcb41⟩

end Go.Proofs.YteogadaloebdaaaDoor.P

/- The text of a key: the program's and the specification's are one. -/
namespace Go.Proofs.YteogadaloebdaaaDoor.Lem
open Go Go.RowKit Go.Proofs.YteogadaloebdaaaDoor.P Go.Proofs.YteogadaloebdaaaDoorW.PrintWords Go.Proofs.YteogadaloebdaaaDoorW.PrintLast Go.Proofs.YteogadaloebdaaaDoorW.PrintMore

def tagT (t : Tg) : ByteArray := (((⟨#[44]⟩ : ByteArray) ++ t.f0) ++ (⟨#[61]⟩ : ByteArray)) ++ t.f1
def keyT : ByteArray → List Tg → ByteArray
  | x, [] => x
  | x, t :: r => keyT (x ++ tagT t) r
theorem tagT_size (t : Tg) : (tagT t).size = 2 + t.f0.size + t.f1.size := by
  unfold tagT
  rw [ByteArray.size_append, ByteArray.size_append, ByteArray.size_append]
  show 1 + t.f0.size + 1 + t.f1.size = _
  omega

theorem implText_l0 (l : List Tg) (hl : l.length ≤ 4) (hn : ∀ t ∈ l, t.f0.size ≤ 12 ∧ t.f1.size ≤ 12) (m : ByteArray) {st : Int} (h0 : 0 ≤ st) (h1 : st ≤ 1000000000) : ∀ (d i k : Nat) (x : ByteArray), i + d = l.length → d < k → x.size + 26 * d ≤ 1000 →
    impl_keyText.l0 k x l (l.length : Int) (i : Int) m l st = some ((keyT x (l.drop i) ++ (⟨#[64]⟩ : ByteArray)) ++ numT st) := by
  intro d
  induction d with
  | zero =>
    intro i k x hi hk hx
    obtain ⟨k, rfl⟩ : ∃ q, k = q + 1 := ⟨k - 1, by omega⟩
    have hz := numT_size (n := st) (by omega) (by omega)
    rw [impl_keyText.l0, if_neg (by omega), if_pos (by omega), itoa_ok (by omega) (by omega), Option.bind_some, if_pos (by omega), List.drop_of_length_le (by omega)]
    rfl
  | succ d ih =>
    intro i k x hi hk hx
    obtain ⟨k, rfl⟩ : ∃ q, k = q + 1 := ⟨k - 1, by omega⟩
    have hlt : i < l.length := by omega
    have e0 : rd_T69 l (i : Int) = l[i] := rdT_get hlt
    obtain ⟨hn0, hn1⟩ := hn l[i] (List.getElem_mem hlt)
    have hs := tagT_size l[i]
    have hnext := ih (i + 1) k (x ++ tagT l[i]) (by omega) (by omega) (by rw [ByteArray.size_append]; omega)
    rw [impl_keyText.l0, if_pos (by omega), if_pos (by omega), if_pos (by omega), e0, if_pos (by omega), if_pos (by omega), if_pos (by omega), if_pos (by omega), show wrap64 ((i : Int) + 1) = ((i + 1 : Nat) : Int) from by rw [w64 (by omega) (by omega)]; omega, drop_get hlt, keyT]
    exact hnext

theorem specText_l0 (l : List Tg) (hl : l.length ≤ 4) (hn : ∀ t ∈ l, t.f0.size ≤ 12 ∧ t.f1.size ≤ 12) (m : ByteArray) {st : Int} (h0 : 0 ≤ st) (h1 : st ≤ 1000000000) : ∀ (d i k : Nat) (x : ByteArray), i + d = l.length → d + 32 < k → x.size + 26 * d ≤ 1000 →
    spec_l12KeyText.l0 k x l (l.length : Int) (i : Int) m l st = some ((keyT x (l.drop i) ++ (⟨#[64]⟩ : ByteArray)) ++ numT st) := by
  intro d
  induction d with
  | zero =>
    intro i k x hi hk hx
    obtain ⟨k, rfl⟩ : ∃ q, k = q + 1 := ⟨k - 1, by omega⟩
    have hz := numT_size (n := st) (by omega) (by omega)
    rw [spec_l12KeyText.l0, if_neg (by omega), if_pos (by omega), l1Num_ok (by omega) (by omega) (by omega), Option.bind_some, if_pos (by omega), List.drop_of_length_le (by omega)]
    rfl
  | succ d ih =>
    intro i k x hi hk hx
    obtain ⟨k, rfl⟩ : ∃ q, k = q + 1 := ⟨k - 1, by omega⟩
    have hlt : i < l.length := by omega
    have e0 : rd_T69 l (i : Int) = l[i] := rdT_get hlt
    obtain ⟨hn0, hn1⟩ := hn l[i] (List.getElem_mem hlt)
    have hs := tagT_size l[i]
    have hnext := ih (i + 1) k (x ++ tagT l[i]) (by omega) (by omega) (by rw [ByteArray.size_append]; omega)
    rw [spec_l12KeyText.l0, if_pos (by omega), if_pos (by omega), if_pos (by omega), e0, if_pos (by omega), if_pos (by omega), if_pos (by omega), if_pos (by omega), show wrap64 ((i : Int) + 1) = ((i + 1 : Nat) : Int) from by rw [w64 (by omega) (by omega)]; omega, drop_get hlt, keyT]
    exact hnext

/-- The text of a key. -/
def textOf (m : ByteArray) (l : List Tg) (st : Int) : ByteArray := (keyT m l ++ (⟨#[64]⟩ : ByteArray)) ++ numT st
theorem names_of {m : ByteArray} {l : List Tg} {st : Int} (h : keyB m l st = true) : m.size ≤ 12 ∧ l.length ≤ 4 ∧ (∀ t ∈ l, t.f0.size ≤ 12 ∧ t.f1.size ≤ 12) ∧ 0 ≤ st ∧ st ≤ 1000000000 := by
  obtain ⟨a, b, c, d, e⟩ := keyB_parts h
  exact ⟨(nameB_size a).2, b, fun t ht => ⟨(nameB_size (tagsB_names e t ht).1).2, (nameB_size (tagsB_names e t ht).2).2⟩, c, d⟩
theorem implKeyText_ok {m : ByteArray} {l : List Tg} {st : Int} (h : keyB m l st = true) {k : Nat} (hk : 6 < k) : impl_keyText.f k m l st = some (textOf m l st) := by
  obtain ⟨hm, hl, hn, h0, h1⟩ := names_of h
  unfold impl_keyText.f
  have e := implText_l0 l hl hn m h0 h1 l.length 0 k m (by omega) (by omega) (by omega)
  rw [List.drop_zero] at e
  exact e
theorem specKeyText_ok {m : ByteArray} {l : List Tg} {st : Int} (h : keyB m l st = true) {k : Nat} (hk : 40 < k) : spec_l12KeyText.f k m l st = some (textOf m l st) := by
  obtain ⟨hm, hl, hn, h0, h1⟩ := names_of h
  unfold spec_l12KeyText.f
  have e := specText_l0 l hl hn m h0 h1 l.length 0 k m (by omega) (by omega) (by omega)
  rw [List.drop_zero] at e
  exact e
/-- What KeyText answers. -/
def keyO (m : ByteArray) (l : List Tg) (st : Int) : ByteArray × Bool := if keyB m l st = true then (textOf m l st, true) else ((⟨#[]⟩ : ByteArray), false)
theorem implKT_ok (m : ByteArray) (l : List Tg) (st : Int) {k : Nat} (hk : 40 < k) : impl_KeyText.f k m l st = some (keyO m l st) := by
  unfold impl_KeyText.f keyO
  rw [implKey_ok m l st (by omega), Option.bind_some]
  by_cases h : keyB m l st = true
  · rw [if_pos h, if_pos h, implKeyText_ok h (by omega), Option.bind_some]
  · rw [if_neg h, if_neg h]
theorem specKT_ok (m : ByteArray) (l : List Tg) (st : Int) {k : Nat} (hk : 40 < k) : spec_KeyText.f k m l st = some (keyO m l st) := by
  unfold spec_KeyText.f keyO
  rw [specKey_ok m l st (by omega), Option.bind_some]
  by_cases h : keyB m l st = true
  · rw [if_pos h, if_pos h, specKeyText_ok h (by omega), Option.bind_some]
  · rw [if_neg h, if_neg h]
end Go.Proofs.YteogadaloebdaaaDoor.Lem

/- Texts cut at a byte: the pieces, the specification's cutter, and the library's. -/
namespace Go.Proofs.YteogadaloebdaaaDoor.Lem
open Go Go.RowKit Go.Proofs.YteogadaloebdaaaDoor.P Go.Proofs.YteogadaloebdaaaDoorW.PrintWords Go.Proofs.YteogadaloebdaaaDoorW.PrintLast Go.Proofs.YteogadaloebdaaaDoorW.PrintMore

/-- The pieces of a text, 'cur' ahead of the first. -/
def splA (c : UInt8) : List UInt8 → List UInt8 → List (List UInt8)
  | cur, [] => [cur]
  | cur, a :: r => if a = c then cur :: splA c [] r else splA c (cur ++ [a]) r
theorem splA_free {c : UInt8} : ∀ (l cur : List UInt8), c ∉ l → splA c cur l = [cur ++ l]
  | [], cur, _ => by rw [splA, List.append_nil]
  | a :: r, cur, h => by
    rw [List.mem_cons, not_or] at h
    rw [splA, if_neg (fun e => h.1 e.symm), splA_free r _ h.2, List.append_assoc]
    rfl
theorem splA_hit {c : UInt8} (r : List UInt8) : ∀ (l cur : List UInt8), c ∉ l → splA c cur (l ++ c :: r) = (cur ++ l) :: splA c [] r
  | [], cur, _ => by rw [List.nil_append, splA, if_pos rfl, List.append_nil]
  | a :: l, cur, h => by
    rw [List.mem_cons, not_or] at h
    rw [List.cons_append, splA, if_neg (fun e => h.1 e.symm), splA_hit r l _ h.2, List.append_assoc]
    rfl
theorem splA_inv {c : UInt8} : ∀ (l cur : List UInt8) {x : List UInt8} {r : List (List UInt8)}, splA c cur l = x :: r →
    (r = [] ∧ x = cur ++ l ∧ c ∉ l) ∨ ∃ l1 l2, l = l1 ++ c :: l2 ∧ c ∉ l1 ∧ x = cur ++ l1 ∧ r = splA c [] l2
  | [], cur, x, r, h => by
    rw [splA] at h
    injection h with h1 h2
    exact Or.inl ⟨h2.symm, by rw [List.append_nil]; exact h1.symm, List.not_mem_nil⟩
  | a :: l, cur, x, r, h => by
    rw [splA] at h
    by_cases e : a = c
    · rw [if_pos e] at h
      injection h with h1 h2
      subst e
      exact Or.inr ⟨[], l, rfl, List.not_mem_nil, by rw [List.append_nil]; exact h1.symm, h2.symm⟩
    · rw [if_neg e] at h
      rcases splA_inv l _ h with ⟨h1, h2, h3⟩ | ⟨l1, l2, h1, h2, h3, h4⟩
      · exact Or.inl ⟨h1, by rw [h2, List.append_assoc]; rfl, by rw [List.mem_cons, not_or]; exact ⟨fun x => e x.symm, h3⟩⟩
      · exact Or.inr ⟨a :: l1, l2, by rw [h1]; rfl, by rw [List.mem_cons, not_or]; exact ⟨fun x => e x.symm, h2⟩, by rw [h3, List.append_assoc]; rfl, h4⟩
theorem splA_ne {c : UInt8} : ∀ (l cur : List UInt8), splA c cur l ≠ []
  | [], cur => by rw [splA]; exact List.cons_ne_nil _ _
  | a :: l, cur => by
    rw [splA]
    split
    · exact List.cons_ne_nil _ _
    · exact splA_ne l _
theorem splA_length {c : UInt8} : ∀ (l cur : List UInt8), (splA c cur l).length ≤ l.length + 1
  | [], cur => by rw [splA]; exact Nat.le_refl _
  | a :: l, cur => by
    rw [splA]
    split
    · have := splA_length (c := c) l []
      rw [List.length_cons, List.length_cons]
      omega
    · have := splA_length (c := c) l (cur ++ [a])
      rw [List.length_cons]
      omega
theorem splA_sizes {c : UInt8} : ∀ (l cur : List UInt8), ∀ p ∈ splA c cur l, p.length ≤ cur.length + l.length
  | [], cur, p, h => by
    rw [splA, List.mem_singleton] at h
    subst h
    exact Nat.le_refl _
  | a :: l, cur, p, h => by
    rw [splA] at h
    rw [List.length_cons]
    split at h
    · rcases List.mem_cons.1 h with rfl | h
      · omega
      · have := splA_sizes l [] p h
        rw [List.length_nil] at this
        omega
    · have := splA_sizes l _ p h
      rw [List.length_append, List.length_singleton] at this
      omega

/-- A text out of bytes. -/
def mkB (l : List UInt8) : ByteArray := ⟨l.toArray⟩
theorem mkB_list (l : List UInt8) : (mkB l).data.toList = l := rfl
theorem mkB_size (l : List UInt8) : (mkB l).size = l.length := List.size_toArray ..
theorem mkB_of (s : ByteArray) : mkB s.data.toList = s := Go.WideShapes.bytes_inj (mkB_list _)
theorem extract_list (s : ByteArray) (a b : Nat) : (s.extract a b).data.toList = (s.data.toList.drop a).take (b - a) := by
  rw [Go.Lib.extract_data]

theorem l12Split_l0 (s : ByteArray) (hs : s.size ≤ 1048576) (c : UInt8) : ∀ (d i at_ k : Nat) (acc : List ByteArray), i + d = s.size → at_ ≤ i → d + 2 < k → acc.length ≤ i →
    spec_l12Split.l0 k s (c.toNat : Int) acc (at_ : Int) (i : Int) = some (acc ++ (splA c ((s.data.toList.drop at_).take (i - at_)) (s.data.toList.drop i)).map mkB) := by
  intro d
  induction d with
  | zero =>
    intro i a k acc hi ha hk hl
    obtain ⟨k, rfl⟩ : ∃ q, k = q + 2 := ⟨k - 2, by omega⟩
    have hlen : s.data.toList.length = s.size := (Go.Lib.size_eq s).symm
    rw [spec_l12Split.l0, if_pos (by omega), if_pos (by omega), if_pos (by omega), if_pos (by omega), if_pos (by omega), show wrap64 ((i : Int) + 1) = ((i + 1 : Nat) : Int) from by rw [w64 (by omega) (by omega)]; omega]
    rw [spec_l12Split.l0, if_neg (by omega), List.drop_of_length_le (i := i) (by omega), splA, List.map_singleton]
    congr 3
    apply Go.WideShapes.bytes_inj
    rw [mkB_list, extract_list, Int.toNat_natCast, Int.toNat_natCast]
  | succ d ih =>
    intro i a k acc hi ha hk hl
    obtain ⟨k, rfl⟩ : ∃ q, k = q + 1 := ⟨k - 1, by omega⟩
    have hlen : s.data.toList.length = s.size := (Go.Lib.size_eq s).symm
    have hlt : i < s.data.toList.length := by omega
    rw [spec_l12Split.l0, if_pos (by omega), if_neg (by omega), if_pos (by omega), if_pos (by omega), bt_get (by omega), show wrap64 ((i : Int) + 1) = ((i + 1 : Nat) : Int) from by rw [w64 (by omega) (by omega)]; omega, drop_get hlt, splA]
    by_cases e : s.data.toList[i] = c
    · rw [if_pos (by rw [e]), if_pos (by omega), if_pos (by omega), if_pos (by omega), if_pos e]
      rw [ih (i + 1) (i + 1) k _ (by omega) (by omega) (by omega) (by rw [List.length_append, List.length_singleton]; omega)]
      rw [Nat.sub_self, List.take_zero, List.map_cons, List.append_assoc]
      congr 3
      rw [List.singleton_append]
      congr 1
      apply Go.WideShapes.bytes_inj
      rw [mkB_list, extract_list, Int.toNat_natCast, Int.toNat_natCast]
    · rw [if_neg (by
        intro h
        exact e (UInt8.toNat_inj.1 (by omega))), if_neg e]
      rw [ih (i + 1) a k _ (by omega) (by omega) (by omega) (by omega)]
      congr 4
      rw [show i + 1 - a = (i - a) + 1 by omega, List.take_succ_eq_append_getElem (by rw [List.length_drop]; omega), List.getElem_drop]
      congr 2
      simp only [show a + (i - a) = i by omega]
theorem l12Split_ok {s : ByteArray} (hs : s.size ≤ 1048576) (c : UInt8) {k : Nat} (hk : s.size + 2 < k) : spec_l12Split.f k s (c.toNat : Int) = some ((splA c [] s.data.toList).map mkB) :=
  l12Split_l0 s hs c s.size 0 0 k [] (by omega) (Nat.le_refl _) hk (Nat.zero_le _)

/-- The library's 'Cut' at one byte. -/
theorem occ1 (c : UInt8) (l : List UInt8) (i : Nat) : Go.Lib.occAt l [c] i = (l[i]? == some c) := by
  unfold Go.Lib.occAt
  cases h : l.drop i with
  | nil =>
    rw [List.getElem?_eq_none (List.drop_eq_nil_iff.1 h)]
    rfl
  | cons a r =>
    have : l[i]? = some a := by
      have := List.head?_drop (l := l) (i := i)
      rw [h] at this
      exact this.symm
    rw [this]
    simp only [List.isPrefixOf, Bool.and_true]
    exact Bool.beq_comm
theorem index_free {c : UInt8} {l : List UInt8} (h : c ∉ l) : Go.Lib.index l [c] = -1 := by
  refine Go.Lib.index_none fun j hj => ?_
  rw [occ1]
  cases e : l[j]? with
  | none => rfl
  | some a =>
    have hm : a ∈ l := List.mem_of_getElem? e
    have : a ≠ c := fun x => h (x ▸ hm)
    simpa using this
theorem index_hit {c : UInt8} {l r : List UInt8} (h : c ∉ l) : Go.Lib.index (l ++ c :: r) [c] = (l.length : Int) := by
  refine Go.Lib.index_first (by rw [List.length_append]; omega) ?_ fun j hj => ?_
  · rw [occ1, List.getElem?_append_right (Nat.le_refl _), Nat.sub_self]
    simp
  · rw [occ1, List.getElem?_append_left hj, List.getElem?_eq_getElem hj]
    have hm : l[j] ∈ l := List.getElem_mem hj
    have : l[j] ≠ c := fun x => h (x ▸ hm)
    simpa using this
theorem cut_free {c : UInt8} {l : List UInt8} (h : c ∉ l) : Go.Lib.cut l [c] = (l, [], false) := by
  unfold Go.Lib.cut
  rw [index_free h, if_neg (by decide)]
theorem cut_hit {c : UInt8} {l r : List UInt8} (h : c ∉ l) : Go.Lib.cut (l ++ c :: r) [c] = (l, r, true) := by
  unfold Go.Lib.cut
  rw [index_hit h, if_pos (by omega), Int.toNat_natCast, List.take_left, List.length_singleton]
  congr 2
  rw [← List.drop_drop, List.drop_left]
  rfl
theorem cut_sizes (c : UInt8) (l : List UInt8) : (Go.Lib.cut l [c]).1.length ≤ l.length ∧ (Go.Lib.cut l [c]).2.1.length ≤ l.length := by
  unfold Go.Lib.cut
  split
  · refine ⟨?_, ?_⟩
    · show (l.take _).length ≤ _
      rw [List.length_take]
      omega
    · show (l.drop _).length ≤ _
      rw [List.length_drop]
      omega
  · exact ⟨Nat.le_refl _, Nat.zero_le _⟩
theorem splitK_eq (c : UInt8) : ∀ (k : Nat) (l : List UInt8), (splA c [] l).length ≤ k + 1 → Go.Lib.splitK [c] 0 k l = splA c [] l
  | 0, l, h => by
    rw [Go.Lib.splitK]
    cases e : splA c [] l with
    | nil => exact absurd e (splA_ne _ _)
    | cons x r =>
      rcases splA_inv l [] e with ⟨h1, h2, h3⟩ | ⟨l1, l2, h1, h2, h3, h4⟩
      · rw [h1, h2]
        rfl
      · rw [e, h4, List.length_cons] at h
        have := List.length_pos_iff.2 (splA_ne (c := c) l2 [])
        omega
  | k + 1, l, h => by
    rw [Go.Lib.splitK]
    cases e : splA c [] l with
    | nil => exact absurd e (splA_ne _ _)
    | cons x r =>
      rcases splA_inv l [] e with ⟨h1, h2, h3⟩ | ⟨l1, l2, h1, h2, h3, h4⟩
      · rw [index_free h3, if_pos (beq_self_eq_true _), h1, h2]
        rfl
      · rw [e, h4, List.length_cons] at h
        have ih := splitK_eq c k l2 (by omega)
        rw [h1, index_hit h2, if_neg (by
          intro x
          have := beq_iff_eq.1 x
          omega), Int.toNat_natCast, Nat.add_zero, List.take_left, List.length_singleton, ← List.drop_drop, List.drop_left, List.drop_one, List.tail_cons, ih, h3, h4]
        rfl
end Go.Proofs.YteogadaloebdaaaDoor.Lem

/- Numbers read out of texts: the specification's reader, and the library's Atoi. -/
namespace Go.Proofs.YteogadaloebdaaaDoor.Lem
open Go Go.RowKit Go.Proofs.YteogadaloebdaaaDoor.P Go.Proofs.YteogadaloebdaaaDoorW.PrintWords Go.Proofs.YteogadaloebdaaaDoorW.PrintLast Go.Proofs.YteogadaloebdaaaDoorW.PrintMore

def dig (b : UInt8) : Bool := decide (48 ≤ b.toNat) && decide (b.toNat ≤ 57)
theorem dig_iff (b : UInt8) : dig b = true ↔ 48 ≤ b.toNat ∧ b.toNat ≤ 57 := by
  unfold dig
  generalize b.toNat = n
  constructor
  · intro h
    rw [Bool.and_eq_true] at h
    exact ⟨of_decide_eq_true h.1, of_decide_eq_true h.2⟩
  · intro h
    rw [decide_eq_true h.1, decide_eq_true h.2]
    rfl
def val (acc : Nat) (l : List UInt8) : Nat := l.foldl (fun a b => a * 10 + (b.toNat - 48)) acc
theorem val_nil (acc : Nat) : val acc [] = acc := by
  unfold val
  exact List.foldl_nil ..
theorem val_cons (acc : Nat) (b : UInt8) (l : List UInt8) : val acc (b :: l) = val (acc * 10 + (b.toNat - 48)) l := by
  unfold val
  exact List.foldl_cons ..
theorem val_snoc (acc : Nat) (l : List UInt8) (b : UInt8) : val acc (l ++ [b]) = val acc l * 10 + (b.toNat - 48) := by
  unfold val
  rw [List.foldl_append, List.foldl_cons, List.foldl_nil]
theorem val_ge : ∀ (l : List UInt8) (acc : Nat), acc ≤ val acc l
  | [], acc => by rw [val_nil]; exact Nat.le_refl _
  | b :: l, acc => by
    have := val_ge l (acc * 10 + (b.toNat - 48))
    rw [val_cons]
    omega
theorem byte_of {b : UInt8} {n : Nat} (h : 48 ≤ b.toNat ∧ b.toNat ≤ 57) (e : n = b.toNat - 48) : UInt8.ofNat (48 + n) = b := by
  apply UInt8.toNat_inj.1
  rw [UInt8.toNat_ofNat']
  omega
theorem of_byte {n : Nat} (h : n < 10) : (UInt8.ofNat (48 + n)).toNat = 48 + n := by
  rw [UInt8.toNat_ofNat']
  omega

/-- Digits without a zero ahead are the text of their number. -/
theorem dec_val : ∀ (n : Nat) (l : List UInt8), l.length = n + 1 → l.all dig = true → (n = 0 ∨ l.head? ≠ some 48) → Go.Lib.decDigits (val 0 l) = l ∧ (n = 0 ∨ 1 ≤ val 0 l) ∧ (l.head? ≠ some 48 → 1 ≤ val 0 l)
  | 0, l, hl, hd, _ => by
    obtain ⟨b, rfl⟩ : ∃ b, l = [b] := List.length_eq_one_iff.1 hl
    have hb : 48 ≤ b.toNat ∧ b.toNat ≤ 57 := (dig_iff b).1 (by simpa using hd)
    have hv : val 0 [b] = b.toNat - 48 := by rw [val_cons, val_nil]; omega
    refine ⟨?_, Or.inl rfl, fun h => ?_⟩
    · rw [hv, Go.Lib.decDigits_one (by omega), byte_of hb rfl]
    · rw [hv]
      have : b ≠ 48 := fun x => h (by rw [x]; rfl)
      have h2 : b.toNat ≠ 48 := fun x => this (UInt8.toNat_inj.1 x)
      omega
  | n + 1, l, hl, hd, hz => by
    obtain ⟨l', b, rfl⟩ : ∃ l' b, l = l' ++ [b] := by
      refine ⟨l.dropLast, l.getLast (fun x => by rw [x] at hl; cases hl), (List.dropLast_concat_getLast _).symm⟩
    rw [List.length_append, List.length_singleton] at hl
    rw [List.all_append, Bool.and_eq_true] at hd
    have hb : 48 ≤ b.toNat ∧ b.toNat ≤ 57 := (dig_iff b).1 (by simpa using hd.2)
    have hh : (l' ++ [b]).head? = l'.head? := by
      cases l' with
      | nil => cases hl
      | cons => rfl
    rw [hh] at hz ⊢
    have hz' : l'.head? ≠ some 48 := hz.resolve_left (by omega)
    obtain ⟨i1, _, i2⟩ := dec_val n l' (by omega) hd.1 (Or.inr hz')
    have i3 := i2 hz'
    rw [val_snoc]
    refine ⟨?_, Or.inr (by omega), fun _ => by omega⟩
    rw [Go.Lib.decDigits, dif_neg (by omega), show (val 0 l' * 10 + (b.toNat - 48)) / 10 = val 0 l' by omega, i1, byte_of hb (by omega)]

/-- The text of a number: digits, its value, no zero ahead, its length. -/
theorem dec_text : ∀ (m n : Nat), n < 10 ^ (m + 1) → (Go.Lib.decDigits n).all dig = true ∧ val 0 (Go.Lib.decDigits n) = n ∧ (Go.Lib.decDigits n).length ≤ m + 1 ∧ 1 ≤ (Go.Lib.decDigits n).length ∧ (1 ≤ n → (Go.Lib.decDigits n).head? ≠ some 48)
  | m, n, hn => by
    by_cases h10 : n < 10
    · rw [Go.Lib.decDigits_one h10]
      have hb := of_byte h10
      refine ⟨?_, ?_, by rw [List.length_singleton]; omega, Nat.le_refl _, fun h1 x => ?_⟩
      · rw [List.all_cons, List.all_nil, Bool.and_true, dig_iff, hb]
        omega
      · rw [val_cons, hb]
        rw [val_nil]
        omega
      · injection x with x
        rw [x] at hb
        have : (48 : UInt8).toNat = 48 := rfl
        omega
    · cases m with
      | zero => omega
      | succ m =>
        have hdiv : n / 10 < 10 ^ (m + 1) := by
          rw [Nat.div_lt_iff_lt_mul (by decide), ← Nat.pow_succ]
          exact hn
        obtain ⟨i1, i2, i3, i4, i5⟩ := dec_text m (n / 10) hdiv
        clear hn hdiv
        have hb := of_byte (n := n % 10) (by omega)
        rw [Go.Lib.decDigits, dif_neg h10]
        refine ⟨?_, ?_, by rw [List.length_append, List.length_singleton]; omega, by rw [List.length_append, List.length_singleton]; omega, fun _ => ?_⟩
        · rw [List.all_append, i1, Bool.true_and, List.all_cons, List.all_nil, Bool.and_true, dig_iff, hb]
          omega
        · rw [val_snoc, i2, hb]
          omega
        · have h5 := i5 (by omega)
          cases e : Go.Lib.decDigits (n / 10) with
          | nil => rw [e] at i4; exact absurd i4 (by decide)
          | cons x r => rw [e] at h5; exact h5

theorem parse_ok : ∀ (l : List UInt8) (acc : Nat), l.all dig = true → val acc l < 1844674407370955162 → Go.Lib.parseUint10 acc l = .ok (val acc l)
  | [], acc, _, _ => by rw [val_nil, Go.Lib.parseUint10]
  | b :: l, acc, hd, hv => by
    rw [List.all_cons, Bool.and_eq_true] at hd
    have hb := (dig_iff b).1 hd.1
    rw [val_cons] at hv ⊢
    have := val_ge l (acc * 10 + (b.toNat - 48))
    rw [Go.Lib.parseUint10, if_pos hb, if_neg (by omega), if_neg (by omega), parse_ok l _ hd.2 hv]
theorem atoi_itoa {n : Int} (h0 : 0 ≤ n) (h1 : n ≤ 1000000000) : Go.Lib.atoiAll (numT n).data.toList = .ok n := by
  obtain ⟨u, rfl⟩ : ∃ u : Nat, n = u := ⟨n.toNat, by omega⟩
  show Go.Lib.atoiAll (Go.Lib.itoa (u : Int)) = _
  rw [Go.Lib.itoa_nonneg]
  obtain ⟨i1, i2, i3, i4, i5⟩ := dec_text 9 u (by omega)
  cases e : Go.Lib.decDigits u with
  | nil => rw [e] at i4; exact absurd i4 (by decide)
  | cons c r =>
    have hc : 48 ≤ c.toNat ∧ c.toNat ≤ 57 := by
      rw [e, List.all_cons, Bool.and_eq_true] at i1
      exact (dig_iff c).1 i1.1
    rw [Go.Lib.atoiAll_plain c r (by omega) (by omega), ← e]
    unfold Go.Lib.parseMag
    rw [if_neg (by rw [e]; exact List.cons_ne_nil _ _), parse_ok _ 0 i1 (by rw [i2]; omega), i2]
    unfold Go.Lib.signless
    dsimp only
    rw [if_neg (by omega)]

theorem l12Number_l0 (s : ByteArray) (hs : s.size ≤ 10) : ∀ (d i k acc : Nat), i + d = s.size → d < k → acc < 10 ^ i →
    spec_l12Number.l0 k s (acc : Int) (i : Int) = some (if (s.data.toList.drop i).all dig = true then (val acc (s.data.toList.drop i) : Int) else -1) := by
  intro d
  induction d with
  | zero =>
    intro i k acc hi hk ha
    obtain ⟨k, rfl⟩ : ∃ q, k = q + 1 := ⟨k - 1, by omega⟩
    clear ha
    have hlen : s.data.toList.length = s.size := (Go.Lib.size_eq s).symm
    rw [spec_l12Number.l0, if_neg (by omega), List.drop_of_length_le (by omega), if_pos (by rfl), val_nil]
  | succ d ih =>
    intro i k acc hi hk ha
    obtain ⟨k, rfl⟩ : ∃ q, k = q + 1 := ⟨k - 1, by omega⟩
    have hlen : s.data.toList.length = s.size := (Go.Lib.size_eq s).symm
    have hlt : i < s.data.toList.length := by omega
    have hbig : acc < 10000000000 := by
      have : (10 : Nat) ^ i ≤ 10 ^ 10 := Nat.pow_le_pow_right (by decide) (by omega)
      have e10 : (10 : Nat) ^ 10 = 10000000000 := by decide
      rw [e10] at this
      exact Nat.lt_of_lt_of_le ha this
    have hnext : ∀ x, x < 10 → acc * 10 + x < 10 ^ (i + 1) := by
      intro x hx
      rw [Nat.pow_succ]
      generalize 10 ^ i = p at ha
      omega
    clear ha
    have hb256 : (s.data.toList[i]).toNat < 256 := UInt8.toNat_lt _
    rw [spec_l12Number.l0, if_pos (by omega), if_pos (by omega), bt_get (by omega), drop_get hlt, List.all_cons]
    by_cases h1 : (s.data.toList[i]).toNat < 48
    · rw [if_pos (by omega), show dig s.data.toList[i] = false from by rw [Bool.eq_false_iff, Ne, dig_iff]; omega, Bool.false_and, if_neg (by decide)]
    · rw [if_neg (by omega)]
      by_cases h2 : 57 < (s.data.toList[i]).toNat
      · rw [if_pos (by omega), show dig s.data.toList[i] = false from by rw [Bool.eq_false_iff, Ne, dig_iff]; omega, Bool.false_and, if_neg (by decide)]
      · rw [if_neg (by omega), show dig s.data.toList[i] = true from (dig_iff _).2 (by omega), Bool.true_and, val_cons]
        have ih' := ih (i + 1) k (acc * 10 + ((s.data.toList[i]).toNat - 48)) (by omega) (by omega) (hnext _ (by omega))
        rw [w64 (x := 10 * (acc : Int)) (by omega) (by omega), w64 (by omega) (by omega), show wrap64 ((i : Int) + 1) = ((i + 1 : Nat) : Int) from by rw [w64 (by omega) (by omega)]; omega,
          show 10 * (acc : Int) + (((s.data.toList[i]).toNat : Int) - 48) % 256 = ((acc * 10 + ((s.data.toList[i]).toNat - 48) : Nat) : Int) by omega]
        exact ih'
/-- What the specification's reader answers: the number whose text it is, else -1. -/
theorem l12Number_ok (s : ByteArray) {k : Nat} (hk : 13 < k) : ∃ n : Int, spec_l12Number.f k s = some n ∧ (n = -1 ∨ (0 ≤ n ∧ s = numT n)) := by
  obtain ⟨k, rfl⟩ : ∃ q, k = q + 1 := ⟨k - 1, by omega⟩
  unfold spec_l12Number.f
  rw [l1InB_ok, Option.bind_some]
  by_cases hsz : 1 ≤ s.size ∧ s.size ≤ 10
  · rw [if_pos (by rw [decide_eq_true (by omega), decide_eq_true (by omega)]; rfl), if_pos (by omega)]
    have hlen : s.data.toList.length = s.size := (Go.Lib.size_eq s).symm
    have hl := l12Number_l0 s hsz.2 s.size 0 k 0 (by omega) (by omega) (by decide)
    rw [List.drop_zero] at hl
    have hgood : (s.size = 1 ∨ s.data.toList.head? ≠ some 48) → ∃ n : Int, spec_l12Number.j0 (k + 1) s false = some n ∧ (n = -1 ∨ (0 ≤ n ∧ s = numT n)) := by
      intro hz
      rw [spec_l12Number.j0, if_neg (by decide)]
      refine ⟨_, hl, ?_⟩
      by_cases hd : s.data.toList.all dig = true
      · rw [if_pos hd]
        refine Or.inr ⟨by omega, ?_⟩
        apply Go.WideShapes.bytes_inj
        show s.data.toList = Go.Lib.itoa (val 0 s.data.toList : Int)
        rw [Go.Lib.itoa_nonneg]
        exact (dec_val (s.size - 1) s.data.toList (by omega) hd (by
          rcases hz with h | h
          · exact Or.inl (by omega)
          · exact Or.inr h)).1.symm
      · rw [if_neg hd]
        exact Or.inl rfl
    have hhead : s.data.toList.head? = some (s.data.toList[0]'(by omega)) := by rw [List.head?_eq_getElem?, List.getElem?_eq_getElem]
    have hbt := bt_get (s := s) (i := 0) (by omega)
    rw [show ((0 : Nat) : Int) = 0 from rfl] at hbt
    rw [hbt]
    by_cases h48 : (s.data.toList[0]'(by omega)).toNat = 48
    · rw [if_pos (by omega)]
      by_cases h1 : s.size = 1
      · rw [show (decide ((s.size : Int) > 1)) = false from decide_eq_false (by omega)]
        exact hgood (Or.inl h1)
      · rw [show (decide ((s.size : Int) > 1)) = true from decide_eq_true (by omega), spec_l12Number.j0, if_pos rfl]
        exact ⟨-1, rfl, Or.inl rfl⟩
    · rw [if_neg (by omega)]
      refine hgood (Or.inr ?_)
      rw [hhead]
      intro x
      injection x with x
      exact h48 (by rw [x]; rfl)
  · rw [if_neg (by
      rw [Bool.and_eq_true, decide_eq_true_iff, decide_eq_true_iff]
      omega), spec_l12Number.j0, if_pos rfl]
    exact ⟨-1, rfl, Or.inl rfl⟩
theorem l12Number_num {n : Int} (h0 : 0 ≤ n) (h1 : n ≤ 1000000000) {k : Nat} (hk : 13 < k) : spec_l12Number.f k (numT n) = some n := by
  obtain ⟨u, rfl⟩ : ∃ u : Nat, n = u := ⟨n.toNat, by omega⟩
  obtain ⟨k, rfl⟩ : ∃ q, k = q + 1 := ⟨k - 1, by omega⟩
  obtain ⟨i1, i2, i3, i4, i5⟩ := dec_text 9 u (by omega)
  have el : (numT (u : Int)).data.toList = Go.Lib.decDigits u := by
    show Go.Lib.itoa (u : Int) = _
    rw [Go.Lib.itoa_nonneg]
  have hlen : (numT (u : Int)).size = (Go.Lib.decDigits u).length := by rw [Go.Lib.size_eq, el]
  generalize numT (u : Int) = s at el hlen ⊢
  have hl := l12Number_l0 s (by omega) s.size 0 k 0 (by omega) (by omega) (by decide)
  rw [List.drop_zero, el, if_pos i1, i2] at hl
  unfold spec_l12Number.f
  rw [l1InB_ok, Option.bind_some, if_pos (by rw [decide_eq_true (by omega), decide_eq_true (by omega)]; rfl), if_pos (by omega)]
  have hj : spec_l12Number.j0 (k + 1) s false = some (u : Int) := by
    rw [spec_l12Number.j0, if_neg (by decide)]
    exact hl
  by_cases h48 : bt s 0 = 48
  · rw [if_pos h48]
    have hu : u = 0 := by
      rcases Nat.eq_zero_or_pos u with h | h
      · exact h
      · exfalso
        have hbt := bt_get (s := s) (i := 0) (by omega)
        rw [show ((0 : Nat) : Int) = 0 from rfl, h48] at hbt
        refine i5 h ?_
        rw [← el, List.head?_eq_getElem?, List.getElem?_eq_getElem (by rw [← Go.Lib.size_eq]; omega)]
        congr 1
        apply UInt8.toNat_inj.1
        show _ = 48
        omega
    subst hu
    rw [show (decide ((s.size : Int) > 1)) = false from decide_eq_false (by rw [hlen, Go.Lib.decDigits_one (by decide)]; decide)]
    exact hj
  · rw [if_neg h48]
    exact hj
end Go.Proofs.YteogadaloebdaaaDoor.Lem

/- Keys read out of texts: the program's reader and the specification's answer the key whose text it is. -/
namespace Go.Proofs.YteogadaloebdaaaDoor.Lem
open Go Go.RowKit Go.Proofs.YteogadaloebdaaaDoor.P Go.Proofs.YteogadaloebdaaaDoorW.PrintWords Go.Proofs.YteogadaloebdaaaDoorW.PrintLast Go.Proofs.YteogadaloebdaaaDoorW.PrintMore

def tagL (t : Tg) : List UInt8 := t.f0.data.toList ++ 61 :: t.f1.data.toList
def tailL : List Tg → List UInt8
  | [] => []
  | t :: r => 44 :: (tagL t ++ tailL r)
theorem append_list (a b : ByteArray) : (a ++ b).data.toList = a.data.toList ++ b.data.toList := by
  rw [ByteArray.data_append, Array.toList_append]
theorem tagT_list (t : Tg) : (tagT t).data.toList = 44 :: tagL t := by
  unfold tagT tagL
  rw [append_list, append_list, append_list, List.append_assoc]
  rfl
theorem keyT_list : ∀ (l : List Tg) (m : ByteArray), (keyT m l).data.toList = m.data.toList ++ tailL l
  | [], m => by rw [keyT, tailL, List.append_nil]
  | t :: r, m => by
    rw [keyT, keyT_list r, append_list, tagT_list, tailL, List.append_assoc]
    rfl
theorem textOf_list (m : ByteArray) (l : List Tg) (st : Int) : (textOf m l st).data.toList = (m.data.toList ++ tailL l) ++ 64 :: (numT st).data.toList := by
  unfold textOf
  rw [append_list, append_list, keyT_list, List.append_assoc]
  rfl
theorem letter_not {l : List UInt8} (h : l.all letter = true) : (44 : UInt8) ∉ l ∧ (61 : UInt8) ∉ l ∧ (64 : UInt8) ∉ l := by
  rw [List.all_eq_true] at h
  exact ⟨fun x => absurd (h 44 x) (by decide), fun x => absurd (h 61 x) (by decide), fun x => absurd (h 64 x) (by decide)⟩
theorem tagL_not {t : Tg} (h : nameB t.f0 = true ∧ nameB t.f1 = true) : (44 : UInt8) ∉ tagL t ∧ (64 : UInt8) ∉ tagL t := by
  have h0 := letter_not (nameB_letters h.1)
  have h1 := letter_not (nameB_letters h.2)
  unfold tagL
  constructor
  · intro x
    rcases List.mem_append.1 x with x | x
    · exact h0.1 x
    · rcases List.mem_cons.1 x with x | x
      · cases x
      · exact h1.1 x
  · intro x
    rcases List.mem_append.1 x with x | x
    · exact h0.2.2 x
    · rcases List.mem_cons.1 x with x | x
      · cases x
      · exact h1.2.2 x
theorem tailL_not : ∀ {l : List Tg}, (∀ t ∈ l, nameB t.f0 = true ∧ nameB t.f1 = true) → (64 : UInt8) ∉ tailL l
  | [], _ => List.not_mem_nil
  | t :: r, h => by
    intro x
    rw [tailL] at x
    rcases List.mem_cons.1 x with x | x
    · cases x
    · rcases List.mem_append.1 x with x | x
      · exact (tagL_not (h t List.mem_cons_self)).2 x
      · exact tailL_not (fun t ht => h t (List.mem_cons_of_mem _ ht)) x
theorem splA_tail : ∀ (l : List Tg) (m : List UInt8), (44 : UInt8) ∉ m → (∀ t ∈ l, nameB t.f0 = true ∧ nameB t.f1 = true) → splA 44 [] (m ++ tailL l) = m :: l.map tagL
  | [], m, hm, _ => by rw [tailL, List.append_nil, splA_free _ _ hm]; rfl
  | t :: r, m, hm, h => by
    rw [tailL, splA_hit _ _ _ hm, splA_tail r _ (tagL_not (h t List.mem_cons_self)).1 (fun t ht => h t (List.mem_cons_of_mem _ ht))]
    rfl
def tagsOf : List (List UInt8) → Option (List Tg)
  | [] => some []
  | w :: r => match splA 61 [] w with
    | [n, v] => (tagsOf r).map (fun l => (⟨mkB n, mkB v⟩ : Tg) :: l)
    | _ => none
theorem splA_tag {t : Tg} (h : nameB t.f0 = true ∧ nameB t.f1 = true) : splA 61 [] (tagL t) = [t.f0.data.toList, t.f1.data.toList] := by
  unfold tagL
  rw [splA_hit _ _ _ (letter_not (nameB_letters h.1)).2.1, splA_free _ _ (letter_not (nameB_letters h.2)).2.1]
  rfl
theorem tagsOf_map : ∀ (l : List Tg), (∀ t ∈ l, nameB t.f0 = true ∧ nameB t.f1 = true) → tagsOf (l.map tagL) = some l
  | [], _ => rfl
  | t :: r, h => by
    rw [List.map_cons, tagsOf, splA_tag (h t List.mem_cons_self)]
    dsimp only
    rw [tagsOf_map r (fun t ht => h t (List.mem_cons_of_mem _ ht)), mkB_of, mkB_of]
    rfl
theorem two_of {c : UInt8} {s p q : List UInt8} (h : splA c [] s = [p, q]) : s = p ++ c :: q ∧ c ∉ p := by
  rcases splA_inv s [] h with ⟨h1, _, _⟩ | ⟨l1, l2, h1, h2, h3, h4⟩
  · cases h1
  · rcases splA_inv l2 [] h4.symm with ⟨_, h5, _⟩ | ⟨_, _, _, _, _, h6⟩
    · rw [h3, h5]
      exact ⟨h1, h2⟩
    · exact absurd h6.symm (splA_ne _ _)
theorem tagsOf_inv : ∀ (ps : List (List UInt8)) {p x : List UInt8} {l : List Tg}, splA 44 [] p = x :: ps → tagsOf ps = some l → p = x ++ tailL l
  | [], p, x, l, h, ht => by
    rw [tagsOf] at ht
    injection ht with ht
    subst ht
    rcases splA_inv p [] h with ⟨_, h2, _⟩ | ⟨_, _, _, _, _, h4⟩
    · rw [h2, tailL, List.append_nil]
      rfl
    · exact absurd h4.symm (splA_ne _ _)
  | w :: ps, p, x, l, h, ht => by
    rcases splA_inv p [] h with ⟨h1, _, _⟩ | ⟨l1, l2, h1, h2, h3, h4⟩
    · cases h1
    · rw [tagsOf] at ht
      split at ht
      · rename_i n v e
        rw [Option.map_eq_some_iff] at ht
        obtain ⟨l', e', rfl⟩ := ht
        have ih := tagsOf_inv ps h4.symm e'
        have ew := (two_of e).1
        rw [h1, h3, ih, ew, tailL]
        rfl
      · cases ht

abbrev KR := ByteArray × List Tg × Int × Bool
def fail0 : KR := ((⟨#[]⟩ : ByteArray), ([] : List Tg), 0, false)
def finS (m : ByteArray) (l : List Tg) (st : Int) : KR := if keyB m l st = true then (m, l, st, true) else fail0
def endS (x : ByteArray) (acc : List Tg) (n : Int) : Option (List Tg) → KR
  | none => fail0
  | some l => finS x (acc ++ l) n
theorem rdB_get {l : List ByteArray} {i : Nat} (h : i < l.length) : rdOf ByteArray.empty l (i : Int) = l[i] := by
  show l.getD (i : Int).toNat _ = _
  rw [Int.toNat_natCast, List.getD_eq_getElem?_getD, List.getElem?_eq_getElem h]
  rfl
theorem specRead_l0 (B : Nat) (hB : B ≤ 1048576) (ps : List (List UInt8)) (hp : ps.length ≤ 1048577) (hs : ∀ p ∈ ps, p.length ≤ B) (m : ByteArray) (st : Int) : ∀ (d i k : Nat) (acc : List Tg), i + d = ps.length → 1 ≤ i → d + B + 30 < k → acc.length ≤ i →
    spec_l12ReadKey.l0 k (ps.map mkB) (ps.length : Int) (i : Int) m acc st = some (endS m acc st (tagsOf (ps.drop i))) := by
  intro d
  induction d with
  | zero =>
    intro i k acc hi h1 hk ha
    obtain ⟨k, rfl⟩ : ∃ q, k = q + 1 := ⟨k - 1, by omega⟩
    rw [spec_l12ReadKey.l0, if_neg (by omega), specKey_ok m acc st (by omega), Option.bind_some, List.drop_of_length_le (by omega), tagsOf, endS, List.append_nil, finS]
    cases keyB m acc st with
    | false => rw [if_neg (by decide), if_neg (by decide)]; rfl
    | true => rw [if_pos rfl, if_pos rfl]
  | succ d ih =>
    intro i k acc hi h1 hk ha
    obtain ⟨k, rfl⟩ : ∃ q, k = q + 1 := ⟨k - 1, by omega⟩
    have hlt : i < ps.length := by omega
    have hlt' : i < (ps.map mkB).length := by rw [List.length_map]; exact hlt
    have hsz := hs _ (List.getElem_mem hlt)
    have hsp := l12Split_ok (s := mkB ps[i]) (by rw [mkB_size]; omega) 61 (k := k) (by rw [mkB_size]; omega)
    rw [show (((61 : UInt8).toNat : Nat) : Int) = 61 from rfl, mkB_list] at hsp
    rw [spec_l12ReadKey.l0, if_pos (by omega), if_pos (by omega), if_pos (by rw [List.length_map]; omega), if_neg (by omega), rdB_get hlt', List.getElem_map, hsp, Option.bind_some, List.length_map, drop_get hlt, tagsOf]
    split
    · rename_i h2
      obtain ⟨n, v, e⟩ : ∃ n v, splA 61 [] ps[i] = [n, v] := by
        generalize splA 61 [] ps[i] = q at h2 ⊢
        match q, h2 with
        | [n, v], _ => exact ⟨n, v, rfl⟩
        | [], h => simp at h
        | [_], h => simp at h
        | _ :: _ :: _ :: r, h => simp at h; omega
      rw [e]
      dsimp only
      rw [if_pos (by show (0 : Int) < ((2 : Nat) : Int); decide), if_pos (by show (1 : Int) < ((2 : Nat) : Int); decide), if_pos (by omega), show wrap64 ((i : Int) + 1) = ((i + 1 : Nat) : Int) from by rw [w64 (by omega) (by omega)]; omega]
      rw [show rdOf ByteArray.empty ([n, v].map mkB) 0 = mkB n from rfl, show rdOf ByteArray.empty ([n, v].map mkB) 1 = mkB v from rfl]
      rw [ih (i + 1) k _ (by omega) (by omega) (by omega) (by rw [List.length_append, List.length_singleton]; omega)]
      cases tagsOf (List.drop (i + 1) ps) with
      | none => rfl
      | some l =>
        rw [Option.map_some, endS, endS, List.append_assoc]
        rfl
    · rename_i h2
      generalize splA 61 [] ps[i] = q at h2
      match q, h2 with
      | [n, v], h => exact absurd rfl h
      | [], _ => rfl
      | [_], _ => rfl
      | _ :: _ :: _ :: _, _ => rfl
theorem specRead_eval {s : ByteArray} (hs : s.size ≤ 1048576) {p q x : List UInt8} {ps : List (List UInt8)} {n : Int} {k : Nat} (hk : 2 * s.size + 50 < k) (h2 : splA 64 [] s.data.toList = [p, q]) (hn : spec_l12Number.f k (mkB q) = some n) (hx : splA 44 [] p = x :: ps) :
    spec_ReadKeyText.f k s = some (endS (mkB x) [] n (tagsOf ps)) := by
  obtain ⟨k, rfl⟩ : ∃ q, k = q + 1 := ⟨k - 1, by omega⟩
  have hlen : s.data.toList.length = s.size := (Go.Lib.size_eq s).symm
  have hsp := l12Split_ok (s := s) hs 64 (k := k + 1) (by omega)
  rw [show (((64 : UInt8).toNat : Nat) : Int) = 64 from rfl, h2] at hsp
  have hpl : p.length ≤ s.size := by
    have := splA_sizes (c := 64) s.data.toList [] p (by rw [h2]; exact List.mem_cons_self)
    rw [List.length_nil] at this
    omega
  have hsp2 := l12Split_ok (s := mkB p) (by rw [mkB_size]; omega) 44 (k := k + 1) (by rw [mkB_size]; omega)
  rw [show (((44 : UInt8).toNat : Nat) : Int) = 44 from rfl, mkB_list, hx] at hsp2
  have hxl := splA_length (c := 44) p []
  rw [hx] at hxl
  have hxs : ∀ w ∈ x :: ps, w.length ≤ s.size := by
    intro w hw
    have := splA_sizes (c := 44) p [] w (by rw [hx]; exact hw)
    rw [List.length_nil] at this
    omega
  unfold spec_ReadKeyText.f spec_l12ReadKey.f
  rw [hsp, Option.bind_some, if_pos (by rfl), if_pos (by show (1 : Int) < ((2 : Nat) : Int); decide), show rdOf ByteArray.empty ([p, q].map mkB) 1 = mkB q from rfl, hn, Option.bind_some, if_pos (by show (0 : Int) < ((2 : Nat) : Int); decide), show rdOf ByteArray.empty ([p, q].map mkB) 0 = mkB p from rfl, hsp2, Option.bind_some]
  rw [List.length_cons] at hxl
  have hl := specRead_l0 s.size hs (x :: ps) (by rw [List.length_cons]; omega) hxs (mkB x) n ps.length 1 k [] (by rw [List.length_cons]; omega) (Nat.le_refl _) (by omega) (Nat.zero_le _)
  rw [List.drop_one, List.tail_cons] at hl
  rw [spec_l12ReadKey.l0, if_pos (by rw [List.length_map, List.length_cons]; omega), if_pos (by decide), if_pos (by rw [List.length_map, List.length_cons]; omega), if_pos rfl, show wrap64 ((0 : Int) + 1) = ((1 : Nat) : Int) from by rw [w64 (by decide) (by decide)]; rfl, show rdOf ByteArray.empty ((x :: ps).map mkB) 0 = mkB x from rfl, List.length_map, hl, Option.bind_some]
theorem specRead_fail {s : ByteArray} (hs : s.size ≤ 1048576) {k : Nat} (hk : s.size + 50 < k) (h2 : (splA 64 [] s.data.toList).length ≠ 2) : spec_ReadKeyText.f k s = some fail0 := by
  have hsp := l12Split_ok (s := s) hs 64 (k := k) (by omega)
  rw [show (((64 : UInt8).toNat : Nat) : Int) = 64 from rfl] at hsp
  unfold spec_ReadKeyText.f spec_l12ReadKey.f
  rw [hsp, Option.bind_some, if_neg (by rw [List.length_map]; omega)]
  rfl
/-- What a reader may answer at a text. -/
def Reads (s : ByteArray) (r : KR) : Prop := r = fail0 ∨ ∃ m l st, r = (m, l, st, true) ∧ keyB m l st = true ∧ textOf m l st = s
theorem specRead_total {s : ByteArray} (hs : s.size ≤ 1048576) {k : Nat} (hk : 2 * s.size + 50 < k) : ∃ r, spec_ReadKeyText.f k s = some r ∧ Reads s r := by
  by_cases h2 : (splA 64 [] s.data.toList).length = 2
  · obtain ⟨p, q, e⟩ : ∃ p q, splA 64 [] s.data.toList = [p, q] := by
      generalize splA 64 [] s.data.toList = w at h2 ⊢
      match w, h2 with
      | [n, v], _ => exact ⟨n, v, rfl⟩
    obtain ⟨n, hn, hn2⟩ := l12Number_ok (mkB q) (k := k) (by omega)
    cases ex : splA 44 [] p with
    | nil => exact absurd ex (splA_ne _ _)
    | cons x ps =>
      refine ⟨_, specRead_eval hs hk e hn ex, ?_⟩
      cases et : tagsOf ps with
      | none => exact Or.inl rfl
      | some l =>
        rw [endS, List.nil_append, finS]
        by_cases hkb : keyB (mkB x) l n = true
        · rw [if_pos hkb]
          refine Or.inr ⟨_, _, _, rfl, hkb, ?_⟩
          have hp := keyB_parts hkb
          have hq : mkB q = numT n := by
            rcases hn2 with h | h
            · omega
            · exact h.2
          apply Go.WideShapes.bytes_inj
          rw [textOf_list, mkB_list, ← hq, mkB_list, ← tagsOf_inv ps ex et]
          exact (two_of e).1.symm
        · rw [if_neg hkb]
          exact Or.inl rfl
  · exact ⟨_, specRead_fail hs (by omega) h2, Or.inl rfl⟩
theorem text_cut {m : ByteArray} {l : List Tg} {st : Int} (h : keyB m l st = true) : (64 : UInt8) ∉ m.data.toList ++ tailL l ∧ (64 : UInt8) ∉ (numT st).data.toList := by
  obtain ⟨h1, h2, h3, h4, h5⟩ := keyB_parts h
  refine ⟨fun x => ?_, fun x => ?_⟩
  · rcases List.mem_append.1 x with x | x
    · exact (letter_not (nameB_letters h1)).2.2 x
    · exact tailL_not (tagsB_names h5) x
  · obtain ⟨u, rfl⟩ : ∃ u : Nat, st = u := ⟨st.toNat, by omega⟩
    have hd := (dec_text 9 u (by omega)).1
    have el : (numT (u : Int)).data.toList = Go.Lib.decDigits u := by
      show Go.Lib.itoa (u : Int) = _
      rw [Go.Lib.itoa_nonneg]
    rw [el] at x
    rw [List.all_eq_true] at hd
    exact absurd (hd 64 x) (by decide)
theorem specRead_hit {m : ByteArray} {l : List Tg} {st : Int} (h : keyB m l st = true) (hs : (textOf m l st).size ≤ 1048576) {k : Nat} (hk : 2 * (textOf m l st).size + 50 < k) : spec_ReadKeyText.f k (textOf m l st) = some (m, l, st, true) := by
  obtain ⟨h1, h2, h3, h4, h5⟩ := keyB_parts h
  obtain ⟨c1, c2⟩ := text_cut h
  have e2 : splA 64 [] (textOf m l st).data.toList = [m.data.toList ++ tailL l, (numT st).data.toList] := by
    rw [textOf_list, splA_hit _ _ _ c1, splA_free _ _ c2]
    rfl
  rw [specRead_eval hs hk e2 (by rw [mkB_of]; exact l12Number_num h3 h4 (by omega)) (splA_tail l _ (letter_not (nameB_letters h1)).1 (tagsB_names h5)), tagsOf_map l (tagsB_names h5), mkB_of, endS, List.nil_append, finS, if_pos h]
end Go.Proofs.YteogadaloebdaaaDoor.Lem

/- Keys read out of texts: the program's reader. -/
namespace Go.Proofs.YteogadaloebdaaaDoor.Lem
open Go Go.RowKit Go.Proofs.YteogadaloebdaaaDoor.P Go.Proofs.YteogadaloebdaaaDoorW.PrintWords Go.Proofs.YteogadaloebdaaaDoorW.PrintLast Go.Proofs.YteogadaloebdaaaDoorW.PrintMore

def cutT (w : ByteArray) : Tg := ⟨mkB (Go.Lib.cut w.data.toList [61]).1, mkB (Go.Lib.cut w.data.toList [61]).2.1⟩
def finI (s m : ByteArray) (l : List Tg) (st : Int) : KR := if keyB m l st = true then (if textOf m l st = s then (m, l, st, true) else fail0) else fail0
theorem toList_iff (a b : ByteArray) : a.toList = b.toList ↔ a = b :=
  ⟨fun h => Go.WideShapes.bytes_inj (by rw [← ByteArray.toList_eq, ← ByteArray.toList_eq]; exact h), fun h => by rw [h]⟩
theorem implRead_l0 (s : ByteArray) (P : List ByteArray) (hp : P.length ≤ 100) (hs : ∀ p ∈ P, p.size < 4294967281) (m : ByteArray) (st : Int) : ∀ (d i k : Nat) (acc : List Tg), i + d = P.length → d + 30 < k → acc.length ≤ i →
    impl_ReadKeyText.l0 k s P (P.length : Int) (i : Int) m acc st = some (finI s m (acc ++ (P.drop i).map cutT) st) := by
  intro d
  induction d with
  | zero =>
    intro i k acc hi hk ha
    obtain ⟨k, rfl⟩ : ∃ q, k = q + 1 := ⟨k - 1, by omega⟩
    rw [impl_ReadKeyText.l0, if_neg (by omega), implKey_ok m acc st (by omega), Option.bind_some, List.drop_of_length_le (by omega), List.map_nil, List.append_nil, finI]
    by_cases hk : keyB m acc st = true
    · rw [if_pos hk, if_pos hk, implKeyText_ok hk (by omega), Option.bind_some]
      by_cases ht : textOf m acc st = s
      · rw [if_pos ((toList_iff _ _).2 ht), if_pos ht]
      · rw [if_neg (fun x => ht ((toList_iff _ _).1 x)), if_neg ht]
        rfl
    · rw [if_neg hk, if_neg hk]
      rfl
  | succ d ih =>
    intro i k acc hi hk ha
    obtain ⟨k, rfl⟩ : ∃ q, k = q + 1 := ⟨k - 1, by omega⟩
    have hlt : i < P.length := by omega
    have hsz := hs _ (List.getElem_mem hlt)
    rw [impl_ReadKeyText.l0, if_pos (by omega), if_pos (by omega), if_pos (by omega), rdB_get hlt, strings_Cut.f, if_pos hsz, Option.bind_some, if_pos (by omega), show wrap64 ((i : Int) + 1) = ((i + 1 : Nat) : Int) from by rw [w64 (by omega) (by omega)]; omega]
    rw [ih (i + 1) k _ (by omega) (by omega) (by rw [List.length_append, List.length_singleton]; omega), drop_get hlt, List.map_cons, List.append_assoc]
    rfl
theorem splitK_sizes (c : UInt8) : ∀ (k : Nat) (l : List UInt8), ∀ p ∈ Go.Lib.splitK [c] 0 k l, p.length ≤ l.length
  | 0, l, p, h => by
    rw [Go.Lib.splitK, List.mem_singleton] at h
    rw [h]
    exact Nat.le_refl _
  | k + 1, l, p, h => by
    rw [Go.Lib.splitK] at h
    split at h
    · rw [List.mem_singleton] at h
      rw [h]
      exact Nat.le_refl _
    · rcases List.mem_cons.1 h with h | h
      · rw [h, List.length_take]
        omega
      · have := splitK_sizes c k _ p h
        rw [List.length_drop] at this
        omega
theorem splitB_pos (sep : ByteArray) (s : ByteArray) : ∀ (k : Nat), 0 < (Go.Lib.splitB sep 0 k s).length
  | 0 => by rw [Go.Lib.splitB_zero]; exact Nat.one_pos
  | k + 1 => by
    rw [Go.Lib.splitB]
    split
    · exact Nat.one_pos
    · rw [List.length_cons]
      omega
theorem implRead_fail {s : ByteArray} (hs : s.size ≤ 1048576) {k : Nat} (h : ∀ v, Go.Lib.atoiAll (Go.Lib.cut s.data.toList [64]).2.1 ≠ .ok v) : impl_ReadKeyText.f k s = some fail0 := by
  have hlen : s.data.toList.length = s.size := (Go.Lib.size_eq s).symm
  have hc := (cut_sizes 64 s.data.toList).2
  unfold impl_ReadKeyText.f
  rw [strings_Cut.f, if_pos (by omega), Option.bind_some, strconv_Atoi_50.f, if_pos (by
    show (mkB (Go.Lib.cut s.data.toList [64]).2.1).size ≤ _
    rw [mkB_size]
    omega), Option.bind_some]
  show (if (match Go.Lib.atoiAll (Go.Lib.cut s.data.toList [64]).2.1 with | .ok v => (v, none) | .range => (Go.Lib.atoiSat (Go.Lib.cut s.data.toList [64]).2.1, some 0) | _ => (0, some 0) : Int × Option Int).2.isNone = true then _ else _) = _
  cases e : Go.Lib.atoiAll (Go.Lib.cut s.data.toList [64]).2.1 with
  | ok v => exact absurd e (h v)
  | range => rfl
  | _ => rfl
theorem implRead_eval {s : ByteArray} (hs : s.size ≤ 1048576) {k : Nat} (hk : 100 < k) {n : Int} (h : Go.Lib.atoiAll (Go.Lib.cut s.data.toList [64]).2.1 = .ok n) {x : ByteArray} {ps : List ByteArray}
    (hx : Go.Lib.splitB ⟨#[44]⟩ 0 (min 6 ((mkB (Go.Lib.cut s.data.toList [64]).1).size + 1) - 1) (mkB (Go.Lib.cut s.data.toList [64]).1) = x :: ps) :
    impl_ReadKeyText.f k s = some (finI s x (ps.map cutT) n) := by
  have hlen : s.data.toList.length = s.size := (Go.Lib.size_eq s).symm
  have hc := cut_sizes 64 s.data.toList
  have hl := Go.Lib.splitB_length_le ⟨#[44]⟩ 0 (min 6 ((mkB (Go.Lib.cut s.data.toList [64]).1).size + 1) - 1) (mkB (Go.Lib.cut s.data.toList [64]).1)
  have hz : ∀ p ∈ x :: ps, p.size < 4294967281 := by
    intro p hp
    rw [← hx] at hp
    have hd := Go.Lib.splitB_data ⟨#[44]⟩ 0 (min 6 ((mkB (Go.Lib.cut s.data.toList [64]).1).size + 1) - 1) (mkB (Go.Lib.cut s.data.toList [64]).1)
    have hm : p.data.toList ∈ Go.Lib.splitK [44] 0 (min 6 ((mkB (Go.Lib.cut s.data.toList [64]).1).size + 1) - 1) (Go.Lib.cut s.data.toList [64]).1 := by
      rw [← mkB_list (Go.Lib.cut s.data.toList [64]).1]
      refine hd ▸ List.mem_map_of_mem hp
    have := splitK_sizes 44 _ _ _ hm
    rw [Go.Lib.size_eq]
    omega
  rw [hx, List.length_cons] at hl
  unfold impl_ReadKeyText.f
  rw [strings_Cut.f, if_pos (by omega), Option.bind_some, strconv_Atoi_50.f, if_pos (by
    show (mkB (Go.Lib.cut s.data.toList [64]).2.1).size ≤ _
    rw [mkB_size]
    omega), Option.bind_some]
  show (if (match Go.Lib.atoiAll (Go.Lib.cut s.data.toList [64]).2.1 with | .ok v => (v, none) | .range => (Go.Lib.atoiSat (Go.Lib.cut s.data.toList [64]).2.1, some 0) | _ => (0, some 0) : Int × Option Int).2.isNone = true then
    (strings_SplitN.f (mkB (Go.Lib.cut s.data.toList [64]).1) ⟨#[44]⟩ 6).bind fun t108 => (if 0 < (t108.length : Int) then (if 1 ≤ (t108.length : Int) then ((some (t108.drop (1 : Int).toNat : List ByteArray)).bind fun y113 => (impl_ReadKeyText.l0 k s y113 (y113.length : Int) 0 (rdOf ByteArray.empty t108 0) ([] : List Tg) (match Go.Lib.atoiAll (Go.Lib.cut s.data.toList [64]).2.1 with | .ok v => (v, none) | .range => (Go.Lib.atoiSat (Go.Lib.cut s.data.toList [64]).2.1, some 0) | _ => (0, some 0) : Int × Option Int).1)) else (none)) else (none)) else _) = _
  rw [h]
  dsimp only
  rw [if_pos (by rfl), strings_SplitN.f, if_pos ⟨by rw [mkB_size]; omega, by decide, by decide, by decide⟩, Option.bind_some, show (6 : Int).toNat = 6 from rfl, hx, if_pos (by rw [List.length_cons]; omega), if_pos (by rw [List.length_cons]; omega), Option.bind_some, show (1 : Int).toNat = 1 from rfl, List.drop_one, List.tail_cons, show rdOf ByteArray.empty (x :: ps) 0 = x from rfl]
  have hl0 := implRead_l0 s ps (by omega) (fun p hp => hz p (List.mem_cons_of_mem _ hp)) x n ps.length 0 k [] (by omega) (by omega) (Nat.zero_le _)
  rw [List.drop_zero, List.nil_append] at hl0
  exact hl0
theorem implRead_total {s : ByteArray} (hs : s.size ≤ 1048576) {k : Nat} (hk : 200 < k) : ∃ r, impl_ReadKeyText.f k s = some r ∧ Reads s r := by
  by_cases h : ∃ v, Go.Lib.atoiAll (Go.Lib.cut s.data.toList [64]).2.1 = .ok v
  · obtain ⟨v, h⟩ := h
    have hpos := splitB_pos ⟨#[44]⟩ (mkB (Go.Lib.cut s.data.toList [64]).1) (min 6 ((mkB (Go.Lib.cut s.data.toList [64]).1).size + 1) - 1)
    cases e : Go.Lib.splitB ⟨#[44]⟩ 0 (min 6 ((mkB (Go.Lib.cut s.data.toList [64]).1).size + 1) - 1) (mkB (Go.Lib.cut s.data.toList [64]).1) with
    | nil => rw [e] at hpos; exact absurd hpos (by decide)
    | cons x ps =>
      refine ⟨_, implRead_eval hs (by omega) h e, ?_⟩
      rw [finI]
      by_cases hkb : keyB x (ps.map cutT) v = true
      · rw [if_pos hkb]
        by_cases ht : textOf x (ps.map cutT) v = s
        · rw [if_pos ht]
          exact Or.inr ⟨_, _, _, rfl, hkb, ht⟩
        · rw [if_neg ht]
          exact Or.inl rfl
      · rw [if_neg hkb]
        exact Or.inl rfl
  · exact ⟨_, implRead_fail hs (fun v hv => h ⟨v, hv⟩), Or.inl rfl⟩
theorem cutT_tag {t : Tg} (h : nameB t.f0 = true ∧ nameB t.f1 = true) : cutT (mkB (tagL t)) = t := by
  unfold cutT tagL
  rw [mkB_list, cut_hit (letter_not (nameB_letters h.1)).2.1, mkB_of, mkB_of]
theorem implRead_hit {m : ByteArray} {l : List Tg} {st : Int} (h : keyB m l st = true) (hs : (textOf m l st).size ≤ 1048576) {k : Nat} (hk : 200 < k) : impl_ReadKeyText.f k (textOf m l st) = some (m, l, st, true) := by
  obtain ⟨h1, h2, h3, h4, h5⟩ := keyB_parts h
  have hc : Go.Lib.cut (textOf m l st).data.toList [64] = (m.data.toList ++ tailL l, (numT st).data.toList, true) := by
    rw [textOf_list, cut_hit (text_cut h).1]
  have hsp := splA_tail l _ (letter_not (nameB_letters h1)).1 (tagsB_names h5)
  have hlen := splA_length (c := 44) (m.data.toList ++ tailL l) []
  rw [hsp, List.length_cons, List.length_map] at hlen
  have hx : Go.Lib.splitB ⟨#[44]⟩ 0 (min 6 ((mkB (Go.Lib.cut (textOf m l st).data.toList [64]).1).size + 1) - 1) (mkB (Go.Lib.cut (textOf m l st).data.toList [64]).1) = m :: l.map (fun t => mkB (tagL t)) := by
    rw [hc]
    have hd := Go.Lib.splitB_data ⟨#[44]⟩ 0 (min 6 ((mkB (m.data.toList ++ tailL l)).size + 1) - 1) (mkB (m.data.toList ++ tailL l))
    rw [mkB_list, mkB_size, show (⟨#[44]⟩ : ByteArray).data.toList = [44] from rfl, splitK_eq 44 _ _ (by rw [hsp, List.length_cons, List.length_map]; omega), hsp] at hd
    rw [mkB_size]
    generalize Go.Lib.splitB ⟨#[44]⟩ 0 (min 6 ((m.data.toList ++ tailL l).length + 1) - 1) (mkB (m.data.toList ++ tailL l)) = q at hd ⊢
    have e : (q.map (·.data.toList)).map mkB = q := by
      rw [List.map_map]
      exact (List.map_congr_left fun a _ => mkB_of a).trans (List.map_id _)
    rw [← e, hd, List.map_cons, mkB_of, List.map_map]
    rfl
  rw [implRead_eval hs (by omega) (n := st) (by rw [hc]; exact atoi_itoa h3 h4) hx]
  have e : (l.map (fun t => mkB (tagL t))).map cutT = l := by
    rw [List.map_map]
    exact (List.map_congr_left fun a ha => cutT_tag (tagsB_names h5 a ha)).trans (List.map_id _)
  rw [e, finI, if_pos h, if_pos rfl]
/-- The two readers agree. -/
theorem read_both {s : ByteArray} (hs : s.size ≤ 1048576) {k : Nat} (hk : 2 * s.size + 200 < k) : ∃ r, spec_ReadKeyText.f k s = some r ∧ impl_ReadKeyText.f k s = some r ∧ Reads s r := by
  obtain ⟨r, h1, h2⟩ := specRead_total hs (k := k) (by omega)
  obtain ⟨r', h3, h4⟩ := implRead_total hs (k := k) (by omega)
  rcases h2 with rfl | ⟨m, l, st, rfl, hb, ht⟩
  · rcases h4 with rfl | ⟨m, l, st, rfl, hb, ht⟩
    · exact ⟨_, h1, h3, Or.inl rfl⟩
    · subst ht
      rw [specRead_hit hb hs (by omega)] at h1
      cases h1
  · subst ht
    exact ⟨_, h1, implRead_hit hb hs (by omega), Or.inr ⟨m, l, st, rfl, hb, rfl⟩⟩
end Go.Proofs.YteogadaloebdaaaDoor.Lem

-- written by a program of this session's (wip/pp)
namespace Go.Proofs.YteogadaloebdaaaDoor.P
open Go.RowKit Go.Proofs.YteogadaloebdaaaDoorW.PrintWords Go.Proofs.YteogadaloebdaaaDoorW.PrintLast Go.Proofs.YteogadaloebdaaaDoorW.PrintMore
attribute [local go_sem] max2_int min2_int max_two min_two max_three min_three max_four min_four str_geq str_gtr str_leq   -- for this text's walks alone
set_option linter.unusedVariables false
set_option linter.unusedSimpArgs false

/-! ### laws_szTag: function 74 -/
def laws_szTag.f (a0_0 : ByteArray) (a0_1 : ByteArray) (a1 : Int) : Option (Int) := if (wrap64 (a1 - (a0_0.size : Int))) < 0 then (some (-1)) else (if (wrap64 ((wrap64 (a1 - (a0_0.size : Int))) - (a0_1.size : Int))) < 0 then (some (-1)) else (some (wrap64 ((wrap64 (a1 - (a0_0.size : Int))) - (a0_1.size : Int)))))
set_option maxHeartbeats 8000000 in
set_option maxRecDepth 100000 in
theorem laws_szTag.calls (a0_0 : ByteArray) (a0_1 : ByteArray) (a1 : Int) (r : Int) (w : World) (h : laws_szTag.f a0_0 a0_1 a1 = some r) :
 Calls Tryd.prog 74 #[.agg #[.string a0_0, .string a0_1], .int .i64 a1] w fun e w' => e = .returned (.int .i64 r) ∧ Below w.heap.size w w' := by
 have hu107 := Tryd.underlying107
 have HB := aM (Below.refl w.heap.size w)
 have H : (if (wrap64 (a1 - (a0_0.size : Int))) < 0 then (some (-1)) else (if (wrap64 ((wrap64 (a1 - (a0_0.size : Int))) - (a0_1.size : Int))) < 0 then (some (-1)) else (some (wrap64 ((wrap64 (a1 - (a0_0.size : Int))) - (a0_1.size : Int)))))) = some r := h
 clear h
 by_cases c3 : (wrap64 (a1 - (a0_0.size : Int))) < 0
 · rw [if_pos c3] at H
   have c3b0 : decide ((wrap64 (a1 - (a0_0.size : Int))) < 0) = true := decide_eq_true c3
   clear c3
   obtain rfl := Option.some.inj H
   go_enter Tryd.func74, Tryd.ntmps74
   go_wp2_with (first | ((with_reducible refine gate_dst (N := 2) rfl ?_); refine box_event ?hg (N := 2) ?hd (cs := #[.string a0_0, .string a0_1]) (t := 107) ?hr ?_; (case hd => rfl); (case hg => rfl); (case hr => first | (go_simp; done) | (go_simp; rfl)); intro gb101 hg w4 hbox hb; have _ := aM (below_step hbZ hb); have _ := aM hbox; have _ := szZ hg; have _ := szZ hg; clear HB; rename_i HB BK101 GW101 GE101; clear hb hbox hg; obtain ⟨hcz5_0, hcz5_1, hfz5_0, hfz5_1⟩ := cellsZ2 BK101.out))
   go_ret
   exact ⟨z674d, zcb41⟩
 · rw [if_neg c3] at H
   have c3b0 : decide ((wrap64 (a1 - (a0_0.size : Int))) < 0) = false := decide_eq_false c3
   clear c3
   by_cases c6 : (wrap64 ((wrap64 (a1 - (a0_0.size : Int))) - (a0_1.size : Int))) < 0
   · rw [if_pos c6] at H
     have c6b0 : decide ((wrap64 ((wrap64 (a1 - (a0_0.size : Int))) - (a0_1.size : Int))) < 0) = true := decide_eq_true c6
     clear c6
     obtain rfl := Option.some.inj H
     go_enter Tryd.func74, Tryd.ntmps74
     go_wp2_with (first | ((with_reducible refine gate_dst (N := 2) rfl ?_); refine box_event ?hg (N := 2) ?hd (cs := #[.string a0_0, .string a0_1]) (t := 107) ?hr ?_; (case hd => rfl); (case hg => rfl); (case hr => first | (go_simp; done) | (go_simp; rfl)); intro gb101 hg w7 hbox hb; have _ := aM (below_step hbZ hb); have _ := aM hbox; have _ := szZ hg; have _ := szZ hg; clear HB; rename_i HB BK101 GW101 GE101; clear hb hbox hg; obtain ⟨hcz8_0, hcz8_1, hfz8_0, hfz8_1⟩ := cellsZ2 BK101.out))
     go_ret
     exact ⟨z674d, zcb41⟩
   · rw [if_neg c6] at H
     have c6b0 : decide ((wrap64 ((wrap64 (a1 - (a0_0.size : Int))) - (a0_1.size : Int))) < 0) = false := decide_eq_false c6
     clear c6
     obtain rfl := Option.some.inj H
     go_enter Tryd.func74, Tryd.ntmps74
     go_wp2_with (first | ((with_reducible refine gate_dst (N := 2) rfl ?_); refine box_event ?hg (N := 2) ?hd (cs := #[.string a0_0, .string a0_1]) (t := 107) ?hr ?_; (case hd => rfl); (case hg => rfl); (case hr => first | (go_simp; done) | (go_simp; rfl)); intro gb101 hg w9 hbox hb; have _ := aM (below_step hbZ hb); have _ := aM hbox; have _ := szZ hg; have _ := szZ hg; clear HB; rename_i HB BK101 GW101 GE101; clear hb hbox hg; obtain ⟨hcz10_0, hcz10_1, hfz10_0, hfz10_1⟩ := cellsZ2 BK101.out))
     go_ret
     exact ⟨z674d, zcb41⟩

end Go.Proofs.YteogadaloebdaaaDoor.P

-- written by a program of this session's (wip/pp)
namespace Go.Proofs.YteogadaloebdaaaDoor.P
open Go.RowKit Go.Proofs.YteogadaloebdaaaDoorW.PrintWords Go.Proofs.YteogadaloebdaaaDoorW.PrintLast Go.Proofs.YteogadaloebdaaaDoorW.PrintMore
attribute [local go_sem] max2_int min2_int max_two min_two max_three min_three max_four min_four str_geq str_gtr str_leq   -- for this text's walks alone
set_option linter.unusedVariables false
set_option linter.unusedSimpArgs false

/-! ### laws_szTagS: function 44 -/
def laws_szTagS.l0 : Nat → List (S107) → Int → Int → Option (Int)
 | 0, _, _, _ => none
 | k + 1, x0, x1, x5 => if x5 < (x0.length : Int) then (if 0 ≤ x5 then ((laws_szTag.f ((rd_T107 x0 x5).f0) ((rd_T107 x0 x5).f1) x1).bind fun t102 => (if t102 < 0 then (some (-1)) else (laws_szTagS.l0 k x0 t102 (wrap64 (x5 + 1))))) else (none)) else (some x1)
def laws_szTagS.f (k : Nat) (l0 : List (S107)) (a1 : Int) : Option (Int) := if (wrap64 (a1 - (l0.length : Int))) < 0 then (some (-1)) else (laws_szTagS.l0 k l0 (wrap64 (a1 - (l0.length : Int))) 0)
theorem laws_szTagS.mono_l : ∀ k, (∀ y0 y1 y2, LeO (laws_szTagS.l0 k y0 y1 y2) (laws_szTagS.l0 (k + 1) y0 y1 y2))
 | 0 => fun _ _ _ r h => by simp [laws_szTagS.l0] at h
 | k + 1 => by
  have ih0 := laws_szTagS.mono_l k
  · intro y0 y1 y2
    unfold laws_szTagS.l0
    repeat' first
     | (with_reducible first | exact ih0 .. | exact LeO.refl _ | exact LeO.none _ | refine LeO.ite ?_ ?_ | refine LeO.bind ?_ (fun _ => ?_))
     | exact LeO.none _
     | refine LeO.ite ?_ ?_
     | refine LeO.bind ?_ (fun _ => ?_)
theorem laws_szTagS.mono : ∀ a0 a1 k, LeO (laws_szTagS.f k a0 a1) (laws_szTagS.f (k + 1) a0 a1) := by
 intro a0 a1 k
 have ih0 := laws_szTagS.mono_l k
 unfold laws_szTagS.f
 repeat' first
  | (with_reducible first | exact ih0 .. | exact LeO.refl _ | exact LeO.none _ | refine LeO.ite ?_ ?_ | refine LeO.bind ?_ (fun _ => ?_))
  | exact LeO.none _
  | refine LeO.ite ?_ ?_
  | refine LeO.bind ?_ (fun _ => ?_)
set_option maxHeartbeats 8000000 in
set_option maxRecDepth 100000 in
theorem laws_szTagS.calls (k : Nat) (A0 : Option Addr) (c0 : Nat) (l0 : List (S107)) (a1 : Int) (r : Int) (w : World) (hr0 : Kd.C k107 w A0 l0.length l0) (hc0 : l0.length ≤ c0) (h : laws_szTagS.f k l0 a1 = some r) :
 Calls Tryd.prog 44 #[.slice A0 l0.length c0, .int .i64 a1] w fun e w' => e = .returned (.int .i64 r) ∧ Below w.heap.size w w' := by
 have hu107 := Tryd.underlying107
 have HR0 := aM hr0
 have HC0 := aM hc0
 clear hr0 hc0
 have HB := aM (Below.refl w.heap.size w)
 have H : (if (wrap64 (a1 - (l0.length : Int))) < 0 then (some (-1)) else (laws_szTagS.l0 k l0 (wrap64 (a1 - (l0.length : Int))) 0)) = some r := h
 clear h
 by_cases c3 : (wrap64 (a1 - (l0.length : Int))) < 0
 · rw [if_pos c3] at H
   have c3b0 : decide ((wrap64 (a1 - (l0.length : Int))) < 0) = true := decide_eq_true c3
   clear c3
   obtain rfl := Option.some.inj H
   go_enter Tryd.func44, Tryd.ntmps44
   go_wp2
   go_ret
   exact ⟨z674d, z5acd⟩
 · rw [if_neg c3] at H
   have c3b0 : decide ((wrap64 (a1 - (l0.length : Int))) < 0) = false := decide_eq_false c3
   clear c3
   have H' := aM H
   clear H
   go_enter Tryd.func44, Tryd.ntmps44
   go_wp2
   go_loopg [1, 5] k (fun kq v1 v5 w' => ∃ (x1_1 : Int) (x5_1 : Int), v1 = .int .i64 x1_1 ∧ v5 = .int .i64 x5_1 ∧ Aside0 (laws_szTagS.l0 kq l0 x1_1 x5_1 = some r) ∧ Aside0 (kq ≤ k) ∧ Aside0 (Below w.heap.size w w'))
   case atStart => exact ⟨(wrap64 (a1 - (l0.length : Int))), (0), z4458, z4458, H', ⟨Nat.le_refl _⟩, ⟨z5acd⟩⟩
   case round =>
    clear H'
    try clear p2
    try clear c3
    try clear c3b0
    obtain ⟨x1_1, x5_1, rfl, rfl, HA, HK1, HB⟩ := hrel
    cases gk with
    | zero => exact absurd HA.out (by simp [laws_szTagS.l0])
    | succ k1 =>
     have H := HA.out
     clear HA
     simp only [laws_szTagS.l0] at H
     by_cases c4 : x5_1 < (l0.length : Int)
     · rw [if_pos c4] at H
       have c4b0 : decide (x5_1 < (l0.length : Int)) = true := decide_eq_true c4
       clear c4
       by_cases c5 : 0 ≤ x5_1
       · rw [if_pos c5] at H
         have c5b0 : decide (0 ≤ x5_1) = true := decide_eq_true c5
         clear c5
         replace H := Option.bind_eq_some_iff.mp H
         obtain ⟨t102, A60, H⟩ := H
         try dsimp only at H
         have A6 := aM A60
         clear A60
         by_cases c7 : t102 < 0
         · rw [if_pos c7] at H
           have c7b0 : decide (t102 < 0) = true := decide_eq_true c7
           clear c7
           obtain rfl := Option.some.inj H
           have p101 : 0 ≤ (x5_1 : Int) := of_decide_eq_true z1200
           have q101 : x5_1 < (l0.length : Int) := of_decide_eq_true z1200
           obtain ⟨ad101, e101, hx101_0, hx101_1⟩ := at_T107 HR0.out x5_1 p101 q101
           cases e101
           replace hx101_0 := (HB.out.cell (World.block_lt_of_cell? w _ hx101_0)).trans hx101_0
           replace hx101_1 := (HB.out.cell (World.block_lt_of_cell? w _ hx101_1)).trans hx101_1
           replace p101 := eq_true p101
           replace q101 := eq_true q101
           go_wp2_with (first | ((with_reducible refine gate_callee (f := 74) rfl ?_); refine goesL_ (some 23) rfl rfl Tryd.func74 (by kernel_rfl) rfl #[.agg #[.string ((rd_T107 l0 x5_1).f0), .string ((rd_T107 l0 x5_1).f1)], .int .i64 x1_1] rfl zee81 ?_; (with_reducible refine (laws_szTag.calls ((rd_T107 l0 x5_1).f0) ((rd_T107 l0 x5_1).f1) x1_1 t102 _ A6.out).mono ?_); rintro e w8 ⟨rfl, hb⟩; refine ⟨_, rfl, ?_⟩; have _ := aM (below_step hbZ hb); clear HB; rename_i HB; (try clear hb)))
           go_ret
           exact ⟨z674d, z5acd⟩
         · rw [if_neg c7] at H
           have c7b0 : decide (t102 < 0) = false := decide_eq_false c7
           clear c7
           have H' := aM H
           clear H
           have p101 : 0 ≤ (x5_1 : Int) := of_decide_eq_true z1200
           have q101 : x5_1 < (l0.length : Int) := of_decide_eq_true z1200
           obtain ⟨ad101, e101, hx101_0, hx101_1⟩ := at_T107 HR0.out x5_1 p101 q101
           cases e101
           replace hx101_0 := (HB.out.cell (World.block_lt_of_cell? w _ hx101_0)).trans hx101_0
           replace hx101_1 := (HB.out.cell (World.block_lt_of_cell? w _ hx101_1)).trans hx101_1
           replace p101 := eq_true p101
           replace q101 := eq_true q101
           go_wp2_with (first | ((with_reducible refine gate_callee (f := 74) rfl ?_); refine goesL_ (some 23) rfl rfl Tryd.func74 (by kernel_rfl) rfl #[.agg #[.string ((rd_T107 l0 x5_1).f0), .string ((rd_T107 l0 x5_1).f1)], .int .i64 x1_1] rfl zee81 ?_; (with_reducible refine (laws_szTag.calls ((rd_T107 l0 x5_1).f0) ((rd_T107 l0 x5_1).f1) x1_1 t102 _ A6.out).mono ?_); rintro e w9 ⟨rfl, hb⟩; refine ⟨_, rfl, ?_⟩; have _ := aM (below_step hbZ hb); clear HB; rename_i HB; (try clear hb)))
           go_roundg k1
           case measure => have := HK1.out; omega
           case rel => exact ⟨(t102), (wrap64 (x5_1 + 1)), z4458, z4458, H', ⟨zfb39⟩, ⟨z5acd⟩⟩
       · rw [if_neg c5] at H
         exact absurd H (by simp)
     · rw [if_neg c4] at H
       have c4b0 : decide (x5_1 < (l0.length : Int)) = false := decide_eq_false c4
       clear c4
       obtain rfl := Option.some.inj H
       go_wp2
       go_ret
       exact ⟨z674d, z5acd⟩

end Go.Proofs.YteogadaloebdaaaDoor.P

-- written by a program of this session's (wip/pp)
namespace Go.Proofs.YteogadaloebdaaaDoor.P
open Go.RowKit Go.Proofs.YteogadaloebdaaaDoorW.PrintWords Go.Proofs.YteogadaloebdaaaDoorW.PrintLast Go.Proofs.YteogadaloebdaaaDoorW.PrintMore
attribute [local go_sem] max2_int min2_int max_two min_two max_three min_three max_four min_four str_geq str_gtr str_leq   -- for this text's walks alone
set_option linter.unusedVariables false
set_option linter.unusedSimpArgs false

/-! ### laws_szKey: function 13 -/
def laws_szKey.f (k : Nat) (a0_0 : ByteArray) (l0_1 : List (S107)) (a0_2 : Int) (a1 : Int) : Option (Int) := if (wrap64 (a1 - (a0_0.size : Int))) < 0 then (some (-1)) else ((laws_szTagS.f k l0_1 (wrap64 (a1 - (a0_0.size : Int)))).bind fun t102 => (if t102 < 0 then (some (-1)) else (some t102)))
theorem laws_szKey.mono : ∀ a0 a1 a2 a3 k, LeO (laws_szKey.f k a0 a1 a2 a3) (laws_szKey.f (k + 1) a0 a1 a2 a3) := by
 intro a0 a1 a2 a3 k
 unfold laws_szKey.f
 repeat' first
  | (with_reducible first | exact laws_szTagS.mono .. | exact LeO.refl _ | exact LeO.none _ | refine LeO.ite ?_ ?_ | refine LeO.bind ?_ (fun _ => ?_))
  | exact LeO.none _
  | refine LeO.ite ?_ ?_
  | refine LeO.bind ?_ (fun _ => ?_)
set_option maxHeartbeats 8000000 in
set_option maxRecDepth 100000 in
theorem laws_szKey.calls (k : Nat) (a0_0 : ByteArray) (A0_1 : Option Addr) (c0_1 : Nat) (l0_1 : List (S107)) (a0_2 : Int) (a1 : Int) (r : Int) (w : World) (hr0_1 : Kd.C k107 w A0_1 l0_1.length l0_1) (hc0_1 : l0_1.length ≤ c0_1) (h : laws_szKey.f k a0_0 l0_1 a0_2 a1 = some r) :
 Calls Tryd.prog 13 #[.agg #[.string a0_0, .slice A0_1 l0_1.length c0_1, .int .i64 a0_2], .int .i64 a1] w fun e w' => e = .returned (.int .i64 r) ∧ Below w.heap.size w w' := by
 have hu37 := Tryd.underlying37
 have HR0_1 := aM hr0_1
 have HC0_1 := aM hc0_1
 clear hr0_1 hc0_1
 have HB := aM (Below.refl w.heap.size w)
 have H : (if (wrap64 (a1 - (a0_0.size : Int))) < 0 then (some (-1)) else ((laws_szTagS.f k l0_1 (wrap64 (a1 - (a0_0.size : Int)))).bind fun t102 => (if t102 < 0 then (some (-1)) else (some t102)))) = some r := h
 clear h
 by_cases c3 : (wrap64 (a1 - (a0_0.size : Int))) < 0
 · rw [if_pos c3] at H
   have c3b0 : decide ((wrap64 (a1 - (a0_0.size : Int))) < 0) = true := decide_eq_true c3
   clear c3
   obtain rfl := Option.some.inj H
   go_enter Tryd.func13, Tryd.ntmps13
   go_wp2_with (first | ((with_reducible refine gate_dst (N := 2) rfl ?_); refine box_event ?hg (N := 2) ?hd (cs := #[.string a0_0, .slice A0_1 l0_1.length c0_1, .int .i64 a0_2]) (t := 37) ?hr ?_; (case hd => rfl); (case hg => rfl); (case hr => first | (go_simp; done) | (go_simp; rfl)); intro gb101 hg w4 hbox hb; have _ := aM (below_step hbZ hb); have _ := aM hbox; have _ := szZ hg; have _ := szZ hg; clear HB; rename_i HB BK101 GW101 GE101; clear hb hbox hg; obtain ⟨hcz5_0, hcz5_1, hcz5_2, hfz5_0, hfz5_1, hfz5_2⟩ := cellsZ3 BK101.out))
   go_ret
   exact ⟨z674d, zcb41⟩
 · rw [if_neg c3] at H
   have c3b0 : decide ((wrap64 (a1 - (a0_0.size : Int))) < 0) = false := decide_eq_false c3
   clear c3
   replace H := Option.bind_eq_some_iff.mp H
   obtain ⟨t102, A60, H⟩ := H
   try dsimp only at H
   have A6 := aM A60
   clear A60
   by_cases c7 : t102 < 0
   · rw [if_pos c7] at H
     have c7b0 : decide (t102 < 0) = true := decide_eq_true c7
     clear c7
     obtain rfl := Option.some.inj H
     go_enter Tryd.func13, Tryd.ntmps13
     go_wp2_with (first | ((with_reducible refine gate_dst (N := 2) rfl ?_); refine box_event ?hg (N := 2) ?hd (cs := #[.string a0_0, .slice A0_1 l0_1.length c0_1, .int .i64 a0_2]) (t := 37) ?hr ?_; (case hd => rfl); (case hg => rfl); (case hr => first | (go_simp; done) | (go_simp; rfl)); intro gb101 hg w8 hbox hb; have _ := aM (below_step hbZ hb); have _ := aM hbox; have _ := szZ hg; have _ := szZ hg; clear HB; rename_i HB BK101 GW101 GE101; clear hb hbox hg; obtain ⟨hcz9_0, hcz9_1, hcz9_2, hfz9_0, hfz9_1, hfz9_2⟩ := cellsZ3 BK101.out) | ((with_reducible refine gate_callee (f := 44) rfl ?_); refine goesL_ (some 15) rfl rfl Tryd.func44 (by kernel_rfl) rfl #[.slice A0_1 l0_1.length c0_1, .int .i64 (wrap64 (a1 - (a0_0.size : Int)))] rfl zee81 ?_; (with_reducible refine (laws_szTagS.calls k _ _ l0_1 (wrap64 (a1 - (a0_0.size : Int))) t102 _ ?side1 ?side2 A6.out).mono ?_); (case side1 => exact (cZ (Kd.C_below HR0_1.out HB.out))); (case side2 => exact HC0_1.out); rintro e w10 ⟨rfl, hb⟩; refine ⟨_, rfl, ?_⟩; have _ := bB gb101 hb; have _ := aM (below_step hbZ hb); clear BK101 HB; rename_i BK101 HB; (try clear hb)))
     go_ret
     exact ⟨z674d, zcb41⟩
   · rw [if_neg c7] at H
     have c7b0 : decide (t102 < 0) = false := decide_eq_false c7
     clear c7
     obtain rfl := Option.some.inj H
     go_enter Tryd.func13, Tryd.ntmps13
     go_wp2_with (first | ((with_reducible refine gate_dst (N := 2) rfl ?_); refine box_event ?hg (N := 2) ?hd (cs := #[.string a0_0, .slice A0_1 l0_1.length c0_1, .int .i64 a0_2]) (t := 37) ?hr ?_; (case hd => rfl); (case hg => rfl); (case hr => first | (go_simp; done) | (go_simp; rfl)); intro gb101 hg w11 hbox hb; have _ := aM (below_step hbZ hb); have _ := aM hbox; have _ := szZ hg; have _ := szZ hg; clear HB; rename_i HB BK101 GW101 GE101; clear hb hbox hg; obtain ⟨hcz12_0, hcz12_1, hcz12_2, hfz12_0, hfz12_1, hfz12_2⟩ := cellsZ3 BK101.out) | ((with_reducible refine gate_callee (f := 44) rfl ?_); refine goesL_ (some 15) rfl rfl Tryd.func44 (by kernel_rfl) rfl #[.slice A0_1 l0_1.length c0_1, .int .i64 (wrap64 (a1 - (a0_0.size : Int)))] rfl zee81 ?_; (with_reducible refine (laws_szTagS.calls k _ _ l0_1 (wrap64 (a1 - (a0_0.size : Int))) t102 _ ?side1 ?side2 A6.out).mono ?_); (case side1 => exact (cZ (Kd.C_below HR0_1.out HB.out))); (case side2 => exact HC0_1.out); rintro e w13 ⟨rfl, hb⟩; refine ⟨_, rfl, ?_⟩; have _ := bB gb101 hb; have _ := aM (below_step hbZ hb); clear BK101 HB; rename_i BK101 HB; (try clear hb)))
     go_ret
     exact ⟨z674d, zcb41⟩

end Go.Proofs.YteogadaloebdaaaDoor.P

-- written by a program of this session's (wip/pp)
namespace Go.Proofs.YteogadaloebdaaaDoor.P
open Go.RowKit Go.Proofs.YteogadaloebdaaaDoorW.PrintWords Go.Proofs.YteogadaloebdaaaDoorW.PrintLast Go.Proofs.YteogadaloebdaaaDoorW.PrintMore
attribute [local go_sem] max2_int min2_int max_two min_two max_three min_three max_four min_four str_geq str_gtr str_leq   -- for this text's walks alone
set_option linter.unusedVariables false
set_option linter.unusedSimpArgs false

/-! ### laws_toTag: function 76 -/
def laws_toTag.f (a0_0 : ByteArray) (a0_1 : ByteArray) : Option (ByteArray × ByteArray) := some (a0_0, a0_1)
set_option maxHeartbeats 8000000 in
set_option maxRecDepth 100000 in
theorem laws_toTag.calls (a0_0 : ByteArray) (a0_1 : ByteArray) (r1 : ByteArray) (r2 : ByteArray) (w : World) (h : laws_toTag.f a0_0 a0_1 = some (r1, r2)) :
 Calls Tryd.prog 76 #[.agg #[.string a0_0, .string a0_1]] w fun e w' => e = .returned (.agg #[.string r1, .string r2]) ∧ Below w.heap.size w w' := by
 have hu107 := Tryd.underlying107
 have hu69 := Tryd.underlying69
 have HB := aM (Below.refl w.heap.size w)
 have H : (some (a0_0, a0_1)) = some (r1, r2) := h
 clear h
 simp only [Option.some.injEq, Prod.mk.injEq] at H
 obtain ⟨rfl, rfl⟩ := H
 go_enter Tryd.func76, Tryd.ntmps76
 go_wp2_with (first | ((with_reducible refine gate_dst (N := 1) rfl ?_); refine box_event ?hg (N := 1) ?hd (cs := #[.string a0_0, .string a0_1]) (t := 107) ?hr ?_; (case hd => rfl); (case hg => rfl); (case hr => first | (go_simp; done) | (go_simp; rfl)); intro gb101 hg w2 hbox hb; have _ := aM (below_step hbZ hb); have _ := aM hbox; have _ := szZ hg; have _ := szZ hg; clear HB; rename_i HB BK101 GW101 GE101; clear hb hbox hg) | ((with_reducible refine gate_dst (N := 2) rfl ?_); refine box_event ?hg (N := 2) ?hd (cs := #[.string (⟨#[]⟩ : ByteArray), .string (⟨#[]⟩ : ByteArray)]) (t := 69) ?hr ?_; (case hd => rfl); (case hg => rfl); (case hr => first | (go_simp; done) | (go_simp; rfl)); intro gb102 hg w3 hbox hb; have _ := bB gb101 hb; have _ := aM (below_step hbZ hb); have _ := aM hbox; have _ := szZ hg; have _ := szZ hg; have ⟨_, _⟩ := nbB gb101 hg; clear BK101 HB; rename_i BK101 HB BK102 GW102 GE102 NB101_102 NB102_101; clear hb hbox hg) | ((with_reducible refine gate_dst (N := 3) rfl ?_); refine box_event ?hg (N := 3) ?hd (cs := #[.string (⟨#[]⟩ : ByteArray), .string (⟨#[]⟩ : ByteArray)]) (t := 69) ?hr ?_; (case hd => rfl); (case hg => rfl); (case hr => first | (go_simp; done) | (go_simp; rfl)); intro gb103 hg w4 hbox hb; have _ := bB gb101 hb; have _ := bB gb102 hb; have _ := aM (below_step hbZ hb); have _ := aM hbox; have _ := szZ hg; have _ := szZ hg; have ⟨_, _⟩ := nbB gb101 hg; have ⟨_, _⟩ := nbB gb102 hg; clear BK101 BK102 HB; rename_i BK101 BK102 HB BK103 GW103 GE103 NB101_103 NB103_101 NB102_103 NB103_102; clear hb hbox hg; have hnb5 := NB101_102.out; have hnc5 := NB102_101.out; have hnb6 := NB101_103.out; have hnc6 := NB103_101.out; obtain ⟨hcz7_0, hcz7_1, hfz7_0, hfz7_1⟩ := cellsZ2 BK101.out; have hnb8 := NB103_102.out; have hnc8 := NB102_103.out; obtain ⟨hcz9_0, hcz9_1, hfz9_0, hfz9_1⟩ := cellsZ2 BK103.out; obtain ⟨hcz10_0, hcz10_1, hfz10_0, hfz10_1⟩ := cellsZ2 BK102.out))
 refine bodyPost_ret (results_cell_row rfl _ _ gb102 69 #[.string a0_0, .string a0_1] (0, 0) _ rfl bkZ Tryd.underlying69 rfl (by kernel_rfl)) rfl ?_
 exact ⟨z674d, zcb41⟩

end Go.Proofs.YteogadaloebdaaaDoor.P

-- written by a program of this session's (wip/pp)
namespace Go.Proofs.YteogadaloebdaaaDoor.P
open Go.RowKit Go.Proofs.YteogadaloebdaaaDoorW.PrintWords Go.Proofs.YteogadaloebdaaaDoorW.PrintLast Go.Proofs.YteogadaloebdaaaDoorW.PrintMore
attribute [local go_sem] max2_int min2_int max_two min_two max_three min_three max_four min_four str_geq str_gtr str_leq   -- for this text's walks alone
set_option linter.unusedVariables false
set_option linter.unusedSimpArgs false

/-! ### laws_toTagS: function 46 -/
def laws_toTagS.l0 : Nat → List (S107) → List (S69) → Int → Option ((List (S69)))
 | 0, _, _, _ => none
 | k + 1, x0, x3, x4 => if x4 < (x0.length : Int) then (if 0 ≤ x4 then ((laws_toTag.f ((rd_T107 x0 x4).f0) ((rd_T107 x0 x4).f1)).bind fun bt105 => (if x4 < (x3.length : Int) then (laws_toTagS.l0 k x0 (x3.set (x4 : Int).toNat (⟨bt105.1, bt105.2⟩ : S69)) (wrap64 (x4 + 1))) else (none))) else (none)) else (some x3)
def laws_toTagS.f (k : Nat) (l0 : List (S107)) : Option ((List (S69))) := if 0 ≤ (l0.length : Int) then (if ((l0.length : Int) : Int).toNat ≤ 8796093022208 then (laws_toTagS.l0 k l0 (List.replicate ((l0.length : Int) : Int).toNat z69) 0) else (none)) else (none)
theorem laws_toTagS.mono_l : ∀ k, (∀ y0 y1 y2, LeO (laws_toTagS.l0 k y0 y1 y2) (laws_toTagS.l0 (k + 1) y0 y1 y2))
 | 0 => fun _ _ _ r h => by simp [laws_toTagS.l0] at h
 | k + 1 => by
  have ih0 := laws_toTagS.mono_l k
  · intro y0 y1 y2
    unfold laws_toTagS.l0
    repeat' first
     | (with_reducible first | exact ih0 .. | exact LeO.refl _ | exact LeO.none _ | refine LeO.ite ?_ ?_ | refine LeO.bind ?_ (fun _ => ?_))
     | exact LeO.none _
     | refine LeO.ite ?_ ?_
     | refine LeO.bind ?_ (fun _ => ?_)
theorem laws_toTagS.mono : ∀ a0 k, LeO (laws_toTagS.f k a0) (laws_toTagS.f (k + 1) a0) := by
 intro a0 k
 have ih0 := laws_toTagS.mono_l k
 unfold laws_toTagS.f
 repeat' first
  | (with_reducible first | exact ih0 .. | exact LeO.refl _ | exact LeO.none _ | refine LeO.ite ?_ ?_ | refine LeO.bind ?_ (fun _ => ?_))
  | exact LeO.none _
  | refine LeO.ite ?_ ?_
  | refine LeO.bind ?_ (fun _ => ?_)
set_option maxHeartbeats 8000000 in
set_option maxRecDepth 100000 in
theorem laws_toTagS.calls (k : Nat) (A0 : Option Addr) (c0 : Nat) (l0 : List (S107)) (r : List (S69)) (w : World) (hr0 : Kd.C k107 w A0 l0.length l0) (hc0 : l0.length ≤ c0) (h : laws_toTagS.f k l0 = some r) :
 Calls Tryd.prog 46 #[.slice A0 l0.length c0] w fun e w' => ∃ v0_ : Value, e = .returned (v0_) ∧ Kd.R k69 69 w' w.heap.size (fun _ => True) v0_ r ∧ Below w.heap.size w w' := by
 have hu107 := Tryd.underlying107
 have hu69 := Tryd.underlying69
 have HR0 := aM hr0
 have HC0 := aM hc0
 clear hr0 hc0
 have HB := aM (Below.refl w.heap.size w)
 have H : (if 0 ≤ (l0.length : Int) then (if ((l0.length : Int) : Int).toNat ≤ 8796093022208 then (laws_toTagS.l0 k l0 (List.replicate ((l0.length : Int) : Int).toNat z69) 0) else (none)) else (none)) = some r := h
 clear h
 by_cases c2 : 0 ≤ (l0.length : Int)
 · rw [if_pos c2] at H
   have c2b0 := eq_true c2
   have c2b1 : decide (0 ≤ (l0.length : Int)) = true := decide_eq_true c2
   clear c2
   by_cases c3 : ((l0.length : Int) : Int).toNat ≤ 8796093022208
   · rw [if_pos c3] at H
     have c3b0 := eq_true c3
     have c3b1 : decide (((l0.length : Int) : Int).toNat ≤ 8796093022208) = true := decide_eq_true c3
     clear c3
     obtain ⟨y101, hy101⟩ : ∃ y_ : List (S69), y_ = (List.replicate ((l0.length : Int) : Int).toNat z69) := ⟨_, rfl⟩
     replace H : (laws_toTagS.l0 k l0 y101 0) = some r := by first | (rw [hy101]; with_reducible exact H) | (have H2_ := (Option.bind_some _ _).symm.trans H; rw [hy101]; with_reducible exact H2_) | (have H2_ := (Option.bind_some _ _).symm.trans H; with_reducible exact H2_) | with_reducible exact H | (rw [hy101]; exact H) | exact H
     have Ny101 := aM hy101
     clear hy101
     have H' := aM H
     clear H
     go_enter Tryd.func46, Tryd.ntmps46
     go_wp2_with (first | ((with_reducible refine gate_dst (N := 7) rfl ?_); refine Kd.R_make k69 _ 69 rfl (N := 7) rfl 23 _ _ rfl (l0.length : Int) rfl rfl Tryd.underlying23 (.agg #[(.string ⟨#[]⟩), (.string ⟨#[]⟩)]) 32 info69 rfl (by decide) (by omega) z69 (ok := fun _ => True) (okp := fun _ => True) (k69_mkM _ _ _ z69 ) (fun _ hk => hk) trivial (of_decide_eq_true z1200) (Nat.le_trans (Nat.mul_le_mul_right _ (of_decide_eq_true z1200 : (l0.length : Int).toNat ≤ 8796093022208)) (by omega)) (Below.refl _ _) (Nat.le_refl _) ?_; intro v102 w4 ho5 hb hg_ hnew_; clear hg_ hnew_; (first | rw [← Ny101.out] at ho5 | (simp only [Int.reduceToNat] at ho5; rw [← Ny101.out] at ho5)); have _ := aM (Kd.R_lower ho5 (below_size hbZ)); have _ := aM (below_step hbZ hb); clear HB; rename_i HO103 HB; clear hb ho5))
     go_loopg [4] k (fun kq v4 w' => ∃ (x3_1 : List (S69)) (x4_1 : Int), v4 = .int .i64 x4_1 ∧ Aside0 (laws_toTagS.l0 kq l0 x3_1 x4_1 = some r) ∧ Aside0 (kq ≤ k) ∧ Aside0 (Kd.R k69 69 w' w.heap.size (fun _ => True) v102 x3_1) ∧ Aside0 (Below w.heap.size w w'))
     case atStart => exact ⟨(y101), (0), z4458, H', ⟨Nat.le_refl _⟩, ⟨rZ HO103.out⟩, ⟨z5acd⟩⟩
     case round =>
      clear H'
      try clear c2
      try clear c2b0
      try clear c2b1
      try clear p2
      try clear c3
      try clear c3b0
      try clear c3b1
      try clear c4
      obtain ⟨x3_1, x4_1, rfl, HA, HK1, HO_3, HB⟩ := hrel
      cases gk with
      | zero => exact absurd HA.out (by simp [laws_toTagS.l0])
      | succ k1 =>
       have H := HA.out
       clear HA
       simp only [laws_toTagS.l0] at H
       by_cases c6 : x4_1 < (l0.length : Int)
       · rw [if_pos c6] at H
         have c6b0 : decide (x4_1 < (l0.length : Int)) = true := decide_eq_true c6
         clear c6
         by_cases c7 : 0 ≤ x4_1
         · rw [if_pos c7] at H
           have c7b0 : decide (0 ≤ x4_1) = true := decide_eq_true c7
           clear c7
           replace H := Option.bind_eq_some_iff.mp H
           obtain ⟨⟨t105, t106⟩, A80, H⟩ := H
           try dsimp only at H
           have A8 := aM A80
           clear A80
           by_cases c9 : x4_1 < (x3_1.length : Int)
           · rw [if_pos c9] at H
             have c9b0 : decide (x4_1 < (x3_1.length : Int)) = true := decide_eq_true c9
             clear c9
             obtain ⟨y107, hy107⟩ : ∃ y_ : List (S69), y_ = (x3_1.set (x4_1 : Int).toNat (⟨t105, t106⟩ : S69)) := ⟨_, rfl⟩
             replace H : (laws_toTagS.l0 k1 l0 y107 (wrap64 (x4_1 + 1))) = some r := by first | (rw [hy107]; with_reducible exact H) | (have H2_ := (Option.bind_some _ _).symm.trans H; rw [hy107]; with_reducible exact H2_) | (have H2_ := (Option.bind_some _ _).symm.trans H; with_reducible exact H2_) | with_reducible exact H | (rw [hy107]; exact H) | exact H
             have Ny107 := aM hy107
             clear hy107
             have H' := aM H
             clear H
             have p104 : 0 ≤ (x4_1 : Int) := of_decide_eq_true z1200
             have q104 : x4_1 < (l0.length : Int) := of_decide_eq_true z1200
             obtain ⟨ad104, e104, hx104_0, hx104_1⟩ := at_T107 HR0.out x4_1 p104 q104
             cases e104
             replace hx104_0 := (HB.out.cell (World.block_lt_of_cell? w _ hx104_0)).trans hx104_0
             replace hx104_1 := (HB.out.cell (World.block_lt_of_cell? w _ hx104_1)).trans hx104_1
             replace p104 := eq_true p104
             replace q104 := eq_true q104
             go_wp2_with (first | ((with_reducible refine gate_callee (f := 76) rfl ?_); refine goesL_ (some 20) rfl rfl Tryd.func76 (by kernel_rfl) rfl #[.agg #[.string ((rd_T107 l0 x4_1).f0), .string ((rd_T107 l0 x4_1).f1)]] rfl zee81 ?_; (with_reducible refine (laws_toTag.calls ((rd_T107 l0 x4_1).f0) ((rd_T107 l0 x4_1).f1) t105 t106 _ A8.out).mono ?_); rintro e w11 ⟨rfl, hb⟩; refine ⟨_, rfl, ?_⟩; have _ := aM (Kd.R_below (rZ HO_3.out) hb); have _ := aM (below_step hbZ hb); clear HO_3 HB; rename_i HO_3 HB; (try clear hb); have p10 : 0 ≤ (x4_1 : Int) := of_decide_eq_true z1200; have q10 : (x4_1 : Int) < ((x3_1.length : Int) : Int) := of_decide_eq_true z1200; obtain ⟨go10, co10, eo10, gb10, gl10, cl10, HG10⟩ := Kd.R_form HO_3.out (by omega); (first | cases eo10 | (injection eo10 with ea_ en_ ec_; (first | subst ea_ | (injection ea_ with ea_; subst ea_)); subst ec_; clear en_)); have GB10 := aM gb10; have GG10 := aM HG10; clear gb10 gl10 HG10; obtain ⟨ce10, hcl10, hM10, hcc10, hfr10⟩ := Kd.R_elem HO_3.out z69 (x4_1 : Int) p10 q10; obtain rfl := k69_openM hM10; have hx10_0 : w11.cell? ⟨go10, (x4_1 : Int).toNat * 2, none⟩ = some (.string ((rd_T69 x3_1 x4_1).f0)) := hcc10 0 _ rfl; have hx10_1 : w11.cell? ⟨go10, (x4_1 : Int).toNat * 2 + 1, none⟩ = some (.string ((rd_T69 x3_1 x4_1).f1)) := hcc10 1 _ rfl; have hf10_0 : w11.frozen? ⟨go10, (x4_1 : Int).toNat * 2, none⟩ = false := hfr10 0; have hf10_1 : w11.frozen? ⟨go10, (x4_1 : Int).toNat * 2 + 1, none⟩ = false := hfr10 1; clear hcl10 hcc10 hfr10 hM10; replace p10 := eq_true p10; replace q10 := eq_true q10; have HX12 := aM (show Kd.R k69 69 w11 w.heap.size (fun _ => True) (.slice (some ⟨go10, 0, none⟩) x3_1.length co10) x3_1 from (rZ HO_3.out)); obtain ⟨ce12, hcl12, hM12, hcc12, hfr12⟩ := Kd.R_elem HX12.out z69 (x4_1 : Int) (of_decide_eq_true z1200) (by have h_ : (x4_1 : Int) < ((x3_1.length : Int) : Int) := of_decide_eq_true z1200; first | exact h_ | (have e_ := (Kd.R_reads' HO_3.out).1; omega) | simpa using h_); obtain rfl := k69_openM hM12; have HP12 := Kd.R_seg HX12.out (x4_1 : Int) (of_decide_eq_true z1200) (by have h_ : (x4_1 : Int) < ((x3_1.length : Int) : Int) := of_decide_eq_true z1200; first | exact h_ | (have e_ := (Kd.R_reads' HO_3.out).1; omega) | simpa using h_) (seg := [.string t105, .string t106]) (j := 0) hcl12 hcc12 (show 2 ≤ 2 from by decide) (x' := (⟨t105, t106⟩ : S69)) (k69_mkM _ _ _ (⟨t105, t106⟩ : S69) ) (fun _ hk => hk); have hx12_0 := hcc12 0 _ rfl; (try simp only [show (k69).sz = 2 from rfl, Nat.mul_one, Nat.add_zero] at hx12_0); have hf12_0 := hfr12 0; (try simp only [show (k69).sz = 2 from rfl, Nat.mul_one, Nat.add_zero] at hf12_0); have hx12_1 := hcc12 1 _ rfl; (try simp only [show (k69).sz = 2 from rfl, Nat.mul_one, Nat.add_zero] at hx12_1); have hf12_1 := hfr12 1; (try simp only [show (k69).sz = 2 from rfl, Nat.mul_one, Nat.add_zero] at hf12_1); clear hcl12 hcc12 hfr12 hM12) | ((with_reducible refine gate_store (t := 69) (p := 21) rfl ?_); refine store_event (t := 69) (p := 21) (v := ?vo_w13) (w1 := ((w11.setCell ⟨go10, (x4_1 : Int).toNat * 2, none⟩ (.string t105)).setCell ⟨go10, (x4_1 : Int).toNat * 2 + 1, none⟩ (.string t106))) ?hg ?ho ?hn ?hr ?_; (case ho => rfl); (case hg => rfl); (case hn => rfl); (case hr => first | (go_simp; done) | (go_simp; rfl)); intro w13 hw; have hg : w11.grownBy w13 (some go10) := (by rw [hw]; exact HP12.2); have hp_ : Kd.R k69 69 w13 w.heap.size (fun _ => True) (.slice (some ⟨go10, 0, none⟩) x3_1.length co10) y107 := (by rw [hw, Ny107.out]; exact HP12.1); clear HP12; have _ := aM hp_; have _ := aM ((by rw [hw]; exact below_set (below_set (HB.out) GB10.out) GB10.out : Below w.heap.size w w13)); clear HO_3 HB; rename_i HO_3 HB; clear hg hw hp_))
             go_roundg k1
             case measure => have := HK1.out; omega
             case rel => exact ⟨(y107), (wrap64 (x4_1 + 1)), z4458, H', ⟨zfb39⟩, ⟨rZ HO_3.out⟩, ⟨z5acd⟩⟩
           · rw [if_neg c9] at H
             exact absurd H (by simp)
         · rw [if_neg c7] at H
           exact absurd H (by simp)
       · rw [if_neg c6] at H
         have c6b0 : decide (x4_1 < (l0.length : Int)) = false := decide_eq_false c6
         clear c6
         obtain rfl := Option.some.inj H
         go_wp2
         go_ret
         exact ⟨_, z674d, rZ HO_3.out, z5acd⟩
   · rw [if_neg c3] at H
     exact absurd H (by simp)
 · rw [if_neg c2] at H
   exact absurd H (by simp)

end Go.Proofs.YteogadaloebdaaaDoor.P

-- written by a program of this session's (wip/pp)
namespace Go.Proofs.YteogadaloebdaaaDoor.P
open Go.RowKit Go.Proofs.YteogadaloebdaaaDoorW.PrintWords Go.Proofs.YteogadaloebdaaaDoorW.PrintLast Go.Proofs.YteogadaloebdaaaDoorW.PrintMore
attribute [local go_sem] max2_int min2_int max_two min_two max_three min_three max_four min_four str_geq str_gtr str_leq   -- for this text's walks alone
set_option linter.unusedVariables false
set_option linter.unusedSimpArgs false

/-! ### laws_toKey: function 15 -/
def laws_toKey.f (k : Nat) (a0_0 : ByteArray) (l0_1 : List (S107)) (a0_2 : Int) : Option (ByteArray × (List (S69)) × Int) := (laws_toTagS.f k l0_1).bind fun t104 => (some (a0_0, t104, a0_2))
theorem laws_toKey.mono : ∀ a0 a1 a2 k, LeO (laws_toKey.f k a0 a1 a2) (laws_toKey.f (k + 1) a0 a1 a2) := by
 intro a0 a1 a2 k
 unfold laws_toKey.f
 repeat' first
  | (with_reducible first | exact laws_toTagS.mono .. | exact LeO.refl _ | exact LeO.none _ | refine LeO.ite ?_ ?_ | refine LeO.bind ?_ (fun _ => ?_))
  | exact LeO.none _
  | refine LeO.ite ?_ ?_
  | refine LeO.bind ?_ (fun _ => ?_)
set_option maxHeartbeats 8000000 in
set_option maxRecDepth 100000 in
theorem laws_toKey.calls (k : Nat) (a0_0 : ByteArray) (A0_1 : Option Addr) (c0_1 : Nat) (l0_1 : List (S107)) (a0_2 : Int) (r1 : ByteArray) (r2 : List (S69)) (r3 : Int) (w : World) (hr0_1 : Kd.C k107 w A0_1 l0_1.length l0_1) (hc0_1 : l0_1.length ≤ c0_1) (h : laws_toKey.f k a0_0 l0_1 a0_2 = some (r1, r2, r3)) :
 Calls Tryd.prog 15 #[.agg #[.string a0_0, .slice A0_1 l0_1.length c0_1, .int .i64 a0_2]] w fun e w' => ∃ v1_ : Value, e = .returned (.agg #[.string r1, v1_, .int .i64 r3]) ∧ Kd.R k69 69 w' w.heap.size (fun _ => True) v1_ r2 ∧ Below w.heap.size w w' := by
 have hu37 := Tryd.underlying37
 have hu25 := Tryd.underlying25
 have HR0_1 := aM hr0_1
 have HC0_1 := aM hc0_1
 clear hr0_1 hc0_1
 have HB := aM (Below.refl w.heap.size w)
 have H : ((laws_toTagS.f k l0_1).bind fun t104 => (some (a0_0, t104, a0_2))) = some (r1, r2, r3) := h
 clear h
 replace H := Option.bind_eq_some_iff.mp H
 obtain ⟨t104, A20, H⟩ := H
 try dsimp only at H
 have A2 := aM A20
 clear A20
 simp only [Option.some.injEq, Prod.mk.injEq] at H
 obtain ⟨rfl, rfl, rfl⟩ := H
 go_enter Tryd.func15, Tryd.ntmps15
 go_wp2_with (first | ((with_reducible refine gate_dst (N := 1) rfl ?_); refine box_event ?hg (N := 1) ?hd (cs := #[.string a0_0, .slice A0_1 l0_1.length c0_1, .int .i64 a0_2]) (t := 37) ?hr ?_; (case hd => rfl); (case hg => rfl); (case hr => first | (go_simp; done) | (go_simp; rfl)); intro gb101 hg w3 hbox hb; have _ := aM (below_step hbZ hb); have _ := aM hbox; have _ := szZ hg; have _ := szZ hg; clear HB; rename_i HB BK101 GW101 GE101; clear hb hbox hg) | ((with_reducible refine gate_dst (N := 2) rfl ?_); refine box_event ?hg (N := 2) ?hd (cs := #[.string (⟨#[]⟩ : ByteArray), .slice none 0 0, .int .i64 0]) (t := 25) ?hr ?_; (case hd => rfl); (case hg => rfl); (case hr => first | (go_simp; done) | (go_simp; rfl)); intro gb102 hg w4 hbox hb; have _ := bB gb101 hb; have _ := aM (below_step hbZ hb); have _ := aM hbox; have _ := szZ hg; have _ := szZ hg; have ⟨_, _⟩ := nbB gb101 hg; clear BK101 HB; rename_i BK101 HB BK102 GW102 GE102 NB101_102 NB102_101; clear hb hbox hg) | ((with_reducible refine gate_dst (N := 3) rfl ?_); refine box_event ?hg (N := 3) ?hd (cs := #[.string (⟨#[]⟩ : ByteArray), .slice none 0 0, .int .i64 0]) (t := 25) ?hr ?_; (case hd => rfl); (case hg => rfl); (case hr => first | (go_simp; done) | (go_simp; rfl)); intro gb103 hg w5 hbox hb; have _ := bB gb101 hb; have _ := bB gb102 hb; have _ := aM (below_step hbZ hb); have _ := aM hbox; have _ := szZ hg; have _ := szZ hg; have ⟨_, _⟩ := nbB gb101 hg; have ⟨_, _⟩ := nbB gb102 hg; clear BK101 BK102 HB; rename_i BK101 BK102 HB BK103 GW103 GE103 NB101_103 NB103_101 NB102_103 NB103_102; clear hb hbox hg; have hnb6 := NB101_102.out; have hnc6 := NB102_101.out; have hnb7 := NB101_103.out; have hnc7 := NB103_101.out; obtain ⟨hcz8_0, hcz8_1, hcz8_2, hfz8_0, hfz8_1, hfz8_2⟩ := cellsZ3 BK101.out; have hnb9 := NB103_102.out; have hnc9 := NB102_103.out; obtain ⟨hcz10_0, hcz10_1, hcz10_2, hfz10_0, hfz10_1, hfz10_2⟩ := cellsZ3 BK103.out) | ((with_reducible refine gate_callee (f := 46) rfl ?_); refine goesL_ (some 9) rfl rfl Tryd.func46 (by kernel_rfl) rfl #[.slice A0_1 l0_1.length c0_1] rfl zee81 ?_; (with_reducible refine (laws_toTagS.calls k _ _ l0_1 t104 _ ?side1 ?side2 A2.out).mono ?_); (case side1 => exact Kd.C_below HR0_1.out hbZ); (case side2 => exact HC0_1.out); rintro e w11 ⟨v105, rfl, ho0, hb⟩; refine ⟨_, rfl, ?_⟩; have _ := aM (Kd.R_lower ho0 (below_size hbZ)); have _ := bB gb101 hb; have _ := bB gb102 hb; have _ := aM (blk_below (g := gb103) (o := .cells #[.string a0_0, .slice none 0 0, .int .i64 0] 25 (0, 0)) bkZ hb); have _ := aM (below_step hbZ hb); clear BK101 BK102 BK103 HB; rename_i HO106 BK101 BK102 BK103 HB; (try clear hb); (try clear ho0); obtain ⟨Ao12, co12, eo12⟩ := Kd.R_slice HO106.out; subst eo12; obtain ⟨hcz13_0, hcz13_1, hcz13_2, hfz13_0, hfz13_1, hfz13_2⟩ := cellsZ3 BK103.out; obtain ⟨hcz14_0, hcz14_1, hcz14_2, hfz14_0, hfz14_1, hfz14_2⟩ := cellsZ3 BK101.out; obtain ⟨hcz15_0, hcz15_1, hcz15_2, hfz15_0, hfz15_1, hfz15_2⟩ := cellsZ3 BK102.out))
 refine bodyPost_ret (results_cell_row rfl _ _ gb102 25 #[.string a0_0, .slice Ao12 t104.length co12, .int .i64 a0_2] (0, 0) _ rfl bkZ Tryd.underlying25 rfl (by kernel_rfl)) rfl ?_
 exact ⟨_, z674d, by (with_reducible repeat (first | apply Kd.R_alloc | apply Kd.R_drewN | apply Kd.R_drew)); exact Kd.R_mono (Kd.R_far (p := ⟨gb102, 2, none⟩) (Kd.R_far (p := ⟨gb102, 1, none⟩) (Kd.R_far (p := ⟨gb102, 0, none⟩) (Kd.R_far (p := ⟨gb103, 2, none⟩) (Kd.R_far (p := ⟨gb103, 1, none⟩) (Kd.R_types (Kd.R_types HO106.out BK103.out (by decide)) BK102.out (by decide)) (fun _ hk => hk.1.2) (.slice Ao12 t104.length co12)) (fun _ hk => hk.1.2) (.int .i64 a0_2)) (fun _ hk => hk.2) (.string a0_0)) (fun _ hk => hk.2) (.slice Ao12 t104.length co12)) (fun _ hk => hk.2) (.int .i64 a0_2)) (fun _ hk => trivial), zcb41⟩

end Go.Proofs.YteogadaloebdaaaDoor.P

/- Keys that come in: their size, their copies, and that a copy equals itself. -/
namespace Go.Proofs.YteogadaloebdaaaDoor.Lem
open Go Go.RowKit Go.Proofs.YteogadaloebdaaaDoor.P Go.Proofs.YteogadaloebdaaaDoorW.PrintWords Go.Proofs.YteogadaloebdaaaDoorW.PrintLast Go.Proofs.YteogadaloebdaaaDoorW.PrintMore

abbrev Lt := S107
theorem rdL_get {l : List Lt} {i : Nat} (h : i < l.length) : rd_T107 l (i : Int) = l[i] := by
  unfold rd_T107
  rw [Int.toNat_natCast, List.getD_eq_getElem?_getD, List.getElem?_eq_getElem h]
  rfl
/-- Texts that Go can hold. -/
def Held (l : List Lt) : Prop := ∀ t ∈ l, t.f0.size ≤ 9223372036854775807 ∧ t.f1.size ≤ 9223372036854775807

theorem szTag_ok {a b : ByteArray} (ha : a.size ≤ 9223372036854775807) (hb : b.size ≤ 9223372036854775807) {x : Int} (h0 : 0 ≤ x) (h1 : x ≤ 1048576) : ∃ r, laws_szTag.f a b x = some r ∧ (r < 0 ∨ (0 ≤ r ∧ r ≤ x)) := by
  unfold laws_szTag.f
  rw [show wrap64 (x - (a.size : Int)) = x - (a.size : Int) from w64 (by omega) (by omega)]
  by_cases h : x - (a.size : Int) < 0
  · exact ⟨-1, by rw [if_pos h], .inl (by omega)⟩
  · rw [if_neg h, show wrap64 (x - (a.size : Int) - (b.size : Int)) = x - (a.size : Int) - (b.size : Int) from w64 (by omega) (by omega)]
    by_cases h2 : x - (a.size : Int) - (b.size : Int) < 0
    · exact ⟨-1, by rw [if_pos h2], .inl (by omega)⟩
    · exact ⟨_, by rw [if_neg h2], .inr ⟨by omega, by omega⟩⟩
theorem szTagS_l0 (l : List Lt) (hl : l.length ≤ 1048576) (hh : Held l) : ∀ (d i k : Nat) (x : Int), i + d = l.length → d < k → 0 ≤ x → x ≤ 1048576 → ∃ r, laws_szTagS.l0 k l x (i : Int) = some r ∧ (r < 0 ∨ (0 ≤ r ∧ r ≤ x)) := by
  intro d
  induction d with
  | zero =>
    intro i k x hi hk h0 h1
    obtain ⟨k, rfl⟩ : ∃ q, k = q + 1 := ⟨k - 1, by omega⟩
    exact ⟨x, by rw [laws_szTagS.l0, if_neg (by omega)], .inr ⟨h0, Int.le_refl _⟩⟩
  | succ d ih =>
    intro i k x hi hk h0 h1
    obtain ⟨k, rfl⟩ : ∃ q, k = q + 1 := ⟨k - 1, by omega⟩
    have hlt : i < l.length := by omega
    obtain ⟨ha, hb⟩ := hh l[i] (List.getElem_mem hlt)
    obtain ⟨r, hr, hr2⟩ := szTag_ok ha hb h0 h1
    rw [laws_szTagS.l0, if_pos (by omega), if_pos (by omega), rdL_get hlt, hr, Option.bind_some]
    by_cases hn : r < 0
    · exact ⟨-1, by rw [if_pos hn], .inl (by omega)⟩
    · rw [if_neg hn, show wrap64 ((i : Int) + 1) = ((i + 1 : Nat) : Int) from by rw [w64 (by omega) (by omega)]; omega]
      obtain ⟨r2, hq, hq2⟩ := ih (i + 1) k r (by omega) (by omega) (by omega) (by omega)
      exact ⟨r2, hq, by omega⟩
theorem szTagS_ok {l : List Lt} (hl : l.length ≤ 9223372036854775807) (hh : Held l) {x : Int} (h0 : 0 ≤ x) (h1 : x ≤ 1048576) {k : Nat} (hk : l.length < k ∨ 1048576 < k) : ∃ r, laws_szTagS.f k l x = some r ∧ (r < 0 ∨ (0 ≤ r ∧ r ≤ x ∧ l.length ≤ 1048576)) := by
  unfold laws_szTagS.f
  rw [show wrap64 (x - (l.length : Int)) = x - (l.length : Int) from w64 (by omega) (by omega)]
  by_cases h : x - (l.length : Int) < 0
  · exact ⟨-1, by rw [if_pos h], .inl (by omega)⟩
  · rw [if_neg h]
    obtain ⟨r, hr, hr2⟩ := szTagS_l0 l (by omega) hh l.length 0 k (x - (l.length : Int)) (by omega) (by omega) (by omega) (by omega)
    exact ⟨r, hr, by omega⟩
theorem szKey_ok {m : ByteArray} (hm : m.size ≤ 9223372036854775807) {l : List Lt} (hl : l.length ≤ 9223372036854775807) (hh : Held l) (st : Int) {x : Int} (h0 : 0 ≤ x) (h1 : x ≤ 1048576) {k : Nat} (hk : l.length < k ∨ 1048576 < k) : ∃ r, laws_szKey.f k m l st x = some r ∧ (r < 0 ∨ (0 ≤ r ∧ r ≤ x ∧ l.length ≤ 1048576)) := by
  unfold laws_szKey.f
  rw [show wrap64 (x - (m.size : Int)) = x - (m.size : Int) from w64 (by omega) (by omega)]
  by_cases h : x - (m.size : Int) < 0
  · exact ⟨-1, by rw [if_pos h], .inl (by omega)⟩
  · rw [if_neg h]
    obtain ⟨r, hr, hr2⟩ := szTagS_ok hl hh (x := x - (m.size : Int)) (by omega) (by omega) hk
    rw [hr, Option.bind_some]
    by_cases hn : r < 0
    · exact ⟨-1, by rw [if_pos hn], .inl (by omega)⟩
    · exact ⟨r, by rw [if_neg hn], by omega⟩

/-- The tag as the program has it. -/
def cvT (t : Lt) : Tg := ⟨t.f0, t.f1⟩
theorem set_copy {α β : Type} (f : α → β) (z : β) {l : List α} {i d : Nat} (h : i < l.length) : ((l.take i).map f ++ List.replicate (d + 1) z).set i (f l[i]) = (l.take (i + 1)).map f ++ List.replicate d z := by
  have hl : ((l.take i).map f).length = i := by rw [List.length_map, List.length_take]; omega
  rw [List.set_append_right _ _ (by omega), hl, Nat.sub_self, List.replicate_succ, List.set_cons_zero, List.take_succ_eq_append_getElem h, List.map_append, List.append_assoc]
  rfl
theorem toTagS_l0 {l : List Lt} (hl : l.length ≤ 1048576) : ∀ (d k i : Nat), i + d = l.length → d < k → laws_toTagS.l0 k l ((l.take i).map cvT ++ List.replicate d z69) (i : Int) = some (l.map cvT) := by
  intro d
  induction d with
  | zero =>
    intro k i hi hk
    obtain ⟨k, rfl⟩ : ∃ q, k = q + 1 := ⟨k - 1, by omega⟩
    rw [laws_toTagS.l0, if_neg (by omega), List.take_of_length_le (by omega), List.replicate_zero, List.append_nil]
  | succ d ih =>
    intro k i hi hk
    obtain ⟨k, rfl⟩ : ∃ q, k = q + 1 := ⟨k - 1, by omega⟩
    have hlt : i < l.length := by omega
    have hnext := ih k (i + 1) (by omega) (by omega)
    rw [laws_toTagS.l0, if_pos (by omega), if_pos (by omega), rdL_get hlt]
    unfold laws_toTag.f
    rw [Option.bind_some, if_pos (by rw [List.length_append, List.length_map, List.length_take, List.length_replicate]; omega), Int.toNat_natCast, show wrap64 ((i : Int) + 1) = ((i + 1 : Nat) : Int) from by rw [w64 (by omega) (by omega)]; omega]
    have e := set_copy cvT z69 (d := d) hlt
    show laws_toTagS.l0 k l (((l.take i).map cvT ++ List.replicate (d + 1) z69).set i (cvT l[i])) _ = _
    rw [e]
    exact hnext
theorem toTagS_ok {l : List Lt} (hl : l.length ≤ 1048576) {k : Nat} (hk : l.length < k) : laws_toTagS.f k l = some (l.map cvT) := by
  unfold laws_toTagS.f
  rw [if_pos (by omega), if_pos (by rw [Int.toNat_natCast]; omega), Int.toNat_natCast]
  have h := toTagS_l0 hl l.length k 0 (by omega) hk
  rw [List.take_zero, List.map_nil, List.nil_append] at h
  exact h
theorem toKey_ok (m : ByteArray) {l : List Lt} (hl : l.length ≤ 1048576) (st : Int) {k : Nat} (hk : l.length < k) : laws_toKey.f k m l st = some (m, l.map cvT, st) := by
  unfold laws_toKey.f
  rw [toTagS_ok hl hk, Option.bind_some]

theorem eqTagS_l0 (l : List Tg) (hl : l.length ≤ 1048576) : ∀ (d i k : Nat), i + d = l.length → d < k → laws_eqTagS.l0 k l l (i : Int) = some true := by
  intro d
  induction d with
  | zero =>
    intro i k hi hk
    obtain ⟨k, rfl⟩ : ∃ q, k = q + 1 := ⟨k - 1, by omega⟩
    rw [laws_eqTagS.l0, if_neg (by omega)]
  | succ d ih =>
    intro i k hi hk
    obtain ⟨k, rfl⟩ : ∃ q, k = q + 1 := ⟨k - 1, by omega⟩
    have hnext := ih (i + 1) k (by omega) (by omega)
    rw [laws_eqTagS.l0, if_pos (by omega), if_pos (by omega), if_pos (by omega)]
    unfold laws_eqTag.f
    rw [if_pos rfl, if_pos rfl, Option.bind_some, if_pos rfl, show wrap64 ((i : Int) + 1) = ((i + 1 : Nat) : Int) from by rw [w64 (by omega) (by omega)]; omega]
    exact hnext
theorem eqTagS_ok {l : List Tg} (hl : l.length ≤ 1048576) {k : Nat} (hk : l.length < k) : laws_eqTagS.f k l l = some true := by
  unfold laws_eqTagS.f
  rw [if_pos rfl]
  exact eqTagS_l0 l hl l.length 0 k (by omega) hk
theorem eqKey_ok (m : ByteArray) {l : List Tg} (hl : l.length ≤ 1048576) (st : Int) {k : Nat} (hk : l.length < k) : laws_eqKey.f k m l st m l st = some true := by
  unfold laws_eqKey.f
  rw [if_pos rfl, eqTagS_ok hl hk, Option.bind_some, if_pos rfl, if_pos rfl]
end Go.Proofs.YteogadaloebdaaaDoor.Lem

/- Marks that are written into rows, and told again: texts and tags. No conditions. -/
namespace Go.Proofs.YteogadaloebdaaaDoor.Lem
open Go Go.RowKit Go.Proofs.YteogadaloebdaaaDoor.P Go.Proofs.YteogadaloebdaaaDoorW.PrintWords Go.Proofs.YteogadaloebdaaaDoorW.PrintLast Go.Proofs.YteogadaloebdaaaDoorW.PrintMore

theorem set_mid {α : Type} (pre : List α) (a v : α) (rest : List α) {i : Nat} (h : i = pre.length) : (pre ++ a :: rest).set i v = pre ++ v :: rest := by
  subst h
  rw [List.set_append_right _ _ (Nat.le_refl _), Nat.sub_self, List.set_cons_zero]
theorem getD_mid {α : Type} (pre : List α) (a : α) (rest : List α) (d : α) {i : Nat} (h : i = pre.length) : (pre ++ a :: rest).getD i d = a := by
  subst h
  rw [List.getD_eq_getElem?_getD, List.getElem?_append_right (Nat.le_refl _), Nat.sub_self]
  rfl

def markTl : Nat → Int → ByteArray → ByteArray
  | 0, _, acc => (⟨#[109]⟩ : ByteArray) ++ acc
  | d + 1, x, acc => if x > 0 then markTl d (Int.tdiv x 10) ((strOfNums [(wrap64 (48 + (Int.tmod x 10))) % 256]) ++ acc) else (⟨#[109]⟩ : ByteArray) ++ acc
theorem markText_l0 : ∀ (d k : Nat) (x : Int) (acc : ByteArray), 0 ≤ x → x < 10 ^ d → x ≤ 9223372036854775807 → d < k → acc.size + d ≤ 1000 → laws_markText.l0 k x acc = some (markTl d x acc)
  | 0, k, x, acc, h0, h1, _, hk, ha => by
    obtain ⟨k, rfl⟩ : ∃ q, k = q + 1 := ⟨k - 1, by omega⟩
    have hx : ¬ x > 0 := by simp at h1; omega
    rw [laws_markText.l0, if_neg hx, if_pos (by omega)]
    rfl
  | d + 1, k, x, acc, h0, h1, hb, hk, ha => by
    obtain ⟨k, rfl⟩ : ∃ q, k = q + 1 := ⟨k - 1, by omega⟩
    rw [laws_markText.l0, markTl]
    by_cases hx : x > 0
    · have hz : (strOfNums [(wrap64 (48 + (Int.tmod x 10))) % 256]).size = 1 := rfl
      have e : Int.tdiv x 10 = x / 10 := Int.tdiv_eq_ediv_of_nonneg h0
      have hp : (10 : Int) ^ (d + 1) = 10 ^ d * 10 := Int.pow_succ 10 d
      have hlt : x / 10 < 10 ^ d := by omega
      have ih := markText_l0 d k (x / 10) ((strOfNums [(wrap64 (48 + (Int.tmod x 10))) % 256]) ++ acc) (by omega) hlt (by omega) (by omega) (by rw [ByteArray.size_append, hz]; omega)
      rw [if_pos hx, if_pos hx, Option.bind_some, hz, if_pos (by omega), e, w64 (by omega) (by omega)]
      exact ih
    · rw [if_neg hx, if_neg hx, if_pos (by omega)]
def markT (x : Int) : ByteArray := if x ≤ 0 then ⟨#[109, 48]⟩ else markTl 18 x ⟨#[]⟩
theorem markText_ok {x : Int} (h0 : 0 ≤ x) (h1 : x < 1000000000000000000) {k : Nat} (hk : 20 < k) : laws_markText.f k x = some (markT x) := by
  unfold laws_markText.f markT
  split
  · rfl
  · exact markText_l0 18 k x _ h0 (by simpa using h1) (by omega) (by omega) (by decide)

abbrev MTg := S69
def markTags : List MTg → Int → List MTg
  | [], _ => []
  | _ :: r, x => ⟨markT x, markT (x + 1)⟩ :: markTags r (x + 2)
theorem markTags_length : ∀ (l : List MTg) (x : Int), (markTags l x).length = l.length
  | [], _ => rfl
  | _ :: r, x => by rw [markTags, List.length_cons, List.length_cons, markTags_length r]
theorem rdTg_mid (pre : List MTg) (a : MTg) (rest : List MTg) : rd_T69 (pre ++ a :: rest) (pre.length : Int) = a := getD_mid _ _ _ _ rfl
theorem markTagS_l0 : ∀ (rest pre : List MTg) (k : Nat) (x : Int), 0 ≤ x → x + 2 * rest.length < 1000000000000000000 → pre.length + rest.length ≤ 1000000000 → rest.length + 21 < k →
    laws_markTagS.l0 k (pre ++ rest) x (pre.length : Int) = some (x + 2 * rest.length, pre ++ markTags rest x)
  | [], pre, k, x, h0, h1, h2, hk => by
    obtain ⟨k, rfl⟩ : ∃ q, k = q + 1 := ⟨k - 1, by omega⟩
    rw [laws_markTagS.l0, if_neg (by rw [List.append_nil]; omega), List.append_nil, markTags, List.append_nil]
    simp
  | a :: rest, pre, k, x, h0, h1, h2, hk => by
    obtain ⟨k, rfl⟩ : ∃ q, k = q + 1 := ⟨k - 1, by omega⟩
    rw [List.length_cons] at h1 h2 hk
    have ih := markTagS_l0 rest (pre ++ [⟨markT x, markT (x + 1)⟩]) k (x + 2) (by omega) (by omega) (by rw [List.length_append, List.length_singleton]; omega) (by omega)
    rw [laws_markTagS.l0, if_pos (by rw [List.length_append, List.length_cons]; omega), markText_ok h0 (by omega) (by omega), Option.bind_some, if_pos (by omega), Int.toNat_natCast, set_mid _ _ _ _ rfl, Option.bind_some,
      w64 (by omega) (by omega), markText_ok (by omega) (by omega) (by omega), Option.bind_some, set_mid _ _ _ _ rfl, rdTg_mid, rdTg_mid, w64 (x := x + 1 + 1) (by omega) (by omega), show wrap64 ((pre.length : Int) + 1) = ((pre ++ [(⟨markT x, markT (x + 1)⟩ : MTg)]).length : Int) from by rw [w64 (by omega) (by omega), List.length_append, List.length_singleton]; omega, show x + 1 + 1 = x + 2 from by omega]
    rw [List.append_assoc, List.singleton_append] at ih
    rw [ih, markTags, List.length_cons, List.append_assoc, List.singleton_append]
    congr 2
    omega
theorem markTagS_ok (l : List MTg) {k : Nat} {x : Int} (h0 : 0 ≤ x) (h1 : x + 2 * l.length < 1000000000000000000) (h2 : l.length ≤ 1000000000) (hk : l.length + 21 < k) : laws_markTagS.f k l x = some (x + 2 * l.length, markTags l x) := markTagS_l0 l [] k x h0 h1 (by simpa using h2) hk
theorem heldTagS_l0 : ∀ (rest pre : List MTg) (k : Nat) (x : Int), 0 ≤ x → x + 2 * rest.length < 1000000000000000000 → pre.length + rest.length ≤ 1000000000 → rest.length + 21 < k →
    laws_heldTagS.l0 k (pre ++ markTags rest x) x (pre.length : Int) = some (x + 2 * rest.length)
  | [], pre, k, x, h0, h1, h2, hk => by
    obtain ⟨k, rfl⟩ : ∃ q, k = q + 1 := ⟨k - 1, by omega⟩
    rw [laws_heldTagS.l0, markTags, List.append_nil, if_neg (by omega)]
    simp
  | a :: rest, pre, k, x, h0, h1, h2, hk => by
    obtain ⟨k, rfl⟩ : ∃ q, k = q + 1 := ⟨k - 1, by omega⟩
    rw [List.length_cons] at h1 h2 hk
    have ih := heldTagS_l0 rest (pre ++ [⟨markT x, markT (x + 1)⟩]) k (x + 2) (by omega) (by omega) (by rw [List.length_append, List.length_singleton]; omega) (by omega)
    rw [List.append_assoc, List.singleton_append] at ih
    rw [laws_heldTagS.l0, markTags, if_pos (by rw [List.length_append, List.length_cons]; omega), if_pos (by omega), markText_ok h0 (by omega) (by omega), Option.bind_some, rdTg_mid, if_pos rfl, w64 (by omega) (by omega), markText_ok (by omega) (by omega) (by omega), Option.bind_some, if_pos rfl,
      w64 (x := x + 1 + 1) (by omega) (by omega), show wrap64 ((pre.length : Int) + 1) = ((pre ++ [(⟨markT x, markT (x + 1)⟩ : MTg)]).length : Int) from by rw [w64 (by omega) (by omega), List.length_append, List.length_singleton]; omega, show x + 1 + 1 = x + 2 from by omega, ih, List.length_cons]
    congr 1
    omega
theorem heldTagS_ok (l : List MTg) {k : Nat} {x : Int} (h0 : 0 ≤ x) (h1 : x + 2 * l.length < 1000000000000000000) (h2 : l.length ≤ 1000000000) (hk : l.length + 21 < k) : laws_heldTagS.f k (markTags l x) x = some (x + 2 * l.length) := heldTagS_l0 l [] k x h0 h1 (by simpa using h2) hk
end Go.Proofs.YteogadaloebdaaaDoor.Lem

/- The program's ReadKeyText answers as the reference's: FnExactReadKeyText answers true at every text. -/
namespace Go.Proofs.YteogadaloebdaaaDoor.Pure
open Go Go.RowKit Go.Proofs.YteogadaloebdaaaDoor.P Go.Proofs.YteogadaloebdaaaDoorW.PrintWords Go.Proofs.YteogadaloebdaaaDoorW.PrintLast Go.Proofs.YteogadaloebdaaaDoorW.PrintMore Go.Proofs.YteogadaloebdaaaDoor.Lem

theorem markKey_ok (m : ByteArray) {l : List Tg} (hl : l.length ≤ 4) (st : Int) {k : Nat} (hk : 30 < k) : laws_markKey.f k m l st 1 = some (1 + 2 * (l.length : Int), markTags l 1) := by
  unfold laws_markKey.f
  rw [markTagS_ok l (by decide) (by omega) (by omega) (by omega), Option.bind_some]
theorem heldKey_ok (m : ByteArray) {l : List Tg} (hl : l.length ≤ 4) (st : Int) {k : Nat} (hk : 30 < k) : laws_heldKey.f k m (markTags l 1) st 1 = some (1 + 2 * (l.length : Int)) := by
  unfold laws_heldKey.f
  rw [heldTagS_ok l (by decide) (by omega) (by omega) (by omega), Option.bind_some, if_neg (by omega)]
theorem FnExactReadKeyText (s : ByteArray) {p : Prop} (_ : p) : ∃ k, laws_FnExactReadKeyText.f k s = some true := by
  by_cases hs : (s.size : Int) > 1048576
  · exact ⟨0, by unfold laws_FnExactReadKeyText.f; rw [if_pos hs]⟩
  · obtain ⟨r, h1, h2, h3⟩ := read_both (s := s) (by omega) (k := 2 * s.size + 300) (by omega)
    have h1' := spec_ReadKeyText.mono _ _ _ h1
    have h2' := impl_ReadKeyText.mono _ _ _ h2
    obtain ⟨m, l, st, b, rfl, hl⟩ : ∃ m l st b, r = (m, l, st, b) ∧ l.length ≤ 4 := by
      rcases h3 with rfl | ⟨m, l, st, rfl, hb, _⟩
      · exact ⟨_, _, _, _, rfl, Nat.zero_le _⟩
      · exact ⟨_, _, _, _, rfl, (keyB_parts hb).2.1⟩
    refine ⟨2 * s.size + 300 + 1, ?_⟩
    unfold laws_FnExactReadKeyText.f
    rw [if_neg hs, h1', Option.bind_some, h2', Option.bind_some]
    dsimp only
    rw [eqKey_ok m (by omega) st (by omega), Option.bind_some, if_pos rfl, bne_self_eq_false, laws_FnExactReadKeyText.j0, if_neg (by decide), markKey_ok m hl st (by omega), Option.bind_some]
    dsimp only
    rw [heldKey_ok m hl st (by omega), Option.bind_some, if_neg (by omega), if_pos rfl, h2, Option.bind_some]
    dsimp only
    rw [eqKey_ok m (by omega) st (by omega), Option.bind_some, if_pos rfl, bne_self_eq_false, show 2 * s.size + 300 = (2 * s.size + 299) + 1 by omega, laws_FnExactReadKeyText.j1, if_neg (by decide), heldKey_ok m hl st (by omega), Option.bind_some, if_neg (by omega), if_pos rfl]
end Go.Proofs.YteogadaloebdaaaDoor.Pure

/- An argument of a row, opened by its type: what reads as a value of the type is of the printed kind, at whatever depth. -/
namespace Go.Proofs.YteogadaloebdaaaDoor.Lem
open Go Go.ChangeShapes Go.WideShapes Go.RowKit Go.Proofs.YteogadaloebdaaaDoor.P Go.Proofs.YteogadaloebdaaaDoorW.PrintWords Go.Proofs.YteogadaloebdaaaDoorW.PrintLast Go.Proofs.YteogadaloebdaaaDoorW.PrintMore

theorem list_of {α : Type} {p : Nat → α → Prop} : ∀ n, (∀ i, i < n → ∃ z, p i z) → ∃ l : List α, l.length = n ∧ ∀ i z, l[i]? = some z → p i z
  | 0, _ => ⟨[], rfl, fun i z h => by simp at h⟩
  | n + 1, h => by
    obtain ⟨l, hl, hp⟩ := list_of n (fun i hi => h i (by omega))
    obtain ⟨z, hz⟩ := h n (by omega)
    refine ⟨l ++ [z], by rw [List.length_append, hl]; rfl, fun i y hy => ?_⟩
    rcases Nat.lt_or_ge i l.length with hi | hi
    · rw [List.getElem?_append_left hi] at hy
      exact hp i y hy
    · have hi' : i = l.length := by
        have := (List.getElem?_eq_some_iff.1 hy).1
        rw [List.length_append, List.length_singleton] at this
        omega
      subst hi'
      have : z = y := by simpa using hy
      subst this
      rw [hl]
      exact hz

theorem addr_add2 (a : Addr) (x y : Nat) : (a.add x).add y = a.add (x + y) := by
  unfold Addr.add
  by_cases hx : x = 0
  · subst hx
    rw [if_pos rfl, Nat.zero_add]
  · by_cases hy : y = 0
    · subst hy
      rw [if_pos rfl, Nat.add_zero]
    · rw [if_neg hx, if_neg hy, if_neg (by omega)]
      simp only [Nat.add_assoc]
section
variable {H : Type} (enc : TypeId × Value → H) (P : Program) (w : World) (base : Nat) (spare : Nat → Bool) (held : Bool)
/-- What reads as a value of the type is of the kind, and good. -/
def Opens {α : Type} (d : Kd α) (t : TypeId) (g : α → Prop) : Prop :=
  ∀ (fuel : Nat) (cs : List Value) (x : DataW H × List MemPlace), DataW.trod enc P w base spare held fuel t cs = some x → ∃ a, d.K w a cs ∧ g a
/-- .. a struct's fields from a place on. -/
def OpensF {α : Type} (d : Kd α) (fs : List Field) (o : Nat) (g : α → Prop) : Prop :=
  ∀ (n : Nat) (cs : List Value) (xs : List (DataW H × List MemPlace)), xs.length = fs.length → cs.length = o + (fs.map fun f => P.cellsOf f.type).sum →
    (∀ (i : Nat) (f : Field), fs[i]? = some f → DataW.trod enc P w base spare held n f.type ((cs.drop f.offset).take (P.cellsOf f.type)) = xs[i]?) → ∃ a, d.K w a (cs.drop o) ∧ g a
variable {enc P w base spare held}
variable {α β : Type} {t e : TypeId}
theorem opens_int {k : IntKind} (ht : P.underlying t = some (.int k)) : Opens enc P w base spare held (Kd.int k) t (fun n => (Lit.int k n).wf = true) := fun fuel cs x h => by
  obtain ⟨n, rfl, _, hw⟩ := DataW.trod_int ht h
  exact ⟨n, rfl, hw⟩
theorem opens_bool (ht : P.underlying t = some .bool) : Opens enc P w base spare held Kd.bool t (fun _ => True) := fun fuel cs x h => by
  obtain ⟨b, rfl, _⟩ := DataW.trod_bool ht h
  exact ⟨b, rfl, trivial⟩
theorem opens_string (ht : P.underlying t = some .string) : Opens enc P w base spare held Kd.string t (fun s => s.size ≤ maxLen) := fun fuel cs x h => by
  obtain ⟨s, rfl, _, hs⟩ := DataW.trod_string ht h
  exact ⟨s, rfl, hs⟩
theorem opens_slice {d : Kd α} {g : α → Prop} (e' : Nat) (ht : P.underlying t = some (.slice e)) (hd : Opens enc P w base spare held d e g) (hc : P.cellsOf e = d.sz) :
    Opens enc P w base spare held (Kd.slice e' d) t (fun l => l.length ≤ maxLen ∧ ∀ a ∈ l, g a) := fun fuel cs x h => by
  rcases DataW.trod_slice ht h with ⟨rfl, _⟩ | ⟨a, len, cap, elems, rest, n, _, rfl, _, hb, hl, hm, hlen, hel, _, _⟩
  · exact ⟨[], ⟨none, 0, rfl, Nat.le_refl _, rfl, Nat.zero_le _, fun h => absurd h (Nat.lt_irrefl _)⟩, Nat.zero_le _, fun a h => by simp at h⟩
  · have each : ∀ i, i < len → ∃ z, (∃ c, c.length = d.sz ∧ d.K w z c ∧ ∀ j u, c[j]? = some u → w.cell? (a.add (i * d.sz + j)) = some u) ∧ g z := by
      intro i hi
      have h1 := hel i hi
      rw [List.getElem?_eq_getElem (by omega), Option.bind_eq_some_iff] at h1
      obtain ⟨cs', hcs, ht'⟩ := h1
      obtain ⟨z, hz, hg⟩ := hd _ _ _ ht'
      obtain ⟨_, hl', hcell⟩ := World.cells?_some hcs
      refine ⟨z, ⟨cs', by rw [← hc]; exact hl', hz, fun j u hj => ?_⟩, hg⟩
      have hj' : j < P.cellsOf e := by have := (List.getElem?_eq_some_iff.1 hj).1; omega
      have h2 := hcell j hj'
      rw [hj, hc] at h2
      have ea : (a.add (i * d.sz)).add j = a.add (i * d.sz + j) := addr_add2 a _ _
      rw [← ea]
      exact h2
    obtain ⟨l, hll, hp⟩ := list_of len each
    subst hll
    have hml : l.length ≤ maxLen := Nat.le_trans hl hm
    refine ⟨l, ⟨some a, cap, rfl, hl, rfl, Nat.le_trans hml (of_decide_eq_true (by kernel_rfl)), fun _ => ⟨a, rfl, fun j z hz => (hp j z hz).1⟩⟩, hml, fun z hz => ?_⟩
    obtain ⟨i, hi⟩ := List.getElem?_of_mem hz
    exact (hp i z hi).2
theorem opensF_one {d : Kd α} {g : α → Prop} {f : Field} {o : Nat} (ho : f.offset = o) (h : Opens enc P w base spare held d f.type g) : OpensF enc P w base spare held d [f] o g := fun n cs xs hx hl hf => by
  match xs, hx with
  | [y], _ =>
    obtain ⟨a, ha, hg⟩ := h _ _ _ (hf 0 f rfl)
    rw [List.map_cons, List.map_nil, List.sum_cons, List.sum_nil] at hl
    rw [ho, List.take_of_length_le (by rw [List.length_drop]; omega)] at ha
    exact ⟨a, ha, hg⟩
theorem opensF_cons {d : Kd α} {d2 : Kd β} {g : α → Prop} {g2 : β → Prop} {f : Field} {fs : List Field} {o : Nat} (ho : f.offset = o) (h : Opens enc P w base spare held d f.type g) (hr : OpensF enc P w base spare held d2 fs (o + P.cellsOf f.type) g2) :
    OpensF enc P w base spare held (Kd.pair d d2) (f :: fs) o (fun a => g a.1 ∧ g2 a.2) := fun n cs xs hx hl hf => by
  match xs, hx with
  | y :: ys, hx =>
    obtain ⟨a, ha, hg⟩ := h _ _ _ (hf 0 f rfl)
    rw [List.map_cons, List.sum_cons] at hl
    obtain ⟨b, hb, hg2⟩ := hr n cs ys (by simpa using hx) (by omega) (fun i f' hi => hf (i + 1) f' hi)
    rw [ho] at ha
    refine ⟨(a, b), ⟨_, _, ?_, ha, hb⟩, hg, hg2⟩
    rw [← List.drop_drop, List.take_append_drop]
theorem opens_struct {d : Kd α} {g : α → Prop} {fs : Array Field} (ht : P.underlying t = some (.struct fs)) (hc : P.cellsOf t = (fs.toList.map fun f => P.cellsOf f.type).sum) (h : OpensF enc P w base spare held d fs.toList 0 g) : Opens enc P w base spare held d t g := fun fuel cs x hx => by
  obtain ⟨xs, n, _, _, hl, hlen, hf⟩ := DataW.trod_struct ht hx
  have := h n cs xs (by rw [hlen]; simp) (by omega) (fun i f hi => hf i f (by simpa using hi))
  rw [List.drop_zero] at this
  exact this
theorem opens_iso {d : Kd α} {g : α → Prop} (f : β → α) (mk : α → β) (hmk : ∀ a, f (mk a) = a) (h : Opens enc P w base spare held d t g) : Opens enc P w base spare held (Kd.iso d f) t (fun b => g (f b)) := fun fuel cs x hx => by
  obtain ⟨a, ha, hg⟩ := h fuel cs x hx
  exact ⟨mk a, by show d.K w (f (mk a)) cs; rw [hmk]; exact ha, by show g (f (mk a)); rw [hmk]; exact hg⟩
end
end Go.Proofs.YteogadaloebdaaaDoor.Lem

/- A row's wrap that hands on what start-up has laid, and the world's shape. -/
namespace Go.Proofs.YteogadaloebdaaaDoor.Lem
open Go
theorem handed_shaped {H : Type} {enc : TypeId × Value → H} {a : Assume} {C : Checked} {os : Os} {f : FuncId} {fn : Func} {s : ChangeSpec} {apart fresh handsOn again : Bool} {X : World → Array Value → Prop}
    (hX : ∀ (w w' : World) (args : Array Value), w.heap = w'.heap → X w args → X w' args)
    (own : ownKnob C.prog.godebug = none) (started : os.Started) (noInit : C.prog.inits.idxOf? f = none) (hfn : C.prog.funcs[f]? = some fn)
    (witness : ∃ (w : World) (tape : Tape) (i : Input), w.os = os ∧ (w.forCall tape i).Shaped C.prog ∧ i.vars = [] ∧ Input.okWide C.prog (w.forCall tape i) .any w.heap.size f i ∧
      ((s.pre enc C.prog fn [] apart (w.forCall tape i).memory i.args ∧ X (w.forCall tape i).memory i.args) ∧ sizedMet enc C.prog fn (OpenSpec.ofChange s) apart (w.forCall tape i).memory i.args) ∧ a.holds C.prog (lone (Frame.enter C.prog f i.args .normal) [] (w.forCall tape i)))
    (contract : ∀ (W : World) (base : Nat) (args : Array Value) (ds gs : List (DataW H)) (before : List MemPlace),
      (∀ (j : Nat) t v, fn.params[j]? = some t → args[j]? = some v → Value.okWide C.prog W .any base t v) →
      DataW.Whole enc C.prog fn.params.toList s.vars apart W args.toList ds gs before → X W args → W.ShapedOpen C.prog →
      Calls C.prog f args W fun e W' => ∃ v, e = .returned v ∧ s.post enc C.prog fn apart fresh handsOn again W args v W') :
    ReturnsInHanded a C os f .any (fun w args => (s.pre enc C.prog fn [] apart w args ∧ X w args) ∧ sizedMet enc C.prog fn (OpenSpec.ofChange s) apart w args) (s.post enc C.prog fn apart fresh handsOn again) := by
  refine returnsInHanded_of_calls own started noInit witness ?_
  intro w tape i _ hsh _ ⟨_, _, _, fn', hfn', _, _, _, _, hval⟩ hpre _
  obtain rfl : fn' = fn := Option.some.inj (hfn'.symm.trans hfn)
  obtain ⟨⟨⟨ds, gs, before, hw, _⟩, hx⟩, _⟩ := hpre
  exact (contract (w.forCall tape i) w.heap.size i.args ds gs before hval (DataW.Whole.of_heap (w' := w.forCall tape i) (by rfl) hw) (hX _ _ _ (by rfl) hx) hsh).mono fun e W' ⟨v, he, hp⟩ => by
    subst he
    exact ChangeSpec.post_blind hp
end Go.Proofs.YteogadaloebdaaaDoor.Lem

/- The row of laws.FnExactReadKeyText: its arguments opened, the walk, and the tied card. -/
namespace Go.Proofs.YteogadaloebdaaaDoor.fnExactReadKeyText
open Go Go.ChangeShapes Go.WideShapes Go.ChangeAt Go.RowKit Go.Proofs.YteogadaloebdaaaDoor.P Go.Proofs.YteogadaloebdaaaDoorW.PrintWords Go.Proofs.YteogadaloebdaaaDoorW.PrintLast Go.Proofs.YteogadaloebdaaaDoorW.PrintMore Go.Proofs.YteogadaloebdaaaDoor.Lem
set_option linter.unusedVariables false
theorem own : ownKnob Tryd.prog.godebug = none := by kernel_rfl
theorem laidOut : laidOutB Tryd.prog = true := by kernel_rfl
noncomputable def laidWorld (os : Os) : World := World.laidAll Tryd.prog os Rows.fnExactReadKeyTextRow.laid
theorem laidWorld_met (os : Os) (args : Array Value) : laidMetH Tryd.prog Rows.fnExactReadKeyTextRow.laid ((laidWorld os).forCall (fun _ _ => 0) ⟨#[], args, []⟩).memory := by
  rw [Go.MakeChecks.laidMetH_plain _ _ _ (by kernel_rfl)]
  exact laidMet_laidAll args (by kernel_rfl) (by kernel_rfl)
theorem gT : Tryd.prog.globalNamed "internal/strconv.uint64pow10" = some 3 := by kernel_rfl
theorem gTType : (Tryd.prog.globals[3]?).map (·.type) = some 169 := by kernel_rfl
theorem tab_of {W : World} (h : laidMetH Tryd.prog Rows.fnExactReadKeyTextRow.laid W) : Tab_ W := by
  rw [Go.MakeChecks.laidMetH_plain _ _ _ (by kernel_rfl)] at h
  have h2 : laidMet Tryd.prog (("internal/strconv.uint64pow10", Lib.tabData .u64 Lib.pow10Tab) :: [("unicode/utf8.acceptRanges", Rows.laid_unicode_utf8_acceptRanges), ("strconv.ErrRange", Rows.laid_strconv_ErrRange), ("strconv.ErrSyntax", Rows.laid_strconv_ErrSyntax), ("unicode/utf8.first", Rows.laid_unicode_utf8_first)]) W := h.tail.tail
  exact Lib.tabIs_of_head gT gTType Tryd.underlying169 Tryd.underlying60 (by kernel_rfl) (by kernel_rfl) h2
theorem tabM_of {W : World} (h : W.ShapedOpen Tryd.prog) : TabM_ W := Go.Proofs.cell_of_shapedOpen_int (zero := #[.int .i64 0]) (t := 3) h (of_decide_eq_true (by kernel_rfl)) (by kernel_rfl) rfl (by kernel_rfl) (by kernel_rfl) Tryd.underlying3
theorem starE : "*" ++ "errors.errorString" = "*errors.errorString" := by decide
theorem rowE (u : TypeId) (h : Tryd.prog.typeName? 3 u = some "*errors.errorString") : u = 164 :=
  typeName_ptr_named (nm := "errors.errorString") (by rw [starE]; kernel_rfl) (by kernel_rfl) (by decide) u (by rw [starE]; exact h)
theorem sent_of {n : String} {text : List UInt8} {r : List (String × DataW Unit)} {W : World} {g : Nat} (h : laidMet Tryd.prog ((n, .iface "*errors.errorString" (.ptr (.agg [.lit (.string text)]))) :: r) W) (hg : Tryd.prog.globalNamed n = some g) (ht : (Tryd.prog.globals[g]?).map (·.type) = some 86) : ∃ tp p, W.var? Tryd.prog n = some #[.iface tp p] := by
  obtain ⟨a, s, hv, _⟩ := laid_sentinel h hg ht Tryd.underlying86 rowE Tryd.underlying164 Tryd.underlying166 rfl rfl Tryd.underlying9 (by kernel_rfl) (by kernel_rfl)
  exact ⟨_, _, hv⟩
theorem tabE_of {W : World} (h : laidMetH Tryd.prog Rows.fnExactReadKeyTextRow.laid W) : TabE_ W := by
  rw [Go.MakeChecks.laidMetH_plain _ _ _ (by kernel_rfl)] at h
  exact ⟨sent_of h.tail.tail.tail.tail.tail (g := 1) (by kernel_rfl) (by kernel_rfl), sent_of h.tail.tail.tail.tail (g := 2) (by kernel_rfl) (by kernel_rfl)⟩
set_option maxRecDepth 100000 in
theorem lifted (os : Os) (started : os.Started) (H : Type) (enc : TypeId × Value → H) :
    ReturnsInHanded {} Tryd.checked os 6 .any (fun w args => (Rows.fnExactReadKeyTextSpec.pre enc Tryd.prog Tryd.f6 [] false w args ∧ laidMetH Tryd.prog Rows.fnExactReadKeyTextRow.laid w) ∧ sizedMet enc Tryd.prog Tryd.f6 (OpenSpec.ofChange Rows.fnExactReadKeyTextSpec) false w args)
      (Rows.fnExactReadKeyTextSpec.post enc Tryd.prog Tryd.f6 false true false false) := by
  refine handed_shaped (C := Tryd.checked) (X := fun w _ => laidMetH Tryd.prog Rows.fnExactReadKeyTextRow.laid w) (fun _ _ _ hh h => h.of_heap hh) own started (by kernel_rfl) Tryd.func6
    (ChangeSpec.witness_at (enc := enc) (C := Tryd.checked) (os := os) (X := fun w _ => laidMetH Tryd.prog Rows.fnExactReadKeyTextRow.laid w) false (laidWorld os) #[.string ⟨#[]⟩] 8 rfl (by kernel_rfl) (by kernel_rfl) (by kernel_rfl) (by kernel_rfl) (by kernel_rfl) (laidWorld_met os _)) ?_
  intro W base args ds gs before hval0 hW hL hsh
  have hval : ∀ (j : Nat) t v, Tryd.f6.params[j]? = some t → args[j]? = some v → Value.okWide Tryd.prog W .any base t v := hval0
  have hW' := hW
  obtain ⟨p, q, hA0, hV, rfl, hfz, hnd⟩ := hW
  have hA : DataW.TrodAll enc Tryd.prog W 0 (fun _ => true) true Tryd.f6.params.toList args.toList ds p := hA0
  rw [Tryd.params6] at hA hval
  obtain ⟨v0, vs0, d0, ds0, p0, q0, hargs, rfl, rfl, h0, r0⟩ := trodAll_cons hA
  obtain ⟨rfl, rfl, rfl⟩ := trodAll_nil r0
  obtain rfl : args = #[v0] := by cases args; simp_all
  obtain ⟨rfl, rfl⟩ := trodVars_none hV
  have k0 := h0
  have lt0 : ∀ x ∈ p0, x.block < W.heap.size := by obtain ⟨m, hm⟩ := k0; exact DataW.trod_lt m _ _ _ hm
  have hO0 : Opens enc Tryd.prog W 0 (fun _ => true) true Kd.string 9 _ := (opens_string Tryd.underlying9)
  obtain ⟨b0, rfl⟩ := okWide_string Tryd.underlying9 (hval 0 9 v0 rfl rfl)
  obtain ⟨a0, e0, hg0⟩ := hO0 _ _ _ h0.choose_spec
  obtain rfl : a0 = b0 := by
    have e1 : (Value.string b0).cells.toList = [.string a0] := e0
    simpa [Value.cells] using e1.symm
  clear hA0 hval0
  obtain ⟨k, hk⟩ := Pure.FnExactReadKeyText a0 hg0
  refine (laws_FnExactReadKeyText.calls (k := k) (a0 := a0) (hTabE_ := tabE_of hL) (hTabM_ := tabM_of hsh) (hTab_ := tab_of hL) (r := true) (w := W) (h := hk)).mono fun e W' ⟨he, bel⟩ => ?_
  subst he
  exact ⟨_, rfl, _, _, _, [], _, [], hW', trodAll_mk1 (shut_bool Tryd.underlying4 _), (trodAll_cons_mk (Below.trod laidOut (by kernel_rfl) (of_decide_eq_true (by kernel_rfl)) k0 bel lt0) trodAll_mk0), rfl, bel.frame _, fun h => by cases h⟩

theorem said : Rows.FnExactReadKeyTextSaid :=
  OpenClaim.holds_of_wide 6 Tryd.f6 rfl rfl rfl rfl rfl rfl rfl ⟨rfl, rfl, rfl, rfl, rfl⟩ rfl rfl rfl rfl rfl (by kernel_rfl) Tryd.func6 (by kernel_rfl)
    (of_decide_eq_true (by kernel_rfl)) (by unfold Func.isWrapper; first | (rw [if_pos (by decide +kernel)]; kernel_rfl) | (rw [if_neg (of_decide_eq_false (by kernel_rfl))]; exact ⟨rfl, rfl⟩))
    (fun os started H enc _ => lifted os started H enc)
theorem proved : Rows.FnExactReadKeyTextCardSaid :=
  Claim7.holds_tied_plain_at .later [] [.data, .data, .data, .data, .sentinel, .sentinel, .pinned] true (true, "530680aa149a9bfdf8426b77c2dd44bb6360f0ccd4b9951516dd54b6e96286e5") true
    said (fun _ h => by cases h) (by kernel_rfl) (fun _ h => by cases h) fnExactReadKeyText_row_tie rfl ⟨rfl, rfl⟩ (by kernel_rfl) rfl
    (fun f fn hf hfn => by
      obtain rfl : f = 6 := Option.some.inj ((show Tryd.prog.funcNamed "loop.example/g00150/laws.FnExactReadKeyText" = some 6 by kernel_rfl).symm.trans hf) |>.symm
      obtain rfl : fn = Tryd.f6 := (Option.some.inj (Tryd.func6.symm.trans hfn)).symm
      exact ⟨by kernel_rfl, fun j t ht => by
        rw [Tryd.params6] at ht
        have h3 : t = 9 := by
          rcases j with _ | j
          · exact ((by simpa using ht.symm))
          · simp at ht
        obtain rfl := h3
        · exact (show Tryd.prog.wantsStandIn 9 = false by kernel_rfl)⟩)
    (by kernel_rfl)
#print axioms proved
end Go.Proofs.YteogadaloebdaaaDoor.fnExactReadKeyText
namespace Go.Proofs.YteogadaloebdaaaDoor
/-- The tied card, under a short name, for the claim. -/
theorem fnExactReadKeyText_holds : Rows.FnExactReadKeyTextCardSaid := fnExactReadKeyText.proved
end Go.Proofs.YteogadaloebdaaaDoor
