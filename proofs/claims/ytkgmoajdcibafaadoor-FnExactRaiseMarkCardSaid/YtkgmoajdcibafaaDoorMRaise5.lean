/- Part 5 of the walks and words that Raise uses. No conditions of its own. -/
import Derived.Deep.RegionHeld3
import Derived.Laws.BitsAllLaws
import Derived.Lib.SlTrimSet
import Derived.Test.YtkgmoajdcibafaaDoorMRaise4

-- written by a program of this session's (wip/pp)
namespace Go.Proofs.YtkgmoajdcibafaaDoor.P
open Go.RowKit Go.Proofs.YtkgmoajdcibafaaDoorW.PrintWords Go.Proofs.YtkgmoajdcibafaaDoorW.PrintLast Go.Proofs.YtkgmoajdcibafaaDoorW.PrintMore
attribute [local go_sem] max2_int min2_int max_two min_two max_three min_three max_four min_four str_geq str_gtr str_leq   -- for this text's walks alone
set_option linter.unusedVariables false
set_option linter.unusedSimpArgs false

/-! ### slices_Clone_int_int: function 69 -/
def slices_Clone_int_int.f (l0 : List Int) : Option (List Int) := (some (([] : List Int) : List Int)).bind fun y101 => (if y101.length + l0.length < 17592186044416 then (some (y101 ++ l0)) else (none))
set_option maxHeartbeats 8000000 in
set_option maxRecDepth 100000 in
theorem slices_Clone_int_int.callsN (A0 : Option Addr) (c0 : Nat) (l0 : List Int) (r : List Int) (w : World) (hr0 : Kd.C (Kd.int .i64) w A0 l0.length l0) (hc0 : l0.length ≤ c0) (hn0 : A0 ≠ none) (h : slices_Clone_int_int.f l0 = some r) :
 Calls Tryd.prog 69 #[.slice A0 l0.length c0] w fun e w' => ∃ v0_ : Value, e = .returned (v0_) ∧ Kd.R (Kd.int .i64) 3 w' w.heap.size (fun _ => True) v0_ r ∧ Below w.heap.size w w' := by
 have HR0 := aM hr0
 have HC0 := aM hc0
 clear hr0 hc0
 have HB := aM (Below.refl w.heap.size w)
 have H : ((some (([] : List Int) : List Int)).bind fun y101 => (if y101.length + l0.length < 17592186044416 then (some (y101 ++ l0)) else (none))) = some r := h
 clear h
 have hnil_ : ∀ W_ : World, (Go.binOp .eql 33 (.slice A0 l0.length c0) (.slice none 0 0)).run Tryd.prog W_ = .ok (.bool false) W_ := fun W_ => by have hz_ : A0.isNone = false := (by cases A0 with | none => exact absurd rfl hn0 | some _ => rfl); have hy_ := Go.Lib.run_eql_slice_nil (P := Tryd.prog) W_ 33 3 A0 l0.length c0 0 0 Tryd.underlying33; rw [hz_] at hy_; exact hy_
 obtain ⟨y101, hy101⟩ : ∃ y_ : List Int, y_ = (([] : List Int)) := ⟨_, rfl⟩
 first | (replace H := bindS H; rw [← hy101] at H; dsimp only at H) | rw [← hy101] at H
 have Ny101 := aM hy101
 clear hy101
 replace H := ifS H; obtain ⟨c2, H⟩ := H
 have LMc2 := aM c2
 clear c2
 obtain ⟨y104, hy104⟩ : ∃ y_ : List Int, y_ = (y101 ++ l0) := ⟨_, rfl⟩
 first | (replace H := bindS H; rw [← hy104] at H; dsimp only at H) | rw [← hy104] at H
 have Ny104 := aM hy104
 clear hy104
 obtain rfl := Option.some.inj H
 go_enter Tryd.func69, Tryd.ntmps69
 go_wp2_with (first | ((with_reducible refine gate_dst (N := 5) rfl ?_); refine Kd.R_lit (Kd.int .i64) _ 3 ?hg (N := 5) ?hd (xs := ([] : List Int)) (inner := []) (ok := fun _ => True) (okp := fun _ => True) ?hr ?hp (fun _ hk => hk) trivial (Below.refl _ _) (Nat.le_refl _) (by simp) ?_; (case hd => rfl); (case hg => rfl); (case hr => first | (go_simp; done) | (go_simp; rfl)); (case hp => exact (Reps.none _ _)); intro v102 w3 ho4 hb hg_ hnew_; clear hg_ hnew_; (first | rw [← Ny101.out] at ho4 | (simp only [Int.reduceToNat] at ho4; rw [← Ny101.out] at ho4)); have _ := aM (Kd.R_lower ho4 (below_size hbZ)); have _ := aM (below_step hbZ hb); clear HB; rename_i HO103 HB; clear hb ho4) | ((with_reducible refine gate_builtin (b := .append) (xs := #[.tmp 5, .tmp 6]) rfl ?_); at_builtin; refine Kd.R_append_rows (Kd.int .i64) (w0 := w) w.heap.size rfl (.tmp 5) (.tmp 6) 33 3 (.int .i64 0) 8 rfl Tryd.underlying33 info3 rfl (by decide) (by omega) v102 y101 l0 _ _ _ (fun _ => True) (fun _ => False) rfl rfl ?aO ?aR (fun _ _ h => h) (fun _ h => h.elim) ?aF ?aB ?aS ?aL ?_; (case aR => repeat (first | exact (Kd.C_below HR0.out HB.out) | (with_reducible refine Kd.C_alloc ?_ _) | (with_reducible refine Kd.C_drewN ?_ _) | (with_reducible refine Kd.C_drew ?_))); (case aB => exact hbZ); (case aF => exact (fun _ _ => trivial)); (case aO => exact (rZ HO103.out)); (case aS => exact (below_size hbZ)); (case aL => have := LMc2.out; omega); intro v105 w5 ho hb hg hat; rw [← Ny104.out] at ho; have _ := aM hb; have _ := aM ho; clear HB HO103; rename_i HB HO106; clear ho hb hg hat))
 go_ret
 exact ⟨_, z674d, rZ HO106.out, z5acd⟩
set_option maxHeartbeats 400000 in
theorem slices_Clone_int_int.calls (A0 : Option Addr) (c0 : Nat) (l0 : List Int) (r : List Int) (w : World) (hr0 : Kd.C (Kd.int .i64) w A0 l0.length l0) (hc0 : l0.length ≤ c0) (h : slices_Clone_int_int.f l0 = some r) :
 Calls Tryd.prog 69 #[.slice A0 l0.length c0] w fun e w' => ∃ v0_ : Value, e = .returned (v0_) ∧ Kd.R (Kd.int .i64) 3 w' w.heap.size (fun _ => True) v0_ r ∧ Below w.heap.size w w' := by
 by_cases hA_ : A0 = none
 · subst hA_
   have hl_ : l0 = [] := by
    rcases Nat.eq_zero_or_pos l0.length with hz | hz
    · exact List.eq_nil_of_length_eq_zero hz
    · obtain ⟨ad, e, _⟩ := hr0.2.2 hz; cases e
   subst hl_
   have hr_ : r = [] := by
    have h2 := h
    simp [slices_Clone_int_int.f] at h2
    first | exact h2 | exact h2.symm
   subst hr_
   have hnil_ := fun W_ : World => Go.Lib.run_eql_slice_nil (P := Tryd.prog) W_ 33 3 none 0 c0 0 0 Tryd.underlying33
   go_enter Tryd.func69, Tryd.ntmps69
   go_wp2
   go_ret
   exact ⟨_, rfl, Kd.R_nil _ _ _ _ _, Below.refl _ _⟩
 · exact slices_Clone_int_int.callsN A0 c0 l0 r w hr0 hc0 hA_ h

end Go.Proofs.YtkgmoajdcibafaaDoor.P

-- written by a program of this session's (wip/pp)
namespace Go.Proofs.YtkgmoajdcibafaaDoor.P
open Go.RowKit Go.Proofs.YtkgmoajdcibafaaDoorW.PrintWords Go.Proofs.YtkgmoajdcibafaaDoorW.PrintLast Go.Proofs.YtkgmoajdcibafaaDoorW.PrintMore
attribute [local go_sem] max2_int min2_int max_two min_two max_three min_three max_four min_four str_geq str_gtr str_leq   -- for this text's walks alone
set_option linter.unusedVariables false
set_option linter.unusedSimpArgs false

/-! ### impl_Win_cloned: function 49 -/
def impl_Win_cloned.f (a0_0 : ByteArray) (l0_1 : List (S123)) (a0_2 : Int) (a0_3 : Int) (a0_4 : Int) (a0_5 : Int) (a0_6 : Int) (l0_7 : List Int) (a0_8 : Bool) (a0_9 : Int) (a0_10 : Bool) : Option (ByteArray × (List (S123)) × Int × Int × Int × Int × Int × List Int × Bool × Int × Bool) := (impl_Key_cloned.f a0_0 l0_1 a0_2).bind fun bt103 => ((slices_Clone_int_int.f l0_7).bind fun t108 => (some (bt103.1, bt103.2.1, bt103.2.2, a0_3, a0_4, a0_5, a0_6, t108, a0_8, a0_9, a0_10)))
set_option maxHeartbeats 8000000 in
set_option maxRecDepth 100000 in
theorem impl_Win_cloned.calls (a0_0 : ByteArray) (A0_1 : Option Addr) (c0_1 : Nat) (l0_1 : List (S123)) (a0_2 : Int) (a0_3 : Int) (a0_4 : Int) (a0_5 : Int) (a0_6 : Int) (A0_7 : Option Addr) (c0_7 : Nat) (l0_7 : List Int) (a0_8 : Bool) (a0_9 : Int) (a0_10 : Bool) (r1 : ByteArray) (r2 : List (S123)) (r3 : Int) (r4 : Int) (r5 : Int) (r6 : Int) (r7 : Int) (r8 : List Int) (r9 : Bool) (r10 : Int) (r11 : Bool) (w : World) (hr0_1 : Kd.C k123 w A0_1 l0_1.length l0_1) (hc0_1 : l0_1.length ≤ c0_1) (hr0_7 : Kd.C (Kd.int .i64) w A0_7 l0_7.length l0_7) (hc0_7 : l0_7.length ≤ c0_7) (h : impl_Win_cloned.f a0_0 l0_1 a0_2 a0_3 a0_4 a0_5 a0_6 l0_7 a0_8 a0_9 a0_10 = some (r1, r2, r3, r4, r5, r6, r7, r8, r9, r10, r11)) :
 Calls Tryd.prog 49 #[.agg #[.string a0_0, .slice A0_1 l0_1.length c0_1, .int .i64 a0_2, .int .i64 a0_3, .int .i64 a0_4, .int .i64 a0_5, .int .i64 a0_6, .slice A0_7 l0_7.length c0_7, .bool a0_8, .int .i64 a0_9, .bool a0_10]] w fun e w' => ∃ v1_ v7_ : Value, e = .returned (.agg #[.string r1, v1_, .int .i64 r3, .int .i64 r4, .int .i64 r5, .int .i64 r6, .int .i64 r7, v7_, .bool r9, .int .i64 r10, .bool r11]) ∧ Kd.R k123 123 w' w.heap.size (fun _ => True) v1_ r2 ∧ Kd.R (Kd.int .i64) 3 w' w.heap.size (fun _ => True) v7_ r8 ∧ Below w.heap.size w w' := by
 have hu37 := Tryd.underlying37
 have hu32 := Tryd.underlying32
 have HR0_1 := aM hr0_1
 have HC0_1 := aM hc0_1
 clear hr0_1 hc0_1
 have HR0_7 := aM hr0_7
 have HC0_7 := aM hc0_7
 clear hr0_7 hc0_7
 have HB := aM (Below.refl w.heap.size w)
 have H : ((impl_Key_cloned.f a0_0 l0_1 a0_2).bind fun bt103 => ((slices_Clone_int_int.f l0_7).bind fun t108 => (some (bt103.1, bt103.2.1, bt103.2.2, a0_3, a0_4, a0_5, a0_6, t108, a0_8, a0_9, a0_10)))) = some (r1, r2, r3, r4, r5, r6, r7, r8, r9, r10, r11) := h
 clear h
 replace H := Option.bind_eq_some_iff.mp H
 obtain ⟨⟨t103, t104, t107⟩, A20, H⟩ := H
 try dsimp only at H
 have A2 := aM A20
 clear A20
 replace H := Option.bind_eq_some_iff.mp H
 obtain ⟨t108, A30, H⟩ := H
 try dsimp only at H
 have A3 := aM A30
 clear A30
 simp only [Option.some.injEq, Prod.mk.injEq] at H
 obtain ⟨rfl, rfl, rfl, rfl, rfl, rfl, rfl, rfl, rfl, rfl, rfl⟩ := H
 go_enter Tryd.func49, Tryd.ntmps49
 go_wp2_with (first | ((with_reducible refine gate_dst (N := 1) rfl ?_); refine box_event ?hg (N := 1) ?hd (cs := #[.string a0_0, .slice A0_1 l0_1.length c0_1, .int .i64 a0_2, .int .i64 a0_3, .int .i64 a0_4, .int .i64 a0_5, .int .i64 a0_6, .slice A0_7 l0_7.length c0_7, .bool a0_8, .int .i64 a0_9, .bool a0_10]) (t := 37) ?hr ?_; (case hd => rfl); (case hg => rfl); (case hr => first | (go_simp; done) | (go_simp; rfl)); intro gb101 hg w4 hbox hb; have _ := aM (below_step hbZ hb); have _ := aM hbox; have _ := szZ hg; have _ := szZ hg; clear HB; rename_i HB BK101 GW101 GE101; clear hb hbox hg) | ((with_reducible refine gate_dst (N := 2) rfl ?_); refine box_event ?hg (N := 2) ?hd (cs := #[.string (⟨#[]⟩ : ByteArray), .slice none 0 0, .int .i64 0, .int .i64 0, .int .i64 0, .int .i64 0, .int .i64 0, .slice none 0 0, .bool false, .int .i64 0, .bool false]) (t := 37) ?hr ?_; (case hd => rfl); (case hg => rfl); (case hr => first | (go_simp; done) | (go_simp; rfl)); intro gb102 hg w5 hbox hb; have _ := bB gb101 hb; have _ := aM (below_step hbZ hb); have _ := aM hbox; have _ := szZ hg; have _ := szZ hg; have ⟨_, _⟩ := nbB gb101 hg; clear BK101 HB; rename_i BK101 HB BK102 GW102 GE102 NB101_102 NB102_101; clear hb hbox hg; have hnb6 := NB101_102.out; have hnc6 := NB102_101.out; obtain ⟨hcz7_0, hcz7_1, hcz7_2, hcz7_3, hcz7_4, hcz7_5, hcz7_6, hcz7_7, hcz7_8, hcz7_9, hcz7_10, hfz7_0, hfz7_1, hfz7_2, hfz7_3, hfz7_4, hfz7_5, hfz7_6, hfz7_7, hfz7_8, hfz7_9, hfz7_10⟩ := cellsZ11 BK101.out) | ((with_reducible refine gate_callee (f := 68) rfl ?_); refine goesL_ (some 5) rfl rfl Tryd.func68 (by kernel_rfl) rfl #[.agg #[.string a0_0, .slice A0_1 l0_1.length c0_1, .int .i64 a0_2]] rfl zee81 ?_; (with_reducible refine (impl_Key_cloned.calls a0_0 _ _ l0_1 a0_2 t103 t104 t107 _ ?side1 ?side2 A2.out).mono ?_); (case side1 => exact (cZ (Kd.C_below HR0_1.out HB.out))); (case side2 => exact HC0_1.out); rintro e w8 ⟨v105, rfl, ho0, hb⟩; refine ⟨_, rfl, ?_⟩; have _ := aM (Kd.R_lower ho0 (below_size hbZ)); have _ := bB gb101 hb; have _ := bB gb102 hb; have _ := aM (below_step hbZ hb); clear BK101 BK102 HB; rename_i HO106 BK101 BK102 HB; (try clear hb); (try clear ho0); obtain ⟨hcz9_0, hcz9_1, hcz9_2, hcz9_3, hcz9_4, hcz9_5, hcz9_6, hcz9_7, hcz9_8, hcz9_9, hcz9_10, hfz9_0, hfz9_1, hfz9_2, hfz9_3, hfz9_4, hfz9_5, hfz9_6, hfz9_7, hfz9_8, hfz9_9, hfz9_10⟩ := cellsZ11 BK101.out; obtain ⟨Ao10, co10, eo10⟩ := Kd.R_slice HO106.out; subst eo10) | ((with_reducible refine gate_callee (f := 69) rfl ?_); refine goesL_ (some 10) rfl rfl Tryd.func69 (by kernel_rfl) rfl #[.slice A0_7 l0_7.length c0_7] rfl zee81 ?_; (with_reducible refine (slices_Clone_int_int.calls _ _ l0_7 t108 _ ?side1 ?side2 A3.out).mono ?_); (case side1 => exact Kd.C_below HR0_7.out hbZ); (case side2 => exact HC0_7.out); rintro e w11 ⟨v109, rfl, ho0, hb⟩; refine ⟨_, rfl, ?_⟩; have _ := aM (Kd.R_below (rZ (rF3 HO106.out BK101.out)) hb); have _ := aM (Kd.R_lower ho0 (below_size hbZ)); have _ := aM (blk_below (g := gb101) (o := .cells #[.string t103, .slice Ao10 t104.length co10, .int .i64 t107, .int .i64 a0_3, .int .i64 a0_4, .int .i64 a0_5, .int .i64 a0_6, .slice A0_7 l0_7.length c0_7, .bool a0_8, .int .i64 a0_9, .bool a0_10] 37 (0, 0)) bkZ hb); have _ := bB gb102 hb; have _ := aM (below_step hbZ hb); clear HO106 BK101 BK102 HB; rename_i HO106 HO110 BK101 BK102 HB; (try clear hb); (try clear ho0); obtain ⟨Ao12, co12, eo12⟩ := Kd.R_slice HO110.out; subst eo12; obtain ⟨hcz13_0, hcz13_1, hcz13_2, hcz13_3, hcz13_4, hcz13_5, hcz13_6, hcz13_7, hcz13_8, hcz13_9, hcz13_10, hfz13_0, hfz13_1, hfz13_2, hfz13_3, hfz13_4, hfz13_5, hfz13_6, hfz13_7, hfz13_8, hfz13_9, hfz13_10⟩ := cellsZ11 BK101.out; obtain ⟨hcz14_0, hcz14_1, hcz14_2, hcz14_3, hcz14_4, hcz14_5, hcz14_6, hcz14_7, hcz14_8, hcz14_9, hcz14_10, hfz14_0, hfz14_1, hfz14_2, hfz14_3, hfz14_4, hfz14_5, hfz14_6, hfz14_7, hfz14_8, hfz14_9, hfz14_10⟩ := cellsZ11 BK102.out))
 refine bodyPost_ret (results_cell_row rfl _ _ gb102 37 #[.string t103, .slice Ao10 t104.length co10, .int .i64 t107, .int .i64 a0_3, .int .i64 a0_4, .int .i64 a0_5, .int .i64 a0_6, .slice Ao12 t108.length co12, .bool a0_8, .int .i64 a0_9, .bool a0_10] (0, 0) _ rfl bkZ Tryd.underlying37 rfl (by kernel_rfl)) rfl ?_
 exact ⟨_, _, z674d, by (with_reducible repeat (first | apply Kd.R_alloc | apply Kd.R_drewN | apply Kd.R_drew)); exact Kd.R_mono (Kd.R_far (p := ⟨gb102, 10, none⟩) (Kd.R_far (p := ⟨gb102, 9, none⟩) (Kd.R_far (p := ⟨gb102, 8, none⟩) (Kd.R_far (p := ⟨gb102, 7, none⟩) (Kd.R_far (p := ⟨gb102, 6, none⟩) (Kd.R_far (p := ⟨gb102, 5, none⟩) (Kd.R_far (p := ⟨gb102, 4, none⟩) (Kd.R_far (p := ⟨gb102, 3, none⟩) (Kd.R_far (p := ⟨gb102, 2, none⟩) (Kd.R_far (p := ⟨gb102, 1, none⟩) (Kd.R_far (p := ⟨gb102, 0, none⟩) (Kd.R_far (p := ⟨gb101, 7, none⟩) (Kd.R_types (Kd.R_types HO106.out BK101.out (by decide)) BK102.out (by decide)) (fun _ hk => hk.1.2) (.slice Ao12 t108.length co12)) (fun _ hk => hk.2) (.string t103)) (fun _ hk => hk.2) (.slice Ao10 t104.length co10)) (fun _ hk => hk.2) (.int .i64 t107)) (fun _ hk => hk.2) (.int .i64 a0_3)) (fun _ hk => hk.2) (.int .i64 a0_4)) (fun _ hk => hk.2) (.int .i64 a0_5)) (fun _ hk => hk.2) (.int .i64 a0_6)) (fun _ hk => hk.2) (.slice Ao12 t108.length co12)) (fun _ hk => hk.2) (.bool a0_8)) (fun _ hk => hk.2) (.int .i64 a0_9)) (fun _ hk => hk.2) (.bool a0_10)) (fun _ hk => trivial), by (with_reducible repeat (first | apply Kd.R_alloc | apply Kd.R_drewN | apply Kd.R_drew)); exact Kd.R_mono (Kd.R_far (p := ⟨gb102, 10, none⟩) (Kd.R_far (p := ⟨gb102, 9, none⟩) (Kd.R_far (p := ⟨gb102, 8, none⟩) (Kd.R_far (p := ⟨gb102, 7, none⟩) (Kd.R_far (p := ⟨gb102, 6, none⟩) (Kd.R_far (p := ⟨gb102, 5, none⟩) (Kd.R_far (p := ⟨gb102, 4, none⟩) (Kd.R_far (p := ⟨gb102, 3, none⟩) (Kd.R_far (p := ⟨gb102, 2, none⟩) (Kd.R_far (p := ⟨gb102, 1, none⟩) (Kd.R_far (p := ⟨gb102, 0, none⟩) (Kd.R_far (p := ⟨gb101, 7, none⟩) (Kd.R_types (Kd.R_types HO110.out BK101.out (by decide)) BK102.out (by decide)) (fun _ hk => hk.1.2) (.slice Ao12 t108.length co12)) (fun _ hk => hk.2) (.string t103)) (fun _ hk => hk.2) (.slice Ao10 t104.length co10)) (fun _ hk => hk.2) (.int .i64 t107)) (fun _ hk => hk.2) (.int .i64 a0_3)) (fun _ hk => hk.2) (.int .i64 a0_4)) (fun _ hk => hk.2) (.int .i64 a0_5)) (fun _ hk => hk.2) (.int .i64 a0_6)) (fun _ hk => hk.2) (.slice Ao12 t108.length co12)) (fun _ hk => hk.2) (.bool a0_8)) (fun _ hk => hk.2) (.int .i64 a0_9)) (fun _ hk => hk.2) (.bool a0_10)) (fun _ hk => trivial), zcb41⟩

end Go.Proofs.YtkgmoajdcibafaaDoor.P

-- written by a program of this session's (wip/pp)
namespace Go.Proofs.YtkgmoajdcibafaaDoor.P
open Go.RowKit Go.Proofs.YtkgmoajdcibafaaDoorW.PrintWords Go.Proofs.YtkgmoajdcibafaaDoorW.PrintLast Go.Proofs.YtkgmoajdcibafaaDoorW.PrintMore
attribute [local go_sem] max2_int min2_int max_two min_two max_three min_three max_four min_four str_geq str_gtr str_leq   -- for this text's walks alone
set_option linter.unusedVariables false
set_option linter.unusedSimpArgs false

/-! ### impl_Board_cloned: function 59 -/
def impl_Board_cloned.l0 : Nat → List (S37) → List (S37) → Int → Int → Int → Int → Int → List (S37) → Option (Int × Int × Int × (List (S37)))
 | 0, _, _, _, _, _, _, _, _ => none
 | k + 1, x3, x8, x9, x10, x102000, x102001, x102002, x102003 => if x10 < x9 then (if 0 ≤ x10 then (if x10 < (x8.length : Int) then ((impl_Win_cloned.f ((rd_T37 x8 x10).f0.f0) ((rd_T37 x8 x10).f0.f1) ((rd_T37 x8 x10).f0.f2) ((rd_T37 x8 x10).f1.f0) ((rd_T37 x8 x10).f1.f1) ((rd_T37 x8 x10).f1.f2) ((rd_T37 x8 x10).f1.f3) ((rd_T37 x8 x10).f1.f4) ((rd_T37 x8 x10).f1.f5) ((rd_T37 x8 x10).f2) ((rd_T37 x8 x10).f3)).bind fun bt108 => (if x3.length < 1099511627776 then (impl_Board_cloned.l0 k (x3 ++ [(⟨(⟨bt108.1, bt108.2.1, bt108.2.2.1⟩ : S32), (⟨bt108.2.2.2.1, bt108.2.2.2.2.1, bt108.2.2.2.2.2.1, bt108.2.2.2.2.2.2.1, bt108.2.2.2.2.2.2.2.1, bt108.2.2.2.2.2.2.2.2.1⟩ : S35), bt108.2.2.2.2.2.2.2.2.2.1, bt108.2.2.2.2.2.2.2.2.2.2⟩ : S37)]) x8 x9 (wrap64 (x10 + 1)) x102000 x102001 x102002 x102003) else (none))) else (none)) else (none)) else (some (x102000, x102001, x102002, x3))
def impl_Board_cloned.f (k : Nat) (a0_0 : Int) (a0_1 : Int) (a0_2 : Int) (l0_3 : List (S37)) : Option (Int × Int × Int × (List (S37))) := impl_Board_cloned.l0 k (([] : List (S37))) l0_3 (l0_3.length : Int) 0 a0_0 a0_1 a0_2 l0_3
theorem impl_Board_cloned.mono_l : ∀ k, (∀ y0 y1 y2 y3 y4 y5 y6 y7, LeO (impl_Board_cloned.l0 k y0 y1 y2 y3 y4 y5 y6 y7) (impl_Board_cloned.l0 (k + 1) y0 y1 y2 y3 y4 y5 y6 y7))
 | 0 => fun _ _ _ _ _ _ _ _ r h => by simp [impl_Board_cloned.l0] at h
 | k + 1 => by
  have ih0 := impl_Board_cloned.mono_l k
  · intro y0 y1 y2 y3 y4 y5 y6 y7
    unfold impl_Board_cloned.l0
    repeat' first
     | (with_reducible first | exact ih0 .. | exact LeO.refl _ | exact LeO.none _ | refine LeO.ite ?_ ?_ | refine LeO.bind ?_ (fun _ => ?_))
     | exact LeO.none _
     | refine LeO.ite ?_ ?_
     | refine LeO.bind ?_ (fun _ => ?_)
theorem impl_Board_cloned.mono : ∀ a0 a1 a2 a3 k, LeO (impl_Board_cloned.f k a0 a1 a2 a3) (impl_Board_cloned.f (k + 1) a0 a1 a2 a3) := by
 intro a0 a1 a2 a3 k
 have ih0 := impl_Board_cloned.mono_l k
 unfold impl_Board_cloned.f
 repeat' first
  | (with_reducible first | exact ih0 .. | exact LeO.refl _ | exact LeO.none _ | refine LeO.ite ?_ ?_ | refine LeO.bind ?_ (fun _ => ?_))
  | exact LeO.none _
  | refine LeO.ite ?_ ?_
  | refine LeO.bind ?_ (fun _ => ?_)
set_option maxHeartbeats 8000000 in
set_option maxRecDepth 100000 in
theorem impl_Board_cloned.calls (k : Nat) (a0_0 : Int) (a0_1 : Int) (a0_2 : Int) (A0_3 : Option Addr) (c0_3 : Nat) (l0_3 : List (S37)) (r1 : Int) (r2 : Int) (r3 : Int) (r4 : List (S37)) (w : World) (hr0_3 : Kd.C k37 w A0_3 l0_3.length l0_3) (hc0_3 : l0_3.length ≤ c0_3) (h : impl_Board_cloned.f k a0_0 a0_1 a0_2 l0_3 = some (r1, r2, r3, r4)) :
 Calls Tryd.prog 59 #[.agg #[.int .i64 a0_0, .int .i64 a0_1, .int .i64 a0_2, .slice A0_3 l0_3.length c0_3]] w fun e w' => ∃ v3_ : Value, e = .returned (.agg #[.int .i64 r1, .int .i64 r2, .int .i64 r3, v3_]) ∧ Kd.S k37 37 w' w.heap.size (fun _ => True) v3_ r4 ∧ Below w.heap.size w w' := by
 have hu42 := Tryd.underlying42
 have hu37 := Tryd.underlying37
 have HR0_3 := aM hr0_3
 have HC0_3 := aM hc0_3
 clear hr0_3 hc0_3
 have HB := aM (Below.refl w.heap.size w)
 have H : (impl_Board_cloned.l0 k (([] : List (S37))) l0_3 (l0_3.length : Int) 0 a0_0 a0_1 a0_2 l0_3) = some (r1, r2, r3, r4) := h
 clear h
 obtain ⟨y103, hy103⟩ : ∃ y_ : List (S37), y_ = (([] : List (S37))) := ⟨_, rfl⟩
 first | (replace H := bindS H; rw [← hy103] at H; dsimp only at H) | rw [← hy103] at H
 have Ny103 := aM hy103
 clear hy103
 have H' := aM H
 clear H
 go_enter Tryd.func59, Tryd.ntmps59
 go_wp2_with (first | ((with_reducible refine gate_dst (N := 1) rfl ?_); refine box_event ?hg (N := 1) ?hd (cs := #[.int .i64 a0_0, .int .i64 a0_1, .int .i64 a0_2, .slice A0_3 l0_3.length c0_3]) (t := 42) ?hr ?_; (case hd => rfl); (case hg => rfl); (case hr => first | (go_simp; done) | (go_simp; rfl)); intro gb101 hg w2 hbox hb; have _ := aM (below_step hbZ hb); have _ := aM hbox; have _ := szZ hg; have _ := szZ hg; clear HB; rename_i HB BK101 GW101 GE101; clear hb hbox hg) | ((with_reducible refine gate_dst (N := 2) rfl ?_); refine box_event ?hg (N := 2) ?hd (cs := #[.int .i64 0, .int .i64 0, .int .i64 0, .slice none 0 0]) (t := 42) ?hr ?_; (case hd => rfl); (case hg => rfl); (case hr => first | (go_simp; done) | (go_simp; rfl)); intro gb102 hg w3 hbox hb; have _ := bB gb101 hb; have _ := aM (below_step hbZ hb); have _ := aM hbox; have _ := szZ hg; have _ := szZ hg; have ⟨_, _⟩ := nbB gb101 hg; clear BK101 HB; rename_i BK101 HB BK102 GW102 GE102 NB101_102 NB102_101; clear hb hbox hg) | ((with_reducible refine gate_dst (N := 6) rfl ?_); refine Kd.S_lit k37 _ 37 ?hg (N := 6) ?hd (xs := ([] : List (S37))) (inner := []) (ok := fun _ => True) (okp := fun _ => True) ?hr ?hp (fun _ hk => hk) trivial (Below.refl _ _) (Nat.le_refl _) (by simp) ?_; (case hd => rfl); (case hg => rfl); (case hr => first | (go_simp; done) | (go_simp; rfl)); (case hp => exact (Reps.none _ _)); intro v104 w4 ho5 hb hg_ hnew_; clear hg_ hnew_; (first | rw [← Ny103.out] at ho5 | (simp only [Int.reduceToNat] at ho5; rw [← Ny103.out] at ho5)); have _ := aM (Kd.S_lower ho5 (below_size hbZ)); have _ := bB gb101 hb; have _ := bB gb102 hb; have _ := aM (below_step hbZ hb); clear BK101 BK102 HB; rename_i HO105 BK101 BK102 HB; clear hb ho5; have hnb6 := NB101_102.out; have hnc6 := NB102_101.out; obtain ⟨hcz7_0, hcz7_1, hcz7_2, hcz7_3, hfz7_0, hfz7_1, hfz7_2, hfz7_3⟩ := cellsZ4 BK101.out))
 go_loopg [3, 10] k (fun kq v3 v10 w' => ∃ (x3_1 : List (S37)) (x10_1 : Int), v10 = .int .i64 x10_1 ∧ Aside0 (impl_Board_cloned.l0 kq x3_1 l0_3 (l0_3.length : Int) x10_1 a0_0 a0_1 a0_2 l0_3 = some (r1, r2, r3, r4)) ∧ Aside0 (kq ≤ k) ∧ Aside0 (Kd.S k37 37 w' w.heap.size (fun _ => True) v3 x3_1) ∧ Aside0 (w'.heap[gb101]? = some (.cells #[.int .i64 a0_0, .int .i64 a0_1, .int .i64 a0_2, (.slice A0_3 l0_3.length c0_3)] 42 (0, 0))) ∧ Aside0 (w'.heap[gb102]? = some (.cells #[.int .i64 0, .int .i64 0, .int .i64 0, (.slice none 0 0)] 42 (0, 0))) ∧ Aside0 (Below w.heap.size w w'))
 case atStart => exact ⟨(y103), (0), z4458, H', ⟨Nat.le_refl _⟩, ⟨by (with_reducible repeat (first | apply Kd.S_alloc | apply Kd.S_drewN | apply Kd.S_drew)); exact HO105.out⟩, ⟨bkZ⟩, ⟨bkZ⟩, ⟨zcb41⟩⟩
 case round =>
  clear H'
  try clear p2
  try clear c5
  try clear c6
  try clear hcz7_0 hcz7_1 hcz7_2 hcz7_3 hfz7_0 hfz7_1 hfz7_2 hfz7_3
  obtain ⟨x3_1, x10_1, rfl, HA, HK1, HO_3, BK101, BK102, HB⟩ := hrel
  cases gk with
  | zero => exact absurd HA.out (by simp [impl_Board_cloned.l0])
  | succ k1 =>
   have H := HA.out
   clear HA
   simp only [impl_Board_cloned.l0] at H
   by_cases c8 : x10_1 < (l0_3.length : Int)
   · rw [if_pos c8] at H
     have c8b0 : decide (x10_1 < (l0_3.length : Int)) = true := decide_eq_true c8
     clear c8
     replace H := ifS H; obtain ⟨c9, H⟩ := H
     have c9b0 : decide (0 ≤ x10_1) = true := decide_eq_true c9
     clear c9
     replace H := ifS H; obtain ⟨c10, H⟩ := H
     have c10b0 : decide (x10_1 < (l0_3.length : Int)) = true := decide_eq_true c10
     clear c10
     replace H := Option.bind_eq_some_iff.mp H
     obtain ⟨⟨t108, t109, t112, t113, t114, t115, t116, t117, t120, t121, t122⟩, A110, H⟩ := H
     try dsimp only at H
     have A11 := aM A110
     clear A110
     replace H := ifS H; obtain ⟨c12, H⟩ := H
     have LMc12 := aM c12
     clear c12
     obtain ⟨y123, hy123⟩ : ∃ y_ : List (S37), y_ = (x3_1 ++ [(⟨(⟨t108, t109, t112⟩ : S32), (⟨t113, t114, t115, t116, t117, t120⟩ : S35), t121, t122⟩ : S37)]) := ⟨_, rfl⟩
     first | (replace H := bindS H; rw [← hy123] at H; dsimp only at H) | rw [← hy123] at H
     have Ny123 := aM hy123
     clear hy123
     have H' := aM H
     clear H
     have p106 : 0 ≤ (x10_1 : Int) := of_decide_eq_true z1200
     have q106 : x10_1 < (l0_3.length : Int) := of_decide_eq_true z1200
     obtain ⟨ad106, A106_1, c106_1, A106_7, c106_7, e106, hx106_0, hx106_1, hx106_2, hx106_3, hx106_4, hx106_5, hx106_6, hx106_7, hx106_8, hx106_9, hx106_10, hl106_1, hi106_1, hl106_7, hi106_7⟩ := at_T37 HR0_3.out x10_1 p106 q106
     cases e106
     have TW106_1 := aM hx106_1
     have TW106_7 := aM hx106_7
     replace hx106_0 := (HB.out.cell (World.block_lt_of_cell? w _ hx106_0)).trans hx106_0
     replace hx106_1 := (HB.out.cell (World.block_lt_of_cell? w _ hx106_1)).trans hx106_1
     replace hx106_2 := (HB.out.cell (World.block_lt_of_cell? w _ hx106_2)).trans hx106_2
     replace hx106_3 := (HB.out.cell (World.block_lt_of_cell? w _ hx106_3)).trans hx106_3
     replace hx106_4 := (HB.out.cell (World.block_lt_of_cell? w _ hx106_4)).trans hx106_4
     replace hx106_5 := (HB.out.cell (World.block_lt_of_cell? w _ hx106_5)).trans hx106_5
     replace hx106_6 := (HB.out.cell (World.block_lt_of_cell? w _ hx106_6)).trans hx106_6
     replace hx106_7 := (HB.out.cell (World.block_lt_of_cell? w _ hx106_7)).trans hx106_7
     replace hx106_8 := (HB.out.cell (World.block_lt_of_cell? w _ hx106_8)).trans hx106_8
     replace hx106_9 := (HB.out.cell (World.block_lt_of_cell? w _ hx106_9)).trans hx106_9
     replace hx106_10 := (HB.out.cell (World.block_lt_of_cell? w _ hx106_10)).trans hx106_10
     have HR106_1 := aM hi106_1
     have HC106_1 := aM hl106_1
     clear hi106_1 hl106_1
     have HR106_7 := aM hi106_7
     have HC106_7 := aM hl106_7
     clear hi106_7 hl106_7
     replace p106 := eq_true p106
     replace q106 := eq_true q106
     go_wp2_with (first | ((with_reducible refine gate_dst (N := 5) rfl ?_); refine box_event ?hg (N := 5) ?hd (cs := #[.string (⟨#[]⟩ : ByteArray), .slice none 0 0, .int .i64 0, .int .i64 0, .int .i64 0, .int .i64 0, .int .i64 0, .slice none 0 0, .bool false, .int .i64 0, .bool false]) (t := 37) ?hr ?_; (case hd => rfl); (case hg => rfl); (case hr => first | (go_simp; done) | (go_simp; rfl)); intro gb107 hg w13 hbox hb; have _ := aM (Kd.S_below (Kd.S_elderB (by (with_reducible repeat (first | apply Kd.S_alloc | apply Kd.S_drewN | apply Kd.S_drew)); exact HO_3.out) gb107 (Nat.le_of_eq hg.symm)) hb); have _ := bB gb101 hb; have _ := bB gb102 hb; have _ := aM (below_step hbZ hb); have _ := aM hbox; have _ := szZ hg; have _ := szZ hg; have ⟨_, _⟩ := nbB gb101 hg; have ⟨_, _⟩ := nbB gb102 hg; clear HO_3 BK101 BK102 HB; rename_i HO_3 BK101 BK102 HB BK107 GW107 GE107 NB101_107 NB107_101 NB102_107 NB107_102; clear hb hbox hg; have hnb14 := NB107_101.out; have hnc14 := NB101_107.out; have hnb15 := NB107_102.out; have hnc15 := NB102_107.out; obtain ⟨hcz16_0, hcz16_1, hcz16_2, hcz16_3, hcz16_4, hcz16_5, hcz16_6, hcz16_7, hcz16_8, hcz16_9, hcz16_10, hfz16_0, hfz16_1, hfz16_2, hfz16_3, hfz16_4, hfz16_5, hfz16_6, hfz16_7, hfz16_8, hfz16_9, hfz16_10⟩ := cellsZ11 BK107.out) | ((with_reducible refine gate_callee (f := 49) rfl ?_); refine goesL_ (some 16) rfl rfl Tryd.func49 (by kernel_rfl) rfl #[.agg #[.string ((rd_T37 l0_3 x10_1).f0.f0), .slice A106_1 ((rd_T37 l0_3 x10_1).f0.f1).length c106_1, .int .i64 ((rd_T37 l0_3 x10_1).f0.f2), .int .i64 ((rd_T37 l0_3 x10_1).f1.f0), .int .i64 ((rd_T37 l0_3 x10_1).f1.f1), .int .i64 ((rd_T37 l0_3 x10_1).f1.f2), .int .i64 ((rd_T37 l0_3 x10_1).f1.f3), .slice A106_7 ((rd_T37 l0_3 x10_1).f1.f4).length c106_7, .bool ((rd_T37 l0_3 x10_1).f1.f5), .int .i64 ((rd_T37 l0_3 x10_1).f2), .bool ((rd_T37 l0_3 x10_1).f3)]] rfl zee81 ?_; (with_reducible refine (impl_Win_cloned.calls ((rd_T37 l0_3 x10_1).f0.f0) _ _ ((rd_T37 l0_3 x10_1).f0.f1) ((rd_T37 l0_3 x10_1).f0.f2) ((rd_T37 l0_3 x10_1).f1.f0) ((rd_T37 l0_3 x10_1).f1.f1) ((rd_T37 l0_3 x10_1).f1.f2) ((rd_T37 l0_3 x10_1).f1.f3) _ _ ((rd_T37 l0_3 x10_1).f1.f4) ((rd_T37 l0_3 x10_1).f1.f5) ((rd_T37 l0_3 x10_1).f2) ((rd_T37 l0_3 x10_1).f3) t108 t109 t112 t113 t114 t115 t116 t117 t120 t121 t122 _ ?side1 ?side2 ?side3 ?side4 A11.out).mono ?_); (case side1 => exact Kd.C_below HR106_1.out hbZ); (case side2 => exact HC106_1.out); (case side3 => exact Kd.C_below HR106_7.out hbZ); (case side4 => exact HC106_7.out); rintro e w17 ⟨v110, v118, rfl, ho0, ho1, hb⟩; refine ⟨_, rfl, ?_⟩; have _ := aM (Kd.S_mono (Kd.S_told (Kd.S_told (Kd.S_old (by (with_reducible repeat (first | apply Kd.S_alloc | apply Kd.S_drewN | apply Kd.S_drew)); exact (Kd.S_mono (Kd.S_far (p := ⟨gb107, 10, none⟩) (Kd.S_far (p := ⟨gb107, 9, none⟩) (Kd.S_far (p := ⟨gb107, 8, none⟩) (Kd.S_far (p := ⟨gb107, 7, none⟩) (Kd.S_far (p := ⟨gb107, 6, none⟩) (Kd.S_far (p := ⟨gb107, 5, none⟩) (Kd.S_far (p := ⟨gb107, 4, none⟩) (Kd.S_far (p := ⟨gb107, 3, none⟩) (Kd.S_far (p := ⟨gb107, 2, none⟩) (Kd.S_far (p := ⟨gb107, 1, none⟩) (Kd.S_far (p := ⟨gb107, 0, none⟩) (Kd.S_mono HO_3.out (fun k_ hk => (⟨hk, hk.2⟩ : _ ∧ k_ ≠ gb107))) (fun _ hk => hk.2) (.string ((rd_T37 l0_3 x10_1).f0.f0))) (fun _ hk => hk.2) (.slice A106_1 ((rd_T37 l0_3 x10_1).f0.f1).length c106_1)) (fun _ hk => hk.2) (.int .i64 ((rd_T37 l0_3 x10_1).f0.f2))) (fun _ hk => hk.2) (.int .i64 ((rd_T37 l0_3 x10_1).f1.f0))) (fun _ hk => hk.2) (.int .i64 ((rd_T37 l0_3 x10_1).f1.f1))) (fun _ hk => hk.2) (.int .i64 ((rd_T37 l0_3 x10_1).f1.f2))) (fun _ hk => hk.2) (.int .i64 ((rd_T37 l0_3 x10_1).f1.f3))) (fun _ hk => hk.2) (.slice A106_7 ((rd_T37 l0_3 x10_1).f1.f4).length c106_7)) (fun _ hk => hk.2) (.bool ((rd_T37 l0_3 x10_1).f1.f5))) (fun _ hk => hk.2) (.int .i64 ((rd_T37 l0_3 x10_1).f2))) (fun _ hk => hk.2) (.bool ((rd_T37 l0_3 x10_1).f3))) (fun _ h_ => h_.1))) hb) (Kd.R_base ho0)) (Kd.R_base ho1)) (fun _ h_ => h_.1)); have _ := aM (Kd.R_lower ho0 (below_size hbZ)); have _ := aM (Kd.R_lower ho1 (below_size hbZ)); have _ := bB gb101 hb; have _ := bB gb102 hb; have _ := aM (blk_below (g := gb107) (o := .cells #[.string ((rd_T37 l0_3 x10_1).f0.f0), .slice A106_1 ((rd_T37 l0_3 x10_1).f0.f1).length c106_1, .int .i64 ((rd_T37 l0_3 x10_1).f0.f2), .int .i64 ((rd_T37 l0_3 x10_1).f1.f0), .int .i64 ((rd_T37 l0_3 x10_1).f1.f1), .int .i64 ((rd_T37 l0_3 x10_1).f1.f2), .int .i64 ((rd_T37 l0_3 x10_1).f1.f3), .slice A106_7 ((rd_T37 l0_3 x10_1).f1.f4).length c106_7, .bool ((rd_T37 l0_3 x10_1).f1.f5), .int .i64 ((rd_T37 l0_3 x10_1).f2), .bool ((rd_T37 l0_3 x10_1).f3)] 37 (0, 0)) bkZ hb); have _ := aM (below_step hbZ hb); clear HO_3 BK101 BK102 BK107 HB; rename_i HO_3 HO111 HO119 BK101 BK102 BK107 HB; (try clear hb); (try clear ho0); (try clear ho1); obtain ⟨Ao19, co19, eo19⟩ := Kd.R_slice HO111.out; subst eo19; obtain ⟨Ao20, co20, eo20⟩ := Kd.R_slice HO119.out; subst eo20) | ((with_reducible refine gate_builtin (b := .append) (xs := #[.tmp 14, .tmp 17]) rfl ?_); at_builtin; refine Kd.S_append k37 (w0 := w) w.heap.size rfl (.tmp 14) (.tmp 17) 40 37 (.agg #[(.string ⟨#[]⟩), (.slice none 0 0), (.int .i64 0), (.int .i64 0), (.int .i64 0), (.int .i64 0), (.int .i64 0), (.slice none 0 0), (.bool false), (.int .i64 0), (.bool false)]) 128 rfl Tryd.underlying40 info37 rfl (by decide) (by omega) u3 x3_1 (⟨(⟨t108, t109, t112⟩ : S32), (⟨t113, t114, t115, t116, t117, t120⟩ : S35), t121, t122⟩ : S37) [.string t108, .slice Ao19 t109.length co19, .int .i64 t112, .int .i64 t113, .int .i64 t114, .int .i64 t115, .int .i64 t116, .slice Ao20 t117.length co20, .bool t120, .int .i64 t121, .bool t122] (fun k_ => k_ ≠ gb107) (fun k_ => some k_ = (.slice Ao19 t109.length co19 : Value).ownBlock ∨ some k_ = (.slice Ao20 t117.length co20 : Value).ownBlock) rfl rfl ?aP (fun k_ hk_ => hk_.elim (fun h_ => ((Kd.R_mono (ok' := fun k_ => ((fun k_ => k_ ≠ gb107)) k_ ∧ some k_ ≠ (u3 : Value).ownBlock) (Kd.R_types (Kd.R_apart' (HO111.out) (Kd.S_typed HO_3.out) (by decide)) BK107.out (by decide)) (fun k_ hk => ⟨hk.2, hk.1.2⟩))).1 k_ h_.symm) (fun h_ => ((Kd.R_mono (ok' := fun k_ => ((fun k_ => k_ ≠ gb107)) k_ ∧ some k_ ≠ (u3 : Value).ownBlock) (Kd.R_types (Kd.R_apart' (HO119.out) (Kd.S_typed HO_3.out) (by decide)) BK107.out (by decide)) (fun k_ hk => ⟨hk.2, hk.1.2⟩))).1 k_ h_.symm)) ?aF ?aO ?aB ?aS ?aL ?_; (case aP => exact k37_mkM _ _ _ (⟨(⟨t108, t109, t112⟩ : S32), (⟨t113, t114, t115, t116, t117, t120⟩ : S35), t121, t122⟩ : S37) (Kd.R_mono (Kd.R_tight rfl (Kd.R_mono (ok' := fun k_ => ((fun k_ => k_ ≠ gb107)) k_ ∧ some k_ ≠ (u3 : Value).ownBlock) (Kd.R_types (Kd.R_apart' (HO111.out) (Kd.S_typed HO_3.out) (by decide)) BK107.out (by decide)) (fun k_ hk => ⟨hk.2, hk.1.2⟩))) (fun _ h_ => Or.inl h_)) (Kd.R_mono (Kd.R_tight rfl (Kd.R_mono (ok' := fun k_ => ((fun k_ => k_ ≠ gb107)) k_ ∧ some k_ ≠ (u3 : Value).ownBlock) (Kd.R_types (Kd.R_apart' (HO119.out) (Kd.S_typed HO_3.out) (by decide)) BK107.out (by decide)) (fun k_ hk => ⟨hk.2, hk.1.2⟩))) (fun _ h_ => Or.inr (h_)))); (case aB => exact hbZ); (case aF => exact (fun k_ hk => Kd.freshB (g := gb107) bkZ k_ hk)); (case aO => exact (by (with_reducible repeat (first | apply Kd.S_alloc | apply Kd.S_drewN | apply Kd.S_drew)); exact Kd.S_mono HO_3.out (fun k_ hk => ⟨hk.1.1.2, fun e_ => e_.elim (fun h_ => hk.1.2 h_) (fun h_ => hk.2 h_)⟩))); (case aS => exact (below_size hbZ)); (case aL => have := LMc12.out; omega); intro v124 w18 ho hb hg hat; rw [← Ny123.out] at ho; have _ := aM (blk_grown (g := gb101) bkZ hg (Kd.S_ne HO_3.out BK101.out (by decide))); have _ := aM (blk_grown (g := gb102) bkZ hg (Kd.S_ne HO_3.out BK102.out (by decide))); have _ := aM (blk_grown (g := gb107) bkZ hg (Kd.S_away HO_3.out (fun _ hk => hk.1.1.2))); have _ := aM hb; have _ := aM ho; clear BK101 BK102 BK107 HB HO_3 HO111 HO119; rename_i BK101 BK102 BK107 HB HO125; clear ho hb hg hat))
     go_roundg k1
     case measure => have := HK1.out; omega
     case rel => exact ⟨(y123), (wrap64 (x10_1 + 1)), z4458, H', ⟨zfb39⟩, ⟨by (with_reducible repeat (first | apply Kd.S_alloc | apply Kd.S_drewN | apply Kd.S_drew)); exact Kd.S_mono HO125.out (fun _ hk => trivial)⟩, ⟨bkZ⟩, ⟨bkZ⟩, ⟨zcb41⟩⟩
   · rw [if_neg c8] at H
     have c8b0 : decide (x10_1 < (l0_3.length : Int)) = false := decide_eq_false c8
     clear c8
     simp only [Option.some.injEq, Prod.mk.injEq] at H
     obtain ⟨rfl, rfl, rfl, rfl⟩ := H
     obtain ⟨Ao21, co21, eo21⟩ := Kd.S_slice HO_3.out
     subst eo21
     have hnb22 := NB101_102.out
     have hnc22 := NB102_101.out
     obtain ⟨hcz23_0, hcz23_1, hcz23_2, hcz23_3, hfz23_0, hfz23_1, hfz23_2, hfz23_3⟩ := cellsZ4 BK101.out
     obtain ⟨hcz24_0, hcz24_1, hcz24_2, hcz24_3, hfz24_0, hfz24_1, hfz24_2, hfz24_3⟩ := cellsZ4 BK102.out
     go_wp2
     refine bodyPost_ret (results_cell_row rfl _ _ gb102 42 #[.int .i64 a0_0, .int .i64 a0_1, .int .i64 a0_2, .slice Ao21 x3_1.length co21] (0, 0) _ rfl bkZ Tryd.underlying42 rfl (by kernel_rfl)) rfl ?_
     exact ⟨_, z674d, by (with_reducible repeat (first | apply Kd.S_alloc | apply Kd.S_drewN | apply Kd.S_drew)); exact Kd.S_mono (Kd.S_far (p := ⟨gb102, 3, none⟩) (Kd.S_far (p := ⟨gb102, 2, none⟩) (Kd.S_far (p := ⟨gb102, 1, none⟩) (Kd.S_far (p := ⟨gb102, 0, none⟩) (Kd.S_far (p := ⟨gb101, 3, none⟩) (Kd.S_types (Kd.S_types HO_3.out BK101.out (by decide)) BK102.out (by decide)) (fun _ hk => hk.1.2) (.slice Ao21 x3_1.length co21)) (fun _ hk => hk.2) (.int .i64 a0_0)) (fun _ hk => hk.2) (.int .i64 a0_1)) (fun _ hk => hk.2) (.int .i64 a0_2)) (fun _ hk => hk.2) (.slice Ao21 x3_1.length co21)) (fun _ hk => trivial), zcb41⟩

end Go.Proofs.YtkgmoajdcibafaaDoor.P

-- written by a program of this session's (wip/pp)
namespace Go.Proofs.YtkgmoajdcibafaaDoor.P
open Go.RowKit Go.Proofs.YtkgmoajdcibafaaDoorW.PrintWords Go.Proofs.YtkgmoajdcibafaaDoorW.PrintLast Go.Proofs.YtkgmoajdcibafaaDoorW.PrintMore
attribute [local go_sem] max2_int min2_int max_two min_two max_three min_three max_four min_four str_geq str_gtr str_leq   -- for this text's walks alone
set_option linter.unusedVariables false
set_option linter.unusedSimpArgs false

/-! ### impl_RaiseMark: function 22 -/
def impl_RaiseMark.f (k : Nat) (a0_0 : Int) (a0_1 : Int) (a0_2 : Int) (l0_3 : List (S37)) (a1 : Int) : Option (Int × Int × Int × (List (S37)) × Int) := (impl_GoodBoard.f k a0_0 a0_1 a0_2 l0_3).bind fun t103 => (if t103 = true then ((impl_Board_cloned.f k a0_0 a0_1 a0_2 l0_3).bind fun bt104 => ((impl_isTime.f a1).bind fun t111 => (if t111 = true then (if a1 < a0_2 then (some (bt104.1, bt104.2.1, bt104.2.2.1, bt104.2.2.2, 1)) else (some (bt104.1, bt104.2.1, a1, bt104.2.2.2, 0))) else (some (bt104.1, bt104.2.1, bt104.2.2.1, bt104.2.2.2, 1))))) else (some (0, 0, 0, ([] : List (S37)), 1)))
theorem impl_RaiseMark.mono : ∀ a0 a1 a2 a3 a4 k, LeO (impl_RaiseMark.f k a0 a1 a2 a3 a4) (impl_RaiseMark.f (k + 1) a0 a1 a2 a3 a4) := by
 intro a0 a1 a2 a3 a4 k
 unfold impl_RaiseMark.f
 repeat' first
  | (with_reducible first | exact impl_Board_cloned.mono .. | exact impl_GoodBoard.mono .. | exact LeO.refl _ | exact LeO.none _ | refine LeO.ite ?_ ?_ | refine LeO.bind ?_ (fun _ => ?_))
  | exact LeO.none _
  | refine LeO.ite ?_ ?_
  | refine LeO.bind ?_ (fun _ => ?_)
set_option maxHeartbeats 8000000 in
set_option maxRecDepth 100000 in
theorem impl_RaiseMark.calls (k : Nat) (a0_0 : Int) (a0_1 : Int) (a0_2 : Int) (A0_3 : Option Addr) (c0_3 : Nat) (l0_3 : List (S37)) (a1 : Int) (r1 : Int) (r2 : Int) (r3 : Int) (r4 : List (S37)) (r5 : Int) (w : World) (hr0_3 : Kd.C k37 w A0_3 l0_3.length l0_3) (hc0_3 : l0_3.length ≤ c0_3) (h : impl_RaiseMark.f k a0_0 a0_1 a0_2 l0_3 a1 = some (r1, r2, r3, r4, r5)) :
 Calls Tryd.prog 22 #[.agg #[.int .i64 a0_0, .int .i64 a0_1, .int .i64 a0_2, .slice A0_3 l0_3.length c0_3], .int .i64 a1] w fun e w' => ∃ v3_ : Value, e = .returned (.tuple #[.agg #[.int .i64 r1, .int .i64 r2, .int .i64 r3, v3_], .int .i64 r5]) ∧ Kd.S k37 37 w' w.heap.size (fun _ => True) v3_ r4 ∧ Below w.heap.size w w' := by
 have hu42 := Tryd.underlying42
 have HR0_3 := aM hr0_3
 have HC0_3 := aM hc0_3
 clear hr0_3 hc0_3
 have HB := aM (Below.refl w.heap.size w)
 have H : ((impl_GoodBoard.f k a0_0 a0_1 a0_2 l0_3).bind fun t103 => (if t103 = true then ((impl_Board_cloned.f k a0_0 a0_1 a0_2 l0_3).bind fun bt104 => ((impl_isTime.f a1).bind fun t111 => (if t111 = true then (if a1 < a0_2 then (some (bt104.1, bt104.2.1, bt104.2.2.1, bt104.2.2.2, 1)) else (some (bt104.1, bt104.2.1, a1, bt104.2.2.2, 0))) else (some (bt104.1, bt104.2.1, bt104.2.2.1, bt104.2.2.2, 1))))) else (some (0, 0, 0, ([] : List (S37)), 1)))) = some (r1, r2, r3, r4, r5) := h
 clear h
 replace H := Option.bind_eq_some_iff.mp H
 obtain ⟨t103, A30, H⟩ := H
 try dsimp only at H
 have A3 := aM A30
 clear A30
 by_cases c4 : t103 = true
 · subst c4
   rw [if_pos rfl] at H
   replace H := Option.bind_eq_some_iff.mp H
   obtain ⟨⟨t104, t105, t106, t107⟩, A50, H⟩ := H
   try dsimp only at H
   have A5 := aM A50
   clear A50
   replace H := Option.bind_eq_some_iff.mp H
   obtain ⟨t111, A60, H⟩ := H
   try dsimp only at H
   have A6 := aM A60
   clear A60
   by_cases c7 : t111 = true
   · subst c7
     rw [if_pos rfl] at H
     by_cases c8 : a1 < a0_2
     · rw [if_pos c8] at H
       have c8b0 : decide (a1 < a0_2) = true := decide_eq_true c8
       clear c8
       simp only [Option.some.injEq, Prod.mk.injEq] at H
       obtain ⟨rfl, rfl, rfl, rfl, rfl⟩ := H
       go_enter Tryd.func22, Tryd.ntmps22
       go_wp2_with (first | ((with_reducible refine gate_dst (N := 2) rfl ?_); refine box_event ?hg (N := 2) ?hd (cs := #[.int .i64 a0_0, .int .i64 a0_1, .int .i64 a0_2, .slice A0_3 l0_3.length c0_3]) (t := 42) ?hr ?_; (case hd => rfl); (case hg => rfl); (case hr => first | (go_simp; done) | (go_simp; rfl)); intro bz1_ hg wz1 hbox hb; have LZbz1_ := aM (Loc.box hbox); have el_ := hg; have ORLZbz1_ := aM (show w.heap.size ≤ bz1_ from by rw [el_]; exact HB.out.size); have OQLZbz1_ := aM (show bz1_ ≤ (bz1_ + 1) from Nat.le_succ _); have HWbz1_ := aM (show w.heap.size ≤ bz1_ from by rw [hg]; exact HB.out.size); replace HB := aM (below_after HB.out hb); clear hg hbox hb el_; obtain ⟨hcybz1__0, hcybz1__1, hcybz1__2, hcybz1__3, hfybz1__0, hfybz1__1, hfybz1__2, hfybz1__3⟩ := cellsZ4 LZbz1_.out.now) | ((with_reducible refine gate_dst (N := 4) rfl ?_); refine box_event ?hg (N := 4) ?hd (cs := #[.int .i64 0, .int .i64 0, .int .i64 0, .slice none 0 0]) (t := 42) ?hr ?_; (case hd => rfl); (case hg => rfl); (case hr => first | (go_simp; done) | (go_simp; rfl)); intro bz2_ hg wz2 hbox hb; have LZbz2_ := aM (Loc.box hbox); have el_ := hg; have ORLZbz2_ := aM (show (bz1_ + 1) ≤ bz2_ from by rw [el_]; exact LZbz1_.out.size); have OQLZbz2_ := aM (show bz2_ ≤ (bz2_ + 1) from Nat.le_succ _); have HWbz2_ := aM (show w.heap.size ≤ bz2_ from by rw [hg]; exact HB.out.size); (try clear hcybz1__0 hcybz1__1 hcybz1__2 hcybz1__3 hfybz1__0 hfybz1__1 hfybz1__2 hfybz1__3); replace LZbz1_ := aM (LZbz1_.out.below hb); replace HB := aM (below_after HB.out hb); clear hg hbox hb el_; obtain ⟨hcybz1__0, hcybz1__1, hcybz1__2, hcybz1__3, hfybz1__0, hfybz1__1, hfybz1__2, hfybz1__3⟩ := cellsZ4 LZbz1_.out.now; obtain ⟨hcybz2__0, hcybz2__1, hcybz2__2, hcybz2__3, hfybz2__0, hfybz2__1, hfybz2__2, hfybz2__3⟩ := cellsZ4 LZbz2_.out.now) | ((with_reducible refine gate_callee (f := 46) rfl ?_); refine goesL_ (some 8) rfl rfl Tryd.func46 (by kernel_rfl) rfl #[.agg #[.int .i64 a0_0, .int .i64 a0_1, .int .i64 a0_2, .slice A0_3 l0_3.length c0_3]] rfl zee81 ?_; (with_reducible refine (impl_GoodBoard.calls k a0_0 a0_1 a0_2 _ _ l0_3 true _ ?side1 ?side2 A3.out).mono ?_); (case side1 => exact (cZ (Kd.C_below HR0_3.out HB.out))); (case side2 => exact HC0_3.out); rintro e wz3 ⟨rfl, hb⟩; refine ⟨_, rfl, ?_⟩; (try clear hcybz1__0 hcybz1__1 hcybz1__2 hcybz1__3 hfybz1__0 hfybz1__1 hfybz1__2 hfybz1__3 hcybz2__0 hcybz2__1 hcybz2__2 hcybz2__3 hfybz2__0 hfybz2__1 hfybz2__2 hfybz2__3); replace LZbz1_ := aM (LZbz1_.out.below hb); replace LZbz2_ := aM (LZbz2_.out.below hb); replace HB := aM (below_after HB.out hb); clear hb; obtain ⟨hcybz1__0, hcybz1__1, hcybz1__2, hcybz1__3, hfybz1__0, hfybz1__1, hfybz1__2, hfybz1__3⟩ := cellsZ4 LZbz1_.out.now; obtain ⟨hcybz2__0, hcybz2__1, hcybz2__2, hcybz2__3, hfybz2__0, hfybz2__1, hfybz2__2, hfybz2__3⟩ := cellsZ4 LZbz2_.out.now) | ((with_reducible refine gate_callee (f := 59) rfl ?_); refine goesL_ (some 12) rfl rfl Tryd.func59 (by kernel_rfl) rfl #[.agg #[.int .i64 a0_0, .int .i64 a0_1, .int .i64 a0_2, .slice A0_3 l0_3.length c0_3]] rfl zee81 ?_; (with_reducible refine (impl_Board_cloned.calls k a0_0 a0_1 a0_2 _ _ l0_3 t104 t105 t106 t107 _ ?side1 ?side2 A5.out).mono ?_); (case side1 => exact (cZ (Kd.C_below HR0_3.out HB.out))); (case side2 => exact HC0_3.out); rintro e wz4 ⟨v108, rfl, ho0, hb⟩; refine ⟨_, rfl, ?_⟩; (try clear hcybz1__0 hcybz1__1 hcybz1__2 hcybz1__3 hfybz1__0 hfybz1__1 hfybz1__2 hfybz1__3 hcybz2__0 hcybz2__1 hcybz2__2 hcybz2__3 hfybz2__0 hfybz2__1 hfybz2__2 hfybz2__3); obtain ⟨loz_, hiz_, el_, hL_, eh_⟩ := Loc.newS ho0 HB.out; have LZr := aM hL_; have ORLZr := aM (show (bz2_ + 1) ≤ loz_ from by rw [el_]; exact LZbz2_.out.size); have OQLZr := aM (show loz_ ≤ hiz_ from (by rw [el_, eh_]; exact hb.size)); obtain ⟨Az_, cz_, ev_⟩ := Kd.S_slice ho0; subst ev_; clear el_ hL_ eh_ ho0; replace LZbz1_ := aM (LZbz1_.out.below hb); replace LZbz2_ := aM (LZbz2_.out.below hb); replace HB := aM (below_after HB.out hb); clear hb; obtain ⟨hcybz1__0, hcybz1__1, hcybz1__2, hcybz1__3, hfybz1__0, hfybz1__1, hfybz1__2, hfybz1__3⟩ := cellsZ4 LZbz1_.out.now; obtain ⟨hcybz2__0, hcybz2__1, hcybz2__2, hcybz2__3, hfybz2__0, hfybz2__1, hfybz2__2, hfybz2__3⟩ := cellsZ4 LZbz2_.out.now) | ((with_reducible refine gate_dst (N := 6) rfl ?_); refine box_event ?hg (N := 6) ?hd (cs := #[.int .i64 0, .int .i64 0, .int .i64 0, .slice none 0 0]) (t := 42) ?hr ?_; (case hd => rfl); (case hg => rfl); (case hr => first | (go_simp; done) | (go_simp; rfl)); intro bz3_ hg wz5 hbox hb; have LZbz3_ := aM (Loc.box hbox); have el_ := hg; have ORLZbz3_ := aM (show hiz_ ≤ bz3_ from by rw [el_]; exact LZr.out.size); have OQLZbz3_ := aM (show bz3_ ≤ (bz3_ + 1) from Nat.le_succ _); have HWbz3_ := aM (show w.heap.size ≤ bz3_ from by rw [hg]; exact HB.out.size); (try clear hcybz1__0 hcybz1__1 hcybz1__2 hcybz1__3 hfybz1__0 hfybz1__1 hfybz1__2 hfybz1__3 hcybz2__0 hcybz2__1 hcybz2__2 hcybz2__3 hfybz2__0 hfybz2__1 hfybz2__2 hfybz2__3); replace LZbz1_ := aM (LZbz1_.out.below hb); replace LZbz2_ := aM (LZbz2_.out.below hb); replace LZr := aM (LZr.out.below hb); replace HB := aM (below_after HB.out hb); clear hg hbox hb el_; obtain ⟨hcybz1__0, hcybz1__1, hcybz1__2, hcybz1__3, hfybz1__0, hfybz1__1, hfybz1__2, hfybz1__3⟩ := cellsZ4 LZbz1_.out.now; obtain ⟨hcybz2__0, hcybz2__1, hcybz2__2, hcybz2__3, hfybz2__0, hfybz2__1, hfybz2__2, hfybz2__3⟩ := cellsZ4 LZbz2_.out.now; obtain ⟨hcybz3__0, hcybz3__1, hcybz3__2, hcybz3__3, hfybz3__0, hfybz3__1, hfybz3__2, hfybz3__3⟩ := cellsZ4 LZbz3_.out.now) | ((with_reducible refine gate_store (t := 42) (p := 6) rfl ?_); refine store_event (t := 42) (p := 6) (v := ?vo_wz6) (w1 := ((((wz5.setCell ⟨bz3_, 0, none⟩ (.int .i64 t104)).setCell ⟨bz3_, 1, none⟩ (.int .i64 t105)).setCell ⟨bz3_, 2, none⟩ (.int .i64 t106)).setCell ⟨bz3_, 3, none⟩ (.slice Az_ t107.length cz_))) ?hg ?ho ?hn ?hr ?_; (case ho => rfl); (case hg => rfl); (case hn => rfl); (case hr => first | (go_simp; done) | (go_simp; rfl)); intro wz6 hw; (try clear hcybz1__0 hcybz1__1 hcybz1__2 hcybz1__3 hfybz1__0 hfybz1__1 hfybz1__2 hfybz1__3 hcybz2__0 hcybz2__1 hcybz2__2 hcybz2__3 hfybz2__0 hfybz2__1 hfybz2__2 hfybz2__3 hcybz3__0 hcybz3__1 hcybz3__2 hcybz3__3 hfybz3__0 hfybz3__1 hfybz3__2 hfybz3__3); have ho_ : Only wz5 wz6 bz3_ := (by rw [hw]; repeat (first | exact Only.refl _ _ | apply Only.set)); have := ORLZbz1_.out; have := OQLZbz1_.out; have := ORLZbz2_.out; have := OQLZbz2_.out; have := ORLZr.out; have := OQLZr.out; have := ORLZbz3_.out; have := OQLZbz3_.out; replace LZbz1_ := aM (LZbz1_.out.only2 ho_ (by omega)); replace LZbz2_ := aM (LZbz2_.out.only2 ho_ (by omega)); replace LZr := aM (LZr.out.only2 ho_ (by omega)); have hbx_ : wz6.heap[bz3_]? = some (.cells #[.int .i64 t104, .int .i64 t105, .int .i64 t106, .slice Az_ t107.length cz_] 42 (0, 0)) := (by rw [hw]; exact blk_put4 LZbz3_.out.now); replace LZbz3_ := aM (Loc.box hbx_); replace HB := aM (below_only HB.out HWbz3_.out ho_); clear ho_ hbx_ hw; obtain ⟨hcybz1__0, hcybz1__1, hcybz1__2, hcybz1__3, hfybz1__0, hfybz1__1, hfybz1__2, hfybz1__3⟩ := cellsZ4 LZbz1_.out.now; obtain ⟨hcybz2__0, hcybz2__1, hcybz2__2, hcybz2__3, hfybz2__0, hfybz2__1, hfybz2__2, hfybz2__3⟩ := cellsZ4 LZbz2_.out.now; obtain ⟨hcybz3__0, hcybz3__1, hcybz3__2, hcybz3__3, hfybz3__0, hfybz3__1, hfybz3__2, hfybz3__3⟩ := cellsZ4 LZbz3_.out.now) | ((with_reducible refine gate_callee (f := 60) rfl ?_); refine goesL_ (some 14) rfl rfl Tryd.func60 (by kernel_rfl) rfl #[.int .i64 a1] rfl zee81 ?_; (with_reducible refine (impl_isTime.calls a1 true _ A6.out).mono ?_); rintro e wz7 ⟨rfl, hd⟩; refine ⟨_, rfl, ?_⟩; (try clear hcybz1__0 hcybz1__1 hcybz1__2 hcybz1__3 hfybz1__0 hfybz1__1 hfybz1__2 hfybz1__3 hcybz2__0 hcybz2__1 hcybz2__2 hcybz2__3 hfybz2__0 hfybz2__1 hfybz2__2 hfybz2__3 hcybz3__0 hcybz3__1 hcybz3__2 hcybz3__3 hfybz3__0 hfybz3__1 hfybz3__2 hfybz3__3); have hb := below_drawn hd; clear hd; replace LZbz1_ := aM (LZbz1_.out.below hb); replace LZbz2_ := aM (LZbz2_.out.below hb); replace LZr := aM (LZr.out.below hb); replace LZbz3_ := aM (LZbz3_.out.below hb); replace HB := aM (below_after HB.out hb); clear hb; obtain ⟨hcybz1__0, hcybz1__1, hcybz1__2, hcybz1__3, hfybz1__0, hfybz1__1, hfybz1__2, hfybz1__3⟩ := cellsZ4 LZbz1_.out.now; obtain ⟨hcybz2__0, hcybz2__1, hcybz2__2, hcybz2__3, hfybz2__0, hfybz2__1, hfybz2__2, hfybz2__3⟩ := cellsZ4 LZbz2_.out.now; obtain ⟨hcybz3__0, hcybz3__1, hcybz3__2, hcybz3__3, hfybz3__0, hfybz3__1, hfybz3__2, hfybz3__3⟩ := cellsZ4 LZbz3_.out.now) | ((with_reducible refine gate_store (t := 42) (p := 4) rfl ?_); refine store_event (t := 42) (p := 4) (v := ?vo_wz8) (w1 := ((((wz7.setCell ⟨bz2_, 0, none⟩ (.int .i64 t104)).setCell ⟨bz2_, 1, none⟩ (.int .i64 t105)).setCell ⟨bz2_, 2, none⟩ (.int .i64 t106)).setCell ⟨bz2_, 3, none⟩ (.slice Az_ t107.length cz_))) ?hg ?ho ?hn ?hr ?_; (case ho => rfl); (case hg => rfl); (case hn => rfl); (case hr => first | (go_simp; done) | (go_simp; rfl)); intro wz8 hw; (try clear hcybz1__0 hcybz1__1 hcybz1__2 hcybz1__3 hfybz1__0 hfybz1__1 hfybz1__2 hfybz1__3 hcybz2__0 hcybz2__1 hcybz2__2 hcybz2__3 hfybz2__0 hfybz2__1 hfybz2__2 hfybz2__3 hcybz3__0 hcybz3__1 hcybz3__2 hcybz3__3 hfybz3__0 hfybz3__1 hfybz3__2 hfybz3__3); have ho_ : Only wz7 wz8 bz2_ := (by rw [hw]; repeat (first | exact Only.refl _ _ | apply Only.set)); have := ORLZbz1_.out; have := OQLZbz1_.out; have := ORLZbz2_.out; have := OQLZbz2_.out; have := ORLZr.out; have := OQLZr.out; have := ORLZbz3_.out; have := OQLZbz3_.out; replace LZbz1_ := aM (LZbz1_.out.only2 ho_ (by omega)); replace LZr := aM (LZr.out.only2 ho_ (by omega)); replace LZbz3_ := aM (LZbz3_.out.only2 ho_ (by omega)); have hbx_ : wz8.heap[bz2_]? = some (.cells #[.int .i64 t104, .int .i64 t105, .int .i64 t106, .slice Az_ t107.length cz_] 42 (0, 0)) := (by rw [hw]; exact blk_put4 LZbz2_.out.now); replace LZbz2_ := aM (Loc.box hbx_); replace HB := aM (below_only HB.out HWbz2_.out ho_); clear ho_ hbx_ hw; obtain ⟨hcybz1__0, hcybz1__1, hcybz1__2, hcybz1__3, hfybz1__0, hfybz1__1, hfybz1__2, hfybz1__3⟩ := cellsZ4 LZbz1_.out.now; obtain ⟨hcybz2__0, hcybz2__1, hcybz2__2, hcybz2__3, hfybz2__0, hfybz2__1, hfybz2__2, hfybz2__3⟩ := cellsZ4 LZbz2_.out.now; obtain ⟨hcybz3__0, hcybz3__1, hcybz3__2, hcybz3__3, hfybz3__0, hfybz3__1, hfybz3__2, hfybz3__3⟩ := cellsZ4 LZbz3_.out.now))
       refine bodyPost_ret (results_ct rfl _ _ bz2_ 42 #[.int .i64 t104, .int .i64 t105, .int .i64 t106, .slice Az_ t107.length cz_] (0, 0) _ rfl LZbz2_.out.now Tryd.underlying42 rfl (by kernel_rfl)) rfl ?_
       exact ⟨_, rfl, Kd.S_mono LZr.out.now (fun _ _ => trivial), HB.out⟩
     · rw [if_neg c8] at H
       have c8b0 : decide (a1 < a0_2) = false := decide_eq_false c8
       clear c8
       simp only [Option.some.injEq, Prod.mk.injEq] at H
       obtain ⟨rfl, rfl, rfl, rfl, rfl⟩ := H
       go_enter Tryd.func22, Tryd.ntmps22
       go_wp2_with (first | ((with_reducible refine gate_dst (N := 2) rfl ?_); refine box_event ?hg (N := 2) ?hd (cs := #[.int .i64 a0_0, .int .i64 a0_1, .int .i64 a0_2, .slice A0_3 l0_3.length c0_3]) (t := 42) ?hr ?_; (case hd => rfl); (case hg => rfl); (case hr => first | (go_simp; done) | (go_simp; rfl)); intro bz1_ hg wz9 hbox hb; have LZbz1_ := aM (Loc.box hbox); have el_ := hg; have ORLZbz1_ := aM (show w.heap.size ≤ bz1_ from by rw [el_]; exact HB.out.size); have OQLZbz1_ := aM (show bz1_ ≤ (bz1_ + 1) from Nat.le_succ _); have HWbz1_ := aM (show w.heap.size ≤ bz1_ from by rw [hg]; exact HB.out.size); replace HB := aM (below_after HB.out hb); clear hg hbox hb el_; obtain ⟨hcybz1__0, hcybz1__1, hcybz1__2, hcybz1__3, hfybz1__0, hfybz1__1, hfybz1__2, hfybz1__3⟩ := cellsZ4 LZbz1_.out.now) | ((with_reducible refine gate_dst (N := 4) rfl ?_); refine box_event ?hg (N := 4) ?hd (cs := #[.int .i64 0, .int .i64 0, .int .i64 0, .slice none 0 0]) (t := 42) ?hr ?_; (case hd => rfl); (case hg => rfl); (case hr => first | (go_simp; done) | (go_simp; rfl)); intro bz2_ hg wz10 hbox hb; have LZbz2_ := aM (Loc.box hbox); have el_ := hg; have ORLZbz2_ := aM (show (bz1_ + 1) ≤ bz2_ from by rw [el_]; exact LZbz1_.out.size); have OQLZbz2_ := aM (show bz2_ ≤ (bz2_ + 1) from Nat.le_succ _); have HWbz2_ := aM (show w.heap.size ≤ bz2_ from by rw [hg]; exact HB.out.size); (try clear hcybz1__0 hcybz1__1 hcybz1__2 hcybz1__3 hfybz1__0 hfybz1__1 hfybz1__2 hfybz1__3); replace LZbz1_ := aM (LZbz1_.out.below hb); replace HB := aM (below_after HB.out hb); clear hg hbox hb el_; obtain ⟨hcybz1__0, hcybz1__1, hcybz1__2, hcybz1__3, hfybz1__0, hfybz1__1, hfybz1__2, hfybz1__3⟩ := cellsZ4 LZbz1_.out.now; obtain ⟨hcybz2__0, hcybz2__1, hcybz2__2, hcybz2__3, hfybz2__0, hfybz2__1, hfybz2__2, hfybz2__3⟩ := cellsZ4 LZbz2_.out.now) | ((with_reducible refine gate_callee (f := 46) rfl ?_); refine goesL_ (some 8) rfl rfl Tryd.func46 (by kernel_rfl) rfl #[.agg #[.int .i64 a0_0, .int .i64 a0_1, .int .i64 a0_2, .slice A0_3 l0_3.length c0_3]] rfl zee81 ?_; (with_reducible refine (impl_GoodBoard.calls k a0_0 a0_1 a0_2 _ _ l0_3 true _ ?side1 ?side2 A3.out).mono ?_); (case side1 => exact (cZ (Kd.C_below HR0_3.out HB.out))); (case side2 => exact HC0_3.out); rintro e wz11 ⟨rfl, hb⟩; refine ⟨_, rfl, ?_⟩; (try clear hcybz1__0 hcybz1__1 hcybz1__2 hcybz1__3 hfybz1__0 hfybz1__1 hfybz1__2 hfybz1__3 hcybz2__0 hcybz2__1 hcybz2__2 hcybz2__3 hfybz2__0 hfybz2__1 hfybz2__2 hfybz2__3); replace LZbz1_ := aM (LZbz1_.out.below hb); replace LZbz2_ := aM (LZbz2_.out.below hb); replace HB := aM (below_after HB.out hb); clear hb; obtain ⟨hcybz1__0, hcybz1__1, hcybz1__2, hcybz1__3, hfybz1__0, hfybz1__1, hfybz1__2, hfybz1__3⟩ := cellsZ4 LZbz1_.out.now; obtain ⟨hcybz2__0, hcybz2__1, hcybz2__2, hcybz2__3, hfybz2__0, hfybz2__1, hfybz2__2, hfybz2__3⟩ := cellsZ4 LZbz2_.out.now) | ((with_reducible refine gate_callee (f := 59) rfl ?_); refine goesL_ (some 12) rfl rfl Tryd.func59 (by kernel_rfl) rfl #[.agg #[.int .i64 a0_0, .int .i64 a0_1, .int .i64 a0_2, .slice A0_3 l0_3.length c0_3]] rfl zee81 ?_; (with_reducible refine (impl_Board_cloned.calls k a0_0 a0_1 a0_2 _ _ l0_3 t104 t105 t106 t107 _ ?side1 ?side2 A5.out).mono ?_); (case side1 => exact (cZ (Kd.C_below HR0_3.out HB.out))); (case side2 => exact HC0_3.out); rintro e wz12 ⟨v108, rfl, ho0, hb⟩; refine ⟨_, rfl, ?_⟩; (try clear hcybz1__0 hcybz1__1 hcybz1__2 hcybz1__3 hfybz1__0 hfybz1__1 hfybz1__2 hfybz1__3 hcybz2__0 hcybz2__1 hcybz2__2 hcybz2__3 hfybz2__0 hfybz2__1 hfybz2__2 hfybz2__3); obtain ⟨loz_, hiz_, el_, hL_, eh_⟩ := Loc.newS ho0 HB.out; have LZr := aM hL_; have ORLZr := aM (show (bz2_ + 1) ≤ loz_ from by rw [el_]; exact LZbz2_.out.size); have OQLZr := aM (show loz_ ≤ hiz_ from (by rw [el_, eh_]; exact hb.size)); obtain ⟨Az_, cz_, ev_⟩ := Kd.S_slice ho0; subst ev_; clear el_ hL_ eh_ ho0; replace LZbz1_ := aM (LZbz1_.out.below hb); replace LZbz2_ := aM (LZbz2_.out.below hb); replace HB := aM (below_after HB.out hb); clear hb; obtain ⟨hcybz1__0, hcybz1__1, hcybz1__2, hcybz1__3, hfybz1__0, hfybz1__1, hfybz1__2, hfybz1__3⟩ := cellsZ4 LZbz1_.out.now; obtain ⟨hcybz2__0, hcybz2__1, hcybz2__2, hcybz2__3, hfybz2__0, hfybz2__1, hfybz2__2, hfybz2__3⟩ := cellsZ4 LZbz2_.out.now) | ((with_reducible refine gate_dst (N := 6) rfl ?_); refine box_event ?hg (N := 6) ?hd (cs := #[.int .i64 0, .int .i64 0, .int .i64 0, .slice none 0 0]) (t := 42) ?hr ?_; (case hd => rfl); (case hg => rfl); (case hr => first | (go_simp; done) | (go_simp; rfl)); intro bz3_ hg wz13 hbox hb; have LZbz3_ := aM (Loc.box hbox); have el_ := hg; have ORLZbz3_ := aM (show hiz_ ≤ bz3_ from by rw [el_]; exact LZr.out.size); have OQLZbz3_ := aM (show bz3_ ≤ (bz3_ + 1) from Nat.le_succ _); have HWbz3_ := aM (show w.heap.size ≤ bz3_ from by rw [hg]; exact HB.out.size); (try clear hcybz1__0 hcybz1__1 hcybz1__2 hcybz1__3 hfybz1__0 hfybz1__1 hfybz1__2 hfybz1__3 hcybz2__0 hcybz2__1 hcybz2__2 hcybz2__3 hfybz2__0 hfybz2__1 hfybz2__2 hfybz2__3); replace LZbz1_ := aM (LZbz1_.out.below hb); replace LZbz2_ := aM (LZbz2_.out.below hb); replace LZr := aM (LZr.out.below hb); replace HB := aM (below_after HB.out hb); clear hg hbox hb el_; obtain ⟨hcybz1__0, hcybz1__1, hcybz1__2, hcybz1__3, hfybz1__0, hfybz1__1, hfybz1__2, hfybz1__3⟩ := cellsZ4 LZbz1_.out.now; obtain ⟨hcybz2__0, hcybz2__1, hcybz2__2, hcybz2__3, hfybz2__0, hfybz2__1, hfybz2__2, hfybz2__3⟩ := cellsZ4 LZbz2_.out.now; obtain ⟨hcybz3__0, hcybz3__1, hcybz3__2, hcybz3__3, hfybz3__0, hfybz3__1, hfybz3__2, hfybz3__3⟩ := cellsZ4 LZbz3_.out.now) | ((with_reducible refine gate_store (t := 42) (p := 6) rfl ?_); refine store_event (t := 42) (p := 6) (v := ?vo_wz14) (w1 := ((((wz13.setCell ⟨bz3_, 0, none⟩ (.int .i64 t104)).setCell ⟨bz3_, 1, none⟩ (.int .i64 t105)).setCell ⟨bz3_, 2, none⟩ (.int .i64 t106)).setCell ⟨bz3_, 3, none⟩ (.slice Az_ t107.length cz_))) ?hg ?ho ?hn ?hr ?_; (case ho => rfl); (case hg => rfl); (case hn => rfl); (case hr => first | (go_simp; done) | (go_simp; rfl)); intro wz14 hw; (try clear hcybz1__0 hcybz1__1 hcybz1__2 hcybz1__3 hfybz1__0 hfybz1__1 hfybz1__2 hfybz1__3 hcybz2__0 hcybz2__1 hcybz2__2 hcybz2__3 hfybz2__0 hfybz2__1 hfybz2__2 hfybz2__3 hcybz3__0 hcybz3__1 hcybz3__2 hcybz3__3 hfybz3__0 hfybz3__1 hfybz3__2 hfybz3__3); have ho_ : Only wz13 wz14 bz3_ := (by rw [hw]; repeat (first | exact Only.refl _ _ | apply Only.set)); have := ORLZbz1_.out; have := OQLZbz1_.out; have := ORLZbz2_.out; have := OQLZbz2_.out; have := ORLZr.out; have := OQLZr.out; have := ORLZbz3_.out; have := OQLZbz3_.out; replace LZbz1_ := aM (LZbz1_.out.only2 ho_ (by omega)); replace LZbz2_ := aM (LZbz2_.out.only2 ho_ (by omega)); replace LZr := aM (LZr.out.only2 ho_ (by omega)); have hbx_ : wz14.heap[bz3_]? = some (.cells #[.int .i64 t104, .int .i64 t105, .int .i64 t106, .slice Az_ t107.length cz_] 42 (0, 0)) := (by rw [hw]; exact blk_put4 LZbz3_.out.now); replace LZbz3_ := aM (Loc.box hbx_); replace HB := aM (below_only HB.out HWbz3_.out ho_); clear ho_ hbx_ hw; obtain ⟨hcybz1__0, hcybz1__1, hcybz1__2, hcybz1__3, hfybz1__0, hfybz1__1, hfybz1__2, hfybz1__3⟩ := cellsZ4 LZbz1_.out.now; obtain ⟨hcybz2__0, hcybz2__1, hcybz2__2, hcybz2__3, hfybz2__0, hfybz2__1, hfybz2__2, hfybz2__3⟩ := cellsZ4 LZbz2_.out.now; obtain ⟨hcybz3__0, hcybz3__1, hcybz3__2, hcybz3__3, hfybz3__0, hfybz3__1, hfybz3__2, hfybz3__3⟩ := cellsZ4 LZbz3_.out.now) | ((with_reducible refine gate_callee (f := 60) rfl ?_); refine goesL_ (some 14) rfl rfl Tryd.func60 (by kernel_rfl) rfl #[.int .i64 a1] rfl zee81 ?_; (with_reducible refine (impl_isTime.calls a1 true _ A6.out).mono ?_); rintro e wz15 ⟨rfl, hd⟩; refine ⟨_, rfl, ?_⟩; (try clear hcybz1__0 hcybz1__1 hcybz1__2 hcybz1__3 hfybz1__0 hfybz1__1 hfybz1__2 hfybz1__3 hcybz2__0 hcybz2__1 hcybz2__2 hcybz2__3 hfybz2__0 hfybz2__1 hfybz2__2 hfybz2__3 hcybz3__0 hcybz3__1 hcybz3__2 hcybz3__3 hfybz3__0 hfybz3__1 hfybz3__2 hfybz3__3); have hb := below_drawn hd; clear hd; replace LZbz1_ := aM (LZbz1_.out.below hb); replace LZbz2_ := aM (LZbz2_.out.below hb); replace LZr := aM (LZr.out.below hb); replace LZbz3_ := aM (LZbz3_.out.below hb); replace HB := aM (below_after HB.out hb); clear hb; obtain ⟨hcybz1__0, hcybz1__1, hcybz1__2, hcybz1__3, hfybz1__0, hfybz1__1, hfybz1__2, hfybz1__3⟩ := cellsZ4 LZbz1_.out.now; obtain ⟨hcybz2__0, hcybz2__1, hcybz2__2, hcybz2__3, hfybz2__0, hfybz2__1, hfybz2__2, hfybz2__3⟩ := cellsZ4 LZbz2_.out.now; obtain ⟨hcybz3__0, hcybz3__1, hcybz3__2, hcybz3__3, hfybz3__0, hfybz3__1, hfybz3__2, hfybz3__3⟩ := cellsZ4 LZbz3_.out.now) | ((with_reducible refine gate_store (t := 3) (p := 24) rfl ?_); refine store_event (t := 3) (p := 24) (v := ?vo_wz16) (w1 := (wz15.setCell ⟨bz3_, 2, none⟩ (.int .i64 a1))) ?hg ?ho ?hn ?hr ?_; (case ho => rfl); (case hg => rfl); (case hn => rfl); (case hr => first | (go_simp; done) | (go_simp; rfl)); intro wz16 hw; (try clear hcybz1__0 hcybz1__1 hcybz1__2 hcybz1__3 hfybz1__0 hfybz1__1 hfybz1__2 hfybz1__3 hcybz2__0 hcybz2__1 hcybz2__2 hcybz2__3 hfybz2__0 hfybz2__1 hfybz2__2 hfybz2__3 hcybz3__0 hcybz3__1 hcybz3__2 hcybz3__3 hfybz3__0 hfybz3__1 hfybz3__2 hfybz3__3); have ho_ : Only wz15 wz16 bz3_ := (by rw [hw]; repeat (first | exact Only.refl _ _ | apply Only.set)); have := ORLZbz1_.out; have := OQLZbz1_.out; have := ORLZbz2_.out; have := OQLZbz2_.out; have := ORLZr.out; have := OQLZr.out; have := ORLZbz3_.out; have := OQLZbz3_.out; replace LZbz1_ := aM (LZbz1_.out.only2 ho_ (by omega)); replace LZbz2_ := aM (LZbz2_.out.only2 ho_ (by omega)); replace LZr := aM (LZr.out.only2 ho_ (by omega)); have hbx_ : wz16.heap[bz3_]? = some (.cells #[.int .i64 t104, .int .i64 t105, .int .i64 a1, .slice Az_ t107.length cz_] 42 (0, 0)) := (by rw [hw]; exact blk_put4_2 LZbz3_.out.now); replace LZbz3_ := aM (Loc.box hbx_); replace HB := aM (below_only HB.out HWbz3_.out ho_); clear ho_ hbx_ hw; obtain ⟨hcybz1__0, hcybz1__1, hcybz1__2, hcybz1__3, hfybz1__0, hfybz1__1, hfybz1__2, hfybz1__3⟩ := cellsZ4 LZbz1_.out.now; obtain ⟨hcybz2__0, hcybz2__1, hcybz2__2, hcybz2__3, hfybz2__0, hfybz2__1, hfybz2__2, hfybz2__3⟩ := cellsZ4 LZbz2_.out.now; obtain ⟨hcybz3__0, hcybz3__1, hcybz3__2, hcybz3__3, hfybz3__0, hfybz3__1, hfybz3__2, hfybz3__3⟩ := cellsZ4 LZbz3_.out.now) | ((with_reducible refine gate_store (t := 42) (p := 4) rfl ?_); refine store_event (t := 42) (p := 4) (v := ?vo_wz17) (w1 := ((((wz16.setCell ⟨bz2_, 0, none⟩ (.int .i64 t104)).setCell ⟨bz2_, 1, none⟩ (.int .i64 t105)).setCell ⟨bz2_, 2, none⟩ (.int .i64 a1)).setCell ⟨bz2_, 3, none⟩ (.slice Az_ t107.length cz_))) ?hg ?ho ?hn ?hr ?_; (case ho => rfl); (case hg => rfl); (case hn => rfl); (case hr => first | (go_simp; done) | (go_simp; rfl)); intro wz17 hw; (try clear hcybz1__0 hcybz1__1 hcybz1__2 hcybz1__3 hfybz1__0 hfybz1__1 hfybz1__2 hfybz1__3 hcybz2__0 hcybz2__1 hcybz2__2 hcybz2__3 hfybz2__0 hfybz2__1 hfybz2__2 hfybz2__3 hcybz3__0 hcybz3__1 hcybz3__2 hcybz3__3 hfybz3__0 hfybz3__1 hfybz3__2 hfybz3__3); have ho_ : Only wz16 wz17 bz2_ := (by rw [hw]; repeat (first | exact Only.refl _ _ | apply Only.set)); have := ORLZbz1_.out; have := OQLZbz1_.out; have := ORLZbz2_.out; have := OQLZbz2_.out; have := ORLZr.out; have := OQLZr.out; have := ORLZbz3_.out; have := OQLZbz3_.out; replace LZbz1_ := aM (LZbz1_.out.only2 ho_ (by omega)); replace LZr := aM (LZr.out.only2 ho_ (by omega)); replace LZbz3_ := aM (LZbz3_.out.only2 ho_ (by omega)); have hbx_ : wz17.heap[bz2_]? = some (.cells #[.int .i64 t104, .int .i64 t105, .int .i64 a1, .slice Az_ t107.length cz_] 42 (0, 0)) := (by rw [hw]; exact blk_put4 LZbz2_.out.now); replace LZbz2_ := aM (Loc.box hbx_); replace HB := aM (below_only HB.out HWbz2_.out ho_); clear ho_ hbx_ hw; obtain ⟨hcybz1__0, hcybz1__1, hcybz1__2, hcybz1__3, hfybz1__0, hfybz1__1, hfybz1__2, hfybz1__3⟩ := cellsZ4 LZbz1_.out.now; obtain ⟨hcybz2__0, hcybz2__1, hcybz2__2, hcybz2__3, hfybz2__0, hfybz2__1, hfybz2__2, hfybz2__3⟩ := cellsZ4 LZbz2_.out.now; obtain ⟨hcybz3__0, hcybz3__1, hcybz3__2, hcybz3__3, hfybz3__0, hfybz3__1, hfybz3__2, hfybz3__3⟩ := cellsZ4 LZbz3_.out.now))
       refine bodyPost_ret (results_ct rfl _ _ bz2_ 42 #[.int .i64 t104, .int .i64 t105, .int .i64 a1, .slice Az_ t107.length cz_] (0, 0) _ rfl LZbz2_.out.now Tryd.underlying42 rfl (by kernel_rfl)) rfl ?_
       exact ⟨_, rfl, Kd.S_mono LZr.out.now (fun _ _ => trivial), HB.out⟩
   · replace c7 := Bool.eq_false_iff.mpr c7
     subst c7
     rw [if_neg (show ¬ (false = true) by decide)] at H
     simp only [Option.some.injEq, Prod.mk.injEq] at H
     obtain ⟨rfl, rfl, rfl, rfl, rfl⟩ := H
     go_enter Tryd.func22, Tryd.ntmps22
     go_wp2_with (first | ((with_reducible refine gate_dst (N := 2) rfl ?_); refine box_event ?hg (N := 2) ?hd (cs := #[.int .i64 a0_0, .int .i64 a0_1, .int .i64 a0_2, .slice A0_3 l0_3.length c0_3]) (t := 42) ?hr ?_; (case hd => rfl); (case hg => rfl); (case hr => first | (go_simp; done) | (go_simp; rfl)); intro bz1_ hg wz18 hbox hb; have LZbz1_ := aM (Loc.box hbox); have el_ := hg; have ORLZbz1_ := aM (show w.heap.size ≤ bz1_ from by rw [el_]; exact HB.out.size); have OQLZbz1_ := aM (show bz1_ ≤ (bz1_ + 1) from Nat.le_succ _); have HWbz1_ := aM (show w.heap.size ≤ bz1_ from by rw [hg]; exact HB.out.size); replace HB := aM (below_after HB.out hb); clear hg hbox hb el_; obtain ⟨hcybz1__0, hcybz1__1, hcybz1__2, hcybz1__3, hfybz1__0, hfybz1__1, hfybz1__2, hfybz1__3⟩ := cellsZ4 LZbz1_.out.now) | ((with_reducible refine gate_dst (N := 4) rfl ?_); refine box_event ?hg (N := 4) ?hd (cs := #[.int .i64 0, .int .i64 0, .int .i64 0, .slice none 0 0]) (t := 42) ?hr ?_; (case hd => rfl); (case hg => rfl); (case hr => first | (go_simp; done) | (go_simp; rfl)); intro bz2_ hg wz19 hbox hb; have LZbz2_ := aM (Loc.box hbox); have el_ := hg; have ORLZbz2_ := aM (show (bz1_ + 1) ≤ bz2_ from by rw [el_]; exact LZbz1_.out.size); have OQLZbz2_ := aM (show bz2_ ≤ (bz2_ + 1) from Nat.le_succ _); have HWbz2_ := aM (show w.heap.size ≤ bz2_ from by rw [hg]; exact HB.out.size); (try clear hcybz1__0 hcybz1__1 hcybz1__2 hcybz1__3 hfybz1__0 hfybz1__1 hfybz1__2 hfybz1__3); replace LZbz1_ := aM (LZbz1_.out.below hb); replace HB := aM (below_after HB.out hb); clear hg hbox hb el_; obtain ⟨hcybz1__0, hcybz1__1, hcybz1__2, hcybz1__3, hfybz1__0, hfybz1__1, hfybz1__2, hfybz1__3⟩ := cellsZ4 LZbz1_.out.now; obtain ⟨hcybz2__0, hcybz2__1, hcybz2__2, hcybz2__3, hfybz2__0, hfybz2__1, hfybz2__2, hfybz2__3⟩ := cellsZ4 LZbz2_.out.now) | ((with_reducible refine gate_callee (f := 46) rfl ?_); refine goesL_ (some 8) rfl rfl Tryd.func46 (by kernel_rfl) rfl #[.agg #[.int .i64 a0_0, .int .i64 a0_1, .int .i64 a0_2, .slice A0_3 l0_3.length c0_3]] rfl zee81 ?_; (with_reducible refine (impl_GoodBoard.calls k a0_0 a0_1 a0_2 _ _ l0_3 true _ ?side1 ?side2 A3.out).mono ?_); (case side1 => exact (cZ (Kd.C_below HR0_3.out HB.out))); (case side2 => exact HC0_3.out); rintro e wz20 ⟨rfl, hb⟩; refine ⟨_, rfl, ?_⟩; (try clear hcybz1__0 hcybz1__1 hcybz1__2 hcybz1__3 hfybz1__0 hfybz1__1 hfybz1__2 hfybz1__3 hcybz2__0 hcybz2__1 hcybz2__2 hcybz2__3 hfybz2__0 hfybz2__1 hfybz2__2 hfybz2__3); replace LZbz1_ := aM (LZbz1_.out.below hb); replace LZbz2_ := aM (LZbz2_.out.below hb); replace HB := aM (below_after HB.out hb); clear hb; obtain ⟨hcybz1__0, hcybz1__1, hcybz1__2, hcybz1__3, hfybz1__0, hfybz1__1, hfybz1__2, hfybz1__3⟩ := cellsZ4 LZbz1_.out.now; obtain ⟨hcybz2__0, hcybz2__1, hcybz2__2, hcybz2__3, hfybz2__0, hfybz2__1, hfybz2__2, hfybz2__3⟩ := cellsZ4 LZbz2_.out.now) | ((with_reducible refine gate_callee (f := 59) rfl ?_); refine goesL_ (some 12) rfl rfl Tryd.func59 (by kernel_rfl) rfl #[.agg #[.int .i64 a0_0, .int .i64 a0_1, .int .i64 a0_2, .slice A0_3 l0_3.length c0_3]] rfl zee81 ?_; (with_reducible refine (impl_Board_cloned.calls k a0_0 a0_1 a0_2 _ _ l0_3 t104 t105 t106 t107 _ ?side1 ?side2 A5.out).mono ?_); (case side1 => exact (cZ (Kd.C_below HR0_3.out HB.out))); (case side2 => exact HC0_3.out); rintro e wz21 ⟨v108, rfl, ho0, hb⟩; refine ⟨_, rfl, ?_⟩; (try clear hcybz1__0 hcybz1__1 hcybz1__2 hcybz1__3 hfybz1__0 hfybz1__1 hfybz1__2 hfybz1__3 hcybz2__0 hcybz2__1 hcybz2__2 hcybz2__3 hfybz2__0 hfybz2__1 hfybz2__2 hfybz2__3); obtain ⟨loz_, hiz_, el_, hL_, eh_⟩ := Loc.newS ho0 HB.out; have LZr := aM hL_; have ORLZr := aM (show (bz2_ + 1) ≤ loz_ from by rw [el_]; exact LZbz2_.out.size); have OQLZr := aM (show loz_ ≤ hiz_ from (by rw [el_, eh_]; exact hb.size)); obtain ⟨Az_, cz_, ev_⟩ := Kd.S_slice ho0; subst ev_; clear el_ hL_ eh_ ho0; replace LZbz1_ := aM (LZbz1_.out.below hb); replace LZbz2_ := aM (LZbz2_.out.below hb); replace HB := aM (below_after HB.out hb); clear hb; obtain ⟨hcybz1__0, hcybz1__1, hcybz1__2, hcybz1__3, hfybz1__0, hfybz1__1, hfybz1__2, hfybz1__3⟩ := cellsZ4 LZbz1_.out.now; obtain ⟨hcybz2__0, hcybz2__1, hcybz2__2, hcybz2__3, hfybz2__0, hfybz2__1, hfybz2__2, hfybz2__3⟩ := cellsZ4 LZbz2_.out.now) | ((with_reducible refine gate_dst (N := 6) rfl ?_); refine box_event ?hg (N := 6) ?hd (cs := #[.int .i64 0, .int .i64 0, .int .i64 0, .slice none 0 0]) (t := 42) ?hr ?_; (case hd => rfl); (case hg => rfl); (case hr => first | (go_simp; done) | (go_simp; rfl)); intro bz3_ hg wz22 hbox hb; have LZbz3_ := aM (Loc.box hbox); have el_ := hg; have ORLZbz3_ := aM (show hiz_ ≤ bz3_ from by rw [el_]; exact LZr.out.size); have OQLZbz3_ := aM (show bz3_ ≤ (bz3_ + 1) from Nat.le_succ _); have HWbz3_ := aM (show w.heap.size ≤ bz3_ from by rw [hg]; exact HB.out.size); (try clear hcybz1__0 hcybz1__1 hcybz1__2 hcybz1__3 hfybz1__0 hfybz1__1 hfybz1__2 hfybz1__3 hcybz2__0 hcybz2__1 hcybz2__2 hcybz2__3 hfybz2__0 hfybz2__1 hfybz2__2 hfybz2__3); replace LZbz1_ := aM (LZbz1_.out.below hb); replace LZbz2_ := aM (LZbz2_.out.below hb); replace LZr := aM (LZr.out.below hb); replace HB := aM (below_after HB.out hb); clear hg hbox hb el_; obtain ⟨hcybz1__0, hcybz1__1, hcybz1__2, hcybz1__3, hfybz1__0, hfybz1__1, hfybz1__2, hfybz1__3⟩ := cellsZ4 LZbz1_.out.now; obtain ⟨hcybz2__0, hcybz2__1, hcybz2__2, hcybz2__3, hfybz2__0, hfybz2__1, hfybz2__2, hfybz2__3⟩ := cellsZ4 LZbz2_.out.now; obtain ⟨hcybz3__0, hcybz3__1, hcybz3__2, hcybz3__3, hfybz3__0, hfybz3__1, hfybz3__2, hfybz3__3⟩ := cellsZ4 LZbz3_.out.now) | ((with_reducible refine gate_store (t := 42) (p := 6) rfl ?_); refine store_event (t := 42) (p := 6) (v := ?vo_wz23) (w1 := ((((wz22.setCell ⟨bz3_, 0, none⟩ (.int .i64 t104)).setCell ⟨bz3_, 1, none⟩ (.int .i64 t105)).setCell ⟨bz3_, 2, none⟩ (.int .i64 t106)).setCell ⟨bz3_, 3, none⟩ (.slice Az_ t107.length cz_))) ?hg ?ho ?hn ?hr ?_; (case ho => rfl); (case hg => rfl); (case hn => rfl); (case hr => first | (go_simp; done) | (go_simp; rfl)); intro wz23 hw; (try clear hcybz1__0 hcybz1__1 hcybz1__2 hcybz1__3 hfybz1__0 hfybz1__1 hfybz1__2 hfybz1__3 hcybz2__0 hcybz2__1 hcybz2__2 hcybz2__3 hfybz2__0 hfybz2__1 hfybz2__2 hfybz2__3 hcybz3__0 hcybz3__1 hcybz3__2 hcybz3__3 hfybz3__0 hfybz3__1 hfybz3__2 hfybz3__3); have ho_ : Only wz22 wz23 bz3_ := (by rw [hw]; repeat (first | exact Only.refl _ _ | apply Only.set)); have := ORLZbz1_.out; have := OQLZbz1_.out; have := ORLZbz2_.out; have := OQLZbz2_.out; have := ORLZr.out; have := OQLZr.out; have := ORLZbz3_.out; have := OQLZbz3_.out; replace LZbz1_ := aM (LZbz1_.out.only2 ho_ (by omega)); replace LZbz2_ := aM (LZbz2_.out.only2 ho_ (by omega)); replace LZr := aM (LZr.out.only2 ho_ (by omega)); have hbx_ : wz23.heap[bz3_]? = some (.cells #[.int .i64 t104, .int .i64 t105, .int .i64 t106, .slice Az_ t107.length cz_] 42 (0, 0)) := (by rw [hw]; exact blk_put4 LZbz3_.out.now); replace LZbz3_ := aM (Loc.box hbx_); replace HB := aM (below_only HB.out HWbz3_.out ho_); clear ho_ hbx_ hw; obtain ⟨hcybz1__0, hcybz1__1, hcybz1__2, hcybz1__3, hfybz1__0, hfybz1__1, hfybz1__2, hfybz1__3⟩ := cellsZ4 LZbz1_.out.now; obtain ⟨hcybz2__0, hcybz2__1, hcybz2__2, hcybz2__3, hfybz2__0, hfybz2__1, hfybz2__2, hfybz2__3⟩ := cellsZ4 LZbz2_.out.now; obtain ⟨hcybz3__0, hcybz3__1, hcybz3__2, hcybz3__3, hfybz3__0, hfybz3__1, hfybz3__2, hfybz3__3⟩ := cellsZ4 LZbz3_.out.now) | ((with_reducible refine gate_callee (f := 60) rfl ?_); refine goesL_ (some 14) rfl rfl Tryd.func60 (by kernel_rfl) rfl #[.int .i64 a1] rfl zee81 ?_; (with_reducible refine (impl_isTime.calls a1 false _ A6.out).mono ?_); rintro e wz24 ⟨rfl, hd⟩; refine ⟨_, rfl, ?_⟩; (try clear hcybz1__0 hcybz1__1 hcybz1__2 hcybz1__3 hfybz1__0 hfybz1__1 hfybz1__2 hfybz1__3 hcybz2__0 hcybz2__1 hcybz2__2 hcybz2__3 hfybz2__0 hfybz2__1 hfybz2__2 hfybz2__3 hcybz3__0 hcybz3__1 hcybz3__2 hcybz3__3 hfybz3__0 hfybz3__1 hfybz3__2 hfybz3__3); have hb := below_drawn hd; clear hd; replace LZbz1_ := aM (LZbz1_.out.below hb); replace LZbz2_ := aM (LZbz2_.out.below hb); replace LZr := aM (LZr.out.below hb); replace LZbz3_ := aM (LZbz3_.out.below hb); replace HB := aM (below_after HB.out hb); clear hb; obtain ⟨hcybz1__0, hcybz1__1, hcybz1__2, hcybz1__3, hfybz1__0, hfybz1__1, hfybz1__2, hfybz1__3⟩ := cellsZ4 LZbz1_.out.now; obtain ⟨hcybz2__0, hcybz2__1, hcybz2__2, hcybz2__3, hfybz2__0, hfybz2__1, hfybz2__2, hfybz2__3⟩ := cellsZ4 LZbz2_.out.now; obtain ⟨hcybz3__0, hcybz3__1, hcybz3__2, hcybz3__3, hfybz3__0, hfybz3__1, hfybz3__2, hfybz3__3⟩ := cellsZ4 LZbz3_.out.now) | ((with_reducible refine gate_store (t := 42) (p := 4) rfl ?_); refine store_event (t := 42) (p := 4) (v := ?vo_wz25) (w1 := ((((wz24.setCell ⟨bz2_, 0, none⟩ (.int .i64 t104)).setCell ⟨bz2_, 1, none⟩ (.int .i64 t105)).setCell ⟨bz2_, 2, none⟩ (.int .i64 t106)).setCell ⟨bz2_, 3, none⟩ (.slice Az_ t107.length cz_))) ?hg ?ho ?hn ?hr ?_; (case ho => rfl); (case hg => rfl); (case hn => rfl); (case hr => first | (go_simp; done) | (go_simp; rfl)); intro wz25 hw; (try clear hcybz1__0 hcybz1__1 hcybz1__2 hcybz1__3 hfybz1__0 hfybz1__1 hfybz1__2 hfybz1__3 hcybz2__0 hcybz2__1 hcybz2__2 hcybz2__3 hfybz2__0 hfybz2__1 hfybz2__2 hfybz2__3 hcybz3__0 hcybz3__1 hcybz3__2 hcybz3__3 hfybz3__0 hfybz3__1 hfybz3__2 hfybz3__3); have ho_ : Only wz24 wz25 bz2_ := (by rw [hw]; repeat (first | exact Only.refl _ _ | apply Only.set)); have := ORLZbz1_.out; have := OQLZbz1_.out; have := ORLZbz2_.out; have := OQLZbz2_.out; have := ORLZr.out; have := OQLZr.out; have := ORLZbz3_.out; have := OQLZbz3_.out; replace LZbz1_ := aM (LZbz1_.out.only2 ho_ (by omega)); replace LZr := aM (LZr.out.only2 ho_ (by omega)); replace LZbz3_ := aM (LZbz3_.out.only2 ho_ (by omega)); have hbx_ : wz25.heap[bz2_]? = some (.cells #[.int .i64 t104, .int .i64 t105, .int .i64 t106, .slice Az_ t107.length cz_] 42 (0, 0)) := (by rw [hw]; exact blk_put4 LZbz2_.out.now); replace LZbz2_ := aM (Loc.box hbx_); replace HB := aM (below_only HB.out HWbz2_.out ho_); clear ho_ hbx_ hw; obtain ⟨hcybz1__0, hcybz1__1, hcybz1__2, hcybz1__3, hfybz1__0, hfybz1__1, hfybz1__2, hfybz1__3⟩ := cellsZ4 LZbz1_.out.now; obtain ⟨hcybz2__0, hcybz2__1, hcybz2__2, hcybz2__3, hfybz2__0, hfybz2__1, hfybz2__2, hfybz2__3⟩ := cellsZ4 LZbz2_.out.now; obtain ⟨hcybz3__0, hcybz3__1, hcybz3__2, hcybz3__3, hfybz3__0, hfybz3__1, hfybz3__2, hfybz3__3⟩ := cellsZ4 LZbz3_.out.now))
     refine bodyPost_ret (results_ct rfl _ _ bz2_ 42 #[.int .i64 t104, .int .i64 t105, .int .i64 t106, .slice Az_ t107.length cz_] (0, 0) _ rfl LZbz2_.out.now Tryd.underlying42 rfl (by kernel_rfl)) rfl ?_
     exact ⟨_, rfl, Kd.S_mono LZr.out.now (fun _ _ => trivial), HB.out⟩
 · replace c4 := Bool.eq_false_iff.mpr c4
   subst c4
   rw [if_neg (show ¬ (false = true) by decide)] at H
   simp only [Option.some.injEq, Prod.mk.injEq] at H
   obtain ⟨rfl, rfl, rfl, rfl, rfl⟩ := H
   go_enter Tryd.func22, Tryd.ntmps22
   go_wp2_with (first | ((with_reducible refine gate_dst (N := 2) rfl ?_); refine box_event ?hg (N := 2) ?hd (cs := #[.int .i64 a0_0, .int .i64 a0_1, .int .i64 a0_2, .slice A0_3 l0_3.length c0_3]) (t := 42) ?hr ?_; (case hd => rfl); (case hg => rfl); (case hr => first | (go_simp; done) | (go_simp; rfl)); intro bz1_ hg wz26 hbox hb; have LZbz1_ := aM (Loc.box hbox); have el_ := hg; have ORLZbz1_ := aM (show w.heap.size ≤ bz1_ from by rw [el_]; exact HB.out.size); have OQLZbz1_ := aM (show bz1_ ≤ (bz1_ + 1) from Nat.le_succ _); have HWbz1_ := aM (show w.heap.size ≤ bz1_ from by rw [hg]; exact HB.out.size); replace HB := aM (below_after HB.out hb); clear hg hbox hb el_; obtain ⟨hcybz1__0, hcybz1__1, hcybz1__2, hcybz1__3, hfybz1__0, hfybz1__1, hfybz1__2, hfybz1__3⟩ := cellsZ4 LZbz1_.out.now) | ((with_reducible refine gate_dst (N := 4) rfl ?_); refine box_event ?hg (N := 4) ?hd (cs := #[.int .i64 0, .int .i64 0, .int .i64 0, .slice none 0 0]) (t := 42) ?hr ?_; (case hd => rfl); (case hg => rfl); (case hr => first | (go_simp; done) | (go_simp; rfl)); intro bz2_ hg wz27 hbox hb; have LZbz2_ := aM (Loc.box hbox); have el_ := hg; have ORLZbz2_ := aM (show (bz1_ + 1) ≤ bz2_ from by rw [el_]; exact LZbz1_.out.size); have OQLZbz2_ := aM (show bz2_ ≤ (bz2_ + 1) from Nat.le_succ _); have HWbz2_ := aM (show w.heap.size ≤ bz2_ from by rw [hg]; exact HB.out.size); (try clear hcybz1__0 hcybz1__1 hcybz1__2 hcybz1__3 hfybz1__0 hfybz1__1 hfybz1__2 hfybz1__3); replace LZbz1_ := aM (LZbz1_.out.below hb); replace HB := aM (below_after HB.out hb); clear hg hbox hb el_; obtain ⟨hcybz1__0, hcybz1__1, hcybz1__2, hcybz1__3, hfybz1__0, hfybz1__1, hfybz1__2, hfybz1__3⟩ := cellsZ4 LZbz1_.out.now; obtain ⟨hcybz2__0, hcybz2__1, hcybz2__2, hcybz2__3, hfybz2__0, hfybz2__1, hfybz2__2, hfybz2__3⟩ := cellsZ4 LZbz2_.out.now) | ((with_reducible refine gate_callee (f := 46) rfl ?_); refine goesL_ (some 8) rfl rfl Tryd.func46 (by kernel_rfl) rfl #[.agg #[.int .i64 a0_0, .int .i64 a0_1, .int .i64 a0_2, .slice A0_3 l0_3.length c0_3]] rfl zee81 ?_; (with_reducible refine (impl_GoodBoard.calls k a0_0 a0_1 a0_2 _ _ l0_3 false _ ?side1 ?side2 A3.out).mono ?_); (case side1 => exact (cZ (Kd.C_below HR0_3.out HB.out))); (case side2 => exact HC0_3.out); rintro e wz28 ⟨rfl, hb⟩; refine ⟨_, rfl, ?_⟩; (try clear hcybz1__0 hcybz1__1 hcybz1__2 hcybz1__3 hfybz1__0 hfybz1__1 hfybz1__2 hfybz1__3 hcybz2__0 hcybz2__1 hcybz2__2 hcybz2__3 hfybz2__0 hfybz2__1 hfybz2__2 hfybz2__3); replace LZbz1_ := aM (LZbz1_.out.below hb); replace LZbz2_ := aM (LZbz2_.out.below hb); replace HB := aM (below_after HB.out hb); clear hb; obtain ⟨hcybz1__0, hcybz1__1, hcybz1__2, hcybz1__3, hfybz1__0, hfybz1__1, hfybz1__2, hfybz1__3⟩ := cellsZ4 LZbz1_.out.now; obtain ⟨hcybz2__0, hcybz2__1, hcybz2__2, hcybz2__3, hfybz2__0, hfybz2__1, hfybz2__2, hfybz2__3⟩ := cellsZ4 LZbz2_.out.now) | ((with_reducible refine gate_store (t := 42) (p := 4) rfl ?_); refine store_event (t := 42) (p := 4) (v := ?vo_wz29) (w1 := ((((wz28.setCell ⟨bz2_, 0, none⟩ (.int .i64 0)).setCell ⟨bz2_, 1, none⟩ (.int .i64 0)).setCell ⟨bz2_, 2, none⟩ (.int .i64 0)).setCell ⟨bz2_, 3, none⟩ (.slice none 0 0))) ?hg ?ho ?hn ?hr ?_; (case ho => rfl); (case hg => rfl); (case hn => rfl); (case hr => first | (go_simp; done) | (go_simp; rfl)); intro wz29 hw; (try clear hcybz1__0 hcybz1__1 hcybz1__2 hcybz1__3 hfybz1__0 hfybz1__1 hfybz1__2 hfybz1__3 hcybz2__0 hcybz2__1 hcybz2__2 hcybz2__3 hfybz2__0 hfybz2__1 hfybz2__2 hfybz2__3); have ho_ : Only wz28 wz29 bz2_ := (by rw [hw]; repeat (first | exact Only.refl _ _ | apply Only.set)); have := ORLZbz1_.out; have := OQLZbz1_.out; have := ORLZbz2_.out; have := OQLZbz2_.out; replace LZbz1_ := aM (LZbz1_.out.only2 ho_ (by omega)); have hbx_ : wz29.heap[bz2_]? = some (.cells #[.int .i64 0, .int .i64 0, .int .i64 0, .slice none 0 0] 42 (0, 0)) := (by rw [hw]; exact blk_put4 LZbz2_.out.now); replace LZbz2_ := aM (Loc.box hbx_); replace HB := aM (below_only HB.out HWbz2_.out ho_); clear ho_ hbx_ hw; obtain ⟨hcybz1__0, hcybz1__1, hcybz1__2, hcybz1__3, hfybz1__0, hfybz1__1, hfybz1__2, hfybz1__3⟩ := cellsZ4 LZbz1_.out.now; obtain ⟨hcybz2__0, hcybz2__1, hcybz2__2, hcybz2__3, hfybz2__0, hfybz2__1, hfybz2__2, hfybz2__3⟩ := cellsZ4 LZbz2_.out.now))
   refine bodyPost_ret (results_ct rfl _ _ bz2_ 42 #[.int .i64 0, .int .i64 0, .int .i64 0, .slice none 0 0] (0, 0) _ rfl LZbz2_.out.now Tryd.underlying42 rfl (by kernel_rfl)) rfl ?_
   exact ⟨_, rfl, Kd.S_nil _ _ _ _ _, HB.out⟩

end Go.Proofs.YtkgmoajdcibafaaDoor.P

-- written by a program of this session's (wip/pp)
namespace Go.Proofs.YtkgmoajdcibafaaDoor.P
open Go.RowKit Go.Proofs.YtkgmoajdcibafaaDoorW.PrintWords Go.Proofs.YtkgmoajdcibafaaDoorW.PrintLast Go.Proofs.YtkgmoajdcibafaaDoorW.PrintMore
attribute [local go_sem] max2_int min2_int max_two min_two max_three min_three max_four min_four str_geq str_gtr str_leq   -- for this text's walks alone
set_option linter.unusedVariables false
set_option linter.unusedSimpArgs false

/-! ### laws_heldTagS: function 77 -/
def laws_heldTagS.l0 : Nat → List (S123) → Int → Int → Option (Int)
 | 0, _, _, _ => none
 | k + 1, x0, x1, x5 => if x5 < (x0.length : Int) then (if 0 ≤ x5 then ((laws_markText.f k x1).bind fun t102 => (if ((rd_T123 x0 x5).f0).toList = t102.toList then ((laws_markText.f k (wrap64 (x1 + 1))).bind fun t104 => (if ((rd_T123 x0 x5).f1).toList = t104.toList then (laws_heldTagS.l0 k x0 (wrap64 ((wrap64 (x1 + 1)) + 1)) (wrap64 (x5 + 1))) else (none))) else (none))) else (none)) else (some x1)
def laws_heldTagS.f (k : Nat) (l0 : List (S123)) (a1 : Int) : Option (Int) := laws_heldTagS.l0 k l0 a1 0
theorem laws_heldTagS.mono_l : ∀ k, (∀ y0 y1 y2, LeO (laws_heldTagS.l0 k y0 y1 y2) (laws_heldTagS.l0 (k + 1) y0 y1 y2))
 | 0 => fun _ _ _ r h => by simp [laws_heldTagS.l0] at h
 | k + 1 => by
  have ih0 := laws_heldTagS.mono_l k
  · intro y0 y1 y2
    unfold laws_heldTagS.l0
    repeat' first
     | (with_reducible first | exact ih0 .. | exact laws_markText.mono .. | exact LeO.refl _ | exact LeO.none _ | refine LeO.ite ?_ ?_ | refine LeO.bind ?_ (fun _ => ?_))
     | exact LeO.none _
     | refine LeO.ite ?_ ?_
     | refine LeO.bind ?_ (fun _ => ?_)
theorem laws_heldTagS.mono : ∀ a0 a1 k, LeO (laws_heldTagS.f k a0 a1) (laws_heldTagS.f (k + 1) a0 a1) := by
 intro a0 a1 k
 have ih0 := laws_heldTagS.mono_l k
 unfold laws_heldTagS.f
 repeat' first
  | (with_reducible first | exact ih0 .. | exact laws_markText.mono .. | exact LeO.refl _ | exact LeO.none _ | refine LeO.ite ?_ ?_ | refine LeO.bind ?_ (fun _ => ?_))
  | exact LeO.none _
  | refine LeO.ite ?_ ?_
  | refine LeO.bind ?_ (fun _ => ?_)
def laws_heldTagS.T4 : Bool × List (List Nat × List Nat) := (true, [([], []), ([], []), ([0, 1], [0, 1]), ([2], [2]), ([3], [3]), ([], []), ([5], [5]), ([4, 6], [4, 6])])
def laws_heldTagS.B4 : List Nat := [0, 0, 3, 7, 15, 0, 32, 127]
theorem laws_heldTagS.tab4 : rtab .any (opsOf Tryd.f77 4) = laws_heldTagS.T4 := by kernel_rfl
theorem laws_heldTagS.bits4 : waitsOk laws_heldTagS.T4.2 laws_heldTagS.B4 = true := by kernel_rfl
def laws_heldTagS.T7 : Bool × List (List Nat × List Nat) := (true, [([], []), ([], []), ([0, 1], [0, 1]), ([2], [2]), ([3], [3]), ([], []), ([5], [5]), ([4, 6], [4, 6])])
def laws_heldTagS.B7 : List Nat := [0, 0, 3, 7, 15, 0, 32, 127]
theorem laws_heldTagS.tab7 : rtab .any (opsOf Tryd.f77 7) = laws_heldTagS.T7 := by kernel_rfl
theorem laws_heldTagS.bits7 : waitsOk laws_heldTagS.T7.2 laws_heldTagS.B7 = true := by kernel_rfl
set_option maxHeartbeats 8000000 in
set_option maxRecDepth 100000 in
theorem laws_heldTagS.calls (k : Nat) (A0 : Option Addr) (c0 : Nat) (l0 : List (S123)) (a1 : Int) (r : Int) (w : World) (hr0 : Kd.C k123 w A0 l0.length l0) (hc0 : l0.length ≤ c0) (h : laws_heldTagS.f k l0 a1 = some r) :
 Calls Tryd.prog 77 #[.slice A0 l0.length c0, .int .i64 a1] w fun e w' => e = .returned (.int .i64 r) ∧ Below w.heap.size w w' := by
 have HR0 := aM hr0
 have HC0 := aM hc0
 clear hr0 hc0
 have HB := aM (Below.refl w.heap.size w)
 have H : (laws_heldTagS.l0 k l0 a1 0) = some r := h
 clear h
 have H' := aM H
 clear H
 go_enter Tryd.func77, Tryd.ntmps77
 go_wp2
 go_loopg [1, 5] k (fun kq v1 v5 w' => ∃ (x1_1 : Int) (x5_1 : Int), v1 = .int .i64 x1_1 ∧ v5 = .int .i64 x5_1 ∧ Aside0 (laws_heldTagS.l0 kq l0 x1_1 x5_1 = some r) ∧ Aside0 (kq ≤ k) ∧ Aside0 (Below w.heap.size w w'))
 case atStart => exact ⟨(a1), (0), z4458, z4458, H', ⟨Nat.le_refl _⟩, ⟨z5acd⟩⟩
 case round =>
  clear H'
  try clear p2
  obtain ⟨x1_1, x5_1, rfl, rfl, HA, HK1, HB⟩ := hrel
  cases gk with
  | zero => exact absurd HA.out (by simp [laws_heldTagS.l0])
  | succ k1 =>
   have H := HA.out
   clear HA
   simp only [laws_heldTagS.l0] at H
   by_cases c3 : x5_1 < (l0.length : Int)
   · rw [if_pos c3] at H
     have c3b0 : decide (x5_1 < (l0.length : Int)) = true := decide_eq_true c3
     clear c3
     replace H := ifS H; obtain ⟨c4, H⟩ := H
     have c4b0 : decide (0 ≤ x5_1) = true := decide_eq_true c4
     clear c4
     replace H := Option.bind_eq_some_iff.mp H
     obtain ⟨t102, A50, H⟩ := H
     try dsimp only at H
     have A5 := aM A50
     clear A50
     replace H := ifS H; obtain ⟨c6, H⟩ := H
     have c6b0 : (((rd_T123 l0 x5_1).f0).toList == t102.toList) = true := beq_iff_eq.mpr c6
     have c6b1 : (((rd_T123 l0 x5_1).f0).toList != t102.toList) = false := bne_eq_false_iff_eq.mpr c6
     clear c6
     replace H := Option.bind_eq_some_iff.mp H
     obtain ⟨t104, A70, H⟩ := H
     try dsimp only at H
     have A7 := aM A70
     clear A70
     replace H := ifS H; obtain ⟨c8, H⟩ := H
     have c8b0 : (((rd_T123 l0 x5_1).f1).toList == t104.toList) = true := beq_iff_eq.mpr c8
     have c8b1 : (((rd_T123 l0 x5_1).f1).toList != t104.toList) = false := bne_eq_false_iff_eq.mpr c8
     clear c8
     have H' := aM H
     clear H
     try go_wp2
     have _ := aM (below_drew1 HB.out)
     clear HB
     rename_i HB
     have p101 : 0 ≤ (x5_1 : Int) := of_decide_eq_true z1200
     have q101 : x5_1 < (l0.length : Int) := of_decide_eq_true z1200
     obtain ⟨ad101, e101, hx101_0, hx101_1⟩ := at_T123 HR0.out x5_1 p101 q101
     have hw101_1 := hx101_1
     have hw101_0 := hx101_0
     cases e101
     replace hx101_0 := (HB.out.cell (World.block_lt_of_cell? w _ hx101_0)).trans hx101_0
     replace hx101_1 := (HB.out.cell (World.block_lt_of_cell? w _ hx101_1)).trans hx101_1
     replace p101 := eq_true p101
     replace q101 := eq_true q101
     refine sA 8 laws_heldTagS.tab4 laws_heldTagS.bits4 (fun w' => w'.cell? (ad101.add ((x5_1).toNat * 2)) = some (.string ((rd_T123 l0 x5_1).f0)) ∧ w'.cell? ⟨(ad101.add ((x5_1).toNat * 2)).block, (ad101.add ((x5_1).toNat * 2)).off + 1, none⟩ = some (.string ((rd_T123 l0 x5_1).f1))) [] (fun hHeld HT_ HW_ => ?_)
     generalize wr.drew = w9 at HB hx101_0 hx101_1 hHeld ⊢
     refine pA 0 12 HT_ ?_; refine pA 1 13 HT_ ?_; refine pA 2 14 HT_ ?_; refine pA 3 15 HT_ ?_; refine pA 5 17 HT_ ?_; refine tA 4 16 HT_ HW_ hHeld ?_; refine oA 6 18 HT_ (fun K hK => ?_)
     refine goes_ Tryd.func75 (by kernel_rfl) rfl #[.int .i64 x1_1] (by rfl) rfl rfl zee81 ?_
     with_reducible refine (laws_markText.calls k1 x1_1 t102 _ A5.out).mono ?_
     rintro e w10 ⟨rfl, hb⟩
     refine ⟨_, rfl, ?_⟩
     have _ := aM (below_step hbZ hb)
     clear HB
     rename_i HB
     (try clear hb)
     (try clear hb2)
     (try clear hk)
     (try clear hi)
     refine hK.out _ _ sZ (fun hHeld => ?_)
     clear hK K
     refine nA 18 ?_; refine pA 7 19 HT_ ?_
     refine done_ (done_of HT_.out (by kernel_rfl)) ?_
     try go_wp2
     have _ := aM (below_drew1 HB.out)
     clear HB
     rename_i HB
     have p103 : 0 ≤ (x5_1 : Int) := of_decide_eq_true z1200
     have q103 : x5_1 < (l0.length : Int) := of_decide_eq_true z1200
     obtain ⟨ad103, e103, hx103_0, hx103_1⟩ := at_T123 HR0.out x5_1 p103 q103
     have hw103_1 := hx103_1
     have hw103_0 := hx103_0
     obtain rfl : ad101 = ad103 := (by injection e103)
     replace hx103_0 := (HB.out.cell (World.block_lt_of_cell? w _ hx103_0)).trans hx103_0
     replace hx103_1 := (HB.out.cell (World.block_lt_of_cell? w _ hx103_1)).trans hx103_1
     replace p103 := eq_true p103
     replace q103 := eq_true q103
     refine sA 8 laws_heldTagS.tab7 laws_heldTagS.bits7 (fun w' => w'.cell? (ad101.add ((x5_1).toNat * 2)) = some (.string ((rd_T123 l0 x5_1).f0)) ∧ w'.cell? ⟨(ad101.add ((x5_1).toNat * 2)).block, (ad101.add ((x5_1).toNat * 2)).off + 1, none⟩ = some (.string ((rd_T123 l0 x5_1).f1))) [] (fun hHeld HT_ HW_ => ?_)
     generalize w10.drew = w11 at HB hx103_0 hx103_1 hHeld ⊢
     refine pA 0 22 HT_ ?_; refine pA 1 23 HT_ ?_; refine pA 2 24 HT_ ?_; refine pA 3 25 HT_ ?_; refine pA 5 27 HT_ ?_; refine tA 4 26 HT_ HW_ hHeld ?_; refine oA 6 28 HT_ (fun K hK => ?_)
     refine goes_ Tryd.func75 (by kernel_rfl) rfl #[.int .i64 (wrap64 (x1_1 + 1))] (by rfl) rfl rfl zee81 ?_
     with_reducible refine (laws_markText.calls k1 (wrap64 (x1_1 + 1)) t104 _ A7.out).mono ?_
     rintro e w12 ⟨rfl, hb⟩
     refine ⟨_, rfl, ?_⟩
     have _ := aM (below_step hbZ hb)
     clear HB
     rename_i HB
     (try clear hb)
     (try clear hb2)
     (try clear hk)
     (try clear hi)
     refine hK.out _ _ sZ (fun hHeld => ?_)
     clear hK K
     refine nA 28 ?_; refine pA 7 29 HT_ ?_
     refine done_ (done_of HT_.out (by kernel_rfl)) ?_
     try go_wp2
     go_roundg k1
     case measure => have := HK1.out; omega
     case rel => exact ⟨(wrap64 ((wrap64 (x1_1 + 1)) + 1)), (wrap64 (x5_1 + 1)), z4458, z4458, H', ⟨zfb39⟩, ⟨z5acd⟩⟩
   · rw [if_neg c3] at H
     have c3b0 : decide (x5_1 < (l0.length : Int)) = false := decide_eq_false c3
     clear c3
     obtain rfl := Option.some.inj H
     go_wp2
     go_ret
     exact ⟨z674d, z5acd⟩

end Go.Proofs.YtkgmoajdcibafaaDoor.P

-- written by a program of this session's (wip/pp)
namespace Go.Proofs.YtkgmoajdcibafaaDoor.P
open Go.RowKit Go.Proofs.YtkgmoajdcibafaaDoorW.PrintWords Go.Proofs.YtkgmoajdcibafaaDoorW.PrintLast Go.Proofs.YtkgmoajdcibafaaDoorW.PrintMore
attribute [local go_sem] max2_int min2_int max_two min_two max_three min_three max_four min_four str_geq str_gtr str_leq   -- for this text's walks alone
set_option linter.unusedVariables false
set_option linter.unusedSimpArgs false

/-! ### laws_heldIntS: function 78 -/
def laws_heldIntS.l0 : Nat → List Int → Int → Int → Option (Int)
 | 0, _, _, _ => none
 | k + 1, x0, x1, x5 => if x5 < (x0.length : Int) then (if 0 ≤ x5 then (if (rd x0 x5) = x1 then (laws_heldIntS.l0 k x0 (wrap64 (x1 + 1)) (wrap64 (x5 + 1))) else (none)) else (none)) else (some x1)
def laws_heldIntS.f (k : Nat) (l0 : List Int) (a1 : Int) : Option (Int) := laws_heldIntS.l0 k l0 a1 0
theorem laws_heldIntS.mono_l : ∀ k, (∀ y0 y1 y2, LeO (laws_heldIntS.l0 k y0 y1 y2) (laws_heldIntS.l0 (k + 1) y0 y1 y2))
 | 0 => fun _ _ _ r h => by simp [laws_heldIntS.l0] at h
 | k + 1 => by
  have ih0 := laws_heldIntS.mono_l k
  · intro y0 y1 y2
    unfold laws_heldIntS.l0
    repeat' first
     | (with_reducible first | exact ih0 .. | exact LeO.refl _ | exact LeO.none _ | refine LeO.ite ?_ ?_ | refine LeO.bind ?_ (fun _ => ?_))
     | exact LeO.none _
     | refine LeO.ite ?_ ?_
     | refine LeO.bind ?_ (fun _ => ?_)
theorem laws_heldIntS.mono : ∀ a0 a1 k, LeO (laws_heldIntS.f k a0 a1) (laws_heldIntS.f (k + 1) a0 a1) := by
 intro a0 a1 k
 have ih0 := laws_heldIntS.mono_l k
 unfold laws_heldIntS.f
 repeat' first
  | (with_reducible first | exact ih0 .. | exact LeO.refl _ | exact LeO.none _ | refine LeO.ite ?_ ?_ | refine LeO.bind ?_ (fun _ => ?_))
  | exact LeO.none _
  | refine LeO.ite ?_ ?_
  | refine LeO.bind ?_ (fun _ => ?_)
set_option maxHeartbeats 8000000 in
set_option maxRecDepth 100000 in
theorem laws_heldIntS.calls (k : Nat) (A0 : Option Addr) (c0 : Nat) (l0 : List Int) (a1 : Int) (r : Int) (w : World) (hr0 : Kd.C (Kd.int .i64) w A0 l0.length l0) (hc0 : l0.length ≤ c0) (h : laws_heldIntS.f k l0 a1 = some r) :
 Calls Tryd.prog 78 #[.slice A0 l0.length c0, .int .i64 a1] w fun e w' => e = .returned (.int .i64 r) ∧ Drawn0 w w' := by
 have HR0 := aM hr0
 have HC0 := aM hc0
 clear hr0 hc0
 have H : (laws_heldIntS.l0 k l0 a1 0) = some r := h
 clear h
 have H' := aM H
 clear H
 go_enter Tryd.func78, Tryd.ntmps78
 go_wp2
 go_loopg [1, 5] k (fun kq v1 v5 w' => ∃ (x1_1 : Int) (x5_1 : Int), v1 = .int .i64 x1_1 ∧ v5 = .int .i64 x5_1 ∧ Aside0 (laws_heldIntS.l0 kq l0 x1_1 x5_1 = some r) ∧ Aside0 (kq ≤ k) ∧ Drawn0 w w')
 case atStart => exact ⟨(a1), (0), z4458, z4458, H', ⟨Nat.le_refl _⟩, za9de⟩
 case round =>
  clear H'
  try clear p2
  obtain ⟨x1_1, x5_1, rfl, rfl, HA, HK1, ⟨m1, rfl⟩⟩ := hrel
  cases gk with
  | zero => exact absurd HA.out (by simp [laws_heldIntS.l0])
  | succ k1 =>
   have H := HA.out
   clear HA
   simp only [laws_heldIntS.l0] at H
   by_cases c3 : x5_1 < (l0.length : Int)
   · rw [if_pos c3] at H
     have c3b0 : decide (x5_1 < (l0.length : Int)) = true := decide_eq_true c3
     clear c3
     replace H := ifS H; obtain ⟨c4, H⟩ := H
     have c4b0 : decide (0 ≤ x5_1) = true := decide_eq_true c4
     clear c4
     replace H := ifS H; obtain ⟨c5, H⟩ := H
     have c5b0 : ((rd l0 x5_1) == x1_1) = true := beq_iff_eq.mpr c5
     have c5b1 : ((rd l0 x5_1) != x1_1) = false := bne_eq_false_iff_eq.mpr c5
     clear c5
     have H' := aM H
     clear H
     have p101 : 0 ≤ (x5_1 : Int) := of_decide_eq_true z1200
     have q101 : x5_1 < (l0.length : Int) := of_decide_eq_true z1200
     obtain ⟨ad101, e101, hx101_0⟩ := Kd.at_int HR0.out x5_1 p101 q101
     cases e101
     replace p101 := eq_true p101
     replace q101 := eq_true q101
     go_wp2
     go_roundg k1
     case measure => have := HK1.out; omega
     case rel => exact ⟨(wrap64 (x1_1 + 1)), (wrap64 (x5_1 + 1)), z4458, z4458, H', ⟨zfb39⟩, za9de⟩
   · rw [if_neg c3] at H
     have c3b0 : decide (x5_1 < (l0.length : Int)) = false := decide_eq_false c3
     clear c3
     obtain rfl := Option.some.inj H
     go_wp2
     go_ret
     exact ⟨z4458, za9de⟩

end Go.Proofs.YtkgmoajdcibafaaDoor.P

-- written by a program of this session's (wip/pp)
namespace Go.Proofs.YtkgmoajdcibafaaDoor.P
open Go.RowKit Go.Proofs.YtkgmoajdcibafaaDoorW.PrintWords Go.Proofs.YtkgmoajdcibafaaDoorW.PrintLast Go.Proofs.YtkgmoajdcibafaaDoorW.PrintMore
attribute [local go_sem] max2_int min2_int max_two min_two max_three min_three max_four min_four str_geq str_gtr str_leq   -- for this text's walks alone
set_option linter.unusedVariables false
set_option linter.unusedSimpArgs false

/-! ### laws_heldWinS: function 61 -/
def laws_heldWinS.l0 : Nat → List (S37) → Int → Int → Option (Int)
 | 0, _, _, _ => none
 | k + 1, x0, x1, x5 => if x5 < (x0.length : Int) then (if 0 ≤ x5 then ((laws_markText.f k x1).bind fun t102 => (if ((rd_T37 x0 x5).f0.f0).toList = t102.toList then ((laws_heldTagS.f k ((rd_T37 x0 x5).f0.f1) (wrap64 (x1 + 1))).bind fun t104 => (if t104 < 0 then (none) else (if ((rd_T37 x0 x5).f0.f2) = t104 then (if ((rd_T37 x0 x5).f1.f0) = (wrap64 (t104 + 1)) then (if ((rd_T37 x0 x5).f1.f1) = (wrap64 ((wrap64 (t104 + 1)) + 1)) then (if ((rd_T37 x0 x5).f1.f2) = (wrap64 ((wrap64 ((wrap64 (t104 + 1)) + 1)) + 1)) then (if ((rd_T37 x0 x5).f1.f3) = (wrap64 ((wrap64 ((wrap64 ((wrap64 (t104 + 1)) + 1)) + 1)) + 1)) then ((laws_heldIntS.f k ((rd_T37 x0 x5).f1.f4) (wrap64 ((wrap64 ((wrap64 ((wrap64 ((wrap64 (t104 + 1)) + 1)) + 1)) + 1)) + 1))).bind fun t111 => (if t111 < 0 then (none) else (if (((rd_T37 x0 x5).f1.f5) != ((Int.tmod t111 3) == 0)) = true then (none) else (if ((rd_T37 x0 x5).f2) = (wrap64 (t111 + 1)) then (if (((rd_T37 x0 x5).f3) != ((Int.tmod (wrap64 ((wrap64 (t111 + 1)) + 1)) 3) == 0)) = true then (none) else (laws_heldWinS.l0 k x0 (wrap64 ((wrap64 ((wrap64 (t111 + 1)) + 1)) + 1)) (wrap64 (x5 + 1)))) else (none))))) else (none)) else (none)) else (none)) else (none)) else (none)))) else (none))) else (none)) else (some x1)
def laws_heldWinS.f (k : Nat) (l0 : List (S37)) (a1 : Int) : Option (Int) := laws_heldWinS.l0 k l0 a1 0
theorem laws_heldWinS.mono_l : ∀ k, (∀ y0 y1 y2, LeO (laws_heldWinS.l0 k y0 y1 y2) (laws_heldWinS.l0 (k + 1) y0 y1 y2))
 | 0 => fun _ _ _ r h => by simp [laws_heldWinS.l0] at h
 | k + 1 => by
  have ih0 := laws_heldWinS.mono_l k
  · intro y0 y1 y2
    unfold laws_heldWinS.l0
    repeat' first
     | (with_reducible first | exact ih0 .. | exact laws_heldIntS.mono .. | exact laws_heldTagS.mono .. | exact laws_markText.mono .. | exact LeO.refl _ | exact LeO.none _ | refine LeO.ite ?_ ?_ | refine LeO.bind ?_ (fun _ => ?_))
     | exact LeO.none _
     | refine LeO.ite ?_ ?_
     | refine LeO.bind ?_ (fun _ => ?_)
theorem laws_heldWinS.mono : ∀ a0 a1 k, LeO (laws_heldWinS.f k a0 a1) (laws_heldWinS.f (k + 1) a0 a1) := by
 intro a0 a1 k
 have ih0 := laws_heldWinS.mono_l k
 unfold laws_heldWinS.f
 repeat' first
  | (with_reducible first | exact ih0 .. | exact laws_heldIntS.mono .. | exact laws_heldTagS.mono .. | exact laws_markText.mono .. | exact LeO.refl _ | exact LeO.none _ | refine LeO.ite ?_ ?_ | refine LeO.bind ?_ (fun _ => ?_))
  | exact LeO.none _
  | refine LeO.ite ?_ ?_
  | refine LeO.bind ?_ (fun _ => ?_)
def laws_heldWinS.T4 : Bool × List (List Nat × List Nat) := (true, [([], []), ([], []), ([0, 1], [0, 1]), ([2], [2]), ([3], [3]), ([4], [4]), ([], []), ([6], [6]), ([5, 7], [5, 7])])
def laws_heldWinS.B4 : List Nat := [0, 0, 3, 7, 15, 31, 0, 64, 255]
theorem laws_heldWinS.tab4 : rtab .any (opsOf Tryd.f61 4) = laws_heldWinS.T4 := by kernel_rfl
theorem laws_heldWinS.bits4 : waitsOk laws_heldWinS.T4.2 laws_heldWinS.B4 = true := by kernel_rfl
set_option maxHeartbeats 8000000 in
set_option maxRecDepth 100000 in
theorem laws_heldWinS.calls (k : Nat) (A0 : Option Addr) (c0 : Nat) (l0 : List (S37)) (a1 : Int) (r : Int) (w : World) (hr0 : Kd.C k37 w A0 l0.length l0) (hc0 : l0.length ≤ c0) (h : laws_heldWinS.f k l0 a1 = some r) :
 Calls Tryd.prog 61 #[.slice A0 l0.length c0, .int .i64 a1] w fun e w' => e = .returned (.int .i64 r) ∧ Below w.heap.size w w' := by
 have HR0 := aM hr0
 have HC0 := aM hc0
 clear hr0 hc0
 have HB := aM (Below.refl w.heap.size w)
 have H : (laws_heldWinS.l0 k l0 a1 0) = some r := h
 clear h
 have H' := aM H
 clear H
 go_enter Tryd.func61, Tryd.ntmps61
 go_wp2
 go_loopg [1, 5] k (fun kq v1 v5 w' => ∃ (x1_1 : Int) (x5_1 : Int), v1 = .int .i64 x1_1 ∧ v5 = .int .i64 x5_1 ∧ Aside0 (laws_heldWinS.l0 kq l0 x1_1 x5_1 = some r) ∧ Aside0 (kq ≤ k) ∧ Aside0 (Below w.heap.size w w'))
 case atStart => exact ⟨(a1), (0), z4458, z4458, H', ⟨Nat.le_refl _⟩, ⟨z5acd⟩⟩
 case round =>
  clear H'
  try clear p2
  obtain ⟨x1_1, x5_1, rfl, rfl, HA, HK1, HB⟩ := hrel
  cases gk with
  | zero => exact absurd HA.out (by simp [laws_heldWinS.l0])
  | succ k1 =>
   have H := HA.out
   clear HA
   simp only [laws_heldWinS.l0] at H
   by_cases c3 : x5_1 < (l0.length : Int)
   · rw [if_pos c3] at H
     have c3b0 : decide (x5_1 < (l0.length : Int)) = true := decide_eq_true c3
     clear c3
     replace H := ifS H; obtain ⟨c4, H⟩ := H
     have c4b0 : decide (0 ≤ x5_1) = true := decide_eq_true c4
     clear c4
     replace H := Option.bind_eq_some_iff.mp H
     obtain ⟨t102, A50, H⟩ := H
     try dsimp only at H
     have A5 := aM A50
     clear A50
     replace H := ifS H; obtain ⟨c6, H⟩ := H
     have c6b0 : (((rd_T37 l0 x5_1).f0.f0).toList == t102.toList) = true := beq_iff_eq.mpr c6
     have c6b1 : (((rd_T37 l0 x5_1).f0.f0).toList != t102.toList) = false := bne_eq_false_iff_eq.mpr c6
     clear c6
     replace H := Option.bind_eq_some_iff.mp H
     obtain ⟨t104, A70, H⟩ := H
     try dsimp only at H
     have A7 := aM A70
     clear A70
     replace H := ifN H; obtain ⟨c8, H⟩ := H
     have c8b0 : decide (t104 < 0) = false := decide_eq_false c8
     clear c8
     replace H := ifS H; obtain ⟨c9, H⟩ := H
     have c9b0 : (((rd_T37 l0 x5_1).f0.f2) == t104) = true := beq_iff_eq.mpr c9
     have c9b1 : (((rd_T37 l0 x5_1).f0.f2) != t104) = false := bne_eq_false_iff_eq.mpr c9
     clear c9
     replace H := ifS H; obtain ⟨c10, H⟩ := H
     have c10b0 : (((rd_T37 l0 x5_1).f1.f0) == (wrap64 (t104 + 1))) = true := beq_iff_eq.mpr c10
     have c10b1 : (((rd_T37 l0 x5_1).f1.f0) != (wrap64 (t104 + 1))) = false := bne_eq_false_iff_eq.mpr c10
     clear c10
     replace H := ifS H; obtain ⟨c11, H⟩ := H
     have c11b0 : (((rd_T37 l0 x5_1).f1.f1) == (wrap64 ((wrap64 (t104 + 1)) + 1))) = true := beq_iff_eq.mpr c11
     have c11b1 : (((rd_T37 l0 x5_1).f1.f1) != (wrap64 ((wrap64 (t104 + 1)) + 1))) = false := bne_eq_false_iff_eq.mpr c11
     clear c11
     replace H := ifS H; obtain ⟨c12, H⟩ := H
     have c12b0 : (((rd_T37 l0 x5_1).f1.f2) == (wrap64 ((wrap64 ((wrap64 (t104 + 1)) + 1)) + 1))) = true := beq_iff_eq.mpr c12
     have c12b1 : (((rd_T37 l0 x5_1).f1.f2) != (wrap64 ((wrap64 ((wrap64 (t104 + 1)) + 1)) + 1))) = false := bne_eq_false_iff_eq.mpr c12
     clear c12
     replace H := ifS H; obtain ⟨c13, H⟩ := H
     have c13b0 : (((rd_T37 l0 x5_1).f1.f3) == (wrap64 ((wrap64 ((wrap64 ((wrap64 (t104 + 1)) + 1)) + 1)) + 1))) = true := beq_iff_eq.mpr c13
     have c13b1 : (((rd_T37 l0 x5_1).f1.f3) != (wrap64 ((wrap64 ((wrap64 ((wrap64 (t104 + 1)) + 1)) + 1)) + 1))) = false := bne_eq_false_iff_eq.mpr c13
     clear c13
     replace H := Option.bind_eq_some_iff.mp H
     obtain ⟨t111, A140, H⟩ := H
     try dsimp only at H
     have A14 := aM A140
     clear A140
     replace H := ifN H; obtain ⟨c15, H⟩ := H
     have c15b0 : decide (t111 < 0) = false := decide_eq_false c15
     clear c15
     replace H := ifN H; obtain ⟨c16, H⟩ := H
     have c16b0 : (((rd_T37 l0 x5_1).f1.f5) != ((Int.tmod t111 3) == 0)) = false := by simpa using c16
     (try (have c16b1 : decide (((rd_T37 l0 x5_1).f1.f5) = ((Int.tmod t111 3) == 0)) = true := by simpa using c16))
     (try (have c16b2 : (((rd_T37 l0 x5_1).f1.f5) == ((Int.tmod t111 3) == 0)) = true := by simpa using c16))
     clear c16
     replace H := ifS H; obtain ⟨c17, H⟩ := H
     have c17b0 : (((rd_T37 l0 x5_1).f2) == (wrap64 (t111 + 1))) = true := beq_iff_eq.mpr c17
     have c17b1 : (((rd_T37 l0 x5_1).f2) != (wrap64 (t111 + 1))) = false := bne_eq_false_iff_eq.mpr c17
     clear c17
     replace H := ifN H; obtain ⟨c18, H⟩ := H
     have c18b0 : (((rd_T37 l0 x5_1).f3) != ((Int.tmod (wrap64 ((wrap64 (t111 + 1)) + 1)) 3) == 0)) = false := by simpa using c18
     (try (have c18b1 : decide (((rd_T37 l0 x5_1).f3) = ((Int.tmod (wrap64 ((wrap64 (t111 + 1)) + 1)) 3) == 0)) = true := by simpa using c18))
     (try (have c18b2 : (((rd_T37 l0 x5_1).f3) == ((Int.tmod (wrap64 ((wrap64 (t111 + 1)) + 1)) 3) == 0)) = true := by simpa using c18))
     clear c18
     have H' := aM H
     clear H
     try go_wp2
     have _ := aM (below_drew1 HB.out)
     clear HB
     rename_i HB
     have p101 : 0 ≤ (x5_1 : Int) := of_decide_eq_true z1200
     have q101 : x5_1 < (l0.length : Int) := of_decide_eq_true z1200
     obtain ⟨ad101, A101_1, c101_1, A101_7, c101_7, e101, hx101_0, hx101_1, hx101_2, hx101_3, hx101_4, hx101_5, hx101_6, hx101_7, hx101_8, hx101_9, hx101_10, hl101_1, hi101_1, hl101_7, hi101_7⟩ := at_T37 HR0.out x5_1 p101 q101
     have hw101_10 := hx101_10
     have hw101_9 := hx101_9
     have hw101_8 := hx101_8
     have hw101_7 := hx101_7
     have hw101_6 := hx101_6
     have hw101_5 := hx101_5
     have hw101_4 := hx101_4
     have hw101_3 := hx101_3
     have hw101_2 := hx101_2
     have hw101_1 := hx101_1
     have hw101_0 := hx101_0
     cases e101
     have TW101_1 := aM hx101_1
     have TW101_7 := aM hx101_7
     replace hx101_0 := (HB.out.cell (World.block_lt_of_cell? w _ hx101_0)).trans hx101_0
     replace hx101_1 := (HB.out.cell (World.block_lt_of_cell? w _ hx101_1)).trans hx101_1
     replace hx101_2 := (HB.out.cell (World.block_lt_of_cell? w _ hx101_2)).trans hx101_2
     replace hx101_3 := (HB.out.cell (World.block_lt_of_cell? w _ hx101_3)).trans hx101_3
     replace hx101_4 := (HB.out.cell (World.block_lt_of_cell? w _ hx101_4)).trans hx101_4
     replace hx101_5 := (HB.out.cell (World.block_lt_of_cell? w _ hx101_5)).trans hx101_5
     replace hx101_6 := (HB.out.cell (World.block_lt_of_cell? w _ hx101_6)).trans hx101_6
     replace hx101_7 := (HB.out.cell (World.block_lt_of_cell? w _ hx101_7)).trans hx101_7
     replace hx101_8 := (HB.out.cell (World.block_lt_of_cell? w _ hx101_8)).trans hx101_8
     replace hx101_9 := (HB.out.cell (World.block_lt_of_cell? w _ hx101_9)).trans hx101_9
     replace hx101_10 := (HB.out.cell (World.block_lt_of_cell? w _ hx101_10)).trans hx101_10
     have HR101_1 := aM hi101_1
     have HC101_1 := aM hl101_1
     clear hi101_1 hl101_1
     have HR101_7 := aM hi101_7
     have HC101_7 := aM hl101_7
     clear hi101_7 hl101_7
     replace p101 := eq_true p101
     replace q101 := eq_true q101
     refine sA 9 laws_heldWinS.tab4 laws_heldWinS.bits4 (fun w' => w'.cell? (ad101.add ((x5_1).toNat * 11)) = some (.string ((rd_T37 l0 x5_1).f0.f0)) ∧ w'.cell? ⟨(ad101.add ((x5_1).toNat * 11)).block, (ad101.add ((x5_1).toNat * 11)).off + 1, none⟩ = some (.slice A101_1 ((rd_T37 l0 x5_1).f0.f1).length c101_1) ∧ w'.cell? ⟨(ad101.add ((x5_1).toNat * 11)).block, (ad101.add ((x5_1).toNat * 11)).off + 2, none⟩ = some (.int .i64 ((rd_T37 l0 x5_1).f0.f2)) ∧ w'.cell? ⟨(ad101.add ((x5_1).toNat * 11)).block, (ad101.add ((x5_1).toNat * 11)).off + 3, none⟩ = some (.int .i64 ((rd_T37 l0 x5_1).f1.f0)) ∧ w'.cell? ⟨(ad101.add ((x5_1).toNat * 11)).block, (ad101.add ((x5_1).toNat * 11)).off + 4, none⟩ = some (.int .i64 ((rd_T37 l0 x5_1).f1.f1)) ∧ w'.cell? ⟨(ad101.add ((x5_1).toNat * 11)).block, (ad101.add ((x5_1).toNat * 11)).off + 5, none⟩ = some (.int .i64 ((rd_T37 l0 x5_1).f1.f2)) ∧ w'.cell? ⟨(ad101.add ((x5_1).toNat * 11)).block, (ad101.add ((x5_1).toNat * 11)).off + 6, none⟩ = some (.int .i64 ((rd_T37 l0 x5_1).f1.f3)) ∧ w'.cell? ⟨(ad101.add ((x5_1).toNat * 11)).block, (ad101.add ((x5_1).toNat * 11)).off + 7, none⟩ = some (.slice A101_7 ((rd_T37 l0 x5_1).f1.f4).length c101_7) ∧ w'.cell? ⟨(ad101.add ((x5_1).toNat * 11)).block, (ad101.add ((x5_1).toNat * 11)).off + 8, none⟩ = some (.bool ((rd_T37 l0 x5_1).f1.f5)) ∧ w'.cell? ⟨(ad101.add ((x5_1).toNat * 11)).block, (ad101.add ((x5_1).toNat * 11)).off + 9, none⟩ = some (.int .i64 ((rd_T37 l0 x5_1).f2)) ∧ w'.cell? ⟨(ad101.add ((x5_1).toNat * 11)).block, (ad101.add ((x5_1).toNat * 11)).off + 10, none⟩ = some (.bool ((rd_T37 l0 x5_1).f3))) [] (fun hHeld HT_ HW_ => ?_)
     generalize wr.drew = w19 at HB HR101_1 HR101_7 hx101_0 hx101_1 hx101_10 hx101_2 hx101_3 hx101_4 hx101_5 hx101_6 hx101_7 hx101_8 hx101_9 hHeld ⊢
     refine pA 0 12 HT_ ?_; refine pA 1 13 HT_ ?_; refine pA 2 14 HT_ ?_; refine pA 3 15 HT_ ?_; refine pA 4 16 HT_ ?_; refine pA 6 18 HT_ ?_; refine tA 5 17 HT_ HW_ hHeld ?_; refine oA 7 19 HT_ (fun K hK => ?_)
     refine goes_ Tryd.func75 (by kernel_rfl) rfl #[.int .i64 x1_1] (by rfl) rfl rfl zee81 ?_
     with_reducible refine (laws_markText.calls k1 x1_1 t102 _ A5.out).mono ?_
     rintro e w20 ⟨rfl, hb⟩
     refine ⟨_, rfl, ?_⟩
     have _ := aM (below_step hbZ hb)
     clear HB
     rename_i HB
     (try clear hb)
     (try clear hb2)
     (try clear hk)
     (try clear hi)
     refine hK.out _ _ sZ (fun hHeld => ?_)
     clear hK K
     refine nA 19 ?_; refine pA 8 20 HT_ ?_
     refine done_ (done_of HT_.out (by kernel_rfl)) ?_
     have p103 : 0 ≤ (x5_1 : Int) := of_decide_eq_true z1200
     have q103 : x5_1 < (l0.length : Int) := of_decide_eq_true z1200
     obtain ⟨ad103, A103_1, c103_1, A103_7, c103_7, e103, hx103_0, hx103_1, hx103_2, hx103_3, hx103_4, hx103_5, hx103_6, hx103_7, hx103_8, hx103_9, hx103_10, hl103_1, hi103_1, hl103_7, hi103_7⟩ := at_T37 HR0.out x5_1 p103 q103
     obtain rfl : ad101 = ad103 := (by injection e103)
     (try (have ez_ := hx103_1.symm.trans TW101_1.out; simp only [Option.some.injEq, Value.slice.injEq, true_and] at ez_; obtain ⟨ez1_, ez2_⟩ := ez_; subst ez1_ ez2_))
     (try (have ez_ := hx103_7.symm.trans TW101_7.out; simp only [Option.some.injEq, Value.slice.injEq, true_and] at ez_; obtain ⟨ez1_, ez2_⟩ := ez_; subst ez1_ ez2_))
     have TW103_1 := aM hx103_1
     have TW103_7 := aM hx103_7
     replace hx103_0 := (HB.out.cell (World.block_lt_of_cell? w _ hx103_0)).trans hx103_0
     replace hx103_1 := (HB.out.cell (World.block_lt_of_cell? w _ hx103_1)).trans hx103_1
     replace hx103_2 := (HB.out.cell (World.block_lt_of_cell? w _ hx103_2)).trans hx103_2
     replace hx103_3 := (HB.out.cell (World.block_lt_of_cell? w _ hx103_3)).trans hx103_3
     replace hx103_4 := (HB.out.cell (World.block_lt_of_cell? w _ hx103_4)).trans hx103_4
     replace hx103_5 := (HB.out.cell (World.block_lt_of_cell? w _ hx103_5)).trans hx103_5
     replace hx103_6 := (HB.out.cell (World.block_lt_of_cell? w _ hx103_6)).trans hx103_6
     replace hx103_7 := (HB.out.cell (World.block_lt_of_cell? w _ hx103_7)).trans hx103_7
     replace hx103_8 := (HB.out.cell (World.block_lt_of_cell? w _ hx103_8)).trans hx103_8
     replace hx103_9 := (HB.out.cell (World.block_lt_of_cell? w _ hx103_9)).trans hx103_9
     replace hx103_10 := (HB.out.cell (World.block_lt_of_cell? w _ hx103_10)).trans hx103_10
     have HR103_1 := aM hi103_1
     have HC103_1 := aM hl103_1
     clear hi103_1 hl103_1
     have HR103_7 := aM hi103_7
     have HC103_7 := aM hl103_7
     clear hi103_7 hl103_7
     replace p103 := eq_true p103
     replace q103 := eq_true q103
     try go_wp2_with (first | ((with_reducible refine gate_callee (f := 77) rfl ?_); refine goesL_ (some 30) rfl rfl Tryd.func77 (by kernel_rfl) rfl #[.slice A103_1 ((rd_T37 l0 x5_1).f0.f1).length c103_1, .int .i64 (wrap64 (x1_1 + 1))] rfl zee81 ?_; (with_reducible refine (laws_heldTagS.calls k1 _ _ ((rd_T37 l0 x5_1).f0.f1) (wrap64 (x1_1 + 1)) t104 _ ?side1 ?side2 A7.out).mono ?_); (case side1 => exact (cZ (Kd.C_below HR103_1.out HB.out))); (case side2 => exact HC103_1.out); rintro e w21 ⟨rfl, hb⟩; refine ⟨_, rfl, ?_⟩; have _ := aM (below_step hbZ hb); clear HB; rename_i HB; (try clear hb); have p105 : 0 ≤ (x5_1 : Int) := of_decide_eq_true z1200; have q105 : x5_1 < (l0.length : Int) := of_decide_eq_true z1200; obtain ⟨ad105, A105_1, c105_1, A105_7, c105_7, e105, hx105_0, hx105_1, hx105_2, hx105_3, hx105_4, hx105_5, hx105_6, hx105_7, hx105_8, hx105_9, hx105_10, hl105_1, hi105_1, hl105_7, hi105_7⟩ := at_T37 HR0.out x5_1 p105 q105; obtain rfl : ad101 = ad105 := (by injection e105); (try (have ez_ := hx105_1.symm.trans TW101_1.out; simp only [Option.some.injEq, Value.slice.injEq, true_and] at ez_; obtain ⟨ez1_, ez2_⟩ := ez_; subst ez1_ ez2_)); (try (have ez_ := hx105_7.symm.trans TW101_7.out; simp only [Option.some.injEq, Value.slice.injEq, true_and] at ez_; obtain ⟨ez1_, ez2_⟩ := ez_; subst ez1_ ez2_)); (try (have ez_ := hx105_1.symm.trans TW103_1.out; simp only [Option.some.injEq, Value.slice.injEq, true_and] at ez_; obtain ⟨ez1_, ez2_⟩ := ez_; subst ez1_ ez2_)); (try (have ez_ := hx105_7.symm.trans TW103_7.out; simp only [Option.some.injEq, Value.slice.injEq, true_and] at ez_; obtain ⟨ez1_, ez2_⟩ := ez_; subst ez1_ ez2_)); have TW105_1 := aM hx105_1; have TW105_7 := aM hx105_7; replace hx105_0 := (HB.out.cell (World.block_lt_of_cell? w _ hx105_0)).trans hx105_0; replace hx105_1 := (HB.out.cell (World.block_lt_of_cell? w _ hx105_1)).trans hx105_1; replace hx105_2 := (HB.out.cell (World.block_lt_of_cell? w _ hx105_2)).trans hx105_2; replace hx105_3 := (HB.out.cell (World.block_lt_of_cell? w _ hx105_3)).trans hx105_3; replace hx105_4 := (HB.out.cell (World.block_lt_of_cell? w _ hx105_4)).trans hx105_4; replace hx105_5 := (HB.out.cell (World.block_lt_of_cell? w _ hx105_5)).trans hx105_5; replace hx105_6 := (HB.out.cell (World.block_lt_of_cell? w _ hx105_6)).trans hx105_6; replace hx105_7 := (HB.out.cell (World.block_lt_of_cell? w _ hx105_7)).trans hx105_7; replace hx105_8 := (HB.out.cell (World.block_lt_of_cell? w _ hx105_8)).trans hx105_8; replace hx105_9 := (HB.out.cell (World.block_lt_of_cell? w _ hx105_9)).trans hx105_9; replace hx105_10 := (HB.out.cell (World.block_lt_of_cell? w _ hx105_10)).trans hx105_10; have HR105_1 := aM hi105_1; have HC105_1 := aM hl105_1; clear hi105_1 hl105_1; have HR105_7 := aM hi105_7; have HC105_7 := aM hl105_7; clear hi105_7 hl105_7; replace p105 := eq_true p105; replace q105 := eq_true q105; have p106 : 0 ≤ (x5_1 : Int) := of_decide_eq_true z1200; have q106 : x5_1 < (l0.length : Int) := of_decide_eq_true z1200; obtain ⟨ad106, A106_1, c106_1, A106_7, c106_7, e106, hx106_0, hx106_1, hx106_2, hx106_3, hx106_4, hx106_5, hx106_6, hx106_7, hx106_8, hx106_9, hx106_10, hl106_1, hi106_1, hl106_7, hi106_7⟩ := at_T37 HR0.out x5_1 p106 q106; obtain rfl : ad101 = ad106 := (by injection e106); replace hx106_0 := (HB.out.cell (World.block_lt_of_cell? w _ hx106_0)).trans hx106_0; replace hx106_1 := (HB.out.cell (World.block_lt_of_cell? w _ hx106_1)).trans hx106_1; replace hx106_2 := (HB.out.cell (World.block_lt_of_cell? w _ hx106_2)).trans hx106_2; replace hx106_3 := (HB.out.cell (World.block_lt_of_cell? w _ hx106_3)).trans hx106_3; replace hx106_4 := (HB.out.cell (World.block_lt_of_cell? w _ hx106_4)).trans hx106_4; replace hx106_5 := (HB.out.cell (World.block_lt_of_cell? w _ hx106_5)).trans hx106_5; replace hx106_6 := (HB.out.cell (World.block_lt_of_cell? w _ hx106_6)).trans hx106_6; replace hx106_7 := (HB.out.cell (World.block_lt_of_cell? w _ hx106_7)).trans hx106_7; replace hx106_8 := (HB.out.cell (World.block_lt_of_cell? w _ hx106_8)).trans hx106_8; replace hx106_9 := (HB.out.cell (World.block_lt_of_cell? w _ hx106_9)).trans hx106_9; replace hx106_10 := (HB.out.cell (World.block_lt_of_cell? w _ hx106_10)).trans hx106_10; have HR106_1 := aM hi106_1; have HC106_1 := aM hl106_1; clear hi106_1 hl106_1; have HR106_7 := aM hi106_7; have HC106_7 := aM hl106_7; clear hi106_7 hl106_7; replace p106 := eq_true p106; replace q106 := eq_true q106; have ea_ := Option.some.inj (hx105_1.symm.trans hx106_1); injection ea_ with ea_ en_ ec_; subst ea_; subst ec_; clear en_; have ea_ := Option.some.inj (hx105_7.symm.trans hx106_7); injection ea_ with ea_ en_ ec_; subst ea_; subst ec_; clear en_; have p107 : 0 ≤ (x5_1 : Int) := of_decide_eq_true z1200; have q107 : x5_1 < (l0.length : Int) := of_decide_eq_true z1200; obtain ⟨ad107, A107_1, c107_1, A107_7, c107_7, e107, hx107_0, hx107_1, hx107_2, hx107_3, hx107_4, hx107_5, hx107_6, hx107_7, hx107_8, hx107_9, hx107_10, hl107_1, hi107_1, hl107_7, hi107_7⟩ := at_T37 HR0.out x5_1 p107 q107; obtain rfl : ad101 = ad107 := (by injection e107); replace hx107_0 := (HB.out.cell (World.block_lt_of_cell? w _ hx107_0)).trans hx107_0; replace hx107_1 := (HB.out.cell (World.block_lt_of_cell? w _ hx107_1)).trans hx107_1; replace hx107_2 := (HB.out.cell (World.block_lt_of_cell? w _ hx107_2)).trans hx107_2; replace hx107_3 := (HB.out.cell (World.block_lt_of_cell? w _ hx107_3)).trans hx107_3; replace hx107_4 := (HB.out.cell (World.block_lt_of_cell? w _ hx107_4)).trans hx107_4; replace hx107_5 := (HB.out.cell (World.block_lt_of_cell? w _ hx107_5)).trans hx107_5; replace hx107_6 := (HB.out.cell (World.block_lt_of_cell? w _ hx107_6)).trans hx107_6; replace hx107_7 := (HB.out.cell (World.block_lt_of_cell? w _ hx107_7)).trans hx107_7; replace hx107_8 := (HB.out.cell (World.block_lt_of_cell? w _ hx107_8)).trans hx107_8; replace hx107_9 := (HB.out.cell (World.block_lt_of_cell? w _ hx107_9)).trans hx107_9; replace hx107_10 := (HB.out.cell (World.block_lt_of_cell? w _ hx107_10)).trans hx107_10; have HR107_1 := aM hi107_1; have HC107_1 := aM hl107_1; clear hi107_1 hl107_1; have HR107_7 := aM hi107_7; have HC107_7 := aM hl107_7; clear hi107_7 hl107_7; replace p107 := eq_true p107; replace q107 := eq_true q107; have ea_ := Option.some.inj (hx105_1.symm.trans hx107_1); injection ea_ with ea_ en_ ec_; subst ea_; subst ec_; clear en_; have ea_ := Option.some.inj (hx105_7.symm.trans hx107_7); injection ea_ with ea_ en_ ec_; subst ea_; subst ec_; clear en_; have p108 : 0 ≤ (x5_1 : Int) := of_decide_eq_true z1200; have q108 : x5_1 < (l0.length : Int) := of_decide_eq_true z1200; obtain ⟨ad108, A108_1, c108_1, A108_7, c108_7, e108, hx108_0, hx108_1, hx108_2, hx108_3, hx108_4, hx108_5, hx108_6, hx108_7, hx108_8, hx108_9, hx108_10, hl108_1, hi108_1, hl108_7, hi108_7⟩ := at_T37 HR0.out x5_1 p108 q108; obtain rfl : ad101 = ad108 := (by injection e108); replace hx108_0 := (HB.out.cell (World.block_lt_of_cell? w _ hx108_0)).trans hx108_0; replace hx108_1 := (HB.out.cell (World.block_lt_of_cell? w _ hx108_1)).trans hx108_1; replace hx108_2 := (HB.out.cell (World.block_lt_of_cell? w _ hx108_2)).trans hx108_2; replace hx108_3 := (HB.out.cell (World.block_lt_of_cell? w _ hx108_3)).trans hx108_3; replace hx108_4 := (HB.out.cell (World.block_lt_of_cell? w _ hx108_4)).trans hx108_4; replace hx108_5 := (HB.out.cell (World.block_lt_of_cell? w _ hx108_5)).trans hx108_5; replace hx108_6 := (HB.out.cell (World.block_lt_of_cell? w _ hx108_6)).trans hx108_6; replace hx108_7 := (HB.out.cell (World.block_lt_of_cell? w _ hx108_7)).trans hx108_7; replace hx108_8 := (HB.out.cell (World.block_lt_of_cell? w _ hx108_8)).trans hx108_8; replace hx108_9 := (HB.out.cell (World.block_lt_of_cell? w _ hx108_9)).trans hx108_9; replace hx108_10 := (HB.out.cell (World.block_lt_of_cell? w _ hx108_10)).trans hx108_10; have HR108_1 := aM hi108_1; have HC108_1 := aM hl108_1; clear hi108_1 hl108_1; have HR108_7 := aM hi108_7; have HC108_7 := aM hl108_7; clear hi108_7 hl108_7; replace p108 := eq_true p108; replace q108 := eq_true q108; have ea_ := Option.some.inj (hx105_1.symm.trans hx108_1); injection ea_ with ea_ en_ ec_; subst ea_; subst ec_; clear en_; have ea_ := Option.some.inj (hx105_7.symm.trans hx108_7); injection ea_ with ea_ en_ ec_; subst ea_; subst ec_; clear en_; have p109 : 0 ≤ (x5_1 : Int) := of_decide_eq_true z1200; have q109 : x5_1 < (l0.length : Int) := of_decide_eq_true z1200; obtain ⟨ad109, A109_1, c109_1, A109_7, c109_7, e109, hx109_0, hx109_1, hx109_2, hx109_3, hx109_4, hx109_5, hx109_6, hx109_7, hx109_8, hx109_9, hx109_10, hl109_1, hi109_1, hl109_7, hi109_7⟩ := at_T37 HR0.out x5_1 p109 q109; obtain rfl : ad101 = ad109 := (by injection e109); replace hx109_0 := (HB.out.cell (World.block_lt_of_cell? w _ hx109_0)).trans hx109_0; replace hx109_1 := (HB.out.cell (World.block_lt_of_cell? w _ hx109_1)).trans hx109_1; replace hx109_2 := (HB.out.cell (World.block_lt_of_cell? w _ hx109_2)).trans hx109_2; replace hx109_3 := (HB.out.cell (World.block_lt_of_cell? w _ hx109_3)).trans hx109_3; replace hx109_4 := (HB.out.cell (World.block_lt_of_cell? w _ hx109_4)).trans hx109_4; replace hx109_5 := (HB.out.cell (World.block_lt_of_cell? w _ hx109_5)).trans hx109_5; replace hx109_6 := (HB.out.cell (World.block_lt_of_cell? w _ hx109_6)).trans hx109_6; replace hx109_7 := (HB.out.cell (World.block_lt_of_cell? w _ hx109_7)).trans hx109_7; replace hx109_8 := (HB.out.cell (World.block_lt_of_cell? w _ hx109_8)).trans hx109_8; replace hx109_9 := (HB.out.cell (World.block_lt_of_cell? w _ hx109_9)).trans hx109_9; replace hx109_10 := (HB.out.cell (World.block_lt_of_cell? w _ hx109_10)).trans hx109_10; have HR109_1 := aM hi109_1; have HC109_1 := aM hl109_1; clear hi109_1 hl109_1; have HR109_7 := aM hi109_7; have HC109_7 := aM hl109_7; clear hi109_7 hl109_7; replace p109 := eq_true p109; replace q109 := eq_true q109; have ea_ := Option.some.inj (hx105_1.symm.trans hx109_1); injection ea_ with ea_ en_ ec_; subst ea_; subst ec_; clear en_; have ea_ := Option.some.inj (hx105_7.symm.trans hx109_7); injection ea_ with ea_ en_ ec_; subst ea_; subst ec_; clear en_; have p110 : 0 ≤ (x5_1 : Int) := of_decide_eq_true z1200; have q110 : x5_1 < (l0.length : Int) := of_decide_eq_true z1200; obtain ⟨ad110, A110_1, c110_1, A110_7, c110_7, e110, hx110_0, hx110_1, hx110_2, hx110_3, hx110_4, hx110_5, hx110_6, hx110_7, hx110_8, hx110_9, hx110_10, hl110_1, hi110_1, hl110_7, hi110_7⟩ := at_T37 HR0.out x5_1 p110 q110; obtain rfl : ad101 = ad110 := (by injection e110); replace hx110_0 := (HB.out.cell (World.block_lt_of_cell? w _ hx110_0)).trans hx110_0; replace hx110_1 := (HB.out.cell (World.block_lt_of_cell? w _ hx110_1)).trans hx110_1; replace hx110_2 := (HB.out.cell (World.block_lt_of_cell? w _ hx110_2)).trans hx110_2; replace hx110_3 := (HB.out.cell (World.block_lt_of_cell? w _ hx110_3)).trans hx110_3; replace hx110_4 := (HB.out.cell (World.block_lt_of_cell? w _ hx110_4)).trans hx110_4; replace hx110_5 := (HB.out.cell (World.block_lt_of_cell? w _ hx110_5)).trans hx110_5; replace hx110_6 := (HB.out.cell (World.block_lt_of_cell? w _ hx110_6)).trans hx110_6; replace hx110_7 := (HB.out.cell (World.block_lt_of_cell? w _ hx110_7)).trans hx110_7; replace hx110_8 := (HB.out.cell (World.block_lt_of_cell? w _ hx110_8)).trans hx110_8; replace hx110_9 := (HB.out.cell (World.block_lt_of_cell? w _ hx110_9)).trans hx110_9; replace hx110_10 := (HB.out.cell (World.block_lt_of_cell? w _ hx110_10)).trans hx110_10; have HR110_1 := aM hi110_1; have HC110_1 := aM hl110_1; clear hi110_1 hl110_1; have HR110_7 := aM hi110_7; have HC110_7 := aM hl110_7; clear hi110_7 hl110_7; replace p110 := eq_true p110; replace q110 := eq_true q110; have ea_ := Option.some.inj (hx105_1.symm.trans hx110_1); injection ea_ with ea_ en_ ec_; subst ea_; subst ec_; clear en_; have ea_ := Option.some.inj (hx105_7.symm.trans hx110_7); injection ea_ with ea_ en_ ec_; subst ea_; subst ec_; clear en_) | ((with_reducible refine gate_callee (f := 78) rfl ?_); refine goesL_ (some 90) rfl rfl Tryd.func78 (by kernel_rfl) rfl #[.slice A105_7 ((rd_T37 l0 x5_1).f1.f4).length c105_7, .int .i64 (wrap64 ((wrap64 ((wrap64 ((wrap64 ((wrap64 (t104 + 1)) + 1)) + 1)) + 1)) + 1))] rfl zee81 ?_; (with_reducible refine (laws_heldIntS.calls k1 _ _ ((rd_T37 l0 x5_1).f1.f4) (wrap64 ((wrap64 ((wrap64 ((wrap64 ((wrap64 (t104 + 1)) + 1)) + 1)) + 1)) + 1)) t111 _ ?side1 ?side2 A14.out).mono ?_); (case side1 => exact (cZ (Kd.C_below HR110_7.out HB.out))); (case side2 => exact HC110_7.out); rintro e w' ⟨rfl, ⟨nd, rfl⟩⟩; refine ⟨_, rfl, ?_⟩; have p112 : 0 ≤ (x5_1 : Int) := of_decide_eq_true z1200; have q112 : x5_1 < (l0.length : Int) := of_decide_eq_true z1200; obtain ⟨ad112, A112_1, c112_1, A112_7, c112_7, e112, hx112_0, hx112_1, hx112_2, hx112_3, hx112_4, hx112_5, hx112_6, hx112_7, hx112_8, hx112_9, hx112_10, hl112_1, hi112_1, hl112_7, hi112_7⟩ := at_T37 HR0.out x5_1 p112 q112; obtain rfl : ad101 = ad112 := (by injection e112); replace hx112_0 := (HB.out.cell (World.block_lt_of_cell? w _ hx112_0)).trans hx112_0; replace hx112_1 := (HB.out.cell (World.block_lt_of_cell? w _ hx112_1)).trans hx112_1; replace hx112_2 := (HB.out.cell (World.block_lt_of_cell? w _ hx112_2)).trans hx112_2; replace hx112_3 := (HB.out.cell (World.block_lt_of_cell? w _ hx112_3)).trans hx112_3; replace hx112_4 := (HB.out.cell (World.block_lt_of_cell? w _ hx112_4)).trans hx112_4; replace hx112_5 := (HB.out.cell (World.block_lt_of_cell? w _ hx112_5)).trans hx112_5; replace hx112_6 := (HB.out.cell (World.block_lt_of_cell? w _ hx112_6)).trans hx112_6; replace hx112_7 := (HB.out.cell (World.block_lt_of_cell? w _ hx112_7)).trans hx112_7; replace hx112_8 := (HB.out.cell (World.block_lt_of_cell? w _ hx112_8)).trans hx112_8; replace hx112_9 := (HB.out.cell (World.block_lt_of_cell? w _ hx112_9)).trans hx112_9; replace hx112_10 := (HB.out.cell (World.block_lt_of_cell? w _ hx112_10)).trans hx112_10; have HR112_1 := aM hi112_1; have HC112_1 := aM hl112_1; clear hi112_1 hl112_1; have HR112_7 := aM hi112_7; have HC112_7 := aM hl112_7; clear hi112_7 hl112_7; replace p112 := eq_true p112; replace q112 := eq_true q112; have ea_ := Option.some.inj (hx105_1.symm.trans hx112_1); injection ea_ with ea_ en_ ec_; subst ea_; subst ec_; clear en_; have ea_ := Option.some.inj (hx105_7.symm.trans hx112_7); injection ea_ with ea_ en_ ec_; subst ea_; subst ec_; clear en_; have p113 : 0 ≤ (x5_1 : Int) := of_decide_eq_true z1200; have q113 : x5_1 < (l0.length : Int) := of_decide_eq_true z1200; obtain ⟨ad113, A113_1, c113_1, A113_7, c113_7, e113, hx113_0, hx113_1, hx113_2, hx113_3, hx113_4, hx113_5, hx113_6, hx113_7, hx113_8, hx113_9, hx113_10, hl113_1, hi113_1, hl113_7, hi113_7⟩ := at_T37 HR0.out x5_1 p113 q113; obtain rfl : ad101 = ad113 := (by injection e113); replace hx113_0 := (HB.out.cell (World.block_lt_of_cell? w _ hx113_0)).trans hx113_0; replace hx113_1 := (HB.out.cell (World.block_lt_of_cell? w _ hx113_1)).trans hx113_1; replace hx113_2 := (HB.out.cell (World.block_lt_of_cell? w _ hx113_2)).trans hx113_2; replace hx113_3 := (HB.out.cell (World.block_lt_of_cell? w _ hx113_3)).trans hx113_3; replace hx113_4 := (HB.out.cell (World.block_lt_of_cell? w _ hx113_4)).trans hx113_4; replace hx113_5 := (HB.out.cell (World.block_lt_of_cell? w _ hx113_5)).trans hx113_5; replace hx113_6 := (HB.out.cell (World.block_lt_of_cell? w _ hx113_6)).trans hx113_6; replace hx113_7 := (HB.out.cell (World.block_lt_of_cell? w _ hx113_7)).trans hx113_7; replace hx113_8 := (HB.out.cell (World.block_lt_of_cell? w _ hx113_8)).trans hx113_8; replace hx113_9 := (HB.out.cell (World.block_lt_of_cell? w _ hx113_9)).trans hx113_9; replace hx113_10 := (HB.out.cell (World.block_lt_of_cell? w _ hx113_10)).trans hx113_10; have HR113_1 := aM hi113_1; have HC113_1 := aM hl113_1; clear hi113_1 hl113_1; have HR113_7 := aM hi113_7; have HC113_7 := aM hl113_7; clear hi113_7 hl113_7; replace p113 := eq_true p113; replace q113 := eq_true q113; have ea_ := Option.some.inj (hx105_1.symm.trans hx113_1); injection ea_ with ea_ en_ ec_; subst ea_; subst ec_; clear en_; have ea_ := Option.some.inj (hx105_7.symm.trans hx113_7); injection ea_ with ea_ en_ ec_; subst ea_; subst ec_; clear en_; have p114 : 0 ≤ (x5_1 : Int) := of_decide_eq_true z1200; have q114 : x5_1 < (l0.length : Int) := of_decide_eq_true z1200; obtain ⟨ad114, A114_1, c114_1, A114_7, c114_7, e114, hx114_0, hx114_1, hx114_2, hx114_3, hx114_4, hx114_5, hx114_6, hx114_7, hx114_8, hx114_9, hx114_10, hl114_1, hi114_1, hl114_7, hi114_7⟩ := at_T37 HR0.out x5_1 p114 q114; obtain rfl : ad101 = ad114 := (by injection e114); replace hx114_0 := (HB.out.cell (World.block_lt_of_cell? w _ hx114_0)).trans hx114_0; replace hx114_1 := (HB.out.cell (World.block_lt_of_cell? w _ hx114_1)).trans hx114_1; replace hx114_2 := (HB.out.cell (World.block_lt_of_cell? w _ hx114_2)).trans hx114_2; replace hx114_3 := (HB.out.cell (World.block_lt_of_cell? w _ hx114_3)).trans hx114_3; replace hx114_4 := (HB.out.cell (World.block_lt_of_cell? w _ hx114_4)).trans hx114_4; replace hx114_5 := (HB.out.cell (World.block_lt_of_cell? w _ hx114_5)).trans hx114_5; replace hx114_6 := (HB.out.cell (World.block_lt_of_cell? w _ hx114_6)).trans hx114_6; replace hx114_7 := (HB.out.cell (World.block_lt_of_cell? w _ hx114_7)).trans hx114_7; replace hx114_8 := (HB.out.cell (World.block_lt_of_cell? w _ hx114_8)).trans hx114_8; replace hx114_9 := (HB.out.cell (World.block_lt_of_cell? w _ hx114_9)).trans hx114_9; replace hx114_10 := (HB.out.cell (World.block_lt_of_cell? w _ hx114_10)).trans hx114_10; have HR114_1 := aM hi114_1; have HC114_1 := aM hl114_1; clear hi114_1 hl114_1; have HR114_7 := aM hi114_7; have HC114_7 := aM hl114_7; clear hi114_7 hl114_7; replace p114 := eq_true p114; replace q114 := eq_true q114; have ea_ := Option.some.inj (hx105_1.symm.trans hx114_1); injection ea_ with ea_ en_ ec_; subst ea_; subst ec_; clear en_; have ea_ := Option.some.inj (hx105_7.symm.trans hx114_7); injection ea_ with ea_ en_ ec_; subst ea_; subst ec_; clear en_))
     go_roundg k1
     case measure => have := HK1.out; omega
     case rel => exact ⟨(wrap64 ((wrap64 ((wrap64 (t111 + 1)) + 1)) + 1)), (wrap64 (x5_1 + 1)), z4458, z4458, H', ⟨zfb39⟩, ⟨z5acd⟩⟩
   · rw [if_neg c3] at H
     have c3b0 : decide (x5_1 < (l0.length : Int)) = false := decide_eq_false c3
     clear c3
     obtain rfl := Option.some.inj H
     go_wp2
     go_ret
     exact ⟨z674d, z5acd⟩

end Go.Proofs.YtkgmoajdcibafaaDoor.P

-- written by a program of this session's (wip/pp)
namespace Go.Proofs.YtkgmoajdcibafaaDoor.P
open Go.RowKit Go.Proofs.YtkgmoajdcibafaaDoorW.PrintWords Go.Proofs.YtkgmoajdcibafaaDoorW.PrintLast Go.Proofs.YtkgmoajdcibafaaDoorW.PrintMore
attribute [local go_sem] max2_int min2_int max_two min_two max_three min_three max_four min_four str_geq str_gtr str_leq   -- for this text's walks alone
set_option linter.unusedVariables false
set_option linter.unusedSimpArgs false

/-! ### laws_heldBoard: function 23 -/
def laws_heldBoard.f (k : Nat) (a0_0 : Int) (a0_1 : Int) (a0_2 : Int) (l0_3 : List (S37)) (a1 : Int) : Option (Int) := (laws_heldWinS.f k l0_3 a1).bind fun t102 => (if t102 < 0 then (none) else (some t102))
theorem laws_heldBoard.mono : ∀ a0 a1 a2 a3 a4 k, LeO (laws_heldBoard.f k a0 a1 a2 a3 a4) (laws_heldBoard.f (k + 1) a0 a1 a2 a3 a4) := by
 intro a0 a1 a2 a3 a4 k
 unfold laws_heldBoard.f
 repeat' first
  | (with_reducible first | exact laws_heldWinS.mono .. | exact LeO.refl _ | exact LeO.none _ | refine LeO.ite ?_ ?_ | refine LeO.bind ?_ (fun _ => ?_))
  | exact LeO.none _
  | refine LeO.ite ?_ ?_
  | refine LeO.bind ?_ (fun _ => ?_)
set_option maxHeartbeats 8000000 in
set_option maxRecDepth 100000 in
theorem laws_heldBoard.calls (k : Nat) (a0_0 : Int) (a0_1 : Int) (a0_2 : Int) (A0_3 : Option Addr) (c0_3 : Nat) (l0_3 : List (S37)) (a1 : Int) (r : Int) (w : World) (hr0_3 : Kd.C k37 w A0_3 l0_3.length l0_3) (hc0_3 : l0_3.length ≤ c0_3) (h : laws_heldBoard.f k a0_0 a0_1 a0_2 l0_3 a1 = some r) :
 Calls Tryd.prog 23 #[.agg #[.int .i64 a0_0, .int .i64 a0_1, .int .i64 a0_2, .slice A0_3 l0_3.length c0_3], .int .i64 a1] w fun e w' => e = .returned (.int .i64 r) ∧ Below w.heap.size w w' := by
 have hu42 := Tryd.underlying42
 have HR0_3 := aM hr0_3
 have HC0_3 := aM hc0_3
 clear hr0_3 hc0_3
 have HB := aM (Below.refl w.heap.size w)
 have H : ((laws_heldWinS.f k l0_3 a1).bind fun t102 => (if t102 < 0 then (none) else (some t102))) = some r := h
 clear h
 replace H := Option.bind_eq_some_iff.mp H
 obtain ⟨t102, A30, H⟩ := H
 try dsimp only at H
 have A3 := aM A30
 clear A30
 replace H := ifN H; obtain ⟨c4, H⟩ := H
 have c4b0 : decide (t102 < 0) = false := decide_eq_false c4
 clear c4
 obtain rfl := Option.some.inj H
 go_enter Tryd.func23, Tryd.ntmps23
 go_wp2_with (first | ((with_reducible refine gate_dst (N := 2) rfl ?_); refine box_event ?hg (N := 2) ?hd (cs := #[.int .i64 a0_0, .int .i64 a0_1, .int .i64 a0_2, .slice A0_3 l0_3.length c0_3]) (t := 42) ?hr ?_; (case hd => rfl); (case hg => rfl); (case hr => first | (go_simp; done) | (go_simp; rfl)); intro gb101 hg w5 hbox hb; have _ := aM (below_step hbZ hb); have _ := aM hbox; have _ := szZ hg; have _ := szZ hg; clear HB; rename_i HB BK101 GW101 GE101; clear hb hbox hg; obtain ⟨hcz6_0, hcz6_1, hcz6_2, hcz6_3, hfz6_0, hfz6_1, hfz6_2, hfz6_3⟩ := cellsZ4 BK101.out) | ((with_reducible refine gate_callee (f := 61) rfl ?_); refine goesL_ (some 8) rfl rfl Tryd.func61 (by kernel_rfl) rfl #[.slice A0_3 l0_3.length c0_3, .int .i64 a1] rfl zee81 ?_; (with_reducible refine (laws_heldWinS.calls k _ _ l0_3 a1 t102 _ ?side1 ?side2 A3.out).mono ?_); (case side1 => exact (cZ (Kd.C_below HR0_3.out HB.out))); (case side2 => exact HC0_3.out); rintro e w7 ⟨rfl, hb⟩; refine ⟨_, rfl, ?_⟩; have _ := bB gb101 hb; have _ := aM (below_step hbZ hb); clear BK101 HB; rename_i BK101 HB; (try clear hb)))
 go_ret
 exact ⟨z674d, zcb41⟩

end Go.Proofs.YtkgmoajdcibafaaDoor.P

-- written by a program of this session's (wip/pp)
namespace Go.Proofs.YtkgmoajdcibafaaDoor.P
open Go.RowKit Go.Proofs.YtkgmoajdcibafaaDoorW.PrintWords Go.Proofs.YtkgmoajdcibafaaDoorW.PrintLast Go.Proofs.YtkgmoajdcibafaaDoorW.PrintMore
attribute [local go_sem] max2_int min2_int max_two min_two max_three min_three max_four min_four str_geq str_gtr str_leq   -- for this text's walks alone
set_option linter.unusedVariables false
set_option linter.unusedSimpArgs false

/-! ### laws_szTag: function 83 -/
def laws_szTag.f (a0_0 : ByteArray) (a0_1 : ByteArray) (a1 : Int) : Option (Int) := if (wrap64 (a1 - (a0_0.size : Int))) < 0 then (some (-1)) else (if (wrap64 ((wrap64 (a1 - (a0_0.size : Int))) - (a0_1.size : Int))) < 0 then (some (-1)) else (some (wrap64 ((wrap64 (a1 - (a0_0.size : Int))) - (a0_1.size : Int)))))
set_option maxHeartbeats 8000000 in
set_option maxRecDepth 100000 in
theorem laws_szTag.calls (a0_0 : ByteArray) (a0_1 : ByteArray) (a1 : Int) (r : Int) (w : World) (h : laws_szTag.f a0_0 a0_1 a1 = some r) :
 Calls Tryd.prog 83 #[.agg #[.string a0_0, .string a0_1], .int .i64 a1] w fun e w' => e = .returned (.int .i64 r) ∧ Below w.heap.size w w' := by
 have hu119 := Tryd.underlying119
 have HB := aM (Below.refl w.heap.size w)
 have H : (if (wrap64 (a1 - (a0_0.size : Int))) < 0 then (some (-1)) else (if (wrap64 ((wrap64 (a1 - (a0_0.size : Int))) - (a0_1.size : Int))) < 0 then (some (-1)) else (some (wrap64 ((wrap64 (a1 - (a0_0.size : Int))) - (a0_1.size : Int)))))) = some r := h
 clear h
 by_cases c3 : (wrap64 (a1 - (a0_0.size : Int))) < 0
 · rw [if_pos c3] at H
   have c3b0 : decide ((wrap64 (a1 - (a0_0.size : Int))) < 0) = true := decide_eq_true c3
   clear c3
   obtain rfl := Option.some.inj H
   go_enter Tryd.func83, Tryd.ntmps83
   go_wp2_with (first | ((with_reducible refine gate_dst (N := 2) rfl ?_); refine box_event ?hg (N := 2) ?hd (cs := #[.string a0_0, .string a0_1]) (t := 119) ?hr ?_; (case hd => rfl); (case hg => rfl); (case hr => first | (go_simp; done) | (go_simp; rfl)); intro gb101 hg w4 hbox hb; have _ := aM (below_step hbZ hb); have _ := aM hbox; have _ := szZ hg; have _ := szZ hg; clear HB; rename_i HB BK101 GW101 GE101; clear hb hbox hg; obtain ⟨hcz5_0, hcz5_1, hfz5_0, hfz5_1⟩ := cellsZ2 BK101.out))
   go_ret
   exact ⟨z674d, zcb41⟩
 · rw [if_neg c3] at H
   have c3b0 : decide ((wrap64 (a1 - (a0_0.size : Int))) < 0) = false := decide_eq_false c3
   clear c3
   by_cases c6 : (wrap64 ((wrap64 (a1 - (a0_0.size : Int))) - (a0_1.size : Int))) < 0
   · rw [if_pos c6] at H
     have c6b0 : decide ((wrap64 ((wrap64 (a1 - (a0_0.size : Int))) - (a0_1.size : Int))) < 0) = true := decide_eq_true c6
     clear c6
     obtain rfl := Option.some.inj H
     go_enter Tryd.func83, Tryd.ntmps83
     go_wp2_with (first | ((with_reducible refine gate_dst (N := 2) rfl ?_); refine box_event ?hg (N := 2) ?hd (cs := #[.string a0_0, .string a0_1]) (t := 119) ?hr ?_; (case hd => rfl); (case hg => rfl); (case hr => first | (go_simp; done) | (go_simp; rfl)); intro gb101 hg w7 hbox hb; have _ := aM (below_step hbZ hb); have _ := aM hbox; have _ := szZ hg; have _ := szZ hg; clear HB; rename_i HB BK101 GW101 GE101; clear hb hbox hg; obtain ⟨hcz8_0, hcz8_1, hfz8_0, hfz8_1⟩ := cellsZ2 BK101.out))
     go_ret
     exact ⟨z674d, zcb41⟩
   · rw [if_neg c6] at H
     have c6b0 : decide ((wrap64 ((wrap64 (a1 - (a0_0.size : Int))) - (a0_1.size : Int))) < 0) = false := decide_eq_false c6
     clear c6
     obtain rfl := Option.some.inj H
     go_enter Tryd.func83, Tryd.ntmps83
     go_wp2_with (first | ((with_reducible refine gate_dst (N := 2) rfl ?_); refine box_event ?hg (N := 2) ?hd (cs := #[.string a0_0, .string a0_1]) (t := 119) ?hr ?_; (case hd => rfl); (case hg => rfl); (case hr => first | (go_simp; done) | (go_simp; rfl)); intro gb101 hg w9 hbox hb; have _ := aM (below_step hbZ hb); have _ := aM hbox; have _ := szZ hg; have _ := szZ hg; clear HB; rename_i HB BK101 GW101 GE101; clear hb hbox hg; obtain ⟨hcz10_0, hcz10_1, hfz10_0, hfz10_1⟩ := cellsZ2 BK101.out))
     go_ret
     exact ⟨z674d, zcb41⟩

end Go.Proofs.YtkgmoajdcibafaaDoor.P

-- written by a program of this session's (wip/pp)
namespace Go.Proofs.YtkgmoajdcibafaaDoor.P
open Go.RowKit Go.Proofs.YtkgmoajdcibafaaDoorW.PrintWords Go.Proofs.YtkgmoajdcibafaaDoorW.PrintLast Go.Proofs.YtkgmoajdcibafaaDoorW.PrintMore
attribute [local go_sem] max2_int min2_int max_two min_two max_three min_three max_four min_four str_geq str_gtr str_leq   -- for this text's walks alone
set_option linter.unusedVariables false
set_option linter.unusedSimpArgs false

/-! ### laws_szTagS: function 39 -/
def laws_szTagS.l0 : Nat → List (S119) → Int → Int → Option (Int)
 | 0, _, _, _ => none
 | k + 1, x0, x1, x5 => if x5 < (x0.length : Int) then (if 0 ≤ x5 then ((laws_szTag.f ((rd_T119 x0 x5).f0) ((rd_T119 x0 x5).f1) x1).bind fun t102 => (if t102 < 0 then (some (-1)) else (laws_szTagS.l0 k x0 t102 (wrap64 (x5 + 1))))) else (none)) else (some x1)
def laws_szTagS.f (k : Nat) (l0 : List (S119)) (a1 : Int) : Option (Int) := if (wrap64 (a1 - (l0.length : Int))) < 0 then (some (-1)) else (laws_szTagS.l0 k l0 (wrap64 (a1 - (l0.length : Int))) 0)
theorem laws_szTagS.mono_l : ∀ k, (∀ y0 y1 y2, LeO (laws_szTagS.l0 k y0 y1 y2) (laws_szTagS.l0 (k + 1) y0 y1 y2))
 | 0 => fun _ _ _ r h => by simp [laws_szTagS.l0] at h
 | k + 1 => by
  have ih0 := laws_szTagS.mono_l k
  · intro y0 y1 y2
    unfold laws_szTagS.l0
    repeat' first
     | (with_reducible first | exact ih0 .. | exact LeO.refl _ | exact LeO.none _ | refine LeO.ite ?_ ?_ | refine LeO.bind ?_ (fun _ => ?_))
     | exact LeO.none _
     | refine LeO.ite ?_ ?_
     | refine LeO.bind ?_ (fun _ => ?_)
theorem laws_szTagS.mono : ∀ a0 a1 k, LeO (laws_szTagS.f k a0 a1) (laws_szTagS.f (k + 1) a0 a1) := by
 intro a0 a1 k
 have ih0 := laws_szTagS.mono_l k
 unfold laws_szTagS.f
 repeat' first
  | (with_reducible first | exact ih0 .. | exact LeO.refl _ | exact LeO.none _ | refine LeO.ite ?_ ?_ | refine LeO.bind ?_ (fun _ => ?_))
  | exact LeO.none _
  | refine LeO.ite ?_ ?_
  | refine LeO.bind ?_ (fun _ => ?_)
set_option maxHeartbeats 8000000 in
set_option maxRecDepth 100000 in
theorem laws_szTagS.calls (k : Nat) (A0 : Option Addr) (c0 : Nat) (l0 : List (S119)) (a1 : Int) (r : Int) (w : World) (hr0 : Kd.C k119 w A0 l0.length l0) (hc0 : l0.length ≤ c0) (h : laws_szTagS.f k l0 a1 = some r) :
 Calls Tryd.prog 39 #[.slice A0 l0.length c0, .int .i64 a1] w fun e w' => e = .returned (.int .i64 r) ∧ Below w.heap.size w w' := by
 have hu119 := Tryd.underlying119
 have HR0 := aM hr0
 have HC0 := aM hc0
 clear hr0 hc0
 have HB := aM (Below.refl w.heap.size w)
 have H : (if (wrap64 (a1 - (l0.length : Int))) < 0 then (some (-1)) else (laws_szTagS.l0 k l0 (wrap64 (a1 - (l0.length : Int))) 0)) = some r := h
 clear h
 by_cases c3 : (wrap64 (a1 - (l0.length : Int))) < 0
 · rw [if_pos c3] at H
   have c3b0 : decide ((wrap64 (a1 - (l0.length : Int))) < 0) = true := decide_eq_true c3
   clear c3
   obtain rfl := Option.some.inj H
   go_enter Tryd.func39, Tryd.ntmps39
   go_wp2
   go_ret
   exact ⟨z674d, z5acd⟩
 · rw [if_neg c3] at H
   have c3b0 : decide ((wrap64 (a1 - (l0.length : Int))) < 0) = false := decide_eq_false c3
   clear c3
   have H' := aM H
   clear H
   go_enter Tryd.func39, Tryd.ntmps39
   go_wp2
   go_loopg [1, 5] k (fun kq v1 v5 w' => ∃ (x1_1 : Int) (x5_1 : Int), v1 = .int .i64 x1_1 ∧ v5 = .int .i64 x5_1 ∧ Aside0 (laws_szTagS.l0 kq l0 x1_1 x5_1 = some r) ∧ Aside0 (kq ≤ k) ∧ Aside0 (Below w.heap.size w w'))
   case atStart => exact ⟨(wrap64 (a1 - (l0.length : Int))), (0), z4458, z4458, H', ⟨Nat.le_refl _⟩, ⟨z5acd⟩⟩
   case round =>
    clear H'
    try clear p2
    try clear c3
    try clear c3b0
    obtain ⟨x1_1, x5_1, rfl, rfl, HA, HK1, HB⟩ := hrel
    cases gk with
    | zero => exact absurd HA.out (by simp [laws_szTagS.l0])
    | succ k1 =>
     have H := HA.out
     clear HA
     simp only [laws_szTagS.l0] at H
     by_cases c4 : x5_1 < (l0.length : Int)
     · rw [if_pos c4] at H
       have c4b0 : decide (x5_1 < (l0.length : Int)) = true := decide_eq_true c4
       clear c4
       replace H := ifS H; obtain ⟨c5, H⟩ := H
       have c5b0 : decide (0 ≤ x5_1) = true := decide_eq_true c5
       clear c5
       replace H := Option.bind_eq_some_iff.mp H
       obtain ⟨t102, A60, H⟩ := H
       try dsimp only at H
       have A6 := aM A60
       clear A60
       by_cases c7 : t102 < 0
       · rw [if_pos c7] at H
         have c7b0 : decide (t102 < 0) = true := decide_eq_true c7
         clear c7
         obtain rfl := Option.some.inj H
         have p101 : 0 ≤ (x5_1 : Int) := of_decide_eq_true z1200
         have q101 : x5_1 < (l0.length : Int) := of_decide_eq_true z1200
         obtain ⟨ad101, e101, hx101_0, hx101_1⟩ := at_T119 HR0.out x5_1 p101 q101
         cases e101
         replace hx101_0 := (HB.out.cell (World.block_lt_of_cell? w _ hx101_0)).trans hx101_0
         replace hx101_1 := (HB.out.cell (World.block_lt_of_cell? w _ hx101_1)).trans hx101_1
         replace p101 := eq_true p101
         replace q101 := eq_true q101
         go_wp2_with (first | ((with_reducible refine gate_callee (f := 83) rfl ?_); refine goesL_ (some 23) rfl rfl Tryd.func83 (by kernel_rfl) rfl #[.agg #[.string ((rd_T119 l0 x5_1).f0), .string ((rd_T119 l0 x5_1).f1)], .int .i64 x1_1] rfl zee81 ?_; (with_reducible refine (laws_szTag.calls ((rd_T119 l0 x5_1).f0) ((rd_T119 l0 x5_1).f1) x1_1 t102 _ A6.out).mono ?_); rintro e w8 ⟨rfl, hb⟩; refine ⟨_, rfl, ?_⟩; have _ := aM (below_step hbZ hb); clear HB; rename_i HB; (try clear hb)))
         go_ret
         exact ⟨z674d, z5acd⟩
       · rw [if_neg c7] at H
         have c7b0 : decide (t102 < 0) = false := decide_eq_false c7
         clear c7
         have H' := aM H
         clear H
         have p101 : 0 ≤ (x5_1 : Int) := of_decide_eq_true z1200
         have q101 : x5_1 < (l0.length : Int) := of_decide_eq_true z1200
         obtain ⟨ad101, e101, hx101_0, hx101_1⟩ := at_T119 HR0.out x5_1 p101 q101
         cases e101
         replace hx101_0 := (HB.out.cell (World.block_lt_of_cell? w _ hx101_0)).trans hx101_0
         replace hx101_1 := (HB.out.cell (World.block_lt_of_cell? w _ hx101_1)).trans hx101_1
         replace p101 := eq_true p101
         replace q101 := eq_true q101
         go_wp2_with (first | ((with_reducible refine gate_callee (f := 83) rfl ?_); refine goesL_ (some 23) rfl rfl Tryd.func83 (by kernel_rfl) rfl #[.agg #[.string ((rd_T119 l0 x5_1).f0), .string ((rd_T119 l0 x5_1).f1)], .int .i64 x1_1] rfl zee81 ?_; (with_reducible refine (laws_szTag.calls ((rd_T119 l0 x5_1).f0) ((rd_T119 l0 x5_1).f1) x1_1 t102 _ A6.out).mono ?_); rintro e w9 ⟨rfl, hb⟩; refine ⟨_, rfl, ?_⟩; have _ := aM (below_step hbZ hb); clear HB; rename_i HB; (try clear hb)))
         go_roundg k1
         case measure => have := HK1.out; omega
         case rel => exact ⟨(t102), (wrap64 (x5_1 + 1)), z4458, z4458, H', ⟨zfb39⟩, ⟨z5acd⟩⟩
     · rw [if_neg c4] at H
       have c4b0 : decide (x5_1 < (l0.length : Int)) = false := decide_eq_false c4
       clear c4
       obtain rfl := Option.some.inj H
       go_wp2
       go_ret
       exact ⟨z674d, z5acd⟩

end Go.Proofs.YtkgmoajdcibafaaDoor.P

-- written by a program of this session's (wip/pp)
namespace Go.Proofs.YtkgmoajdcibafaaDoor.P
open Go.RowKit Go.Proofs.YtkgmoajdcibafaaDoorW.PrintWords Go.Proofs.YtkgmoajdcibafaaDoorW.PrintLast Go.Proofs.YtkgmoajdcibafaaDoorW.PrintMore
attribute [local go_sem] max2_int min2_int max_two min_two max_three min_three max_four min_four str_geq str_gtr str_leq   -- for this text's walks alone
set_option linter.unusedVariables false
set_option linter.unusedSimpArgs false

/-! ### laws_szKey: function 9 -/
def laws_szKey.f (k : Nat) (a0_0 : ByteArray) (l0_1 : List (S119)) (a0_2 : Int) (a1 : Int) : Option (Int) := if (wrap64 (a1 - (a0_0.size : Int))) < 0 then (some (-1)) else ((laws_szTagS.f k l0_1 (wrap64 (a1 - (a0_0.size : Int)))).bind fun t102 => (if t102 < 0 then (some (-1)) else (some t102)))
theorem laws_szKey.mono : ∀ a0 a1 a2 a3 k, LeO (laws_szKey.f k a0 a1 a2 a3) (laws_szKey.f (k + 1) a0 a1 a2 a3) := by
 intro a0 a1 a2 a3 k
 unfold laws_szKey.f
 repeat' first
  | (with_reducible first | exact laws_szTagS.mono .. | exact LeO.refl _ | exact LeO.none _ | refine LeO.ite ?_ ?_ | refine LeO.bind ?_ (fun _ => ?_))
  | exact LeO.none _
  | refine LeO.ite ?_ ?_
  | refine LeO.bind ?_ (fun _ => ?_)
set_option maxHeartbeats 8000000 in
set_option maxRecDepth 100000 in
theorem laws_szKey.calls (k : Nat) (a0_0 : ByteArray) (A0_1 : Option Addr) (c0_1 : Nat) (l0_1 : List (S119)) (a0_2 : Int) (a1 : Int) (r : Int) (w : World) (hr0_1 : Kd.C k119 w A0_1 l0_1.length l0_1) (hc0_1 : l0_1.length ≤ c0_1) (h : laws_szKey.f k a0_0 l0_1 a0_2 a1 = some r) :
 Calls Tryd.prog 9 #[.agg #[.string a0_0, .slice A0_1 l0_1.length c0_1, .int .i64 a0_2], .int .i64 a1] w fun e w' => e = .returned (.int .i64 r) ∧ Below w.heap.size w w' := by
 have hu27 := Tryd.underlying27
 have HR0_1 := aM hr0_1
 have HC0_1 := aM hc0_1
 clear hr0_1 hc0_1
 have HB := aM (Below.refl w.heap.size w)
 have H : (if (wrap64 (a1 - (a0_0.size : Int))) < 0 then (some (-1)) else ((laws_szTagS.f k l0_1 (wrap64 (a1 - (a0_0.size : Int)))).bind fun t102 => (if t102 < 0 then (some (-1)) else (some t102)))) = some r := h
 clear h
 by_cases c3 : (wrap64 (a1 - (a0_0.size : Int))) < 0
 · rw [if_pos c3] at H
   have c3b0 : decide ((wrap64 (a1 - (a0_0.size : Int))) < 0) = true := decide_eq_true c3
   clear c3
   obtain rfl := Option.some.inj H
   go_enter Tryd.func9, Tryd.ntmps9
   go_wp2_with (first | ((with_reducible refine gate_dst (N := 2) rfl ?_); refine box_event ?hg (N := 2) ?hd (cs := #[.string a0_0, .slice A0_1 l0_1.length c0_1, .int .i64 a0_2]) (t := 27) ?hr ?_; (case hd => rfl); (case hg => rfl); (case hr => first | (go_simp; done) | (go_simp; rfl)); intro gb101 hg w4 hbox hb; have _ := aM (below_step hbZ hb); have _ := aM hbox; have _ := szZ hg; have _ := szZ hg; clear HB; rename_i HB BK101 GW101 GE101; clear hb hbox hg; obtain ⟨hcz5_0, hcz5_1, hcz5_2, hfz5_0, hfz5_1, hfz5_2⟩ := cellsZ3 BK101.out))
   go_ret
   exact ⟨z674d, zcb41⟩
 · rw [if_neg c3] at H
   have c3b0 : decide ((wrap64 (a1 - (a0_0.size : Int))) < 0) = false := decide_eq_false c3
   clear c3
   replace H := Option.bind_eq_some_iff.mp H
   obtain ⟨t102, A60, H⟩ := H
   try dsimp only at H
   have A6 := aM A60
   clear A60
   by_cases c7 : t102 < 0
   · rw [if_pos c7] at H
     have c7b0 : decide (t102 < 0) = true := decide_eq_true c7
     clear c7
     obtain rfl := Option.some.inj H
     go_enter Tryd.func9, Tryd.ntmps9
     go_wp2_with (first | ((with_reducible refine gate_dst (N := 2) rfl ?_); refine box_event ?hg (N := 2) ?hd (cs := #[.string a0_0, .slice A0_1 l0_1.length c0_1, .int .i64 a0_2]) (t := 27) ?hr ?_; (case hd => rfl); (case hg => rfl); (case hr => first | (go_simp; done) | (go_simp; rfl)); intro gb101 hg w8 hbox hb; have _ := aM (below_step hbZ hb); have _ := aM hbox; have _ := szZ hg; have _ := szZ hg; clear HB; rename_i HB BK101 GW101 GE101; clear hb hbox hg; obtain ⟨hcz9_0, hcz9_1, hcz9_2, hfz9_0, hfz9_1, hfz9_2⟩ := cellsZ3 BK101.out) | ((with_reducible refine gate_callee (f := 39) rfl ?_); refine goesL_ (some 15) rfl rfl Tryd.func39 (by kernel_rfl) rfl #[.slice A0_1 l0_1.length c0_1, .int .i64 (wrap64 (a1 - (a0_0.size : Int)))] rfl zee81 ?_; (with_reducible refine (laws_szTagS.calls k _ _ l0_1 (wrap64 (a1 - (a0_0.size : Int))) t102 _ ?side1 ?side2 A6.out).mono ?_); (case side1 => exact (cZ (Kd.C_below HR0_1.out HB.out))); (case side2 => exact HC0_1.out); rintro e w10 ⟨rfl, hb⟩; refine ⟨_, rfl, ?_⟩; have _ := bB gb101 hb; have _ := aM (below_step hbZ hb); clear BK101 HB; rename_i BK101 HB; (try clear hb)))
     go_ret
     exact ⟨z674d, zcb41⟩
   · rw [if_neg c7] at H
     have c7b0 : decide (t102 < 0) = false := decide_eq_false c7
     clear c7
     obtain rfl := Option.some.inj H
     go_enter Tryd.func9, Tryd.ntmps9
     go_wp2_with (first | ((with_reducible refine gate_dst (N := 2) rfl ?_); refine box_event ?hg (N := 2) ?hd (cs := #[.string a0_0, .slice A0_1 l0_1.length c0_1, .int .i64 a0_2]) (t := 27) ?hr ?_; (case hd => rfl); (case hg => rfl); (case hr => first | (go_simp; done) | (go_simp; rfl)); intro gb101 hg w11 hbox hb; have _ := aM (below_step hbZ hb); have _ := aM hbox; have _ := szZ hg; have _ := szZ hg; clear HB; rename_i HB BK101 GW101 GE101; clear hb hbox hg; obtain ⟨hcz12_0, hcz12_1, hcz12_2, hfz12_0, hfz12_1, hfz12_2⟩ := cellsZ3 BK101.out) | ((with_reducible refine gate_callee (f := 39) rfl ?_); refine goesL_ (some 15) rfl rfl Tryd.func39 (by kernel_rfl) rfl #[.slice A0_1 l0_1.length c0_1, .int .i64 (wrap64 (a1 - (a0_0.size : Int)))] rfl zee81 ?_; (with_reducible refine (laws_szTagS.calls k _ _ l0_1 (wrap64 (a1 - (a0_0.size : Int))) t102 _ ?side1 ?side2 A6.out).mono ?_); (case side1 => exact (cZ (Kd.C_below HR0_1.out HB.out))); (case side2 => exact HC0_1.out); rintro e w13 ⟨rfl, hb⟩; refine ⟨_, rfl, ?_⟩; have _ := bB gb101 hb; have _ := aM (below_step hbZ hb); clear BK101 HB; rename_i BK101 HB; (try clear hb)))
     go_ret
     exact ⟨z674d, zcb41⟩

end Go.Proofs.YtkgmoajdcibafaaDoor.P

-- written by a program of this session's (wip/pp)
namespace Go.Proofs.YtkgmoajdcibafaaDoor.P
open Go.RowKit Go.Proofs.YtkgmoajdcibafaaDoorW.PrintWords Go.Proofs.YtkgmoajdcibafaaDoorW.PrintLast Go.Proofs.YtkgmoajdcibafaaDoorW.PrintMore
attribute [local go_sem] max2_int min2_int max_two min_two max_three min_three max_four min_four str_geq str_gtr str_leq   -- for this text's walks alone
set_option linter.unusedVariables false
set_option linter.unusedSimpArgs false

/-! ### laws_szIntS: function 113 -/
def laws_szIntS.f (l0 : List Int) (a1 : Int) : Option (Int) := if (wrap64 (a1 - (l0.length : Int))) < 0 then (some (-1)) else (some (wrap64 (a1 - (l0.length : Int))))
set_option maxHeartbeats 8000000 in
set_option maxRecDepth 100000 in
theorem laws_szIntS.calls (A0 : Option Addr) (c0 : Nat) (l0 : List Int) (a1 : Int) (r : Int) (w : World) (hr0 : Kd.C (Kd.int .i64) w A0 l0.length l0) (hc0 : l0.length ≤ c0) (h : laws_szIntS.f l0 a1 = some r) :
 Calls Tryd.prog 113 #[.slice A0 l0.length c0, .int .i64 a1] w fun e w' => e = .returned (.int .i64 r) ∧ Drawn0 w w' := by
 have HR0 := aM hr0
 have HC0 := aM hc0
 clear hr0 hc0
 have H : (if (wrap64 (a1 - (l0.length : Int))) < 0 then (some (-1)) else (some (wrap64 (a1 - (l0.length : Int))))) = some r := h
 clear h
 by_cases c3 : (wrap64 (a1 - (l0.length : Int))) < 0
 · rw [if_pos c3] at H
   have c3b0 : decide ((wrap64 (a1 - (l0.length : Int))) < 0) = true := decide_eq_true c3
   clear c3
   obtain rfl := Option.some.inj H
   go_enter Tryd.func113, Tryd.ntmps113
   go_wp2
   go_ret
   exact ⟨z4458, za9de⟩
 · rw [if_neg c3] at H
   have c3b0 : decide ((wrap64 (a1 - (l0.length : Int))) < 0) = false := decide_eq_false c3
   clear c3
   obtain rfl := Option.some.inj H
   go_enter Tryd.func113, Tryd.ntmps113
   go_wp2
   go_ret
   exact ⟨z4458, za9de⟩

end Go.Proofs.YtkgmoajdcibafaaDoor.P

-- written by a program of this session's (wip/pp)
namespace Go.Proofs.YtkgmoajdcibafaaDoor.P
open Go.RowKit Go.Proofs.YtkgmoajdcibafaaDoorW.PrintWords Go.Proofs.YtkgmoajdcibafaaDoorW.PrintLast Go.Proofs.YtkgmoajdcibafaaDoorW.PrintMore
attribute [local go_sem] max2_int min2_int max_two min_two max_three min_three max_four min_four str_geq str_gtr str_leq   -- for this text's walks alone
set_option linter.unusedVariables false
set_option linter.unusedSimpArgs false

/-! ### laws_szAgg: function 97 -/
def laws_szAgg.f (a0_0 : Int) (a0_1 : Int) (a0_2 : Int) (a0_3 : Int) (l0_4 : List Int) (a0_5 : Bool) (a1 : Int) : Option (Int) := (laws_szIntS.f l0_4 a1).bind fun t102 => (if t102 < 0 then (some (-1)) else (some t102))
set_option maxHeartbeats 8000000 in
set_option maxRecDepth 100000 in
theorem laws_szAgg.calls (a0_0 : Int) (a0_1 : Int) (a0_2 : Int) (a0_3 : Int) (A0_4 : Option Addr) (c0_4 : Nat) (l0_4 : List Int) (a0_5 : Bool) (a1 : Int) (r : Int) (w : World) (hr0_4 : Kd.C (Kd.int .i64) w A0_4 l0_4.length l0_4) (hc0_4 : l0_4.length ≤ c0_4) (h : laws_szAgg.f a0_0 a0_1 a0_2 a0_3 l0_4 a0_5 a1 = some r) :
 Calls Tryd.prog 97 #[.agg #[.int .i64 a0_0, .int .i64 a0_1, .int .i64 a0_2, .int .i64 a0_3, .slice A0_4 l0_4.length c0_4, .bool a0_5], .int .i64 a1] w fun e w' => e = .returned (.int .i64 r) ∧ Below w.heap.size w w' := by
 have hu92 := Tryd.underlying92
 have HR0_4 := aM hr0_4
 have HC0_4 := aM hc0_4
 clear hr0_4 hc0_4
 have HB := aM (Below.refl w.heap.size w)
 have H : ((laws_szIntS.f l0_4 a1).bind fun t102 => (if t102 < 0 then (some (-1)) else (some t102))) = some r := h
 clear h
 replace H := Option.bind_eq_some_iff.mp H
 obtain ⟨t102, A30, H⟩ := H
 try dsimp only at H
 have A3 := aM A30
 clear A30
 by_cases c4 : t102 < 0
 · rw [if_pos c4] at H
   have c4b0 : decide (t102 < 0) = true := decide_eq_true c4
   clear c4
   obtain rfl := Option.some.inj H
   go_enter Tryd.func97, Tryd.ntmps97
   go_wp2_with (first | ((with_reducible refine gate_dst (N := 2) rfl ?_); refine box_event ?hg (N := 2) ?hd (cs := #[.int .i64 a0_0, .int .i64 a0_1, .int .i64 a0_2, .int .i64 a0_3, .slice A0_4 l0_4.length c0_4, .bool a0_5]) (t := 92) ?hr ?_; (case hd => rfl); (case hg => rfl); (case hr => first | (go_simp; done) | (go_simp; rfl)); intro gb101 hg w5 hbox hb; have _ := aM (below_step hbZ hb); have _ := aM hbox; have _ := szZ hg; have _ := szZ hg; clear HB; rename_i HB BK101 GW101 GE101; clear hb hbox hg; obtain ⟨hcz6_0, hcz6_1, hcz6_2, hcz6_3, hcz6_4, hcz6_5, hfz6_0, hfz6_1, hfz6_2, hfz6_3, hfz6_4, hfz6_5⟩ := cellsZ6 BK101.out) | ((with_reducible refine gate_callee (f := 113) rfl ?_); refine goesL_ (some 8) rfl rfl Tryd.func113 (by kernel_rfl) rfl #[.slice A0_4 l0_4.length c0_4, .int .i64 a1] rfl zee81 ?_; (with_reducible refine (laws_szIntS.calls _ _ l0_4 a1 t102 _ ?side1 ?side2 A3.out).mono ?_); (case side1 => exact (cZ (Kd.C_below HR0_4.out HB.out))); (case side2 => exact HC0_4.out); rintro e w' ⟨rfl, ⟨nd, rfl⟩⟩; refine ⟨_, rfl, ?_⟩))
   go_ret
   exact ⟨z674d, zcb41⟩
 · rw [if_neg c4] at H
   have c4b0 : decide (t102 < 0) = false := decide_eq_false c4
   clear c4
   obtain rfl := Option.some.inj H
   go_enter Tryd.func97, Tryd.ntmps97
   go_wp2_with (first | ((with_reducible refine gate_dst (N := 2) rfl ?_); refine box_event ?hg (N := 2) ?hd (cs := #[.int .i64 a0_0, .int .i64 a0_1, .int .i64 a0_2, .int .i64 a0_3, .slice A0_4 l0_4.length c0_4, .bool a0_5]) (t := 92) ?hr ?_; (case hd => rfl); (case hg => rfl); (case hr => first | (go_simp; done) | (go_simp; rfl)); intro gb101 hg w7 hbox hb; have _ := aM (below_step hbZ hb); have _ := aM hbox; have _ := szZ hg; have _ := szZ hg; clear HB; rename_i HB BK101 GW101 GE101; clear hb hbox hg; obtain ⟨hcz8_0, hcz8_1, hcz8_2, hcz8_3, hcz8_4, hcz8_5, hfz8_0, hfz8_1, hfz8_2, hfz8_3, hfz8_4, hfz8_5⟩ := cellsZ6 BK101.out) | ((with_reducible refine gate_callee (f := 113) rfl ?_); refine goesL_ (some 8) rfl rfl Tryd.func113 (by kernel_rfl) rfl #[.slice A0_4 l0_4.length c0_4, .int .i64 a1] rfl zee81 ?_; (with_reducible refine (laws_szIntS.calls _ _ l0_4 a1 t102 _ ?side1 ?side2 A3.out).mono ?_); (case side1 => exact (cZ (Kd.C_below HR0_4.out HB.out))); (case side2 => exact HC0_4.out); rintro e w' ⟨rfl, ⟨nd, rfl⟩⟩; refine ⟨_, rfl, ?_⟩))
   go_ret
   exact ⟨z674d, zcb41⟩

end Go.Proofs.YtkgmoajdcibafaaDoor.P

-- written by a program of this session's (wip/pp)
namespace Go.Proofs.YtkgmoajdcibafaaDoor.P
open Go.RowKit Go.Proofs.YtkgmoajdcibafaaDoorW.PrintWords Go.Proofs.YtkgmoajdcibafaaDoorW.PrintLast Go.Proofs.YtkgmoajdcibafaaDoorW.PrintMore
attribute [local go_sem] max2_int min2_int max_two min_two max_three min_three max_four min_four str_geq str_gtr str_leq   -- for this text's walks alone
set_option linter.unusedVariables false
set_option linter.unusedSimpArgs false

/-! ### laws_szWin: function 82 -/
def laws_szWin.f (k : Nat) (a0_0 : ByteArray) (l0_1 : List (S119)) (a0_2 : Int) (a0_3 : Int) (a0_4 : Int) (a0_5 : Int) (a0_6 : Int) (l0_7 : List Int) (a0_8 : Bool) (a0_9 : Int) (a0_10 : Bool) (a1 : Int) : Option (Int) := (laws_szKey.f k a0_0 l0_1 a0_2 a1).bind fun t102 => (if t102 < 0 then (some (-1)) else ((laws_szAgg.f a0_3 a0_4 a0_5 a0_6 l0_7 a0_8 t102).bind fun t103 => (if t103 < 0 then (some (-1)) else (some t103))))
theorem laws_szWin.mono : ∀ a0 a1 a2 a3 a4 a5 a6 a7 a8 a9 a10 a11 k, LeO (laws_szWin.f k a0 a1 a2 a3 a4 a5 a6 a7 a8 a9 a10 a11) (laws_szWin.f (k + 1) a0 a1 a2 a3 a4 a5 a6 a7 a8 a9 a10 a11) := by
 intro a0 a1 a2 a3 a4 a5 a6 a7 a8 a9 a10 a11 k
 unfold laws_szWin.f
 repeat' first
  | (with_reducible first | exact laws_szKey.mono .. | exact LeO.refl _ | exact LeO.none _ | refine LeO.ite ?_ ?_ | refine LeO.bind ?_ (fun _ => ?_))
  | exact LeO.none _
  | refine LeO.ite ?_ ?_
  | refine LeO.bind ?_ (fun _ => ?_)
set_option maxHeartbeats 8000000 in
set_option maxRecDepth 100000 in
theorem laws_szWin.calls (k : Nat) (a0_0 : ByteArray) (A0_1 : Option Addr) (c0_1 : Nat) (l0_1 : List (S119)) (a0_2 : Int) (a0_3 : Int) (a0_4 : Int) (a0_5 : Int) (a0_6 : Int) (A0_7 : Option Addr) (c0_7 : Nat) (l0_7 : List Int) (a0_8 : Bool) (a0_9 : Int) (a0_10 : Bool) (a1 : Int) (r : Int) (w : World) (hr0_1 : Kd.C k119 w A0_1 l0_1.length l0_1) (hc0_1 : l0_1.length ≤ c0_1) (hr0_7 : Kd.C (Kd.int .i64) w A0_7 l0_7.length l0_7) (hc0_7 : l0_7.length ≤ c0_7) (h : laws_szWin.f k a0_0 l0_1 a0_2 a0_3 a0_4 a0_5 a0_6 l0_7 a0_8 a0_9 a0_10 a1 = some r) :
 Calls Tryd.prog 82 #[.agg #[.string a0_0, .slice A0_1 l0_1.length c0_1, .int .i64 a0_2, .int .i64 a0_3, .int .i64 a0_4, .int .i64 a0_5, .int .i64 a0_6, .slice A0_7 l0_7.length c0_7, .bool a0_8, .int .i64 a0_9, .bool a0_10], .int .i64 a1] w fun e w' => e = .returned (.int .i64 r) ∧ Below w.heap.size w w' := by
 have hu116 := Tryd.underlying116
 have hu27 := Tryd.underlying27
 have hu92 := Tryd.underlying92
 have HR0_1 := aM hr0_1
 have HC0_1 := aM hc0_1
 clear hr0_1 hc0_1
 have HR0_7 := aM hr0_7
 have HC0_7 := aM hc0_7
 clear hr0_7 hc0_7
 have HB := aM (Below.refl w.heap.size w)
 have H : ((laws_szKey.f k a0_0 l0_1 a0_2 a1).bind fun t102 => (if t102 < 0 then (some (-1)) else ((laws_szAgg.f a0_3 a0_4 a0_5 a0_6 l0_7 a0_8 t102).bind fun t103 => (if t103 < 0 then (some (-1)) else (some t103))))) = some r := h
 clear h
 replace H := Option.bind_eq_some_iff.mp H
 obtain ⟨t102, A30, H⟩ := H
 try dsimp only at H
 have A3 := aM A30
 clear A30
 by_cases c4 : t102 < 0
 · rw [if_pos c4] at H
   have c4b0 : decide (t102 < 0) = true := decide_eq_true c4
   clear c4
   obtain rfl := Option.some.inj H
   go_enter Tryd.func82, Tryd.ntmps82
   go_wp2_with (first | ((with_reducible refine gate_dst (N := 2) rfl ?_); refine box_event ?hg (N := 2) ?hd (cs := #[.string a0_0, .slice A0_1 l0_1.length c0_1, .int .i64 a0_2, .int .i64 a0_3, .int .i64 a0_4, .int .i64 a0_5, .int .i64 a0_6, .slice A0_7 l0_7.length c0_7, .bool a0_8, .int .i64 a0_9, .bool a0_10]) (t := 116) ?hr ?_; (case hd => rfl); (case hg => rfl); (case hr => first | (go_simp; done) | (go_simp; rfl)); intro gb101 hg w5 hbox hb; have _ := aM (below_step hbZ hb); have _ := aM hbox; have _ := szZ hg; have _ := szZ hg; clear HB; rename_i HB BK101 GW101 GE101; clear hb hbox hg; obtain ⟨hcz6_0, hcz6_1, hcz6_2, hcz6_3, hcz6_4, hcz6_5, hcz6_6, hcz6_7, hcz6_8, hcz6_9, hcz6_10, hfz6_0, hfz6_1, hfz6_2, hfz6_3, hfz6_4, hfz6_5, hfz6_6, hfz6_7, hfz6_8, hfz6_9, hfz6_10⟩ := cellsZ11 BK101.out) | ((with_reducible refine gate_callee (f := 9) rfl ?_); refine goesL_ (some 8) rfl rfl Tryd.func9 (by kernel_rfl) rfl #[.agg #[.string a0_0, .slice A0_1 l0_1.length c0_1, .int .i64 a0_2], .int .i64 a1] rfl zee81 ?_; (with_reducible refine (laws_szKey.calls k a0_0 _ _ l0_1 a0_2 a1 t102 _ ?side1 ?side2 A3.out).mono ?_); (case side1 => exact (cZ (Kd.C_below HR0_1.out HB.out))); (case side2 => exact HC0_1.out); rintro e w7 ⟨rfl, hb⟩; refine ⟨_, rfl, ?_⟩; have _ := bB gb101 hb; have _ := aM (below_step hbZ hb); clear BK101 HB; rename_i BK101 HB; (try clear hb)))
   go_ret
   exact ⟨z674d, zcb41⟩
 · rw [if_neg c4] at H
   have c4b0 : decide (t102 < 0) = false := decide_eq_false c4
   clear c4
   replace H := Option.bind_eq_some_iff.mp H
   obtain ⟨t103, A80, H⟩ := H
   try dsimp only at H
   have A8 := aM A80
   clear A80
   by_cases c9 : t103 < 0
   · rw [if_pos c9] at H
     have c9b0 : decide (t103 < 0) = true := decide_eq_true c9
     clear c9
     obtain rfl := Option.some.inj H
     go_enter Tryd.func82, Tryd.ntmps82
     go_wp2_with (first | ((with_reducible refine gate_dst (N := 2) rfl ?_); refine box_event ?hg (N := 2) ?hd (cs := #[.string a0_0, .slice A0_1 l0_1.length c0_1, .int .i64 a0_2, .int .i64 a0_3, .int .i64 a0_4, .int .i64 a0_5, .int .i64 a0_6, .slice A0_7 l0_7.length c0_7, .bool a0_8, .int .i64 a0_9, .bool a0_10]) (t := 116) ?hr ?_; (case hd => rfl); (case hg => rfl); (case hr => first | (go_simp; done) | (go_simp; rfl)); intro gb101 hg w10 hbox hb; have _ := aM (below_step hbZ hb); have _ := aM hbox; have _ := szZ hg; have _ := szZ hg; clear HB; rename_i HB BK101 GW101 GE101; clear hb hbox hg; obtain ⟨hcz11_0, hcz11_1, hcz11_2, hcz11_3, hcz11_4, hcz11_5, hcz11_6, hcz11_7, hcz11_8, hcz11_9, hcz11_10, hfz11_0, hfz11_1, hfz11_2, hfz11_3, hfz11_4, hfz11_5, hfz11_6, hfz11_7, hfz11_8, hfz11_9, hfz11_10⟩ := cellsZ11 BK101.out) | ((with_reducible refine gate_callee (f := 9) rfl ?_); refine goesL_ (some 8) rfl rfl Tryd.func9 (by kernel_rfl) rfl #[.agg #[.string a0_0, .slice A0_1 l0_1.length c0_1, .int .i64 a0_2], .int .i64 a1] rfl zee81 ?_; (with_reducible refine (laws_szKey.calls k a0_0 _ _ l0_1 a0_2 a1 t102 _ ?side1 ?side2 A3.out).mono ?_); (case side1 => exact (cZ (Kd.C_below HR0_1.out HB.out))); (case side2 => exact HC0_1.out); rintro e w12 ⟨rfl, hb⟩; refine ⟨_, rfl, ?_⟩; have _ := bB gb101 hb; have _ := aM (below_step hbZ hb); clear BK101 HB; rename_i BK101 HB; (try clear hb); obtain ⟨hcz13_0, hcz13_1, hcz13_2, hcz13_3, hcz13_4, hcz13_5, hcz13_6, hcz13_7, hcz13_8, hcz13_9, hcz13_10, hfz13_0, hfz13_1, hfz13_2, hfz13_3, hfz13_4, hfz13_5, hfz13_6, hfz13_7, hfz13_8, hfz13_9, hfz13_10⟩ := cellsZ11 BK101.out) | ((with_reducible refine gate_callee (f := 97) rfl ?_); refine goesL_ (some 14) rfl rfl Tryd.func97 (by kernel_rfl) rfl #[.agg #[.int .i64 a0_3, .int .i64 a0_4, .int .i64 a0_5, .int .i64 a0_6, .slice A0_7 l0_7.length c0_7, .bool a0_8], .int .i64 t102] rfl zee81 ?_; (with_reducible refine (laws_szAgg.calls a0_3 a0_4 a0_5 a0_6 _ _ l0_7 a0_8 t102 t103 _ ?side1 ?side2 A8.out).mono ?_); (case side1 => exact (cZ (Kd.C_below HR0_7.out HB.out))); (case side2 => exact HC0_7.out); rintro e w14 ⟨rfl, hb⟩; refine ⟨_, rfl, ?_⟩; have _ := bB gb101 hb; have _ := aM (below_step hbZ hb); clear BK101 HB; rename_i BK101 HB; (try clear hb)))
     go_ret
     exact ⟨z674d, zcb41⟩
   · rw [if_neg c9] at H
     have c9b0 : decide (t103 < 0) = false := decide_eq_false c9
     clear c9
     obtain rfl := Option.some.inj H
     go_enter Tryd.func82, Tryd.ntmps82
     go_wp2_with (first | ((with_reducible refine gate_dst (N := 2) rfl ?_); refine box_event ?hg (N := 2) ?hd (cs := #[.string a0_0, .slice A0_1 l0_1.length c0_1, .int .i64 a0_2, .int .i64 a0_3, .int .i64 a0_4, .int .i64 a0_5, .int .i64 a0_6, .slice A0_7 l0_7.length c0_7, .bool a0_8, .int .i64 a0_9, .bool a0_10]) (t := 116) ?hr ?_; (case hd => rfl); (case hg => rfl); (case hr => first | (go_simp; done) | (go_simp; rfl)); intro gb101 hg w15 hbox hb; have _ := aM (below_step hbZ hb); have _ := aM hbox; have _ := szZ hg; have _ := szZ hg; clear HB; rename_i HB BK101 GW101 GE101; clear hb hbox hg; obtain ⟨hcz16_0, hcz16_1, hcz16_2, hcz16_3, hcz16_4, hcz16_5, hcz16_6, hcz16_7, hcz16_8, hcz16_9, hcz16_10, hfz16_0, hfz16_1, hfz16_2, hfz16_3, hfz16_4, hfz16_5, hfz16_6, hfz16_7, hfz16_8, hfz16_9, hfz16_10⟩ := cellsZ11 BK101.out) | ((with_reducible refine gate_callee (f := 9) rfl ?_); refine goesL_ (some 8) rfl rfl Tryd.func9 (by kernel_rfl) rfl #[.agg #[.string a0_0, .slice A0_1 l0_1.length c0_1, .int .i64 a0_2], .int .i64 a1] rfl zee81 ?_; (with_reducible refine (laws_szKey.calls k a0_0 _ _ l0_1 a0_2 a1 t102 _ ?side1 ?side2 A3.out).mono ?_); (case side1 => exact (cZ (Kd.C_below HR0_1.out HB.out))); (case side2 => exact HC0_1.out); rintro e w17 ⟨rfl, hb⟩; refine ⟨_, rfl, ?_⟩; have _ := bB gb101 hb; have _ := aM (below_step hbZ hb); clear BK101 HB; rename_i BK101 HB; (try clear hb); obtain ⟨hcz18_0, hcz18_1, hcz18_2, hcz18_3, hcz18_4, hcz18_5, hcz18_6, hcz18_7, hcz18_8, hcz18_9, hcz18_10, hfz18_0, hfz18_1, hfz18_2, hfz18_3, hfz18_4, hfz18_5, hfz18_6, hfz18_7, hfz18_8, hfz18_9, hfz18_10⟩ := cellsZ11 BK101.out) | ((with_reducible refine gate_callee (f := 97) rfl ?_); refine goesL_ (some 14) rfl rfl Tryd.func97 (by kernel_rfl) rfl #[.agg #[.int .i64 a0_3, .int .i64 a0_4, .int .i64 a0_5, .int .i64 a0_6, .slice A0_7 l0_7.length c0_7, .bool a0_8], .int .i64 t102] rfl zee81 ?_; (with_reducible refine (laws_szAgg.calls a0_3 a0_4 a0_5 a0_6 _ _ l0_7 a0_8 t102 t103 _ ?side1 ?side2 A8.out).mono ?_); (case side1 => exact (cZ (Kd.C_below HR0_7.out HB.out))); (case side2 => exact HC0_7.out); rintro e w19 ⟨rfl, hb⟩; refine ⟨_, rfl, ?_⟩; have _ := bB gb101 hb; have _ := aM (below_step hbZ hb); clear BK101 HB; rename_i BK101 HB; (try clear hb)))
     go_ret
     exact ⟨z674d, zcb41⟩

end Go.Proofs.YtkgmoajdcibafaaDoor.P

-- written by a program of this session's (wip/pp)
namespace Go.Proofs.YtkgmoajdcibafaaDoor.P
open Go.RowKit Go.Proofs.YtkgmoajdcibafaaDoorW.PrintWords Go.Proofs.YtkgmoajdcibafaaDoorW.PrintLast Go.Proofs.YtkgmoajdcibafaaDoorW.PrintMore
attribute [local go_sem] max2_int min2_int max_two min_two max_three min_three max_four min_four str_geq str_gtr str_leq   -- for this text's walks alone
set_option linter.unusedVariables false
set_option linter.unusedSimpArgs false

/-! ### laws_szWinS: function 38 -/
def laws_szWinS.l0 : Nat → List (S116) → Int → Int → Option (Int)
 | 0, _, _, _ => none
 | k + 1, x0, x1, x5 => if x5 < (x0.length : Int) then (if 0 ≤ x5 then ((laws_szWin.f k ((rd_T116 x0 x5).f0.f0) ((rd_T116 x0 x5).f0.f1) ((rd_T116 x0 x5).f0.f2) ((rd_T116 x0 x5).f1.f0) ((rd_T116 x0 x5).f1.f1) ((rd_T116 x0 x5).f1.f2) ((rd_T116 x0 x5).f1.f3) ((rd_T116 x0 x5).f1.f4) ((rd_T116 x0 x5).f1.f5) ((rd_T116 x0 x5).f2) ((rd_T116 x0 x5).f3) x1).bind fun t102 => (if t102 < 0 then (some (-1)) else (laws_szWinS.l0 k x0 t102 (wrap64 (x5 + 1))))) else (none)) else (some x1)
def laws_szWinS.f (k : Nat) (l0 : List (S116)) (a1 : Int) : Option (Int) := if (wrap64 (a1 - (l0.length : Int))) < 0 then (some (-1)) else (laws_szWinS.l0 k l0 (wrap64 (a1 - (l0.length : Int))) 0)
theorem laws_szWinS.mono_l : ∀ k, (∀ y0 y1 y2, LeO (laws_szWinS.l0 k y0 y1 y2) (laws_szWinS.l0 (k + 1) y0 y1 y2))
 | 0 => fun _ _ _ r h => by simp [laws_szWinS.l0] at h
 | k + 1 => by
  have ih0 := laws_szWinS.mono_l k
  · intro y0 y1 y2
    unfold laws_szWinS.l0
    repeat' first
     | (with_reducible first | exact ih0 .. | exact laws_szWin.mono .. | exact LeO.refl _ | exact LeO.none _ | refine LeO.ite ?_ ?_ | refine LeO.bind ?_ (fun _ => ?_))
     | exact LeO.none _
     | refine LeO.ite ?_ ?_
     | refine LeO.bind ?_ (fun _ => ?_)
theorem laws_szWinS.mono : ∀ a0 a1 k, LeO (laws_szWinS.f k a0 a1) (laws_szWinS.f (k + 1) a0 a1) := by
 intro a0 a1 k
 have ih0 := laws_szWinS.mono_l k
 unfold laws_szWinS.f
 repeat' first
  | (with_reducible first | exact ih0 .. | exact laws_szWin.mono .. | exact LeO.refl _ | exact LeO.none _ | refine LeO.ite ?_ ?_ | refine LeO.bind ?_ (fun _ => ?_))
  | exact LeO.none _
  | refine LeO.ite ?_ ?_
  | refine LeO.bind ?_ (fun _ => ?_)
set_option maxHeartbeats 8000000 in
set_option maxRecDepth 100000 in
theorem laws_szWinS.calls (k : Nat) (A0 : Option Addr) (c0 : Nat) (l0 : List (S116)) (a1 : Int) (r : Int) (w : World) (hr0 : Kd.C k116 w A0 l0.length l0) (hc0 : l0.length ≤ c0) (h : laws_szWinS.f k l0 a1 = some r) :
 Calls Tryd.prog 38 #[.slice A0 l0.length c0, .int .i64 a1] w fun e w' => e = .returned (.int .i64 r) ∧ Below w.heap.size w w' := by
 have hu116 := Tryd.underlying116
 have HR0 := aM hr0
 have HC0 := aM hc0
 clear hr0 hc0
 have HB := aM (Below.refl w.heap.size w)
 have H : (if (wrap64 (a1 - (l0.length : Int))) < 0 then (some (-1)) else (laws_szWinS.l0 k l0 (wrap64 (a1 - (l0.length : Int))) 0)) = some r := h
 clear h
 by_cases c3 : (wrap64 (a1 - (l0.length : Int))) < 0
 · rw [if_pos c3] at H
   have c3b0 : decide ((wrap64 (a1 - (l0.length : Int))) < 0) = true := decide_eq_true c3
   clear c3
   obtain rfl := Option.some.inj H
   go_enter Tryd.func38, Tryd.ntmps38
   go_wp2
   go_ret
   exact ⟨z674d, z5acd⟩
 · rw [if_neg c3] at H
   have c3b0 : decide ((wrap64 (a1 - (l0.length : Int))) < 0) = false := decide_eq_false c3
   clear c3
   have H' := aM H
   clear H
   go_enter Tryd.func38, Tryd.ntmps38
   go_wp2
   go_loopg [1, 5] k (fun kq v1 v5 w' => ∃ (x1_1 : Int) (x5_1 : Int), v1 = .int .i64 x1_1 ∧ v5 = .int .i64 x5_1 ∧ Aside0 (laws_szWinS.l0 kq l0 x1_1 x5_1 = some r) ∧ Aside0 (kq ≤ k) ∧ Aside0 (Below w.heap.size w w'))
   case atStart => exact ⟨(wrap64 (a1 - (l0.length : Int))), (0), z4458, z4458, H', ⟨Nat.le_refl _⟩, ⟨z5acd⟩⟩
   case round =>
    clear H'
    try clear p2
    try clear c3
    try clear c3b0
    obtain ⟨x1_1, x5_1, rfl, rfl, HA, HK1, HB⟩ := hrel
    cases gk with
    | zero => exact absurd HA.out (by simp [laws_szWinS.l0])
    | succ k1 =>
     have H := HA.out
     clear HA
     simp only [laws_szWinS.l0] at H
     by_cases c4 : x5_1 < (l0.length : Int)
     · rw [if_pos c4] at H
       have c4b0 : decide (x5_1 < (l0.length : Int)) = true := decide_eq_true c4
       clear c4
       replace H := ifS H; obtain ⟨c5, H⟩ := H
       have c5b0 : decide (0 ≤ x5_1) = true := decide_eq_true c5
       clear c5
       replace H := Option.bind_eq_some_iff.mp H
       obtain ⟨t102, A60, H⟩ := H
       try dsimp only at H
       have A6 := aM A60
       clear A60
       by_cases c7 : t102 < 0
       · rw [if_pos c7] at H
         have c7b0 : decide (t102 < 0) = true := decide_eq_true c7
         clear c7
         obtain rfl := Option.some.inj H
         have p101 : 0 ≤ (x5_1 : Int) := of_decide_eq_true z1200
         have q101 : x5_1 < (l0.length : Int) := of_decide_eq_true z1200
         obtain ⟨ad101, A101_1, c101_1, A101_7, c101_7, e101, hx101_0, hx101_1, hx101_2, hx101_3, hx101_4, hx101_5, hx101_6, hx101_7, hx101_8, hx101_9, hx101_10, hl101_1, hi101_1, hl101_7, hi101_7⟩ := at_T116 HR0.out x5_1 p101 q101
         cases e101
         have TW101_1 := aM hx101_1
         have TW101_7 := aM hx101_7
         replace hx101_0 := (HB.out.cell (World.block_lt_of_cell? w _ hx101_0)).trans hx101_0
         replace hx101_1 := (HB.out.cell (World.block_lt_of_cell? w _ hx101_1)).trans hx101_1
         replace hx101_2 := (HB.out.cell (World.block_lt_of_cell? w _ hx101_2)).trans hx101_2
         replace hx101_3 := (HB.out.cell (World.block_lt_of_cell? w _ hx101_3)).trans hx101_3
         replace hx101_4 := (HB.out.cell (World.block_lt_of_cell? w _ hx101_4)).trans hx101_4
         replace hx101_5 := (HB.out.cell (World.block_lt_of_cell? w _ hx101_5)).trans hx101_5
         replace hx101_6 := (HB.out.cell (World.block_lt_of_cell? w _ hx101_6)).trans hx101_6
         replace hx101_7 := (HB.out.cell (World.block_lt_of_cell? w _ hx101_7)).trans hx101_7
         replace hx101_8 := (HB.out.cell (World.block_lt_of_cell? w _ hx101_8)).trans hx101_8
         replace hx101_9 := (HB.out.cell (World.block_lt_of_cell? w _ hx101_9)).trans hx101_9
         replace hx101_10 := (HB.out.cell (World.block_lt_of_cell? w _ hx101_10)).trans hx101_10
         have HR101_1 := aM hi101_1
         have HC101_1 := aM hl101_1
         clear hi101_1 hl101_1
         have HR101_7 := aM hi101_7
         have HC101_7 := aM hl101_7
         clear hi101_7 hl101_7
         replace p101 := eq_true p101
         replace q101 := eq_true q101
         go_wp2_with (first | ((with_reducible refine gate_callee (f := 82) rfl ?_); refine goesL_ (some 23) rfl rfl Tryd.func82 (by kernel_rfl) rfl #[.agg #[.string ((rd_T116 l0 x5_1).f0.f0), .slice A101_1 ((rd_T116 l0 x5_1).f0.f1).length c101_1, .int .i64 ((rd_T116 l0 x5_1).f0.f2), .int .i64 ((rd_T116 l0 x5_1).f1.f0), .int .i64 ((rd_T116 l0 x5_1).f1.f1), .int .i64 ((rd_T116 l0 x5_1).f1.f2), .int .i64 ((rd_T116 l0 x5_1).f1.f3), .slice A101_7 ((rd_T116 l0 x5_1).f1.f4).length c101_7, .bool ((rd_T116 l0 x5_1).f1.f5), .int .i64 ((rd_T116 l0 x5_1).f2), .bool ((rd_T116 l0 x5_1).f3)], .int .i64 x1_1] rfl zee81 ?_; (with_reducible refine (laws_szWin.calls k1 ((rd_T116 l0 x5_1).f0.f0) _ _ ((rd_T116 l0 x5_1).f0.f1) ((rd_T116 l0 x5_1).f0.f2) ((rd_T116 l0 x5_1).f1.f0) ((rd_T116 l0 x5_1).f1.f1) ((rd_T116 l0 x5_1).f1.f2) ((rd_T116 l0 x5_1).f1.f3) _ _ ((rd_T116 l0 x5_1).f1.f4) ((rd_T116 l0 x5_1).f1.f5) ((rd_T116 l0 x5_1).f2) ((rd_T116 l0 x5_1).f3) x1_1 t102 _ ?side1 ?side2 ?side3 ?side4 A6.out).mono ?_); (case side1 => exact (cZ (Kd.C_below HR101_1.out HB.out))); (case side2 => exact HC101_1.out); (case side3 => exact (cZ (Kd.C_below HR101_7.out HB.out))); (case side4 => exact HC101_7.out); rintro e w8 ⟨rfl, hb⟩; refine ⟨_, rfl, ?_⟩; have _ := aM (below_step hbZ hb); clear HB; rename_i HB; (try clear hb)))
         go_ret
         exact ⟨z674d, z5acd⟩
       · rw [if_neg c7] at H
         have c7b0 : decide (t102 < 0) = false := decide_eq_false c7
         clear c7
         have H' := aM H
         clear H
         have p101 : 0 ≤ (x5_1 : Int) := of_decide_eq_true z1200
         have q101 : x5_1 < (l0.length : Int) := of_decide_eq_true z1200
         obtain ⟨ad101, A101_1, c101_1, A101_7, c101_7, e101, hx101_0, hx101_1, hx101_2, hx101_3, hx101_4, hx101_5, hx101_6, hx101_7, hx101_8, hx101_9, hx101_10, hl101_1, hi101_1, hl101_7, hi101_7⟩ := at_T116 HR0.out x5_1 p101 q101
         cases e101
         have TW101_1 := aM hx101_1
         have TW101_7 := aM hx101_7
         replace hx101_0 := (HB.out.cell (World.block_lt_of_cell? w _ hx101_0)).trans hx101_0
         replace hx101_1 := (HB.out.cell (World.block_lt_of_cell? w _ hx101_1)).trans hx101_1
         replace hx101_2 := (HB.out.cell (World.block_lt_of_cell? w _ hx101_2)).trans hx101_2
         replace hx101_3 := (HB.out.cell (World.block_lt_of_cell? w _ hx101_3)).trans hx101_3
         replace hx101_4 := (HB.out.cell (World.block_lt_of_cell? w _ hx101_4)).trans hx101_4
         replace hx101_5 := (HB.out.cell (World.block_lt_of_cell? w _ hx101_5)).trans hx101_5
         replace hx101_6 := (HB.out.cell (World.block_lt_of_cell? w _ hx101_6)).trans hx101_6
         replace hx101_7 := (HB.out.cell (World.block_lt_of_cell? w _ hx101_7)).trans hx101_7
         replace hx101_8 := (HB.out.cell (World.block_lt_of_cell? w _ hx101_8)).trans hx101_8
         replace hx101_9 := (HB.out.cell (World.block_lt_of_cell? w _ hx101_9)).trans hx101_9
         replace hx101_10 := (HB.out.cell (World.block_lt_of_cell? w _ hx101_10)).trans hx101_10
         have HR101_1 := aM hi101_1
         have HC101_1 := aM hl101_1
         clear hi101_1 hl101_1
         have HR101_7 := aM hi101_7
         have HC101_7 := aM hl101_7
         clear hi101_7 hl101_7
         replace p101 := eq_true p101
         replace q101 := eq_true q101
         go_wp2_with (first | ((with_reducible refine gate_callee (f := 82) rfl ?_); refine goesL_ (some 23) rfl rfl Tryd.func82 (by kernel_rfl) rfl #[.agg #[.string ((rd_T116 l0 x5_1).f0.f0), .slice A101_1 ((rd_T116 l0 x5_1).f0.f1).length c101_1, .int .i64 ((rd_T116 l0 x5_1).f0.f2), .int .i64 ((rd_T116 l0 x5_1).f1.f0), .int .i64 ((rd_T116 l0 x5_1).f1.f1), .int .i64 ((rd_T116 l0 x5_1).f1.f2), .int .i64 ((rd_T116 l0 x5_1).f1.f3), .slice A101_7 ((rd_T116 l0 x5_1).f1.f4).length c101_7, .bool ((rd_T116 l0 x5_1).f1.f5), .int .i64 ((rd_T116 l0 x5_1).f2), .bool ((rd_T116 l0 x5_1).f3)], .int .i64 x1_1] rfl zee81 ?_; (with_reducible refine (laws_szWin.calls k1 ((rd_T116 l0 x5_1).f0.f0) _ _ ((rd_T116 l0 x5_1).f0.f1) ((rd_T116 l0 x5_1).f0.f2) ((rd_T116 l0 x5_1).f1.f0) ((rd_T116 l0 x5_1).f1.f1) ((rd_T116 l0 x5_1).f1.f2) ((rd_T116 l0 x5_1).f1.f3) _ _ ((rd_T116 l0 x5_1).f1.f4) ((rd_T116 l0 x5_1).f1.f5) ((rd_T116 l0 x5_1).f2) ((rd_T116 l0 x5_1).f3) x1_1 t102 _ ?side1 ?side2 ?side3 ?side4 A6.out).mono ?_); (case side1 => exact (cZ (Kd.C_below HR101_1.out HB.out))); (case side2 => exact HC101_1.out); (case side3 => exact (cZ (Kd.C_below HR101_7.out HB.out))); (case side4 => exact HC101_7.out); rintro e w9 ⟨rfl, hb⟩; refine ⟨_, rfl, ?_⟩; have _ := aM (below_step hbZ hb); clear HB; rename_i HB; (try clear hb)))
         go_roundg k1
         case measure => have := HK1.out; omega
         case rel => exact ⟨(t102), (wrap64 (x5_1 + 1)), z4458, z4458, H', ⟨zfb39⟩, ⟨z5acd⟩⟩
     · rw [if_neg c4] at H
       have c4b0 : decide (x5_1 < (l0.length : Int)) = false := decide_eq_false c4
       clear c4
       obtain rfl := Option.some.inj H
       go_wp2
       go_ret
       exact ⟨z674d, z5acd⟩

end Go.Proofs.YtkgmoajdcibafaaDoor.P

-- written by a program of this session's (wip/pp)
namespace Go.Proofs.YtkgmoajdcibafaaDoor.P
open Go.RowKit Go.Proofs.YtkgmoajdcibafaaDoorW.PrintWords Go.Proofs.YtkgmoajdcibafaaDoorW.PrintLast Go.Proofs.YtkgmoajdcibafaaDoorW.PrintMore
attribute [local go_sem] max2_int min2_int max_two min_two max_three min_three max_four min_four str_geq str_gtr str_leq   -- for this text's walks alone
set_option linter.unusedVariables false
set_option linter.unusedSimpArgs false

/-! ### laws_szBoard: function 8 -/
def laws_szBoard.f (k : Nat) (a0_0 : Int) (a0_1 : Int) (a0_2 : Int) (l0_3 : List (S116)) (a1 : Int) : Option (Int) := (laws_szWinS.f k l0_3 a1).bind fun t102 => (if t102 < 0 then (some (-1)) else (some t102))
theorem laws_szBoard.mono : ∀ a0 a1 a2 a3 a4 k, LeO (laws_szBoard.f k a0 a1 a2 a3 a4) (laws_szBoard.f (k + 1) a0 a1 a2 a3 a4) := by
 intro a0 a1 a2 a3 a4 k
 unfold laws_szBoard.f
 repeat' first
  | (with_reducible first | exact laws_szWinS.mono .. | exact LeO.refl _ | exact LeO.none _ | refine LeO.ite ?_ ?_ | refine LeO.bind ?_ (fun _ => ?_))
  | exact LeO.none _
  | refine LeO.ite ?_ ?_
  | refine LeO.bind ?_ (fun _ => ?_)
set_option maxHeartbeats 8000000 in
set_option maxRecDepth 100000 in
theorem laws_szBoard.calls (k : Nat) (a0_0 : Int) (a0_1 : Int) (a0_2 : Int) (A0_3 : Option Addr) (c0_3 : Nat) (l0_3 : List (S116)) (a1 : Int) (r : Int) (w : World) (hr0_3 : Kd.C k116 w A0_3 l0_3.length l0_3) (hc0_3 : l0_3.length ≤ c0_3) (h : laws_szBoard.f k a0_0 a0_1 a0_2 l0_3 a1 = some r) :
 Calls Tryd.prog 8 #[.agg #[.int .i64 a0_0, .int .i64 a0_1, .int .i64 a0_2, .slice A0_3 l0_3.length c0_3], .int .i64 a1] w fun e w' => e = .returned (.int .i64 r) ∧ Below w.heap.size w w' := by
 have hu24 := Tryd.underlying24
 have HR0_3 := aM hr0_3
 have HC0_3 := aM hc0_3
 clear hr0_3 hc0_3
 have HB := aM (Below.refl w.heap.size w)
 have H : ((laws_szWinS.f k l0_3 a1).bind fun t102 => (if t102 < 0 then (some (-1)) else (some t102))) = some r := h
 clear h
 replace H := Option.bind_eq_some_iff.mp H
 obtain ⟨t102, A30, H⟩ := H
 try dsimp only at H
 have A3 := aM A30
 clear A30
 by_cases c4 : t102 < 0
 · rw [if_pos c4] at H
   have c4b0 : decide (t102 < 0) = true := decide_eq_true c4
   clear c4
   obtain rfl := Option.some.inj H
   go_enter Tryd.func8, Tryd.ntmps8
   go_wp2_with (first | ((with_reducible refine gate_dst (N := 2) rfl ?_); refine box_event ?hg (N := 2) ?hd (cs := #[.int .i64 a0_0, .int .i64 a0_1, .int .i64 a0_2, .slice A0_3 l0_3.length c0_3]) (t := 24) ?hr ?_; (case hd => rfl); (case hg => rfl); (case hr => first | (go_simp; done) | (go_simp; rfl)); intro gb101 hg w5 hbox hb; have _ := aM (below_step hbZ hb); have _ := aM hbox; have _ := szZ hg; have _ := szZ hg; clear HB; rename_i HB BK101 GW101 GE101; clear hb hbox hg; obtain ⟨hcz6_0, hcz6_1, hcz6_2, hcz6_3, hfz6_0, hfz6_1, hfz6_2, hfz6_3⟩ := cellsZ4 BK101.out) | ((with_reducible refine gate_callee (f := 38) rfl ?_); refine goesL_ (some 8) rfl rfl Tryd.func38 (by kernel_rfl) rfl #[.slice A0_3 l0_3.length c0_3, .int .i64 a1] rfl zee81 ?_; (with_reducible refine (laws_szWinS.calls k _ _ l0_3 a1 t102 _ ?side1 ?side2 A3.out).mono ?_); (case side1 => exact (cZ (Kd.C_below HR0_3.out HB.out))); (case side2 => exact HC0_3.out); rintro e w7 ⟨rfl, hb⟩; refine ⟨_, rfl, ?_⟩; have _ := bB gb101 hb; have _ := aM (below_step hbZ hb); clear BK101 HB; rename_i BK101 HB; (try clear hb)))
   go_ret
   exact ⟨z674d, zcb41⟩
 · rw [if_neg c4] at H
   have c4b0 : decide (t102 < 0) = false := decide_eq_false c4
   clear c4
   obtain rfl := Option.some.inj H
   go_enter Tryd.func8, Tryd.ntmps8
   go_wp2_with (first | ((with_reducible refine gate_dst (N := 2) rfl ?_); refine box_event ?hg (N := 2) ?hd (cs := #[.int .i64 a0_0, .int .i64 a0_1, .int .i64 a0_2, .slice A0_3 l0_3.length c0_3]) (t := 24) ?hr ?_; (case hd => rfl); (case hg => rfl); (case hr => first | (go_simp; done) | (go_simp; rfl)); intro gb101 hg w8 hbox hb; have _ := aM (below_step hbZ hb); have _ := aM hbox; have _ := szZ hg; have _ := szZ hg; clear HB; rename_i HB BK101 GW101 GE101; clear hb hbox hg; obtain ⟨hcz9_0, hcz9_1, hcz9_2, hcz9_3, hfz9_0, hfz9_1, hfz9_2, hfz9_3⟩ := cellsZ4 BK101.out) | ((with_reducible refine gate_callee (f := 38) rfl ?_); refine goesL_ (some 8) rfl rfl Tryd.func38 (by kernel_rfl) rfl #[.slice A0_3 l0_3.length c0_3, .int .i64 a1] rfl zee81 ?_; (with_reducible refine (laws_szWinS.calls k _ _ l0_3 a1 t102 _ ?side1 ?side2 A3.out).mono ?_); (case side1 => exact (cZ (Kd.C_below HR0_3.out HB.out))); (case side2 => exact HC0_3.out); rintro e w10 ⟨rfl, hb⟩; refine ⟨_, rfl, ?_⟩; have _ := bB gb101 hb; have _ := aM (below_step hbZ hb); clear BK101 HB; rename_i BK101 HB; (try clear hb)))
   go_ret
   exact ⟨z674d, zcb41⟩

end Go.Proofs.YtkgmoajdcibafaaDoor.P

/- laws.FnExactRaiseMark: its walk, over what its callees answer. No conditions of its own. -/
namespace Go.Proofs.YtkgmoajdcibafaaDoor.P
open Go.RowKit Go.Proofs.YtkgmoajdcibafaaDoorW.PrintWords Go.Proofs.YtkgmoajdcibafaaDoorW.PrintLast Go.Proofs.YtkgmoajdcibafaaDoorW.PrintMore
set_option linter.unusedVariables false
set_option linter.unusedSimpArgs false
/-- What the callees answer. -/
def laws_FnExactRaiseMark.Ok (k : Nat) (a0_0 : Int) (a0_1 : Int) (a0_2 : Int) (l0_3 : List S116) (a1 : Int) : Prop := ∃ q1 : Int, laws_szBoard.f k a0_0 a0_1 a0_2 l0_3 1048576 = some q1 ∧ (q1 < 0 ∨ (0 ≤ q1 ∧ ∃ (q2 : Int) (q3 : Int) (q4 : Int) (q5 : List (S37)) (q6 : Int) (q7 : Int) (q8 : Int) (q9 : List (S37)) (q10 : Int) (q11 : Int) (q12 : List S37) (q13 : Int) (q14 : List S37), laws_toBoard.f k a0_0 a0_1 a0_2 l0_3 = some (q2, q3, q4, q5) ∧ spec_RaiseMark.f k q2 q3 q4 q5 a1 = some (q6, q7, q8, q9, q10) ∧ impl_RaiseMark.f k q2 q3 q4 q5 a1 = some (q6, q7, q8, q9, q10) ∧ laws_eqBoard.f k q6 q7 q8 q9 q6 q7 q8 q9 = some true ∧ laws_eqBoard.f k q2 q3 q4 q5 q2 q3 q4 q5 = some true ∧ laws_markWinS.f k q5 1 = some (q11, q12) ∧ laws_markWinS.f k q9 1 = some (q13, q14) ∧ laws_heldBoard.f k q6 q7 q8 q14 1 = some q13 ∧ 0 ≤ q11 ∧ 0 ≤ q13))
set_option maxHeartbeats 8000000 in
set_option maxRecDepth 100000 in
theorem laws_FnExactRaiseMark.calls (k : Nat) (a0_0 : Int) (a0_1 : Int) (a0_2 : Int) (A0_3 : Option Addr) (c0_3 : Nat) (l0_3 : List S116) (a1 : Int) (w : World) (hr0_3 : Kd.C k116 w A0_3 l0_3.length l0_3) (hc0_3 : l0_3.length ≤ c0_3) (h : laws_FnExactRaiseMark.Ok k a0_0 a0_1 a0_2 l0_3 a1) :
 Calls Tryd.prog 4 #[.agg #[.int .i64 a0_0, .int .i64 a0_1, .int .i64 a0_2, .slice A0_3 l0_3.length c0_3], .int .i64 a1] w fun e w' => e = .returned (.bool true) ∧ Below w.heap.size w w' := by
 unfold laws_FnExactRaiseMark.Ok at h
 have HB := aM (Below.refl w.heap.size w)
 have HR0_3 := aM hr0_3
 have HC0_3 := aM hc0_3
 clear hr0_3 hc0_3
 obtain ⟨q1, e0_, h⟩ := h
 have HE1 := aM e0_
 clear e0_
 rcases h with h | ⟨h0, h⟩
 · have c0_ : decide (q1 < 0) = true := decide_eq_true h
   clear h
   go_enter Tryd.func4, Tryd.ntmps4
   go_wp2_with (first | ((with_reducible refine gate_dst (N := 2) rfl ?_); refine box_event ?hg (N := 2) ?hd (cs := #[.int .i64 a0_0, .int .i64 a0_1, .int .i64 a0_2, .slice A0_3 l0_3.length c0_3]) (t := 24) ?hr ?_; (case hd => rfl); (case hg => rfl); (case hr => first | (go_simp; done) | (go_simp; rfl)); intro b1_ hg wv1 hbox hb; have LO1 := aM (Loc.box hbox); have el_ := hg; have ORLO1 := aM (show w.heap.size ≤ b1_ from (by first | (rw [el_]; exact HB.out.size))); have OQLO1 := aM (show b1_ ≤ (b1_ + 1) from Nat.le_succ _); have HWLO1 := aM (show w.heap.size ≤ b1_ from (by rw [hg]; exact HB.out.size)); replace HB := aM (below_after HB.out hb); clear hg hbox hb el_; obtain ⟨hcLO1_0, hcLO1_1, hcLO1_2, hcLO1_3, hfLO1_0, hfLO1_1, hfLO1_2, hfLO1_3⟩ := cellsZ4 LO1.out.now) | ((with_reducible refine gate_callee (f := 8) rfl ?_); refine goesL_ (some 18) rfl rfl Tryd.func8 (by kernel_rfl) rfl #[.agg #[.int .i64 a0_0, .int .i64 a0_1, .int .i64 a0_2, .slice A0_3 l0_3.length c0_3], .int .i64 1048576] rfl zee81 ?_; (with_reducible refine (laws_szBoard.calls k a0_0 a0_1 a0_2 _ _ l0_3 1048576 q1 _ ?s1 ?s2 HE1.out).mono ?_); (case s1 => exact Kd.C_below HR0_3.out HB.out); (case s2 => exact HC0_3.out); rintro e wv2 ⟨he_, hb⟩; subst he_; refine ⟨_, rfl, ?_⟩; (try clear hcLO1_0 hcLO1_1 hcLO1_2 hcLO1_3 hfLO1_0 hfLO1_1 hfLO1_2 hfLO1_3); replace LO1 := aM (LO1.out.below hb); replace HB := aM (below_after HB.out hb); clear hb))
   go_ret
   exact ⟨rfl, HB.out⟩
 have c0_ : decide (q1 < 0) = false := decide_eq_false (by omega)
 clear h0
 obtain ⟨q2, q3, q4, q5, q6, q7, q8, q9, q10, q11, q12, q13, q14, e0_, e1_, e2_, e3_, e4_, e5_, e6_, e7_, f0_, f1_⟩ := h
 have HE2 := aM e0_
 have HE3 := aM e1_
 have HE4 := aM e2_
 have HE5 := aM e3_
 have HE6 := aM e4_
 have HE7 := aM e5_
 have HE8 := aM e6_
 have HE9 := aM e7_
 clear e0_ e1_ e2_ e3_ e4_ e5_ e6_ e7_
 have g0_ : decide (q11 < 0) = false := decide_eq_false (by omega)
 clear f0_
 have g1_ : decide (q13 < 0) = false := decide_eq_false (by omega)
 clear f1_
 go_enter Tryd.func4, Tryd.ntmps4
 go_wp2_with (first | ((with_reducible refine gate_dst (N := 2) rfl ?_); refine box_event ?hg (N := 2) ?hd (cs := #[.int .i64 a0_0, .int .i64 a0_1, .int .i64 a0_2, .slice A0_3 l0_3.length c0_3]) (t := 24) ?hr ?_; (case hd => rfl); (case hg => rfl); (case hr => first | (go_simp; done) | (go_simp; rfl)); intro b1_ hg wv1 hbox hb; have LO1 := aM (Loc.box hbox); have el_ := hg; have ORLO1 := aM (show w.heap.size ≤ b1_ from (by first | (rw [el_]; exact HB.out.size))); have OQLO1 := aM (show b1_ ≤ (b1_ + 1) from Nat.le_succ _); have HWLO1 := aM (show w.heap.size ≤ b1_ from (by rw [hg]; exact HB.out.size)); replace HB := aM (below_after HB.out hb); clear hg hbox hb el_; obtain ⟨hcLO1_0, hcLO1_1, hcLO1_2, hcLO1_3, hfLO1_0, hfLO1_1, hfLO1_2, hfLO1_3⟩ := cellsZ4 LO1.out.now) | ((with_reducible refine gate_callee (f := 8) rfl ?_); refine goesL_ (some 18) rfl rfl Tryd.func8 (by kernel_rfl) rfl #[.agg #[.int .i64 a0_0, .int .i64 a0_1, .int .i64 a0_2, .slice A0_3 l0_3.length c0_3], .int .i64 1048576] rfl zee81 ?_; (with_reducible refine (laws_szBoard.calls k a0_0 a0_1 a0_2 _ _ l0_3 1048576 q1 _ ?s1 ?s2 HE1.out).mono ?_); (case s1 => exact Kd.C_below HR0_3.out HB.out); (case s2 => exact HC0_3.out); rintro e wv2 ⟨he_, hb⟩; subst he_; refine ⟨_, rfl, ?_⟩; (try clear hcLO1_0 hcLO1_1 hcLO1_2 hcLO1_3 hfLO1_0 hfLO1_1 hfLO1_2 hfLO1_3); replace LO1 := aM (LO1.out.below hb); replace HB := aM (below_after HB.out hb); clear hb; obtain ⟨hcLO1_0, hcLO1_1, hcLO1_2, hcLO1_3, hfLO1_0, hfLO1_1, hfLO1_2, hfLO1_3⟩ := cellsZ4 LO1.out.now) | ((with_reducible refine gate_callee (f := 11) rfl ?_); refine goesL_ (some 23) rfl rfl Tryd.func11 (by kernel_rfl) rfl #[.agg #[.int .i64 a0_0, .int .i64 a0_1, .int .i64 a0_2, .slice A0_3 l0_3.length c0_3]] rfl zee81 ?_; (with_reducible refine (laws_toBoard.calls k a0_0 a0_1 a0_2 _ _ l0_3 q2 q3 q4 q5 _ ?s1 ?s2 HE2.out).mono ?_); (case s1 => exact Kd.C_below HR0_3.out HB.out); (case s2 => exact HC0_3.out); rintro e wv3 ⟨v3_, he_, ho_v3_, hb⟩; subst he_; refine ⟨_, rfl, ?_⟩; (try clear hcLO1_0 hcLO1_1 hcLO1_2 hcLO1_3 hfLO1_0 hfLO1_1 hfLO1_2 hfLO1_3); obtain ⟨lo2_, hi2_, el_, hL_, eh_⟩ := Loc.newS (Kd.S_mono ho_v3_ (fun _ _ => trivial)) HB.out; have LO2 := aM hL_; have ORLO2 := aM (show (b1_ + 1) ≤ lo2_ from (by rw [el_]; exact LO1.out.size)); have OQLO2 := aM (show lo2_ ≤ hi2_ from (by rw [el_, eh_]; exact hb.size)); obtain ⟨ALO2, cLO2, ev_⟩ := Kd.S_slice ho_v3_; subst ev_; clear el_ hL_ eh_ ho_v3_; replace LO1 := aM (LO1.out.below hb); replace HB := aM (below_after HB.out hb); clear hb) | ((with_reducible refine gate_callee (f := 21) rfl ?_); refine goesL_ (some 25) rfl rfl Tryd.func21 (by kernel_rfl) rfl #[.agg #[.int .i64 q2, .int .i64 q3, .int .i64 q4, .slice ALO2 q5.length cLO2], .int .i64 a1] rfl zee81 ?_; (with_reducible refine (spec_RaiseMark.calls k q2 q3 q4 _ _ q5 a1 q6 q7 q8 q9 q10 _ ?s1 ?s2 HE3.out).mono ?_); (case s1 => exact LO2.out.readsS.2.2); (case s2 => exact LO2.out.readsS.2.1); rintro e wv4 ⟨v3_, he_, ho_v3_, hb⟩; subst he_; refine ⟨_, rfl, ?_⟩; obtain ⟨lo3_, hi3_, el_, hL_, eh_⟩ := Loc.newS (Kd.S_mono ho_v3_ (fun _ _ => trivial)) HB.out; have LO3 := aM hL_; have ORLO3 := aM (show hi2_ ≤ lo3_ from (by rw [el_]; exact LO2.out.size)); have OQLO3 := aM (show lo3_ ≤ hi3_ from (by rw [el_, eh_]; exact hb.size)); obtain ⟨ALO3, cLO3, ev_⟩ := Kd.S_slice ho_v3_; subst ev_; clear el_ hL_ eh_ ho_v3_; replace LO1 := aM (LO1.out.below hb); replace LO2 := aM (LO2.out.below hb); replace HB := aM (below_after HB.out hb); clear hb) | ((with_reducible refine gate_dst (N := 6) rfl ?_); refine box_event ?hg (N := 6) ?hd (cs := #[.int .i64 0, .int .i64 0, .int .i64 0, .slice none 0 0]) (t := 42) ?hr ?_; (case hd => rfl); (case hg => rfl); (case hr => first | (go_simp; done) | (go_simp; rfl)); intro b2_ hg wv5 hbox hb; have LO4 := aM (Loc.box hbox); have el_ := hg; have ORLO4 := aM (show hi3_ ≤ b2_ from (by rw [el_]; exact LO3.out.size)); have OQLO4 := aM (show b2_ ≤ (b2_ + 1) from Nat.le_succ _); have HWLO4 := aM (show w.heap.size ≤ b2_ from (by rw [hg]; exact HB.out.size)); replace LO1 := aM (LO1.out.below hb); replace LO2 := aM (LO2.out.below hb); replace LO3 := aM (LO3.out.below hb); replace HB := aM (below_after HB.out hb); clear hg hbox hb el_; obtain ⟨hcLO4_0, hcLO4_1, hcLO4_2, hcLO4_3, hfLO4_0, hfLO4_1, hfLO4_2, hfLO4_3⟩ := cellsZ4 LO4.out.now) | ((with_reducible refine gate_store (t := 42) (p := 6) rfl ?_); refine store_event (t := 42) (p := 6) (v := ?vo_wv6) (w1 := ((((wv5.setCell ⟨b2_, 0, none⟩ (.int .i64 q6)).setCell ⟨b2_, 1, none⟩ (.int .i64 q7)).setCell ⟨b2_, 2, none⟩ (.int .i64 q8)).setCell ⟨b2_, 3, none⟩ (.slice ALO3 q9.length cLO3))) ?hg ?ho ?hn ?hr ?_; (case ho => rfl); (case hg => rfl); (case hn => rfl); (case hr => first | (go_simp; done) | (go_simp; rfl)); intro wv6 hw; (try clear hcLO4_0 hcLO4_1 hcLO4_2 hcLO4_3 hfLO4_0 hfLO4_1 hfLO4_2 hfLO4_3); have ho_ : Only wv5 wv6 b2_ := (by rw [hw]; repeat (first | exact Only.refl _ _ | apply Only.set)); have := ORLO1.out; have := OQLO1.out; have := ORLO2.out; have := OQLO2.out; have := ORLO3.out; have := OQLO3.out; have := ORLO4.out; have := OQLO4.out; replace LO1 := aM (LO1.out.only ho_ (by omega)); replace LO2 := aM (LO2.out.only ho_ (by omega)); replace LO3 := aM (LO3.out.only ho_ (by omega)); have hbx_ : wv6.heap[b2_]? = some (.cells #[.int .i64 q6, .int .i64 q7, .int .i64 q8, .slice ALO3 q9.length cLO3] 42 (0, 0)) := (by have BK_ := LO4.out.now; rw [hw]; apply blk_eqZ; (repeat (first | exact BK_ | apply blk_put0)); first | (simp only [List.setIfInBounds_toArray, List.set_cons_zero, List.set_cons_succ] <;> rfl) | rfl); replace LO4 := aM (Loc.box hbx_); replace HB := aM (below_only HB.out HWLO4.out ho_); clear ho_ hbx_ hw; obtain ⟨hcLO1_0, hcLO1_1, hcLO1_2, hcLO1_3, hfLO1_0, hfLO1_1, hfLO1_2, hfLO1_3⟩ := cellsZ4 LO1.out.now) | ((with_reducible refine gate_callee (f := 11) rfl ?_); refine goesL_ (some 29) rfl rfl Tryd.func11 (by kernel_rfl) rfl #[.agg #[.int .i64 a0_0, .int .i64 a0_1, .int .i64 a0_2, .slice A0_3 l0_3.length c0_3]] rfl zee81 ?_; (with_reducible refine (laws_toBoard.calls k a0_0 a0_1 a0_2 _ _ l0_3 q2 q3 q4 q5 _ ?s1 ?s2 HE2.out).mono ?_); (case s1 => exact Kd.C_below HR0_3.out HB.out); (case s2 => exact HC0_3.out); rintro e wv7 ⟨v3_, he_, ho_v3_, hb⟩; subst he_; refine ⟨_, rfl, ?_⟩; (try clear hcLO1_0 hcLO1_1 hcLO1_2 hcLO1_3 hfLO1_0 hfLO1_1 hfLO1_2 hfLO1_3); obtain ⟨lo5_, hi5_, el_, hL_, eh_⟩ := Loc.newS (Kd.S_mono ho_v3_ (fun _ _ => trivial)) HB.out; have LO5 := aM hL_; have ORLO5 := aM (show (b2_ + 1) ≤ lo5_ from (by rw [el_]; exact LO4.out.size)); have OQLO5 := aM (show lo5_ ≤ hi5_ from (by rw [el_, eh_]; exact hb.size)); obtain ⟨ALO5, cLO5, ev_⟩ := Kd.S_slice ho_v3_; subst ev_; clear el_ hL_ eh_ ho_v3_; replace LO1 := aM (LO1.out.below hb); replace LO2 := aM (LO2.out.below hb); replace LO3 := aM (LO3.out.below hb); replace LO4 := aM (LO4.out.below hb); replace HB := aM (below_after HB.out hb); clear hb) | ((with_reducible refine gate_dst (N := 8) rfl ?_); refine box_event ?hg (N := 8) ?hd (cs := #[.int .i64 0, .int .i64 0, .int .i64 0, .slice none 0 0]) (t := 42) ?hr ?_; (case hd => rfl); (case hg => rfl); (case hr => first | (go_simp; done) | (go_simp; rfl)); intro b3_ hg wv8 hbox hb; have LO6 := aM (Loc.box hbox); have el_ := hg; have ORLO6 := aM (show hi5_ ≤ b3_ from (by rw [el_]; exact LO5.out.size)); have OQLO6 := aM (show b3_ ≤ (b3_ + 1) from Nat.le_succ _); have HWLO6 := aM (show w.heap.size ≤ b3_ from (by rw [hg]; exact HB.out.size)); replace LO1 := aM (LO1.out.below hb); replace LO2 := aM (LO2.out.below hb); replace LO3 := aM (LO3.out.below hb); replace LO4 := aM (LO4.out.below hb); replace LO5 := aM (LO5.out.below hb); replace HB := aM (below_after HB.out hb); clear hg hbox hb el_; obtain ⟨hcLO6_0, hcLO6_1, hcLO6_2, hcLO6_3, hfLO6_0, hfLO6_1, hfLO6_2, hfLO6_3⟩ := cellsZ4 LO6.out.now) | ((with_reducible refine gate_store (t := 42) (p := 8) rfl ?_); refine store_event (t := 42) (p := 8) (v := ?vo_wv9) (w1 := ((((wv8.setCell ⟨b3_, 0, none⟩ (.int .i64 q2)).setCell ⟨b3_, 1, none⟩ (.int .i64 q3)).setCell ⟨b3_, 2, none⟩ (.int .i64 q4)).setCell ⟨b3_, 3, none⟩ (.slice ALO5 q5.length cLO5))) ?hg ?ho ?hn ?hr ?_; (case ho => rfl); (case hg => rfl); (case hn => rfl); (case hr => first | (go_simp; done) | (go_simp; rfl)); intro wv9 hw; (try clear hcLO6_0 hcLO6_1 hcLO6_2 hcLO6_3 hfLO6_0 hfLO6_1 hfLO6_2 hfLO6_3); have ho_ : Only wv8 wv9 b3_ := (by rw [hw]; repeat (first | exact Only.refl _ _ | apply Only.set)); have := ORLO1.out; have := OQLO1.out; have := ORLO2.out; have := OQLO2.out; have := ORLO3.out; have := OQLO3.out; have := ORLO4.out; have := OQLO4.out; have := ORLO5.out; have := OQLO5.out; have := ORLO6.out; have := OQLO6.out; replace LO1 := aM (LO1.out.only ho_ (by omega)); replace LO2 := aM (LO2.out.only ho_ (by omega)); replace LO3 := aM (LO3.out.only ho_ (by omega)); replace LO4 := aM (LO4.out.only ho_ (by omega)); replace LO5 := aM (LO5.out.only ho_ (by omega)); have hbx_ : wv9.heap[b3_]? = some (.cells #[.int .i64 q2, .int .i64 q3, .int .i64 q4, .slice ALO5 q5.length cLO5] 42 (0, 0)) := (by have BK_ := LO6.out.now; rw [hw]; apply blk_eqZ; (repeat (first | exact BK_ | apply blk_put0)); first | (simp only [List.setIfInBounds_toArray, List.set_cons_zero, List.set_cons_succ] <;> rfl) | rfl); replace LO6 := aM (Loc.box hbx_); replace HB := aM (below_only HB.out HWLO6.out ho_); clear ho_ hbx_ hw; obtain ⟨hcLO6_0, hcLO6_1, hcLO6_2, hcLO6_3, hfLO6_0, hfLO6_1, hfLO6_2, hfLO6_3⟩ := cellsZ4 LO6.out.now) | ((with_reducible refine gate_callee (f := 22) rfl ?_); refine goesL_ (some 33) rfl rfl Tryd.func22 (by kernel_rfl) rfl #[.agg #[.int .i64 q2, .int .i64 q3, .int .i64 q4, .slice ALO5 q5.length cLO5], .int .i64 a1] rfl zee81 ?_; (with_reducible refine (impl_RaiseMark.calls k q2 q3 q4 _ _ q5 a1 q6 q7 q8 q9 q10 _ ?s1 ?s2 HE4.out).mono ?_); (case s1 => exact LO5.out.readsS.2.2); (case s2 => exact LO5.out.readsS.2.1); rintro e wv10 ⟨v3_, he_, ho_v3_, hb⟩; subst he_; refine ⟨_, rfl, ?_⟩; (try clear hcLO6_0 hcLO6_1 hcLO6_2 hcLO6_3 hfLO6_0 hfLO6_1 hfLO6_2 hfLO6_3); obtain ⟨lo7_, hi7_, el_, hL_, eh_⟩ := Loc.newS (Kd.S_mono ho_v3_ (fun _ _ => trivial)) HB.out; have LO7 := aM hL_; have ORLO7 := aM (show (b3_ + 1) ≤ lo7_ from (by rw [el_]; exact LO6.out.size)); have OQLO7 := aM (show lo7_ ≤ hi7_ from (by rw [el_, eh_]; exact hb.size)); obtain ⟨ALO7, cLO7, ev_⟩ := Kd.S_slice ho_v3_; subst ev_; clear el_ hL_ eh_ ho_v3_; replace LO1 := aM (LO1.out.below hb); replace LO2 := aM (LO2.out.below hb); replace LO3 := aM (LO3.out.below hb); replace LO4 := aM (LO4.out.below hb); replace LO5 := aM (LO5.out.below hb); replace LO6 := aM (LO6.out.below hb); replace HB := aM (below_after HB.out hb); clear hb) | ((with_reducible refine gate_dst (N := 9) rfl ?_); refine box_event ?hg (N := 9) ?hd (cs := #[.int .i64 0, .int .i64 0, .int .i64 0, .slice none 0 0]) (t := 42) ?hr ?_; (case hd => rfl); (case hg => rfl); (case hr => first | (go_simp; done) | (go_simp; rfl)); intro b4_ hg wv11 hbox hb; have LO8 := aM (Loc.box hbox); have el_ := hg; have ORLO8 := aM (show hi7_ ≤ b4_ from (by rw [el_]; exact LO7.out.size)); have OQLO8 := aM (show b4_ ≤ (b4_ + 1) from Nat.le_succ _); have HWLO8 := aM (show w.heap.size ≤ b4_ from (by rw [hg]; exact HB.out.size)); replace LO1 := aM (LO1.out.below hb); replace LO2 := aM (LO2.out.below hb); replace LO3 := aM (LO3.out.below hb); replace LO4 := aM (LO4.out.below hb); replace LO5 := aM (LO5.out.below hb); replace LO6 := aM (LO6.out.below hb); replace LO7 := aM (LO7.out.below hb); replace HB := aM (below_after HB.out hb); clear hg hbox hb el_; obtain ⟨hcLO8_0, hcLO8_1, hcLO8_2, hcLO8_3, hfLO8_0, hfLO8_1, hfLO8_2, hfLO8_3⟩ := cellsZ4 LO8.out.now) | ((with_reducible refine gate_store (t := 42) (p := 9) rfl ?_); refine store_event (t := 42) (p := 9) (v := ?vo_wv12) (w1 := ((((wv11.setCell ⟨b4_, 0, none⟩ (.int .i64 q6)).setCell ⟨b4_, 1, none⟩ (.int .i64 q7)).setCell ⟨b4_, 2, none⟩ (.int .i64 q8)).setCell ⟨b4_, 3, none⟩ (.slice ALO7 q9.length cLO7))) ?hg ?ho ?hn ?hr ?_; (case ho => rfl); (case hg => rfl); (case hn => rfl); (case hr => first | (go_simp; done) | (go_simp; rfl)); intro wv12 hw; (try clear hcLO8_0 hcLO8_1 hcLO8_2 hcLO8_3 hfLO8_0 hfLO8_1 hfLO8_2 hfLO8_3); have ho_ : Only wv11 wv12 b4_ := (by rw [hw]; repeat (first | exact Only.refl _ _ | apply Only.set)); have := ORLO1.out; have := OQLO1.out; have := ORLO2.out; have := OQLO2.out; have := ORLO3.out; have := OQLO3.out; have := ORLO4.out; have := OQLO4.out; have := ORLO5.out; have := OQLO5.out; have := ORLO6.out; have := OQLO6.out; have := ORLO7.out; have := OQLO7.out; have := ORLO8.out; have := OQLO8.out; replace LO1 := aM (LO1.out.only ho_ (by omega)); replace LO2 := aM (LO2.out.only ho_ (by omega)); replace LO3 := aM (LO3.out.only ho_ (by omega)); replace LO4 := aM (LO4.out.only ho_ (by omega)); replace LO5 := aM (LO5.out.only ho_ (by omega)); replace LO6 := aM (LO6.out.only ho_ (by omega)); replace LO7 := aM (LO7.out.only ho_ (by omega)); have hbx_ : wv12.heap[b4_]? = some (.cells #[.int .i64 q6, .int .i64 q7, .int .i64 q8, .slice ALO7 q9.length cLO7] 42 (0, 0)) := (by have BK_ := LO8.out.now; rw [hw]; apply blk_eqZ; (repeat (first | exact BK_ | apply blk_put0)); first | (simp only [List.setIfInBounds_toArray, List.set_cons_zero, List.set_cons_succ] <;> rfl) | rfl); replace LO8 := aM (Loc.box hbx_); replace HB := aM (below_only HB.out HWLO8.out ho_); clear ho_ hbx_ hw; obtain ⟨hcLO8_0, hcLO8_1, hcLO8_2, hcLO8_3, hfLO8_0, hfLO8_1, hfLO8_2, hfLO8_3⟩ := cellsZ4 LO8.out.now; obtain ⟨hcLO4_0, hcLO4_1, hcLO4_2, hcLO4_3, hfLO4_0, hfLO4_1, hfLO4_2, hfLO4_3⟩ := cellsZ4 LO4.out.now) | ((with_reducible refine gate_callee (f := 15) rfl ?_); refine goesL_ (some 38) rfl rfl Tryd.func15 (by kernel_rfl) rfl #[.agg #[.int .i64 q6, .int .i64 q7, .int .i64 q8, .slice ALO7 q9.length cLO7], .agg #[.int .i64 q6, .int .i64 q7, .int .i64 q8, .slice ALO3 q9.length cLO3]] rfl zee81 ?_; (with_reducible refine (laws_eqBoard.calls k q6 q7 q8 _ _ q9 q6 q7 q8 _ _ q9 true _ ?s1 ?s2 ?s3 ?s4 HE5.out).mono ?_); (case s1 => exact LO7.out.readsS.2.2); (case s2 => exact LO7.out.readsS.2.1); (case s3 => exact LO3.out.readsS.2.2); (case s4 => exact LO3.out.readsS.2.1); rintro e wv13 ⟨he_, hb⟩; subst he_; refine ⟨_, rfl, ?_⟩; (try clear hcLO8_0 hcLO8_1 hcLO8_2 hcLO8_3 hfLO8_0 hfLO8_1 hfLO8_2 hfLO8_3 hcLO4_0 hcLO4_1 hcLO4_2 hcLO4_3 hfLO4_0 hfLO4_1 hfLO4_2 hfLO4_3); replace LO1 := aM (LO1.out.below hb); replace LO2 := aM (LO2.out.below hb); replace LO3 := aM (LO3.out.below hb); replace LO4 := aM (LO4.out.below hb); replace LO5 := aM (LO5.out.below hb); replace LO6 := aM (LO6.out.below hb); replace LO7 := aM (LO7.out.below hb); replace LO8 := aM (LO8.out.below hb); replace HB := aM (below_after HB.out hb); clear hb))
 obtain ⟨hcLO6_0, hcLO6_1, hcLO6_2, hcLO6_3, hfLO6_0, hfLO6_1, hfLO6_2, hfLO6_3⟩ := cellsZ4 LO6.out.now
 obtain ⟨hcLO1_0, hcLO1_1, hcLO1_2, hcLO1_3, hfLO1_0, hfLO1_1, hfLO1_2, hfLO1_3⟩ := cellsZ4 LO1.out.now
 go_region_held3 (fun W_ => W_.cell? ⟨b3_, 0, none⟩ = some (.int .i64 q2) ∧ W_.cell? ⟨b3_, 1, none⟩ = some (.int .i64 q3) ∧ W_.cell? ⟨b3_, 2, none⟩ = some (.int .i64 q4) ∧ W_.cell? ⟨b3_, 3, none⟩ = some (.slice ALO5 q5.length cLO5) ∧ W_.cell? ⟨b1_, 0, none⟩ = some (.int .i64 a0_0) ∧ W_.cell? ⟨b1_, 1, none⟩ = some (.int .i64 a0_1) ∧ W_.cell? ⟨b1_, 2, none⟩ = some (.int .i64 a0_2) ∧ W_.cell? ⟨b1_, 3, none⟩ = some (.slice A0_3 l0_3.length c0_3)) (exact ⟨hcLO6_0, hcLO6_1, hcLO6_2, hcLO6_3, hcLO1_0, hcLO1_1, hcLO1_2, hcLO1_3⟩) (first | (go_at_call 11; have hb := (below_drew (Below.refl _ _) : Below wv13.heap.size wv13 wv13.drew); replace LO1 := aM (LO1.out.below hb); replace LO2 := aM (LO2.out.below hb); replace LO3 := aM (LO3.out.below hb); replace LO4 := aM (LO4.out.below hb); replace LO5 := aM (LO5.out.below hb); replace LO6 := aM (LO6.out.below hb); replace LO7 := aM (LO7.out.below hb); replace LO8 := aM (LO8.out.below hb); replace HB := aM (below_after HB.out hb); clear hb; (with_reducible refine (laws_toBoard.calls k a0_0 a0_1 a0_2 _ _ l0_3 q2 q3 q4 q5 _ ?s1 ?s2 HE2.out).mono ?_); (case s1 => exact Kd.C_below HR0_3.out HB.out); (case s2 => exact HC0_3.out); rintro e wv14 ⟨v3_, he_, ho_v3_, hb⟩; subst he_; clear hcLO6_0 hcLO6_1 hcLO6_2 hcLO6_3 hfLO6_0 hfLO6_1 hfLO6_2 hfLO6_3 hcLO1_0 hcLO1_1 hcLO1_2 hcLO1_3 hfLO1_0 hfLO1_1 hfLO1_2 hfLO1_3; obtain ⟨lo9_, hi9_, el_, hL_, eh_⟩ := Loc.newS (Kd.S_mono ho_v3_ (fun _ _ => trivial)) HB.out; have LO9 := aM hL_; have ORLO9 := aM (show (b4_ + 1) ≤ lo9_ from (by rw [el_]; exact LO8.out.size)); have OQLO9 := aM (show lo9_ ≤ hi9_ from (by rw [el_, eh_]; exact hb.size)); obtain ⟨ALO9, cLO9, ev_⟩ := Kd.S_slice ho_v3_; subst ev_; clear el_ hL_ eh_ ho_v3_; replace LO1 := aM (LO1.out.below hb); replace LO2 := aM (LO2.out.below hb); replace LO3 := aM (LO3.out.below hb); replace LO4 := aM (LO4.out.below hb); replace LO5 := aM (LO5.out.below hb); replace LO6 := aM (LO6.out.below hb); replace LO7 := aM (LO7.out.below hb); replace LO8 := aM (LO8.out.below hb); replace HB := aM (below_after HB.out hb); clear hb; obtain ⟨hcLO6_0, hcLO6_1, hcLO6_2, hcLO6_3, hfLO6_0, hfLO6_1, hfLO6_2, hfLO6_3⟩ := cellsZ4 LO6.out.now; obtain ⟨hcLO1_0, hcLO1_1, hcLO1_2, hcLO1_3, hfLO1_0, hfLO1_1, hfLO1_2, hfLO1_3⟩ := cellsZ4 LO1.out.now) | (go_at_call 15; (with_reducible refine (laws_eqBoard.calls k q2 q3 q4 _ _ q5 q2 q3 q4 _ _ q5 true _ ?s1 ?s2 ?s3 ?s4 HE6.out).mono ?_); (case s1 => exact LO5.out.readsS.2.2); (case s2 => exact LO5.out.readsS.2.1); (case s3 => exact LO9.out.readsS.2.2); (case s4 => exact LO9.out.readsS.2.1); rintro e wv15 ⟨he_, hb⟩; subst he_; clear hcLO6_0 hcLO6_1 hcLO6_2 hcLO6_3 hfLO6_0 hfLO6_1 hfLO6_2 hfLO6_3 hcLO1_0 hcLO1_1 hcLO1_2 hcLO1_3 hfLO1_0 hfLO1_1 hfLO1_2 hfLO1_3; replace LO1 := aM (LO1.out.below hb); replace LO2 := aM (LO2.out.below hb); replace LO3 := aM (LO3.out.below hb); replace LO4 := aM (LO4.out.below hb); replace LO5 := aM (LO5.out.below hb); replace LO6 := aM (LO6.out.below hb); replace LO7 := aM (LO7.out.below hb); replace LO8 := aM (LO8.out.below hb); replace LO9 := aM (LO9.out.below hb); replace HB := aM (below_after HB.out hb); clear hb; obtain ⟨hcLO6_0, hcLO6_1, hcLO6_2, hcLO6_3, hfLO6_0, hfLO6_1, hfLO6_2, hfLO6_3⟩ := cellsZ4 LO6.out.now; obtain ⟨hcLO1_0, hcLO1_1, hcLO1_2, hcLO1_3, hfLO1_0, hfLO1_1, hfLO1_2, hfLO1_3⟩ := cellsZ4 LO1.out.now))
 go_wp2_with (first | ((with_reducible refine gate_callee (f := 17) rfl ?_); refine goesL_ (some 52) rfl rfl Tryd.func17 (by kernel_rfl) rfl #[.agg #[.int .i64 q2, .int .i64 q3, .int .i64 q4, .slice ALO5 q5.length cLO5], .int .i64 1] rfl zee81 ?_; (with_reducible refine (laws_markBoard.calls k (fun k => lo5_ ≤ k ∧ k < hi5_) q2 q3 q4 (.slice ALO5 q5.length cLO5) q5 1 q11 q12 w _ ?s1 ?s2 HE7.out).mono ?_); (case s1 => exact HB.out); (case s2 => exact LO5.out.now); rintro e wv16 ⟨he_, hs, hB2, hk⟩; subst he_; refine ⟨_, rfl, ?_⟩; (try clear hcLO6_0 hcLO6_1 hcLO6_2 hcLO6_3 hfLO6_0 hfLO6_1 hfLO6_2 hfLO6_3 hcLO1_0 hcLO1_1 hcLO1_2 hcLO1_3 hfLO1_0 hfLO1_1 hfLO1_2 hfLO1_3); have hi_ := LO5.out.size; have := ORLO1.out; have := OQLO1.out; have := ORLO2.out; have := OQLO2.out; have := ORLO3.out; have := OQLO3.out; have := ORLO4.out; have := OQLO4.out; have := ORLO5.out; have := OQLO5.out; have := ORLO6.out; have := OQLO6.out; have := ORLO7.out; have := OQLO7.out; have := ORLO8.out; have := OQLO8.out; have := ORLO9.out; have := OQLO9.out; replace LO1 := aM (LO1.out.apart hk (by omega)); replace LO2 := aM (LO2.out.apart hk (by omega)); replace LO3 := aM (LO3.out.apart hk (by omega)); replace LO4 := aM (LO4.out.apart hk (by omega)); replace LO6 := aM (LO6.out.apart hk (by omega)); replace LO7 := aM (LO7.out.apart hk (by omega)); replace LO8 := aM (LO8.out.apart hk (by omega)); replace LO9 := aM (LO9.out.apart hk (by omega)); replace LO5 := aM (Loc.ofS (Nat.le_trans hi_ hk.1) hs); replace HB := aM hB2; have HN16 := aM ((LO5.out.readsS).1 : q5.length = q12.length); clear hs hB2 hk hi_; rw [HN16.out] at LO6; obtain ⟨hcLO8_0, hcLO8_1, hcLO8_2, hcLO8_3, hfLO8_0, hfLO8_1, hfLO8_2, hfLO8_3⟩ := cellsZ4 LO8.out.now; obtain ⟨hcLO4_0, hcLO4_1, hcLO4_2, hcLO4_3, hfLO4_0, hfLO4_1, hfLO4_2, hfLO4_3⟩ := cellsZ4 LO4.out.now) | (go_at_call 15; (with_reducible refine (laws_eqBoard.calls k q6 q7 q8 _ _ q9 q6 q7 q8 _ _ q9 true _ ?s1 ?s2 ?s3 ?s4 HE5.out).mono ?_); (case s1 => exact LO7.out.readsS.2.2); (case s2 => exact LO7.out.readsS.2.1); (case s3 => exact LO3.out.readsS.2.2); (case s4 => exact LO3.out.readsS.2.1); rintro e wv17 ⟨he_, hb⟩; subst he_; (try clear hcLO8_0 hcLO8_1 hcLO8_2 hcLO8_3 hfLO8_0 hfLO8_1 hfLO8_2 hfLO8_3 hcLO4_0 hcLO4_1 hcLO4_2 hcLO4_3 hfLO4_0 hfLO4_1 hfLO4_2 hfLO4_3); replace LO1 := aM (LO1.out.below hb); replace LO2 := aM (LO2.out.below hb); replace LO3 := aM (LO3.out.below hb); replace LO4 := aM (LO4.out.below hb); replace LO5 := aM (LO5.out.below hb); replace LO6 := aM (LO6.out.below hb); replace LO7 := aM (LO7.out.below hb); replace LO8 := aM (LO8.out.below hb); replace LO9 := aM (LO9.out.below hb); replace HB := aM (below_after HB.out hb); clear hb; obtain ⟨hcLO8_0, hcLO8_1, hcLO8_2, hcLO8_3, hfLO8_0, hfLO8_1, hfLO8_2, hfLO8_3⟩ := cellsZ4 LO8.out.now) | ((with_reducible refine gate_callee (f := 17) rfl ?_); refine goesL_ (some 68) rfl rfl Tryd.func17 (by kernel_rfl) rfl #[.agg #[.int .i64 q6, .int .i64 q7, .int .i64 q8, .slice ALO7 q9.length cLO7], .int .i64 1] rfl zee81 ?_; (with_reducible refine (laws_markBoard.calls k (fun k => lo7_ ≤ k ∧ k < hi7_) q6 q7 q8 (.slice ALO7 q9.length cLO7) q9 1 q13 q14 w _ ?s1 ?s2 HE8.out).mono ?_); (case s1 => exact HB.out); (case s2 => exact LO7.out.now); rintro e wv18 ⟨he_, hs, hB2, hk⟩; subst he_; refine ⟨_, rfl, ?_⟩; (try clear hcLO8_0 hcLO8_1 hcLO8_2 hcLO8_3 hfLO8_0 hfLO8_1 hfLO8_2 hfLO8_3); have hi_ := LO7.out.size; have := ORLO1.out; have := OQLO1.out; have := ORLO2.out; have := OQLO2.out; have := ORLO3.out; have := OQLO3.out; have := ORLO4.out; have := OQLO4.out; have := ORLO5.out; have := OQLO5.out; have := ORLO6.out; have := OQLO6.out; have := ORLO7.out; have := OQLO7.out; have := ORLO8.out; have := OQLO8.out; have := ORLO9.out; have := OQLO9.out; replace LO1 := aM (LO1.out.apart hk (by omega)); replace LO2 := aM (LO2.out.apart hk (by omega)); replace LO3 := aM (LO3.out.apart hk (by omega)); replace LO4 := aM (LO4.out.apart hk (by omega)); replace LO5 := aM (LO5.out.apart hk (by omega)); replace LO6 := aM (LO6.out.apart hk (by omega)); replace LO8 := aM (LO8.out.apart hk (by omega)); replace LO9 := aM (LO9.out.apart hk (by omega)); replace LO7 := aM (Loc.ofS (Nat.le_trans hi_ hk.1) hs); replace HB := aM hB2; have HN18 := aM ((LO7.out.readsS).1 : q9.length = q14.length); clear hs hB2 hk hi_; rw [HN18.out] at LO8; obtain ⟨hcLO8_0, hcLO8_1, hcLO8_2, hcLO8_3, hfLO8_0, hfLO8_1, hfLO8_2, hfLO8_3⟩ := cellsZ4 LO8.out.now) | ((with_reducible refine gate_callee (f := 23) rfl ?_); refine goesL_ (some 71) rfl rfl Tryd.func23 (by kernel_rfl) rfl #[.agg #[.int .i64 q6, .int .i64 q7, .int .i64 q8, .slice ALO7 q14.length cLO7], .int .i64 1] rfl zee81 ?_; (with_reducible refine (laws_heldBoard.calls k q6 q7 q8 _ _ q14 1 q13 _ ?s1 ?s2 HE9.out).mono ?_); (case s1 => exact LO7.out.readsS.2.2); (case s2 => exact LO7.out.readsS.2.1); rintro e wv19 ⟨he_, hb⟩; subst he_; refine ⟨_, rfl, ?_⟩; (try clear hcLO8_0 hcLO8_1 hcLO8_2 hcLO8_3 hfLO8_0 hfLO8_1 hfLO8_2 hfLO8_3); replace LO1 := aM (LO1.out.below hb); replace LO2 := aM (LO2.out.below hb); replace LO3 := aM (LO3.out.below hb); replace LO4 := aM (LO4.out.below hb); replace LO5 := aM (LO5.out.below hb); replace LO6 := aM (LO6.out.below hb); replace LO7 := aM (LO7.out.below hb); replace LO8 := aM (LO8.out.below hb); replace LO9 := aM (LO9.out.below hb); replace HB := aM (below_after HB.out hb); clear hb; obtain ⟨hcLO1_0, hcLO1_1, hcLO1_2, hcLO1_3, hfLO1_0, hfLO1_1, hfLO1_2, hfLO1_3⟩ := cellsZ4 LO1.out.now) | ((with_reducible refine gate_callee (f := 11) rfl ?_); refine goesL_ (some 79) rfl rfl Tryd.func11 (by kernel_rfl) rfl #[.agg #[.int .i64 a0_0, .int .i64 a0_1, .int .i64 a0_2, .slice A0_3 l0_3.length c0_3]] rfl zee81 ?_; (with_reducible refine (laws_toBoard.calls k a0_0 a0_1 a0_2 _ _ l0_3 q2 q3 q4 q5 _ ?s1 ?s2 HE2.out).mono ?_); (case s1 => exact Kd.C_below HR0_3.out HB.out); (case s2 => exact HC0_3.out); rintro e wv20 ⟨v3_, he_, ho_v3_, hb⟩; subst he_; refine ⟨_, rfl, ?_⟩; (try clear hcLO1_0 hcLO1_1 hcLO1_2 hcLO1_3 hfLO1_0 hfLO1_1 hfLO1_2 hfLO1_3); obtain ⟨lo10_, hi10_, el_, hL_, eh_⟩ := Loc.newS (Kd.S_mono ho_v3_ (fun _ _ => trivial)) HB.out; have LO10 := aM hL_; have ORLO10 := aM (show hi9_ ≤ lo10_ from (by rw [el_]; exact LO9.out.size)); have OQLO10 := aM (show lo10_ ≤ hi10_ from (by rw [el_, eh_]; exact hb.size)); obtain ⟨ALO10, cLO10, ev_⟩ := Kd.S_slice ho_v3_; subst ev_; clear el_ hL_ eh_ ho_v3_; replace LO1 := aM (LO1.out.below hb); replace LO2 := aM (LO2.out.below hb); replace LO3 := aM (LO3.out.below hb); replace LO4 := aM (LO4.out.below hb); replace LO5 := aM (LO5.out.below hb); replace LO6 := aM (LO6.out.below hb); replace LO7 := aM (LO7.out.below hb); replace LO8 := aM (LO8.out.below hb); replace LO9 := aM (LO9.out.below hb); replace HB := aM (below_after HB.out hb); clear hb) | ((with_reducible refine gate_callee (f := 22) rfl ?_); refine goesL_ (some 81) rfl rfl Tryd.func22 (by kernel_rfl) rfl #[.agg #[.int .i64 q2, .int .i64 q3, .int .i64 q4, .slice ALO10 q5.length cLO10], .int .i64 a1] rfl zee81 ?_; (with_reducible refine (impl_RaiseMark.calls k q2 q3 q4 _ _ q5 a1 q6 q7 q8 q9 q10 _ ?s1 ?s2 HE4.out).mono ?_); (case s1 => exact LO10.out.readsS.2.2); (case s2 => exact LO10.out.readsS.2.1); rintro e wv21 ⟨v3_, he_, ho_v3_, hb⟩; subst he_; refine ⟨_, rfl, ?_⟩; obtain ⟨lo11_, hi11_, el_, hL_, eh_⟩ := Loc.newS (Kd.S_mono ho_v3_ (fun _ _ => trivial)) HB.out; have LO11 := aM hL_; have ORLO11 := aM (show hi10_ ≤ lo11_ from (by rw [el_]; exact LO10.out.size)); have OQLO11 := aM (show lo11_ ≤ hi11_ from (by rw [el_, eh_]; exact hb.size)); obtain ⟨ALO11, cLO11, ev_⟩ := Kd.S_slice ho_v3_; subst ev_; clear el_ hL_ eh_ ho_v3_; replace LO1 := aM (LO1.out.below hb); replace LO2 := aM (LO2.out.below hb); replace LO3 := aM (LO3.out.below hb); replace LO4 := aM (LO4.out.below hb); replace LO5 := aM (LO5.out.below hb); replace LO6 := aM (LO6.out.below hb); replace LO7 := aM (LO7.out.below hb); replace LO8 := aM (LO8.out.below hb); replace LO9 := aM (LO9.out.below hb); replace LO10 := aM (LO10.out.below hb); replace HB := aM (below_after HB.out hb); clear hb) | ((with_reducible refine gate_dst (N := 14) rfl ?_); refine box_event ?hg (N := 14) ?hd (cs := #[.int .i64 0, .int .i64 0, .int .i64 0, .slice none 0 0]) (t := 42) ?hr ?_; (case hd => rfl); (case hg => rfl); (case hr => first | (go_simp; done) | (go_simp; rfl)); intro b5_ hg wv22 hbox hb; have LO12 := aM (Loc.box hbox); have el_ := hg; have ORLO12 := aM (show hi11_ ≤ b5_ from (by rw [el_]; exact LO11.out.size)); have OQLO12 := aM (show b5_ ≤ (b5_ + 1) from Nat.le_succ _); have HWLO12 := aM (show w.heap.size ≤ b5_ from (by rw [hg]; exact HB.out.size)); replace LO1 := aM (LO1.out.below hb); replace LO2 := aM (LO2.out.below hb); replace LO3 := aM (LO3.out.below hb); replace LO4 := aM (LO4.out.below hb); replace LO5 := aM (LO5.out.below hb); replace LO6 := aM (LO6.out.below hb); replace LO7 := aM (LO7.out.below hb); replace LO8 := aM (LO8.out.below hb); replace LO9 := aM (LO9.out.below hb); replace LO10 := aM (LO10.out.below hb); replace LO11 := aM (LO11.out.below hb); replace HB := aM (below_after HB.out hb); clear hg hbox hb el_; obtain ⟨hcLO12_0, hcLO12_1, hcLO12_2, hcLO12_3, hfLO12_0, hfLO12_1, hfLO12_2, hfLO12_3⟩ := cellsZ4 LO12.out.now) | ((with_reducible refine gate_store (t := 42) (p := 14) rfl ?_); refine store_event (t := 42) (p := 14) (v := ?vo_wv23) (w1 := ((((wv22.setCell ⟨b5_, 0, none⟩ (.int .i64 q6)).setCell ⟨b5_, 1, none⟩ (.int .i64 q7)).setCell ⟨b5_, 2, none⟩ (.int .i64 q8)).setCell ⟨b5_, 3, none⟩ (.slice ALO11 q9.length cLO11))) ?hg ?ho ?hn ?hr ?_; (case ho => rfl); (case hg => rfl); (case hn => rfl); (case hr => first | (go_simp; done) | (go_simp; rfl)); intro wv23 hw; (try clear hcLO12_0 hcLO12_1 hcLO12_2 hcLO12_3 hfLO12_0 hfLO12_1 hfLO12_2 hfLO12_3); have ho_ : Only wv22 wv23 b5_ := (by rw [hw]; repeat (first | exact Only.refl _ _ | apply Only.set)); have := ORLO1.out; have := OQLO1.out; have := ORLO2.out; have := OQLO2.out; have := ORLO3.out; have := OQLO3.out; have := ORLO4.out; have := OQLO4.out; have := ORLO5.out; have := OQLO5.out; have := ORLO6.out; have := OQLO6.out; have := ORLO7.out; have := OQLO7.out; have := ORLO8.out; have := OQLO8.out; have := ORLO9.out; have := OQLO9.out; have := ORLO10.out; have := OQLO10.out; have := ORLO11.out; have := OQLO11.out; have := ORLO12.out; have := OQLO12.out; replace LO1 := aM (LO1.out.only ho_ (by omega)); replace LO2 := aM (LO2.out.only ho_ (by omega)); replace LO3 := aM (LO3.out.only ho_ (by omega)); replace LO4 := aM (LO4.out.only ho_ (by omega)); replace LO5 := aM (LO5.out.only ho_ (by omega)); replace LO6 := aM (LO6.out.only ho_ (by omega)); replace LO7 := aM (LO7.out.only ho_ (by omega)); replace LO8 := aM (LO8.out.only ho_ (by omega)); replace LO9 := aM (LO9.out.only ho_ (by omega)); replace LO10 := aM (LO10.out.only ho_ (by omega)); replace LO11 := aM (LO11.out.only ho_ (by omega)); have hbx_ : wv23.heap[b5_]? = some (.cells #[.int .i64 q6, .int .i64 q7, .int .i64 q8, .slice ALO11 q9.length cLO11] 42 (0, 0)) := (by have BK_ := LO12.out.now; rw [hw]; apply blk_eqZ; (repeat (first | exact BK_ | apply blk_put0)); first | (simp only [List.setIfInBounds_toArray, List.set_cons_zero, List.set_cons_succ] <;> rfl) | rfl); replace LO12 := aM (Loc.box hbx_); replace HB := aM (below_only HB.out HWLO12.out ho_); clear ho_ hbx_ hw; obtain ⟨hcLO12_0, hcLO12_1, hcLO12_2, hcLO12_3, hfLO12_0, hfLO12_1, hfLO12_2, hfLO12_3⟩ := cellsZ4 LO12.out.now; obtain ⟨hcLO4_0, hcLO4_1, hcLO4_2, hcLO4_3, hfLO4_0, hfLO4_1, hfLO4_2, hfLO4_3⟩ := cellsZ4 LO4.out.now) | ((with_reducible refine gate_callee (f := 15) rfl ?_); refine goesL_ (some 86) rfl rfl Tryd.func15 (by kernel_rfl) rfl #[.agg #[.int .i64 q6, .int .i64 q7, .int .i64 q8, .slice ALO11 q9.length cLO11], .agg #[.int .i64 q6, .int .i64 q7, .int .i64 q8, .slice ALO3 q9.length cLO3]] rfl zee81 ?_; (with_reducible refine (laws_eqBoard.calls k q6 q7 q8 _ _ q9 q6 q7 q8 _ _ q9 true _ ?s1 ?s2 ?s3 ?s4 HE5.out).mono ?_); (case s1 => exact LO11.out.readsS.2.2); (case s2 => exact LO11.out.readsS.2.1); (case s3 => exact LO3.out.readsS.2.2); (case s4 => exact LO3.out.readsS.2.1); rintro e wv24 ⟨he_, hb⟩; subst he_; refine ⟨_, rfl, ?_⟩; (try clear hcLO12_0 hcLO12_1 hcLO12_2 hcLO12_3 hfLO12_0 hfLO12_1 hfLO12_2 hfLO12_3 hcLO4_0 hcLO4_1 hcLO4_2 hcLO4_3 hfLO4_0 hfLO4_1 hfLO4_2 hfLO4_3); replace LO1 := aM (LO1.out.below hb); replace LO2 := aM (LO2.out.below hb); replace LO3 := aM (LO3.out.below hb); replace LO4 := aM (LO4.out.below hb); replace LO5 := aM (LO5.out.below hb); replace LO6 := aM (LO6.out.below hb); replace LO7 := aM (LO7.out.below hb); replace LO8 := aM (LO8.out.below hb); replace LO9 := aM (LO9.out.below hb); replace LO10 := aM (LO10.out.below hb); replace LO11 := aM (LO11.out.below hb); replace LO12 := aM (LO12.out.below hb); replace HB := aM (below_after HB.out hb); clear hb; obtain ⟨hcLO8_0, hcLO8_1, hcLO8_2, hcLO8_3, hfLO8_0, hfLO8_1, hfLO8_2, hfLO8_3⟩ := cellsZ4 LO8.out.now) | ((with_reducible refine gate_callee (f := 23) rfl ?_); refine goesL_ (some 95) rfl rfl Tryd.func23 (by kernel_rfl) rfl #[.agg #[.int .i64 q6, .int .i64 q7, .int .i64 q8, .slice ALO7 q14.length cLO7], .int .i64 1] rfl zee81 ?_; (with_reducible refine (laws_heldBoard.calls k q6 q7 q8 _ _ q14 1 q13 _ ?s1 ?s2 HE9.out).mono ?_); (case s1 => exact LO7.out.readsS.2.2); (case s2 => exact LO7.out.readsS.2.1); rintro e wv25 ⟨he_, hb⟩; subst he_; refine ⟨_, rfl, ?_⟩; (try clear hcLO8_0 hcLO8_1 hcLO8_2 hcLO8_3 hfLO8_0 hfLO8_1 hfLO8_2 hfLO8_3); replace LO1 := aM (LO1.out.below hb); replace LO2 := aM (LO2.out.below hb); replace LO3 := aM (LO3.out.below hb); replace LO4 := aM (LO4.out.below hb); replace LO5 := aM (LO5.out.below hb); replace LO6 := aM (LO6.out.below hb); replace LO7 := aM (LO7.out.below hb); replace LO8 := aM (LO8.out.below hb); replace LO9 := aM (LO9.out.below hb); replace LO10 := aM (LO10.out.below hb); replace LO11 := aM (LO11.out.below hb); replace LO12 := aM (LO12.out.below hb); replace HB := aM (below_after HB.out hb); clear hb))
 go_ret
 exact ⟨rfl, HB.out⟩
end Go.Proofs.YtkgmoajdcibafaaDoor.P

namespace Go.Proofs.YtkgmoajdcibafaaDoor.Lem
open Go.RowKit Go.Proofs.YtkgmoajdcibafaaDoorW.PrintWords Go.Proofs.YtkgmoajdcibafaaDoorW.PrintLast Go.Proofs.YtkgmoajdcibafaaDoorW.PrintMore

theorem w64 {x : Int} (h0 : -9223372036854775808 ≤ x) (h1 : x < 9223372036854775808) : wrap64 x = x := by
  unfold wrap64; omega
theorem wu64 {x : Int} (h0 : 0 ≤ x) (h1 : x < 18446744073709551616) : IntKind.u64.wrap x = x := by
  rw [IntKind.wrap_u64]; omega
theorem wu64_lo (x : Int) : 0 ≤ IntKind.u64.wrap x := by rw [IntKind.wrap_u64]; omega
theorem wu64_hi (x : Int) : IntKind.u64.wrap x < 18446744073709551616 := by rw [IntKind.wrap_u64]; omega

/-- A list of bytes. -/
def Bytes (l : List Int) : Prop := ∀ x ∈ l, 0 ≤ x ∧ x < 256

theorem Bytes.of_wf {l : List Int} (h : ∀ x ∈ l, (Lit.int .u8 x).wf = true) : Bytes l := by
  intro x hx
  have := h x hx
  simp [Lit.wf, IntKind.min, IntKind.max, IntKind.signed, IntKind.bits] at this
  omega
theorem Bytes.append {a b : List Int} (ha : Bytes a) (hb : Bytes b) : Bytes (a ++ b) := by
  intro x hx
  rcases List.mem_append.1 hx with h | h
  · exact ha x h
  · exact hb x h
theorem Bytes.nil : Bytes [] := fun x hx => by simp at hx
theorem Bytes.cons {x : Int} {l : List Int} (h0 : 0 ≤ x) (h1 : x < 256) (hl : Bytes l) : Bytes (x :: l) := by
  intro y hy
  rcases List.mem_cons.1 hy with rfl | h
  · exact ⟨h0, h1⟩
  · exact hl y h
theorem Bytes.rd {l : List Int} (h : Bytes l) (i : Int) : 0 ≤ rd l i ∧ rd l i < 256 := by
  unfold Go.Proofs.YtkgmoajdcibafaaDoorW.PrintWords.rd
  rcases Nat.lt_or_ge i.toNat l.length with hl | hl
  · rw [List.getD_eq_getElem?_getD, List.getElem?_eq_getElem hl]
    exact h _ (List.getElem_mem hl)
  · rw [List.getD_eq_getElem?_getD, List.getElem?_eq_none hl]
    simp
theorem Bytes.take {l : List Int} (h : Bytes l) (n : Nat) : Bytes (l.take n) := fun x hx => h x (List.mem_of_mem_take hx)
theorem Bytes.drop {l : List Int} (h : Bytes l) (n : Nat) : Bytes (l.drop n) := fun x hx => h x (List.mem_of_mem_drop hx)

theorem and255 {x : Int} (h0 : 0 ≤ x) (h1 : x < 18446744073709551616) : 0 ≤ Go.bits .and .u64 x 255 ∧ Go.bits .and .u64 x 255 < 256 := by
  rw [u64_and x 255 h0 h1 (by decide) (by decide)]
  have : x.toNat &&& (255 : Int).toNat ≤ (255 : Int).toNat := Nat.and_le_right
  have e : (255 : Int).toNat = 255 := rfl
  omega

theorem shr_lo {k : IntKind} {x y : Int} (h : 0 ≤ x) : 0 ≤ shr k x y := by
  unfold shr
  exact Int.ediv_nonneg h (Int.le_of_lt (Int.pow_pos (by decide)))
theorem shr_hi {k : IntKind} {x y B : Int} (h : 0 ≤ x) (h1 : x < B) : shr k x y < B := by
  unfold shr
  have : x / 2 ^ min y.toNat k.bits ≤ x := Int.ediv_le_self _ h
  omega

end Go.Proofs.YtkgmoajdcibafaaDoor.Lem

/- Names and keys: what GoodKey says, the program's and the specification's. -/
namespace Go.Proofs.YtkgmoajdcibafaaDoor.Lem
open Go Go.RowKit Go.Proofs.YtkgmoajdcibafaaDoor.P Go.Proofs.YtkgmoajdcibafaaDoorW.PrintWords Go.Proofs.YtkgmoajdcibafaaDoorW.PrintLast Go.Proofs.YtkgmoajdcibafaaDoorW.PrintMore

abbrev Tg := S123
abbrev rdT := rd_T123

theorem dropWhile_head {α : Type} (p : α → Bool) : ∀ (l : List α) (x : α) (r : List α), l.dropWhile p = x :: r → p x = false
  | [], x, r, h => by simp at h
  | a :: l, x, r, h => by
    rw [List.dropWhile_cons] at h
    cases e : p a with
    | true => rw [e, if_pos rfl] at h; exact dropWhile_head p l x r h
    | false =>
      rw [e, if_neg (by decide)] at h
      injection h with h _
      rw [← h]; exact e
theorem dropWhile_all {α : Type} (p : α → Bool) : ∀ l : List α, l.all p = true → l.dropWhile p = []
  | [], _ => rfl
  | a :: l, h => by
    rw [List.all_cons, Bool.and_eq_true] at h
    rw [List.dropWhile_cons, h.1, if_pos rfl]
    exact dropWhile_all p l h.2
theorem dropWhile_nil {α : Type} (p : α → Bool) : ∀ l : List α, l.dropWhile p = [] → l.all p = true
  | [], _ => rfl
  | a :: l, h => by
    rw [List.dropWhile_cons] at h
    cases e : p a with
    | true => rw [e, if_pos rfl] at h; rw [List.all_cons, e, dropWhile_nil p l h]; rfl
    | false => rw [e, if_neg (by decide)] at h; exact absurd h (by simp)

theorem trim_nil (l cs : List UInt8) : (Go.Lib.trimS l cs == []) = l.all (cs.contains ·) := by
  unfold Go.Lib.trimS Go.Lib.trimLeftS Go.Lib.trimRightS
  cases e : l.all (cs.contains ·) with
  | true =>
    have h1 : l.reverse.all (cs.contains ·) = true := by rw [List.all_reverse]; exact e
    rw [dropWhile_all _ _ h1, List.reverse_nil, List.dropWhile_nil]
    rfl
  | false =>
    rw [beq_eq_false_iff_ne]
    intro h
    have h1 := dropWhile_nil _ _ h
    rw [List.all_reverse] at h1
    cases e2 : l.reverse.dropWhile (cs.contains ·) with
    | nil =>
      have h3 := dropWhile_nil _ _ e2
      rw [List.all_reverse, e] at h3
      exact absurd h3 (by decide)
    | cons x r =>
      have h3 := dropWhile_head _ _ x r e2
      rw [e2, List.all_cons, h3, Bool.false_and] at h1
      exact absurd h1 (by decide)

/-- A letter's byte. -/
def letter (b : UInt8) : Bool := (decide (97 ≤ b.toNat) && decide (b.toNat ≤ 122)) || (decide (65 ≤ b.toNat) && decide (b.toNat ≤ 90))
def alphabet : List UInt8 := [97, 98, 99, 100, 101, 102, 103, 104, 105, 106, 107, 108, 109, 110, 111, 112, 113, 114, 115, 116, 117, 118, 119, 120, 121, 122, 65, 66, 67, 68, 69, 70, 71, 72, 73, 74, 75, 76, 77, 78, 79, 80, 81, 82, 83, 84, 85, 86, 87, 88, 89, 90]
theorem alphabet_all : ∀ n, n < 256 → (alphabet.contains (UInt8.ofNat n) == letter (UInt8.ofNat n)) = true := of_decide_eq_true (by kernel_rfl)
theorem alphabet_letter (b : UInt8) : alphabet.contains b = letter b := by
  have h := alphabet_all b.toNat b.toNat_lt
  rw [UInt8.ofNat_toNat] at h
  exact eq_of_beq h

/-- A name. -/
def nameB (s : ByteArray) : Bool := decide (1 ≤ s.size) && decide (s.size ≤ 12) && s.data.toList.all letter
theorem nameB_size {s : ByteArray} (h : nameB s = true) : 1 ≤ s.size ∧ s.size ≤ 12 := by
  unfold nameB at h
  rw [Bool.and_eq_true, Bool.and_eq_true] at h
  exact ⟨of_decide_eq_true h.1.1, of_decide_eq_true h.1.2⟩
theorem nameB_letters {s : ByteArray} (h : nameB s = true) : s.data.toList.all letter = true := by
  unfold nameB at h
  rw [Bool.and_eq_true] at h
  exact h.2
theorem withinB_ok (n a b : Int) : impl_within.f n a b = some (decide (a ≤ n) && decide (n ≤ b)) := by
  unfold impl_within.f
  by_cases h : n ≥ a
  · rw [if_pos h, decide_eq_true h, Bool.true_and]
  · rw [if_neg h, decide_eq_false h, Bool.false_and]
theorem l1InB_ok (n a b : Int) : spec_l1In.f n a b = some (decide (a ≤ n) && decide (n ≤ b)) := by
  unfold spec_l1In.f
  by_cases h : n ≥ a
  · rw [if_pos h, decide_eq_true h, Bool.true_and]
  · rw [if_neg h, decide_eq_false h, Bool.false_and]
theorem size_b (s : ByteArray) : (decide ((1 : Int) ≤ (s.size : Int)) && decide ((s.size : Int) ≤ 12)) = (decide (1 ≤ s.size) && decide (s.size ≤ 12)) := by
  have e1 : ((1 : Int) ≤ (s.size : Int)) ↔ 1 ≤ s.size := by omega
  have e2 : ((s.size : Int) ≤ 12) ↔ s.size ≤ 12 := by omega
  rw [decide_eq_decide.2 e1, decide_eq_decide.2 e2]

theorem isName_ok (s : ByteArray) : impl_isName.f s = some (nameB s) := by
  unfold impl_isName.f nameB
  rw [withinB_ok, Option.bind_some, size_b]
  cases e : (decide (1 ≤ s.size) && decide (s.size ≤ 12)) with
  | false => rw [if_neg (by decide), Bool.false_and]
  | true =>
    rw [Bool.and_eq_true] at e
    have h1 := of_decide_eq_true e.2
    rw [if_pos rfl, Bool.true_and]
    unfold strings_Trim.f
    rw [if_pos ⟨by omega, of_decide_eq_true (by kernel_rfl), by kernel_rfl⟩, Option.bind_some, Go.Lib.toList_data]
    have e3 : s.data.toList.all (alphabet.contains ·) = s.data.toList.all letter := by
      congr 1
      funext b
      exact alphabet_letter b
    rw [← e3, ← trim_nil]
    rfl

theorem bt_get {s : ByteArray} {i : Nat} (h : i < s.size) : bt s (i : Int) = ((s.data.toList[i]'(by rw [← Go.Lib.size_eq]; exact h)).toNat : Int) := by
  rw [← bt_at s (i : Int) (by rw [Int.toNat_natCast]; exact h)]
  simp only [Int.toNat_natCast]
  rfl
theorem drop_get {α : Type} {l : List α} {i : Nat} (h : i < l.length) : l.drop i = l[i] :: l.drop (i + 1) := (List.drop_eq_getElem_cons h)

theorem l1Name_l0 (s : ByteArray) (hs : s.size ≤ 12) : ∀ (d i k : Nat), i + d = s.size → d < k → spec_l1Name.l0 k s (i : Int) = some ((s.data.toList.drop i).all letter) := by
  intro d
  induction d with
  | zero =>
    intro i k hi hk
    obtain ⟨k, rfl⟩ : ∃ m, k = m + 1 := ⟨k - 1, by omega⟩
    rw [spec_l1Name.l0, if_neg (by omega), List.drop_of_length_le (by rw [← Go.Lib.size_eq]; omega)]
    rfl
  | succ d ih =>
    intro i k hi hk
    obtain ⟨k, rfl⟩ : ∃ m, k = m + 1 := ⟨k - 1, by omega⟩
    have hn := ih (i + 1) k (by omega) (by omega)
    have hlt : i < s.data.toList.length := by rw [← Go.Lib.size_eq]; omega
    rw [spec_l1Name.l0, if_pos (by omega), if_pos (by omega), bt_get (by omega), show wrap64 ((i : Int) + 1) = ((i + 1 : Nat) : Int) from by rw [w64 (by omega) (by omega)]; omega, hn, drop_get hlt, List.all_cons]
    generalize s.data.toList[i] = b
    generalize (List.drop (i + 1) s.data.toList).all letter = v
    unfold letter
    by_cases h1 : 97 ≤ b.toNat
    · rw [if_pos (by omega), decide_eq_true h1, Bool.true_and]
      by_cases h2 : b.toNat ≤ 122
      · rw [if_pos (by omega), decide_eq_true h2, Bool.true_or, Bool.true_and]
      · rw [if_neg (by omega), if_pos (by omega), if_neg (by omega), decide_eq_false h2, decide_eq_false (show ¬ b.toNat ≤ 90 by omega), Bool.and_false, Bool.false_or, Bool.false_and]
    · rw [if_neg (by omega), decide_eq_false h1, Bool.false_and, Bool.false_or]
      by_cases h2 : 65 ≤ b.toNat
      · rw [if_pos (by omega), decide_eq_true h2, Bool.true_and]
        by_cases h3 : b.toNat ≤ 90
        · rw [if_pos (by omega), decide_eq_true h3, Bool.true_and]
        · rw [if_neg (by omega), decide_eq_false h3, Bool.false_and]
      · rw [if_neg (by omega), decide_eq_false h2, Bool.false_and, Bool.false_and]

theorem l1Name_ok (s : ByteArray) {k : Nat} (hk : 12 < k) : spec_l1Name.f k s = some (nameB s) := by
  unfold spec_l1Name.f nameB
  rw [l1InB_ok, Option.bind_some, size_b]
  cases e : (decide (1 ≤ s.size) && decide (s.size ≤ 12)) with
  | false => rw [if_neg (by decide), Bool.false_and]
  | true =>
    rw [Bool.and_eq_true] at e
    have h1 := of_decide_eq_true e.2
    rw [if_pos rfl, Bool.true_and]
    have h := l1Name_l0 s h1 s.size 0 k (by omega) (by omega)
    rw [List.drop_zero] at h
    exact h

def aft : Option ByteArray → ByteArray → Bool
  | none, _ => true
  | some q, x => Op.bytesLess q.data.toList x.data.toList
/-- Tags in their order: behind a name, or at the beginning. -/
def tagsB : Option ByteArray → List Tg → Bool
  | _, [] => true
  | p, t :: r => nameB t.f0 && (nameB t.f1 && (aft p t.f0 && tagsB (some t.f0) r))
/-- The tag before a place. -/
def prevT (l : List Tg) (i : Nat) : Option ByteArray := if i = 0 then none else some (rdT l ((i - 1 : Nat) : Int)).f0
theorem rdT_get {l : List Tg} {i : Nat} (h : i < l.length) : rdT l (i : Int) = l[i] := by
  unfold rdT rd_T123
  rw [Int.toNat_natCast, List.getD_eq_getElem?_getD, List.getElem?_eq_getElem h]
  rfl
/-- A good key. -/
def keyB (m : ByteArray) (l : List Tg) (st : Int) : Bool := nameB m && (decide (l.length ≤ 4) && (decide (0 ≤ st) && decide (st ≤ 1000000000)) && tagsB none l)
theorem keyB_parts {m : ByteArray} {l : List Tg} {st : Int} (h : keyB m l st = true) : nameB m = true ∧ l.length ≤ 4 ∧ 0 ≤ st ∧ st ≤ 1000000000 ∧ tagsB none l = true := by
  unfold keyB at h
  simp only [Bool.and_eq_true] at h
  exact ⟨h.1, of_decide_eq_true h.2.1.1, of_decide_eq_true h.2.1.2.1, of_decide_eq_true h.2.1.2.2, h.2.2⟩
theorem tagsB_names : ∀ {l : List Tg} {p : Option ByteArray}, tagsB p l = true → ∀ t ∈ l, nameB t.f0 = true ∧ nameB t.f1 = true
  | [], _, _, t, ht => by simp at ht
  | a :: l, p, h, t, ht => by
    rw [tagsB, Bool.and_eq_true, Bool.and_eq_true, Bool.and_eq_true] at h
    rcases List.mem_cons.1 ht with rfl | ht
    · exact ⟨h.1, h.2.1⟩
    · exact tagsB_names h.2.2.2 t ht

theorem implKey_l0 (l : List Tg) (hl : l.length ≤ 4) (m : ByteArray) (st : Int) : ∀ (d i k : Nat), i + d = l.length → d < k → impl_GoodKey.l0 k l (l.length : Int) (i : Int) m l st = some (tagsB (prevT l i) (l.drop i)) := by
  intro d
  induction d with
  | zero =>
    intro i k hi hk
    obtain ⟨k, rfl⟩ : ∃ q, k = q + 1 := ⟨k - 1, by omega⟩
    rw [impl_GoodKey.l0, if_neg (by omega), List.drop_of_length_le (by omega)]
    rfl
  | succ d ih =>
    intro i k hi hk
    obtain ⟨k, rfl⟩ : ∃ q, k = q + 1 := ⟨k - 1, by omega⟩
    have hn := ih (i + 1) k (by omega) (by omega)
    have hlt : i < l.length := by omega
    have hp : prevT l (i + 1) = some l[i].f0 := by unfold prevT; rw [if_neg (by omega), Nat.add_sub_cancel, rdT_get hlt]
    rw [hp] at hn
    have e0 : rd_T123 l (i : Int) = l[i] := rdT_get hlt
    rw [impl_GoodKey.l0, if_pos (by omega), if_pos (by omega), if_pos (by omega), e0, isName_ok, isName_ok, Option.bind_some, show wrap64 ((i : Int) + 1) = ((i + 1 : Nat) : Int) from by rw [w64 (by omega) (by omega)]; omega, hn, drop_get hlt, tagsB]
    cases e1 : nameB l[i].f0 with
    | false => rw [if_neg (by decide), Bool.false_and]
    | true =>
      rw [if_pos rfl, Option.bind_some, Bool.true_and]
      cases e2 : nameB l[i].f1 with
      | false => rw [if_neg (by decide), Bool.false_and]
      | true =>
        rw [if_pos rfl, Bool.true_and]
        by_cases h0 : i = 0
        · rw [if_neg (by omega)]
          unfold prevT
          rw [if_pos h0, aft, Bool.true_and]
        · have e3 : wrap64 ((i : Int) - 1) = ((i - 1 : Nat) : Int) := by rw [w64 (by omega) (by omega)]; omega
          rw [if_pos (by omega), e3, if_pos (by omega), if_pos (by omega)]
          unfold prevT
          rw [if_neg h0, aft, Go.Lib.toList_data, Go.Lib.toList_data]
          show (if Op.bytesLess (rdT l ((i - 1 : Nat) : Int)).f0.data.toList l[i].f0.data.toList = true then _ else _) = _
          cases Op.bytesLess (rdT l ((i - 1 : Nat) : Int)).f0.data.toList l[i].f0.data.toList with
          | true => rw [if_pos rfl, Bool.true_and]
          | false => rw [if_neg (by decide), Bool.false_and]

theorem implKey_ok (m : ByteArray) (l : List Tg) (st : Int) {k : Nat} (hk : 6 < k) : impl_GoodKey.f k m l st = some (keyB m l st) := by
  obtain ⟨k, rfl⟩ : ∃ q, k = q + 1 := ⟨k - 1, by omega⟩
  unfold impl_GoodKey.f keyB
  rw [isName_ok, Option.bind_some, impl_GoodKey.j0, if_pos rfl]
  cases e1 : nameB m with
  | false => rw [if_neg (by decide), Bool.false_and]
  | true =>
    rw [if_pos rfl, Bool.true_and]
    by_cases h : l.length ≤ 4
    · rw [if_neg (by omega), withinB_ok, Option.bind_some, decide_eq_true h, Bool.true_and, impl_GoodKey.j0]
      have h0 := implKey_l0 l h m st l.length 0 k (by omega) (by omega)
      rw [List.drop_zero] at h0
      cases e2 : (decide (0 ≤ st) && decide (st ≤ 1000000000)) with
      | false => rw [if_pos (show (!false) = true from rfl), Bool.false_and]
      | true => rw [if_neg (show ¬ (!true) = true by decide), Bool.true_and]; exact h0
    · rw [if_pos (by omega), decide_eq_false h, Bool.false_and, Bool.false_and]

theorem specKey_l0 (l : List Tg) (hl : l.length ≤ 4) (m : ByteArray) (st : Int) : ∀ (d i k : Nat), i + d = l.length → d + 14 < k → spec_GoodKey.l0 k l (l.length : Int) (i : Int) m l st = some (tagsB (prevT l i) (l.drop i)) := by
  intro d
  induction d with
  | zero =>
    intro i k hi hk
    obtain ⟨k, rfl⟩ : ∃ q, k = q + 1 := ⟨k - 1, by omega⟩
    rw [spec_GoodKey.l0, if_neg (by omega), List.drop_of_length_le (by omega)]
    rfl
  | succ d ih =>
    intro i k hi hk
    obtain ⟨k, rfl⟩ : ∃ q, k = q + 1 := ⟨k - 1, by omega⟩
    have hn := ih (i + 1) k (by omega) (by omega)
    have hlt : i < l.length := by omega
    have hp : prevT l (i + 1) = some l[i].f0 := by unfold prevT; rw [if_neg (by omega), Nat.add_sub_cancel, rdT_get hlt]
    rw [hp] at hn
    have e0 : rd_T123 l (i : Int) = l[i] := rdT_get hlt
    rw [spec_GoodKey.l0, if_pos (by omega), if_pos (by omega), if_pos (by omega), e0, l1Name_ok _ (by omega), l1Name_ok _ (by omega), Option.bind_some, show wrap64 ((i : Int) + 1) = ((i + 1 : Nat) : Int) from by rw [w64 (by omega) (by omega)]; omega, hn, drop_get hlt, tagsB]
    cases e1 : nameB l[i].f0 with
    | false => rw [if_neg (by decide), Bool.false_and]
    | true =>
      rw [if_pos rfl, Option.bind_some, Bool.true_and]
      cases e2 : nameB l[i].f1 with
      | false => rw [if_neg (by decide), Bool.false_and]
      | true =>
        rw [if_pos rfl, Bool.true_and]
        by_cases h0 : i = 0
        · rw [if_neg (by omega)]
          unfold prevT
          rw [if_pos h0, aft, Bool.true_and]
        · have e3 : wrap64 ((i : Int) - 1) = ((i - 1 : Nat) : Int) := by rw [w64 (by omega) (by omega)]; omega
          rw [if_pos (by omega), e3, if_pos (by omega), if_pos (by omega)]
          unfold prevT
          rw [if_neg h0, aft, Go.Lib.toList_data, Go.Lib.toList_data]
          show (if Op.bytesLess (rdT l ((i - 1 : Nat) : Int)).f0.data.toList l[i].f0.data.toList = true then _ else _) = _
          cases Op.bytesLess (rdT l ((i - 1 : Nat) : Int)).f0.data.toList l[i].f0.data.toList with
          | true => rw [if_pos rfl, Bool.true_and]
          | false => rw [if_neg (by decide), Bool.false_and]

theorem specKey_ok (m : ByteArray) (l : List Tg) (st : Int) {k : Nat} (hk : 20 < k) : spec_GoodKey.f k m l st = some (keyB m l st) := by
  obtain ⟨k, rfl⟩ : ∃ q, k = q + 1 := ⟨k - 1, by omega⟩
  unfold spec_GoodKey.f keyB
  rw [l1Name_ok _ (by omega), Option.bind_some, spec_GoodKey.j0, if_pos rfl]
  cases e1 : nameB m with
  | false => rw [if_neg (by decide), Bool.false_and]
  | true =>
    rw [if_pos rfl, Bool.true_and]
    by_cases h : l.length ≤ 4
    · rw [if_neg (by omega), l1InB_ok, Option.bind_some, decide_eq_true h, Bool.true_and, spec_GoodKey.j0]
      have h0 := specKey_l0 l h m st l.length 0 k (by omega) (by omega)
      rw [List.drop_zero] at h0
      cases e2 : (decide (0 ≤ st) && decide (st ≤ 1000000000)) with
      | false => rw [if_pos (show (!false) = true from rfl), Bool.false_and]
      | true => rw [if_neg (show ¬ (!true) = true by decide), Bool.true_and]; exact h0
    · rw [if_pos (by omega), decide_eq_false h, Bool.false_and, Bool.false_and]

end Go.Proofs.YtkgmoajdcibafaaDoor.Lem

/- The order of texts: words with ends that are less than every letter are in the order of their letters. -/
namespace Go.Proofs.YtkgmoajdcibafaaDoor.Lem
open Go

theorem less_irrefl : ∀ x : List UInt8, Op.bytesLess x x = false
  | [] => rfl
  | a :: x => by
    rw [Op.bytesLess, less_irrefl x, Bool.and_false, Bool.or_false]
    exact decide_eq_false (by rw [UInt8.lt_iff_toNat_lt]; omega)

theorem less_cons (a b : UInt8) (x y : List UInt8) : Op.bytesLess (a :: x) (b :: y) = if a = b then Op.bytesLess x y else decide (a < b) := by
  rw [Op.bytesLess]
  by_cases h : a = b
  · subst h
    rw [if_pos rfl, beq_self_eq_true, Bool.true_and, decide_eq_false (by rw [UInt8.lt_iff_toNat_lt]; omega), Bool.false_or]
  · rw [if_neg h, beq_eq_false_iff_ne.2 h, Bool.false_and, Bool.or_false]

/-- The order of two texts as a number. -/
def ord (x y : List UInt8) : Int := if Op.bytesLess x y = true then -1 else if Op.bytesLess y x = true then 1 else 0
theorem ord_self (x : List UInt8) : ord x x = 0 := by
  unfold ord
  rw [less_irrefl, if_neg (by decide), if_neg (by decide)]
theorem ord_cons (a b : UInt8) (x y : List UInt8) : ord (a :: x) (b :: y) = if a = b then ord x y else if a < b then -1 else 1 := by
  unfold ord
  rw [less_cons, less_cons]
  by_cases h : a = b
  · subst h
    rw [if_pos rfl, if_pos rfl, if_pos rfl]
  · rw [if_neg h, if_neg (Ne.symm h), if_neg h]
    have hn : a.toNat ≠ b.toNat := fun e => h (UInt8.toNat_inj.1 e)
    by_cases hl : a < b
    · rw [if_pos (decide_eq_true hl), if_pos hl]
    · rw [if_neg (by simpa using hl), if_neg hl]
      rw [UInt8.lt_iff_toNat_lt] at hl
      rw [if_pos (decide_eq_true (by rw [UInt8.lt_iff_toNat_lt]; omega))]
theorem ord_nil_cons (b : UInt8) (y : List UInt8) : ord [] (b :: y) = -1 := rfl
theorem ord_cons_nil (b : UInt8) (y : List UInt8) : ord (b :: y) [] = 1 := rfl

/-- Words whose ends are less than each letter. -/
theorem ord_ends : ∀ (a b : List UInt8) (c d : UInt8) (x y : List UInt8), (∀ h ∈ a, d < h) → (∀ h ∈ b, c < h) →
    ord (a ++ c :: x) (b ++ d :: y) = if a = b then ord (c :: x) (d :: y) else ord a b
  | [], [], c, d, x, y, _, _ => by rw [if_pos rfl]; rfl
  | [], g :: b, c, d, x, y, _, hb => by
    have h1 : c < g := hb g (List.mem_cons_self ..)
    have hne : c ≠ g := fun e => by subst e; rw [UInt8.lt_iff_toNat_lt] at h1; omega
    rw [if_neg (by simp), ord_nil_cons, List.nil_append, List.cons_append, ord_cons, if_neg hne, if_pos h1]
  | h :: a, [], c, d, x, y, ha, _ => by
    have h1 : d < h := ha h (List.mem_cons_self ..)
    have h2 : ¬ h < d := by rw [UInt8.lt_iff_toNat_lt] at h1 ⊢; omega
    have hne : h ≠ d := fun e => by subst e; exact h2 h1
    rw [if_neg (by simp), ord_cons_nil, List.nil_append, List.cons_append, ord_cons, if_neg hne, if_neg h2]
  | h :: a, g :: b, c, d, x, y, ha, hb => by
    have ih := ord_ends a b c d x y (fun q hq => ha q (List.mem_cons_of_mem _ hq)) (fun q hq => hb q (List.mem_cons_of_mem _ hq))
    rw [List.cons_append, List.cons_append, ord_cons h g (a ++ c :: x) (b ++ d :: y), ord_cons h g a b, ih]
    by_cases e : h = g
    · subst e
      rw [if_pos rfl, if_pos rfl]
      by_cases e2 : a = b
      · rw [if_pos e2, if_pos (by rw [e2])]
      · rw [if_neg e2, if_neg (by simpa using e2)]
    · rw [if_neg e, if_neg e, if_neg (show ¬ (h :: a = g :: b) from fun q => e (by injection q))]

theorem ord_eq_zero : ∀ {a b : List UInt8}, ord a b = 0 → a = b
  | [], [], _ => rfl
  | [], g :: b, h => by rw [ord_nil_cons] at h; exact absurd h (by decide)
  | x :: a, [], h => by rw [ord_cons_nil] at h; exact absurd h (by decide)
  | x :: a, g :: b, h => by
    rw [ord_cons] at h
    by_cases e : x = g
    · subst e
      rw [if_pos rfl] at h
      rw [ord_eq_zero h]
    · rw [if_neg e] at h
      split at h <;> exact absurd h (by decide)
end Go.Proofs.YtkgmoajdcibafaaDoor.Lem

/- Two good keys compared: the program's CompareKeys and the specification's comparison give one number. -/
namespace Go.Proofs.YtkgmoajdcibafaaDoor.Lem
open Go Go.RowKit Go.Proofs.YtkgmoajdcibafaaDoor.P Go.Proofs.YtkgmoajdcibafaaDoorW.PrintWords Go.Proofs.YtkgmoajdcibafaaDoorW.PrintLast Go.Proofs.YtkgmoajdcibafaaDoorW.PrintMore

def ordB (a b : ByteArray) : Int := ord a.data.toList b.data.toList
/-- Tags in line. -/
def ordT : List Tg → List Tg → Int
  | [], [] => 0
  | [], _ :: _ => -1
  | _ :: _, [] => 1
  | a :: x, b :: y => if ordB a.f0 b.f0 = 0 then (if ordB a.f1 b.f1 = 0 then ordT x y else ordB a.f1 b.f1) else ordB a.f0 b.f0
def sgnI (a b : Int) : Int := if a < b then -1 else if a > b then 1 else 0
def keyOrd (m : ByteArray) (l : List Tg) (s : Int) (m' : ByteArray) (l' : List Tg) (s' : Int) : Int :=
  if ordB m m' = 0 then (if ordT l l' = 0 then sgnI s s' else ordT l l') else ordB m m'

theorem l1Text_ok (a b : ByteArray) : spec_l1Text.f a b = some (ordB a b) := by
  unfold spec_l1Text.f ordB ord
  rw [Go.Lib.toList_data, Go.Lib.toList_data]
  split
  · rfl
  · split <;> rfl
theorem cmpS_ok (a b : ByteArray) : cmp_Compare_string.f a b = some (ordB a b) := by
  unfold cmp_Compare_string.f cmp_isNaN_string.f
  rw [bne_self_eq_false, bne_self_eq_false, Option.bind_some, Option.bind_some, if_neg (by decide), if_neg (by decide)]
  unfold ordB ord
  rw [Go.Lib.toList_data, Go.Lib.toList_data]
  split
  · rfl
  · split <;> rfl
theorem cmpI_ok (a b : Int) : cmp_Compare_int.f a b = some (sgnI a b) := by
  unfold cmp_Compare_int.f cmp_isNaN_int.f
  rw [bne_self_eq_false, bne_self_eq_false, Option.bind_some, Option.bind_some, if_neg (by decide), if_neg (by decide)]
  unfold sgnI
  split
  · rfl
  · split <;> rfl
theorem or2_ok (x y : Int) (k : Nat) : cmp_Or_int.f (k + 3) [x, y] = some (if x = 0 then y else x) := by
  unfold cmp_Or_int.f
  show cmp_Or_int.l0 (k + 3) 0 [x, y] 2 0 = _
  rw [cmp_Or_int.l0, if_pos (by decide), if_pos (by decide), if_pos (show (0 : Int) < ([x, y].length : Int) from (by decide : (0 : Int) < ((2 : Nat) : Int))), show rd [x, y] 0 = x from rfl]
  by_cases h : x = 0
  · rw [if_pos h, if_pos h, show wrap64 (0 + 1) = 1 from w64 (by decide) (by decide), cmp_Or_int.l0, if_pos (by decide), if_pos (by decide), if_pos (show (1 : Int) < ([x, y].length : Int) from (by decide : (1 : Int) < ((2 : Nat) : Int))), show rd [x, y] 1 = y from rfl]
    by_cases h2 : y = 0
    · rw [if_pos h2, show wrap64 (1 + 1) = 2 from w64 (by decide) (by decide), cmp_Or_int.l0, if_neg (by decide), h2]
    · rw [if_neg h2]
  · rw [if_neg h, if_neg h]
theorem or3_ok (x y z : Int) (k : Nat) : cmp_Or_int.f (k + 4) [x, y, z] = some (if x = 0 then (if y = 0 then z else y) else x) := by
  unfold cmp_Or_int.f
  show cmp_Or_int.l0 (k + 4) 0 [x, y, z] 3 0 = _
  rw [cmp_Or_int.l0, if_pos (by decide), if_pos (by decide), if_pos (show (0 : Int) < ([x, y, z].length : Int) from (by decide : (0 : Int) < ((3 : Nat) : Int))), show rd [x, y, z] 0 = x from rfl]
  by_cases h : x = 0
  · rw [if_pos h, if_pos h, show wrap64 (0 + 1) = 1 from w64 (by decide) (by decide), cmp_Or_int.l0, if_pos (by decide), if_pos (by decide), if_pos (show (1 : Int) < ([x, y, z].length : Int) from (by decide : (1 : Int) < ((3 : Nat) : Int))), show rd [x, y, z] 1 = y from rfl]
    by_cases h2 : y = 0
    · rw [if_pos h2, if_pos h2, show wrap64 (1 + 1) = 2 from w64 (by decide) (by decide), cmp_Or_int.l0, if_pos (by decide), if_pos (by decide), if_pos (show (2 : Int) < ([x, y, z].length : Int) from (by decide : (2 : Int) < ((3 : Nat) : Int))), show rd [x, y, z] 2 = z from rfl]
      by_cases h3 : z = 0
      · rw [if_pos h3, show wrap64 (2 + 1) = 3 from w64 (by decide) (by decide), cmp_Or_int.l0, if_neg (by decide), h3]
      · rw [if_neg h3]
    · rw [if_neg h2, if_neg h2]
  · rw [if_neg h, if_neg h]
theorem cmpTag_ok (a b : Tg) {k : Nat} (hk : 3 < k) : impl_CompareKeys_1.f k a.f0 a.f1 b.f0 b.f1 = some (if ordB a.f0 b.f0 = 0 then ordB a.f1 b.f1 else ordB a.f0 b.f0) := by
  obtain ⟨k, rfl⟩ : ∃ q, k = q + 3 := ⟨k - 3, by omega⟩
  unfold impl_CompareKeys_1.f
  rw [cmpS_ok, cmpS_ok, Option.bind_some, Option.bind_some, or2_ok, Option.bind_some]

theorem implTags_l0 (l l' : List Tg) (hl : l.length ≤ 4) : ∀ (d i k : Nat), i + d = l.length → i ≤ l'.length → d + 6 < k →
    impl_Tag_with_impl_CompareKeys_1.l0 k l l' l (l.length : Int) (i : Int) = some (ordT (l.drop i) (l'.drop i)) := by
  intro d
  induction d with
  | zero =>
    intro i k hi hi' hk
    obtain ⟨k, rfl⟩ : ∃ q, k = q + 1 := ⟨k - 1, by omega⟩
    rw [impl_Tag_with_impl_CompareKeys_1.l0, if_neg (by omega), List.drop_of_length_le (show l.length ≤ i by omega)]
    by_cases h : l.length < l'.length
    · rw [if_pos (by omega), drop_get (show i < l'.length by omega)]
      rfl
    · rw [if_neg (by omega), List.drop_of_length_le (show l'.length ≤ i by omega)]
      rfl
  | succ d ih =>
    intro i k hi hi' hk
    obtain ⟨k, rfl⟩ : ∃ q, k = q + 1 := ⟨k - 1, by omega⟩
    have hlt : i < l.length := by omega
    have e0 : rd_T123 l (i : Int) = l[i] := rdT_get hlt
    rw [impl_Tag_with_impl_CompareKeys_1.l0, if_pos (by omega), if_pos (by omega), if_pos (by omega), drop_get hlt]
    by_cases h : i < l'.length
    · have e1 : rd_T123 l' (i : Int) = l'[i] := rdT_get h
      have hnext := ih (i + 1) k (by omega) (by omega) (by omega)
      rw [if_neg (by omega), if_pos (by omega), e0, e1, cmpTag_ok _ _ (by omega), Option.bind_some, drop_get h, ordT, show wrap64 ((i : Int) + 1) = ((i + 1 : Nat) : Int) from by rw [w64 (by omega) (by omega)]; omega, hnext]
      by_cases h1 : ordB l[i].f0 l'[i].f0 = 0
      · rw [if_pos h1, if_pos h1]
        by_cases h2 : ordB l[i].f1 l'[i].f1 = 0
        · rw [if_pos h2, if_pos h2]
        · rw [if_neg h2, if_neg h2]
      · rw [if_neg h1, if_neg h1, if_neg h1]
    · rw [if_pos (by omega), List.drop_of_length_le (show l'.length ≤ i by omega)]
      rfl
theorem implTags_ok (l l' : List Tg) (hl : l.length ≤ 4) {k : Nat} (hk : 12 < k) : impl_Tag_with_impl_CompareKeys_1.f k l l' = some (ordT l l') := by
  unfold impl_Tag_with_impl_CompareKeys_1.f
  have h := implTags_l0 l l' hl l.length 0 k (by omega) (by omega) (by omega)
  rw [List.drop_zero, List.drop_zero] at h
  exact h
theorem implCompare_ok {m m' : ByteArray} {l l' : List Tg} {s s' : Int} (h : keyB m l s = true) (h' : keyB m' l' s' = true) {k : Nat} (hk : 20 < k) : impl_CompareKeys.f k m l s m' l' s' = some (keyOrd m l s m' l' s') := by
  obtain ⟨k, rfl⟩ : ∃ q, k = q + 5 := ⟨k - 5, by omega⟩
  obtain ⟨_, hl, _⟩ := keyB_parts h
  unfold impl_CompareKeys.f
  rw [implKey_ok _ _ _ (by omega), implKey_ok _ _ _ (by omega), h, h', Option.bind_some, if_pos rfl, Option.bind_some, impl_CompareKeys.j0, if_neg (by decide), implTags_ok l l' hl (by omega), cmpS_ok, cmpI_ok, Option.bind_some, Option.bind_some, Option.bind_some, or3_ok, Option.bind_some]
  rfl

theorem specCmp_j2 (x : Int) (k : Nat) : spec_l1Compare.j2 (k + 1) x = some (sgnI x 0) := by
  rw [spec_l1Compare.j2]
  unfold sgnI
  split
  · rfl
  · split <;> rfl
theorem specCmp_l0 (m m' : ByteArray) (l l' : List Tg) (hl : l.length ≤ 4) (hl' : l'.length ≤ 4) {s s' : Int} (h0 : 0 ≤ s ∧ s ≤ 1000000000) (h1 : 0 ≤ s' ∧ s' ≤ 1000000000) : ∀ (d i k : Nat), i + d = l.length → i ≤ l'.length → 2 * d + 6 < k →
    spec_l1Compare.l0 k (i : Int) m l s m' l' s' = some (if ordT (l.drop i) (l'.drop i) = 0 then sgnI s s' else ordT (l.drop i) (l'.drop i)) := by
  have hend : ∀ (i k : Nat), (i = l.length ∨ i = l'.length) → i ≤ l.length → i ≤ l'.length → spec_l1Compare.j1 (k + 2) (i : Int) false m l s m' l' s' = some (if ordT (l.drop i) (l'.drop i) = 0 then sgnI s s' else ordT (l.drop i) (l'.drop i)) := by
    intro i k hi h2 h3
    rw [spec_l1Compare.j1, if_neg (by decide), show wrap64 ((l.length : Int) - (l'.length : Int)) = (l.length : Int) - (l'.length : Int) from w64 (by omega) (by omega)]
    by_cases e : l.length = l'.length
    · rw [if_pos (by omega), show wrap64 (s - s') = s - s' from w64 (by omega) (by omega), specCmp_j2, List.drop_of_length_le (show l.length ≤ i by omega), List.drop_of_length_le (show l'.length ≤ i by omega)]
      show _ = some (if (0 : Int) = 0 then sgnI s s' else 0)
      rw [if_pos rfl]
      unfold sgnI
      by_cases q : s < s'
      · rw [if_pos (by omega), if_pos q]
      · rw [if_neg (by omega), if_neg q]
        by_cases q2 : s > s'
        · rw [if_pos (by omega), if_pos q2]
        · rw [if_neg (by omega), if_neg q2]
    · rw [if_neg (by omega), specCmp_j2]
      rcases Nat.lt_or_ge l.length l'.length with q | q
      · rw [List.drop_of_length_le (show l.length ≤ i by omega), drop_get (show i < l'.length by omega)]
        show some (sgnI _ 0) = some (if (-1 : Int) = 0 then sgnI s s' else -1)
        rw [if_neg (by decide)]
        unfold sgnI
        rw [if_pos (by omega)]
      · rw [List.drop_of_length_le (show l'.length ≤ i by omega), drop_get (show i < l.length by omega)]
        show some (sgnI _ 0) = some (if (1 : Int) = 0 then sgnI s s' else 1)
        rw [if_neg (by decide)]
        unfold sgnI
        rw [if_neg (by omega), if_pos (by omega)]
  intro d
  induction d with
  | zero =>
    intro i k hi hi' hk
    obtain ⟨k, rfl⟩ : ∃ q, k = q + 3 := ⟨k - 3, by omega⟩
    rw [spec_l1Compare.l0, if_neg (by omega)]
    exact hend i k (by omega) (by omega) hi'
  | succ d ih =>
    intro i k hi hi' hk
    obtain ⟨k, rfl⟩ : ∃ q, k = q + 3 := ⟨k - 3, by omega⟩
    have hlt : i < l.length := by omega
    have e0 : rd_T123 l (i : Int) = l[i] := rdT_get hlt
    rw [spec_l1Compare.l0, if_pos (by omega)]
    by_cases h : i < l'.length
    · have e1 : rd_T123 l' (i : Int) = l'[i] := rdT_get h
      have hnext := ih (i + 1) (k + 1) (by omega) (by omega) (by omega)
      rw [decide_eq_true (by omega), spec_l1Compare.j1, if_pos rfl, if_pos (by omega), if_pos (by omega), if_pos (by omega), e0, e1, l1Text_ok, l1Text_ok, Option.bind_some, Option.bind_some, drop_get hlt, drop_get h, ordT, show wrap64 ((i : Int) + 1) = ((i + 1 : Nat) : Int) from by rw [w64 (by omega) (by omega)]; omega, hnext]
      by_cases q1 : ordB l[i].f0 l'[i].f0 = 0
      · rw [if_pos q1, if_pos q1]
        by_cases q2 : ordB l[i].f1 l'[i].f1 = 0
        · rw [if_pos q2, if_pos q2]
        · rw [if_neg q2, if_neg q2, if_neg q2]
      · rw [if_neg q1, if_neg q1, if_neg q1]
    · rw [decide_eq_false (by omega)]
      exact hend i k (.inr (by omega)) (by omega) hi'
theorem specCompare_ok {m m' : ByteArray} {l l' : List Tg} {s s' : Int} (h : keyB m l s = true) (h' : keyB m' l' s' = true) {k : Nat} (hk : 20 < k) : spec_l1Compare.f k m l s m' l' s' = some (keyOrd m l s m' l' s') := by
  obtain ⟨_, hl, h0, h1, _⟩ := keyB_parts h
  obtain ⟨_, hl', h0', h1', _⟩ := keyB_parts h'
  unfold spec_l1Compare.f keyOrd
  rw [l1Text_ok, Option.bind_some]
  by_cases q : ordB m m' = 0
  · have e := specCmp_l0 m m' l l' hl hl' ⟨h0, h1⟩ ⟨h0', h1'⟩ l.length 0 k (by omega) (by omega) (by omega)
    rw [List.drop_zero, List.drop_zero] at e
    rw [if_pos q, if_pos q]
    exact e
  · rw [if_neg q, if_neg q]
end Go.Proofs.YtkgmoajdcibafaaDoor.Lem

/- Two computations that answer, and alike. No conditions. -/
namespace Go.Proofs.YtkgmoajdcibafaaDoor.Lem
open Go Go.RowKit Go.Proofs.YtkgmoajdcibafaaDoor.P
/-- Both answer, and alike. -/
def Both {α : Type} (a b : Option α) : Prop := ∃ r, a = some r ∧ b = some r
section
variable {α β γ : Type} {a a' b b' : Option α}
theorem Both.of (r : α) (ha : a = some r) (hb : b = some r) : Both a b := ⟨r, ha, hb⟩
theorem Both.ite {c : Prop} [Decidable c] (h1 : c → Both a a') (h2 : ¬ c → Both b b') : Both (if c then a else b) (if c then a' else b') := by
  by_cases h : c
  · rw [if_pos h, if_pos h]
    exact h1 h
  · rw [if_neg h, if_neg h]
    exact h2 h
theorem Both.yes {c : Prop} [Decidable c] (h : c) (h1 : Both a a') : Both (if c then a else b) (if c then a' else b') := Both.ite (fun _ => h1) (fun q => absurd h q)
theorem Both.no {c : Prop} [Decidable c] (h : ¬ c) (h1 : Both b b') : Both (if c then a else b) (if c then a' else b') := Both.ite (fun q => absurd q h) (fun _ => h1)
theorem Both.bind {f : Option β} {f' : Option γ} {g : β → Option α} {g' : γ → Option α} {x : β} {x' : γ} (hf : f = some x) (hf' : f' = some x') (h : Both (g x) (g' x')) : Both (f.bind g) (f'.bind g') := by
  rw [hf, hf', Option.bind_some, Option.bind_some]
  exact h
theorem Both.bind_l {f : Option β} {g : β → Option α} {x : β} (hf : f = some x) (h : Both (g x) a') : Both (f.bind g) a' := by
  rw [hf, Option.bind_some]
  exact h
theorem Both.bind_r {f : Option β} {g : β → Option α} {x : β} (hf : f = some x) (h : Both a (g x)) : Both a (f.bind g) := by
  rw [hf, Option.bind_some]
  exact h
theorem Both.yes_l {c : Prop} [Decidable c] (h : c) (h1 : Both a a') : Both (if c then a else b) a' := by rw [if_pos h]; exact h1
theorem Both.no_l {c : Prop} [Decidable c] (h : ¬ c) (h1 : Both b a') : Both (if c then a else b) a' := by rw [if_neg h]; exact h1
theorem Both.yes_r {c : Prop} [Decidable c] (h : c) (h1 : Both a' a) : Both a' (if c then a else b) := by rw [if_pos h]; exact h1
theorem Both.no_r {c : Prop} [Decidable c] (h : ¬ c) (h1 : Both a' b) : Both a' (if c then a else b) := by rw [if_neg h]; exact h1
end
end Go.Proofs.YtkgmoajdcibafaaDoor.Lem

/- Aggs: when one is good, and how two are joined; joining is the same in any order and any brackets. No program in sight. -/
namespace Go.Proofs.YtkgmoajdcibafaaDoor.Lem
open Go.RowKit Go.Proofs.YtkgmoajdcibafaaDoorW.PrintWords Go.Proofs.YtkgmoajdcibafaaDoorW.PrintLast Go.Proofs.YtkgmoajdcibafaaDoorW.PrintMore

/-- An agg. -/
structure Ag where
  c : Int
  s : Int
  mi : Int
  ma : Int
  h : List Int
  f : Bool

/-- A number, capped. -/
def cap (x : Int) : Int := if x > 1000000000 then 1000000000 else x
theorem cap_le (x : Int) : cap x ≤ 1000000000 := by unfold cap; split <;> omega
theorem cap_of {x : Int} (h : x ≤ 1000000000) : cap x = x := by unfold cap; rw [if_neg (by omega)]
theorem cap_nonneg {x : Int} (h : 0 ≤ x) : 0 ≤ cap x := by unfold cap; split <;> omega
theorem cap_cap (x y : Int) (h0 : 0 ≤ y) : cap (cap x + y) = cap (x + y) := by unfold cap; split <;> split <;> omega
theorem cap_cap' (x y : Int) (h0 : 0 ≤ x) : cap (x + cap y) = cap (x + y) := by unfold cap; split <;> split <;> omega
theorem cap_over (x y : Int) (h0 : 0 ≤ y) : (decide (x > 1000000000) || decide (cap x + y > 1000000000)) = decide (x + y > 1000000000) := by
  unfold cap
  by_cases h : x > 1000000000
  · rw [decide_eq_true h, Bool.true_or, decide_eq_true (by omega)]
  · rw [decide_eq_false h, Bool.false_or, if_neg h]
theorem cap_over' (x y : Int) (h0 : 0 ≤ x) : (decide (y > 1000000000) || decide (x + cap y > 1000000000)) = decide (x + y > 1000000000) := by
  rw [Int.add_comm x (cap y), Int.add_comm x y]
  exact cap_over y x h0

/-- Two lists' sums, capped; whether one is over. -/
def addH : List Int → List Int → List Int
  | x :: xs, y :: ys => cap (x + y) :: addH xs ys
  | _, _ => []
def overH : List Int → List Int → Bool
  | x :: xs, y :: ys => decide (x + y > 1000000000) || overH xs ys
  | _, _ => false

/-- Numbers of a histogram. -/
def Nums (l : List Int) : Prop := ∀ x ∈ l, 0 ≤ x ∧ x ≤ 1000000000
theorem Nums.tail {x : Int} {l : List Int} (h : Nums (x :: l)) : Nums l := fun y hy => h y (List.mem_cons_of_mem _ hy)
theorem Nums.head {x : Int} {l : List Int} (h : Nums (x :: l)) : 0 ≤ x ∧ x ≤ 1000000000 := h x (List.mem_cons_self ..)
theorem Nums.cons {x : Int} {l : List Int} (h0 : 0 ≤ x) (h1 : x ≤ 1000000000) (h : Nums l) : Nums (x :: l) := by
  intro y hy
  rcases List.mem_cons.1 hy with rfl | h'
  · exact ⟨h0, h1⟩
  · exact h y h'

theorem addH_comm : ∀ a b, addH a b = addH b a
  | [], [] => rfl
  | [], _ :: _ => rfl
  | _ :: _, [] => rfl
  | x :: xs, y :: ys => by simp only [addH]; rw [addH_comm xs ys, Int.add_comm]
theorem overH_comm : ∀ a b, overH a b = overH b a
  | [], [] => rfl
  | [], _ :: _ => rfl
  | _ :: _, [] => rfl
  | x :: xs, y :: ys => by simp only [overH]; rw [overH_comm xs ys, Int.add_comm]
theorem addH_length : ∀ {a b : List Int}, a.length = b.length → (addH a b).length = a.length
  | [], [], _ => rfl
  | [], _ :: _, h => by simp at h
  | _ :: _, [], h => by simp at h
  | x :: xs, y :: ys, h => by simp only [addH, List.length_cons]; rw [addH_length (by simpa using h)]
theorem addH_nums : ∀ {a b : List Int}, Nums a → Nums b → Nums (addH a b)
  | [], _, _, _ => fun _ h => by simp [addH] at h
  | _ :: _, [], _, _ => fun _ h => by simp [addH] at h
  | x :: xs, y :: ys, ha, hb => Nums.cons (cap_nonneg (by have := ha.head; have := hb.head; omega)) (cap_le _) (addH_nums ha.tail hb.tail)
theorem addH_assoc : ∀ {a b c : List Int}, Nums a → Nums b → Nums c → addH (addH a b) c = addH a (addH b c)
  | [], _, _, _, _, _ => by simp [addH]
  | _ :: _, [], _, _, _, _ => by simp [addH]
  | _ :: _, _ :: _, [], _, _, _ => by simp [addH]
  | x :: xs, y :: ys, z :: zs, ha, hb, hc => by
    have := ha.head; have := hb.head; have := hc.head
    simp only [addH]
    rw [addH_assoc ha.tail hb.tail hc.tail, cap_cap _ _ (by omega), cap_cap' _ _ (by omega), Int.add_assoc]
theorem overH_assoc : ∀ {a b c : List Int}, a.length = b.length → b.length = c.length → Nums a → Nums b → Nums c → (overH a b || overH (addH a b) c) = (overH b c || overH a (addH b c))
  | [], [], [], _, _, _, _, _ => by simp [addH, overH]
  | [], _ :: _, _, h, _, _, _, _ => by simp at h
  | _ :: _, [], _, h, _, _, _, _ => by simp at h
  | _, [], _ :: _, _, h, _, _, _ => by simp at h
  | _, _ :: _, [], _, h, _, _, _ => by simp at h
  | x :: xs, y :: ys, z :: zs, h1, h2, ha, hb, hc => by
    have := ha.head; have := hb.head; have := hc.head
    simp only [addH, overH]
    have ih := overH_assoc (by simpa using h1) (by simpa using h2) ha.tail hb.tail hc.tail
    have e1 := cap_over (x + y) z (by omega)
    have e2 := cap_over' x (y + z) (by omega)
    rw [← Int.add_assoc] at e2
    generalize decide (x + y > 1000000000) = p at *
    generalize decide (cap (x + y) + z > 1000000000) = q at *
    generalize decide (y + z > 1000000000) = r at *
    generalize decide (x + cap (y + z) > 1000000000) = t at *
    generalize overH xs ys = u at *
    generalize overH (addH xs ys) zs = v at *
    generalize overH ys zs = m at *
    generalize overH xs (addH ys zs) = n at *
    rw [← e2] at e1
    revert e1 ih
    cases p <;> cases q <;> cases r <;> cases t <;> cases u <;> cases v <;> cases m <;> cases n <;> decide
theorem addH_zero : ∀ {a b : List Int}, a.length = b.length → (∀ x ∈ a, x = 0) → Nums b → addH a b = b ∧ overH a b = false
  | [], [], _, _, _ => ⟨rfl, rfl⟩
  | [], _ :: _, h, _, _ => by simp at h
  | _ :: _, [], h, _, _ => by simp at h
  | x :: xs, y :: ys, h, h0, hb => by
    have hx : x = 0 := h0 x (List.mem_cons_self ..)
    have := hb.head
    obtain ⟨i1, i2⟩ := addH_zero (by simpa using h) (fun z hz => h0 z (List.mem_cons_of_mem _ hz)) hb.tail
    simp only [addH, overH]
    rw [i1, i2, hx, Int.zero_add, cap_of (by omega), decide_eq_false (by omega)]
    exact ⟨rfl, rfl⟩
theorem sum_addH : ∀ {a b : List Int}, a.length = b.length → overH a b = false → (addH a b).sum = a.sum + b.sum
  | [], [], _, _ => by simp [addH]
  | [], _ :: _, h, _ => by simp at h
  | _ :: _, [], h, _ => by simp at h
  | x :: xs, y :: ys, h, ho => by
    simp only [overH, Bool.or_eq_false_iff, decide_eq_false_iff_not] at ho
    have ih := sum_addH (a := xs) (b := ys) (by simpa using h) ho.2
    simp only [addH, List.sum_cons]
    rw [ih, cap_of (by omega)]
    omega
theorem Nums.sum_bound : ∀ {a : List Int}, Nums a → 0 ≤ a.sum ∧ a.sum ≤ 1000000000 * (a.length : Int)
  | [], _ => by simp
  | x :: xs, h => by
    have := h.head
    have ih := Nums.sum_bound h.tail
    simp only [List.sum_cons, List.length_cons]
    omega
theorem Nums.sum_zero : ∀ {a : List Int}, Nums a → a.sum = 0 → ∀ x ∈ a, x = 0
  | [], _, _ => by simp
  | x :: xs, h, hs => by
    have := h.head
    have ih := Nums.sum_bound h.tail
    simp only [List.sum_cons] at hs
    intro y hy
    rcases List.mem_cons.1 hy with rfl | h'
    · omega
    · exact Nums.sum_zero h.tail (by omega) y h'

/-- When an agg is good. -/
structure Good (a : Ag) : Prop where
  c0 : 0 ≤ a.c
  c1 : a.c ≤ 1000000000
  len : a.h.length = 8
  nums : Nums a.h
  full : a.f = true → a.s = 0
  notfull : a.f = false → a.h.sum = a.c ∧ -1000000000 * a.c ≤ a.s ∧ a.s ≤ 1000000000 * a.c
  zero : a.c = 0 → a.mi = 0 ∧ a.ma = 0 ∧ a.h.sum = 0 ∧ a.f = false
  some : a.c ≠ 0 → -1000000000 ≤ a.mi ∧ a.mi ≤ a.ma ∧ a.ma ≤ 1000000000

/-- Two aggs in one. -/
def join (a b : Ag) : Ag :=
  let f := a.f || b.f || decide (a.c + b.c > 1000000000) || overH a.h b.h
  { c := cap (a.c + b.c), s := if f then 0 else a.s + b.s,
    mi := if a.c = 0 then b.mi else if b.c = 0 then a.mi else mn a.mi b.mi,
    ma := if a.c = 0 then b.ma else if b.c = 0 then a.ma else mx a.ma b.ma,
    h := addH a.h b.h, f := f }

theorem Ag.ext' {a b : Ag} (h1 : a.c = b.c) (h2 : a.s = b.s) (h3 : a.mi = b.mi) (h4 : a.ma = b.ma) (h5 : a.h = b.h) (h6 : a.f = b.f) : a = b := by
  cases a; cases b; simp_all
theorem mn_comm (a b : Int) : mn a b = mn b a := by unfold mn; split <;> split <;> omega
theorem mx_comm (a b : Int) : mx a b = mx b a := by unfold mx; split <;> split <;> omega

theorem mn_assoc (a b c : Int) : mn (mn a b) c = mn a (mn b c) := by unfold mn; (repeat' split) <;> omega
theorem mx_assoc (a b c : Int) : mx (mx a b) c = mx a (mx b c) := by unfold mx; (repeat' split) <;> omega

theorem join_comm {a b : Ag} (ha : Good a) (hb : Good b) : join a b = join b a := by
  have hf : (a.f || b.f || decide (a.c + b.c > 1000000000) || overH a.h b.h) = (b.f || a.f || decide (b.c + a.c > 1000000000) || overH b.h a.h) := by
    rw [overH_comm, Int.add_comm, Bool.or_comm a.f b.f]
  unfold join
  apply Ag.ext'
  · show cap (a.c + b.c) = cap (b.c + a.c)
    rw [Int.add_comm]
  · simp only [hf, Int.add_comm]
  · simp only
    by_cases h1 : a.c = 0
    · by_cases h2 : b.c = 0
      · rw [if_pos h1, if_pos h2, (ha.zero h1).1, (hb.zero h2).1]
      · rw [if_pos h1, if_neg h2, if_pos h1]
    · by_cases h2 : b.c = 0
      · rw [if_neg h1, if_pos h2, if_pos h2]
      · rw [if_neg h1, if_neg h2, if_neg h2, if_neg h1, mn_comm]
  · simp only
    by_cases h1 : a.c = 0
    · by_cases h2 : b.c = 0
      · rw [if_pos h1, if_pos h2, (ha.zero h1).2.1, (hb.zero h2).2.1]
      · rw [if_pos h1, if_neg h2, if_pos h1]
    · by_cases h2 : b.c = 0
      · rw [if_neg h1, if_pos h2, if_pos h2]
      · rw [if_neg h1, if_neg h2, if_neg h2, if_neg h1, mx_comm]
  · exact addH_comm _ _
  · exact hf

theorem join_zero {a b : Ag} (ha : Good a) (hb : Good b) (h : a.c = 0) : join a b = b := by
  obtain ⟨_, _, z3, z4⟩ := ha.zero h
  obtain ⟨e1, e2⟩ := addH_zero (a := a.h) (b := b.h) (by rw [ha.len, hb.len]) (ha.nums.sum_zero z3) hb.nums
  have hc := hb.c1
  have hs : a.s = 0 := by
    have := ha.notfull z4
    rw [h] at this
    omega
  have hf : (a.f || b.f || decide (a.c + b.c > 1000000000) || overH a.h b.h) = b.f := by
    rw [z4, e2, h, Int.zero_add, decide_eq_false (by omega), Bool.false_or, Bool.or_false, Bool.or_false]
  unfold join
  apply Ag.ext'
  · show cap (a.c + b.c) = b.c
    rw [h, Int.zero_add, cap_of hc]
  · simp only [hf]
    by_cases hb' : b.f = true
    · rw [if_pos hb', hb.full hb']
    · rw [if_neg hb', hs, Int.zero_add]
  · simp only; rw [if_pos h]
  · simp only; rw [if_pos h]
  · exact e1
  · exact hf

theorem join_good {a b : Ag} (ha : Good a) (hb : Good b) : Good (join a b) := by
  have a0 := ha.c0; have a1 := ha.c1; have b0 := hb.c0; have b1 := hb.c1
  by_cases h1 : a.c = 0
  · rw [join_zero ha hb h1]; exact hb
  by_cases h2 : b.c = 0
  · rw [join_comm ha hb, join_zero hb ha h2]; exact ha
  have hcc : cap (a.c + b.c) ≠ 0 := by unfold cap; split <;> omega
  obtain ⟨am1, am2, am3⟩ := ha.some h1
  obtain ⟨bm1, bm2, bm3⟩ := hb.some h2
  have hlen : a.h.length = b.h.length := by rw [ha.len, hb.len]
  refine ⟨cap_nonneg (by omega), cap_le _, (addH_length hlen).trans ha.len, addH_nums ha.nums hb.nums, ?_, ?_, fun h => absurd h hcc, fun _ => ?_⟩
  · intro hf
    show (if (join a b).f = true then (0 : Int) else a.s + b.s) = 0
    rw [if_pos hf]
  · intro hf
    have hf' : (a.f || b.f || decide (a.c + b.c > 1000000000) || overH a.h b.h) = false := hf
    simp only [Bool.or_eq_false_iff, decide_eq_false_iff_not] at hf'
    obtain ⟨⟨⟨f1, f2⟩, f3⟩, f4⟩ := hf'
    obtain ⟨x1, x2, x3⟩ := ha.notfull f1
    obtain ⟨y1, y2, y3⟩ := hb.notfull f2
    have hc : (join a b).c = a.c + b.c := cap_of (by omega)
    have hs : (join a b).s = a.s + b.s := by
      show (if (join a b).f = true then (0 : Int) else a.s + b.s) = _
      rw [if_neg (by rw [hf]; decide)]
    rw [hc, hs]
    refine ⟨?_, by omega, by omega⟩
    show (addH a.h b.h).sum = _
    rw [sum_addH hlen f4, x1, y1]
  · show -1000000000 ≤ (if a.c = 0 then b.mi else if b.c = 0 then a.mi else mn a.mi b.mi) ∧ (if a.c = 0 then b.mi else if b.c = 0 then a.mi else mn a.mi b.mi) ≤ (if a.c = 0 then b.ma else if b.c = 0 then a.ma else mx a.ma b.ma) ∧ (if a.c = 0 then b.ma else if b.c = 0 then a.ma else mx a.ma b.ma) ≤ 1000000000
    rw [if_neg h1, if_neg h2, if_neg h1, if_neg h2]
    unfold mn mx
    split <;> split <;> omega

theorem join_assoc {a b c : Ag} (ha : Good a) (hb : Good b) (hc : Good c) : join (join a b) c = join a (join b c) := by
  have a0 := ha.c0; have a1 := ha.c1; have b0 := hb.c0; have b1 := hb.c1; have d0 := hc.c0; have d1 := hc.c1
  by_cases h1 : a.c = 0
  · rw [join_zero ha hb h1, join_zero ha (join_good hb hc) h1]
  by_cases h2 : b.c = 0
  · rw [join_comm ha hb, join_zero hb ha h2, join_zero hb hc h2]
  by_cases h3 : c.c = 0
  · rw [join_comm (join_good ha hb) hc, join_zero hc (join_good ha hb) h3, join_comm hb hc, join_zero hc hb h3]
  have n1 : cap (a.c + b.c) ≠ 0 := by unfold cap; split <;> omega
  have n2 : cap (b.c + c.c) ≠ 0 := by unfold cap; split <;> omega
  have l1 : a.h.length = b.h.length := by rw [ha.len, hb.len]
  have l2 : b.h.length = c.h.length := by rw [hb.len, hc.len]
  have hover := overH_assoc l1 l2 ha.nums hb.nums hc.nums
  have o1 := cap_over (a.c + b.c) c.c d0
  have o2 := cap_over' a.c (b.c + c.c) a0
  rw [← Int.add_assoc, ← o1] at o2
  have hf : (join (join a b) c).f = (join a (join b c)).f := by
    show ((a.f || b.f || decide (a.c + b.c > 1000000000) || overH a.h b.h) || c.f || decide (cap (a.c + b.c) + c.c > 1000000000) || overH (addH a.h b.h) c.h) = (a.f || (b.f || c.f || decide (b.c + c.c > 1000000000) || overH b.h c.h) || decide (a.c + cap (b.c + c.c) > 1000000000) || overH a.h (addH b.h c.h))
    generalize decide (a.c + b.c > 1000000000) = p at *
    generalize decide (cap (a.c + b.c) + c.c > 1000000000) = q at *
    generalize decide (b.c + c.c > 1000000000) = r at *
    generalize decide (a.c + cap (b.c + c.c) > 1000000000) = t at *
    generalize overH a.h b.h = u at *
    generalize overH (addH a.h b.h) c.h = v at *
    generalize overH b.h c.h = m at *
    generalize overH a.h (addH b.h c.h) = n at *
    generalize a.f = x
    generalize b.f = y
    generalize c.f = z
    clear ha hb hc a0 a1 b0 b1 d0 d1 h1 h2 h3 n1 n2 l1 l2 o1
    revert o2 hover
    cases p <;> cases q <;> cases r <;> cases t <;> cases u <;> cases v <;> cases m <;> cases n <;> simp <;> cases x <;> cases y <;> cases z <;> decide
  have hs : (join (join a b) c).s = (join a (join b c)).s := by
    by_cases hF : (join (join a b) c).f = true
    · have hG := hf ▸ hF
      show (if (join (join a b) c).f = true then (0 : Int) else (join a b).s + c.s) = (if (join a (join b c)).f = true then (0 : Int) else a.s + (join b c).s)
      rw [if_pos hF, if_pos hG]
    · have hG : ¬ (join a (join b c)).f = true := hf ▸ hF
      have e1 : (join a b).f = false := by
        have : ((join a b).f || c.f || decide (cap (a.c + b.c) + c.c > 1000000000) || overH (addH a.h b.h) c.h) = false := Bool.eq_false_iff.2 hF
        simp only [Bool.or_eq_false_iff] at this
        exact this.1.1.1
      have e2 : (join b c).f = false := by
        have : (a.f || (join b c).f || decide (a.c + cap (b.c + c.c) > 1000000000) || overH a.h (addH b.h c.h)) = false := Bool.eq_false_iff.2 hG
        simp only [Bool.or_eq_false_iff] at this
        exact this.1.1.2
      show (if (join (join a b) c).f = true then (0 : Int) else (if (join a b).f = true then (0 : Int) else a.s + b.s) + c.s) = (if (join a (join b c)).f = true then (0 : Int) else a.s + (if (join b c).f = true then (0 : Int) else b.s + c.s))
      rw [if_neg hF, if_neg hG, if_neg (by rw [e1]; decide), if_neg (by rw [e2]; decide), Int.add_assoc]
  apply Ag.ext'
  · show cap (cap (a.c + b.c) + c.c) = cap (a.c + cap (b.c + c.c))
    rw [cap_cap _ _ d0, cap_cap' _ _ a0, Int.add_assoc]
  · exact hs
  · show (if cap (a.c + b.c) = 0 then c.mi else if c.c = 0 then (join a b).mi else mn (if a.c = 0 then b.mi else if b.c = 0 then a.mi else mn a.mi b.mi) c.mi) = (if a.c = 0 then (join b c).mi else if cap (b.c + c.c) = 0 then a.mi else mn a.mi (if b.c = 0 then c.mi else if c.c = 0 then b.mi else mn b.mi c.mi))
    rw [if_neg n1, if_neg h3, if_neg h1, if_neg h2, if_neg h1, if_neg n2, if_neg h2, if_neg h3]
    exact mn_assoc _ _ _
  · show (if cap (a.c + b.c) = 0 then c.ma else if c.c = 0 then (join a b).ma else mx (if a.c = 0 then b.ma else if b.c = 0 then a.ma else mx a.ma b.ma) c.ma) = (if a.c = 0 then (join b c).ma else if cap (b.c + c.c) = 0 then a.ma else mx a.ma (if b.c = 0 then c.ma else if c.c = 0 then b.ma else mx b.ma c.ma))
    rw [if_neg n1, if_neg h3, if_neg h1, if_neg h2, if_neg h1, if_neg n2, if_neg h2, if_neg h3]
    exact mx_assoc _ _ _
  · exact addH_assoc ha.nums hb.nums hc.nums
  · exact hf

end Go.Proofs.YtkgmoajdcibafaaDoor.Lem

namespace Go.Proofs.YtkgmoajdcibafaaDoor.Lem
open Go.RowKit Go.Proofs.YtkgmoajdcibafaaDoor.P Go.Proofs.YtkgmoajdcibafaaDoorW.PrintWords Go.Proofs.YtkgmoajdcibafaaDoorW.PrintLast Go.Proofs.YtkgmoajdcibafaaDoorW.PrintMore

theorem within_ok (a b c : Int) : impl_within.f a b c = some (decide (b ≤ a ∧ a ≤ c)) := by
  unfold impl_within.f
  by_cases h : a ≥ b
  · rw [if_pos h]
    congr 1
    simp [show b ≤ a from h]
  · rw [if_neg h]
    congr 1
    simp [show ¬ b ≤ a from h]

end Go.Proofs.YtkgmoajdcibafaaDoor.Lem
