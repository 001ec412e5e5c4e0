/- Part 4 of the walks and words that Texts uses. No conditions of its own. -/
import Derived.Lib.AtoiAll
import Derived.Laws.BitsAllLaws
import Derived.Lib.SlTrimSet
import Derived.Lib.ItoaLen
import Derived.Lib.ItoaMem
import Derived.Lib.IndexMore
import Derived.Lib.Split
import Derived.WideShapes
import Derived.Test.YteogadaloebdaaaDoorMTexts3

-- written by a program of this session's (wip/pp)
namespace Go.Proofs.YteogadaloebdaaaDoor.P
open Go.RowKit Go.Proofs.YteogadaloebdaaaDoorW.PrintWords Go.Proofs.YteogadaloebdaaaDoorW.PrintLast Go.Proofs.YteogadaloebdaaaDoorW.PrintMore
attribute [local go_sem] max2_int min2_int max_two min_two max_three min_three max_four min_four str_geq str_gtr str_leq   -- for this text's walks alone
set_option linter.unusedVariables false
set_option linter.unusedSimpArgs false

/-! ### spec_l1Cur_key: function 28 -/
mutual
def spec_l1Cur_key.j0 : Nat → List Int → Int → Int → ByteArray → List (S69) → Int → Option (ByteArray × (List (S69)) × Int × Int × Int)
 | 0, _, _, _, _, _, _ => none
 | k + 1, x1000, x1001, x1002, x112000, x112001, x112002 => (spec_l1Cur_one.f x1000 x1001 x1002 3).bind fun bt130 => (if bt130.1 = true then ((spec_l1Cur_of.f x1000 bt130.2.1 bt130.2.2 (([(⟨#[101]⟩ : ByteArray), (⟨#[119]⟩ : ByteArray)] : List ByteArray))).bind fun bt136 => (if x112001.length < 4398046511104 then (spec_l1Cur_key.j1 k x1000 bt136.2.1 bt136.2.2 x112000 (x112001 ++ [(⟨(⟨#[122, 111, 110, 101]⟩ : ByteArray), bt136.1⟩ : S69)]) x112002) else (none))) else (spec_l1Cur_key.j1 k x1000 bt130.2.1 bt130.2.2 x112000 x112001 x112002))
def spec_l1Cur_key.j1 : Nat → List Int → Int → Int → ByteArray → List (S69) → Int → Option (ByteArray × (List (S69)) × Int × Int × Int)
 | 0, _, _, _, _, _, _ => none
 | k + 1, x1000, x1001, x1002, x112000, x112001, x112002 => (spec_l1Cur_pick.f x1000 x1001 x1002 60).bind fun bt142 => (if bt142.1 = 0 then ((spec_l1Cur_of.f x1000 bt142.2.1 bt142.2.2 (([(⟨#[]⟩ : ByteArray), (⟨#[97, 49]⟩ : ByteArray), (⟨#[97, 98, 99, 100, 101, 102, 103, 104, 105, 106, 107, 108, 109]⟩ : ByteArray)] : List ByteArray))).bind fun bt148 => (some (bt148.1, x112001, x112002, bt148.2.1, bt148.2.2))) else (if bt142.1 = 1 then ((spec_l1Cur_of.f x1000 bt142.2.1 bt142.2.2 (([(⟨#[97]⟩ : ByteArray), (⟨#[122, 122]⟩ : ByteArray), (⟨#[]⟩ : ByteArray)] : List ByteArray))).bind fun bt154 => (if x112001.length < 4398046511104 then (some (x112000, (x112001 ++ [(⟨bt154.1, (⟨#[118]⟩ : ByteArray)⟩ : S69)]), x112002, bt154.2.1, bt154.2.2)) else (none))) else (if bt142.1 = 2 then ((spec_l1Cur_among.f x1000 bt142.2.1 bt142.2.2 (([(-1), 1000000000, 1000000001] : List Int))).bind fun bt163 => (some (x112000, x112001, bt163.1, bt163.2.1, bt163.2.2))) else (some (x112000, x112001, x112002, bt142.2.1, bt142.2.2)))))
end
def spec_l1Cur_key.f (k : Nat) (s0_0 : List Int) (s0_1 : Int) (s0_2 : Int) : Option (ByteArray × (List (S69)) × Int × Int × Int) := (spec_l1Cur_of.f s0_0 s0_1 s0_2 (([(⟨#[99, 112, 117]⟩ : ByteArray), (⟨#[109, 101, 109]⟩ : ByteArray), (⟨#[109]⟩ : ByteArray), (⟨#[99, 112]⟩ : ByteArray)] : List ByteArray))).bind fun bt105 => ((spec_l1Cur_pick.f s0_0 bt105.2.1 bt105.2.2 6).bind fun bt108 => ((spec_l1Cur_one.f s0_0 bt108.2.1 bt108.2.2 2).bind fun bt112 => (if bt112.1 = true then ((spec_l1Cur_of.f s0_0 bt112.2.1 bt112.2.2 (([(⟨#[97]⟩ : ByteArray), (⟨#[97, 98]⟩ : ByteArray), (⟨#[104, 111, 115, 116]⟩ : ByteArray)] : List ByteArray))).bind fun bt118 => ((spec_l1Cur_of.f s0_0 bt118.2.1 bt118.2.2 (([(⟨#[120]⟩ : ByteArray), (⟨#[120, 121]⟩ : ByteArray), (⟨#[122]⟩ : ByteArray)] : List ByteArray))).bind fun bt124 => (if ([] : List (S69)).length < 4398046511104 then (spec_l1Cur_key.j0 k s0_0 bt124.2.1 bt124.2.2 bt105.1 (([] : List (S69)) ++ [(⟨bt118.1, bt124.1⟩ : S69)]) (wrap64 (10 * bt108.1))) else (none)))) else (spec_l1Cur_key.j0 k s0_0 bt112.2.1 bt112.2.2 bt105.1 ([] : List (S69)) (wrap64 (10 * bt108.1))))))
theorem spec_l1Cur_key.mono_l : ∀ k, (∀ y0 y1 y2 y3 y4 y5, LeO (spec_l1Cur_key.j0 k y0 y1 y2 y3 y4 y5) (spec_l1Cur_key.j0 (k + 1) y0 y1 y2 y3 y4 y5)) ∧ (∀ y0 y1 y2 y3 y4 y5, LeO (spec_l1Cur_key.j1 k y0 y1 y2 y3 y4 y5) (spec_l1Cur_key.j1 (k + 1) y0 y1 y2 y3 y4 y5))
 | 0 => ⟨fun _ _ _ _ _ _ r h => by simp [spec_l1Cur_key.j0] at h, fun _ _ _ _ _ _ r h => by simp [spec_l1Cur_key.j1] at h⟩
 | k + 1 => by
  obtain ⟨ih0, ih1⟩ := spec_l1Cur_key.mono_l k
  refine ⟨?_, ?_⟩
  · intro y0 y1 y2 y3 y4 y5
    unfold spec_l1Cur_key.j0
    repeat' first
     | (with_reducible first | exact ih0 .. | exact ih1 .. | exact LeO.refl _ | exact LeO.none _ | refine LeO.ite ?_ ?_ | refine LeO.bind ?_ (fun _ => ?_))
     | exact LeO.none _
     | refine LeO.ite ?_ ?_
     | refine LeO.bind ?_ (fun _ => ?_)
  · intro y0 y1 y2 y3 y4 y5
    unfold spec_l1Cur_key.j1
    repeat' first
     | (with_reducible first | exact ih0 .. | exact ih1 .. | exact LeO.refl _ | exact LeO.none _ | refine LeO.ite ?_ ?_ | refine LeO.bind ?_ (fun _ => ?_))
     | exact LeO.none _
     | refine LeO.ite ?_ ?_
     | refine LeO.bind ?_ (fun _ => ?_)
theorem spec_l1Cur_key.mono : ∀ a0 a1 a2 k, LeO (spec_l1Cur_key.f k a0 a1 a2) (spec_l1Cur_key.f (k + 1) a0 a1 a2) := by
 intro a0 a1 a2 k
 obtain ⟨ih0, ih1⟩ := spec_l1Cur_key.mono_l k
 unfold spec_l1Cur_key.f
 repeat' first
  | (with_reducible first | exact ih0 .. | exact ih1 .. | exact LeO.refl _ | exact LeO.none _ | refine LeO.ite ?_ ?_ | refine LeO.bind ?_ (fun _ => ?_))
  | exact LeO.none _
  | refine LeO.ite ?_ ?_
  | refine LeO.bind ?_ (fun _ => ?_)
def spec_l1Cur_key.T3 : Bool × List (List Nat × List Nat) := (true, [([], []), ([0], [0]), ([], []), ([], []), ([2, 3], [2, 3]), ([], []), ([], []), ([5, 6, 4], [5, 6]), ([4, 7], [4, 7]), ([8], [8]), ([1, 9, 7], [1, 9]), ([0, 1, 2, 3, 4, 5, 6, 7, 8, 9, 10], []), ([11, 10, 10, 0, 1, 2, 3, 4, 5, 6, 7, 8, 9, 10], [10, 11])])
def spec_l1Cur_key.B3 : List Nat := [0, 1, 0, 0, 12, 0, 0, 124, 252, 508, 1023, 2047, 4095]
theorem spec_l1Cur_key.tab3 : rtab .any (opsOf Tryd.f28 3) = spec_l1Cur_key.T3 := by kernel_rfl
theorem spec_l1Cur_key.bits3 : waitsOk spec_l1Cur_key.T3.2 spec_l1Cur_key.B3 = true := by kernel_rfl
def spec_l1Cur_key.T5 : Bool × List (List Nat × List Nat) := (true, [([], []), ([0], [0]), ([], []), ([], []), ([2, 3], [2, 3]), ([4], [4]), ([5], [5]), ([1, 6, 4], [1, 6]), ([0, 1, 2, 3, 4, 5, 6, 7], []), ([8, 7, 7, 0, 1, 2, 3, 4, 5, 6, 7], [7, 8])])
def spec_l1Cur_key.B5 : List Nat := [0, 1, 0, 0, 12, 28, 60, 127, 255, 511]
theorem spec_l1Cur_key.tab5 : rtab .any (opsOf Tryd.f28 5) = spec_l1Cur_key.T5 := by kernel_rfl
theorem spec_l1Cur_key.bits5 : waitsOk spec_l1Cur_key.T5.2 spec_l1Cur_key.B5 = true := by kernel_rfl
def spec_l1Cur_key.T10 : Bool × List (List Nat × List Nat) := (true, [([], []), ([0], [0]), ([], []), ([], []), ([2, 3], [2, 3]), ([4], [4]), ([5], [5]), ([1, 6, 4], [1, 6]), ([0, 1, 2, 3, 4, 5, 6, 7], []), ([8, 7, 7, 0, 1, 2, 3, 4, 5, 6, 7], [7, 8])])
def spec_l1Cur_key.B10 : List Nat := [0, 1, 0, 0, 12, 28, 60, 127, 255, 511]
theorem spec_l1Cur_key.tab10 : rtab .any (opsOf Tryd.f28 10) = spec_l1Cur_key.T10 := by kernel_rfl
theorem spec_l1Cur_key.bits10 : waitsOk spec_l1Cur_key.T10.2 spec_l1Cur_key.B10 = true := by kernel_rfl
set_option maxHeartbeats 8000000 in
set_option maxRecDepth 100000 in
theorem spec_l1Cur_key.calls (k : Nat) (g : Nat) (s0_0 : List Int) (s0_1 : Int) (s0_2 : Int) (r1 : ByteArray) (r2 : List (S69)) (r3 : Int) (r4 : Int) (r5 : Int) (w0 w : World) (hI : IsS62 w0 w g s0_0 s0_1 s0_2) (hB : Below w0.heap.size w0 w) (h : spec_l1Cur_key.f k s0_0 s0_1 s0_2 = some (r1, r2, r3, r4, r5)) :
 Calls Tryd.prog 28 #[.pointer (some ⟨g, 0, none⟩)] w fun e w' => ∃ v1_ : Value, e = .returned (.agg #[.string r1, v1_, .int .i64 r3]) ∧ Kd.R k69 69 w' w.heap.size (fun _ => True) v1_ r2 ∧ IsS62 w0 w' g s0_0 r4 r5 ∧ Below w0.heap.size w0 w' ∧ KeepBut w w' g none := by
 have hu25 := Tryd.underlying25
 have hu69 := Tryd.underlying69
 have HI0 := aM hI
 have HK := aM (KeepBut.refl w g none)
 have HL := aM hB.size
 clear hI
 have HW0 := aM hB.size
 have HB := aM hB
 clear hB
 have H : ((spec_l1Cur_of.f s0_0 s0_1 s0_2 (([(⟨#[99, 112, 117]⟩ : ByteArray), (⟨#[109, 101, 109]⟩ : ByteArray), (⟨#[109]⟩ : ByteArray), (⟨#[99, 112]⟩ : ByteArray)] : List ByteArray))).bind fun bt105 => ((spec_l1Cur_pick.f s0_0 bt105.2.1 bt105.2.2 6).bind fun bt108 => ((spec_l1Cur_one.f s0_0 bt108.2.1 bt108.2.2 2).bind fun bt112 => (if bt112.1 = true then ((spec_l1Cur_of.f s0_0 bt112.2.1 bt112.2.2 (([(⟨#[97]⟩ : ByteArray), (⟨#[97, 98]⟩ : ByteArray), (⟨#[104, 111, 115, 116]⟩ : ByteArray)] : List ByteArray))).bind fun bt118 => ((spec_l1Cur_of.f s0_0 bt118.2.1 bt118.2.2 (([(⟨#[120]⟩ : ByteArray), (⟨#[120, 121]⟩ : ByteArray), (⟨#[122]⟩ : ByteArray)] : List ByteArray))).bind fun bt124 => (if ([] : List (S69)).length < 4398046511104 then (spec_l1Cur_key.j0 k s0_0 bt124.2.1 bt124.2.2 bt105.1 (([] : List (S69)) ++ [(⟨bt118.1, bt124.1⟩ : S69)]) (wrap64 (10 * bt108.1))) else (none)))) else (spec_l1Cur_key.j0 k s0_0 bt112.2.1 bt112.2.2 bt105.1 ([] : List (S69)) (wrap64 (10 * bt108.1))))))) = some (r1, r2, r3, r4, r5) := h
 clear h
 obtain ⟨y102, hy102⟩ : ∃ y_ : List ByteArray, y_ = (([(⟨#[99, 112, 117]⟩ : ByteArray), (⟨#[109, 101, 109]⟩ : ByteArray), (⟨#[109]⟩ : ByteArray), (⟨#[99, 112]⟩ : ByteArray)] : List ByteArray)) := ⟨_, rfl⟩
 replace H : ((spec_l1Cur_of.f s0_0 s0_1 s0_2 y102).bind fun bt105 => ((spec_l1Cur_pick.f s0_0 bt105.2.1 bt105.2.2 6).bind fun bt108 => ((spec_l1Cur_one.f s0_0 bt108.2.1 bt108.2.2 2).bind fun bt112 => (if bt112.1 = true then ((spec_l1Cur_of.f s0_0 bt112.2.1 bt112.2.2 (([(⟨#[97]⟩ : ByteArray), (⟨#[97, 98]⟩ : ByteArray), (⟨#[104, 111, 115, 116]⟩ : ByteArray)] : List ByteArray))).bind fun bt118 => ((spec_l1Cur_of.f s0_0 bt118.2.1 bt118.2.2 (([(⟨#[120]⟩ : ByteArray), (⟨#[120, 121]⟩ : ByteArray), (⟨#[122]⟩ : ByteArray)] : List ByteArray))).bind fun bt124 => (if ([] : List (S69)).length < 4398046511104 then (spec_l1Cur_key.j0 k s0_0 bt124.2.1 bt124.2.2 bt105.1 (([] : List (S69)) ++ [(⟨bt118.1, bt124.1⟩ : S69)]) (wrap64 (10 * bt108.1))) else (none)))) else (spec_l1Cur_key.j0 k s0_0 bt112.2.1 bt112.2.2 bt105.1 ([] : List (S69)) (wrap64 (10 * bt108.1))))))) = some (r1, r2, r3, r4, r5) := by first | (rw [hy102]; with_reducible exact H) | (have H2_ := (Option.bind_some _ _).symm.trans H; rw [hy102]; with_reducible exact H2_) | (have H2_ := (Option.bind_some _ _).symm.trans H; with_reducible exact H2_) | with_reducible exact H | (rw [hy102]; exact H) | exact H
 have Ny102 := aM hy102
 clear hy102
 replace H := Option.bind_eq_some_iff.mp H
 obtain ⟨⟨t105, t106, t107⟩, A20, H⟩ := H
 try dsimp only at H
 have A2 := aM A20
 clear A20
 replace H := Option.bind_eq_some_iff.mp H
 obtain ⟨⟨t108, t109, t110⟩, A30, H⟩ := H
 try dsimp only at H
 have A3 := aM A30
 clear A30
 replace H := Option.bind_eq_some_iff.mp H
 obtain ⟨⟨t112, t113, t114⟩, A40, H⟩ := H
 try dsimp only at H
 have A4 := aM A40
 clear A40
 have HC5 := aM H
 clear H
 go_enter Tryd.func28, Tryd.ntmps28
 go_upto_if 12 with (first | ((with_reducible refine gate_dst (N := 2) rfl ?_); refine box_event ?hg (N := 2) ?hd (cs := #[.string (⟨#[]⟩ : ByteArray), .slice none 0 0, .int .i64 0]) (t := 25) ?hr ?_; (case hd => rfl); (case hg => rfl); (case hr => first | (go_simp; done) | (go_simp; rfl)); intro gb101 hg w6 hbox hb; have _ := aM (IsS62.below (by repeat (first | (with_reducible first | exact HI0.out | apply IsS62.alloc | apply IsS62.drewN | apply IsS62.drew | apply IsS62.set_1 | apply IsS62.set_2) | exact HI0.out)) hb); have _ := aM (KeepBut.trans zcbec (KeepBut.of_below hb g none) (.inl rfl)); have _ := aM (below_step (by repeat (first | (with_reducible first | exact HB.out | apply below_alloc | apply pw_below_drewN | apply below_drew1 | refine below_set ?_ (IsS62.ge (Aside0.out (by assumption)))) | exact HB.out)) hb); have _ := aM hbox; have _ := aM ((by rw [hg]; exact (keep_size (w := w) (g := g) (row := none) zcbec) : w.heap.size ≤ gb101)); have _ := aM ((Nat.le_trans HW0.out (by rw [hg]; exact (keep_size (w := w) (g := g) (row := none) zcbec) : w.heap.size ≤ gb101) : w0.heap.size ≤ gb101)); have _ := aM ((by rw [hg]; exact Nat.ne_of_lt (IsS62.lt (show IsS62 w0 _ g s0_0 s0_1 s0_2 from by repeat (first | (with_reducible first | exact HI0.out | apply IsS62.alloc | apply IsS62.drewN | apply IsS62.drew | apply IsS62.set_1 | apply IsS62.set_2) | exact HI0.out))) : g ≠ gb101)); have _ := aM ((by rw [hg]; exact Nat.ne_of_gt (IsS62.lt (show IsS62 w0 _ g s0_0 s0_1 s0_2 from by repeat (first | (with_reducible first | exact HI0.out | apply IsS62.alloc | apply IsS62.drewN | apply IsS62.drew | apply IsS62.set_1 | apply IsS62.set_2) | exact HI0.out))) : gb101 ≠ g)); clear HI0 HK HB; rename_i HI0 HK HB BK101 GW101 GE101 NB0_101 NB101_0; clear hb hbox hg) | ((with_reducible refine gate_dst (N := 5) rfl ?_); refine Kd.R_lit Kd.string _ 9 ?hg (N := 5) ?hd (xs := ([(⟨#[99, 112, 117]⟩ : ByteArray), (⟨#[109, 101, 109]⟩ : ByteArray), (⟨#[109]⟩ : ByteArray), (⟨#[99, 112]⟩ : ByteArray)] : List ByteArray)) (inner := [.string (⟨#[99, 112, 117]⟩ : ByteArray), .string (⟨#[109, 101, 109]⟩ : ByteArray), .string (⟨#[109]⟩ : ByteArray), .string (⟨#[99, 112]⟩ : ByteArray)]) (ok := fun _ => True) (okp := fun _ => True) ?hr ?hp (fun _ hk => hk) trivial (Below.refl _ _) (Nat.le_refl _) (by simp) ?_; (case hd => rfl); (case hg => rfl); (case hr => first | (go_simp; done) | (go_simp; rfl)); (case hp => exact (Reps.one (show Kd.M Kd.string _ _ _ (⟨#[99, 112, 117]⟩ : ByteArray) [.string (⟨#[99, 112, 117]⟩ : ByteArray)] from rfl) (Reps.one (show Kd.M Kd.string _ _ _ (⟨#[109, 101, 109]⟩ : ByteArray) [.string (⟨#[109, 101, 109]⟩ : ByteArray)] from rfl) (Reps.one (show Kd.M Kd.string _ _ _ (⟨#[109]⟩ : ByteArray) [.string (⟨#[109]⟩ : ByteArray)] from rfl) (Reps.one (show Kd.M Kd.string _ _ _ (⟨#[99, 112]⟩ : ByteArray) [.string (⟨#[99, 112]⟩ : ByteArray)] from rfl) (Reps.none _ _)))))); intro v103 w7 ho8 hb hg_ hnew_; clear hg_ hnew_; (first | rw [← Ny102.out] at ho8 | (simp only [Int.reduceToNat] at ho8; rw [← Ny102.out] at ho8)); have _ := aM (Kd.R_lower ho8 (keep_size (w := w) (g := g) (row := none) z7c8e)); have _ := aM (IsS62.below (by repeat (first | (with_reducible first | exact HI0.out | apply IsS62.alloc | apply IsS62.drewN | apply IsS62.drew | apply IsS62.set_1 | apply IsS62.set_2 | refine IsS62.far ?_ (Aside0.out (by assumption)) _) | exact HI0.out)) hb); have _ := bB gb101 hb; have _ := aM (KeepBut.trans z7c8e (KeepBut.of_below hb g none) (.inl rfl)); have _ := aM (below_step (by repeat (first | (with_reducible first | exact HB.out | apply below_alloc | apply pw_below_drewN | apply below_drew1 | refine below_set ?_ (IsS62.ge (Aside0.out (by assumption))) | refine below_set ?_ (Aside0.out (by assumption))) | exact HB.out)) hb); clear HI0 BK101 HK HB; rename_i HO104 HI0 BK101 HK HB; clear hb ho8; obtain ⟨Ao9, co9, eo9⟩ := Kd.R_slice HO104.out; subst eo9) | ((with_reducible refine gate_callee (f := 65) rfl ?_); refine goesL_ (some 6) rfl rfl Tryd.func65 (by kernel_rfl) rfl #[.pointer (some ⟨g, 0, none⟩), .slice Ao9 y102.length co9] rfl zee81 ?_; (with_reducible refine (spec_l1Cur_of.calls g s0_0 s0_1 s0_2 _ _ y102 t105 t106 t107 w0 _ ?side1 ?side2 ?side3 ?side4 ?side5 A2.out).mono ?_); (case side1 => exact (by repeat (first | (with_reducible first | exact HI0.out | apply IsS62.alloc | apply IsS62.drewN | apply IsS62.drew | apply IsS62.set_1 | apply IsS62.set_2 | refine IsS62.far ?_ (Aside0.out (by assumption)) _) | exact HI0.out))); (case side2 => exact (by repeat (first | (with_reducible first | exact HB.out | apply below_alloc | apply pw_below_drewN | apply below_drew1 | refine below_set ?_ (IsS62.ge (Aside0.out (by assumption))) | refine below_set ?_ (Aside0.out (by assumption))) | exact HB.out))); (case side3 => exact (by repeat (first | exact (Kd.R_reads' HO104.out).2.2 | (with_reducible refine Kd.C_alloc ?_ _) | (with_reducible refine Kd.C_drewN ?_ _) | (with_reducible refine Kd.C_drew ?_)))); (case side4 => exact (Kd.R_reads' HO104.out).2.1); (case side5 => exact far_slice (IsS62.own_ne HI0.out HO104.out (by decide))); rintro e w10 ⟨rfl, hi, hb, hk⟩; refine ⟨_, rfl, ?_⟩; have _ := aM (KeepBut.blk hk (g' := gb101) bkZ NB101_0.out (by simp)); have _ := aM (Kd.R_mono (Kd.R_keep (IsS62.apart (show IsS62 w0 _ g s0_0 s0_1 s0_2 from by repeat (first | (with_reducible first | exact HI0.out | apply IsS62.alloc | apply IsS62.drewN | apply IsS62.drew | apply IsS62.set_1 | apply IsS62.set_2 | refine IsS62.far ?_ (Aside0.out (by assumption)) _) | exact HI0.out)) (rZ HO104.out) (by decide)) hk (fun _ h => h.2)) (fun _ h => h.1)); have _ := aM (KeepBut.trans z7c8e hk (.inl rfl)); have _ := aM hb; have _ := aM hi; clear BK101 HO104 HK HB HI0; rename_i BK101 HO104 HK HB HI0; (try clear hb); (try clear hk); (try clear hi)) | ((with_reducible refine gate_callee (f := 30) rfl ?_); refine goesL_ (some 8) rfl rfl Tryd.func30 (by kernel_rfl) rfl #[.pointer (some ⟨g, 0, none⟩), .int .i64 6] rfl zee81 ?_; (with_reducible refine (spec_l1Cur_pick.calls g s0_0 t106 t107 6 t108 t109 t110 w0 _ ?side1 ?side2 A3.out).mono ?_); (case side1 => exact (by repeat (first | (with_reducible first | exact HI0.out | apply IsS62.alloc | apply IsS62.drewN | apply IsS62.drew | apply IsS62.set_1 | apply IsS62.set_2 | refine IsS62.far ?_ (Aside0.out (by assumption)) _) | exact HI0.out))); (case side2 => exact (by repeat (first | (with_reducible first | exact HB.out | apply below_alloc | apply pw_below_drewN | apply below_drew1 | refine below_set ?_ (IsS62.ge (Aside0.out (by assumption))) | refine below_set ?_ (Aside0.out (by assumption))) | exact HB.out))); rintro e w11 ⟨rfl, hi, hb, hk⟩; refine ⟨_, rfl, ?_⟩; have _ := aM (KeepBut.blk hk (g' := gb101) bkZ NB101_0.out (by simp)); have _ := aM (Kd.R_mono (Kd.R_keep (IsS62.apart (show IsS62 w0 _ g s0_0 t106 t107 from by repeat (first | (with_reducible first | exact HI0.out | apply IsS62.alloc | apply IsS62.drewN | apply IsS62.drew | apply IsS62.set_1 | apply IsS62.set_2 | refine IsS62.far ?_ (Aside0.out (by assumption)) _) | exact HI0.out)) (rZ HO104.out) (by decide)) hk (fun _ h => h.2)) (fun _ h => h.1)); have _ := aM (KeepBut.trans z7c8e hk (.inl rfl)); have _ := aM hb; have _ := aM hi; clear BK101 HO104 HK HB HI0; rename_i BK101 HO104 HK HB HI0; (try clear hb); (try clear hk); (try clear hi)) | ((with_reducible refine gate_dst (N := 3) rfl ?_); refine box_event ?hg (N := 3) ?hd (cs := #[.string (⟨#[]⟩ : ByteArray), .slice none 0 0, .int .i64 0]) (t := 25) ?hr ?_; (case hd => rfl); (case hg => rfl); (case hr => first | (go_simp; done) | (go_simp; rfl)); intro gb111 hg w12 hbox hb; have _ := aM (Kd.R_below (rZ HO104.out) hb); have _ := aM (IsS62.below (by repeat (first | (with_reducible first | exact HI0.out | apply IsS62.alloc | apply IsS62.drewN | apply IsS62.drew | apply IsS62.set_1 | apply IsS62.set_2 | refine IsS62.far ?_ (Aside0.out (by assumption)) _) | exact HI0.out)) hb); have _ := bB gb101 hb; have _ := aM (KeepBut.trans z7c8e (KeepBut.of_below hb g none) (.inl rfl)); have _ := aM (below_step (by repeat (first | (with_reducible first | exact HB.out | apply below_alloc | apply pw_below_drewN | apply below_drew1 | refine below_set ?_ (IsS62.ge (Aside0.out (by assumption))) | refine below_set ?_ (Aside0.out (by assumption))) | exact HB.out)) hb); have _ := aM hbox; have _ := aM ((by rw [hg]; exact (keep_size (w := w) (g := g) (row := none) z7c8e) : w.heap.size ≤ gb111)); have _ := aM ((Nat.le_trans HW0.out (by rw [hg]; exact (keep_size (w := w) (g := g) (row := none) z7c8e) : w.heap.size ≤ gb111) : w0.heap.size ≤ gb111)); have ⟨_, _⟩ := nbB gb101 hg; have _ := aM ((by rw [hg]; exact Nat.ne_of_lt (IsS62.lt (show IsS62 w0 _ g s0_0 t109 t110 from by repeat (first | (with_reducible first | exact HI0.out | apply IsS62.alloc | apply IsS62.drewN | apply IsS62.drew | apply IsS62.set_1 | apply IsS62.set_2 | refine IsS62.far ?_ (Aside0.out (by assumption)) _) | exact HI0.out))) : g ≠ gb111)); have _ := aM ((by rw [hg]; exact Nat.ne_of_gt (IsS62.lt (show IsS62 w0 _ g s0_0 t109 t110 from by repeat (first | (with_reducible first | exact HI0.out | apply IsS62.alloc | apply IsS62.drewN | apply IsS62.drew | apply IsS62.set_1 | apply IsS62.set_2 | refine IsS62.far ?_ (Aside0.out (by assumption)) _) | exact HI0.out))) : gb111 ≠ g)); clear HO104 HI0 BK101 HK HB; rename_i HO104 HI0 BK101 HK HB BK111 GW111 GE111 NB101_111 NB111_101 NB0_111 NB111_0; clear hb hbox hg; have hnb13 := NB111_101.out; have hnc13 := NB101_111.out; have hnb14 := NB111_0.out; have hnc14 := NB0_111.out; obtain ⟨hcz15_0, hcz15_1, hcz15_2, hfz15_0, hfz15_1, hfz15_2⟩ := cellsZ3 BK111.out) | ((with_reducible refine gate_callee (f := 29) rfl ?_); refine goesL_ (some 12) rfl rfl Tryd.func29 (by kernel_rfl) rfl #[.pointer (some ⟨g, 0, none⟩), .int .i64 2] rfl zee81 ?_; (with_reducible refine (spec_l1Cur_one.calls g s0_0 t109 t110 2 t112 t113 t114 w0 _ ?side1 ?side2 A4.out).mono ?_); (case side1 => exact (by repeat (first | (with_reducible first | exact HI0.out | apply IsS62.alloc | apply IsS62.drewN | apply IsS62.drew | apply IsS62.set_1 | apply IsS62.set_2 | refine IsS62.far ?_ (Aside0.out (by assumption)) _) | exact HI0.out))); (case side2 => exact (by repeat (first | (with_reducible first | exact HB.out | apply below_alloc | apply pw_below_drewN | apply below_drew1 | refine below_set ?_ (IsS62.ge (Aside0.out (by assumption))) | refine below_set ?_ (Aside0.out (by assumption))) | exact HB.out))); rintro e w16 ⟨rfl, hi, hb, hk⟩; refine ⟨_, rfl, ?_⟩; have _ := aM (KeepBut.blk hk (g' := gb101) bkZ NB101_0.out (by simp)); have _ := aM (Kd.R_mono (Kd.R_keep (IsS62.apart (show IsS62 w0 _ g s0_0 t109 t110 from by repeat (first | (with_reducible first | exact HI0.out | apply IsS62.alloc | apply IsS62.drewN | apply IsS62.drew | apply IsS62.set_1 | apply IsS62.set_2 | refine IsS62.far ?_ (Aside0.out (by assumption)) _) | exact HI0.out)) (rZ (rF3 HO104.out BK111.out)) (by decide)) hk (fun _ h => h.2)) (fun _ h => h.1)); have _ := aM (KeepBut.blk hk (g' := gb111) (o := .cells #[.string t105, .slice none 0 0, .int .i64 (wrap64 (10 * t108))] 25 (0, 0)) bkZ NB111_0.out (by simp)); have _ := aM (KeepBut.trans z7c8e hk (.inl rfl)); have _ := aM hb; have _ := aM hi; clear BK101 HO104 BK111 HK HB HI0; rename_i BK101 HO104 BK111 HK HB HI0; (try clear hb); (try clear hk); (try clear hi)))
 (try simp only [Act.put, List.setIfInBounds_toArray, List.set_cons_zero, List.set_cons_succ])
 go_cut [] (fun wc => ∃ (kq : Nat) (x1001_4 : Int) (x1002_4 : Int) (x112001_4 : List (S69)) (u112001 : Value), Aside0 (spec_l1Cur_key.j0 kq s0_0 x1001_4 x1002_4 t105 x112001_4 (wrap64 (10 * t108)) = some (r1, r2, r3, r4, r5)) ∧ Aside0 (kq ≤ k) ∧ Aside0 (Kd.R k69 69 wc w.heap.size (fun _ => True) u112001 x112001_4) ∧ Aside0 (wc.heap[gb101]? = some (.cells #[.string (⟨#[]⟩ : ByteArray), (.slice none 0 0), .int .i64 0] 25 (0, 0))) ∧ Aside0 (wc.heap[gb111]? = some (.cells #[.string t105, u112001, .int .i64 (wrap64 (10 * t108))] 25 (0, 0))) ∧ Aside0 (IsS62 w0 wc g s0_0 x1001_4 x1002_4) ∧ Aside0 (KeepBut w wc g none) ∧ Aside0 (Below w0.heap.size w0 wc))
 case first =>
  have H := HC5.out
  clear HC5
  by_cases c17 : t112 = true
  · subst c17
    have H1 : ((spec_l1Cur_of.f s0_0 t113 t114 (([(⟨#[97]⟩ : ByteArray), (⟨#[97, 98]⟩ : ByteArray), (⟨#[104, 111, 115, 116]⟩ : ByteArray)] : List ByteArray))).bind fun bt118 => ((spec_l1Cur_of.f s0_0 bt118.2.1 bt118.2.2 (([(⟨#[120]⟩ : ByteArray), (⟨#[120, 121]⟩ : ByteArray), (⟨#[122]⟩ : ByteArray)] : List ByteArray))).bind fun bt124 => (if ([] : List (S69)).length < 4398046511104 then (spec_l1Cur_key.j0 k s0_0 bt124.2.1 bt124.2.2 t105 (([] : List (S69)) ++ [(⟨bt118.1, bt124.1⟩ : S69)]) (wrap64 (10 * t108))) else (none)))) = some (r1, r2, r3, r4, r5) := by rw [if_pos rfl] at H; exact H
    clear H
    have H := H1
    clear H1
    obtain ⟨y115, hy115⟩ : ∃ y_ : List ByteArray, y_ = (([(⟨#[97]⟩ : ByteArray), (⟨#[97, 98]⟩ : ByteArray), (⟨#[104, 111, 115, 116]⟩ : ByteArray)] : List ByteArray)) := ⟨_, rfl⟩
    replace H : ((spec_l1Cur_of.f s0_0 t113 t114 y115).bind fun bt118 => ((spec_l1Cur_of.f s0_0 bt118.2.1 bt118.2.2 (([(⟨#[120]⟩ : ByteArray), (⟨#[120, 121]⟩ : ByteArray), (⟨#[122]⟩ : ByteArray)] : List ByteArray))).bind fun bt124 => (if ([] : List (S69)).length < 4398046511104 then (spec_l1Cur_key.j0 k s0_0 bt124.2.1 bt124.2.2 t105 (([] : List (S69)) ++ [(⟨bt118.1, bt124.1⟩ : S69)]) (wrap64 (10 * t108))) else (none)))) = some (r1, r2, r3, r4, r5) := by first | (rw [hy115]; with_reducible exact H) | (have H2_ := (Option.bind_some _ _).symm.trans H; rw [hy115]; with_reducible exact H2_) | (have H2_ := (Option.bind_some _ _).symm.trans H; with_reducible exact H2_) | with_reducible exact H | (rw [hy115]; exact H) | exact H
    have Ny115 := aM hy115
    clear hy115
    replace H := Option.bind_eq_some_iff.mp H
    obtain ⟨⟨t118, t119, t120⟩, A180, H⟩ := H
    try dsimp only at H
    have A18 := aM A180
    clear A180
    obtain ⟨y121, hy121⟩ : ∃ y_ : List ByteArray, y_ = (([(⟨#[120]⟩ : ByteArray), (⟨#[120, 121]⟩ : ByteArray), (⟨#[122]⟩ : ByteArray)] : List ByteArray)) := ⟨_, rfl⟩
    replace H : ((spec_l1Cur_of.f s0_0 t119 t120 y121).bind fun bt124 => (if ([] : List (S69)).length < 4398046511104 then (spec_l1Cur_key.j0 k s0_0 bt124.2.1 bt124.2.2 t105 (([] : List (S69)) ++ [(⟨t118, bt124.1⟩ : S69)]) (wrap64 (10 * t108))) else (none))) = some (r1, r2, r3, r4, r5) := by first | (rw [hy121]; with_reducible exact H) | (have H2_ := (Option.bind_some _ _).symm.trans H; rw [hy121]; with_reducible exact H2_) | (have H2_ := (Option.bind_some _ _).symm.trans H; with_reducible exact H2_) | with_reducible exact H | (rw [hy121]; exact H) | exact H
    have Ny121 := aM hy121
    clear hy121
    replace H := Option.bind_eq_some_iff.mp H
    obtain ⟨⟨t124, t125, t126⟩, A190, H⟩ := H
    try dsimp only at H
    have A19 := aM A190
    clear A190
    by_cases c20 : ([] : List (S69)).length < 4398046511104
    · rw [if_pos c20] at H
      have LMc20 := aM c20
      clear c20
      obtain ⟨y127, hy127⟩ : ∃ y_ : List (S69), y_ = (([] : List (S69)) ++ [(⟨t118, t124⟩ : S69)]) := ⟨_, rfl⟩
      replace H : (spec_l1Cur_key.j0 k s0_0 t125 t126 t105 y127 (wrap64 (10 * t108))) = some (r1, r2, r3, r4, r5) := by first | (rw [hy127]; with_reducible exact H) | (have H2_ := (Option.bind_some _ _).symm.trans H; rw [hy127]; with_reducible exact H2_) | (have H2_ := (Option.bind_some _ _).symm.trans H; with_reducible exact H2_) | with_reducible exact H | (rw [hy127]; exact H) | exact H
      have Ny127 := aM hy127
      clear hy127
      have H' := aM H
      clear H
      try go_wp2
      have _ := aM (Kd.R_drew HO104.out)
      have _ := aM (blk_drew BK101.out)
      have _ := aM (blk_drew BK111.out)
      have _ := aM (IsS62.drew HI0.out)
      have _ := aM (keep_drew HK.out)
      have _ := aM (below_drew1 HB.out)
      clear HO104
      clear BK101
      clear BK111
      clear HI0
      clear HK
      clear HB
      rename_i HO104 BK101 BK111 HI0 HK HB
      refine start_ (n := 13) (S := fun w' => w'.cell? ⟨gb111, 0, none⟩ = some (.string t105) ∧ w'.cell? ⟨gb111, 1, none⟩ = some (.slice none 0 0) ∧ w'.cell? ⟨gb111, 2, none⟩ = some (.int .i64 (wrap64 (10 * t108)))) (ds := [12]) #[false, false, false, false, false, false, false, false, false, false, false, false, false] (by kernel_rfl) rfl rfl ⟨(blk_cell BK111.out 0).trans rfl, (blk_cell BK111.out 1).trans rfl, (blk_cell BK111.out 2).trans rfl⟩ (fun hHeld => ?_); refine with_tabW spec_l1Cur_key.tab3 spec_l1Cur_key.bits3 (fun HT_ HW_ => ?_)
      generalize w16.drew = w21 at HO104 BK101 BK111 HI0 HK HB hHeld ⊢
      refine pure_ (i := 0) (N := some 13) (v := ?_) (a' := ?_) #[true, false, false, false, false, false, false, false, false, false, false, false, false] rfl rfl (any_of HT_.out (by kernel_rfl)) (fun _ _ _ h => h) (Or.inl ⟨by rfl, ?_⟩) ?_ ?_
      rotate_left
      · intro w'
        go_simp
        with_reducible rfl
      rotate_left
      · simp only [Act.put, List.setIfInBounds_toArray, List.set_cons_zero, List.set_cons_succ, i64_w, i32_w]
        rfl
      refine pure_ (i := 2) (N := some 15) (v := ?_) (a' := ?_) #[true, false, true, false, false, false, false, false, false, false, false, false, false] rfl rfl (any_of HT_.out (by kernel_rfl)) (fun _ _ _ h => h) (Or.inl ⟨by rfl, ?_⟩) ?_ ?_
      rotate_left
      · intro w'
        go_simp
        with_reducible rfl
      rotate_left
      · simp only [Act.put, List.setIfInBounds_toArray, List.set_cons_zero, List.set_cons_succ, i64_w, i32_w]
        rfl
      refine pure_ (i := 5) (N := some 18) (v := ?_) (a' := ?_) #[true, false, true, false, false, true, false, false, false, false, false, false, false] rfl rfl (any_of HT_.out (by kernel_rfl)) (fun _ _ _ h => h) (Or.inl ⟨by rfl, ?_⟩) ?_ ?_
      rotate_left
      · intro w'
        go_simp
        with_reducible rfl
      rotate_left
      · simp only [Act.put, List.setIfInBounds_toArray, List.set_cons_zero, List.set_cons_succ, i64_w, i32_w]
        rfl
      refine take_ (i := 1) (N := some 14) (v := ?_) (a' := ?_) #[true, true, true, false, false, true, false, false, false, false, false, false, false] rfl rfl (take_ofW HT_.out HW_.out (by kernel_rfl)) (fun _ _ _ h => h) (Or.inl ⟨by rfl, ?_⟩) hHeld ?_ ?_
      rotate_left
      · rintro w' ⟨s0, s1, s2⟩
        go_simp
        with_reducible rfl
      rotate_left
      · simp only [Act.put, List.setIfInBounds_toArray, List.set_cons_zero, List.set_cons_succ, i64_w, i32_w]
        rfl
      refine join_ (σ := Value × Value) 6 #[true, true, true, true, true, true, true, false, false, false, false, false, false] (fun s_ => [(16, s_.1), (17, .string t118), (19, s_.2)]) (fun s_ w' => (w'.cell? ⟨gb111, 0, none⟩ = some (.string t105) ∧ w'.cell? ⟨gb111, 1, none⟩ = some (.slice none 0 0) ∧ w'.cell? ⟨gb111, 2, none⟩ = some (.int .i64 (wrap64 (10 * t108)))) ∧ (Kd.R Kd.string 9 w' w.heap.size (fun k_ => some k_ ≠ (s_.1 : Value).ownBlock ∧ some k_ ≠ (s_.2 : Value).ownBlock) (.slice Ao9 y102.length co9) y102) ∧ (Kd.R Kd.string 9 w' w.heap.size (fun k_ => some k_ ≠ (.slice Ao9 y102.length co9 : Value).ownBlock ∧ some k_ ≠ (s_.2 : Value).ownBlock) s_.1 y115) ∧ (Kd.R Kd.string 9 w' w.heap.size (fun k_ => some k_ ≠ (.slice Ao9 y102.length co9 : Value).ownBlock ∧ some k_ ≠ (s_.1 : Value).ownBlock) s_.2 y121) ∧ (w'.heap[gb101]? = some (.cells #[.string (⟨#[]⟩ : ByteArray), .slice none 0 0, .int .i64 0] 25 (0, 0))) ∧ (w'.heap[gb111]? = some (.cells #[.string t105, .slice none 0 0, .int .i64 (wrap64 (10 * t108))] 25 (0, 0))) ∧ (IsS62 w0 w' g s0_0 t119 t120) ∧ (KeepBut w w' g none) ∧ (Below w0.heap.size w0 w')) ?_ ?_
      rotate_left
      · intro hCont
        refine two_ (i := 3) (j := 6) (Ni := some 16) (Nj := some 19) #[true, true, true, true, false, true, false, false, false, false, false, false, false] #[true, true, true, false, false, true, true, false, false, false, false, false, false] rfl rfl rfl rfl (two_of HT_.out (by kernel_rfl)) (by decide) (by decide) (fun K hK => ?_) (fun K hK => ?_)
        · skip
          refine Kd.R_lit_step Kd.string _ 9 ?hg (N := 16) ?hd (xs := ([(⟨#[97]⟩ : ByteArray), (⟨#[97, 98]⟩ : ByteArray), (⟨#[104, 111, 115, 116]⟩ : ByteArray)] : List ByteArray)) (inner := [.string (⟨#[97]⟩ : ByteArray), .string (⟨#[97, 98]⟩ : ByteArray), .string (⟨#[104, 111, 115, 116]⟩ : ByteArray)]) (ok := fun _ => True) (okp := fun _ => True) ?hr ?hp (fun _ hk => hk) trivial (Below.refl _ _) (Nat.le_refl _) (by simp) ?_; (case hd => rfl); (case hg => rfl); (case hr => first | (go_simp; done) | (go_simp; rfl)); (case hp => exact (Reps.one (show Kd.M Kd.string _ _ _ (⟨#[97]⟩ : ByteArray) [.string (⟨#[97]⟩ : ByteArray)] from rfl) (Reps.one (show Kd.M Kd.string _ _ _ (⟨#[97, 98]⟩ : ByteArray) [.string (⟨#[97, 98]⟩ : ByteArray)] from rfl) (Reps.one (show Kd.M Kd.string _ _ _ (⟨#[104, 111, 115, 116]⟩ : ByteArray) [.string (⟨#[104, 111, 115, 116]⟩ : ByteArray)] from rfl) (Reps.none _ _)))))
          intro v116 w22 ho23 hb hg_ hnew_
          clear hg_ hnew_
          (first | rw [← Ny115.out] at ho23 | (simp only [Int.reduceToNat] at ho23; rw [← Ny115.out] at ho23))
          have _ := aM (Kd.R_elder' (rZ HO104.out) (Kd.R_base ho23) hb)
          have _ := aM (Kd.R_lower (Kd.R_new' ho23 (Kd.R_lt (rZ HO104.out))) (keep_size (w := w) (g := g) (row := none) z7c8e))
          have _ := aM (IsS62.below (by repeat (first | (with_reducible first | exact HI0.out | apply IsS62.alloc | apply IsS62.drewN | apply IsS62.drew | apply IsS62.set_1 | apply IsS62.set_2 | refine IsS62.far ?_ (Aside0.out (by assumption)) _) | exact HI0.out)) hb)
          have _ := bB gb101 hb
          have _ := bB gb111 hb
          have _ := aM (KeepBut.trans z7c8e (KeepBut.of_below hb g none) (.inl rfl))
          have _ := aM (below_step (by repeat (first | (with_reducible first | exact HB.out | apply below_alloc | apply pw_below_drewN | apply below_drew1 | refine below_set ?_ (IsS62.ge (Aside0.out (by assumption))) | refine below_set ?_ (Aside0.out (by assumption))) | exact HB.out)) hb)
          clear HO104
          clear HI0
          clear BK101
          clear BK111
          clear HK
          clear HB
          rename_i HO104 HO117 HI0 BK101 BK111 HK HB
          clear hb ho23
          obtain ⟨Ao24, co24, eo24⟩ := Kd.R_slice HO117.out
          (first | subst eo24 | (injection eo24 with f1_ f2_ f3_; have f4_ := f1_.symm; have f5_ := f3_.symm; clear f1_ f2_ f3_; subst f4_; subst f5_))
          refine hK.out _ _ ⟨(blk_cell BK111.out 0).trans rfl, (blk_cell BK111.out 1).trans rfl, (blk_cell BK111.out 2).trans rfl⟩ (fun hHeld => ?_)
          clear hK K
          refine norm_ (a' := ?_) ?_ ?_
          rotate_left
          · show Act.put _ (some 16) _ = _
            simp only [Act.put, List.setIfInBounds_toArray, List.set_cons_zero, List.set_cons_succ, i64_w, i32_w]
            rfl
          refine two_ (i := 4) (j := 6) (Ni := some 17) (Nj := some 19) #[true, true, true, true, true, true, false, false, false, false, false, false, false] #[true, true, true, true, false, true, true, false, false, false, false, false, false] rfl rfl rfl rfl (two_of HT_.out (by kernel_rfl)) (by decide) (by decide) (fun K hK => ?_) (fun K hK => ?_)
          · skip
            refine goes_ Tryd.func65 (by kernel_rfl) rfl #[.pointer (some ⟨g, 0, none⟩), .slice Ao24 y115.length co24] (by rfl) rfl rfl zee81 ?_
            with_reducible refine (spec_l1Cur_of.calls g s0_0 t113 t114 _ _ y115 t118 t119 t120 w0 _ ?side1 ?side2 ?side3 ?side4 ?side5 A18.out).mono ?_
            (case side1 => exact (by repeat (first | (with_reducible first | exact HI0.out | apply IsS62.alloc | apply IsS62.drewN | apply IsS62.drew | apply IsS62.set_1 | apply IsS62.set_2 | refine IsS62.far ?_ (Aside0.out (by assumption)) _) | exact HI0.out)))
            (case side2 => exact (by repeat (first | (with_reducible first | exact HB.out | apply below_alloc | apply pw_below_drewN | apply below_drew1 | refine below_set ?_ (IsS62.ge (Aside0.out (by assumption))) | refine below_set ?_ (Aside0.out (by assumption))) | exact HB.out)))
            (case side3 => exact (by repeat (first | exact (Kd.R_reads' HO117.out).2.2 | (with_reducible refine Kd.C_alloc ?_ _) | (with_reducible refine Kd.C_drewN ?_ _) | (with_reducible refine Kd.C_drew ?_))))
            (case side4 => exact (Kd.R_reads' HO117.out).2.1)
            (case side5 => exact far_slice (IsS62.own_ne HI0.out HO117.out (by decide)))
            rintro e w25 ⟨rfl, hi, hb, hk⟩
            refine ⟨_, rfl, ?_⟩
            have _ := aM (KeepBut.blk hk (g' := gb101) bkZ NB101_0.out (by simp))
            have _ := aM (Kd.R_mono (Kd.R_keep (IsS62.apart (show IsS62 w0 _ g s0_0 t113 t114 from by repeat (first | (with_reducible first | exact HI0.out | apply IsS62.alloc | apply IsS62.drewN | apply IsS62.drew | apply IsS62.set_1 | apply IsS62.set_2 | refine IsS62.far ?_ (Aside0.out (by assumption)) _) | exact HI0.out)) (rZ HO104.out) (by decide)) hk (fun _ h => h.2)) (fun _ h => h.1))
            have _ := aM (KeepBut.blk hk (g' := gb111) bkZ NB111_0.out (by simp))
            have _ := aM (Kd.R_mono (Kd.R_keep (IsS62.apart (show IsS62 w0 _ g s0_0 t113 t114 from by repeat (first | (with_reducible first | exact HI0.out | apply IsS62.alloc | apply IsS62.drewN | apply IsS62.drew | apply IsS62.set_1 | apply IsS62.set_2 | refine IsS62.far ?_ (Aside0.out (by assumption)) _) | exact HI0.out)) (rZ HO117.out) (by decide)) hk (fun _ h => h.2)) (fun _ h => h.1))
            have _ := aM (KeepBut.trans z7c8e hk (.inl rfl))
            have _ := aM hb
            have _ := aM hi
            clear BK101
            clear HO104
            clear BK111
            clear HO117
            clear HK
            clear HB
            clear HI0
            rename_i BK101 HO104 BK111 HO117 HK HB HI0
            (try clear hb)
            (try clear hb2)
            (try clear hk)
            (try clear hi)
            refine hK.out _ _ ⟨(blk_cell BK111.out 0).trans rfl, (blk_cell BK111.out 1).trans rfl, (blk_cell BK111.out 2).trans rfl⟩ (fun hHeld => ?_)
            clear hK K
            refine norm_ (a' := ?_) ?_ ?_
            rotate_left
            · show Act.put _ (some 17) _ = _
              simp only [Act.put, List.setIfInBounds_toArray, List.set_cons_zero, List.set_cons_succ, i64_w, i32_w]
              rfl
            refine one_ (i := 6) (N := some 19) #[true, true, true, true, true, true, true, false, false, false, false, false, false] rfl rfl (one_of HT_.out (by kernel_rfl)) (by decide) (fun K hK => ?_)
            refine Kd.R_lit_step Kd.string _ 9 ?hg (N := 19) ?hd (xs := ([(⟨#[120]⟩ : ByteArray), (⟨#[120, 121]⟩ : ByteArray), (⟨#[122]⟩ : ByteArray)] : List ByteArray)) (inner := [.string (⟨#[120]⟩ : ByteArray), .string (⟨#[120, 121]⟩ : ByteArray), .string (⟨#[122]⟩ : ByteArray)]) (ok := fun _ => True) (okp := fun _ => True) ?hr ?hp (fun _ hk => hk) trivial (Below.refl _ _) (Nat.le_refl _) (by simp) ?_; (case hd => rfl); (case hg => rfl); (case hr => first | (go_simp; done) | (go_simp; rfl)); (case hp => exact (Reps.one (show Kd.M Kd.string _ _ _ (⟨#[120]⟩ : ByteArray) [.string (⟨#[120]⟩ : ByteArray)] from rfl) (Reps.one (show Kd.M Kd.string _ _ _ (⟨#[120, 121]⟩ : ByteArray) [.string (⟨#[120, 121]⟩ : ByteArray)] from rfl) (Reps.one (show Kd.M Kd.string _ _ _ (⟨#[122]⟩ : ByteArray) [.string (⟨#[122]⟩ : ByteArray)] from rfl) (Reps.none _ _)))))
            intro v122 w26 ho27 hb hg_ hnew_
            clear hg_ hnew_
            (first | rw [← Ny121.out] at ho27 | (simp only [Int.reduceToNat] at ho27; rw [← Ny121.out] at ho27))
            have _ := aM (Kd.R_elder' (rZ HO104.out) (Kd.R_base ho27) hb)
            have _ := aM (Kd.R_elder' (rZ HO117.out) (Kd.R_base ho27) hb)
            have _ := aM (Kd.R_lower (Kd.R_new' (Kd.R_new' ho27 (Kd.R_lt (rZ HO104.out))) (Kd.R_lt (rZ HO117.out))) (keep_size (w := w) (g := g) (row := none) z7c8e))
            have _ := aM (IsS62.below (by repeat (first | (with_reducible first | exact HI0.out | apply IsS62.alloc | apply IsS62.drewN | apply IsS62.drew | apply IsS62.set_1 | apply IsS62.set_2 | refine IsS62.far ?_ (Aside0.out (by assumption)) _) | exact HI0.out)) hb)
            have _ := bB gb101 hb
            have _ := bB gb111 hb
            have _ := aM (KeepBut.trans z7c8e (KeepBut.of_below hb g none) (.inl rfl))
            have _ := aM (below_step (by repeat (first | (with_reducible first | exact HB.out | apply below_alloc | apply pw_below_drewN | apply below_drew1 | refine below_set ?_ (IsS62.ge (Aside0.out (by assumption))) | refine below_set ?_ (Aside0.out (by assumption))) | exact HB.out)) hb)
            clear HO104
            clear HO117
            clear HI0
            clear BK101
            clear BK111
            clear HK
            clear HB
            rename_i HO104 HO117 HO123 HI0 BK101 BK111 HK HB
            clear hb ho27
            refine hK.out _ _ ⟨(blk_cell BK111.out 0).trans rfl, (blk_cell BK111.out 1).trans rfl, (blk_cell BK111.out 2).trans rfl⟩ (fun hHeld => ?_)
            clear hK K
            refine norm_ (a' := ?_) ?_ ?_
            rotate_left
            · show Act.put _ (some 19) _ = _
              simp only [Act.put, List.setIfInBounds_toArray, List.set_cons_zero, List.set_cons_succ, i64_w, i32_w]
              rfl
            exact norm_ z87ef (hCont (.slice Ao24 y115.length co24, v122) _ ⟨hHeld, (by (with_reducible repeat (first | apply Kd.R_alloc | apply Kd.R_drewN | apply Kd.R_drew)); exact Kd.R_mono HO104.out (fun _ hk => ⟨hk.1.2, hk.2⟩)), (by (with_reducible repeat (first | apply Kd.R_alloc | apply Kd.R_drewN | apply Kd.R_drew)); exact Kd.R_mono HO117.out (fun _ hk => ⟨hk.1.2, hk.2⟩)), (by (with_reducible repeat (first | apply Kd.R_alloc | apply Kd.R_drewN | apply Kd.R_drew)); exact Kd.R_mono HO123.out (fun _ hk => ⟨hk.1.2, hk.2⟩)), bkZ, bkZ, (by repeat (first | (with_reducible first | exact HI0.out | apply IsS62.alloc | apply IsS62.drewN | apply IsS62.drew | apply IsS62.set_1 | apply IsS62.set_2 | refine IsS62.far ?_ (Aside0.out (by assumption)) _) | exact HI0.out)), z7c8e, (by repeat (first | (with_reducible first | exact HB.out | apply below_alloc | apply pw_below_drewN | apply below_drew1 | refine below_set ?_ (IsS62.ge (Aside0.out (by assumption))) | refine below_set ?_ (Aside0.out (by assumption))) | exact HB.out))⟩)
          · skip
            refine Kd.R_lit_step Kd.string _ 9 ?hg (N := 19) ?hd (xs := ([(⟨#[120]⟩ : ByteArray), (⟨#[120, 121]⟩ : ByteArray), (⟨#[122]⟩ : ByteArray)] : List ByteArray)) (inner := [.string (⟨#[120]⟩ : ByteArray), .string (⟨#[120, 121]⟩ : ByteArray), .string (⟨#[122]⟩ : ByteArray)]) (ok := fun _ => True) (okp := fun _ => True) ?hr ?hp (fun _ hk => hk) trivial (Below.refl _ _) (Nat.le_refl _) (by simp) ?_; (case hd => rfl); (case hg => rfl); (case hr => first | (go_simp; done) | (go_simp; rfl)); (case hp => exact (Reps.one (show Kd.M Kd.string _ _ _ (⟨#[120]⟩ : ByteArray) [.string (⟨#[120]⟩ : ByteArray)] from rfl) (Reps.one (show Kd.M Kd.string _ _ _ (⟨#[120, 121]⟩ : ByteArray) [.string (⟨#[120, 121]⟩ : ByteArray)] from rfl) (Reps.one (show Kd.M Kd.string _ _ _ (⟨#[122]⟩ : ByteArray) [.string (⟨#[122]⟩ : ByteArray)] from rfl) (Reps.none _ _)))))
            intro v122 w24 ho25 hb hg_ hnew_
            clear hg_ hnew_
            (first | rw [← Ny121.out] at ho25 | (simp only [Int.reduceToNat] at ho25; rw [← Ny121.out] at ho25))
            have _ := aM (Kd.R_elder' (rZ HO104.out) (Kd.R_base ho25) hb)
            have _ := aM (Kd.R_elder' (rZ HO117.out) (Kd.R_base ho25) hb)
            have _ := aM (Kd.R_lower (Kd.R_new' (Kd.R_new' ho25 (Kd.R_lt (rZ HO104.out))) (Kd.R_lt (rZ HO117.out))) (keep_size (w := w) (g := g) (row := none) z7c8e))
            have _ := aM (IsS62.below (by repeat (first | (with_reducible first | exact HI0.out | apply IsS62.alloc | apply IsS62.drewN | apply IsS62.drew | apply IsS62.set_1 | apply IsS62.set_2 | refine IsS62.far ?_ (Aside0.out (by assumption)) _) | exact HI0.out)) hb)
            have _ := bB gb101 hb
            have _ := bB gb111 hb
            have _ := aM (KeepBut.trans z7c8e (KeepBut.of_below hb g none) (.inl rfl))
            have _ := aM (below_step (by repeat (first | (with_reducible first | exact HB.out | apply below_alloc | apply pw_below_drewN | apply below_drew1 | refine below_set ?_ (IsS62.ge (Aside0.out (by assumption))) | refine below_set ?_ (Aside0.out (by assumption))) | exact HB.out)) hb)
            clear HO104
            clear HO117
            clear HI0
            clear BK101
            clear BK111
            clear HK
            clear HB
            rename_i HO104 HO117 HO123 HI0 BK101 BK111 HK HB
            clear hb ho25
            obtain ⟨Ao26, co26, eo26⟩ := Kd.R_slice HO117.out
            (first | subst eo26 | (injection eo26 with f1_ f2_ f3_; have f4_ := f1_.symm; have f5_ := f3_.symm; clear f1_ f2_ f3_; subst f4_; subst f5_))
            refine hK.out _ _ ⟨(blk_cell BK111.out 0).trans rfl, (blk_cell BK111.out 1).trans rfl, (blk_cell BK111.out 2).trans rfl⟩ (fun hHeld => ?_)
            clear hK K
            refine norm_ (a' := ?_) ?_ ?_
            rotate_left
            · show Act.put _ (some 19) _ = _
              simp only [Act.put, List.setIfInBounds_toArray, List.set_cons_zero, List.set_cons_succ, i64_w, i32_w]
              rfl
            refine one_ (i := 4) (N := some 17) #[true, true, true, true, true, true, true, false, false, false, false, false, false] rfl rfl (one_of HT_.out (by kernel_rfl)) (by decide) (fun K hK => ?_)
            refine goes_ Tryd.func65 (by kernel_rfl) rfl #[.pointer (some ⟨g, 0, none⟩), .slice Ao26 y115.length co26] (by rfl) rfl rfl zee81 ?_
            with_reducible refine (spec_l1Cur_of.calls g s0_0 t113 t114 _ _ y115 t118 t119 t120 w0 _ ?side1 ?side2 ?side3 ?side4 ?side5 A18.out).mono ?_
            (case side1 => exact (by repeat (first | (with_reducible first | exact HI0.out | apply IsS62.alloc | apply IsS62.drewN | apply IsS62.drew | apply IsS62.set_1 | apply IsS62.set_2 | refine IsS62.far ?_ (Aside0.out (by assumption)) _) | exact HI0.out)))
            (case side2 => exact (by repeat (first | (with_reducible first | exact HB.out | apply below_alloc | apply pw_below_drewN | apply below_drew1 | refine below_set ?_ (IsS62.ge (Aside0.out (by assumption))) | refine below_set ?_ (Aside0.out (by assumption))) | exact HB.out)))
            (case side3 => exact (by repeat (first | exact (Kd.R_reads' HO117.out).2.2 | (with_reducible refine Kd.C_alloc ?_ _) | (with_reducible refine Kd.C_drewN ?_ _) | (with_reducible refine Kd.C_drew ?_))))
            (case side4 => exact (Kd.R_reads' HO117.out).2.1)
            (case side5 => exact far_slice (IsS62.own_ne HI0.out HO117.out (by decide)))
            rintro e w27 ⟨rfl, hi, hb, hk⟩
            refine ⟨_, rfl, ?_⟩
            have _ := aM (KeepBut.blk hk (g' := gb101) bkZ NB101_0.out (by simp))
            have _ := aM (Kd.R_mono (Kd.R_keep (IsS62.apart (show IsS62 w0 _ g s0_0 t113 t114 from by repeat (first | (with_reducible first | exact HI0.out | apply IsS62.alloc | apply IsS62.drewN | apply IsS62.drew | apply IsS62.set_1 | apply IsS62.set_2 | refine IsS62.far ?_ (Aside0.out (by assumption)) _) | exact HI0.out)) (rZ HO104.out) (by decide)) hk (fun _ h => h.2)) (fun _ h => h.1))
            have _ := aM (KeepBut.blk hk (g' := gb111) bkZ NB111_0.out (by simp))
            have _ := aM (Kd.R_mono (Kd.R_keep (IsS62.apart (show IsS62 w0 _ g s0_0 t113 t114 from by repeat (first | (with_reducible first | exact HI0.out | apply IsS62.alloc | apply IsS62.drewN | apply IsS62.drew | apply IsS62.set_1 | apply IsS62.set_2 | refine IsS62.far ?_ (Aside0.out (by assumption)) _) | exact HI0.out)) (rZ HO117.out) (by decide)) hk (fun _ h => h.2)) (fun _ h => h.1))
            have _ := aM (Kd.R_mono (Kd.R_keep (IsS62.apart (show IsS62 w0 _ g s0_0 t113 t114 from by repeat (first | (with_reducible first | exact HI0.out | apply IsS62.alloc | apply IsS62.drewN | apply IsS62.drew | apply IsS62.set_1 | apply IsS62.set_2 | refine IsS62.far ?_ (Aside0.out (by assumption)) _) | exact HI0.out)) (rZ HO123.out) (by decide)) hk (fun _ h => h.2)) (fun _ h => h.1))
            have _ := aM (KeepBut.trans z7c8e hk (.inl rfl))
            have _ := aM hb
            have _ := aM hi
            clear BK101
            clear HO104
            clear BK111
            clear HO117
            clear HO123
            clear HK
            clear HB
            clear HI0
            rename_i BK101 HO104 BK111 HO117 HO123 HK HB HI0
            (try clear hb)
            (try clear hb2)
            (try clear hk)
            (try clear hi)
            refine hK.out _ _ ⟨(blk_cell BK111.out 0).trans rfl, (blk_cell BK111.out 1).trans rfl, (blk_cell BK111.out 2).trans rfl⟩ (fun hHeld => ?_)
            clear hK K
            refine norm_ (a' := ?_) ?_ ?_
            rotate_left
            · show Act.put _ (some 17) _ = _
              simp only [Act.put, List.setIfInBounds_toArray, List.set_cons_zero, List.set_cons_succ, i64_w, i32_w]
              rfl
            exact norm_ z87ef (hCont (.slice Ao26 y115.length co26, v122) _ ⟨hHeld, (by (with_reducible repeat (first | apply Kd.R_alloc | apply Kd.R_drewN | apply Kd.R_drew)); exact Kd.R_mono HO104.out (fun _ hk => ⟨hk.1.2, hk.2⟩)), (by (with_reducible repeat (first | apply Kd.R_alloc | apply Kd.R_drewN | apply Kd.R_drew)); exact Kd.R_mono HO117.out (fun _ hk => ⟨hk.1.2, hk.2⟩)), (by (with_reducible repeat (first | apply Kd.R_alloc | apply Kd.R_drewN | apply Kd.R_drew)); exact Kd.R_mono HO123.out (fun _ hk => ⟨hk.1.2, hk.2⟩)), bkZ, bkZ, (by repeat (first | (with_reducible first | exact HI0.out | apply IsS62.alloc | apply IsS62.drewN | apply IsS62.drew | apply IsS62.set_1 | apply IsS62.set_2 | refine IsS62.far ?_ (Aside0.out (by assumption)) _) | exact HI0.out)), z7c8e, (by repeat (first | (with_reducible first | exact HB.out | apply below_alloc | apply pw_below_drewN | apply below_drew1 | refine below_set ?_ (IsS62.ge (Aside0.out (by assumption))) | refine below_set ?_ (Aside0.out (by assumption))) | exact HB.out))⟩)
        · skip
          refine Kd.R_lit_step Kd.string _ 9 ?hg (N := 19) ?hd (xs := ([(⟨#[120]⟩ : ByteArray), (⟨#[120, 121]⟩ : ByteArray), (⟨#[122]⟩ : ByteArray)] : List ByteArray)) (inner := [.string (⟨#[120]⟩ : ByteArray), .string (⟨#[120, 121]⟩ : ByteArray), .string (⟨#[122]⟩ : ByteArray)]) (ok := fun _ => True) (okp := fun _ => True) ?hr ?hp (fun _ hk => hk) trivial (Below.refl _ _) (Nat.le_refl _) (by simp) ?_; (case hd => rfl); (case hg => rfl); (case hr => first | (go_simp; done) | (go_simp; rfl)); (case hp => exact (Reps.one (show Kd.M Kd.string _ _ _ (⟨#[120]⟩ : ByteArray) [.string (⟨#[120]⟩ : ByteArray)] from rfl) (Reps.one (show Kd.M Kd.string _ _ _ (⟨#[120, 121]⟩ : ByteArray) [.string (⟨#[120, 121]⟩ : ByteArray)] from rfl) (Reps.one (show Kd.M Kd.string _ _ _ (⟨#[122]⟩ : ByteArray) [.string (⟨#[122]⟩ : ByteArray)] from rfl) (Reps.none _ _)))))
          intro v122 w22 ho23 hb hg_ hnew_
          clear hg_ hnew_
          (first | rw [← Ny121.out] at ho23 | (simp only [Int.reduceToNat] at ho23; rw [← Ny121.out] at ho23))
          have _ := aM (Kd.R_elder' (rZ HO104.out) (Kd.R_base ho23) hb)
          have _ := aM (Kd.R_lower (Kd.R_new' ho23 (Kd.R_lt (rZ HO104.out))) (keep_size (w := w) (g := g) (row := none) z7c8e))
          have _ := aM (IsS62.below (by repeat (first | (with_reducible first | exact HI0.out | apply IsS62.alloc | apply IsS62.drewN | apply IsS62.drew | apply IsS62.set_1 | apply IsS62.set_2 | refine IsS62.far ?_ (Aside0.out (by assumption)) _) | exact HI0.out)) hb)
          have _ := bB gb101 hb
          have _ := bB gb111 hb
          have _ := aM (KeepBut.trans z7c8e (KeepBut.of_below hb g none) (.inl rfl))
          have _ := aM (below_step (by repeat (first | (with_reducible first | exact HB.out | apply below_alloc | apply pw_below_drewN | apply below_drew1 | refine below_set ?_ (IsS62.ge (Aside0.out (by assumption))) | refine below_set ?_ (Aside0.out (by assumption))) | exact HB.out)) hb)
          clear HO104
          clear HI0
          clear BK101
          clear BK111
          clear HK
          clear HB
          rename_i HO104 HO123 HI0 BK101 BK111 HK HB
          clear hb ho23
          refine hK.out _ _ ⟨(blk_cell BK111.out 0).trans rfl, (blk_cell BK111.out 1).trans rfl, (blk_cell BK111.out 2).trans rfl⟩ (fun hHeld => ?_)
          clear hK K
          refine norm_ (a' := ?_) ?_ ?_
          rotate_left
          · show Act.put _ (some 19) _ = _
            simp only [Act.put, List.setIfInBounds_toArray, List.set_cons_zero, List.set_cons_succ, i64_w, i32_w]
            rfl
          refine one_ (i := 3) (N := some 16) #[true, true, true, true, false, true, true, false, false, false, false, false, false] rfl rfl (one_of HT_.out (by kernel_rfl)) (by decide) (fun K hK => ?_)
          refine Kd.R_lit_step Kd.string _ 9 ?hg (N := 16) ?hd (xs := ([(⟨#[97]⟩ : ByteArray), (⟨#[97, 98]⟩ : ByteArray), (⟨#[104, 111, 115, 116]⟩ : ByteArray)] : List ByteArray)) (inner := [.string (⟨#[97]⟩ : ByteArray), .string (⟨#[97, 98]⟩ : ByteArray), .string (⟨#[104, 111, 115, 116]⟩ : ByteArray)]) (ok := fun _ => True) (okp := fun _ => True) ?hr ?hp (fun _ hk => hk) trivial (Below.refl _ _) (Nat.le_refl _) (by simp) ?_; (case hd => rfl); (case hg => rfl); (case hr => first | (go_simp; done) | (go_simp; rfl)); (case hp => exact (Reps.one (show Kd.M Kd.string _ _ _ (⟨#[97]⟩ : ByteArray) [.string (⟨#[97]⟩ : ByteArray)] from rfl) (Reps.one (show Kd.M Kd.string _ _ _ (⟨#[97, 98]⟩ : ByteArray) [.string (⟨#[97, 98]⟩ : ByteArray)] from rfl) (Reps.one (show Kd.M Kd.string _ _ _ (⟨#[104, 111, 115, 116]⟩ : ByteArray) [.string (⟨#[104, 111, 115, 116]⟩ : ByteArray)] from rfl) (Reps.none _ _)))))
          intro v116 w24 ho25 hb hg_ hnew_
          clear hg_ hnew_
          (first | rw [← Ny115.out] at ho25 | (simp only [Int.reduceToNat] at ho25; rw [← Ny115.out] at ho25))
          have _ := aM (Kd.R_elder' (rZ HO104.out) (Kd.R_base ho25) hb)
          have _ := aM (Kd.R_elder' (rZ HO123.out) (Kd.R_base ho25) hb)
          have _ := aM (Kd.R_lower (Kd.R_new' (Kd.R_new' ho25 (Kd.R_lt (rZ HO104.out))) (Kd.R_lt (rZ HO123.out))) (keep_size (w := w) (g := g) (row := none) z7c8e))
          have _ := aM (IsS62.below (by repeat (first | (with_reducible first | exact HI0.out | apply IsS62.alloc | apply IsS62.drewN | apply IsS62.drew | apply IsS62.set_1 | apply IsS62.set_2 | refine IsS62.far ?_ (Aside0.out (by assumption)) _) | exact HI0.out)) hb)
          have _ := bB gb101 hb
          have _ := bB gb111 hb
          have _ := aM (KeepBut.trans z7c8e (KeepBut.of_below hb g none) (.inl rfl))
          have _ := aM (below_step (by repeat (first | (with_reducible first | exact HB.out | apply below_alloc | apply pw_below_drewN | apply below_drew1 | refine below_set ?_ (IsS62.ge (Aside0.out (by assumption))) | refine below_set ?_ (Aside0.out (by assumption))) | exact HB.out)) hb)
          clear HO104
          clear HO123
          clear HI0
          clear BK101
          clear BK111
          clear HK
          clear HB
          rename_i HO104 HO123 HO117 HI0 BK101 BK111 HK HB
          clear hb ho25
          obtain ⟨Ao26, co26, eo26⟩ := Kd.R_slice HO117.out
          (first | subst eo26 | (injection eo26 with f1_ f2_ f3_; have f4_ := f1_.symm; have f5_ := f3_.symm; clear f1_ f2_ f3_; subst f4_; subst f5_))
          refine hK.out _ _ ⟨(blk_cell BK111.out 0).trans rfl, (blk_cell BK111.out 1).trans rfl, (blk_cell BK111.out 2).trans rfl⟩ (fun hHeld => ?_)
          clear hK K
          refine norm_ (a' := ?_) ?_ ?_
          rotate_left
          · show Act.put _ (some 16) _ = _
            simp only [Act.put, List.setIfInBounds_toArray, List.set_cons_zero, List.set_cons_succ, i64_w, i32_w]
            rfl
          refine one_ (i := 4) (N := some 17) #[true, true, true, true, true, true, true, false, false, false, false, false, false] rfl rfl (one_of HT_.out (by kernel_rfl)) (by decide) (fun K hK => ?_)
          refine goes_ Tryd.func65 (by kernel_rfl) rfl #[.pointer (some ⟨g, 0, none⟩), .slice Ao26 y115.length co26] (by rfl) rfl rfl zee81 ?_
          with_reducible refine (spec_l1Cur_of.calls g s0_0 t113 t114 _ _ y115 t118 t119 t120 w0 _ ?side1 ?side2 ?side3 ?side4 ?side5 A18.out).mono ?_
          (case side1 => exact (by repeat (first | (with_reducible first | exact HI0.out | apply IsS62.alloc | apply IsS62.drewN | apply IsS62.drew | apply IsS62.set_1 | apply IsS62.set_2 | refine IsS62.far ?_ (Aside0.out (by assumption)) _) | exact HI0.out)))
          (case side2 => exact (by repeat (first | (with_reducible first | exact HB.out | apply below_alloc | apply pw_below_drewN | apply below_drew1 | refine below_set ?_ (IsS62.ge (Aside0.out (by assumption))) | refine below_set ?_ (Aside0.out (by assumption))) | exact HB.out)))
          (case side3 => exact (by repeat (first | exact (Kd.R_reads' HO117.out).2.2 | (with_reducible refine Kd.C_alloc ?_ _) | (with_reducible refine Kd.C_drewN ?_ _) | (with_reducible refine Kd.C_drew ?_))))
          (case side4 => exact (Kd.R_reads' HO117.out).2.1)
          (case side5 => exact far_slice (IsS62.own_ne HI0.out HO117.out (by decide)))
          rintro e w27 ⟨rfl, hi, hb, hk⟩
          refine ⟨_, rfl, ?_⟩
          have _ := aM (KeepBut.blk hk (g' := gb101) bkZ NB101_0.out (by simp))
          have _ := aM (Kd.R_mono (Kd.R_keep (IsS62.apart (show IsS62 w0 _ g s0_0 t113 t114 from by repeat (first | (with_reducible first | exact HI0.out | apply IsS62.alloc | apply IsS62.drewN | apply IsS62.drew | apply IsS62.set_1 | apply IsS62.set_2 | refine IsS62.far ?_ (Aside0.out (by assumption)) _) | exact HI0.out)) (rZ HO104.out) (by decide)) hk (fun _ h => h.2)) (fun _ h => h.1))
          have _ := aM (KeepBut.blk hk (g' := gb111) bkZ NB111_0.out (by simp))
          have _ := aM (Kd.R_mono (Kd.R_keep (IsS62.apart (show IsS62 w0 _ g s0_0 t113 t114 from by repeat (first | (with_reducible first | exact HI0.out | apply IsS62.alloc | apply IsS62.drewN | apply IsS62.drew | apply IsS62.set_1 | apply IsS62.set_2 | refine IsS62.far ?_ (Aside0.out (by assumption)) _) | exact HI0.out)) (rZ HO123.out) (by decide)) hk (fun _ h => h.2)) (fun _ h => h.1))
          have _ := aM (Kd.R_mono (Kd.R_keep (IsS62.apart (show IsS62 w0 _ g s0_0 t113 t114 from by repeat (first | (with_reducible first | exact HI0.out | apply IsS62.alloc | apply IsS62.drewN | apply IsS62.drew | apply IsS62.set_1 | apply IsS62.set_2 | refine IsS62.far ?_ (Aside0.out (by assumption)) _) | exact HI0.out)) (rZ HO117.out) (by decide)) hk (fun _ h => h.2)) (fun _ h => h.1))
          have _ := aM (KeepBut.trans z7c8e hk (.inl rfl))
          have _ := aM hb
          have _ := aM hi
          clear BK101
          clear HO104
          clear BK111
          clear HO123
          clear HO117
          clear HK
          clear HB
          clear HI0
          rename_i BK101 HO104 BK111 HO123 HO117 HK HB HI0
          (try clear hb)
          (try clear hb2)
          (try clear hk)
          (try clear hi)
          refine hK.out _ _ ⟨(blk_cell BK111.out 0).trans rfl, (blk_cell BK111.out 1).trans rfl, (blk_cell BK111.out 2).trans rfl⟩ (fun hHeld => ?_)
          clear hK K
          refine norm_ (a' := ?_) ?_ ?_
          rotate_left
          · show Act.put _ (some 17) _ = _
            simp only [Act.put, List.setIfInBounds_toArray, List.set_cons_zero, List.set_cons_succ, i64_w, i32_w]
            rfl
          exact norm_ z87ef (hCont (.slice Ao26 y115.length co26, v122) _ ⟨hHeld, (by (with_reducible repeat (first | apply Kd.R_alloc | apply Kd.R_drewN | apply Kd.R_drew)); exact Kd.R_mono HO104.out (fun _ hk => ⟨hk.2, hk.1.2⟩)), (by (with_reducible repeat (first | apply Kd.R_alloc | apply Kd.R_drewN | apply Kd.R_drew)); exact Kd.R_mono HO117.out (fun _ hk => ⟨hk.1.2, hk.2⟩)), (by (with_reducible repeat (first | apply Kd.R_alloc | apply Kd.R_drewN | apply Kd.R_drew)); exact Kd.R_mono HO123.out (fun _ hk => ⟨hk.1.2, hk.2⟩)), bkZ, bkZ, (by repeat (first | (with_reducible first | exact HI0.out | apply IsS62.alloc | apply IsS62.drewN | apply IsS62.drew | apply IsS62.set_1 | apply IsS62.set_2 | refine IsS62.far ?_ (Aside0.out (by assumption)) _) | exact HI0.out)), z7c8e, (by repeat (first | (with_reducible first | exact HB.out | apply below_alloc | apply pw_below_drewN | apply below_drew1 | refine below_set ?_ (IsS62.ge (Aside0.out (by assumption))) | refine below_set ?_ (Aside0.out (by assumption))) | exact HB.out))⟩)
      rintro ⟨v116, v122⟩ w28 ⟨hS_, h0_, h1_, h2_, h3_, h4_, h5_, h6_, h7_⟩
      have _ : Aside0 (Kd.R Kd.string 9 w28 w.heap.size (fun k_ => some k_ ≠ (v116 : Value).ownBlock ∧ some k_ ≠ (v122 : Value).ownBlock) (.slice Ao9 y102.length co9) y102) := ⟨h0_⟩
      have _ : Aside0 (Kd.R Kd.string 9 w28 w.heap.size (fun k_ => some k_ ≠ (.slice Ao9 y102.length co9 : Value).ownBlock ∧ some k_ ≠ (v122 : Value).ownBlock) v116 y115) := ⟨h1_⟩
      have _ : Aside0 (Kd.R Kd.string 9 w28 w.heap.size (fun k_ => some k_ ≠ (.slice Ao9 y102.length co9 : Value).ownBlock ∧ some k_ ≠ (v116 : Value).ownBlock) v122 y121) := ⟨h2_⟩
      have _ : Aside0 (w28.heap[gb101]? = some (.cells #[.string (⟨#[]⟩ : ByteArray), .slice none 0 0, .int .i64 0] 25 (0, 0))) := ⟨h3_⟩
      have _ : Aside0 (w28.heap[gb111]? = some (.cells #[.string t105, .slice none 0 0, .int .i64 (wrap64 (10 * t108))] 25 (0, 0))) := ⟨h4_⟩
      have _ : Aside0 (IsS62 w0 w28 g s0_0 t119 t120) := ⟨h5_⟩
      have _ : Aside0 (KeepBut w w28 g none) := ⟨h6_⟩
      have _ : Aside0 (Below w0.heap.size w0 w28) := ⟨h7_⟩
      clear HO104
      clear BK101
      clear BK111
      clear HI0
      clear HK
      clear HB
      clear h0_ h1_ h2_ h3_ h4_ h5_ h6_ h7_
      rename_i HO104 HO117 HO123 BK101 BK111 HI0 HK HB
      have hHeld : w28.cell? ⟨gb111, 0, none⟩ = some (.string t105) ∧ w28.cell? ⟨gb111, 1, none⟩ = some (.slice none 0 0) ∧ w28.cell? ⟨gb111, 2, none⟩ = some (.int .i64 (wrap64 (10 * t108))) := hS_
      obtain ⟨Ao29, co29, eo29⟩ := Kd.R_slice HO123.out
      (first | subst eo29 | (injection eo29 with f1_ f2_ f3_; have f4_ := f1_.symm; have f5_ := f3_.symm; clear f1_ f2_ f3_; subst f4_; subst f5_))
      refine norm_ (a' := ?_) ?_ ?_
      rotate_left
      · simp only [putAll, Act.put, List.setIfInBounds_toArray, List.set_cons_zero, List.set_cons_succ]
        rfl
      refine one_ (i := 7) (N := some 20) #[true, true, true, true, true, true, true, true, false, false, false, false, false] rfl rfl (one_of HT_.out (by kernel_rfl)) (by decide) (fun K hK => ?_)
      refine goes_ Tryd.func65 (by kernel_rfl) rfl #[.pointer (some ⟨g, 0, none⟩), .slice Ao29 y121.length co29] (by rfl) rfl rfl zee81 ?_
      with_reducible refine (spec_l1Cur_of.calls g s0_0 t119 t120 _ _ y121 t124 t125 t126 w0 _ ?side1 ?side2 ?side3 ?side4 ?side5 A19.out).mono ?_
      (case side1 => exact (by repeat (first | (with_reducible first | exact HI0.out | apply IsS62.alloc | apply IsS62.drewN | apply IsS62.drew | apply IsS62.set_1 | apply IsS62.set_2 | refine IsS62.far ?_ (Aside0.out (by assumption)) _) | exact HI0.out)))
      (case side2 => exact (by repeat (first | (with_reducible first | exact HB.out | apply below_alloc | apply pw_below_drewN | apply below_drew1 | refine below_set ?_ (IsS62.ge (Aside0.out (by assumption))) | refine below_set ?_ (Aside0.out (by assumption))) | exact HB.out)))
      (case side3 => exact (by repeat (first | exact (Kd.R_reads' HO123.out).2.2 | (with_reducible refine Kd.C_alloc ?_ _) | (with_reducible refine Kd.C_drewN ?_ _) | (with_reducible refine Kd.C_drew ?_))))
      (case side4 => exact (Kd.R_reads' HO123.out).2.1)
      (case side5 => exact far_slice (IsS62.own_ne HI0.out HO123.out (by decide)))
      rintro e w30 ⟨rfl, hi, hb, hk⟩
      refine ⟨_, rfl, ?_⟩
      have _ := aM (KeepBut.blk hk (g' := gb101) bkZ NB101_0.out (by simp))
      have _ := aM (Kd.R_mono (Kd.R_keep (IsS62.apart (show IsS62 w0 _ g s0_0 t119 t120 from by repeat (first | (with_reducible first | exact HI0.out | apply IsS62.alloc | apply IsS62.drewN | apply IsS62.drew | apply IsS62.set_1 | apply IsS62.set_2 | refine IsS62.far ?_ (Aside0.out (by assumption)) _) | exact HI0.out)) (rZ HO104.out) (by decide)) hk (fun _ h => h.2)) (fun _ h => h.1))
      have _ := aM (KeepBut.blk hk (g' := gb111) bkZ NB111_0.out (by simp))
      have _ := aM (Kd.R_mono (Kd.R_keep (IsS62.apart (show IsS62 w0 _ g s0_0 t119 t120 from by repeat (first | (with_reducible first | exact HI0.out | apply IsS62.alloc | apply IsS62.drewN | apply IsS62.drew | apply IsS62.set_1 | apply IsS62.set_2 | refine IsS62.far ?_ (Aside0.out (by assumption)) _) | exact HI0.out)) (rZ HO117.out) (by decide)) hk (fun _ h => h.2)) (fun _ h => h.1))
      have _ := aM (Kd.R_mono (Kd.R_keep (IsS62.apart (show IsS62 w0 _ g s0_0 t119 t120 from by repeat (first | (with_reducible first | exact HI0.out | apply IsS62.alloc | apply IsS62.drewN | apply IsS62.drew | apply IsS62.set_1 | apply IsS62.set_2 | refine IsS62.far ?_ (Aside0.out (by assumption)) _) | exact HI0.out)) (rZ HO123.out) (by decide)) hk (fun _ h => h.2)) (fun _ h => h.1))
      have _ := aM (KeepBut.trans z7c8e hk (.inl rfl))
      have _ := aM hb
      have _ := aM hi
      clear BK101
      clear HO104
      clear BK111
      clear HO117
      clear HO123
      clear HK
      clear HB
      clear HI0
      rename_i BK101 HO104 BK111 HO117 HO123 HK HB HI0
      (try clear hb)
      (try clear hb2)
      (try clear hk)
      (try clear hi)
      refine hK.out _ _ ⟨(blk_cell BK111.out 0).trans rfl, (blk_cell BK111.out 1).trans rfl, (blk_cell BK111.out 2).trans rfl⟩ (fun hHeld => ?_)
      clear hK K
      refine norm_ (a' := ?_) ?_ ?_
      rotate_left
      · show Act.put _ (some 20) _ = _
        simp only [Act.put, List.setIfInBounds_toArray, List.set_cons_zero, List.set_cons_succ, i64_w, i32_w]
        rfl
      refine pure_ (i := 8) (N := some 21) (v := ?_) (a' := ?_) #[true, true, true, true, true, true, true, true, true, false, false, false, false] rfl rfl (any_of HT_.out (by kernel_rfl)) (fun _ _ _ h => h) (Or.inl ⟨by rfl, ?_⟩) ?_ ?_
      rotate_left
      · intro w'
        go_simp
        with_reducible rfl
      rotate_left
      · simp only [Act.put, List.setIfInBounds_toArray, List.set_cons_zero, List.set_cons_succ, i64_w, i32_w]
        rfl
      refine one_ (i := 9) (N := some 22) #[true, true, true, true, true, true, true, true, true, true, false, false, false] rfl rfl (one_of HT_.out (by kernel_rfl)) (by decide) (fun K hK => ?_)
      refine value_ (w1 := ?_) (v := ?_) (by rfl) rfl ?_ ?_
      rotate_left 2
      · go_simp
        constructor
        · rfl
        · rfl
      refine hK.out _ _ ⟨(blk_cell (blk_alloc BK111.out _) 0).trans rfl, (blk_cell (blk_alloc BK111.out _) 1).trans rfl, (blk_cell (blk_alloc BK111.out _) 2).trans rfl⟩ (fun hHeld => ?_)
      clear hK K
      refine norm_ (a' := ?_) ?_ ?_
      rotate_left
      · show Act.put _ (some 22) _ = _
        simp only [Act.put, List.setIfInBounds_toArray, List.set_cons_zero, List.set_cons_succ, i64_w, i32_w]
        rfl
      refine one_ (i := 10) (N := some 23) #[true, true, true, true, true, true, true, true, true, true, true, false, false] rfl rfl (one_of HT_.out (by kernel_rfl)) (by decide) (fun K hK => ?_)
      refine Kd.R_append_step k69 w.heap.size (by rfl) (.tmp 14) (.tmp 22) 23 69 (.agg #[(.string ⟨#[]⟩), (.string ⟨#[]⟩)]) 32 rfl Tryd.underlying23 info69 rfl (by decide) (by omega) (.slice none 0 0) ([] : List (S69)) (⟨t118, t124⟩ : S69) [.string t118, .string t124] (fun _ => True) (fun _ => False) rfl rfl ?aP (fun _ hk => hk.elim) ?aF ?aO (Below.refl _ _) ?aS ?aL ?_
      (case aP => exact k69_mkM _ _ _ (⟨t118, t124⟩ : S69))
      (case aF => exact (fun _ _ => trivial))
      (case aO => exact ((Kd.R_nil _ _ _ _ (fun _ => True))))
      (case aS => exact (keep_size (w := w) (g := g) (row := none) z7c8e))
      (case aL => have := LMc20.out; omega)
      intro v128 w31 ho hb hg hat
      rw [← Ny127.out] at ho
      have _ := aM (IsS62.grown (by repeat (first | (with_reducible first | exact HI0.out | apply IsS62.alloc | apply IsS62.drewN | apply IsS62.drew | apply IsS62.set_1 | apply IsS62.set_2 | refine IsS62.far ?_ (Aside0.out (by assumption)) _) | exact HI0.out)) hg (by simp [Value.ownBlock]))
      have _ := aM (blk_grown (g := gb101) bkZ hg (by simp [Value.ownBlock]))
      have _ := aM (Kd.R_grown (rZ HO104.out) hg (fun _ _ => by simp [Value.ownBlock]))
      have _ := aM (blk_grown (g := gb111) bkZ hg (by simp [Value.ownBlock]))
      have _ := aM (Kd.R_grown (rZ HO117.out) hg (fun _ _ => by simp [Value.ownBlock]))
      have _ := aM (Kd.R_grown (rZ HO123.out) hg (fun _ _ => by simp [Value.ownBlock]))
      have _ := aM (below_weaken (by repeat (first | (with_reducible first | exact HB.out | apply below_alloc | apply pw_below_drewN | apply below_drew1 | refine below_set ?_ (IsS62.ge (Aside0.out (by assumption))) | refine below_set ?_ (Aside0.out (by assumption))) | exact HB.out)) HL.out hb)
      have _ := aM (KeepBut.trans z7c8e (KeepBut.of_grown hg g) (.inl (by simp [Value.ownBlock])))
      have _ := aM ho
      clear HI0
      clear BK101
      clear HO104
      clear BK111
      clear HO117
      clear HO123
      clear HB
      clear HK
      rename_i HI0 BK101 HO104 BK111 HO117 HO123 HB HK HO129
      clear ho hb hg hat
      obtain ⟨Ao32, co32, eo32⟩ := Kd.R_slice HO129.out
      (first | subst eo32 | (injection eo32 with f1_ f2_ f3_; have f4_ := f1_.symm; have f5_ := f3_.symm; clear f1_ f2_ f3_; subst f4_; subst f5_))
      refine hK.out _ _ ⟨(blk_cell BK111.out 0).trans rfl, (blk_cell BK111.out 1).trans rfl, (blk_cell BK111.out 2).trans rfl⟩ (fun hHeld => ?_)
      clear hK K
      refine norm_ (a' := ?_) ?_ ?_
      rotate_left
      · show Act.put _ (some 23) _ = _
        simp only [Act.put, List.setIfInBounds_toArray, List.set_cons_zero, List.set_cons_succ, i64_w, i32_w]
        rfl
      refine pure_ (i := 11) (N := some 24) (v := ?_) (a' := ?_) #[true, true, true, true, true, true, true, true, true, true, true, true, false] rfl rfl (any_of HT_.out (by kernel_rfl)) (fun _ _ _ h => h) (Or.inl ⟨by rfl, ?_⟩) ?_ ?_
      rotate_left
      · intro w'
        go_simp
        with_reducible rfl
      rotate_left
      · simp only [Act.put, List.setIfInBounds_toArray, List.set_cons_zero, List.set_cons_succ, i64_w, i32_w]
        rfl
      refine last_ (i := 12) (N := none) #[true, true, true, true, true, true, true, true, true, true, true, true, true] rfl rfl (one_of HT_.out (by kernel_rfl)) (by decide) (fun K hK => ?_)
      have hs33 : w31.cell? ⟨gb111, 1, none⟩ = some (.slice none 0 0) := (blk_cell BK111.out 1).trans rfl
      have hfs33 := blk_frozen BK111.out 1
      have hns33_0 := NB101_111.out
      have hms33_0 := NB111_101.out
      refine skip_ (w1 := ?_) (by rfl) rfl ?_ ?_
      rotate_left
      · go_simp
        rfl
      refine hK.out _ _ ?_
      clear hK K
      refine done_ (done_of HT_.out (by kernel_rfl)) ?_
      try go_wp2
      go_meet
      case rel => exact ⟨_, (t125), (t126), (y127), (.slice Ao32 y127.length co32), H', ⟨zb79b⟩, ⟨by (with_reducible repeat (first | apply Kd.R_alloc | apply Kd.R_drewN | apply Kd.R_drew)); exact Kd.R_mono (Kd.R_far (p := ⟨gb111, 1, none⟩) (Kd.R_types HO129.out BK111.out (by decide)) (fun _ hk => hk.2) (.slice Ao32 y127.length co32)) (fun _ hk => trivial)⟩, ⟨bkZ⟩, ⟨bkZ⟩, ⟨by repeat (first | (with_reducible first | exact HI0.out | apply IsS62.alloc | apply IsS62.drewN | apply IsS62.drew | apply IsS62.set_1 | apply IsS62.set_2 | refine IsS62.far ?_ (Aside0.out (by assumption)) _) | exact HI0.out)⟩, ⟨z7c8e⟩, ⟨by repeat (first | (with_reducible first | exact HB.out | apply below_alloc | apply pw_below_drewN | apply below_drew1 | refine below_set ?_ (IsS62.ge (Aside0.out (by assumption))) | refine below_set ?_ (Aside0.out (by assumption))) | exact HB.out)⟩⟩
    · rw [if_neg c20] at H
      exact absurd H (by simp)
  · replace c17 := Bool.eq_false_iff.mpr c17
    subst c17
    have H1 : (spec_l1Cur_key.j0 k s0_0 t113 t114 t105 ([] : List (S69)) (wrap64 (10 * t108))) = some (r1, r2, r3, r4, r5) := by rw [if_neg (show ¬ (false = true) by decide)] at H; exact H
    clear H
    have H := H1
    clear H1
    have H' := aM H
    clear H
    go_wp2
    go_meet
    case rel => exact ⟨_, (t113), (t114), (([] : List (S69))), (.slice none 0 0), H', ⟨zb79b⟩, ⟨z02fa⟩, ⟨bkZ⟩, ⟨bkZ⟩, ⟨by repeat (first | (with_reducible first | exact HI0.out | apply IsS62.alloc | apply IsS62.drewN | apply IsS62.drew | apply IsS62.set_1 | apply IsS62.set_2 | refine IsS62.far ?_ (Aside0.out (by assumption)) _) | exact HI0.out)⟩, ⟨z7c8e⟩, ⟨by repeat (first | (with_reducible first | exact HB.out | apply below_alloc | apply pw_below_drewN | apply below_drew1 | refine below_set ?_ (IsS62.ge (Aside0.out (by assumption))) | refine below_set ?_ (Aside0.out (by assumption))) | exact HB.out)⟩⟩
 case rest =>
  clear HC5
  try clear c1
  try clear c2
  try clear p2
  try clear c6
  try clear p6
  try clear c17
  try clear c20
  obtain ⟨kq, x1001_4, x1002_4, x112001_4, u112001, HA, HJ4, HO_112001, BK101, BK111, HI0, HK, HB⟩ := hcut
  cases kq with
  | zero => exact absurd HA.out (by simp [spec_l1Cur_key.j0])
  | succ kj4 =>
   have H := HA.out
   clear HA
   simp only [spec_l1Cur_key.j0] at H
   replace H := Option.bind_eq_some_iff.mp H
   obtain ⟨⟨t130, t131, t132⟩, A340, H⟩ := H
   try dsimp only at H
   have A34 := aM A340
   clear A340
   have HC35 := aM H
   clear H
   go_upto_if 26 with (first | ((with_reducible refine gate_callee (f := 29) rfl ?_); refine goesL_ (some 26) rfl rfl Tryd.func29 (by kernel_rfl) rfl #[.pointer (some ⟨g, 0, none⟩), .int .i64 3] rfl zee81 ?_; (with_reducible refine (spec_l1Cur_one.calls g s0_0 x1001_4 x1002_4 3 t130 t131 t132 w0 _ ?side1 ?side2 A34.out).mono ?_); (case side1 => exact (by repeat (first | (with_reducible first | exact HI0.out | apply IsS62.alloc | apply IsS62.drewN | apply IsS62.drew | apply IsS62.set_1 | apply IsS62.set_2 | refine IsS62.far ?_ (Aside0.out (by assumption)) _) | exact HI0.out))); (case side2 => exact (by repeat (first | (with_reducible first | exact HB.out | apply below_alloc | apply pw_below_drewN | apply below_drew1 | refine below_set ?_ (IsS62.ge (Aside0.out (by assumption))) | refine below_set ?_ (Aside0.out (by assumption))) | exact HB.out))); rintro e w36 ⟨rfl, hi, hb, hk⟩; refine ⟨_, rfl, ?_⟩; have _ := aM (Kd.R_mono (Kd.R_keep (IsS62.apart (show IsS62 w0 _ g s0_0 x1001_4 x1002_4 from by repeat (first | (with_reducible first | exact HI0.out | apply IsS62.alloc | apply IsS62.drewN | apply IsS62.drew | apply IsS62.set_1 | apply IsS62.set_2 | refine IsS62.far ?_ (Aside0.out (by assumption)) _) | exact HI0.out)) (rZ HO_112001.out) (by decide)) hk (fun _ h => h.2)) (fun _ h => h.1)); have _ := aM (KeepBut.blk hk (g' := gb101) bkZ NB101_0.out (by simp)); have _ := aM (KeepBut.blk hk (g' := gb111) bkZ NB111_0.out (by simp)); have _ := aM (KeepBut.trans z7c8e hk (.inl rfl)); have _ := aM hb; have _ := aM hi; clear HO_112001 BK101 BK111 HK HB HI0; rename_i HO_112001 BK101 BK111 HK HB HI0; (try clear hb); (try clear hk); (try clear hi)))
   (try simp only [Act.put, List.setIfInBounds_toArray, List.set_cons_zero, List.set_cons_succ])
   go_cut [] (fun wc => ∃ (kq : Nat) (x1001_34 : Int) (x1002_34 : Int) (x112001_34 : List (S69)) (u112001 : Value), Aside0 (spec_l1Cur_key.j1 kq s0_0 x1001_34 x1002_34 t105 x112001_34 (wrap64 (10 * t108)) = some (r1, r2, r3, r4, r5)) ∧ Aside0 (kq ≤ kj4) ∧ Aside0 (Kd.R k69 69 wc w.heap.size (fun _ => True) u112001 x112001_34) ∧ Aside0 (wc.heap[gb101]? = some (.cells #[.string (⟨#[]⟩ : ByteArray), (.slice none 0 0), .int .i64 0] 25 (0, 0))) ∧ Aside0 (wc.heap[gb111]? = some (.cells #[.string t105, u112001, .int .i64 (wrap64 (10 * t108))] 25 (0, 0))) ∧ Aside0 (IsS62 w0 wc g s0_0 x1001_34 x1002_34) ∧ Aside0 (KeepBut w wc g none) ∧ Aside0 (Below w0.heap.size w0 wc))
   case first =>
    have H := HC35.out
    clear HC35
    by_cases c37 : t130 = true
    · subst c37
      have H1 : ((spec_l1Cur_of.f s0_0 t131 t132 (([(⟨#[101]⟩ : ByteArray), (⟨#[119]⟩ : ByteArray)] : List ByteArray))).bind fun bt136 => (if x112001_4.length < 4398046511104 then (spec_l1Cur_key.j1 kj4 s0_0 bt136.2.1 bt136.2.2 t105 (x112001_4 ++ [(⟨(⟨#[122, 111, 110, 101]⟩ : ByteArray), bt136.1⟩ : S69)]) (wrap64 (10 * t108))) else (none))) = some (r1, r2, r3, r4, r5) := by rw [if_pos rfl] at H; exact H
      clear H
      have H := H1
      clear H1
      obtain ⟨y133, hy133⟩ : ∃ y_ : List ByteArray, y_ = (([(⟨#[101]⟩ : ByteArray), (⟨#[119]⟩ : ByteArray)] : List ByteArray)) := ⟨_, rfl⟩
      replace H : ((spec_l1Cur_of.f s0_0 t131 t132 y133).bind fun bt136 => (if x112001_4.length < 4398046511104 then (spec_l1Cur_key.j1 kj4 s0_0 bt136.2.1 bt136.2.2 t105 (x112001_4 ++ [(⟨(⟨#[122, 111, 110, 101]⟩ : ByteArray), bt136.1⟩ : S69)]) (wrap64 (10 * t108))) else (none))) = some (r1, r2, r3, r4, r5) := by first | (rw [hy133]; with_reducible exact H) | (have H2_ := (Option.bind_some _ _).symm.trans H; rw [hy133]; with_reducible exact H2_) | (have H2_ := (Option.bind_some _ _).symm.trans H; with_reducible exact H2_) | with_reducible exact H | (rw [hy133]; exact H) | exact H
      have Ny133 := aM hy133
      clear hy133
      replace H := Option.bind_eq_some_iff.mp H
      obtain ⟨⟨t136, t137, t138⟩, A380, H⟩ := H
      try dsimp only at H
      have A38 := aM A380
      clear A380
      by_cases c39 : x112001_4.length < 4398046511104
      · rw [if_pos c39] at H
        have LMc39 := aM c39
        clear c39
        obtain ⟨y139, hy139⟩ : ∃ y_ : List (S69), y_ = (x112001_4 ++ [(⟨(⟨#[122, 111, 110, 101]⟩ : ByteArray), t136⟩ : S69)]) := ⟨_, rfl⟩
        replace H : (spec_l1Cur_key.j1 kj4 s0_0 t137 t138 t105 y139 (wrap64 (10 * t108))) = some (r1, r2, r3, r4, r5) := by first | (rw [hy139]; with_reducible exact H) | (have H2_ := (Option.bind_some _ _).symm.trans H; rw [hy139]; with_reducible exact H2_) | (have H2_ := (Option.bind_some _ _).symm.trans H; with_reducible exact H2_) | with_reducible exact H | (rw [hy139]; exact H) | exact H
        have Ny139 := aM hy139
        clear hy139
        have H' := aM H
        clear H
        try go_wp2
        have _ := aM (Kd.R_drew HO_112001.out)
        have _ := aM (blk_drew BK101.out)
        have _ := aM (blk_drew BK111.out)
        have _ := aM (IsS62.drew HI0.out)
        have _ := aM (keep_drew HK.out)
        have _ := aM (below_drew1 HB.out)
        clear HO_112001
        clear BK101
        clear BK111
        clear HI0
        clear HK
        clear HB
        rename_i HO_112001 BK101 BK111 HI0 HK HB
        refine start_ (n := 10) (S := fun w' => w'.cell? ⟨gb111, 0, none⟩ = some (.string t105) ∧ w'.cell? ⟨gb111, 1, none⟩ = some (u112001) ∧ w'.cell? ⟨gb111, 2, none⟩ = some (.int .i64 (wrap64 (10 * t108)))) (ds := [9]) #[false, false, false, false, false, false, false, false, false, false] (by kernel_rfl) rfl rfl ⟨(blk_cell BK111.out 0).trans rfl, (blk_cell BK111.out 1).trans rfl, (blk_cell BK111.out 2).trans rfl⟩ (fun hHeld => ?_); refine with_tabW spec_l1Cur_key.tab5 spec_l1Cur_key.bits5 (fun HT_ HW_ => ?_)
        generalize w36.drew = w40 at HO_112001 BK101 BK111 HI0 HK HB hHeld ⊢
        refine pure_ (i := 0) (N := some 27) (v := ?_) (a' := ?_) #[true, false, false, false, false, false, false, false, false, false] rfl rfl (any_of HT_.out (by kernel_rfl)) (fun _ _ _ h => h) (Or.inl ⟨by rfl, ?_⟩) ?_ ?_
        rotate_left
        · intro w'
          go_simp
          with_reducible rfl
        rotate_left
        · simp only [Act.put, List.setIfInBounds_toArray, List.set_cons_zero, List.set_cons_succ, i64_w, i32_w]
          rfl
        refine pure_ (i := 2) (N := some 29) (v := ?_) (a' := ?_) #[true, false, true, false, false, false, false, false, false, false] rfl rfl (any_of HT_.out (by kernel_rfl)) (fun _ _ _ h => h) (Or.inl ⟨by rfl, ?_⟩) ?_ ?_
        rotate_left
        · intro w'
          go_simp
          with_reducible rfl
        rotate_left
        · simp only [Act.put, List.setIfInBounds_toArray, List.set_cons_zero, List.set_cons_succ, i64_w, i32_w]
          rfl
        refine take_ (i := 1) (N := some 28) (v := ?_) (a' := ?_) #[true, true, true, false, false, false, false, false, false, false] rfl rfl (take_ofW HT_.out HW_.out (by kernel_rfl)) (fun _ _ _ h => h) (Or.inl ⟨by rfl, ?_⟩) hHeld ?_ ?_
        rotate_left
        · rintro w' ⟨s0, s1, s2⟩
          go_simp
          with_reducible rfl
        rotate_left
        · simp only [Act.put, List.setIfInBounds_toArray, List.set_cons_zero, List.set_cons_succ, i64_w, i32_w]
          rfl
        refine one_ (i := 3) (N := some 30) #[true, true, true, true, false, false, false, false, false, false] rfl rfl (one_of HT_.out (by kernel_rfl)) (by decide) (fun K hK => ?_)
        refine Kd.R_lit_step Kd.string _ 9 ?hg (N := 30) ?hd (xs := ([(⟨#[101]⟩ : ByteArray), (⟨#[119]⟩ : ByteArray)] : List ByteArray)) (inner := [.string (⟨#[101]⟩ : ByteArray), .string (⟨#[119]⟩ : ByteArray)]) (ok := fun _ => True) (okp := fun _ => True) ?hr ?hp (fun _ hk => hk) trivial (Below.refl _ _) (Nat.le_refl _) (by simp) ?_; (case hd => rfl); (case hg => rfl); (case hr => first | (go_simp; done) | (go_simp; rfl)); (case hp => exact (Reps.one (show Kd.M Kd.string _ _ _ (⟨#[101]⟩ : ByteArray) [.string (⟨#[101]⟩ : ByteArray)] from rfl) (Reps.one (show Kd.M Kd.string _ _ _ (⟨#[119]⟩ : ByteArray) [.string (⟨#[119]⟩ : ByteArray)] from rfl) (Reps.none _ _))))
        intro v134 w41 ho42 hb hg_ hnew_
        clear hg_ hnew_
        (first | rw [← Ny133.out] at ho42 | (simp only [Int.reduceToNat] at ho42; rw [← Ny133.out] at ho42))
        have _ := aM (Kd.R_below (rZ HO_112001.out) hb)
        have _ := aM (Kd.R_lower ho42 (keep_size (w := w) (g := g) (row := none) z7c8e))
        have _ := bB gb101 hb
        have _ := bB gb111 hb
        have _ := aM (IsS62.below (by repeat (first | (with_reducible first | exact HI0.out | apply IsS62.alloc | apply IsS62.drewN | apply IsS62.drew | apply IsS62.set_1 | apply IsS62.set_2 | refine IsS62.far ?_ (Aside0.out (by assumption)) _) | exact HI0.out)) hb)
        have _ := aM (KeepBut.trans z7c8e (KeepBut.of_below hb g none) (.inl rfl))
        have _ := aM (below_step (by repeat (first | (with_reducible first | exact HB.out | apply below_alloc | apply pw_below_drewN | apply below_drew1 | refine below_set ?_ (IsS62.ge (Aside0.out (by assumption))) | refine below_set ?_ (Aside0.out (by assumption))) | exact HB.out)) hb)
        clear HO_112001
        clear BK101
        clear BK111
        clear HI0
        clear HK
        clear HB
        rename_i HO_112001 HO135 BK101 BK111 HI0 HK HB
        clear hb ho42
        obtain ⟨Ao43, co43, eo43⟩ := Kd.R_slice HO135.out
        (first | subst eo43 | (injection eo43 with f1_ f2_ f3_; have f4_ := f1_.symm; have f5_ := f3_.symm; clear f1_ f2_ f3_; subst f4_; subst f5_))
        refine hK.out _ _ ⟨(blk_cell BK111.out 0).trans rfl, (blk_cell BK111.out 1).trans rfl, (blk_cell BK111.out 2).trans rfl⟩ (fun hHeld => ?_)
        clear hK K
        refine norm_ (a' := ?_) ?_ ?_
        rotate_left
        · show Act.put _ (some 30) _ = _
          simp only [Act.put, List.setIfInBounds_toArray, List.set_cons_zero, List.set_cons_succ, i64_w, i32_w]
          rfl
        refine one_ (i := 4) (N := some 31) #[true, true, true, true, true, false, false, false, false, false] rfl rfl (one_of HT_.out (by kernel_rfl)) (by decide) (fun K hK => ?_)
        refine goes_ Tryd.func65 (by kernel_rfl) rfl #[.pointer (some ⟨g, 0, none⟩), .slice Ao43 y133.length co43] (by rfl) rfl rfl zee81 ?_
        with_reducible refine (spec_l1Cur_of.calls g s0_0 t131 t132 _ _ y133 t136 t137 t138 w0 _ ?side1 ?side2 ?side3 ?side4 ?side5 A38.out).mono ?_
        (case side1 => exact (by repeat (first | (with_reducible first | exact HI0.out | apply IsS62.alloc | apply IsS62.drewN | apply IsS62.drew | apply IsS62.set_1 | apply IsS62.set_2 | refine IsS62.far ?_ (Aside0.out (by assumption)) _) | exact HI0.out)))
        (case side2 => exact (by repeat (first | (with_reducible first | exact HB.out | apply below_alloc | apply pw_below_drewN | apply below_drew1 | refine below_set ?_ (IsS62.ge (Aside0.out (by assumption))) | refine below_set ?_ (Aside0.out (by assumption))) | exact HB.out)))
        (case side3 => exact (by repeat (first | exact (Kd.R_reads' HO135.out).2.2 | (with_reducible refine Kd.C_alloc ?_ _) | (with_reducible refine Kd.C_drewN ?_ _) | (with_reducible refine Kd.C_drew ?_))))
        (case side4 => exact (Kd.R_reads' HO135.out).2.1)
        (case side5 => exact far_slice (IsS62.own_ne HI0.out HO135.out (by decide)))
        rintro e w44 ⟨rfl, hi, hb, hk⟩
        refine ⟨_, rfl, ?_⟩
        have _ := aM (Kd.R_mono (Kd.R_keep (IsS62.apart (show IsS62 w0 _ g s0_0 t131 t132 from by repeat (first | (with_reducible first | exact HI0.out | apply IsS62.alloc | apply IsS62.drewN | apply IsS62.drew | apply IsS62.set_1 | apply IsS62.set_2 | refine IsS62.far ?_ (Aside0.out (by assumption)) _) | exact HI0.out)) (rZ HO_112001.out) (by decide)) hk (fun _ h => h.2)) (fun _ h => h.1))
        have _ := aM (KeepBut.blk hk (g' := gb101) bkZ NB101_0.out (by simp))
        have _ := aM (KeepBut.blk hk (g' := gb111) bkZ NB111_0.out (by simp))
        have _ := aM (Kd.R_mono (Kd.R_keep (IsS62.apart (show IsS62 w0 _ g s0_0 t131 t132 from by repeat (first | (with_reducible first | exact HI0.out | apply IsS62.alloc | apply IsS62.drewN | apply IsS62.drew | apply IsS62.set_1 | apply IsS62.set_2 | refine IsS62.far ?_ (Aside0.out (by assumption)) _) | exact HI0.out)) (rZ HO135.out) (by decide)) hk (fun _ h => h.2)) (fun _ h => h.1))
        have _ := aM (KeepBut.trans z7c8e hk (.inl rfl))
        have _ := aM hb
        have _ := aM hi
        clear HO_112001
        clear BK101
        clear BK111
        clear HO135
        clear HK
        clear HB
        clear HI0
        rename_i HO_112001 BK101 BK111 HO135 HK HB HI0
        (try clear hb)
        (try clear hb2)
        (try clear hk)
        (try clear hi)
        refine hK.out _ _ ⟨(blk_cell BK111.out 0).trans rfl, (blk_cell BK111.out 1).trans rfl, (blk_cell BK111.out 2).trans rfl⟩ (fun hHeld => ?_)
        clear hK K
        refine norm_ (a' := ?_) ?_ ?_
        rotate_left
        · show Act.put _ (some 31) _ = _
          simp only [Act.put, List.setIfInBounds_toArray, List.set_cons_zero, List.set_cons_succ, i64_w, i32_w]
          rfl
        refine pure_ (i := 5) (N := some 32) (v := ?_) (a' := ?_) #[true, true, true, true, true, true, false, false, false, false] rfl rfl (any_of HT_.out (by kernel_rfl)) (fun _ _ _ h => h) (Or.inl ⟨by rfl, ?_⟩) ?_ ?_
        rotate_left
        · intro w'
          go_simp
          with_reducible rfl
        rotate_left
        · simp only [Act.put, List.setIfInBounds_toArray, List.set_cons_zero, List.set_cons_succ, i64_w, i32_w]
          rfl
        refine one_ (i := 6) (N := some 33) #[true, true, true, true, true, true, true, false, false, false] rfl rfl (one_of HT_.out (by kernel_rfl)) (by decide) (fun K hK => ?_)
        refine value_ (w1 := ?_) (v := ?_) (by rfl) rfl ?_ ?_
        rotate_left 2
        · go_simp
          constructor
          · rfl
          · rfl
        refine hK.out _ _ ⟨(blk_cell (blk_alloc BK111.out _) 0).trans rfl, (blk_cell (blk_alloc BK111.out _) 1).trans rfl, (blk_cell (blk_alloc BK111.out _) 2).trans rfl⟩ (fun hHeld => ?_)
        clear hK K
        refine norm_ (a' := ?_) ?_ ?_
        rotate_left
        · show Act.put _ (some 33) _ = _
          simp only [Act.put, List.setIfInBounds_toArray, List.set_cons_zero, List.set_cons_succ, i64_w, i32_w]
          rfl
        refine one_ (i := 7) (N := some 34) #[true, true, true, true, true, true, true, true, false, false] rfl rfl (one_of HT_.out (by kernel_rfl)) (by decide) (fun K hK => ?_)
        refine Kd.R_append_step k69 w.heap.size (by rfl) (.tmp 28) (.tmp 33) 23 69 (.agg #[(.string ⟨#[]⟩), (.string ⟨#[]⟩)]) 32 rfl Tryd.underlying23 info69 rfl (by decide) (by omega) u112001 x112001_4 (⟨(⟨#[122, 111, 110, 101]⟩ : ByteArray), t136⟩ : S69) [.string (⟨#[122, 111, 110, 101]⟩ : ByteArray), .string t136] (fun _ => True) (fun _ => False) rfl rfl ?aP (fun _ hk => hk.elim) ?aF ?aO (Below.refl _ _) ?aS ?aL ?_
        (case aP => exact k69_mkM _ _ _ (⟨(⟨#[122, 111, 110, 101]⟩ : ByteArray), t136⟩ : S69))
        (case aF => exact (fun _ _ => trivial))
        (case aO => exact (rZ HO_112001.out))
        (case aS => exact (keep_size (w := w) (g := g) (row := none) z7c8e))
        (case aL => have := LMc39.out; omega)
        intro v140 w45 ho hb hg hat
        rw [← Ny139.out] at ho
        have _ := aM (blk_grown (g := gb101) bkZ hg (Kd.R_ne HO_112001.out BK101.out (by decide)))
        have _ := aM (blk_grown (g := gb111) bkZ hg (Kd.R_ne HO_112001.out BK111.out (by decide)))
        have _ := aM (IsS62.grown (by repeat (first | (with_reducible first | exact HI0.out | apply IsS62.alloc | apply IsS62.drewN | apply IsS62.drew | apply IsS62.set_1 | apply IsS62.set_2 | refine IsS62.far ?_ (Aside0.out (by assumption)) _) | exact HI0.out)) hg (IsS62.own_ne HI0.out HO_112001.out (by decide)))
        have _ := aM (Kd.R_over' (rZ HO135.out) (Kd.R_typed (rZ HO_112001.out)) (by decide) hg)
        have _ := aM (below_weaken (by repeat (first | (with_reducible first | exact HB.out | apply below_alloc | apply pw_below_drewN | apply below_drew1 | refine below_set ?_ (IsS62.ge (Aside0.out (by assumption))) | refine below_set ?_ (Aside0.out (by assumption))) | exact HB.out)) HL.out hb)
        have _ := aM (KeepBut.trans z7c8e (KeepBut.of_grown hg g) (Kd.R_base2 HO_112001.out))
        have _ := aM ho
        clear BK101
        clear BK111
        clear HI0
        clear HO135
        clear HB
        clear HK
        clear HO_112001
        rename_i BK101 BK111 HI0 HO135 HB HK HO141
        clear ho hb hg hat
        obtain ⟨Ao46, co46, eo46⟩ := Kd.R_slice HO141.out
        (first | subst eo46 | (injection eo46 with f1_ f2_ f3_; have f4_ := f1_.symm; have f5_ := f3_.symm; clear f1_ f2_ f3_; subst f4_; subst f5_))
        refine hK.out _ _ ⟨(blk_cell BK111.out 0).trans rfl, (blk_cell BK111.out 1).trans rfl, (blk_cell BK111.out 2).trans rfl⟩ (fun hHeld => ?_)
        clear hK K
        refine norm_ (a' := ?_) ?_ ?_
        rotate_left
        · show Act.put _ (some 34) _ = _
          simp only [Act.put, List.setIfInBounds_toArray, List.set_cons_zero, List.set_cons_succ, i64_w, i32_w]
          rfl
        refine pure_ (i := 8) (N := some 35) (v := ?_) (a' := ?_) #[true, true, true, true, true, true, true, true, true, false] rfl rfl (any_of HT_.out (by kernel_rfl)) (fun _ _ _ h => h) (Or.inl ⟨by rfl, ?_⟩) ?_ ?_
        rotate_left
        · intro w'
          go_simp
          with_reducible rfl
        rotate_left
        · simp only [Act.put, List.setIfInBounds_toArray, List.set_cons_zero, List.set_cons_succ, i64_w, i32_w]
          rfl
        refine last_ (i := 9) (N := none) #[true, true, true, true, true, true, true, true, true, true] rfl rfl (one_of HT_.out (by kernel_rfl)) (by decide) (fun K hK => ?_)
        have hs47 : w45.cell? ⟨gb111, 1, none⟩ = some (u112001) := (blk_cell BK111.out 1).trans rfl
        have hfs47 := blk_frozen BK111.out 1
        have hns47_0 := NB101_111.out
        have hms47_0 := NB111_101.out
        refine skip_ (w1 := ?_) (by rfl) rfl ?_ ?_
        rotate_left
        · go_simp
          rfl
        refine hK.out _ _ ?_
        clear hK K
        refine done_ (done_of HT_.out (by kernel_rfl)) ?_
        try go_wp2
        go_meet
        case rel => exact ⟨_, (t137), (t138), (y139), (.slice Ao46 y139.length co46), H', ⟨by have := HJ4.out; first | omega | exact Nat.le_refl _⟩, ⟨by (with_reducible repeat (first | apply Kd.R_alloc | apply Kd.R_drewN | apply Kd.R_drew)); exact Kd.R_mono (Kd.R_far (p := ⟨gb111, 1, none⟩) (Kd.R_types HO141.out BK111.out (by decide)) (fun _ hk => hk.2) (.slice Ao46 y139.length co46)) (fun _ hk => trivial)⟩, ⟨bkZ⟩, ⟨bkZ⟩, ⟨by repeat (first | (with_reducible first | exact HI0.out | apply IsS62.alloc | apply IsS62.drewN | apply IsS62.drew | apply IsS62.set_1 | apply IsS62.set_2 | refine IsS62.far ?_ (Aside0.out (by assumption)) _) | exact HI0.out)⟩, ⟨z7c8e⟩, ⟨by repeat (first | (with_reducible first | exact HB.out | apply below_alloc | apply pw_below_drewN | apply below_drew1 | refine below_set ?_ (IsS62.ge (Aside0.out (by assumption))) | refine below_set ?_ (Aside0.out (by assumption))) | exact HB.out)⟩⟩
      · rw [if_neg c39] at H
        exact absurd H (by simp)
    · replace c37 := Bool.eq_false_iff.mpr c37
      subst c37
      have H1 : (spec_l1Cur_key.j1 kj4 s0_0 t131 t132 t105 x112001_4 (wrap64 (10 * t108))) = some (r1, r2, r3, r4, r5) := by rw [if_neg (show ¬ (false = true) by decide)] at H; exact H
      clear H
      have H := H1
      clear H1
      have H' := aM H
      clear H
      go_wp2
      go_meet
      case rel => exact ⟨_, (t131), (t132), (x112001_4), (u112001), H', ⟨by have := HJ4.out; first | omega | exact Nat.le_refl _⟩, ⟨rZ HO_112001.out⟩, ⟨bkZ⟩, ⟨bkZ⟩, ⟨by repeat (first | (with_reducible first | exact HI0.out | apply IsS62.alloc | apply IsS62.drewN | apply IsS62.drew | apply IsS62.set_1 | apply IsS62.set_2 | refine IsS62.far ?_ (Aside0.out (by assumption)) _) | exact HI0.out)⟩, ⟨z7c8e⟩, ⟨by repeat (first | (with_reducible first | exact HB.out | apply below_alloc | apply pw_below_drewN | apply below_drew1 | refine below_set ?_ (IsS62.ge (Aside0.out (by assumption))) | refine below_set ?_ (Aside0.out (by assumption))) | exact HB.out)⟩⟩
   case rest =>
    clear HC35
    try clear c1
    try clear c2
    try clear p2
    try clear c3
    try clear c6
    try clear p6
    try clear c17
    try clear c20
    try clear c29
    try clear c37
    try clear c39
    try clear p2
    try clear p6
    obtain ⟨kq, x1001_34, x1002_34, x112001_34, u112001, HA, HJ34, HO_112001, BK101, BK111, HI0, HK, HB⟩ := hcut
    cases kq with
    | zero => exact absurd HA.out (by simp [spec_l1Cur_key.j1])
    | succ kj34 =>
     have H := HA.out
     clear HA
     simp only [spec_l1Cur_key.j1] at H
     replace H := Option.bind_eq_some_iff.mp H
     obtain ⟨⟨t142, t143, t144⟩, A480, H⟩ := H
     try dsimp only at H
     have A48 := aM A480
     clear A480
     by_cases c49 : t142 = 0
     · rw [if_pos c49] at H
       have c49b0 : (t142 == 0) = true := beq_iff_eq.mpr c49
       have c49b1 : (t142 != 0) = false := bne_eq_false_iff_eq.mpr c49
       clear c49
       obtain ⟨y145, hy145⟩ : ∃ y_ : List ByteArray, y_ = (([(⟨#[]⟩ : ByteArray), (⟨#[97, 49]⟩ : ByteArray), (⟨#[97, 98, 99, 100, 101, 102, 103, 104, 105, 106, 107, 108, 109]⟩ : ByteArray)] : List ByteArray)) := ⟨_, rfl⟩
       replace H : ((spec_l1Cur_of.f s0_0 t143 t144 y145).bind fun bt148 => (some (bt148.1, x112001_34, (wrap64 (10 * t108)), bt148.2.1, bt148.2.2))) = some (r1, r2, r3, r4, r5) := by first | (rw [hy145]; with_reducible exact H) | (have H2_ := (Option.bind_some _ _).symm.trans H; rw [hy145]; with_reducible exact H2_) | (have H2_ := (Option.bind_some _ _).symm.trans H; with_reducible exact H2_) | with_reducible exact H | (rw [hy145]; exact H) | exact H
       have Ny145 := aM hy145
       clear hy145
       replace H := Option.bind_eq_some_iff.mp H
       obtain ⟨⟨t148, t149, t150⟩, A500, H⟩ := H
       try dsimp only at H
       have A50 := aM A500
       clear A500
       simp only [Option.some.injEq, Prod.mk.injEq] at H
       obtain ⟨rfl, rfl, rfl, rfl, rfl⟩ := H
       go_wp2_with (first | ((with_reducible refine gate_callee (f := 30) rfl ?_); refine goesL_ (some 37) rfl rfl Tryd.func30 (by kernel_rfl) rfl #[.pointer (some ⟨g, 0, none⟩), .int .i64 60] rfl zee81 ?_; (with_reducible refine (spec_l1Cur_pick.calls g s0_0 x1001_34 x1002_34 60 t142 t143 t144 w0 _ ?side1 ?side2 A48.out).mono ?_); (case side1 => exact (by repeat (first | (with_reducible first | exact HI0.out | apply IsS62.alloc | apply IsS62.drewN | apply IsS62.drew | apply IsS62.set_1 | apply IsS62.set_2 | refine IsS62.far ?_ (Aside0.out (by assumption)) _) | exact HI0.out))); (case side2 => exact (by repeat (first | (with_reducible first | exact HB.out | apply below_alloc | apply pw_below_drewN | apply below_drew1 | refine below_set ?_ (IsS62.ge (Aside0.out (by assumption))) | refine below_set ?_ (Aside0.out (by assumption))) | exact HB.out))); rintro e w51 ⟨rfl, hi, hb, hk⟩; refine ⟨_, rfl, ?_⟩; have _ := aM (Kd.R_mono (Kd.R_keep (IsS62.apart (show IsS62 w0 _ g s0_0 x1001_34 x1002_34 from by repeat (first | (with_reducible first | exact HI0.out | apply IsS62.alloc | apply IsS62.drewN | apply IsS62.drew | apply IsS62.set_1 | apply IsS62.set_2 | refine IsS62.far ?_ (Aside0.out (by assumption)) _) | exact HI0.out)) (rZ HO_112001.out) (by decide)) hk (fun _ h => h.2)) (fun _ h => h.1)); have _ := aM (KeepBut.blk hk (g' := gb101) bkZ NB101_0.out (by simp)); have _ := aM (KeepBut.blk hk (g' := gb111) bkZ NB111_0.out (by simp)); have _ := aM (KeepBut.trans z7c8e hk (.inl rfl)); have _ := aM hb; have _ := aM hi; clear HO_112001 BK101 BK111 HK HB HI0; rename_i HO_112001 BK101 BK111 HK HB HI0; (try clear hb); (try clear hk); (try clear hi)) | ((with_reducible refine gate_dst (N := 41) rfl ?_); refine Kd.R_lit Kd.string _ 9 ?hg (N := 41) ?hd (xs := ([(⟨#[]⟩ : ByteArray), (⟨#[97, 49]⟩ : ByteArray), (⟨#[97, 98, 99, 100, 101, 102, 103, 104, 105, 106, 107, 108, 109]⟩ : ByteArray)] : List ByteArray)) (inner := [.string (⟨#[]⟩ : ByteArray), .string (⟨#[97, 49]⟩ : ByteArray), .string (⟨#[97, 98, 99, 100, 101, 102, 103, 104, 105, 106, 107, 108, 109]⟩ : ByteArray)]) (ok := fun _ => True) (okp := fun _ => True) ?hr ?hp (fun _ hk => hk) trivial (Below.refl _ _) (Nat.le_refl _) (by simp) ?_; (case hd => rfl); (case hg => rfl); (case hr => first | (go_simp; done) | (go_simp; rfl)); (case hp => exact (Reps.one (show Kd.M Kd.string _ _ _ (⟨#[]⟩ : ByteArray) [.string (⟨#[]⟩ : ByteArray)] from rfl) (Reps.one (show Kd.M Kd.string _ _ _ (⟨#[97, 49]⟩ : ByteArray) [.string (⟨#[97, 49]⟩ : ByteArray)] from rfl) (Reps.one (show Kd.M Kd.string _ _ _ (⟨#[97, 98, 99, 100, 101, 102, 103, 104, 105, 106, 107, 108, 109]⟩ : ByteArray) [.string (⟨#[97, 98, 99, 100, 101, 102, 103, 104, 105, 106, 107, 108, 109]⟩ : ByteArray)] from rfl) (Reps.none _ _))))); intro v146 w52 ho53 hb hg_ hnew_; clear hg_ hnew_; (first | rw [← Ny145.out] at ho53 | (simp only [Int.reduceToNat] at ho53; rw [← Ny145.out] at ho53)); have _ := aM (Kd.R_below (rZ HO_112001.out) hb); have _ := aM (Kd.R_lower ho53 (keep_size (w := w) (g := g) (row := none) z7c8e)); have _ := bB gb101 hb; have _ := bB gb111 hb; have _ := aM (IsS62.below (by repeat (first | (with_reducible first | exact HI0.out | apply IsS62.alloc | apply IsS62.drewN | apply IsS62.drew | apply IsS62.set_1 | apply IsS62.set_2 | refine IsS62.far ?_ (Aside0.out (by assumption)) _) | exact HI0.out)) hb); have _ := aM (KeepBut.trans z7c8e (KeepBut.of_below hb g none) (.inl rfl)); have _ := aM (below_step (by repeat (first | (with_reducible first | exact HB.out | apply below_alloc | apply pw_below_drewN | apply below_drew1 | refine below_set ?_ (IsS62.ge (Aside0.out (by assumption))) | refine below_set ?_ (Aside0.out (by assumption))) | exact HB.out)) hb); clear HO_112001 BK101 BK111 HI0 HK HB; rename_i HO_112001 HO147 BK101 BK111 HI0 HK HB; clear hb ho53; obtain ⟨Ao54, co54, eo54⟩ := Kd.R_slice HO147.out; subst eo54) | ((with_reducible refine gate_callee (f := 65) rfl ?_); refine goesL_ (some 42) rfl rfl Tryd.func65 (by kernel_rfl) rfl #[.pointer (some ⟨g, 0, none⟩), .slice Ao54 y145.length co54] rfl zee81 ?_; (with_reducible refine (spec_l1Cur_of.calls g s0_0 t143 t144 _ _ y145 t148 t149 t150 w0 _ ?side1 ?side2 ?side3 ?side4 ?side5 A50.out).mono ?_); (case side1 => exact (by repeat (first | (with_reducible first | exact HI0.out | apply IsS62.alloc | apply IsS62.drewN | apply IsS62.drew | apply IsS62.set_1 | apply IsS62.set_2 | refine IsS62.far ?_ (Aside0.out (by assumption)) _) | exact HI0.out))); (case side2 => exact (by repeat (first | (with_reducible first | exact HB.out | apply below_alloc | apply pw_below_drewN | apply below_drew1 | refine below_set ?_ (IsS62.ge (Aside0.out (by assumption))) | refine below_set ?_ (Aside0.out (by assumption))) | exact HB.out))); (case side3 => exact (by repeat (first | exact (Kd.R_reads' HO147.out).2.2 | (with_reducible refine Kd.C_alloc ?_ _) | (with_reducible refine Kd.C_drewN ?_ _) | (with_reducible refine Kd.C_drew ?_)))); (case side4 => exact (Kd.R_reads' HO147.out).2.1); (case side5 => exact far_slice (IsS62.own_ne HI0.out HO147.out (by decide))); rintro e w55 ⟨rfl, hi, hb, hk⟩; refine ⟨_, rfl, ?_⟩; have _ := aM (Kd.R_mono (Kd.R_keep (IsS62.apart (show IsS62 w0 _ g s0_0 t143 t144 from by repeat (first | (with_reducible first | exact HI0.out | apply IsS62.alloc | apply IsS62.drewN | apply IsS62.drew | apply IsS62.set_1 | apply IsS62.set_2 | refine IsS62.far ?_ (Aside0.out (by assumption)) _) | exact HI0.out)) (rZ HO_112001.out) (by decide)) hk (fun _ h => h.2)) (fun _ h => h.1)); have _ := aM (KeepBut.blk hk (g' := gb101) bkZ NB101_0.out (by simp)); have _ := aM (KeepBut.blk hk (g' := gb111) bkZ NB111_0.out (by simp)); have _ := aM (Kd.R_mono (Kd.R_keep (IsS62.apart (show IsS62 w0 _ g s0_0 t143 t144 from by repeat (first | (with_reducible first | exact HI0.out | apply IsS62.alloc | apply IsS62.drewN | apply IsS62.drew | apply IsS62.set_1 | apply IsS62.set_2 | refine IsS62.far ?_ (Aside0.out (by assumption)) _) | exact HI0.out)) (rZ HO147.out) (by decide)) hk (fun _ h => h.2)) (fun _ h => h.1)); have _ := aM (KeepBut.trans z7c8e hk (.inl rfl)); have _ := aM hb; have _ := aM hi; clear HO_112001 BK101 BK111 HO147 HK HB HI0; rename_i HO_112001 BK101 BK111 HO147 HK HB HI0; (try clear hb); (try clear hk); (try clear hi); have hnb56 := NB111_101.out; have hnc56 := NB101_111.out; have hnb57 := NB111_0.out; have hnc57 := NB0_111.out; obtain ⟨hcz58_0, hcz58_1, hcz58_2, hfz58_0, hfz58_1, hfz58_2⟩ := cellsZ3 BK111.out; have hnb59 := NB101_0.out; have hnc59 := NB0_101.out; obtain ⟨hcz60_0, hcz60_1, hcz60_2, hfz60_0, hfz60_1, hfz60_2⟩ := cellsZ3 BK101.out; obtain ⟨Ao61, co61, eo61⟩ := Kd.R_slice HO_112001.out; subst eo61))
       refine bodyPost_ret (results_cell_row rfl _ _ gb101 25 #[.string t148, .slice Ao61 x112001_34.length co61, .int .i64 (wrap64 (10 * t108))] (0, 0) _ rfl bkZ Tryd.underlying25 rfl (by kernel_rfl)) rfl ?_
       exact ⟨_, z674d, by (with_reducible repeat (first | apply Kd.R_alloc | apply Kd.R_drewN | apply Kd.R_drew)); exact Kd.R_mono (Kd.R_far (p := ⟨gb101, 2, none⟩) (Kd.R_far (p := ⟨gb101, 1, none⟩) (Kd.R_far (p := ⟨gb101, 0, none⟩) (Kd.R_far (p := ⟨gb111, 0, none⟩) (Kd.R_types (Kd.R_types HO_112001.out BK111.out (by decide)) BK101.out (by decide)) (fun _ hk => hk.1.2) (.string t148)) (fun _ hk => hk.2) (.string t148)) (fun _ hk => hk.2) (.slice Ao61 x112001_34.length co61)) (fun _ hk => hk.2) (.int .i64 (wrap64 (10 * t108)))) (fun _ hk => trivial), by repeat (first | (with_reducible first | exact HI0.out | apply IsS62.alloc | apply IsS62.drewN | apply IsS62.drew | apply IsS62.set_1 | apply IsS62.set_2 | refine IsS62.far ?_ (Aside0.out (by assumption)) _) | exact HI0.out), by repeat (first | (with_reducible first | exact HB.out | apply below_alloc | apply pw_below_drewN | apply below_drew1 | refine below_set ?_ (IsS62.ge (Aside0.out (by assumption))) | refine below_set ?_ (Aside0.out (by assumption))) | exact HB.out), z7c8e⟩
     · rw [if_neg c49] at H
       have c49b0 : (t142 == 0) = false := beq_eq_false_iff_ne.mpr c49
       have c49b1 : (t142 != 0) = true := bne_iff_ne.mpr c49
       by_cases c62 : t142 = 1
       · rw [if_pos c62] at H
         have c62b0 : (t142 == 1) = true := beq_iff_eq.mpr c62
         have c62b1 : (t142 != 1) = false := bne_eq_false_iff_eq.mpr c62
         clear c62
         obtain ⟨y151, hy151⟩ : ∃ y_ : List ByteArray, y_ = (([(⟨#[97]⟩ : ByteArray), (⟨#[122, 122]⟩ : ByteArray), (⟨#[]⟩ : ByteArray)] : List ByteArray)) := ⟨_, rfl⟩
         replace H : ((spec_l1Cur_of.f s0_0 t143 t144 y151).bind fun bt154 => (if x112001_34.length < 4398046511104 then (some (t105, (x112001_34 ++ [(⟨bt154.1, (⟨#[118]⟩ : ByteArray)⟩ : S69)]), (wrap64 (10 * t108)), bt154.2.1, bt154.2.2)) else (none))) = some (r1, r2, r3, r4, r5) := by first | (rw [hy151]; with_reducible exact H) | (have H2_ := (Option.bind_some _ _).symm.trans H; rw [hy151]; with_reducible exact H2_) | (have H2_ := (Option.bind_some _ _).symm.trans H; with_reducible exact H2_) | with_reducible exact H | (rw [hy151]; exact H) | exact H
         have Ny151 := aM hy151
         clear hy151
         replace H := Option.bind_eq_some_iff.mp H
         obtain ⟨⟨t154, t155, t156⟩, A630, H⟩ := H
         try dsimp only at H
         have A63 := aM A630
         clear A630
         by_cases c64 : x112001_34.length < 4398046511104
         · rw [if_pos c64] at H
           have LMc64 := aM c64
           clear c64
           obtain ⟨y157, hy157⟩ : ∃ y_ : List (S69), y_ = (x112001_34 ++ [(⟨t154, (⟨#[118]⟩ : ByteArray)⟩ : S69)]) := ⟨_, rfl⟩
           replace H : (some (t105, y157, (wrap64 (10 * t108)), t155, t156)) = some (r1, r2, r3, r4, r5) := by first | (rw [hy157]; with_reducible exact H) | (have H2_ := (Option.bind_some _ _).symm.trans H; rw [hy157]; with_reducible exact H2_) | (have H2_ := (Option.bind_some _ _).symm.trans H; with_reducible exact H2_) | with_reducible exact H | (rw [hy157]; exact H) | exact H
           have Ny157 := aM hy157
           clear hy157
           simp only [Option.some.injEq, Prod.mk.injEq] at H
           obtain ⟨rfl, rfl, rfl, rfl, rfl⟩ := H
           try go_wp2_with (first | ((with_reducible refine gate_callee (f := 30) rfl ?_); refine goesL_ (some 37) rfl rfl Tryd.func30 (by kernel_rfl) rfl #[.pointer (some ⟨g, 0, none⟩), .int .i64 60] rfl zee81 ?_; (with_reducible refine (spec_l1Cur_pick.calls g s0_0 x1001_34 x1002_34 60 t142 t143 t144 w0 _ ?side1 ?side2 A48.out).mono ?_); (case side1 => exact (by repeat (first | (with_reducible first | exact HI0.out | apply IsS62.alloc | apply IsS62.drewN | apply IsS62.drew | apply IsS62.set_1 | apply IsS62.set_2 | refine IsS62.far ?_ (Aside0.out (by assumption)) _) | exact HI0.out))); (case side2 => exact (by repeat (first | (with_reducible first | exact HB.out | apply below_alloc | apply pw_below_drewN | apply below_drew1 | refine below_set ?_ (IsS62.ge (Aside0.out (by assumption))) | refine below_set ?_ (Aside0.out (by assumption))) | exact HB.out))); rintro e w65 ⟨rfl, hi, hb, hk⟩; refine ⟨_, rfl, ?_⟩; have _ := aM (Kd.R_mono (Kd.R_keep (IsS62.apart (show IsS62 w0 _ g s0_0 x1001_34 x1002_34 from by repeat (first | (with_reducible first | exact HI0.out | apply IsS62.alloc | apply IsS62.drewN | apply IsS62.drew | apply IsS62.set_1 | apply IsS62.set_2 | refine IsS62.far ?_ (Aside0.out (by assumption)) _) | exact HI0.out)) (rZ HO_112001.out) (by decide)) hk (fun _ h => h.2)) (fun _ h => h.1)); have _ := aM (KeepBut.blk hk (g' := gb101) bkZ NB101_0.out (by simp)); have _ := aM (KeepBut.blk hk (g' := gb111) bkZ NB111_0.out (by simp)); have _ := aM (KeepBut.trans z7c8e hk (.inl rfl)); have _ := aM hb; have _ := aM hi; clear HO_112001 BK101 BK111 HK HB HI0; rename_i HO_112001 BK101 BK111 HK HB HI0; (try clear hb); (try clear hk); (try clear hi)))
           have _ := aM (Kd.R_drew HO_112001.out)
           have _ := aM (blk_drew BK101.out)
           have _ := aM (blk_drew BK111.out)
           have _ := aM (IsS62.drew HI0.out)
           have _ := aM (keep_drew HK.out)
           have _ := aM (below_drew1 HB.out)
           clear HO_112001
           clear BK101
           clear BK111
           clear HI0
           clear HK
           clear HB
           rename_i HO_112001 BK101 BK111 HI0 HK HB
           refine start_ (n := 10) (S := fun w' => w'.cell? ⟨gb111, 0, none⟩ = some (.string t105) ∧ w'.cell? ⟨gb111, 1, none⟩ = some (u112001) ∧ w'.cell? ⟨gb111, 2, none⟩ = some (.int .i64 (wrap64 (10 * t108)))) (ds := [9]) #[false, false, false, false, false, false, false, false, false, false] (by kernel_rfl) rfl rfl ⟨(blk_cell BK111.out 0).trans rfl, (blk_cell BK111.out 1).trans rfl, (blk_cell BK111.out 2).trans rfl⟩ (fun hHeld => ?_); refine with_tabW spec_l1Cur_key.tab10 spec_l1Cur_key.bits10 (fun HT_ HW_ => ?_)
           generalize w65.drew = w66 at HO_112001 BK101 BK111 HI0 HK HB hHeld ⊢
           refine pure_ (i := 0) (N := some 46) (v := ?_) (a' := ?_) #[true, false, false, false, false, false, false, false, false, false] rfl rfl (any_of HT_.out (by kernel_rfl)) (fun _ _ _ h => h) (Or.inl ⟨by rfl, ?_⟩) ?_ ?_
           rotate_left
           · intro w'
             go_simp
             with_reducible rfl
           rotate_left
           · simp only [Act.put, List.setIfInBounds_toArray, List.set_cons_zero, List.set_cons_succ, i64_w, i32_w]
             rfl
           refine pure_ (i := 2) (N := some 48) (v := ?_) (a' := ?_) #[true, false, true, false, false, false, false, false, false, false] rfl rfl (any_of HT_.out (by kernel_rfl)) (fun _ _ _ h => h) (Or.inl ⟨by rfl, ?_⟩) ?_ ?_
           rotate_left
           · intro w'
             go_simp
             with_reducible rfl
           rotate_left
           · simp only [Act.put, List.setIfInBounds_toArray, List.set_cons_zero, List.set_cons_succ, i64_w, i32_w]
             rfl
           refine take_ (i := 1) (N := some 47) (v := ?_) (a' := ?_) #[true, true, true, false, false, false, false, false, false, false] rfl rfl (take_ofW HT_.out HW_.out (by kernel_rfl)) (fun _ _ _ h => h) (Or.inl ⟨by rfl, ?_⟩) hHeld ?_ ?_
           rotate_left
           · rintro w' ⟨s0, s1, s2⟩
             go_simp
             with_reducible rfl
           rotate_left
           · simp only [Act.put, List.setIfInBounds_toArray, List.set_cons_zero, List.set_cons_succ, i64_w, i32_w]
             rfl
           refine one_ (i := 3) (N := some 49) #[true, true, true, true, false, false, false, false, false, false] rfl rfl (one_of HT_.out (by kernel_rfl)) (by decide) (fun K hK => ?_)
           refine Kd.R_lit_step Kd.string _ 9 ?hg (N := 49) ?hd (xs := ([(⟨#[97]⟩ : ByteArray), (⟨#[122, 122]⟩ : ByteArray), (⟨#[]⟩ : ByteArray)] : List ByteArray)) (inner := [.string (⟨#[97]⟩ : ByteArray), .string (⟨#[122, 122]⟩ : ByteArray), .string (⟨#[]⟩ : ByteArray)]) (ok := fun _ => True) (okp := fun _ => True) ?hr ?hp (fun _ hk => hk) trivial (Below.refl _ _) (Nat.le_refl _) (by simp) ?_; (case hd => rfl); (case hg => rfl); (case hr => first | (go_simp; done) | (go_simp; rfl)); (case hp => exact (Reps.one (show Kd.M Kd.string _ _ _ (⟨#[97]⟩ : ByteArray) [.string (⟨#[97]⟩ : ByteArray)] from rfl) (Reps.one (show Kd.M Kd.string _ _ _ (⟨#[122, 122]⟩ : ByteArray) [.string (⟨#[122, 122]⟩ : ByteArray)] from rfl) (Reps.one (show Kd.M Kd.string _ _ _ (⟨#[]⟩ : ByteArray) [.string (⟨#[]⟩ : ByteArray)] from rfl) (Reps.none _ _)))))
           intro v152 w67 ho68 hb hg_ hnew_
           clear hg_ hnew_
           (first | rw [← Ny151.out] at ho68 | (simp only [Int.reduceToNat] at ho68; rw [← Ny151.out] at ho68))
           have _ := aM (Kd.R_below (rZ HO_112001.out) hb)
           have _ := aM (Kd.R_lower ho68 (keep_size (w := w) (g := g) (row := none) z7c8e))
           have _ := bB gb101 hb
           have _ := bB gb111 hb
           have _ := aM (IsS62.below (by repeat (first | (with_reducible first | exact HI0.out | apply IsS62.alloc | apply IsS62.drewN | apply IsS62.drew | apply IsS62.set_1 | apply IsS62.set_2 | refine IsS62.far ?_ (Aside0.out (by assumption)) _) | exact HI0.out)) hb)
           have _ := aM (KeepBut.trans z7c8e (KeepBut.of_below hb g none) (.inl rfl))
           have _ := aM (below_step (by repeat (first | (with_reducible first | exact HB.out | apply below_alloc | apply pw_below_drewN | apply below_drew1 | refine below_set ?_ (IsS62.ge (Aside0.out (by assumption))) | refine below_set ?_ (Aside0.out (by assumption))) | exact HB.out)) hb)
           clear HO_112001
           clear BK101
           clear BK111
           clear HI0
           clear HK
           clear HB
           rename_i HO_112001 HO153 BK101 BK111 HI0 HK HB
           clear hb ho68
           obtain ⟨Ao69, co69, eo69⟩ := Kd.R_slice HO153.out
           (first | subst eo69 | (injection eo69 with f1_ f2_ f3_; have f4_ := f1_.symm; have f5_ := f3_.symm; clear f1_ f2_ f3_; subst f4_; subst f5_))
           refine hK.out _ _ ⟨(blk_cell BK111.out 0).trans rfl, (blk_cell BK111.out 1).trans rfl, (blk_cell BK111.out 2).trans rfl⟩ (fun hHeld => ?_)
           clear hK K
           refine norm_ (a' := ?_) ?_ ?_
           rotate_left
           · show Act.put _ (some 49) _ = _
             simp only [Act.put, List.setIfInBounds_toArray, List.set_cons_zero, List.set_cons_succ, i64_w, i32_w]
             rfl
           refine one_ (i := 4) (N := some 50) #[true, true, true, true, true, false, false, false, false, false] rfl rfl (one_of HT_.out (by kernel_rfl)) (by decide) (fun K hK => ?_)
           refine goes_ Tryd.func65 (by kernel_rfl) rfl #[.pointer (some ⟨g, 0, none⟩), .slice Ao69 y151.length co69] (by rfl) rfl rfl zee81 ?_
           with_reducible refine (spec_l1Cur_of.calls g s0_0 t143 t144 _ _ y151 t154 t155 t156 w0 _ ?side1 ?side2 ?side3 ?side4 ?side5 A63.out).mono ?_
           (case side1 => exact (by repeat (first | (with_reducible first | exact HI0.out | apply IsS62.alloc | apply IsS62.drewN | apply IsS62.drew | apply IsS62.set_1 | apply IsS62.set_2 | refine IsS62.far ?_ (Aside0.out (by assumption)) _) | exact HI0.out)))
           (case side2 => exact (by repeat (first | (with_reducible first | exact HB.out | apply below_alloc | apply pw_below_drewN | apply below_drew1 | refine below_set ?_ (IsS62.ge (Aside0.out (by assumption))) | refine below_set ?_ (Aside0.out (by assumption))) | exact HB.out)))
           (case side3 => exact (by repeat (first | exact (Kd.R_reads' HO153.out).2.2 | (with_reducible refine Kd.C_alloc ?_ _) | (with_reducible refine Kd.C_drewN ?_ _) | (with_reducible refine Kd.C_drew ?_))))
           (case side4 => exact (Kd.R_reads' HO153.out).2.1)
           (case side5 => exact far_slice (IsS62.own_ne HI0.out HO153.out (by decide)))
           rintro e w70 ⟨rfl, hi, hb, hk⟩
           refine ⟨_, rfl, ?_⟩
           have _ := aM (Kd.R_mono (Kd.R_keep (IsS62.apart (show IsS62 w0 _ g s0_0 t143 t144 from by repeat (first | (with_reducible first | exact HI0.out | apply IsS62.alloc | apply IsS62.drewN | apply IsS62.drew | apply IsS62.set_1 | apply IsS62.set_2 | refine IsS62.far ?_ (Aside0.out (by assumption)) _) | exact HI0.out)) (rZ HO_112001.out) (by decide)) hk (fun _ h => h.2)) (fun _ h => h.1))
           have _ := aM (KeepBut.blk hk (g' := gb101) bkZ NB101_0.out (by simp))
           have _ := aM (KeepBut.blk hk (g' := gb111) bkZ NB111_0.out (by simp))
           have _ := aM (Kd.R_mono (Kd.R_keep (IsS62.apart (show IsS62 w0 _ g s0_0 t143 t144 from by repeat (first | (with_reducible first | exact HI0.out | apply IsS62.alloc | apply IsS62.drewN | apply IsS62.drew | apply IsS62.set_1 | apply IsS62.set_2 | refine IsS62.far ?_ (Aside0.out (by assumption)) _) | exact HI0.out)) (rZ HO153.out) (by decide)) hk (fun _ h => h.2)) (fun _ h => h.1))
           have _ := aM (KeepBut.trans z7c8e hk (.inl rfl))
           have _ := aM hb
           have _ := aM hi
           clear HO_112001
           clear BK101
           clear BK111
           clear HO153
           clear HK
           clear HB
           clear HI0
           rename_i HO_112001 BK101 BK111 HO153 HK HB HI0
           (try clear hb)
           (try clear hb2)
           (try clear hk)
           (try clear hi)
           refine hK.out _ _ ⟨(blk_cell BK111.out 0).trans rfl, (blk_cell BK111.out 1).trans rfl, (blk_cell BK111.out 2).trans rfl⟩ (fun hHeld => ?_)
           clear hK K
           refine norm_ (a' := ?_) ?_ ?_
           rotate_left
           · show Act.put _ (some 50) _ = _
             simp only [Act.put, List.setIfInBounds_toArray, List.set_cons_zero, List.set_cons_succ, i64_w, i32_w]
             rfl
           refine pure_ (i := 5) (N := some 51) (v := ?_) (a' := ?_) #[true, true, true, true, true, true, false, false, false, false] rfl rfl (any_of HT_.out (by kernel_rfl)) (fun _ _ _ h => h) (Or.inl ⟨by rfl, ?_⟩) ?_ ?_
           rotate_left
           · intro w'
             go_simp
             with_reducible rfl
           rotate_left
           · simp only [Act.put, List.setIfInBounds_toArray, List.set_cons_zero, List.set_cons_succ, i64_w, i32_w]
             rfl
           refine one_ (i := 6) (N := some 52) #[true, true, true, true, true, true, true, false, false, false] rfl rfl (one_of HT_.out (by kernel_rfl)) (by decide) (fun K hK => ?_)
           refine value_ (w1 := ?_) (v := ?_) (by rfl) rfl ?_ ?_
           rotate_left 2
           · go_simp
             constructor
             · rfl
             · rfl
           refine hK.out _ _ ⟨(blk_cell (blk_alloc BK111.out _) 0).trans rfl, (blk_cell (blk_alloc BK111.out _) 1).trans rfl, (blk_cell (blk_alloc BK111.out _) 2).trans rfl⟩ (fun hHeld => ?_)
           clear hK K
           refine norm_ (a' := ?_) ?_ ?_
           rotate_left
           · show Act.put _ (some 52) _ = _
             simp only [Act.put, List.setIfInBounds_toArray, List.set_cons_zero, List.set_cons_succ, i64_w, i32_w]
             rfl
           refine one_ (i := 7) (N := some 53) #[true, true, true, true, true, true, true, true, false, false] rfl rfl (one_of HT_.out (by kernel_rfl)) (by decide) (fun K hK => ?_)
           refine Kd.R_append_step k69 w.heap.size (by rfl) (.tmp 47) (.tmp 52) 23 69 (.agg #[(.string ⟨#[]⟩), (.string ⟨#[]⟩)]) 32 rfl Tryd.underlying23 info69 rfl (by decide) (by omega) u112001 x112001_34 (⟨t154, (⟨#[118]⟩ : ByteArray)⟩ : S69) [.string t154, .string (⟨#[118]⟩ : ByteArray)] (fun _ => True) (fun _ => False) rfl rfl ?aP (fun _ hk => hk.elim) ?aF ?aO (Below.refl _ _) ?aS ?aL ?_
           (case aP => exact k69_mkM _ _ _ (⟨t154, (⟨#[118]⟩ : ByteArray)⟩ : S69))
           (case aF => exact (fun _ _ => trivial))
           (case aO => exact (rZ HO_112001.out))
           (case aS => exact (keep_size (w := w) (g := g) (row := none) z7c8e))
           (case aL => have := LMc64.out; omega)
           intro v158 w71 ho hb hg hat
           rw [← Ny157.out] at ho
           have _ := aM (blk_grown (g := gb101) bkZ hg (Kd.R_ne HO_112001.out BK101.out (by decide)))
           have _ := aM (blk_grown (g := gb111) bkZ hg (Kd.R_ne HO_112001.out BK111.out (by decide)))
           have _ := aM (IsS62.grown (by repeat (first | (with_reducible first | exact HI0.out | apply IsS62.alloc | apply IsS62.drewN | apply IsS62.drew | apply IsS62.set_1 | apply IsS62.set_2 | refine IsS62.far ?_ (Aside0.out (by assumption)) _) | exact HI0.out)) hg (IsS62.own_ne HI0.out HO_112001.out (by decide)))
           have _ := aM (Kd.R_over' (rZ HO153.out) (Kd.R_typed (rZ HO_112001.out)) (by decide) hg)
           have _ := aM (below_weaken (by repeat (first | (with_reducible first | exact HB.out | apply below_alloc | apply pw_below_drewN | apply below_drew1 | refine below_set ?_ (IsS62.ge (Aside0.out (by assumption))) | refine below_set ?_ (Aside0.out (by assumption))) | exact HB.out)) HL.out hb)
           have _ := aM (KeepBut.trans z7c8e (KeepBut.of_grown hg g) (Kd.R_base2 HO_112001.out))
           have _ := aM ho
           clear BK101
           clear BK111
           clear HI0
           clear HO153
           clear HB
           clear HK
           clear HO_112001
           rename_i BK101 BK111 HI0 HO153 HB HK HO159
           clear ho hb hg hat
           obtain ⟨Ao72, co72, eo72⟩ := Kd.R_slice HO159.out
           (first | subst eo72 | (injection eo72 with f1_ f2_ f3_; have f4_ := f1_.symm; have f5_ := f3_.symm; clear f1_ f2_ f3_; subst f4_; subst f5_))
           refine hK.out _ _ ⟨(blk_cell BK111.out 0).trans rfl, (blk_cell BK111.out 1).trans rfl, (blk_cell BK111.out 2).trans rfl⟩ (fun hHeld => ?_)
           clear hK K
           refine norm_ (a' := ?_) ?_ ?_
           rotate_left
           · show Act.put _ (some 53) _ = _
             simp only [Act.put, List.setIfInBounds_toArray, List.set_cons_zero, List.set_cons_succ, i64_w, i32_w]
             rfl
           refine pure_ (i := 8) (N := some 54) (v := ?_) (a' := ?_) #[true, true, true, true, true, true, true, true, true, false] rfl rfl (any_of HT_.out (by kernel_rfl)) (fun _ _ _ h => h) (Or.inl ⟨by rfl, ?_⟩) ?_ ?_
           rotate_left
           · intro w'
             go_simp
             with_reducible rfl
           rotate_left
           · simp only [Act.put, List.setIfInBounds_toArray, List.set_cons_zero, List.set_cons_succ, i64_w, i32_w]
             rfl
           refine last_ (i := 9) (N := none) #[true, true, true, true, true, true, true, true, true, true] rfl rfl (one_of HT_.out (by kernel_rfl)) (by decide) (fun K hK => ?_)
           have hs73 : w71.cell? ⟨gb111, 1, none⟩ = some (u112001) := (blk_cell BK111.out 1).trans rfl
           have hfs73 := blk_frozen BK111.out 1
           have hns73_0 := NB101_111.out
           have hms73_0 := NB111_101.out
           refine skip_ (w1 := ?_) (by rfl) rfl ?_ ?_
           rotate_left
           · go_simp
             rfl
           refine hK.out _ _ ?_
           clear hK K
           refine done_ (done_of HT_.out (by kernel_rfl)) ?_
           have hnb74 := NB111_101.out
           have hnc74 := NB101_111.out
           have hnb75 := NB111_0.out
           have hnc75 := NB0_111.out
           obtain ⟨hcz76_0, hcz76_1, hcz76_2, hfz76_0, hfz76_1, hfz76_2⟩ := cellsZ3 BK111.out
           have hnb77 := NB101_0.out
           have hnc77 := NB0_101.out
           obtain ⟨hcz78_0, hcz78_1, hcz78_2, hfz78_0, hfz78_1, hfz78_2⟩ := cellsZ3 BK101.out
           try go_wp2
           refine bodyPost_ret (results_cell_row rfl _ _ gb101 25 #[.string t105, .slice Ao72 y157.length co72, .int .i64 (wrap64 (10 * t108))] (0, 0) _ rfl bkZ Tryd.underlying25 rfl (by kernel_rfl)) rfl ?_
           exact ⟨_, z674d, by (with_reducible repeat (first | apply Kd.R_alloc | apply Kd.R_drewN | apply Kd.R_drew)); exact Kd.R_mono (Kd.R_far (p := ⟨gb101, 2, none⟩) (Kd.R_far (p := ⟨gb101, 1, none⟩) (Kd.R_far (p := ⟨gb101, 0, none⟩) (Kd.R_far (p := ⟨gb111, 1, none⟩) (Kd.R_types (Kd.R_types HO159.out BK111.out (by decide)) BK101.out (by decide)) (fun _ hk => hk.1.2) (.slice Ao72 y157.length co72)) (fun _ hk => hk.2) (.string t105)) (fun _ hk => hk.2) (.slice Ao72 y157.length co72)) (fun _ hk => hk.2) (.int .i64 (wrap64 (10 * t108)))) (fun _ hk => trivial), by repeat (first | (with_reducible first | exact HI0.out | apply IsS62.alloc | apply IsS62.drewN | apply IsS62.drew | apply IsS62.set_1 | apply IsS62.set_2 | refine IsS62.far ?_ (Aside0.out (by assumption)) _) | exact HI0.out), by repeat (first | (with_reducible first | exact HB.out | apply below_alloc | apply pw_below_drewN | apply below_drew1 | refine below_set ?_ (IsS62.ge (Aside0.out (by assumption))) | refine below_set ?_ (Aside0.out (by assumption))) | exact HB.out), z7c8e⟩
         · rw [if_neg c64] at H
           exact absurd H (by simp)
       · rw [if_neg c62] at H
         have c62b0 : (t142 == 1) = false := beq_eq_false_iff_ne.mpr c62
         have c62b1 : (t142 != 1) = true := bne_iff_ne.mpr c62
         by_cases c79 : t142 = 2
         · rw [if_pos c79] at H
           have c79b0 : (t142 == 2) = true := beq_iff_eq.mpr c79
           have c79b1 : (t142 != 2) = false := bne_eq_false_iff_eq.mpr c79
           clear c79
           obtain ⟨y160, hy160⟩ : ∃ y_ : List Int, y_ = (([(-1), 1000000000, 1000000001] : List Int)) := ⟨_, rfl⟩
           replace H : ((spec_l1Cur_among.f s0_0 t143 t144 y160).bind fun bt163 => (some (t105, x112001_34, bt163.1, bt163.2.1, bt163.2.2))) = some (r1, r2, r3, r4, r5) := by first | (rw [hy160]; with_reducible exact H) | (have H2_ := (Option.bind_some _ _).symm.trans H; rw [hy160]; with_reducible exact H2_) | (have H2_ := (Option.bind_some _ _).symm.trans H; with_reducible exact H2_) | with_reducible exact H | (rw [hy160]; exact H) | exact H
           have Ny160 := aM hy160
           clear hy160
           replace H := Option.bind_eq_some_iff.mp H
           obtain ⟨⟨t163, t164, t165⟩, A800, H⟩ := H
           try dsimp only at H
           have A80 := aM A800
           clear A800
           simp only [Option.some.injEq, Prod.mk.injEq] at H
           obtain ⟨rfl, rfl, rfl, rfl, rfl⟩ := H
           go_wp2_with (first | ((with_reducible refine gate_callee (f := 30) rfl ?_); refine goesL_ (some 37) rfl rfl Tryd.func30 (by kernel_rfl) rfl #[.pointer (some ⟨g, 0, none⟩), .int .i64 60] rfl zee81 ?_; (with_reducible refine (spec_l1Cur_pick.calls g s0_0 x1001_34 x1002_34 60 t142 t143 t144 w0 _ ?side1 ?side2 A48.out).mono ?_); (case side1 => exact (by repeat (first | (with_reducible first | exact HI0.out | apply IsS62.alloc | apply IsS62.drewN | apply IsS62.drew | apply IsS62.set_1 | apply IsS62.set_2 | refine IsS62.far ?_ (Aside0.out (by assumption)) _) | exact HI0.out))); (case side2 => exact (by repeat (first | (with_reducible first | exact HB.out | apply below_alloc | apply pw_below_drewN | apply below_drew1 | refine below_set ?_ (IsS62.ge (Aside0.out (by assumption))) | refine below_set ?_ (Aside0.out (by assumption))) | exact HB.out))); rintro e w81 ⟨rfl, hi, hb, hk⟩; refine ⟨_, rfl, ?_⟩; have _ := aM (Kd.R_mono (Kd.R_keep (IsS62.apart (show IsS62 w0 _ g s0_0 x1001_34 x1002_34 from by repeat (first | (with_reducible first | exact HI0.out | apply IsS62.alloc | apply IsS62.drewN | apply IsS62.drew | apply IsS62.set_1 | apply IsS62.set_2 | refine IsS62.far ?_ (Aside0.out (by assumption)) _) | exact HI0.out)) (rZ HO_112001.out) (by decide)) hk (fun _ h => h.2)) (fun _ h => h.1)); have _ := aM (KeepBut.blk hk (g' := gb101) bkZ NB101_0.out (by simp)); have _ := aM (KeepBut.blk hk (g' := gb111) bkZ NB111_0.out (by simp)); have _ := aM (KeepBut.trans z7c8e hk (.inl rfl)); have _ := aM hb; have _ := aM hi; clear HO_112001 BK101 BK111 HK HB HI0; rename_i HO_112001 BK101 BK111 HK HB HI0; (try clear hb); (try clear hk); (try clear hi)) | ((with_reducible refine gate_dst (N := 58) rfl ?_); refine Kd.R_lit (Kd.int .i64) _ 3 ?hg (N := 58) ?hd (xs := ([(-1), 1000000000, 1000000001] : List Int)) (inner := [.int .i64 (-1), .int .i64 1000000000, .int .i64 1000000001]) (ok := fun _ => True) (okp := fun _ => True) ?hr ?hp (fun _ hk => hk) trivial (Below.refl _ _) (Nat.le_refl _) (by simp) ?_; (case hd => rfl); (case hg => rfl); (case hr => first | (go_simp; done) | (go_simp; rfl)); (case hp => exact (Reps.one (show Kd.M (Kd.int .i64) _ _ _ (-1) [.int .i64 (-1)] from rfl) (Reps.one (show Kd.M (Kd.int .i64) _ _ _ 1000000000 [.int .i64 1000000000] from rfl) (Reps.one (show Kd.M (Kd.int .i64) _ _ _ 1000000001 [.int .i64 1000000001] from rfl) (Reps.none _ _))))); intro v161 w82 ho83 hb hg_ hnew_; clear hg_ hnew_; (first | rw [← Ny160.out] at ho83 | (simp only [Int.reduceToNat] at ho83; rw [← Ny160.out] at ho83)); have _ := aM (Kd.R_below (rZ HO_112001.out) hb); have _ := aM (Kd.R_lower ho83 (keep_size (w := w) (g := g) (row := none) z7c8e)); have _ := bB gb101 hb; have _ := bB gb111 hb; have _ := aM (IsS62.below (by repeat (first | (with_reducible first | exact HI0.out | apply IsS62.alloc | apply IsS62.drewN | apply IsS62.drew | apply IsS62.set_1 | apply IsS62.set_2 | refine IsS62.far ?_ (Aside0.out (by assumption)) _) | exact HI0.out)) hb); have _ := aM (KeepBut.trans z7c8e (KeepBut.of_below hb g none) (.inl rfl)); have _ := aM (below_step (by repeat (first | (with_reducible first | exact HB.out | apply below_alloc | apply pw_below_drewN | apply below_drew1 | refine below_set ?_ (IsS62.ge (Aside0.out (by assumption))) | refine below_set ?_ (Aside0.out (by assumption))) | exact HB.out)) hb); clear HO_112001 BK101 BK111 HI0 HK HB; rename_i HO_112001 HO162 BK101 BK111 HI0 HK HB; clear hb ho83; obtain ⟨Ao84, co84, eo84⟩ := Kd.R_slice HO162.out; subst eo84) | ((with_reducible refine gate_callee (f := 66) rfl ?_); refine goesL_ (some 59) rfl rfl Tryd.func66 (by kernel_rfl) rfl #[.pointer (some ⟨g, 0, none⟩), .slice Ao84 y160.length co84] rfl zee81 ?_; (with_reducible refine (spec_l1Cur_among.calls g s0_0 t143 t144 _ _ y160 t163 t164 t165 w0 _ ?side1 ?side2 ?side3 ?side4 ?side5 A80.out).mono ?_); (case side1 => exact (by repeat (first | (with_reducible first | exact HI0.out | apply IsS62.alloc | apply IsS62.drewN | apply IsS62.drew | apply IsS62.set_1 | apply IsS62.set_2 | refine IsS62.far ?_ (Aside0.out (by assumption)) _) | exact HI0.out))); (case side2 => exact (by repeat (first | (with_reducible first | exact HB.out | apply below_alloc | apply pw_below_drewN | apply below_drew1 | refine below_set ?_ (IsS62.ge (Aside0.out (by assumption))) | refine below_set ?_ (Aside0.out (by assumption))) | exact HB.out))); (case side3 => exact (by repeat (first | exact (Kd.R_reads' HO162.out).2.2 | (with_reducible refine Kd.C_alloc ?_ _) | (with_reducible refine Kd.C_drewN ?_ _) | (with_reducible refine Kd.C_drew ?_)))); (case side4 => exact (Kd.R_reads' HO162.out).2.1); (case side5 => exact far_slice (IsS62.own_ne HI0.out HO162.out (by decide))); rintro e w85 ⟨rfl, hi, hb, hk⟩; refine ⟨_, rfl, ?_⟩; have _ := aM (Kd.R_mono (Kd.R_keep (IsS62.apart (show IsS62 w0 _ g s0_0 t143 t144 from by repeat (first | (with_reducible first | exact HI0.out | apply IsS62.alloc | apply IsS62.drewN | apply IsS62.drew | apply IsS62.set_1 | apply IsS62.set_2 | refine IsS62.far ?_ (Aside0.out (by assumption)) _) | exact HI0.out)) (rZ HO_112001.out) (by decide)) hk (fun _ h => h.2)) (fun _ h => h.1)); have _ := aM (KeepBut.blk hk (g' := gb101) bkZ NB101_0.out (by simp)); have _ := aM (KeepBut.blk hk (g' := gb111) bkZ NB111_0.out (by simp)); have _ := aM (Kd.R_mono (Kd.R_keep (IsS62.apart (show IsS62 w0 _ g s0_0 t143 t144 from by repeat (first | (with_reducible first | exact HI0.out | apply IsS62.alloc | apply IsS62.drewN | apply IsS62.drew | apply IsS62.set_1 | apply IsS62.set_2 | refine IsS62.far ?_ (Aside0.out (by assumption)) _) | exact HI0.out)) (rZ HO162.out) (by decide)) hk (fun _ h => h.2)) (fun _ h => h.1)); have _ := aM (KeepBut.trans z7c8e hk (.inl rfl)); have _ := aM hb; have _ := aM hi; clear HO_112001 BK101 BK111 HO162 HK HB HI0; rename_i HO_112001 BK101 BK111 HO162 HK HB HI0; (try clear hb); (try clear hk); (try clear hi); have hnb86 := NB111_101.out; have hnc86 := NB101_111.out; have hnb87 := NB111_0.out; have hnc87 := NB0_111.out; obtain ⟨hcz88_0, hcz88_1, hcz88_2, hfz88_0, hfz88_1, hfz88_2⟩ := cellsZ3 BK111.out; have hnb89 := NB101_0.out; have hnc89 := NB0_101.out; obtain ⟨hcz90_0, hcz90_1, hcz90_2, hfz90_0, hfz90_1, hfz90_2⟩ := cellsZ3 BK101.out; obtain ⟨Ao91, co91, eo91⟩ := Kd.R_slice HO_112001.out; subst eo91))
           refine bodyPost_ret (results_cell_row rfl _ _ gb101 25 #[.string t105, .slice Ao91 x112001_34.length co91, .int .i64 t163] (0, 0) _ rfl bkZ Tryd.underlying25 rfl (by kernel_rfl)) rfl ?_
           exact ⟨_, z674d, by (with_reducible repeat (first | apply Kd.R_alloc | apply Kd.R_drewN | apply Kd.R_drew)); exact Kd.R_mono (Kd.R_far (p := ⟨gb101, 2, none⟩) (Kd.R_far (p := ⟨gb101, 1, none⟩) (Kd.R_far (p := ⟨gb101, 0, none⟩) (Kd.R_far (p := ⟨gb111, 2, none⟩) (Kd.R_types (Kd.R_types HO_112001.out BK111.out (by decide)) BK101.out (by decide)) (fun _ hk => hk.1.2) (.int .i64 t163)) (fun _ hk => hk.2) (.string t105)) (fun _ hk => hk.2) (.slice Ao91 x112001_34.length co91)) (fun _ hk => hk.2) (.int .i64 t163)) (fun _ hk => trivial), by repeat (first | (with_reducible first | exact HI0.out | apply IsS62.alloc | apply IsS62.drewN | apply IsS62.drew | apply IsS62.set_1 | apply IsS62.set_2 | refine IsS62.far ?_ (Aside0.out (by assumption)) _) | exact HI0.out), by repeat (first | (with_reducible first | exact HB.out | apply below_alloc | apply pw_below_drewN | apply below_drew1 | refine below_set ?_ (IsS62.ge (Aside0.out (by assumption))) | refine below_set ?_ (Aside0.out (by assumption))) | exact HB.out), z7c8e⟩
         · rw [if_neg c79] at H
           have c79b0 : (t142 == 2) = false := beq_eq_false_iff_ne.mpr c79
           have c79b1 : (t142 != 2) = true := bne_iff_ne.mpr c79
           simp only [Option.some.injEq, Prod.mk.injEq] at H
           obtain ⟨rfl, rfl, rfl, rfl, rfl⟩ := H
           go_wp2_with (first | ((with_reducible refine gate_callee (f := 30) rfl ?_); refine goesL_ (some 37) rfl rfl Tryd.func30 (by kernel_rfl) rfl #[.pointer (some ⟨g, 0, none⟩), .int .i64 60] rfl zee81 ?_; (with_reducible refine (spec_l1Cur_pick.calls g s0_0 x1001_34 x1002_34 60 t142 t143 t144 w0 _ ?side1 ?side2 A48.out).mono ?_); (case side1 => exact (by repeat (first | (with_reducible first | exact HI0.out | apply IsS62.alloc | apply IsS62.drewN | apply IsS62.drew | apply IsS62.set_1 | apply IsS62.set_2 | refine IsS62.far ?_ (Aside0.out (by assumption)) _) | exact HI0.out))); (case side2 => exact (by repeat (first | (with_reducible first | exact HB.out | apply below_alloc | apply pw_below_drewN | apply below_drew1 | refine below_set ?_ (IsS62.ge (Aside0.out (by assumption))) | refine below_set ?_ (Aside0.out (by assumption))) | exact HB.out))); rintro e w92 ⟨rfl, hi, hb, hk⟩; refine ⟨_, rfl, ?_⟩; have _ := aM (Kd.R_mono (Kd.R_keep (IsS62.apart (show IsS62 w0 _ g s0_0 x1001_34 x1002_34 from by repeat (first | (with_reducible first | exact HI0.out | apply IsS62.alloc | apply IsS62.drewN | apply IsS62.drew | apply IsS62.set_1 | apply IsS62.set_2 | refine IsS62.far ?_ (Aside0.out (by assumption)) _) | exact HI0.out)) (rZ HO_112001.out) (by decide)) hk (fun _ h => h.2)) (fun _ h => h.1)); have _ := aM (KeepBut.blk hk (g' := gb101) bkZ NB101_0.out (by simp)); have _ := aM (KeepBut.blk hk (g' := gb111) bkZ NB111_0.out (by simp)); have _ := aM (KeepBut.trans z7c8e hk (.inl rfl)); have _ := aM hb; have _ := aM hi; clear HO_112001 BK101 BK111 HK HB HI0; rename_i HO_112001 BK101 BK111 HK HB HI0; (try clear hb); (try clear hk); (try clear hi); have hnb93 := NB111_101.out; have hnc93 := NB101_111.out; have hnb94 := NB111_0.out; have hnc94 := NB0_111.out; obtain ⟨hcz95_0, hcz95_1, hcz95_2, hfz95_0, hfz95_1, hfz95_2⟩ := cellsZ3 BK111.out; have hnb96 := NB101_0.out; have hnc96 := NB0_101.out; obtain ⟨hcz97_0, hcz97_1, hcz97_2, hfz97_0, hfz97_1, hfz97_2⟩ := cellsZ3 BK101.out; obtain ⟨Ao98, co98, eo98⟩ := Kd.R_slice HO_112001.out; subst eo98))
           refine bodyPost_ret (results_cell_row rfl _ _ gb101 25 #[.string t105, .slice Ao98 x112001_34.length co98, .int .i64 (wrap64 (10 * t108))] (0, 0) _ rfl bkZ Tryd.underlying25 rfl (by kernel_rfl)) rfl ?_
           exact ⟨_, z674d, by (with_reducible repeat (first | apply Kd.R_alloc | apply Kd.R_drewN | apply Kd.R_drew)); exact Kd.R_mono (Kd.R_far (p := ⟨gb101, 2, none⟩) (Kd.R_far (p := ⟨gb101, 1, none⟩) (Kd.R_far (p := ⟨gb101, 0, none⟩) (Kd.R_types HO_112001.out BK101.out (by decide)) (fun _ hk => hk.2) (.string t105)) (fun _ hk => hk.2) (.slice Ao98 x112001_34.length co98)) (fun _ hk => hk.2) (.int .i64 (wrap64 (10 * t108)))) (fun _ hk => trivial), by repeat (first | (with_reducible first | exact HI0.out | apply IsS62.alloc | apply IsS62.drewN | apply IsS62.drew | apply IsS62.set_1 | apply IsS62.set_2 | refine IsS62.far ?_ (Aside0.out (by assumption)) _) | exact HI0.out), by repeat (first | (with_reducible first | exact HB.out | apply below_alloc | apply pw_below_drewN | apply below_drew1 | refine below_set ?_ (IsS62.ge (Aside0.out (by assumption))) | refine below_set ?_ (Aside0.out (by assumption))) | exact HB.out), z7c8e⟩

end Go.Proofs.YteogadaloebdaaaDoor.P

-- written by a program of this session's (wip/pp)
namespace Go.Proofs.YteogadaloebdaaaDoor.P
open Go.RowKit Go.Proofs.YteogadaloebdaaaDoorW.PrintWords Go.Proofs.YteogadaloebdaaaDoorW.PrintLast Go.Proofs.YteogadaloebdaaaDoorW.PrintMore
attribute [local go_sem] max2_int min2_int max_two min_two max_three min_three max_four min_four str_geq str_gtr str_leq   -- for this text's walks alone
set_option linter.unusedVariables false
set_option linter.unusedSimpArgs false

/-! ### spec_DrawGoodKey: function 49 -/
def spec_DrawGoodKey.f (k : Nat) (l0 : List Int) : Option (ByteArray × (List (S69)) × Int) := (spec_l1Cur_key.f k l0 0 0).bind fun bt103 => (some (bt103.1, bt103.2.1, bt103.2.2.1))
theorem spec_DrawGoodKey.mono : ∀ a0 k, LeO (spec_DrawGoodKey.f k a0) (spec_DrawGoodKey.f (k + 1) a0) := by
 intro a0 k
 unfold spec_DrawGoodKey.f
 repeat' first
  | (with_reducible first | exact spec_l1Cur_key.mono .. | exact LeO.refl _ | exact LeO.none _ | refine LeO.ite ?_ ?_ | refine LeO.bind ?_ (fun _ => ?_))
  | exact LeO.none _
  | refine LeO.ite ?_ ?_
  | refine LeO.bind ?_ (fun _ => ?_)
set_option maxHeartbeats 8000000 in
set_option maxRecDepth 100000 in
theorem spec_DrawGoodKey.calls (k : Nat) (A0 : Option Addr) (c0 : Nat) (l0 : List Int) (r1 : ByteArray) (r2 : List (S69)) (r3 : Int) (w : World) (hr0 : Kd.C (Kd.int .u8) w A0 l0.length l0) (hc0 : l0.length ≤ c0) (h : spec_DrawGoodKey.f k l0 = some (r1, r2, r3)) :
 Calls Tryd.prog 49 #[.slice A0 l0.length c0] w fun e w' => ∃ v1_ : Value, e = .returned (.agg #[.string r1, v1_, .int .i64 r3]) ∧ Kd.R k69 69 w' w.heap.size (fun _ => True) v1_ r2 ∧ Below w.heap.size w w' := by
 have hu25 := Tryd.underlying25
 have hu62 := Tryd.underlying62
 have HR0 := aM hr0
 have HC0 := aM hc0
 clear hr0 hc0
 have HB := aM (Below.refl w.heap.size w)
 have H : ((spec_l1Cur_key.f k l0 0 0).bind fun bt103 => (some (bt103.1, bt103.2.1, bt103.2.2.1))) = some (r1, r2, r3) := h
 clear h
 replace H := Option.bind_eq_some_iff.mp H
 obtain ⟨⟨t103, t104, t107, t108, t109⟩, A20, H⟩ := H
 try dsimp only at H
 have A2 := aM A20
 clear A20
 simp only [Option.some.injEq, Prod.mk.injEq] at H
 obtain ⟨rfl, rfl, rfl⟩ := H
 go_enter Tryd.func49, Tryd.ntmps49
 go_wp2_with (first | ((with_reducible refine gate_dst (N := 2) rfl ?_); refine box_event ?hg (N := 2) ?hd (cs := #[.string (⟨#[]⟩ : ByteArray), .slice none 0 0, .int .i64 0]) (t := 25) ?hr ?_; (case hd => rfl); (case hg => rfl); (case hr => first | (go_simp; done) | (go_simp; rfl)); intro gb101 hg w3 hbox hb; have _ := aM (below_step hbZ hb); have _ := aM hbox; have _ := szZ hg; have _ := szZ hg; clear HB; rename_i HB BK101 GW101 GE101; clear hb hbox hg) | ((with_reducible refine gate_dst (N := 6) rfl ?_); refine box_event ?hg (N := 6) ?hd (cs := #[.slice A0 l0.length c0, .int .i64 0, .int .u64 0]) (t := 62) ?hr ?_; (case hd => rfl); (case hg => rfl); (case hr => first | (go_simp; done) | (go_simp; rfl)); intro gb102 hg w4 hbox hb; have _ := bB gb101 hb; have _ := aM (below_step hbZ hb); have _ := szZ hg; have _ := szZ hg; have ⟨_, _⟩ := nbB gb101 hg; have _ := aM ((show IsS62 w w4 gb102 l0 0 0 from ⟨_, _, hbox, (by rw [hg]; exact (below_size hbZ) : w.heap.size ≤ gb102), HR0.out⟩)); clear BK101 HB; rename_i BK101 HB GW102 GE102 NB101_102 NB102_101 HI102; clear hb hbox hg) | ((with_reducible refine gate_callee (f := 28) rfl ?_); refine goesL_ (some 8) rfl rfl Tryd.func28 (by kernel_rfl) rfl #[.pointer (some ⟨gb102, 0, none⟩)] rfl zee81 ?_; (with_reducible refine (spec_l1Cur_key.calls k gb102 l0 0 0 t103 t104 t107 t108 t109 w _ ?side1 ?side2 A2.out).mono ?_); (case side1 => exact (by repeat (first | (with_reducible first | exact HI102.out | apply IsS62.alloc | apply IsS62.drewN | apply IsS62.drew | apply IsS62.set_1 | apply IsS62.set_2 | refine IsS62.far ?_ (Aside0.out (by assumption)) _) | exact HI102.out))); (case side2 => exact (by repeat (first | (with_reducible first | exact HB.out | apply below_alloc | apply pw_below_drewN | apply below_drew1 | refine below_set ?_ (IsS62.ge (Aside0.out (by assumption))) | refine below_set ?_ (Aside0.out (by assumption))) | exact HB.out))); rintro e w5 ⟨v105, rfl, ho0, hi, hb, hk⟩; refine ⟨_, rfl, ?_⟩; have _ := aM (KeepBut.blk hk (g' := gb101) bkZ NB101_102.out (by simp)); have _ := aM (Kd.R_lower ho0 (below_size (by repeat (first | (with_reducible first | exact HB.out | apply below_alloc | apply pw_below_drewN | apply below_drew1 | refine below_set ?_ (IsS62.ge (Aside0.out (by assumption))) | refine below_set ?_ (Aside0.out (by assumption))) | exact HB.out)))); have _ := aM hb; have _ := aM hi; clear BK101 HB HI102; rename_i BK101 HO106 HB HI102; (try clear hb); (try clear hk); (try clear hi); (try clear ho0); have hnb6 := NB101_102.out; have hnc6 := NB102_101.out; obtain ⟨hcz7_0, hcz7_1, hcz7_2, hfz7_0, hfz7_1, hfz7_2⟩ := cellsZ3 BK101.out; obtain ⟨Ao8, co8, eo8⟩ := Kd.R_slice HO106.out; subst eo8))
 refine bodyPost_ret (results_cell_row rfl _ _ gb101 25 #[.string t103, .slice Ao8 t104.length co8, .int .i64 t107] (0, 0) _ rfl bkZ Tryd.underlying25 rfl (by kernel_rfl)) rfl ?_
 exact ⟨_, z674d, by (with_reducible repeat (first | apply Kd.R_alloc | apply Kd.R_drewN | apply Kd.R_drew)); exact Kd.R_mono (Kd.R_far (p := ⟨gb101, 2, none⟩) (Kd.R_far (p := ⟨gb101, 1, none⟩) (Kd.R_far (p := ⟨gb101, 0, none⟩) (Kd.R_types HO106.out BK101.out (by decide)) (fun _ hk => hk.2) (.string t103)) (fun _ hk => hk.2) (.slice Ao8 t104.length co8)) (fun _ hk => hk.2) (.int .i64 t107)) (fun _ hk => trivial), by repeat (first | (with_reducible first | exact HB.out | apply below_alloc | apply pw_below_drewN | apply below_drew1 | refine below_set ?_ (IsS62.ge (Aside0.out (by assumption))) | refine below_set ?_ (Aside0.out (by assumption))) | exact HB.out)⟩

end Go.Proofs.YteogadaloebdaaaDoor.P

-- written by a program of this session's (wip/pp)
namespace Go.Proofs.YteogadaloebdaaaDoor.P
open Go.RowKit Go.Proofs.YteogadaloebdaaaDoorW.PrintWords Go.Proofs.YteogadaloebdaaaDoorW.PrintLast Go.Proofs.YteogadaloebdaaaDoorW.PrintMore
attribute [local go_sem] max2_int min2_int max_two min_two max_three min_three max_four min_four str_geq str_gtr str_leq   -- for this text's walks alone
set_option linter.unusedVariables false
set_option linter.unusedSimpArgs false

/-! ### spec_DrawKeyText: function 18 -/
def spec_DrawKeyText.f (k : Nat) (l0 : List Int) : Option (ByteArray × (List (S69)) × Int) := (spec_DrawGoodKey.f k l0).bind fun bt102 => (some (bt102.1, bt102.2.1, bt102.2.2))
theorem spec_DrawKeyText.mono : ∀ a0 k, LeO (spec_DrawKeyText.f k a0) (spec_DrawKeyText.f (k + 1) a0) := by
 intro a0 k
 unfold spec_DrawKeyText.f
 repeat' first
  | (with_reducible first | exact spec_DrawGoodKey.mono .. | exact LeO.refl _ | exact LeO.none _ | refine LeO.ite ?_ ?_ | refine LeO.bind ?_ (fun _ => ?_))
  | exact LeO.none _
  | refine LeO.ite ?_ ?_
  | refine LeO.bind ?_ (fun _ => ?_)
set_option maxHeartbeats 8000000 in
set_option maxRecDepth 100000 in
theorem spec_DrawKeyText.calls (k : Nat) (A0 : Option Addr) (c0 : Nat) (l0 : List Int) (r1 : ByteArray) (r2 : List (S69)) (r3 : Int) (w : World) (hr0 : Kd.C (Kd.int .u8) w A0 l0.length l0) (hc0 : l0.length ≤ c0) (h : spec_DrawKeyText.f k l0 = some (r1, r2, r3)) :
 Calls Tryd.prog 18 #[.slice A0 l0.length c0] w fun e w' => ∃ v1_ : Value, e = .returned (.agg #[.string r1, v1_, .int .i64 r3]) ∧ Kd.R k69 69 w' w.heap.size (fun _ => True) v1_ r2 ∧ Below w.heap.size w w' := by
 have hu25 := Tryd.underlying25
 have HR0 := aM hr0
 have HC0 := aM hc0
 clear hr0 hc0
 have HB := aM (Below.refl w.heap.size w)
 have H : ((spec_DrawGoodKey.f k l0).bind fun bt102 => (some (bt102.1, bt102.2.1, bt102.2.2))) = some (r1, r2, r3) := h
 clear h
 replace H := Option.bind_eq_some_iff.mp H
 obtain ⟨⟨t102, t103, t106⟩, A20, H⟩ := H
 try dsimp only at H
 have A2 := aM A20
 clear A20
 simp only [Option.some.injEq, Prod.mk.injEq] at H
 obtain ⟨rfl, rfl, rfl⟩ := H
 go_enter Tryd.func18, Tryd.ntmps18
 go_wp2_with (first | ((with_reducible refine gate_dst (N := 2) rfl ?_); refine box_event ?hg (N := 2) ?hd (cs := #[.string (⟨#[]⟩ : ByteArray), .slice none 0 0, .int .i64 0]) (t := 25) ?hr ?_; (case hd => rfl); (case hg => rfl); (case hr => first | (go_simp; done) | (go_simp; rfl)); intro gb101 hg w3 hbox hb; have _ := aM (below_step hbZ hb); have _ := aM hbox; have _ := szZ hg; have _ := szZ hg; clear HB; rename_i HB BK101 GW101 GE101; clear hb hbox hg) | ((with_reducible refine gate_callee (f := 49) rfl ?_); refine goesL_ (some 4) rfl rfl Tryd.func49 (by kernel_rfl) rfl #[.slice A0 l0.length c0] rfl zee81 ?_; (with_reducible refine (spec_DrawGoodKey.calls k _ _ l0 t102 t103 t106 _ ?side1 ?side2 A2.out).mono ?_); (case side1 => exact (cZ (Kd.C_below HR0.out HB.out))); (case side2 => exact HC0.out); rintro e w4 ⟨v104, rfl, ho0, hb⟩; refine ⟨_, rfl, ?_⟩; have _ := aM (Kd.R_lower ho0 (below_size hbZ)); have _ := bB gb101 hb; have _ := aM (below_step hbZ hb); clear BK101 HB; rename_i HO105 BK101 HB; (try clear hb); (try clear ho0); obtain ⟨hcz5_0, hcz5_1, hcz5_2, hfz5_0, hfz5_1, hfz5_2⟩ := cellsZ3 BK101.out; obtain ⟨Ao6, co6, eo6⟩ := Kd.R_slice HO105.out; subst eo6))
 refine bodyPost_ret (results_cell_row rfl _ _ gb101 25 #[.string t102, .slice Ao6 t103.length co6, .int .i64 t106] (0, 0) _ rfl bkZ Tryd.underlying25 rfl (by kernel_rfl)) rfl ?_
 exact ⟨_, z674d, by (with_reducible repeat (first | apply Kd.R_alloc | apply Kd.R_drewN | apply Kd.R_drew)); exact Kd.R_mono (Kd.R_far (p := ⟨gb101, 2, none⟩) (Kd.R_far (p := ⟨gb101, 1, none⟩) (Kd.R_far (p := ⟨gb101, 0, none⟩) (Kd.R_types HO105.out BK101.out (by decide)) (fun _ hk => hk.2) (.string t102)) (fun _ hk => hk.2) (.slice Ao6 t103.length co6)) (fun _ hk => hk.2) (.int .i64 t106)) (fun _ hk => trivial), zcb41⟩

end Go.Proofs.YteogadaloebdaaaDoor.P

/- What start-up leaves in internal/bytealg.MaxLen: some number. -/
namespace Go.Proofs.YteogadaloebdaaaDoor.P
open Go Go.RowKit
def TabM_ (w : World) : Prop := ∃ m, w.cell? ⟨0, 0, none⟩ = some (.int .i64 m)
theorem TabM_.stays {w w' : World} (h : TabM_ w) (hb : Below w.heap.size w w') : TabM_ w' := by
  obtain ⟨m, h⟩ := h
  exact ⟨m, (hb.cell (World.block_lt_of_cell? w _ h)).trans h⟩
theorem drewN_below (w : World) (n : Nat) : Below w.heap.size w (w.drewN n) := Go.Proofs.YteogadaloebdaaaDoorW.PrintWords.pw_below_drewN (Below.refl w.heap.size w) n
end Go.Proofs.YteogadaloebdaaaDoor.P

-- written by a program of this session's (wip/pp)
namespace Go.Proofs.YteogadaloebdaaaDoor.P
open Go.RowKit Go.Proofs.YteogadaloebdaaaDoorW.PrintWords Go.Proofs.YteogadaloebdaaaDoorW.PrintLast Go.Proofs.YteogadaloebdaaaDoorW.PrintMore
attribute [local go_sem] max2_int min2_int max_two min_two max_three min_three max_four min_four str_geq str_gtr str_leq   -- for this text's walks alone
set_option linter.unusedVariables false
set_option linter.unusedSimpArgs false

/-! ### strings_Cut: function 41 -/
def strings_Cut.f (a0 a1 : ByteArray) : Option (ByteArray × ByteArray × Bool) := if a0.size < 4294967281 then some (⟨(Go.Lib.cut a0.data.toList a1.data.toList).1.toArray⟩, ⟨(Go.Lib.cut a0.data.toList a1.data.toList).2.1.toArray⟩, (Go.Lib.cut a0.data.toList a1.data.toList).2.2) else none
theorem strings_Cut.calls (a0 a1 : ByteArray) (r1 r2 : ByteArray) (r3 : Bool) (w : World) (hTabM_ : TabM_ w) (h : strings_Cut.f a0 a1 = some (r1, r2, r3)) :
 Calls Tryd.prog 41 #[.string a0, .string a1] w fun e w' => e = .returned (.tuple #[.string r1, .string r2, .bool r3]) ∧ Below w.heap.size w w' := by
 obtain ⟨m, hm⟩ := hTabM_
 unfold strings_Cut.f at h
 split at h
 · rename_i hb
   simp only [Option.some.injEq, Prod.mk.injEq] at h
   obtain ⟨rfl, rfl, rfl⟩ := h
   refine (Tryd.strings_Cut a0 a1 m w hb hm).mono ?_
   rintro e w' ⟨rfl, n, rfl⟩
   exact ⟨rfl, drewN_below w n⟩
 · cases h

end Go.Proofs.YteogadaloebdaaaDoor.P

/- What start-up leaves in strconv's two errors: some error. -/
namespace Go.Proofs.YteogadaloebdaaaDoor.P
open Go Go.RowKit
theorem var_stays {P : Program} {w w' : World} {n : String} {cs : Array Value} (h : w.var? P n = some cs) (hb : Below w.heap.size w w') : w'.var? P n = some cs := by
  unfold World.var? at h ⊢
  cases hg : P.globalNamed n with
  | none => simp [hg] at h
  | some g =>
    simp only [hg, Option.bind_some] at h ⊢
    have hlt : g < w.heap.size := by
      rcases Nat.lt_or_ge g w.heap.size with h' | h'
      · exact h'
      · simp [Array.getElem?_eq_none h'] at h
    rw [hb.block g hlt]
    exact h
def TabE_ (w : World) : Prop := (∃ tp p, w.var? Tryd.prog "strconv.ErrSyntax" = some #[.iface tp p]) ∧ ∃ tp p, w.var? Tryd.prog "strconv.ErrRange" = some #[.iface tp p]
theorem TabE_.stays {w w' : World} (h : TabE_ w) (hb : Below w.heap.size w w') : TabE_ w' := by
  obtain ⟨⟨a, b, h1⟩, c, d, h2⟩ := h
  exact ⟨⟨a, b, var_stays h1 hb⟩, c, d, var_stays h2 hb⟩
/-- An error that is told by whether it is there. -/
def ErrOf : Option Int → Value → Prop
  | none, v => v = .nilIface
  | some _, v => ∃ t x, v = .iface t x
end Go.Proofs.YteogadaloebdaaaDoor.P

-- written by a program of this session's (wip/pp)
namespace Go.Proofs.YteogadaloebdaaaDoor.P
open Go.RowKit Go.Proofs.YteogadaloebdaaaDoorW.PrintWords Go.Proofs.YteogadaloebdaaaDoorW.PrintLast Go.Proofs.YteogadaloebdaaaDoorW.PrintMore
attribute [local go_sem] max2_int min2_int max_two min_two max_three min_three max_four min_four str_geq str_gtr str_leq   -- for this text's walks alone
set_option linter.unusedVariables false
set_option linter.unusedSimpArgs false

/-! ### strconv_Atoi_50: function 50 -/
def strconv_Atoi_50.f (a0 : ByteArray) : Option (Int × Option Int) := if a0.size ≤ 281474976710656 then some (match Go.Lib.atoiAll a0.data.toList with | .ok v => (v, none) | .range => (Go.Lib.atoiSat a0.data.toList, some 0) | _ => (0, some 0)) else none
theorem strconv_Atoi_50.calls (a0 : ByteArray) (r1 : Int) (r2 : Option Int) (w : World) (hTabE_ : TabE_ w) (h : strconv_Atoi_50.f a0 = some (r1, r2)) :
 Calls Tryd.prog 50 #[.string a0] w fun e w' => ∃ ve_ : Value, e = .returned (.tuple #[.int .i64 r1, ve_]) ∧ ErrOf r2 ve_ ∧ Below w.heap.size w w' := by
 obtain ⟨⟨t1, p1, h1⟩, t2, p2, h2⟩ := hTabE_
 unfold strconv_Atoi_50.f at h
 split at h
 · rename_i hb
   injection h with h
   cases ha : Go.Lib.atoiAll a0.data.toList with
   | ok v =>
    rw [ha] at h
    injection h with e1 e2
    subst e1 e2
    refine (Tryd.strconv_Atoi_ok a0 (by omega) v ha w).mono ?_
    rintro e w' ⟨rfl, hw⟩
    refine ⟨_, rfl, rfl, ?_⟩
    rcases hw with rfl | ⟨t, rfl⟩
    · exact Below.refl _ _
    · exact ⟨rfl, rfl, rfl, by rw [Go.Lib.bytesWorld_size]; omega, fun k hk => Go.Lib.bytesWorld_at_old w _ t k hk⟩
   | range =>
    rw [ha] at h
    injection h with e1 e2
    subst e1 e2
    refine (Tryd.strconv_Atoi_range_var a0 hb ha t2 p2 w h2).mono ?_
    rintro e w' ⟨N, rfl, _, _, hB⟩
    exact ⟨_, rfl, ⟨_, _, rfl⟩, hB⟩
   | _ =>
    rw [ha] at h
    injection h with e1 e2
    subst e1 e2
    refine (Tryd.strconv_Atoi_syntax_var a0 hb ha t1 p1 w h1).mono ?_
    rintro e w' ⟨N, rfl, _, _, hB⟩
    exact ⟨_, rfl, ⟨_, _, rfl⟩, hB⟩
 · cases h

end Go.Proofs.YteogadaloebdaaaDoor.P

-- written by a program of this session's (wip/pp)
namespace Go.Proofs.YteogadaloebdaaaDoor.P
open Go.RowKit Go.Proofs.YteogadaloebdaaaDoorW.PrintWords Go.Proofs.YteogadaloebdaaaDoorW.PrintLast Go.Proofs.YteogadaloebdaaaDoorW.PrintMore
attribute [local go_sem] max2_int min2_int max_two min_two max_three min_three max_four min_four str_geq str_gtr str_leq   -- for this text's walks alone
set_option linter.unusedVariables false
set_option linter.unusedSimpArgs false

/-! ### strings_SplitN: function 51 -/
def strings_SplitN.f (a0 a1 : ByteArray) (a2 : Int) : Option (List ByteArray) := if a0.size < 4294967281 ∧ 1 ≤ a1.size ∧ 1 ≤ a2 ∧ a2 ≤ 9223372036854775807 then some (Go.Lib.splitB a1 0 (min a2.toNat (a0.size + 1) - 1) a0) else none
theorem strings_SplitN.len (a1 : ByteArray) : ∀ (n : Nat) (s : ByteArray), (Go.Lib.splitB a1 0 n s).length ≤ n + 1
 | 0, s => by rw [Go.Lib.splitB]; exact Nat.le_refl _
 | n + 1, s => by
  rw [Go.Lib.splitB]
  split
  · exact Nat.succ_le_succ (Nat.zero_le _)
  · rw [List.length_cons]
    exact Nat.succ_le_succ (strings_SplitN.len a1 n _)
theorem strings_SplitN.calls (a0 a1 : ByteArray) (a2 : Int) (r : List ByteArray) (w : World) (hTabM_ : TabM_ w) (h : strings_SplitN.f a0 a1 a2 = some r) :
 Calls Tryd.prog 51 #[.string a0, .string a1, .int .i64 a2] w fun e w' => ∃ v1_ : Value, e = .returned v1_ ∧ Kd.R Kd.string 9 w' w.heap.size (fun _ => True) v1_ r ∧ Below w.heap.size w w' := by
 obtain ⟨m, hm⟩ := hTabM_
 unfold strings_SplitN.f at h
 split at h
 · rename_i hb
   obtain ⟨h0, h1, h2, h3⟩ := hb
   injection h with h
   obtain ⟨n, rfl⟩ : ∃ n : Nat, a2 = (n : Int) := ⟨a2.toNat, by omega⟩
   rw [Int.toNat_natCast] at h
   have hlen := strings_SplitN.len a1 (min n (a0.size + 1) - 1) a0
   rw [h] at hlen
   have hle : r.length ≤ min n (a0.size + 1) := by omega
   refine (Tryd.strings_SplitN a0 a1 n m w h0 hm h1 (by omega) (by omega)).mono ?_
   rw [h]
   rintro e w' ⟨rfl, rfl⟩
   have hheap : (w.alloc (.cells (Go.Lib.cellsOf r (min n (a0.size + 1))) 9)).heap = w.heap.push (.cells (Go.Lib.cellsOf r (min n (a0.size + 1))) 9) := rfl
   refine ⟨_, rfl, Kd.R_of_own ⟨?_, .inr ⟨w.heap.size, min n (a0.size + 1), Go.Lib.cellsOf r (min n (a0.size + 1)), rfl, Nat.le_refl _, ?_, hle, ?_, ?_, ?_⟩⟩ (fun _ _ => trivial), below_alloc (Below.refl _ _) _⟩
   · unfold encs
     rw [List.length_map, Nat.mul_one]
   · rw [hheap, Array.getElem?_push_size]
   · have : min n (a0.size + 1) ≤ 4294967281 := by omega
     exact Nat.le_trans this (of_decide_eq_true (by kernel_rfl))
   · rw [Go.Lib.cellsOf_size hle, Nat.mul_one]
   · unfold Go.Lib.cellsOf encs
     rw [Nat.mul_one]
     show (r.map Value.string ++ _).take r.length = _
     rw [List.take_append_of_le_length (by rw [List.length_map]; exact Nat.le_refl _), List.take_of_length_le (by rw [List.length_map]; exact Nat.le_refl _)]
 · cases h

end Go.Proofs.YteogadaloebdaaaDoor.P

-- written by a program of this session's (wip/pp)
namespace Go.Proofs.YteogadaloebdaaaDoor.P
open Go.RowKit Go.Proofs.YteogadaloebdaaaDoorW.PrintWords Go.Proofs.YteogadaloebdaaaDoorW.PrintLast Go.Proofs.YteogadaloebdaaaDoorW.PrintMore
attribute [local go_sem] max2_int min2_int max_two min_two max_three min_three max_four min_four str_geq str_gtr str_leq   -- for this text's walks alone
set_option linter.unusedVariables false
set_option linter.unusedSimpArgs false

/-! ### impl_ReadKeyText: function 19 -/
def impl_ReadKeyText.l0 : Nat → ByteArray → List ByteArray → Int → Int → ByteArray → List (S69) → Int → Option (ByteArray × (List (S69)) × Int × Bool)
 | 0, _, _, _, _, _, _, _ => none
 | k + 1, x0, x38, x39, x40, x113000, x113001, x113002 => if x40 < x39 then (if 0 ≤ x40 then (if x40 < (x38.length : Int) then ((strings_Cut.f (rdOf ByteArray.empty x38 x40) (⟨#[61]⟩ : ByteArray)).bind fun bt117 => (if x113001.length < 4398046511104 then (impl_ReadKeyText.l0 k x0 x38 x39 (wrap64 (x40 + 1)) x113000 (x113001 ++ [(⟨bt117.1, bt117.2.1⟩ : S69)]) x113002) else (none))) else (none)) else (none)) else ((impl_GoodKey.f k x113000 x113001 x113002).bind fun t123 => (if t123 = true then ((impl_keyText.f k x113000 x113001 x113002).bind fun t124 => (if t124.toList = x0.toList then (some (x113000, x113001, x113002, true)) else (some ((⟨#[]⟩ : ByteArray), ([] : List (S69)), 0, false)))) else (some ((⟨#[]⟩ : ByteArray), ([] : List (S69)), 0, false))))
def impl_ReadKeyText.f (k : Nat) (a0 : ByteArray) : Option (ByteArray × (List (S69)) × Int × Bool) := (strings_Cut.f a0 (⟨#[64]⟩ : ByteArray)).bind fun bt102 => ((strconv_Atoi_50.f bt102.2.1).bind fun bt105 => (if bt105.2.isNone = true then ((strings_SplitN.f bt102.1 (⟨#[44]⟩ : ByteArray) 6).bind fun t108 => (if 0 < (t108.length : Int) then (if 1 ≤ (t108.length : Int) then ((some (t108.drop (1 : Int).toNat : List ByteArray)).bind fun y113 => (impl_ReadKeyText.l0 k a0 y113 (y113.length : Int) 0 (rdOf ByteArray.empty t108 0) ([] : List (S69)) bt105.1)) else (none)) else (none))) else (some ((⟨#[]⟩ : ByteArray), ([] : List (S69)), 0, false))))
theorem impl_ReadKeyText.mono_l : ∀ k, (∀ y0 y1 y2 y3 y4 y5 y6, LeO (impl_ReadKeyText.l0 k y0 y1 y2 y3 y4 y5 y6) (impl_ReadKeyText.l0 (k + 1) y0 y1 y2 y3 y4 y5 y6))
 | 0 => fun _ _ _ _ _ _ _ r h => by simp [impl_ReadKeyText.l0] at h
 | k + 1 => by
  have ih0 := impl_ReadKeyText.mono_l k
  · intro y0 y1 y2 y3 y4 y5 y6
    unfold impl_ReadKeyText.l0
    repeat' first
     | (with_reducible first | exact ih0 .. | exact impl_GoodKey.mono .. | exact impl_keyText.mono .. | exact LeO.refl _ | exact LeO.none _ | refine LeO.ite ?_ ?_ | refine LeO.bind ?_ (fun _ => ?_))
     | exact LeO.none _
     | refine LeO.ite ?_ ?_
     | refine LeO.bind ?_ (fun _ => ?_)
theorem impl_ReadKeyText.mono : ∀ a0 k, LeO (impl_ReadKeyText.f k a0) (impl_ReadKeyText.f (k + 1) a0) := by
 intro a0 k
 have ih0 := impl_ReadKeyText.mono_l k
 unfold impl_ReadKeyText.f
 repeat' first
  | (with_reducible first | exact ih0 .. | exact impl_GoodKey.mono .. | exact impl_keyText.mono .. | exact LeO.refl _ | exact LeO.none _ | refine LeO.ite ?_ ?_ | refine LeO.bind ?_ (fun _ => ?_))
  | exact LeO.none _
  | refine LeO.ite ?_ ?_
  | refine LeO.bind ?_ (fun _ => ?_)
set_option maxHeartbeats 8000000 in
set_option maxRecDepth 100000 in
theorem impl_ReadKeyText.calls (k : Nat) (a0 : ByteArray) (r1 : ByteArray) (r2 : List (S69)) (r3 : Int) (r4 : Bool) (w : World) (hTabE_ : TabE_ w) (hTabM_ : TabM_ w) (hTab_ : Tab_ w) (h : impl_ReadKeyText.f k a0 = some (r1, r2, r3, r4)) :
 Calls Tryd.prog 19 #[.string a0] w fun e w' => ∃ v1_ : Value, e = .returned (.tuple #[.agg #[.string r1, v1_, .int .i64 r3], .bool r4]) ∧ Kd.R k69 69 w' w.heap.size (fun _ => True) v1_ r2 ∧ Below w.heap.size w w' := by
 have hu25 := Tryd.underlying25
 have hu69 := Tryd.underlying69
 have hu86 := Tryd.underlying86
 have hu122 := Tryd.underlying122
 have HTabE_ := aM hTabE_
 clear hTabE_
 have HTabM_ := aM hTabM_
 clear hTabM_
 have HTab_ := aM hTab_
 clear hTab_
 have HB := aM (Below.refl w.heap.size w)
 have H : ((strings_Cut.f a0 (⟨#[64]⟩ : ByteArray)).bind fun bt102 => ((strconv_Atoi_50.f bt102.2.1).bind fun bt105 => (if bt105.2.isNone = true then ((strings_SplitN.f bt102.1 (⟨#[44]⟩ : ByteArray) 6).bind fun t108 => (if 0 < (t108.length : Int) then (if 1 ≤ (t108.length : Int) then ((some (t108.drop (1 : Int).toNat : List ByteArray)).bind fun y113 => (impl_ReadKeyText.l0 k a0 y113 (y113.length : Int) 0 (rdOf ByteArray.empty t108 0) ([] : List (S69)) bt105.1)) else (none)) else (none))) else (some ((⟨#[]⟩ : ByteArray), ([] : List (S69)), 0, false))))) = some (r1, r2, r3, r4) := h
 clear h
 replace H := Option.bind_eq_some_iff.mp H
 obtain ⟨⟨t102, t103, t104⟩, A20, H⟩ := H
 try dsimp only at H
 have A2 := aM A20
 clear A20
 replace H := Option.bind_eq_some_iff.mp H
 obtain ⟨⟨t105, t106⟩, A30, H⟩ := H
 try dsimp only at H
 have A3 := aM A30
 clear A30
 rcases t106 with _ | q107
 · have H1 : ((strings_SplitN.f t102 (⟨#[44]⟩ : ByteArray) 6).bind fun t108 => (if 0 < (t108.length : Int) then (if 1 ≤ (t108.length : Int) then ((some (t108.drop (1 : Int).toNat : List ByteArray)).bind fun y113 => (impl_ReadKeyText.l0 k a0 y113 (y113.length : Int) 0 (rdOf ByteArray.empty t108 0) ([] : List (S69)) t105)) else (none)) else (none))) = some (r1, r2, r3, r4) := by rw [if_pos (show (none : Option Int).isNone = true by rfl)] at H; exact H
   clear H
   have H := H1
   clear H1
   try simp only [errW_none, errW_some]
   replace H := Option.bind_eq_some_iff.mp H
   obtain ⟨t108, A40, H⟩ := H
   try dsimp only at H
   have A4 := aM A40
   clear A40
   by_cases c5 : 0 < (t108.length : Int)
   · rw [if_pos c5] at H
     have c5b0 : decide (0 < (t108.length : Int)) = true := decide_eq_true c5
     have c5b1 : decide (0 < t108.length) = true := decide_eq_true (by omega)
     clear c5
     by_cases c6 : 1 ≤ (t108.length : Int)
     · rw [if_pos c6] at H
       have c6b0 := eq_true c6
       have c6b1 : decide (1 ≤ (t108.length : Int)) = true := decide_eq_true c6
       clear c6
       obtain ⟨y113, hy113⟩ : ∃ y_ : List ByteArray, y_ = (t108.drop (1 : Int).toNat) := ⟨_, rfl⟩
       replace H : (impl_ReadKeyText.l0 k a0 y113 (y113.length : Int) 0 (rdOf ByteArray.empty t108 0) ([] : List (S69)) t105) = some (r1, r2, r3, r4) := by first | (rw [hy113]; with_reducible exact H) | (have H2_ := (Option.bind_some _ _).symm.trans H; rw [hy113]; with_reducible exact H2_) | (have H2_ := (Option.bind_some _ _).symm.trans H; with_reducible exact H2_) | with_reducible exact H | (rw [hy113]; exact H) | exact H
       have Ny113 := aM hy113
       clear hy113
       have H' := aM H
       clear H
       go_enter Tryd.func19, Tryd.ntmps19
       go_wp2_with (first | ((with_reducible refine gate_dst (N := 2) rfl ?_); refine box_event ?hg (N := 2) ?hd (cs := #[.string (⟨#[]⟩ : ByteArray), .slice none 0 0, .int .i64 0]) (t := 25) ?hr ?_; (case hd => rfl); (case hg => rfl); (case hr => first | (go_simp; done) | (go_simp; rfl)); intro gb101 hg w7 hbox hb; have _ := aM (below_step hbZ hb); have _ := aM hbox; have _ := szZ hg; have _ := szZ hg; clear HB; rename_i HB BK101 GW101 GE101; clear hb hbox hg) | ((with_reducible refine gate_callee (f := 41) rfl ?_); refine goesL_ (some 18) rfl rfl Tryd.func41 (by kernel_rfl) rfl #[.string a0, .string (⟨#[64]⟩ : ByteArray)] rfl zee81 ?_; (with_reducible refine (strings_Cut.calls a0 (⟨#[64]⟩ : ByteArray) t102 t103 t104 _ ?side1 A2.out).mono ?_); (case side1 => exact TabM_.stays HTabM_.out hbZ); rintro e w8 ⟨rfl, hb⟩; refine ⟨_, rfl, ?_⟩; have _ := bB gb101 hb; have _ := aM (below_step hbZ hb); clear BK101 HB; rename_i BK101 HB; (try clear hb)) | ((with_reducible refine gate_callee (f := 50) rfl ?_); refine goesL_ (some 24) rfl rfl Tryd.func50 (by kernel_rfl) rfl #[.string t103] rfl zee81 ?_; (with_reducible refine (strconv_Atoi_50.calls t103 t105 none _ ?side1 A3.out).mono ?_); (case side1 => exact TabE_.stays HTabE_.out hbZ); rintro e w9 ⟨ve_, rfl, hv_, hb⟩; (first | (obtain rfl : ve_ = .nilIface := hv_) | (obtain ⟨_, _, rfl⟩ : ∃ t_ x_, ve_ = .iface t_ x_ := hv_)); refine ⟨_, rfl, ?_⟩; have _ := bB gb101 hb; have _ := aM (below_step hbZ hb); clear BK101 HB; rename_i BK101 HB; (try clear hb); (try simp only [errW_none, errW_some])) | ((with_reducible refine gate_callee (f := 51) rfl ?_); refine goesL_ (some 31) rfl rfl Tryd.func51 (by kernel_rfl) rfl #[.string t102, .string (⟨#[44]⟩ : ByteArray), .int .i64 6] rfl zee81 ?_; (with_reducible refine (strings_SplitN.calls t102 (⟨#[44]⟩ : ByteArray) 6 t108 _ ?side1 A4.out).mono ?_); (case side1 => exact TabM_.stays HTabM_.out hbZ); rintro e w10 ⟨v109, rfl, ho0, hb⟩; refine ⟨_, rfl, ?_⟩; have _ := aM (Kd.R_lower ho0 (below_size hbZ)); have _ := bB gb101 hb; have _ := aM (below_step hbZ hb); clear BK101 HB; rename_i HO110 BK101 HB; (try clear hb); (try clear ho0); obtain ⟨Ao11, co11, eo11⟩ := Kd.R_slice HO110.out; subst eo11; have p111 : 0 ≤ (0 : Int) := (by omega); have q111 : 0 < (t108.length : Int) := of_decide_eq_true z1200; obtain ⟨ad111, e111, hx111_0⟩ := Kd.at_string (Kd.R_reads' HO110.out).2.2 0 p111 q111; cases e111; have qi111 : (0 < t108.length) = True := eq_true (by omega); (try rw [show ((0 : Int)).toNat = 0 from rfl] at hx111_0); (try rw [Addr.add_zero'] at hx111_0); replace p111 := eq_true p111; replace q111 := eq_true q111) | ((with_reducible refine gate_dst (N := 10) rfl ?_); refine box_event ?hg (N := 10) ?hd (cs := #[.string (⟨#[]⟩ : ByteArray), .slice none 0 0, .int .i64 0]) (t := 25) ?hr ?_; (case hd => rfl); (case hg => rfl); (case hr => first | (go_simp; done) | (go_simp; rfl)); intro gb112 hg w12 hbox hb; have _ := aM (Kd.R_below (rZ HO110.out) hb); have _ := bB gb101 hb; have _ := aM (below_step hbZ hb); have _ := aM hbox; have _ := szZ hg; have _ := szZ hg; have ⟨_, _⟩ := nbB gb101 hg; clear HO110 BK101 HB; rename_i HO110 BK101 HB BK112 GW112 GE112 NB101_112 NB112_101; clear hb hbox hg; have hnb13 := NB112_101.out; have hnc13 := NB101_112.out; obtain ⟨hcz14_0, hcz14_1, hcz14_2, hfz14_0, hfz14_1, hfz14_2⟩ := cellsZ3 BK112.out) | ((with_reducible refine gate_store (t := 25) (p := 10) rfl ?_); refine store_event (t := 25) (p := 10) (v := ?vo_w15) (w1 := (((w12.setCell ⟨gb112, 0, none⟩ (.string (rdOf ByteArray.empty t108 0))).setCell ⟨gb112, 1, none⟩ (.slice none 0 0)).setCell ⟨gb112, 2, none⟩ (.int .i64 t105))) ?hg ?ho ?hn ?hr ?_; (case ho => rfl); (case hg => rfl); (case hn => rfl); (case hr => first | (go_simp; done) | (go_simp; rfl)); intro w15 hw; have _ : Aside0 (Kd.R Kd.string 9 w15 w.heap.size (fun _ => True) (.slice (some ad111) t108.length co11) t108) := ⟨(by rw [hw]; exact (by (with_reducible repeat (first | apply Kd.R_alloc | apply Kd.R_drewN | apply Kd.R_drew)); exact Kd.R_mono (Kd.R_far (p := ⟨gb112, 2, none⟩) (Kd.R_far (p := ⟨gb112, 1, none⟩) (Kd.R_far (p := ⟨gb112, 0, none⟩) (Kd.R_types HO110.out BK112.out (by decide)) (fun _ hk => hk.2) (.string (rdOf ByteArray.empty t108 0))) (fun _ hk => hk.2) (.slice none 0 0)) (fun _ hk => hk.2) (.int .i64 t105)) (fun _ hk => trivial)))⟩; have _ : Aside0 (w15.heap[gb101]? = some (.cells #[.string (⟨#[]⟩ : ByteArray), .slice none 0 0, .int .i64 0] 25 (0, 0))) := ⟨(by rw [hw]; exact bkZ)⟩; have _ : Aside0 (w15.heap[gb112]? = some (.cells #[.string (rdOf ByteArray.empty t108 0), .slice none 0 0, .int .i64 t105] 25 (0, 0))) := ⟨(by rw [hw]; exact bkZ)⟩; have _ : Aside0 (Below w.heap.size w w15) := ⟨(by rw [hw]; exact hbZ)⟩; clear hw HO110 BK101 BK112 HB; rename_i HO110 BK101 BK112 HB; have q16 : (1 : Int) ≤ ((t108.length : Int) : Int) := of_decide_eq_true z1200; obtain ⟨i016, hi016, _, hsz16, _⟩ := info_parts info9; have hcut16 := cut_from (P := Tryd.prog) 89 9 .i64 Tryd.underlying89 hi016 1 hsz16 (some ad111) t108.length co11 1 (by omega) q16; have hr16 := Kd.Q_drop (k := (1 : Int).toNat) (Kd.Q_of_R HO110.out) (by omega); obtain ⟨A16, hA16⟩ : ∃ A1, A1 = (if co11 = (1 : Int).toNat then (some ad111) else ((some ad111) : Option Addr).map (·.add ((1 : Int).toNat * 1))) := ⟨_, rfl⟩; obtain ⟨c16, hc16⟩ : ∃ c1, c1 = co11 - (1 : Int).toNat := ⟨_, rfl⟩; have hy16 : y113.length = t108.length - (1 : Int).toNat := (by rw [Ny113.out, List.length_drop]); rw [← Ny113.out] at hr16; rw [← hy16, ← hA16, ← hc16] at hcut16; replace hr16 : Kd.Q Kd.string 9 w15 w.heap.size (fun _ => True) (.slice A16 y113.length c16) y113 := (by rw [hA16, hc16, hy16]; exact hr16); have HE16 : Aside0 ((Value.slice A16 y113.length c16).ownBlock = (.slice (some ad111) t108.length co11 : Value).ownBlock) := ⟨by rw [hA16]; split <;> (cases ((some ad111) : Option Addr) <;> rfl)⟩; clear hy16 hi016 hsz16 HO110 hA16 hc16; have HO115 := aM hr16; clear hr16; replace q16 := eq_true q16))
       go_loopg [40] k (fun kq v40 w' => ∃ (x40_1 : Int) (x113001_1 : List (S69)) (u113001 : Value), v40 = .int .i64 x40_1 ∧ Aside0 (impl_ReadKeyText.l0 kq a0 y113 (y113.length : Int) x40_1 (rdOf ByteArray.empty t108 0) x113001_1 t105 = some (r1, r2, r3, r4)) ∧ Aside0 (kq ≤ k) ∧ Aside0 (Kd.Q Kd.string 9 w' w.heap.size (fun _ => True) (.slice A16 y113.length c16) y113) ∧ Aside0 (Kd.R k69 69 w' w.heap.size (fun _ => True) u113001 x113001_1) ∧ Aside0 (w'.heap[gb101]? = some (.cells #[.string (⟨#[]⟩ : ByteArray), (.slice none 0 0), .int .i64 0] 25 (0, 0))) ∧ Aside0 (w'.heap[gb112]? = some (.cells #[.string (rdOf ByteArray.empty t108 0), u113001, .int .i64 t105] 25 (0, 0))) ∧ Aside0 (Below w.heap.size w w'))
       case atStart => exact ⟨(0), (([] : List (S69))), (.slice none 0 0), z4458, H', ⟨Nat.le_refl _⟩, ⟨kZ HO115.out⟩, ⟨z02fa⟩, ⟨bkZ⟩, ⟨bkZ⟩, ⟨zcb41⟩⟩
       case round =>
        clear H'
        try clear c1
        try clear p1
        try clear q1
        try clear hx1
        try clear qi1
        try clear p2
        try clear c4
        try clear c5
        try clear c5b0
        try clear c5b1
        try clear c6
        try clear c6b0
        try clear c6b1
        try clear q10
        try clear p11
        try clear q11
        try clear hx11
        try clear qi11
        try clear c13
        try clear c16
        try clear q16
        try clear hcz14_0 hcz14_1 hcz14_2 hfz14_0 hfz14_1 hfz14_2
        try clear hx111_0
        try clear p111
        try clear q107
        try clear q111
        try clear q16
        obtain ⟨x40_1, x113001_1, u113001, rfl, HA, HK1, HO_38, HO_113001, BK101, BK112, HB⟩ := hrel
        cases gk with
        | zero => exact absurd HA.out (by simp [impl_ReadKeyText.l0])
        | succ k1 =>
         have H := HA.out
         clear HA
         simp only [impl_ReadKeyText.l0] at H
         by_cases c17 : x40_1 < (y113.length : Int)
         · rw [if_pos c17] at H
           have c17b0 : decide (x40_1 < (y113.length : Int)) = true := decide_eq_true c17
           clear c17
           by_cases c18 : 0 ≤ x40_1
           · rw [if_pos c18] at H
             have c18b0 : decide (0 ≤ x40_1) = true := decide_eq_true c18
             clear c18
             by_cases c19 : x40_1 < (y113.length : Int)
             · rw [if_pos c19] at H
               have c19b0 : decide (x40_1 < (y113.length : Int)) = true := decide_eq_true c19
               clear c19
               replace H := Option.bind_eq_some_iff.mp H
               obtain ⟨⟨t117, t118, t119⟩, A200, H⟩ := H
               try dsimp only at H
               have A20 := aM A200
               clear A200
               by_cases c21 : x113001_1.length < 4398046511104
               · rw [if_pos c21] at H
                 have LMc21 := aM c21
                 clear c21
                 obtain ⟨y120, hy120⟩ : ∃ y_ : List (S69), y_ = (x113001_1 ++ [(⟨t117, t118⟩ : S69)]) := ⟨_, rfl⟩
                 replace H : (impl_ReadKeyText.l0 k1 a0 y113 (y113.length : Int) (wrap64 (x40_1 + 1)) (rdOf ByteArray.empty t108 0) y120 t105) = some (r1, r2, r3, r4) := by first | (rw [hy120]; with_reducible exact H) | (have H2_ := (Option.bind_some _ _).symm.trans H; rw [hy120]; with_reducible exact H2_) | (have H2_ := (Option.bind_some _ _).symm.trans H; with_reducible exact H2_) | with_reducible exact H | (rw [hy120]; exact H) | exact H
                 have Ny120 := aM hy120
                 clear hy120
                 have H' := aM H
                 clear H
                 have p116 : 0 ≤ (x40_1 : Int) := of_decide_eq_true z1200
                 have q116 : x40_1 < (y113.length : Int) := of_decide_eq_true z1200
                 obtain ⟨ad116, e116, hx116_0⟩ := Kd.at_string (Kd.Q_reads' HO_38.out).2.2 x40_1 p116 q116
                 cases e116
                 replace p116 := eq_true p116
                 replace q116 := eq_true q116
                 go_wp2_with (first | ((with_reducible refine gate_callee (f := 41) rfl ?_); refine goesL_ (some 46) rfl rfl Tryd.func41 (by kernel_rfl) rfl #[.string (rdOf ByteArray.empty y113 x40_1), .string (⟨#[61]⟩ : ByteArray)] rfl zee81 ?_; (with_reducible refine (strings_Cut.calls (rdOf ByteArray.empty y113 x40_1) (⟨#[61]⟩ : ByteArray) t117 t118 t119 _ ?side1 A20.out).mono ?_); (case side1 => exact TabM_.stays HTabM_.out hbZ); rintro e w22 ⟨rfl, hb⟩; refine ⟨_, rfl, ?_⟩; have _ := aM (Kd.Q_below (kZ HO_38.out) hb); have _ := aM (Kd.R_below (rZ HO_113001.out) hb); have _ := bB gb101 hb; have _ := bB gb112 hb; have _ := aM (below_step hbZ hb); clear HO_38 HO_113001 BK101 BK112 HB; rename_i HO_38 HO_113001 BK101 BK112 HB; (try clear hb); have hnb23 := NB112_101.out; have hnc23 := NB101_112.out; obtain ⟨hcz24_0, hcz24_1, hcz24_2, hfz24_0, hfz24_1, hfz24_2⟩ := cellsZ3 BK112.out) | ((with_reducible refine gate_builtin (b := .append) (xs := #[.tmp 51, .tmp 55]) rfl ?_); at_builtin; refine Kd.R_append k69 (w0 := w) w.heap.size rfl (.tmp 51) (.tmp 55) 23 69 (.agg #[(.string ⟨#[]⟩), (.string ⟨#[]⟩)]) 32 rfl Tryd.underlying23 info69 rfl (by decide) (by omega) u113001 x113001_1 (⟨t117, t118⟩ : S69) [.string t117, .string t118] (fun _ => True) (fun _ => False) rfl rfl ?aP (fun _ hk => hk.elim) ?aF ?aO ?aB ?aS ?aL ?_; (case aP => exact k69_mkM _ _ _ (⟨t117, t118⟩ : S69)); (case aB => exact hbZ); (case aF => exact (fun _ _ => trivial)); (case aO => exact (rZ HO_113001.out)); (case aS => exact (below_size hbZ)); (case aL => have := LMc21.out; omega); intro v121 w25 ho hb hg hat; rw [← Ny120.out] at ho; have _ := aM (Kd.Q_over' (kZ HO_38.out) (Kd.R_typed (rZ HO_113001.out)) (by decide) hg); have _ := aM (blk_grown (g := gb101) bkZ hg (Kd.R_ne HO_113001.out BK101.out (by decide))); have _ := aM (blk_grown (g := gb112) bkZ hg (Kd.R_ne HO_113001.out BK112.out (by decide))); have _ := aM hb; have _ := aM ho; clear HO_38 BK101 BK112 HB HO_113001; rename_i HO_38 BK101 BK112 HB HO122; clear ho hb hg hat; obtain ⟨Ao26, co26, eo26⟩ := Kd.R_slice HO122.out; subst eo26; obtain ⟨hcz27_0, hcz27_1, hcz27_2, hfz27_0, hfz27_1, hfz27_2⟩ := cellsZ3 BK112.out))
                 go_roundg k1
                 case measure => have := HK1.out; omega
                 case rel => exact ⟨(wrap64 (x40_1 + 1)), (y120), (.slice Ao26 y120.length co26), z4458, H', ⟨zfb39⟩, ⟨by (with_reducible repeat (first | apply Kd.Q_alloc | apply Kd.Q_drewN | apply Kd.Q_drew)); exact Kd.Q_mono (Kd.Q_far (p := ⟨gb112, 1, none⟩) (Kd.Q_types HO_38.out BK112.out (by decide)) (fun _ hk => hk.2) (.slice Ao26 y120.length co26)) (fun _ hk => trivial)⟩, ⟨by (with_reducible repeat (first | apply Kd.R_alloc | apply Kd.R_drewN | apply Kd.R_drew)); exact Kd.R_mono (Kd.R_far (p := ⟨gb112, 1, none⟩) (Kd.R_types HO122.out BK112.out (by decide)) (fun _ hk => hk.2) (.slice Ao26 y120.length co26)) (fun _ hk => trivial)⟩, ⟨bkZ⟩, ⟨bkZ⟩, ⟨zcb41⟩⟩
               · rw [if_neg c21] at H
                 exact absurd H (by simp)
             · rw [if_neg c19] at H
               exact absurd H (by simp)
           · rw [if_neg c18] at H
             exact absurd H (by simp)
         · rw [if_neg c17] at H
           have c17b0 : decide (x40_1 < (y113.length : Int)) = false := decide_eq_false c17
           clear c17
           replace H := Option.bind_eq_some_iff.mp H
           obtain ⟨t123, A280, H⟩ := H
           try dsimp only at H
           have A28 := aM A280
           clear A280
           by_cases c29 : t123 = true
           · subst c29
             have H1 : ((impl_keyText.f k1 (rdOf ByteArray.empty t108 0) x113001_1 t105).bind fun t124 => (if t124.toList = a0.toList then (some ((rdOf ByteArray.empty t108 0), x113001_1, t105, true)) else (some ((⟨#[]⟩ : ByteArray), ([] : List (S69)), 0, false)))) = some (r1, r2, r3, r4) := by rw [if_pos rfl] at H; exact H
             clear H
             have H := H1
             clear H1
             replace H := Option.bind_eq_some_iff.mp H
             obtain ⟨t124, A300, H⟩ := H
             try dsimp only at H
             have A30 := aM A300
             clear A300
             by_cases c31 : t124.toList = a0.toList
             · rw [if_pos c31] at H
               have c31b0 : (t124.toList == a0.toList) = true := beq_iff_eq.mpr c31
               have c31b1 : (t124.toList != a0.toList) = false := bne_eq_false_iff_eq.mpr c31
               clear c31
               simp only [Option.some.injEq, Prod.mk.injEq] at H
               obtain ⟨rfl, rfl, rfl, rfl⟩ := H
               have hnb32 := NB112_101.out
               have hnc32 := NB101_112.out
               obtain ⟨hcz33_0, hcz33_1, hcz33_2, hfz33_0, hfz33_1, hfz33_2⟩ := cellsZ3 BK112.out
               obtain ⟨Ao34, co34, eo34⟩ := Kd.R_slice HO_113001.out
               subst eo34
               go_wp2_with (first | ((with_reducible refine gate_callee (f := 31) rfl ?_); refine goesL_ (some 60) rfl rfl Tryd.func31 (by kernel_rfl) rfl #[.agg #[.string (rdOf ByteArray.empty t108 0), .slice Ao34 x113001_1.length co34, .int .i64 t105]] rfl zee81 ?_; (with_reducible refine (impl_GoodKey.calls k1 (rdOf ByteArray.empty t108 0) _ _ x113001_1 t105 true _ ?side1 ?side2 A28.out).mono ?_); (case side1 => exact (by repeat (first | exact (Kd.R_reads' HO_113001.out).2.2 | (with_reducible refine Kd.C_alloc ?_ _) | (with_reducible refine Kd.C_drewN ?_ _) | (with_reducible refine Kd.C_drew ?_)))); (case side2 => exact (Kd.R_reads' HO_113001.out).2.1); rintro e w35 ⟨rfl, hb⟩; refine ⟨_, rfl, ?_⟩; have _ := aM (Kd.Q_below (kZ HO_38.out) hb); have _ := aM (Kd.R_below (rZ HO_113001.out) hb); have _ := bB gb101 hb; have _ := bB gb112 hb; have _ := aM (below_step hbZ hb); clear HO_38 HO_113001 BK101 BK112 HB; rename_i HO_38 HO_113001 BK101 BK112 HB; (try clear hb); obtain ⟨hcz36_0, hcz36_1, hcz36_2, hfz36_0, hfz36_1, hfz36_2⟩ := cellsZ3 BK112.out) | (go_at_call 47; (with_reducible refine (impl_keyText.calls k1 (rdOf ByteArray.empty t108 0) _ _ x113001_1 t105 t124 _ ?side1 ?side2 ?side3 A30.out).mono ?_); (case side1 => exact (by repeat (first | exact (Kd.R_reads' HO_113001.out).2.2 | (with_reducible refine Kd.C_alloc ?_ _) | (with_reducible refine Kd.C_drewN ?_ _) | (with_reducible refine Kd.C_drew ?_)))); (case side2 => exact (Kd.R_reads' HO_113001.out).2.1); (case side3 => exact Tab_.stays HTab_.out hbZ); rintro e w37 ⟨rfl, hb⟩; have _ := aM (Kd.Q_below (kZ HO_38.out) hb); have _ := aM (Kd.R_below (rZ HO_113001.out) hb); have _ := bB gb101 hb; have _ := bB gb112 hb; have _ := aM (below_step hbZ hb); clear HO_38 HO_113001 BK101 BK112 HB; rename_i HO_38 HO_113001 BK101 BK112 HB; (try clear hb); obtain ⟨hcz38_0, hcz38_1, hcz38_2, hfz38_0, hfz38_1, hfz38_2⟩ := cellsZ3 BK112.out; obtain ⟨hcz39_0, hcz39_1, hcz39_2, hfz39_0, hfz39_1, hfz39_2⟩ := cellsZ3 BK101.out))
               refine bodyPost_ret (results_ct rfl _ _ gb101 25 #[.string (rdOf ByteArray.empty t108 0), .slice Ao34 x113001_1.length co34, .int .i64 t105] (0, 0) _ rfl bkZ Tryd.underlying25 rfl (by kernel_rfl)) rfl ?_
               exact ⟨_, z674d, by (with_reducible repeat (first | apply Kd.R_alloc | apply Kd.R_drewN | apply Kd.R_drew)); exact Kd.R_mono (Kd.R_far (p := ⟨gb101, 2, none⟩) (Kd.R_far (p := ⟨gb101, 1, none⟩) (Kd.R_far (p := ⟨gb101, 0, none⟩) (Kd.R_types HO_113001.out BK101.out (by decide)) (fun _ hk => hk.2) (.string (rdOf ByteArray.empty t108 0))) (fun _ hk => hk.2) (.slice Ao34 x113001_1.length co34)) (fun _ hk => hk.2) (.int .i64 t105)) (fun _ hk => trivial), zcb41⟩
             · rw [if_neg c31] at H
               have c31b0 : (t124.toList == a0.toList) = false := beq_eq_false_iff_ne.mpr c31
               have c31b1 : (t124.toList != a0.toList) = true := bne_iff_ne.mpr c31
               simp only [Option.some.injEq, Prod.mk.injEq] at H
               obtain ⟨rfl, rfl, rfl, rfl⟩ := H
               have hnb40 := NB112_101.out
               have hnc40 := NB101_112.out
               obtain ⟨hcz41_0, hcz41_1, hcz41_2, hfz41_0, hfz41_1, hfz41_2⟩ := cellsZ3 BK112.out
               obtain ⟨Ao42, co42, eo42⟩ := Kd.R_slice HO_113001.out
               subst eo42
               go_wp2_with (first | ((with_reducible refine gate_callee (f := 31) rfl ?_); refine goesL_ (some 60) rfl rfl Tryd.func31 (by kernel_rfl) rfl #[.agg #[.string (rdOf ByteArray.empty t108 0), .slice Ao42 x113001_1.length co42, .int .i64 t105]] rfl zee81 ?_; (with_reducible refine (impl_GoodKey.calls k1 (rdOf ByteArray.empty t108 0) _ _ x113001_1 t105 true _ ?side1 ?side2 A28.out).mono ?_); (case side1 => exact (by repeat (first | exact (Kd.R_reads' HO_113001.out).2.2 | (with_reducible refine Kd.C_alloc ?_ _) | (with_reducible refine Kd.C_drewN ?_ _) | (with_reducible refine Kd.C_drew ?_)))); (case side2 => exact (Kd.R_reads' HO_113001.out).2.1); rintro e w43 ⟨rfl, hb⟩; refine ⟨_, rfl, ?_⟩; have _ := aM (Kd.Q_below (kZ HO_38.out) hb); have _ := aM (Kd.R_below (rZ HO_113001.out) hb); have _ := bB gb101 hb; have _ := bB gb112 hb; have _ := aM (below_step hbZ hb); clear HO_38 HO_113001 BK101 BK112 HB; rename_i HO_38 HO_113001 BK101 BK112 HB; (try clear hb); obtain ⟨hcz44_0, hcz44_1, hcz44_2, hfz44_0, hfz44_1, hfz44_2⟩ := cellsZ3 BK112.out) | (go_at_call 47; (with_reducible refine (impl_keyText.calls k1 (rdOf ByteArray.empty t108 0) _ _ x113001_1 t105 t124 _ ?side1 ?side2 ?side3 A30.out).mono ?_); (case side1 => exact (by repeat (first | exact (Kd.R_reads' HO_113001.out).2.2 | (with_reducible refine Kd.C_alloc ?_ _) | (with_reducible refine Kd.C_drewN ?_ _) | (with_reducible refine Kd.C_drew ?_)))); (case side2 => exact (Kd.R_reads' HO_113001.out).2.1); (case side3 => exact Tab_.stays HTab_.out hbZ); rintro e w45 ⟨rfl, hb⟩; have _ := aM (Kd.Q_below (kZ HO_38.out) hb); have _ := aM (Kd.R_below (rZ HO_113001.out) hb); have _ := bB gb101 hb; have _ := bB gb112 hb; have _ := aM (below_step hbZ hb); clear HO_38 HO_113001 BK101 BK112 HB; rename_i HO_38 HO_113001 BK101 BK112 HB; (try clear hb); obtain ⟨hcz46_0, hcz46_1, hcz46_2, hfz46_0, hfz46_1, hfz46_2⟩ := cellsZ3 BK101.out))
               refine bodyPost_ret (results_ct rfl _ _ gb101 25 #[.string (⟨#[]⟩ : ByteArray), .slice none 0 0, .int .i64 0] (0, 0) _ rfl bkZ Tryd.underlying25 rfl (by kernel_rfl)) rfl ?_
               exact ⟨_, z674d, z02fa, zcb41⟩
           · replace c29 := Bool.eq_false_iff.mpr c29
             subst c29
             have H1 : (some ((⟨#[]⟩ : ByteArray), ([] : List (S69)), 0, false)) = some (r1, r2, r3, r4) := by rw [if_neg (show ¬ (false = true) by decide)] at H; exact H
             clear H
             have H := H1
             clear H1
             simp only [Option.some.injEq, Prod.mk.injEq] at H
             obtain ⟨rfl, rfl, rfl, rfl⟩ := H
             have hnb47 := NB112_101.out
             have hnc47 := NB101_112.out
             obtain ⟨hcz48_0, hcz48_1, hcz48_2, hfz48_0, hfz48_1, hfz48_2⟩ := cellsZ3 BK112.out
             obtain ⟨Ao49, co49, eo49⟩ := Kd.R_slice HO_113001.out
             subst eo49
             go_wp2_with (first | ((with_reducible refine gate_callee (f := 31) rfl ?_); refine goesL_ (some 60) rfl rfl Tryd.func31 (by kernel_rfl) rfl #[.agg #[.string (rdOf ByteArray.empty t108 0), .slice Ao49 x113001_1.length co49, .int .i64 t105]] rfl zee81 ?_; (with_reducible refine (impl_GoodKey.calls k1 (rdOf ByteArray.empty t108 0) _ _ x113001_1 t105 false _ ?side1 ?side2 A28.out).mono ?_); (case side1 => exact (by repeat (first | exact (Kd.R_reads' HO_113001.out).2.2 | (with_reducible refine Kd.C_alloc ?_ _) | (with_reducible refine Kd.C_drewN ?_ _) | (with_reducible refine Kd.C_drew ?_)))); (case side2 => exact (Kd.R_reads' HO_113001.out).2.1); rintro e w50 ⟨rfl, hb⟩; refine ⟨_, rfl, ?_⟩; have _ := aM (Kd.Q_below (kZ HO_38.out) hb); have _ := aM (Kd.R_below (rZ HO_113001.out) hb); have _ := bB gb101 hb; have _ := bB gb112 hb; have _ := aM (below_step hbZ hb); clear HO_38 HO_113001 BK101 BK112 HB; rename_i HO_38 HO_113001 BK101 BK112 HB; (try clear hb); obtain ⟨hcz51_0, hcz51_1, hcz51_2, hfz51_0, hfz51_1, hfz51_2⟩ := cellsZ3 BK101.out))
             refine bodyPost_ret (results_ct rfl _ _ gb101 25 #[.string (⟨#[]⟩ : ByteArray), .slice none 0 0, .int .i64 0] (0, 0) _ rfl bkZ Tryd.underlying25 rfl (by kernel_rfl)) rfl ?_
             exact ⟨_, z674d, z02fa, zcb41⟩
     · rw [if_neg c6] at H
       exact absurd H (by simp)
   · rw [if_neg c5] at H
     exact absurd H (by simp)
 · have H1 : (some ((⟨#[]⟩ : ByteArray), ([] : List (S69)), 0, false)) = some (r1, r2, r3, r4) := by rw [if_neg (show ¬ (some q107).isNone = true by simp)] at H; exact H
   clear H
   have H := H1
   clear H1
   try simp only [errW_none, errW_some]
   simp only [Option.some.injEq, Prod.mk.injEq] at H
   obtain ⟨rfl, rfl, rfl, rfl⟩ := H
   go_enter Tryd.func19, Tryd.ntmps19
   go_wp2_with (first | ((with_reducible refine gate_dst (N := 2) rfl ?_); refine box_event ?hg (N := 2) ?hd (cs := #[.string (⟨#[]⟩ : ByteArray), .slice none 0 0, .int .i64 0]) (t := 25) ?hr ?_; (case hd => rfl); (case hg => rfl); (case hr => first | (go_simp; done) | (go_simp; rfl)); intro gb101 hg w52 hbox hb; have _ := aM (below_step hbZ hb); have _ := aM hbox; have _ := szZ hg; have _ := szZ hg; clear HB; rename_i HB BK101 GW101 GE101; clear hb hbox hg) | ((with_reducible refine gate_callee (f := 41) rfl ?_); refine goesL_ (some 18) rfl rfl Tryd.func41 (by kernel_rfl) rfl #[.string a0, .string (⟨#[64]⟩ : ByteArray)] rfl zee81 ?_; (with_reducible refine (strings_Cut.calls a0 (⟨#[64]⟩ : ByteArray) t102 t103 t104 _ ?side1 A2.out).mono ?_); (case side1 => exact TabM_.stays HTabM_.out hbZ); rintro e w53 ⟨rfl, hb⟩; refine ⟨_, rfl, ?_⟩; have _ := bB gb101 hb; have _ := aM (below_step hbZ hb); clear BK101 HB; rename_i BK101 HB; (try clear hb)) | ((with_reducible refine gate_callee (f := 50) rfl ?_); refine goesL_ (some 24) rfl rfl Tryd.func50 (by kernel_rfl) rfl #[.string t103] rfl zee81 ?_; (with_reducible refine (strconv_Atoi_50.calls t103 t105 (some q107) _ ?side1 A3.out).mono ?_); (case side1 => exact TabE_.stays HTabE_.out hbZ); rintro e w54 ⟨ve_, rfl, hv_, hb⟩; (first | (obtain rfl : ve_ = .nilIface := hv_) | (obtain ⟨_, _, rfl⟩ : ∃ t_ x_, ve_ = .iface t_ x_ := hv_)); refine ⟨_, rfl, ?_⟩; have _ := bB gb101 hb; have _ := aM (below_step hbZ hb); clear BK101 HB; rename_i BK101 HB; (try clear hb); (try simp only [errW_none, errW_some]); obtain ⟨hcz55_0, hcz55_1, hcz55_2, hfz55_0, hfz55_1, hfz55_2⟩ := cellsZ3 BK101.out))
   refine bodyPost_ret (results_ct rfl _ _ gb101 25 #[.string (⟨#[]⟩ : ByteArray), .slice none 0 0, .int .i64 0] (0, 0) _ rfl bkZ Tryd.underlying25 rfl (by kernel_rfl)) rfl ?_
   exact ⟨_, z674d, z02fa, zcb41⟩

end Go.Proofs.YteogadaloebdaaaDoor.P

-- written by a program of this session's (wip/pp)
namespace Go.Proofs.YteogadaloebdaaaDoor.P
open Go.RowKit Go.Proofs.YteogadaloebdaaaDoorW.PrintWords Go.Proofs.YteogadaloebdaaaDoorW.PrintLast Go.Proofs.YteogadaloebdaaaDoorW.PrintMore
attribute [local go_sem] max2_int min2_int max_two min_two max_three min_three max_four min_four str_geq str_gtr str_leq   -- for this text's walks alone
set_option linter.unusedVariables false
set_option linter.unusedSimpArgs false

/-! ### laws_FnTexts: function 5 -/
def laws_FnTexts.j0 : Nat → ByteArray → Bool → Bool → Option (Bool)
 | 0, _, _, _ => none
 | k + 1, x4, x5, x34 => if x34 = true then (some false) else (if x5 = true then ((impl_ReadKeyText.f k x4).bind fun bt111 => ((impl_KeyText.f k bt111.1 bt111.2.1 bt111.2.2.1).bind fun bt118 => (if bt111.2.2.2 = true then (if bt118.2 = true then (some (bt118.1.toList == x4.toList)) else (some false)) else (some false)))) else (some (x4.toList == ([] : List UInt8))))
def laws_FnTexts.f (k : Nat) (l0 : List Int) : Option (Bool) := if (l0.length : Int) > 1048576 then (some true) else ((spec_DrawKeyText.f k l0).bind fun bt101 => ((impl_KeyText.f k bt101.1 bt101.2.1 bt101.2.2).bind fun bt107 => ((spec_KeyText.f k bt101.1 bt101.2.1 bt101.2.2).bind fun bt109 => (if (bt107.2 != bt109.2) = true then (laws_FnTexts.j0 k bt107.1 bt107.2 true) else (laws_FnTexts.j0 k bt107.1 bt107.2 (bt107.1.toList != bt109.1.toList))))))
theorem laws_FnTexts.mono_l : ∀ k, (∀ y0 y1 y2, LeO (laws_FnTexts.j0 k y0 y1 y2) (laws_FnTexts.j0 (k + 1) y0 y1 y2))
 | 0 => fun _ _ _ r h => by simp [laws_FnTexts.j0] at h
 | k + 1 => by
  have ih0 := laws_FnTexts.mono_l k
  · intro y0 y1 y2
    unfold laws_FnTexts.j0
    repeat' first
     | (with_reducible first | exact ih0 .. | exact impl_KeyText.mono .. | exact impl_ReadKeyText.mono .. | exact spec_DrawKeyText.mono .. | exact spec_KeyText.mono .. | exact LeO.refl _ | exact LeO.none _ | refine LeO.ite ?_ ?_ | refine LeO.bind ?_ (fun _ => ?_))
     | exact LeO.none _
     | refine LeO.ite ?_ ?_
     | refine LeO.bind ?_ (fun _ => ?_)
theorem laws_FnTexts.mono : ∀ a0 k, LeO (laws_FnTexts.f k a0) (laws_FnTexts.f (k + 1) a0) := by
 intro a0 k
 have ih0 := laws_FnTexts.mono_l k
 unfold laws_FnTexts.f
 repeat' first
  | (with_reducible first | exact ih0 .. | exact impl_KeyText.mono .. | exact impl_ReadKeyText.mono .. | exact spec_DrawKeyText.mono .. | exact spec_KeyText.mono .. | exact LeO.refl _ | exact LeO.none _ | refine LeO.ite ?_ ?_ | refine LeO.bind ?_ (fun _ => ?_))
  | exact LeO.none _
  | refine LeO.ite ?_ ?_
  | refine LeO.bind ?_ (fun _ => ?_)
set_option maxHeartbeats 8000000 in
set_option maxRecDepth 100000 in
theorem laws_FnTexts.calls (k : Nat) (A0 : Option Addr) (c0 : Nat) (l0 : List Int) (r : Bool) (w : World) (hr0 : Kd.C (Kd.int .u8) w A0 l0.length l0) (hc0 : l0.length ≤ c0) (hTabE_ : TabE_ w) (hTabM_ : TabM_ w) (hTab_ : Tab_ w) (h : laws_FnTexts.f k l0 = some r) :
 Calls Tryd.prog 5 #[.slice A0 l0.length c0] w fun e w' => e = .returned (.bool r) ∧ Below w.heap.size w w' := by
 have hu25 := Tryd.underlying25
 have HR0 := aM hr0
 have HC0 := aM hc0
 clear hr0 hc0
 have HTabE_ := aM hTabE_
 clear hTabE_
 have HTabM_ := aM hTabM_
 clear hTabM_
 have HTab_ := aM hTab_
 clear hTab_
 have HB := aM (Below.refl w.heap.size w)
 have H : (if (l0.length : Int) > 1048576 then (some true) else ((spec_DrawKeyText.f k l0).bind fun bt101 => ((impl_KeyText.f k bt101.1 bt101.2.1 bt101.2.2).bind fun bt107 => ((spec_KeyText.f k bt101.1 bt101.2.1 bt101.2.2).bind fun bt109 => (if (bt107.2 != bt109.2) = true then (laws_FnTexts.j0 k bt107.1 bt107.2 true) else (laws_FnTexts.j0 k bt107.1 bt107.2 (bt107.1.toList != bt109.1.toList))))))) = some r := h
 clear h
 by_cases c2 : (l0.length : Int) > 1048576
 · rw [if_pos c2] at H
   have c2b0 : decide (1048576 < (l0.length : Int)) = true := decide_eq_true c2
   have c2b1 : decide (1048576 < l0.length) = true := decide_eq_true (by omega)
   clear c2
   obtain rfl := Option.some.inj H
   go_enter Tryd.func5, Tryd.ntmps5
   go_wp2
   go_ret
   exact ⟨z674d, z5acd⟩
 · rw [if_neg c2] at H
   have c2b0 : decide (1048576 < (l0.length : Int)) = false := decide_eq_false c2
   have c2b1 : decide (1048576 < l0.length) = false := decide_eq_false (by omega)
   clear c2
   replace H := Option.bind_eq_some_iff.mp H
   obtain ⟨⟨t101, t102, t105⟩, A30, H⟩ := H
   try dsimp only at H
   have A3 := aM A30
   clear A30
   replace H := Option.bind_eq_some_iff.mp H
   obtain ⟨⟨t107, t108⟩, A40, H⟩ := H
   try dsimp only at H
   have A4 := aM A40
   clear A40
   replace H := Option.bind_eq_some_iff.mp H
   obtain ⟨⟨t109, t110⟩, A50, H⟩ := H
   try dsimp only at H
   have A5 := aM A50
   clear A50
   have HC6 := aM H
   clear H
   go_enter Tryd.func5, Tryd.ntmps5
   go_upto_region 6 with (first | ((with_reducible refine gate_callee (f := 18) rfl ?_); refine goesL_ (some 16) rfl rfl Tryd.func18 (by kernel_rfl) rfl #[.slice A0 l0.length c0] rfl zee81 ?_; (with_reducible refine (spec_DrawKeyText.calls k _ _ l0 t101 t102 t105 _ ?side1 ?side2 A3.out).mono ?_); (case side1 => exact z4195); (case side2 => exact HC0.out); rintro e w7 ⟨v103, rfl, ho0, hb⟩; refine ⟨_, rfl, ?_⟩; have _ := aM (Kd.R_lower ho0 (below_size hbZ)); have _ := aM (below_step hbZ hb); clear HB; rename_i HO104 HB; (try clear hb); (try clear ho0)) | ((with_reducible refine gate_dst (N := 3) rfl ?_); refine box_event ?hg (N := 3) ?hd (cs := #[.string (⟨#[]⟩ : ByteArray), .slice none 0 0, .int .i64 0]) (t := 25) ?hr ?_; (case hd => rfl); (case hg => rfl); (case hr => first | (go_simp; done) | (go_simp; rfl)); intro gb106 hg w8 hbox hb; have _ := aM (Kd.R_below (rZ HO104.out) hb); have _ := aM (below_step hbZ hb); have _ := aM hbox; have _ := szZ hg; have _ := szZ hg; clear HO104 HB; rename_i HO104 HB BK106 GW106 GE106; clear hb hbox hg; obtain ⟨hcz9_0, hcz9_1, hcz9_2, hfz9_0, hfz9_1, hfz9_2⟩ := cellsZ3 BK106.out; obtain ⟨Ao10, co10, eo10⟩ := Kd.R_slice HO104.out; subst eo10) | ((with_reducible refine gate_callee (f := 16) rfl ?_); refine goesL_ (some 19) rfl rfl Tryd.func16 (by kernel_rfl) rfl #[.agg #[.string t101, .slice Ao10 t102.length co10, .int .i64 t105]] rfl zee81 ?_; (with_reducible refine (impl_KeyText.calls k t101 _ _ t102 t105 t107 t108 _ ?side1 ?side2 ?side3 A4.out).mono ?_); (case side1 => refine (Kd.R_reads' (e := 69) (base := w.heap.size) (ok := fun k_ => True) (n := t102.length) (c := co10) ?_).2.2; exact (rZ (rF3 HO104.out BK106.out))); (case side2 => exact (Kd.R_reads' HO104.out).2.1); (case side3 => exact Tab_.stays HTab_.out hbZ); rintro e w11 ⟨rfl, hb⟩; refine ⟨_, rfl, ?_⟩; have _ := aM (Kd.R_below (rZ (rF3 HO104.out BK106.out)) hb); have _ := aM (blk_below (g := gb106) (o := .cells #[.string t101, .slice Ao10 t102.length co10, .int .i64 t105] 25 (0, 0)) bkZ hb); have _ := aM (below_step hbZ hb); clear HO104 BK106 HB; rename_i HO104 BK106 HB; (try clear hb); obtain ⟨hcz12_0, hcz12_1, hcz12_2, hfz12_0, hfz12_1, hfz12_2⟩ := cellsZ3 BK106.out) | ((with_reducible refine gate_callee (f := 14) rfl ?_); refine goesL_ (some 24) rfl rfl Tryd.func14 (by kernel_rfl) rfl #[.agg #[.string t101, .slice Ao10 t102.length co10, .int .i64 t105]] rfl zee81 ?_; (with_reducible refine (spec_KeyText.calls k t101 _ _ t102 t105 t109 t110 _ ?side1 ?side2 A5.out).mono ?_); (case side1 => exact (by repeat (first | exact (Kd.R_reads' HO104.out).2.2 | (with_reducible refine Kd.C_alloc ?_ _) | (with_reducible refine Kd.C_drewN ?_ _) | (with_reducible refine Kd.C_drew ?_)))); (case side2 => exact (Kd.R_reads' HO104.out).2.1); rintro e w13 ⟨rfl, hb⟩; refine ⟨_, rfl, ?_⟩; have _ := aM (Kd.R_below (rZ HO104.out) hb); have _ := bB gb106 hb; have _ := aM (below_step hbZ hb); clear HO104 BK106 HB; rename_i HO104 BK106 HB; (try clear hb)))
   (try simp only [Act.put, List.setIfInBounds_toArray, List.set_cons_zero, List.set_cons_succ])
   go_cut [34] (fun v34 wc => ∃ (kq : Nat) (x34_5 : Bool), v34 = .bool x34_5 ∧ Aside0 (laws_FnTexts.j0 kq t107 t108 x34_5 = some r) ∧ Aside0 (kq ≤ k) ∧ Aside0 (Kd.R k69 69 wc w.heap.size (fun _ => True) (.slice Ao10 t102.length co10) t102) ∧ Aside0 (wc.heap[gb106]? = some (.cells #[.string t101, (.slice Ao10 t102.length co10), .int .i64 t105] 25 (0, 0))) ∧ Aside0 (Below w.heap.size w wc))
   case first =>
    have H := HC6.out
    clear HC6
    by_cases c14 : (t108 != t110) = true
    · rw [if_pos c14] at H
      have c14b0 : (t108 != t110) = true := c14
      (try (have c14b1 : decide (t108 = t110) = false := by simpa using c14))
      (try (have c14b2 : (t108 == t110) = false := by simpa using c14))
      (try (have c14b3 : ¬ (t108 = t110) := by simpa using c14))
      clear c14
      (first | rw [c14b0] | (simp only [i64_w, i32_w]; rw [c14b0]) | skip)
      have H' := aM H
      clear H
      go_wp2
      go_meet
      case rel => exact ⟨_, (true), z4458, H', ⟨zb79b⟩, ⟨rZ HO104.out⟩, ⟨bkZ⟩, ⟨zcb41⟩⟩
    · rw [if_neg c14] at H
      have c14b0 : (t108 != t110) = false := by simpa using c14
      (try (have c14b1 : decide (t108 = t110) = true := by simpa using c14))
      (try (have c14b2 : (t108 == t110) = true := by simpa using c14))
      clear c14
      (first | rw [c14b0] | (simp only [i64_w, i32_w]; rw [c14b0]) | skip)
      have H' := aM H
      clear H
      go_wp2
      go_meet
      case rel => exact ⟨_, ((t107.toList != t109.toList)), z4458, H', ⟨zb79b⟩, ⟨rZ HO104.out⟩, ⟨bkZ⟩, ⟨zcb41⟩⟩
   case rest =>
    clear HC6
    try clear c1
    try clear c2
    try clear c2b0
    try clear c2b1
    try clear p2
    try clear c5
    try clear c14
    try clear c14b0
    try clear c14b1
    try clear c14b2
    try clear hcz12_0 hcz12_1 hcz12_2
    try clear hcz9_0 hcz9_1 hcz9_2
    try clear hfz12_0 hfz12_1 hfz12_2
    try clear hfz9_0 hfz9_1 hfz9_2
    obtain ⟨kq, x34_5, rfl, HA, HJ5, HO_107001, BK106, HB⟩ := hcut
    cases kq with
    | zero => exact absurd HA.out (by simp [laws_FnTexts.j0])
    | succ kj5 =>
     have H := HA.out
     clear HA
     simp only [laws_FnTexts.j0] at H
     by_cases c15 : x34_5 = true
     · subst c15
       have H1 : (some false) = some r := by rw [if_pos rfl] at H; exact H
       clear H
       have H := H1
       clear H1
       obtain rfl := Option.some.inj H
       go_wp2
       go_ret
       exact ⟨z674d, zcb41⟩
     · replace c15 := Bool.eq_false_iff.mpr c15
       subst c15
       have H1 : (if t108 = true then ((impl_ReadKeyText.f kj5 t107).bind fun bt111 => ((impl_KeyText.f kj5 bt111.1 bt111.2.1 bt111.2.2.1).bind fun bt118 => (if bt111.2.2.2 = true then (if bt118.2 = true then (some (bt118.1.toList == t107.toList)) else (some false)) else (some false)))) else (some (t107.toList == ([] : List UInt8)))) = some r := by rw [if_neg (show ¬ (false = true) by decide)] at H; exact H
       clear H
       have H := H1
       clear H1
       by_cases c16 : t108 = true
       · subst c16
         have H1 : ((impl_ReadKeyText.f kj5 t107).bind fun bt111 => ((impl_KeyText.f kj5 bt111.1 bt111.2.1 bt111.2.2.1).bind fun bt118 => (if bt111.2.2.2 = true then (if bt118.2 = true then (some (bt118.1.toList == t107.toList)) else (some false)) else (some false)))) = some r := by rw [if_pos rfl] at H; exact H
         clear H
         have H := H1
         clear H1
         replace H := Option.bind_eq_some_iff.mp H
         obtain ⟨⟨t111, t112, t115, t116⟩, A170, H⟩ := H
         try dsimp only at H
         have A17 := aM A170
         clear A170
         replace H := Option.bind_eq_some_iff.mp H
         obtain ⟨⟨t118, t119⟩, A180, H⟩ := H
         try dsimp only at H
         have A18 := aM A180
         clear A180
         by_cases c19 : t116 = true
         · subst c19
           have H1 : (if t119 = true then (some (t118.toList == t107.toList)) else (some false)) = some r := by rw [if_pos rfl] at H; exact H
           clear H
           have H := H1
           clear H1
           by_cases c20 : t119 = true
           · subst c20
             have H1 : (some (t118.toList == t107.toList)) = some r := by rw [if_pos rfl] at H; exact H
             clear H
             have H := H1
             clear H1
             obtain rfl := Option.some.inj H
             go_wp2_with (first | ((with_reducible refine gate_callee (f := 19) rfl ?_); refine goesL_ (some 41) rfl rfl Tryd.func19 (by kernel_rfl) rfl #[.string t107] rfl zee81 ?_; (with_reducible refine (impl_ReadKeyText.calls kj5 t107 t111 t112 t115 true _ ?side1 ?side2 ?side3 A17.out).mono ?_); (case side1 => exact TabE_.stays HTabE_.out hbZ); (case side2 => exact TabM_.stays HTabM_.out hbZ); (case side3 => exact Tab_.stays HTab_.out hbZ); rintro e w21 ⟨v113, rfl, ho0, hb⟩; refine ⟨_, rfl, ?_⟩; have _ := aM (Kd.R_elder' (rZ HO_107001.out) (Kd.R_base ho0) hb); have _ := aM (Kd.R_lower (Kd.R_new' ho0 (Kd.R_lt (rZ HO_107001.out))) (below_size hbZ)); have _ := bB gb106 hb; have _ := aM (below_step hbZ hb); clear HO_107001 BK106 HB; rename_i HO_107001 HO114 BK106 HB; (try clear hb); (try clear ho0)) | ((with_reducible refine gate_dst (N := 8) rfl ?_); refine box_event ?hg (N := 8) ?hd (cs := #[.string (⟨#[]⟩ : ByteArray), .slice none 0 0, .int .i64 0]) (t := 25) ?hr ?_; (case hd => rfl); (case hg => rfl); (case hr => first | (go_simp; done) | (go_simp; rfl)); intro gb117 hg w22 hbox hb; have _ := aM (Kd.R_below (rZ HO_107001.out) hb); have _ := aM (Kd.R_below (rZ HO114.out) hb); have _ := bB gb106 hb; have _ := aM (below_step hbZ hb); have _ := aM hbox; have _ := szZ hg; have _ := szZ hg; have ⟨_, _⟩ := nbB gb106 hg; clear HO_107001 HO114 BK106 HB; rename_i HO_107001 HO114 BK106 HB BK117 GW117 GE117 NB106_117 NB117_106; clear hb hbox hg; have hnb23 := NB117_106.out; have hnc23 := NB106_117.out; obtain ⟨hcz24_0, hcz24_1, hcz24_2, hfz24_0, hfz24_1, hfz24_2⟩ := cellsZ3 BK117.out; obtain ⟨Ao25, co25, eo25⟩ := Kd.R_slice HO114.out; subst eo25) | ((with_reducible refine gate_callee (f := 16) rfl ?_); refine goesL_ (some 46) rfl rfl Tryd.func16 (by kernel_rfl) rfl #[.agg #[.string t111, .slice Ao25 t112.length co25, .int .i64 t115]] rfl zee81 ?_; (with_reducible refine (impl_KeyText.calls kj5 t111 _ _ t112 t115 t118 true _ ?side1 ?side2 ?side3 A18.out).mono ?_); (case side1 => refine (Kd.R_reads' (e := 69) (base := w.heap.size) (ok := fun k_ => (True ∧ some k_ ≠ (.slice Ao10 t102.length co10 : Value).ownBlock)) (n := t112.length) (c := co25) ?_).2.2; exact (rZ (rF3 HO114.out BK117.out))); (case side2 => exact (Kd.R_reads' HO114.out).2.1); (case side3 => exact Tab_.stays HTab_.out hbZ); rintro e w26 ⟨rfl, hb⟩; refine ⟨_, rfl, ?_⟩; have _ := aM (Kd.R_below (rZ (rF3 HO_107001.out BK117.out)) hb); have _ := aM (Kd.R_below (rZ (rF3 HO114.out BK117.out)) hb); have _ := bB gb106 hb; have _ := aM (blk_below (g := gb117) (o := .cells #[.string t111, .slice Ao25 t112.length co25, .int .i64 t115] 25 (0, 0)) bkZ hb); have _ := aM (below_step hbZ hb); clear HO_107001 HO114 BK106 BK117 HB; rename_i HO_107001 HO114 BK106 BK117 HB; (try clear hb)))
             go_ret
             exact ⟨z674d, zcb41⟩
           · replace c20 := Bool.eq_false_iff.mpr c20
             subst c20
             have H1 : (some false) = some r := by rw [if_neg (show ¬ (false = true) by decide)] at H; exact H
             clear H
             have H := H1
             clear H1
             obtain rfl := Option.some.inj H
             go_wp2_with (first | ((with_reducible refine gate_callee (f := 19) rfl ?_); refine goesL_ (some 41) rfl rfl Tryd.func19 (by kernel_rfl) rfl #[.string t107] rfl zee81 ?_; (with_reducible refine (impl_ReadKeyText.calls kj5 t107 t111 t112 t115 true _ ?side1 ?side2 ?side3 A17.out).mono ?_); (case side1 => exact TabE_.stays HTabE_.out hbZ); (case side2 => exact TabM_.stays HTabM_.out hbZ); (case side3 => exact Tab_.stays HTab_.out hbZ); rintro e w27 ⟨v113, rfl, ho0, hb⟩; refine ⟨_, rfl, ?_⟩; have _ := aM (Kd.R_elder' (rZ HO_107001.out) (Kd.R_base ho0) hb); have _ := aM (Kd.R_lower (Kd.R_new' ho0 (Kd.R_lt (rZ HO_107001.out))) (below_size hbZ)); have _ := bB gb106 hb; have _ := aM (below_step hbZ hb); clear HO_107001 BK106 HB; rename_i HO_107001 HO114 BK106 HB; (try clear hb); (try clear ho0)) | ((with_reducible refine gate_dst (N := 8) rfl ?_); refine box_event ?hg (N := 8) ?hd (cs := #[.string (⟨#[]⟩ : ByteArray), .slice none 0 0, .int .i64 0]) (t := 25) ?hr ?_; (case hd => rfl); (case hg => rfl); (case hr => first | (go_simp; done) | (go_simp; rfl)); intro gb117 hg w28 hbox hb; have _ := aM (Kd.R_below (rZ HO_107001.out) hb); have _ := aM (Kd.R_below (rZ HO114.out) hb); have _ := bB gb106 hb; have _ := aM (below_step hbZ hb); have _ := aM hbox; have _ := szZ hg; have _ := szZ hg; have ⟨_, _⟩ := nbB gb106 hg; clear HO_107001 HO114 BK106 HB; rename_i HO_107001 HO114 BK106 HB BK117 GW117 GE117 NB106_117 NB117_106; clear hb hbox hg; have hnb29 := NB117_106.out; have hnc29 := NB106_117.out; obtain ⟨hcz30_0, hcz30_1, hcz30_2, hfz30_0, hfz30_1, hfz30_2⟩ := cellsZ3 BK117.out; obtain ⟨Ao31, co31, eo31⟩ := Kd.R_slice HO114.out; subst eo31) | ((with_reducible refine gate_callee (f := 16) rfl ?_); refine goesL_ (some 46) rfl rfl Tryd.func16 (by kernel_rfl) rfl #[.agg #[.string t111, .slice Ao31 t112.length co31, .int .i64 t115]] rfl zee81 ?_; (with_reducible refine (impl_KeyText.calls kj5 t111 _ _ t112 t115 t118 false _ ?side1 ?side2 ?side3 A18.out).mono ?_); (case side1 => refine (Kd.R_reads' (e := 69) (base := w.heap.size) (ok := fun k_ => (True ∧ some k_ ≠ (.slice Ao10 t102.length co10 : Value).ownBlock)) (n := t112.length) (c := co31) ?_).2.2; exact (rZ (rF3 HO114.out BK117.out))); (case side2 => exact (Kd.R_reads' HO114.out).2.1); (case side3 => exact Tab_.stays HTab_.out hbZ); rintro e w32 ⟨rfl, hb⟩; refine ⟨_, rfl, ?_⟩; have _ := aM (Kd.R_below (rZ (rF3 HO_107001.out BK117.out)) hb); have _ := aM (Kd.R_below (rZ (rF3 HO114.out BK117.out)) hb); have _ := bB gb106 hb; have _ := aM (blk_below (g := gb117) (o := .cells #[.string t111, .slice Ao31 t112.length co31, .int .i64 t115] 25 (0, 0)) bkZ hb); have _ := aM (below_step hbZ hb); clear HO_107001 HO114 BK106 BK117 HB; rename_i HO_107001 HO114 BK106 BK117 HB; (try clear hb)))
             go_ret
             exact ⟨z674d, zcb41⟩
         · replace c19 := Bool.eq_false_iff.mpr c19
           subst c19
           have H1 : (some false) = some r := by rw [if_neg (show ¬ (false = true) by decide)] at H; exact H
           clear H
           have H := H1
           clear H1
           obtain rfl := Option.some.inj H
           go_wp2_with (first | ((with_reducible refine gate_callee (f := 19) rfl ?_); refine goesL_ (some 41) rfl rfl Tryd.func19 (by kernel_rfl) rfl #[.string t107] rfl zee81 ?_; (with_reducible refine (impl_ReadKeyText.calls kj5 t107 t111 t112 t115 false _ ?side1 ?side2 ?side3 A17.out).mono ?_); (case side1 => exact TabE_.stays HTabE_.out hbZ); (case side2 => exact TabM_.stays HTabM_.out hbZ); (case side3 => exact Tab_.stays HTab_.out hbZ); rintro e w33 ⟨v113, rfl, ho0, hb⟩; refine ⟨_, rfl, ?_⟩; have _ := aM (Kd.R_elder' (rZ HO_107001.out) (Kd.R_base ho0) hb); have _ := aM (Kd.R_lower (Kd.R_new' ho0 (Kd.R_lt (rZ HO_107001.out))) (below_size hbZ)); have _ := bB gb106 hb; have _ := aM (below_step hbZ hb); clear HO_107001 BK106 HB; rename_i HO_107001 HO114 BK106 HB; (try clear hb); (try clear ho0)) | ((with_reducible refine gate_dst (N := 8) rfl ?_); refine box_event ?hg (N := 8) ?hd (cs := #[.string (⟨#[]⟩ : ByteArray), .slice none 0 0, .int .i64 0]) (t := 25) ?hr ?_; (case hd => rfl); (case hg => rfl); (case hr => first | (go_simp; done) | (go_simp; rfl)); intro gb117 hg w34 hbox hb; have _ := aM (Kd.R_below (rZ HO_107001.out) hb); have _ := aM (Kd.R_below (rZ HO114.out) hb); have _ := bB gb106 hb; have _ := aM (below_step hbZ hb); have _ := aM hbox; have _ := szZ hg; have _ := szZ hg; have ⟨_, _⟩ := nbB gb106 hg; clear HO_107001 HO114 BK106 HB; rename_i HO_107001 HO114 BK106 HB BK117 GW117 GE117 NB106_117 NB117_106; clear hb hbox hg; have hnb35 := NB117_106.out; have hnc35 := NB106_117.out; obtain ⟨hcz36_0, hcz36_1, hcz36_2, hfz36_0, hfz36_1, hfz36_2⟩ := cellsZ3 BK117.out; obtain ⟨Ao37, co37, eo37⟩ := Kd.R_slice HO114.out; subst eo37) | ((with_reducible refine gate_callee (f := 16) rfl ?_); refine goesL_ (some 46) rfl rfl Tryd.func16 (by kernel_rfl) rfl #[.agg #[.string t111, .slice Ao37 t112.length co37, .int .i64 t115]] rfl zee81 ?_; (with_reducible refine (impl_KeyText.calls kj5 t111 _ _ t112 t115 t118 t119 _ ?side1 ?side2 ?side3 A18.out).mono ?_); (case side1 => refine (Kd.R_reads' (e := 69) (base := w.heap.size) (ok := fun k_ => (True ∧ some k_ ≠ (.slice Ao10 t102.length co10 : Value).ownBlock)) (n := t112.length) (c := co37) ?_).2.2; exact (rZ (rF3 HO114.out BK117.out))); (case side2 => exact (Kd.R_reads' HO114.out).2.1); (case side3 => exact Tab_.stays HTab_.out hbZ); rintro e w38 ⟨rfl, hb⟩; refine ⟨_, rfl, ?_⟩; have _ := aM (Kd.R_below (rZ (rF3 HO_107001.out BK117.out)) hb); have _ := aM (Kd.R_below (rZ (rF3 HO114.out BK117.out)) hb); have _ := bB gb106 hb; have _ := aM (blk_below (g := gb117) (o := .cells #[.string t111, .slice Ao37 t112.length co37, .int .i64 t115] 25 (0, 0)) bkZ hb); have _ := aM (below_step hbZ hb); clear HO_107001 HO114 BK106 BK117 HB; rename_i HO_107001 HO114 BK106 BK117 HB; (try clear hb)))
           go_ret
           exact ⟨z674d, zcb41⟩
       · replace c16 := Bool.eq_false_iff.mpr c16
         subst c16
         have H1 : (some (t107.toList == ([] : List UInt8))) = some r := by rw [if_neg (show ¬ (false = true) by decide)] at H; exact H
         clear H
         have H := H1
         clear H1
         obtain rfl := Option.some.inj H
         go_wp2
         go_ret
         exact ⟨z674d, zcb41⟩

/-- THE ONE PURE STATEMENT of laws_FnTexts: yours. -/
def laws_FnTexts.Pure : Prop := ∀ (l0 : List Int), l0.length ≤ maxLen → l0.length * 1 ≤ 140737488351232 → (∀ x ∈ l0, (Lit.int .u8 x).wf = true) → ∃ k, laws_FnTexts.f k l0 = some true
theorem laws_FnTexts.walk (P : laws_FnTexts.Pure) (a0 : Option Addr) (len0 cap0 : Nat) (z0 : List Int) (w : World) (w0 : (a0 = none ∧ len0 = 0 ∧ cap0 = 0 ∧ z0 = []) ∨ ∃ x, a0 = some x ∧ len0 ≤ cap0 ∧ cap0 ≤ maxLen ∧ z0.length = cap0 ∧ (∀ i, i < z0.length → w.cell? (x.add i) = some (.int .u8 (z0.getD i 0))) ∧ ∀ n ∈ z0, (Lit.int .u8 n).wf = true) (y0 : len0 * 1 ≤ 140737488351232) (hTabE_ : TabE_ w) (hTabM_ : TabM_ w) (hTab_ : Tab_ w) :
 Calls Tryd.prog 5 #[.slice a0 len0 cap0] w fun e w' => e = .returned (.bool true) ∧ Below w.heap.size w w' := by
 obtain ⟨l0, rfl, hr0, hm0, hw0, hc0⟩ := ReadsInt.ofRowC w0
 obtain ⟨k, h⟩ := P l0 hm0 y0 hw0
 refine (laws_FnTexts.calls k _ _ l0 true w (Kd.C_of_reads (d := (0 : Int)) (h1 := fun _ => rfl) hr0) hc0 hTabE_ hTabM_ hTab_ h).mono ?_
 rintro e w' ⟨rfl, hd⟩
 exact ⟨rfl, hd⟩

end Go.Proofs.YteogadaloebdaaaDoor.P

namespace Go.Proofs.YteogadaloebdaaaDoor.Lem
open Go.RowKit Go.Proofs.YteogadaloebdaaaDoorW.PrintWords Go.Proofs.YteogadaloebdaaaDoorW.PrintLast Go.Proofs.YteogadaloebdaaaDoorW.PrintMore

theorem w64 {x : Int} (h0 : -9223372036854775808 ≤ x) (h1 : x < 9223372036854775808) : wrap64 x = x := by
  unfold wrap64; omega
theorem wu64 {x : Int} (h0 : 0 ≤ x) (h1 : x < 18446744073709551616) : IntKind.u64.wrap x = x := by
  rw [IntKind.wrap_u64]; omega
theorem wu64_lo (x : Int) : 0 ≤ IntKind.u64.wrap x := by rw [IntKind.wrap_u64]; omega
theorem wu64_hi (x : Int) : IntKind.u64.wrap x < 18446744073709551616 := by rw [IntKind.wrap_u64]; omega

/-- A list of bytes. -/
def Bytes (l : List Int) : Prop := ∀ x ∈ l, 0 ≤ x ∧ x < 256

theorem Bytes.of_wf {l : List Int} (h : ∀ x ∈ l, (Lit.int .u8 x).wf = true) : Bytes l := by
  intro x hx
  have := h x hx
  simp [Lit.wf, IntKind.min, IntKind.max, IntKind.signed, IntKind.bits] at this
  omega
theorem Bytes.append {a b : List Int} (ha : Bytes a) (hb : Bytes b) : Bytes (a ++ b) := by
  intro x hx
  rcases List.mem_append.1 hx with h | h
  · exact ha x h
  · exact hb x h
theorem Bytes.nil : Bytes [] := fun x hx => by simp at hx
theorem Bytes.cons {x : Int} {l : List Int} (h0 : 0 ≤ x) (h1 : x < 256) (hl : Bytes l) : Bytes (x :: l) := by
  intro y hy
  rcases List.mem_cons.1 hy with rfl | h
  · exact ⟨h0, h1⟩
  · exact hl y h
theorem Bytes.rd {l : List Int} (h : Bytes l) (i : Int) : 0 ≤ rd l i ∧ rd l i < 256 := by
  unfold Go.Proofs.YteogadaloebdaaaDoorW.PrintWords.rd
  rcases Nat.lt_or_ge i.toNat l.length with hl | hl
  · rw [List.getD_eq_getElem?_getD, List.getElem?_eq_getElem hl]
    exact h _ (List.getElem_mem hl)
  · rw [List.getD_eq_getElem?_getD, List.getElem?_eq_none hl]
    simp
theorem Bytes.take {l : List Int} (h : Bytes l) (n : Nat) : Bytes (l.take n) := fun x hx => h x (List.mem_of_mem_take hx)
theorem Bytes.drop {l : List Int} (h : Bytes l) (n : Nat) : Bytes (l.drop n) := fun x hx => h x (List.mem_of_mem_drop hx)

theorem and255 {x : Int} (h0 : 0 ≤ x) (h1 : x < 18446744073709551616) : 0 ≤ Go.bits .and .u64 x 255 ∧ Go.bits .and .u64 x 255 < 256 := by
  rw [u64_and x 255 h0 h1 (by decide) (by decide)]
  have : x.toNat &&& (255 : Int).toNat ≤ (255 : Int).toNat := Nat.and_le_right
  have e : (255 : Int).toNat = 255 := rfl
  omega

theorem shr_lo {k : IntKind} {x y : Int} (h : 0 ≤ x) : 0 ≤ shr k x y := by
  unfold shr
  exact Int.ediv_nonneg h (Int.le_of_lt (Int.pow_pos (by decide)))
theorem shr_hi {k : IntKind} {x y B : Int} (h : 0 ≤ x) (h1 : x < B) : shr k x y < B := by
  unfold shr
  have : x / 2 ^ min y.toNat k.bits ≤ x := Int.ediv_le_self _ h
  omega

end Go.Proofs.YteogadaloebdaaaDoor.Lem

/- Names and keys: what GoodKey says, the program's and the specification's. -/
namespace Go.Proofs.YteogadaloebdaaaDoor.Lem
open Go Go.RowKit Go.Proofs.YteogadaloebdaaaDoor.P Go.Proofs.YteogadaloebdaaaDoorW.PrintWords Go.Proofs.YteogadaloebdaaaDoorW.PrintLast Go.Proofs.YteogadaloebdaaaDoorW.PrintMore

abbrev Tg := S69
abbrev rdT := rd_T69

theorem dropWhile_head {α : Type} (p : α → Bool) : ∀ (l : List α) (x : α) (r : List α), l.dropWhile p = x :: r → p x = false
  | [], x, r, h => by simp at h
  | a :: l, x, r, h => by
    rw [List.dropWhile_cons] at h
    cases e : p a with
    | true => rw [e, if_pos rfl] at h; exact dropWhile_head p l x r h
    | false =>
      rw [e, if_neg (by decide)] at h
      injection h with h _
      rw [← h]; exact e
theorem dropWhile_all {α : Type} (p : α → Bool) : ∀ l : List α, l.all p = true → l.dropWhile p = []
  | [], _ => rfl
  | a :: l, h => by
    rw [List.all_cons, Bool.and_eq_true] at h
    rw [List.dropWhile_cons, h.1, if_pos rfl]
    exact dropWhile_all p l h.2
theorem dropWhile_nil {α : Type} (p : α → Bool) : ∀ l : List α, l.dropWhile p = [] → l.all p = true
  | [], _ => rfl
  | a :: l, h => by
    rw [List.dropWhile_cons] at h
    cases e : p a with
    | true => rw [e, if_pos rfl] at h; rw [List.all_cons, e, dropWhile_nil p l h]; rfl
    | false => rw [e, if_neg (by decide)] at h; exact absurd h (by simp)

theorem trim_nil (l cs : List UInt8) : (Go.Lib.trimS l cs == []) = l.all (cs.contains ·) := by
  unfold Go.Lib.trimS Go.Lib.trimLeftS Go.Lib.trimRightS
  cases e : l.all (cs.contains ·) with
  | true =>
    have h1 : l.reverse.all (cs.contains ·) = true := by rw [List.all_reverse]; exact e
    rw [dropWhile_all _ _ h1, List.reverse_nil, List.dropWhile_nil]
    rfl
  | false =>
    rw [beq_eq_false_iff_ne]
    intro h
    have h1 := dropWhile_nil _ _ h
    rw [List.all_reverse] at h1
    cases e2 : l.reverse.dropWhile (cs.contains ·) with
    | nil =>
      have h3 := dropWhile_nil _ _ e2
      rw [List.all_reverse, e] at h3
      exact absurd h3 (by decide)
    | cons x r =>
      have h3 := dropWhile_head _ _ x r e2
      rw [e2, List.all_cons, h3, Bool.false_and] at h1
      exact absurd h1 (by decide)

/-- A letter's byte. -/
def letter (b : UInt8) : Bool := (decide (97 ≤ b.toNat) && decide (b.toNat ≤ 122)) || (decide (65 ≤ b.toNat) && decide (b.toNat ≤ 90))
def alphabet : List UInt8 := [97, 98, 99, 100, 101, 102, 103, 104, 105, 106, 107, 108, 109, 110, 111, 112, 113, 114, 115, 116, 117, 118, 119, 120, 121, 122, 65, 66, 67, 68, 69, 70, 71, 72, 73, 74, 75, 76, 77, 78, 79, 80, 81, 82, 83, 84, 85, 86, 87, 88, 89, 90]
theorem alphabet_all : ∀ n, n < 256 → (alphabet.contains (UInt8.ofNat n) == letter (UInt8.ofNat n)) = true := of_decide_eq_true (by kernel_rfl)
theorem alphabet_letter (b : UInt8) : alphabet.contains b = letter b := by
  have h := alphabet_all b.toNat b.toNat_lt
  rw [UInt8.ofNat_toNat] at h
  exact eq_of_beq h

/-- A name. -/
def nameB (s : ByteArray) : Bool := decide (1 ≤ s.size) && decide (s.size ≤ 12) && s.data.toList.all letter
theorem nameB_size {s : ByteArray} (h : nameB s = true) : 1 ≤ s.size ∧ s.size ≤ 12 := by
  unfold nameB at h
  rw [Bool.and_eq_true, Bool.and_eq_true] at h
  exact ⟨of_decide_eq_true h.1.1, of_decide_eq_true h.1.2⟩
theorem nameB_letters {s : ByteArray} (h : nameB s = true) : s.data.toList.all letter = true := by
  unfold nameB at h
  rw [Bool.and_eq_true] at h
  exact h.2
theorem withinB_ok (n a b : Int) : impl_within.f n a b = some (decide (a ≤ n) && decide (n ≤ b)) := by
  unfold impl_within.f
  by_cases h : n ≥ a
  · rw [if_pos h, decide_eq_true h, Bool.true_and]
  · rw [if_neg h, decide_eq_false h, Bool.false_and]
theorem l1InB_ok (n a b : Int) : spec_l1In.f n a b = some (decide (a ≤ n) && decide (n ≤ b)) := by
  unfold spec_l1In.f
  by_cases h : n ≥ a
  · rw [if_pos h, decide_eq_true h, Bool.true_and]
  · rw [if_neg h, decide_eq_false h, Bool.false_and]
theorem size_b (s : ByteArray) : (decide ((1 : Int) ≤ (s.size : Int)) && decide ((s.size : Int) ≤ 12)) = (decide (1 ≤ s.size) && decide (s.size ≤ 12)) := by
  have e1 : ((1 : Int) ≤ (s.size : Int)) ↔ 1 ≤ s.size := by omega
  have e2 : ((s.size : Int) ≤ 12) ↔ s.size ≤ 12 := by omega
  rw [decide_eq_decide.2 e1, decide_eq_decide.2 e2]

theorem isName_ok (s : ByteArray) : impl_isName.f s = some (nameB s) := by
  unfold impl_isName.f nameB
  rw [withinB_ok, Option.bind_some, size_b]
  cases e : (decide (1 ≤ s.size) && decide (s.size ≤ 12)) with
  | false => rw [if_neg (by decide), Bool.false_and]
  | true =>
    rw [Bool.and_eq_true] at e
    have h1 := of_decide_eq_true e.2
    rw [if_pos rfl, Bool.true_and]
    unfold strings_Trim.f
    rw [if_pos ⟨by omega, of_decide_eq_true (by kernel_rfl), by kernel_rfl⟩, Option.bind_some, Go.Lib.toList_data]
    have e3 : s.data.toList.all (alphabet.contains ·) = s.data.toList.all letter := by
      congr 1
      funext b
      exact alphabet_letter b
    rw [← e3, ← trim_nil]
    rfl

theorem bt_get {s : ByteArray} {i : Nat} (h : i < s.size) : bt s (i : Int) = ((s.data.toList[i]'(by rw [← Go.Lib.size_eq]; exact h)).toNat : Int) := by
  rw [← bt_at s (i : Int) (by rw [Int.toNat_natCast]; exact h)]
  simp only [Int.toNat_natCast]
  rfl
theorem drop_get {α : Type} {l : List α} {i : Nat} (h : i < l.length) : l.drop i = l[i] :: l.drop (i + 1) := (List.drop_eq_getElem_cons h)

theorem l1Name_l0 (s : ByteArray) (hs : s.size ≤ 12) : ∀ (d i k : Nat), i + d = s.size → d < k → spec_l1Name.l0 k s (i : Int) = some ((s.data.toList.drop i).all letter) := by
  intro d
  induction d with
  | zero =>
    intro i k hi hk
    obtain ⟨k, rfl⟩ : ∃ m, k = m + 1 := ⟨k - 1, by omega⟩
    rw [spec_l1Name.l0, if_neg (by omega), List.drop_of_length_le (by rw [← Go.Lib.size_eq]; omega)]
    rfl
  | succ d ih =>
    intro i k hi hk
    obtain ⟨k, rfl⟩ : ∃ m, k = m + 1 := ⟨k - 1, by omega⟩
    have hn := ih (i + 1) k (by omega) (by omega)
    have hlt : i < s.data.toList.length := by rw [← Go.Lib.size_eq]; omega
    rw [spec_l1Name.l0, if_pos (by omega), if_pos (by omega), bt_get (by omega), show wrap64 ((i : Int) + 1) = ((i + 1 : Nat) : Int) from by rw [w64 (by omega) (by omega)]; omega, hn, drop_get hlt, List.all_cons]
    generalize s.data.toList[i] = b
    generalize (List.drop (i + 1) s.data.toList).all letter = v
    unfold letter
    by_cases h1 : 97 ≤ b.toNat
    · rw [if_pos (by omega), decide_eq_true h1, Bool.true_and]
      by_cases h2 : b.toNat ≤ 122
      · rw [if_pos (by omega), decide_eq_true h2, Bool.true_or, Bool.true_and]
      · rw [if_neg (by omega), if_pos (by omega), if_neg (by omega), decide_eq_false h2, decide_eq_false (show ¬ b.toNat ≤ 90 by omega), Bool.and_false, Bool.false_or, Bool.false_and]
    · rw [if_neg (by omega), decide_eq_false h1, Bool.false_and, Bool.false_or]
      by_cases h2 : 65 ≤ b.toNat
      · rw [if_pos (by omega), decide_eq_true h2, Bool.true_and]
        by_cases h3 : b.toNat ≤ 90
        · rw [if_pos (by omega), decide_eq_true h3, Bool.true_and]
        · rw [if_neg (by omega), decide_eq_false h3, Bool.false_and]
      · rw [if_neg (by omega), decide_eq_false h2, Bool.false_and, Bool.false_and]

theorem l1Name_ok (s : ByteArray) {k : Nat} (hk : 12 < k) : spec_l1Name.f k s = some (nameB s) := by
  unfold spec_l1Name.f nameB
  rw [l1InB_ok, Option.bind_some, size_b]
  cases e : (decide (1 ≤ s.size) && decide (s.size ≤ 12)) with
  | false => rw [if_neg (by decide), Bool.false_and]
  | true =>
    rw [Bool.and_eq_true] at e
    have h1 := of_decide_eq_true e.2
    rw [if_pos rfl, Bool.true_and]
    have h := l1Name_l0 s h1 s.size 0 k (by omega) (by omega)
    rw [List.drop_zero] at h
    exact h

def aft : Option ByteArray → ByteArray → Bool
  | none, _ => true
  | some q, x => Op.bytesLess q.data.toList x.data.toList
/-- Tags in their order: behind a name, or at the beginning. -/
def tagsB : Option ByteArray → List Tg → Bool
  | _, [] => true
  | p, t :: r => nameB t.f0 && (nameB t.f1 && (aft p t.f0 && tagsB (some t.f0) r))
/-- The tag before a place. -/
def prevT (l : List Tg) (i : Nat) : Option ByteArray := if i = 0 then none else some (rdT l ((i - 1 : Nat) : Int)).f0
theorem rdT_get {l : List Tg} {i : Nat} (h : i < l.length) : rdT l (i : Int) = l[i] := by
  unfold rdT rd_T69
  rw [Int.toNat_natCast, List.getD_eq_getElem?_getD, List.getElem?_eq_getElem h]
  rfl
/-- A good key. -/
def keyB (m : ByteArray) (l : List Tg) (st : Int) : Bool := nameB m && (decide (l.length ≤ 4) && (decide (0 ≤ st) && decide (st ≤ 1000000000)) && tagsB none l)
theorem keyB_parts {m : ByteArray} {l : List Tg} {st : Int} (h : keyB m l st = true) : nameB m = true ∧ l.length ≤ 4 ∧ 0 ≤ st ∧ st ≤ 1000000000 ∧ tagsB none l = true := by
  unfold keyB at h
  simp only [Bool.and_eq_true] at h
  exact ⟨h.1, of_decide_eq_true h.2.1.1, of_decide_eq_true h.2.1.2.1, of_decide_eq_true h.2.1.2.2, h.2.2⟩
theorem tagsB_names : ∀ {l : List Tg} {p : Option ByteArray}, tagsB p l = true → ∀ t ∈ l, nameB t.f0 = true ∧ nameB t.f1 = true
  | [], _, _, t, ht => by simp at ht
  | a :: l, p, h, t, ht => by
    rw [tagsB, Bool.and_eq_true, Bool.and_eq_true, Bool.and_eq_true] at h
    rcases List.mem_cons.1 ht with rfl | ht
    · exact ⟨h.1, h.2.1⟩
    · exact tagsB_names h.2.2.2 t ht

theorem implKey_l0 (l : List Tg) (hl : l.length ≤ 4) (m : ByteArray) (st : Int) : ∀ (d i k : Nat), i + d = l.length → d < k → impl_GoodKey.l0 k l (l.length : Int) (i : Int) m l st = some (tagsB (prevT l i) (l.drop i)) := by
  intro d
  induction d with
  | zero =>
    intro i k hi hk
    obtain ⟨k, rfl⟩ : ∃ q, k = q + 1 := ⟨k - 1, by omega⟩
    rw [impl_GoodKey.l0, if_neg (by omega), List.drop_of_length_le (by omega)]
    rfl
  | succ d ih =>
    intro i k hi hk
    obtain ⟨k, rfl⟩ : ∃ q, k = q + 1 := ⟨k - 1, by omega⟩
    have hn := ih (i + 1) k (by omega) (by omega)
    have hlt : i < l.length := by omega
    have hp : prevT l (i + 1) = some l[i].f0 := by unfold prevT; rw [if_neg (by omega), Nat.add_sub_cancel, rdT_get hlt]
    rw [hp] at hn
    have e0 : rd_T69 l (i : Int) = l[i] := rdT_get hlt
    rw [impl_GoodKey.l0, if_pos (by omega), if_pos (by omega), if_pos (by omega), e0, isName_ok, isName_ok, Option.bind_some, show wrap64 ((i : Int) + 1) = ((i + 1 : Nat) : Int) from by rw [w64 (by omega) (by omega)]; omega, hn, drop_get hlt, tagsB]
    cases e1 : nameB l[i].f0 with
    | false => rw [if_neg (by decide), Bool.false_and]
    | true =>
      rw [if_pos rfl, Option.bind_some, Bool.true_and]
      cases e2 : nameB l[i].f1 with
      | false => rw [if_neg (by decide), Bool.false_and]
      | true =>
        rw [if_pos rfl, Bool.true_and]
        by_cases h0 : i = 0
        · rw [if_neg (by omega)]
          unfold prevT
          rw [if_pos h0, aft, Bool.true_and]
        · have e3 : wrap64 ((i : Int) - 1) = ((i - 1 : Nat) : Int) := by rw [w64 (by omega) (by omega)]; omega
          rw [if_pos (by omega), e3, if_pos (by omega), if_pos (by omega)]
          unfold prevT
          rw [if_neg h0, aft, Go.Lib.toList_data, Go.Lib.toList_data]
          show (if Op.bytesLess (rdT l ((i - 1 : Nat) : Int)).f0.data.toList l[i].f0.data.toList = true then _ else _) = _
          cases Op.bytesLess (rdT l ((i - 1 : Nat) : Int)).f0.data.toList l[i].f0.data.toList with
          | true => rw [if_pos rfl, Bool.true_and]
          | false => rw [if_neg (by decide), Bool.false_and]

theorem implKey_ok (m : ByteArray) (l : List Tg) (st : Int) {k : Nat} (hk : 6 < k) : impl_GoodKey.f k m l st = some (keyB m l st) := by
  obtain ⟨k, rfl⟩ : ∃ q, k = q + 1 := ⟨k - 1, by omega⟩
  unfold impl_GoodKey.f keyB
  rw [isName_ok, Option.bind_some, impl_GoodKey.j0, if_pos rfl]
  cases e1 : nameB m with
  | false => rw [if_neg (by decide), Bool.false_and]
  | true =>
    rw [if_pos rfl, Bool.true_and]
    by_cases h : l.length ≤ 4
    · rw [if_neg (by omega), withinB_ok, Option.bind_some, decide_eq_true h, Bool.true_and, impl_GoodKey.j0]
      have h0 := implKey_l0 l h m st l.length 0 k (by omega) (by omega)
      rw [List.drop_zero] at h0
      cases e2 : (decide (0 ≤ st) && decide (st ≤ 1000000000)) with
      | false => rw [if_pos (show (!false) = true from rfl), Bool.false_and]
      | true => rw [if_neg (show ¬ (!true) = true by decide), Bool.true_and]; exact h0
    · rw [if_pos (by omega), decide_eq_false h, Bool.false_and, Bool.false_and]

theorem specKey_l0 (l : List Tg) (hl : l.length ≤ 4) (m : ByteArray) (st : Int) : ∀ (d i k : Nat), i + d = l.length → d + 14 < k → spec_GoodKey.l0 k l (l.length : Int) (i : Int) m l st = some (tagsB (prevT l i) (l.drop i)) := by
  intro d
  induction d with
  | zero =>
    intro i k hi hk
    obtain ⟨k, rfl⟩ : ∃ q, k = q + 1 := ⟨k - 1, by omega⟩
    rw [spec_GoodKey.l0, if_neg (by omega), List.drop_of_length_le (by omega)]
    rfl
  | succ d ih =>
    intro i k hi hk
    obtain ⟨k, rfl⟩ : ∃ q, k = q + 1 := ⟨k - 1, by omega⟩
    have hn := ih (i + 1) k (by omega) (by omega)
    have hlt : i < l.length := by omega
    have hp : prevT l (i + 1) = some l[i].f0 := by unfold prevT; rw [if_neg (by omega), Nat.add_sub_cancel, rdT_get hlt]
    rw [hp] at hn
    have e0 : rd_T69 l (i : Int) = l[i] := rdT_get hlt
    rw [spec_GoodKey.l0, if_pos (by omega), if_pos (by omega), if_pos (by omega), e0, l1Name_ok _ (by omega), l1Name_ok _ (by omega), Option.bind_some, show wrap64 ((i : Int) + 1) = ((i + 1 : Nat) : Int) from by rw [w64 (by omega) (by omega)]; omega, hn, drop_get hlt, tagsB]
    cases e1 : nameB l[i].f0 with
    | false => rw [if_neg (by decide), Bool.false_and]
    | true =>
      rw [if_pos rfl, Option.bind_some, Bool.true_and]
      cases e2 : nameB l[i].f1 with
      | false => rw [if_neg (by decide), Bool.false_and]
      | true =>
        rw [if_pos rfl, Bool.true_and]
        by_cases h0 : i = 0
        · rw [if_neg (by omega)]
          unfold prevT
          rw [if_pos h0, aft, Bool.true_and]
        · have e3 : wrap64 ((i : Int) - 1) = ((i - 1 : Nat) : Int) := by rw [w64 (by omega) (by omega)]; omega
          rw [if_pos (by omega), e3, if_pos (by omega), if_pos (by omega)]
          unfold prevT
          rw [if_neg h0, aft, Go.Lib.toList_data, Go.Lib.toList_data]
          show (if Op.bytesLess (rdT l ((i - 1 : Nat) : Int)).f0.data.toList l[i].f0.data.toList = true then _ else _) = _
          cases Op.bytesLess (rdT l ((i - 1 : Nat) : Int)).f0.data.toList l[i].f0.data.toList with
          | true => rw [if_pos rfl, Bool.true_and]
          | false => rw [if_neg (by decide), Bool.false_and]

theorem specKey_ok (m : ByteArray) (l : List Tg) (st : Int) {k : Nat} (hk : 20 < k) : spec_GoodKey.f k m l st = some (keyB m l st) := by
  obtain ⟨k, rfl⟩ : ∃ q, k = q + 1 := ⟨k - 1, by omega⟩
  unfold spec_GoodKey.f keyB
  rw [l1Name_ok _ (by omega), Option.bind_some, spec_GoodKey.j0, if_pos rfl]
  cases e1 : nameB m with
  | false => rw [if_neg (by decide), Bool.false_and]
  | true =>
    rw [if_pos rfl, Bool.true_and]
    by_cases h : l.length ≤ 4
    · rw [if_neg (by omega), l1InB_ok, Option.bind_some, decide_eq_true h, Bool.true_and, spec_GoodKey.j0]
      have h0 := specKey_l0 l h m st l.length 0 k (by omega) (by omega)
      rw [List.drop_zero] at h0
      cases e2 : (decide (0 ≤ st) && decide (st ≤ 1000000000)) with
      | false => rw [if_pos (show (!false) = true from rfl), Bool.false_and]
      | true => rw [if_neg (show ¬ (!true) = true by decide), Bool.true_and]; exact h0
    · rw [if_pos (by omega), decide_eq_false h, Bool.false_and, Bool.false_and]

end Go.Proofs.YteogadaloebdaaaDoor.Lem

/- The text of a whole number: the program's and the specification's are one. -/
namespace Go.Proofs.YteogadaloebdaaaDoor.Lem
open Go.RowKit Go.Proofs.YteogadaloebdaaaDoor.P Go.Proofs.YteogadaloebdaaaDoorW.PrintWords Go.Proofs.YteogadaloebdaaaDoorW.PrintLast Go.Proofs.YteogadaloebdaaaDoorW.PrintMore

/-- The text of a number. -/
def numT (n : Int) : ByteArray := ⟨(Go.Lib.itoa n).toArray⟩
theorem numT_size {n : Int} (h0 : -9223372036854775808 ≤ n) (h1 : n ≤ 9223372036854775807) : (numT n).size ≤ 21 := by
  show (Go.Lib.itoa n).toArray.size ≤ 21
  rw [List.size_toArray]
  exact Go.Lib.itoa_length_le n h0 h1
theorem itoa_ok {n : Int} (h0 : -9223372036854775808 ≤ n) (h1 : n ≤ 9223372036854775807) : strconv_Itoa_77.f n = some (numT n) := by
  unfold strconv_Itoa_77.f
  rw [if_pos ⟨h0, h1⟩]
  rfl

theorem digit_ok {d : Nat} (hd : d < 10) : strOfNums [(wrap64 (48 + (d : Int))) % 256] = ⟨#[UInt8.ofNat (48 + d)]⟩ := by
  have e : (wrap64 (48 + (d : Int))) % 256 = ((48 + d : Nat) : Int) := by rw [w64 (by omega) (by omega)]; omega
  rw [e]
  unfold strOfNums
  rw [List.map_cons, List.map_nil, Int.toNat_natCast]

theorem l1Num_nat : ∀ (m k n : Nat), n < 10 ^ (m + 1) → n < 9223372036854775808 → m < 19 → m < k → spec_l1Num.f k (n : Int) = some ⟨(Go.Lib.decDigits n).toArray⟩ := by
  intro m
  induction m with
  | zero =>
    intro k n hn h1 _ hk
    obtain ⟨k, rfl⟩ : ∃ q, k = q + 1 := ⟨k - 1, by omega⟩
    have hn10 : n < 10 := by simpa using hn
    rw [spec_l1Num.f, if_neg (by omega), if_pos (by omega), digit_ok hn10, Go.Lib.decDigits_one hn10]
  | succ m ih =>
    intro k n hn h1 hm hk
    obtain ⟨k, rfl⟩ : ∃ q, k = q + 1 := ⟨k - 1, by omega⟩
    by_cases h10 : n < 10
    · rw [spec_l1Num.f, if_neg (by omega), if_pos (by omega), digit_ok h10, Go.Lib.decDigits_one h10]
    · have hdiv : n / 10 < 10 ^ (m + 1) := by
        rw [Nat.div_lt_iff_lt_mul (by decide), ← Nat.pow_succ]
        exact hn
      have e1 : Int.tdiv (n : Int) 10 = ((n / 10 : Nat) : Int) := by rw [Int.tdiv_eq_ediv_of_nonneg (by omega)]; omega
      have e2 : Int.tmod (n : Int) 10 = ((n % 10 : Nat) : Int) := by rw [Int.tmod_eq_emod_of_nonneg (by omega)]; omega
      have hlen : (Go.Lib.decDigits (n / 10)).length ≤ 21 := by
        have := Go.Lib.itoa_length_le ((n / 10 : Nat) : Int) (by clear hn hdiv; omega) (by clear hn hdiv; omega)
        rw [Go.Lib.itoa_nonneg] at this
        exact this
      have ih' := ih k (n / 10) hdiv (by clear hn hdiv; omega) (by omega) (by omega)
      clear hn hdiv ih
      rw [spec_l1Num.f, if_neg (by omega), if_neg (by omega), e1, e2, w64 (x := ((n / 10 : Nat) : Int)) (by omega) (by omega), ih', Option.bind_some, Option.bind_some, digit_ok (by omega)]
      rw [if_pos (by
        show (Go.Lib.decDigits (n / 10)).toArray.size + 1 ≤ _
        rw [List.size_toArray]
        omega)]
      rw [show Go.Lib.decDigits n = Go.Lib.decDigits (n / 10) ++ [UInt8.ofNat (48 + n % 10)] from by rw [Go.Lib.decDigits, dif_neg h10]]
      congr 1
      try (apply ByteArray.ext; simp)

theorem l1Num_ok {n : Int} (h0 : -9223372036854775808 ≤ n) (h1 : n ≤ 9223372036854775807) {k : Nat} (hk : 30 < k) : spec_l1Num.f k n = some (numT n) := by
  have hnat : ∀ (m k : Nat), m < 9223372036854775808 → 20 < k → spec_l1Num.f k (m : Int) = some ⟨(Go.Lib.decDigits m).toArray⟩ := by
    intro m k hm hk
    exact l1Num_nat 18 k m (Nat.lt_of_lt_of_le hm (by decide)) hm (by omega) (by omega)
  by_cases hneg : n < 0
  · obtain ⟨k, rfl⟩ : ∃ q, k = q + 1 := ⟨k - 1, by omega⟩
    obtain ⟨m, rfl⟩ : ∃ m : Nat, n = -(m : Int) := ⟨n.natAbs, by omega⟩
    by_cases hmin : -(m : Int) = -9223372036854775808
    · have hm : m = 9223372036854775808 := by omega
      subst hm
      rw [spec_l1Num.f, if_pos hneg, if_pos hmin]
      unfold numT
      rw [Go.Lib.itoa_neg _ (by omega)]
      decide +kernel
    · rw [spec_l1Num.f, if_pos hneg, if_neg hmin, show wrap64 (- -(m : Int)) = (m : Int) from by rw [w64 (by omega) (by omega)]; omega, hnat m k (by omega) (by omega), Option.bind_some]
      have hlen : (Go.Lib.decDigits m).length ≤ 21 := by
        have := Go.Lib.itoa_length_le ((m : Nat) : Int) (by omega) (by omega)
        rw [Go.Lib.itoa_nonneg] at this
        exact this
      rw [if_pos (by
        show 1 + (Go.Lib.decDigits m).toArray.size ≤ _
        rw [List.size_toArray]
        omega)]
      unfold numT
      rw [Go.Lib.itoa_neg _ (by omega)]
      congr 1
      try (apply ByteArray.ext; simp)
  · obtain ⟨m, rfl⟩ : ∃ m : Nat, n = (m : Int) := ⟨n.toNat, by omega⟩
    rw [hnat m k (by omega) (by omega)]
    unfold numT
    rw [Go.Lib.itoa_nonneg]

end Go.Proofs.YteogadaloebdaaaDoor.Lem

/- The text of a key: the program's and the specification's are one. -/
namespace Go.Proofs.YteogadaloebdaaaDoor.Lem
open Go Go.RowKit Go.Proofs.YteogadaloebdaaaDoor.P Go.Proofs.YteogadaloebdaaaDoorW.PrintWords Go.Proofs.YteogadaloebdaaaDoorW.PrintLast Go.Proofs.YteogadaloebdaaaDoorW.PrintMore

def tagT (t : Tg) : ByteArray := (((⟨#[44]⟩ : ByteArray) ++ t.f0) ++ (⟨#[61]⟩ : ByteArray)) ++ t.f1
def keyT : ByteArray → List Tg → ByteArray
  | x, [] => x
  | x, t :: r => keyT (x ++ tagT t) r
theorem tagT_size (t : Tg) : (tagT t).size = 2 + t.f0.size + t.f1.size := by
  unfold tagT
  rw [ByteArray.size_append, ByteArray.size_append, ByteArray.size_append]
  show 1 + t.f0.size + 1 + t.f1.size = _
  omega

theorem implText_l0 (l : List Tg) (hl : l.length ≤ 4) (hn : ∀ t ∈ l, t.f0.size ≤ 12 ∧ t.f1.size ≤ 12) (m : ByteArray) {st : Int} (h0 : 0 ≤ st) (h1 : st ≤ 1000000000) : ∀ (d i k : Nat) (x : ByteArray), i + d = l.length → d < k → x.size + 26 * d ≤ 1000 →
    impl_keyText.l0 k x l (l.length : Int) (i : Int) m l st = some ((keyT x (l.drop i) ++ (⟨#[64]⟩ : ByteArray)) ++ numT st) := by
  intro d
  induction d with
  | zero =>
    intro i k x hi hk hx
    obtain ⟨k, rfl⟩ : ∃ q, k = q + 1 := ⟨k - 1, by omega⟩
    have hz := numT_size (n := st) (by omega) (by omega)
    rw [impl_keyText.l0, if_neg (by omega), if_pos (by omega), itoa_ok (by omega) (by omega), Option.bind_some, if_pos (by omega), List.drop_of_length_le (by omega)]
    rfl
  | succ d ih =>
    intro i k x hi hk hx
    obtain ⟨k, rfl⟩ : ∃ q, k = q + 1 := ⟨k - 1, by omega⟩
    have hlt : i < l.length := by omega
    have e0 : rd_T69 l (i : Int) = l[i] := rdT_get hlt
    obtain ⟨hn0, hn1⟩ := hn l[i] (List.getElem_mem hlt)
    have hs := tagT_size l[i]
    have hnext := ih (i + 1) k (x ++ tagT l[i]) (by omega) (by omega) (by rw [ByteArray.size_append]; omega)
    rw [impl_keyText.l0, if_pos (by omega), if_pos (by omega), if_pos (by omega), e0, if_pos (by omega), if_pos (by omega), if_pos (by omega), if_pos (by omega), show wrap64 ((i : Int) + 1) = ((i + 1 : Nat) : Int) from by rw [w64 (by omega) (by omega)]; omega, drop_get hlt, keyT]
    exact hnext

theorem specText_l0 (l : List Tg) (hl : l.length ≤ 4) (hn : ∀ t ∈ l, t.f0.size ≤ 12 ∧ t.f1.size ≤ 12) (m : ByteArray) {st : Int} (h0 : 0 ≤ st) (h1 : st ≤ 1000000000) : ∀ (d i k : Nat) (x : ByteArray), i + d = l.length → d + 32 < k → x.size + 26 * d ≤ 1000 →
    spec_l12KeyText.l0 k x l (l.length : Int) (i : Int) m l st = some ((keyT x (l.drop i) ++ (⟨#[64]⟩ : ByteArray)) ++ numT st) := by
  intro d
  induction d with
  | zero =>
    intro i k x hi hk hx
    obtain ⟨k, rfl⟩ : ∃ q, k = q + 1 := ⟨k - 1, by omega⟩
    have hz := numT_size (n := st) (by omega) (by omega)
    rw [spec_l12KeyText.l0, if_neg (by omega), if_pos (by omega), l1Num_ok (by omega) (by omega) (by omega), Option.bind_some, if_pos (by omega), List.drop_of_length_le (by omega)]
    rfl
  | succ d ih =>
    intro i k x hi hk hx
    obtain ⟨k, rfl⟩ : ∃ q, k = q + 1 := ⟨k - 1, by omega⟩
    have hlt : i < l.length := by omega
    have e0 : rd_T69 l (i : Int) = l[i] := rdT_get hlt
    obtain ⟨hn0, hn1⟩ := hn l[i] (List.getElem_mem hlt)
    have hs := tagT_size l[i]
    have hnext := ih (i + 1) k (x ++ tagT l[i]) (by omega) (by omega) (by rw [ByteArray.size_append]; omega)
    rw [spec_l12KeyText.l0, if_pos (by omega), if_pos (by omega), if_pos (by omega), e0, if_pos (by omega), if_pos (by omega), if_pos (by omega), if_pos (by omega), show wrap64 ((i : Int) + 1) = ((i + 1 : Nat) : Int) from by rw [w64 (by omega) (by omega)]; omega, drop_get hlt, keyT]
    exact hnext

/-- The text of a key. -/
def textOf (m : ByteArray) (l : List Tg) (st : Int) : ByteArray := (keyT m l ++ (⟨#[64]⟩ : ByteArray)) ++ numT st
theorem names_of {m : ByteArray} {l : List Tg} {st : Int} (h : keyB m l st = true) : m.size ≤ 12 ∧ l.length ≤ 4 ∧ (∀ t ∈ l, t.f0.size ≤ 12 ∧ t.f1.size ≤ 12) ∧ 0 ≤ st ∧ st ≤ 1000000000 := by
  obtain ⟨a, b, c, d, e⟩ := keyB_parts h
  exact ⟨(nameB_size a).2, b, fun t ht => ⟨(nameB_size (tagsB_names e t ht).1).2, (nameB_size (tagsB_names e t ht).2).2⟩, c, d⟩
theorem implKeyText_ok {m : ByteArray} {l : List Tg} {st : Int} (h : keyB m l st = true) {k : Nat} (hk : 6 < k) : impl_keyText.f k m l st = some (textOf m l st) := by
  obtain ⟨hm, hl, hn, h0, h1⟩ := names_of h
  unfold impl_keyText.f
  have e := implText_l0 l hl hn m h0 h1 l.length 0 k m (by omega) (by omega) (by omega)
  rw [List.drop_zero] at e
  exact e
theorem specKeyText_ok {m : ByteArray} {l : List Tg} {st : Int} (h : keyB m l st = true) {k : Nat} (hk : 40 < k) : spec_l12KeyText.f k m l st = some (textOf m l st) := by
  obtain ⟨hm, hl, hn, h0, h1⟩ := names_of h
  unfold spec_l12KeyText.f
  have e := specText_l0 l hl hn m h0 h1 l.length 0 k m (by omega) (by omega) (by omega)
  rw [List.drop_zero] at e
  exact e
/-- What KeyText answers. -/
def keyO (m : ByteArray) (l : List Tg) (st : Int) : ByteArray × Bool := if keyB m l st = true then (textOf m l st, true) else ((⟨#[]⟩ : ByteArray), false)
theorem implKT_ok (m : ByteArray) (l : List Tg) (st : Int) {k : Nat} (hk : 40 < k) : impl_KeyText.f k m l st = some (keyO m l st) := by
  unfold impl_KeyText.f keyO
  rw [implKey_ok m l st (by omega), Option.bind_some]
  by_cases h : keyB m l st = true
  · rw [if_pos h, if_pos h, implKeyText_ok h (by omega), Option.bind_some]
  · rw [if_neg h, if_neg h]
theorem specKT_ok (m : ByteArray) (l : List Tg) (st : Int) {k : Nat} (hk : 40 < k) : spec_KeyText.f k m l st = some (keyO m l st) := by
  unfold spec_KeyText.f keyO
  rw [specKey_ok m l st (by omega), Option.bind_some]
  by_cases h : keyB m l st = true
  · rw [if_pos h, if_pos h, specKeyText_ok h (by omega), Option.bind_some]
  · rw [if_neg h, if_neg h]
end Go.Proofs.YteogadaloebdaaaDoor.Lem

-- written by a program of this session's (wip/pp)
namespace Go.Proofs.YteogadaloebdaaaDoor.P
open Go.RowKit Go.Proofs.YteogadaloebdaaaDoorW.PrintWords Go.Proofs.YteogadaloebdaaaDoorW.PrintLast Go.Proofs.YteogadaloebdaaaDoorW.PrintMore
attribute [local go_sem] max2_int min2_int max_two min_two max_three min_three max_four min_four str_geq str_gtr str_leq   -- for this text's walks alone
set_option linter.unusedVariables false
set_option linter.unusedSimpArgs false

/-! ### spec_l12Split: function 82 -/
def spec_l12Split.l0 : Nat → ByteArray → Int → List ByteArray → Int → Int → Option (List ByteArray)
 | 0, _, _, _, _, _ => none
 | k + 1, x0, x1, x5, x6, x7 => if x7 ≤ (x0.size : Int) then (if x7 = (x0.size : Int) then (if 0 ≤ x6 then (if x6 ≤ x7 then (if x5.length < 8796093022208 then (spec_l12Split.l0 k x0 x1 (x5 ++ [x0.extract (x6 : Int).toNat (x7 : Int).toNat]) (wrap64 (x7 + 1)) (wrap64 (x7 + 1))) else (none)) else (none)) else (none)) else (if 0 ≤ x7 then (if x7 < (x0.size : Int) then (if (bt x0 x7) = x1 then (if 0 ≤ x6 then (if x6 ≤ x7 then (if x5.length < 8796093022208 then (spec_l12Split.l0 k x0 x1 (x5 ++ [x0.extract (x6 : Int).toNat (x7 : Int).toNat]) (wrap64 (x7 + 1)) (wrap64 (x7 + 1))) else (none)) else (none)) else (none)) else (spec_l12Split.l0 k x0 x1 x5 x6 (wrap64 (x7 + 1)))) else (none)) else (none))) else (some x5)
def spec_l12Split.f (k : Nat) (a0 : ByteArray) (a1 : Int) : Option (List ByteArray) := spec_l12Split.l0 k a0 a1 ([] : List ByteArray) 0 0
theorem spec_l12Split.mono_l : ∀ k, (∀ y0 y1 y2 y3 y4, LeO (spec_l12Split.l0 k y0 y1 y2 y3 y4) (spec_l12Split.l0 (k + 1) y0 y1 y2 y3 y4))
 | 0 => fun _ _ _ _ _ r h => by simp [spec_l12Split.l0] at h
 | k + 1 => by
  have ih0 := spec_l12Split.mono_l k
  · intro y0 y1 y2 y3 y4
    unfold spec_l12Split.l0
    repeat' first
     | (with_reducible first | exact ih0 .. | exact LeO.refl _ | exact LeO.none _ | refine LeO.ite ?_ ?_ | refine LeO.bind ?_ (fun _ => ?_))
     | exact LeO.none _
     | refine LeO.ite ?_ ?_
     | refine LeO.bind ?_ (fun _ => ?_)
theorem spec_l12Split.mono : ∀ a0 a1 k, LeO (spec_l12Split.f k a0 a1) (spec_l12Split.f (k + 1) a0 a1) := by
 intro a0 a1 k
 have ih0 := spec_l12Split.mono_l k
 unfold spec_l12Split.f
 repeat' first
  | (with_reducible first | exact ih0 .. | exact LeO.refl _ | exact LeO.none _ | refine LeO.ite ?_ ?_ | refine LeO.bind ?_ (fun _ => ?_))
  | exact LeO.none _
  | refine LeO.ite ?_ ?_
  | refine LeO.bind ?_ (fun _ => ?_)
set_option maxHeartbeats 8000000 in
set_option maxRecDepth 100000 in
theorem spec_l12Split.calls (k : Nat) (a0 : ByteArray) (a1 : Int) (r : List ByteArray) (w : World) (h : spec_l12Split.f k a0 a1 = some r) :
 Calls Tryd.prog 82 #[.string a0, .int .u8 a1] w fun e w' => ∃ v0_ : Value, e = .returned (v0_) ∧ Kd.R Kd.string 9 w' w.heap.size (fun _ => True) v0_ r ∧ Below w.heap.size w w' := by
 have HB := aM (Below.refl w.heap.size w)
 have H : (spec_l12Split.l0 k a0 a1 ([] : List ByteArray) 0 0) = some r := h
 clear h
 have H' := aM H
 clear H
 go_enter Tryd.func82, Tryd.ntmps82
 go_wp2
 go_loopg [5, 6, 7] k (fun kq v5 v6 v7 w' => ∃ (x5_1 : List ByteArray) (x6_1 : Int) (x7_1 : Int), v6 = .int .i64 x6_1 ∧ v7 = .int .i64 x7_1 ∧ Aside0 (spec_l12Split.l0 kq a0 a1 x5_1 x6_1 x7_1 = some r) ∧ Aside0 (kq ≤ k) ∧ Aside0 (Kd.R Kd.string 9 w' w.heap.size (fun _ => True) v5 x5_1) ∧ Aside0 (Below w.heap.size w w'))
 case atStart => exact ⟨(([] : List ByteArray)), (0), (0), z4458, z4458, H', ⟨Nat.le_refl _⟩, ⟨z02fa⟩, ⟨z5acd⟩⟩
 case round =>
  clear H'
  try clear p2
  obtain ⟨x5_1, x6_1, x7_1, rfl, rfl, HA, HK1, HO_5, HB⟩ := hrel
  cases gk with
  | zero => exact absurd HA.out (by simp [spec_l12Split.l0])
  | succ k1 =>
   have H := HA.out
   clear HA
   simp only [spec_l12Split.l0] at H
   by_cases c3 : x7_1 ≤ (a0.size : Int)
   · rw [if_pos c3] at H
     have c3b0 : decide (x7_1 ≤ (a0.size : Int)) = true := decide_eq_true c3
     clear c3
     by_cases c4 : x7_1 = (a0.size : Int)
     · rw [if_pos c4] at H
       have c4b0 : (x7_1 == (a0.size : Int)) = true := beq_iff_eq.mpr c4
       have c4b1 : (x7_1 != (a0.size : Int)) = false := bne_eq_false_iff_eq.mpr c4
       clear c4
       by_cases c5 : 0 ≤ x6_1
       · rw [if_pos c5] at H
         have c5b0 := eq_true c5
         have c5b1 : decide (0 ≤ x6_1) = true := decide_eq_true c5
         clear c5
         by_cases c6 : x6_1 ≤ x7_1
         · rw [if_pos c6] at H
           have c6b0 := eq_true c6
           have c6b1 : decide (x6_1 ≤ x7_1) = true := decide_eq_true c6
           clear c6
           have c7b0 := eq_true (of_decide_eq_true z1200 : x7_1 ≤ (a0.size : Int))
           by_cases c8 : x5_1.length < 8796093022208
           · rw [if_pos c8] at H
             have LMc8 := aM c8
             clear c8
             obtain ⟨y101, hy101⟩ : ∃ y_ : List ByteArray, y_ = (x5_1 ++ [a0.extract (x6_1 : Int).toNat (x7_1 : Int).toNat]) := ⟨_, rfl⟩
             replace H : (spec_l12Split.l0 k1 a0 a1 y101 (wrap64 (x7_1 + 1)) (wrap64 (x7_1 + 1))) = some r := by first | (rw [hy101]; with_reducible exact H) | (have H2_ := (Option.bind_some _ _).symm.trans H; rw [hy101]; with_reducible exact H2_) | (have H2_ := (Option.bind_some _ _).symm.trans H; with_reducible exact H2_) | with_reducible exact H | (rw [hy101]; exact H) | exact H
             have Ny101 := aM hy101
             clear hy101
             have H' := aM H
             clear H
             go_wp2_with (first | ((with_reducible refine gate_builtin (b := .append) (xs := #[.tmp 25, .tmp 30]) rfl ?_); at_builtin; refine Kd.R_append Kd.string (w0 := w) w.heap.size rfl (.tmp 25) (.tmp 30) 89 9 (.string ⟨#[]⟩) 16 rfl Tryd.underlying89 info9 rfl (by decide) (by omega) u5 x5_1 (a0.extract (x6_1 : Int).toNat (x7_1 : Int).toNat) [.string (a0.extract (x6_1 : Int).toNat (x7_1 : Int).toNat)] (fun _ => True) (fun _ => False) rfl rfl ?aP (fun _ hk => hk.elim) ?aF ?aO ?aB ?aS ?aL ?_; (case aP => exact rfl); (case aB => exact hbZ); (case aF => exact (fun _ _ => trivial)); (case aO => exact (rZ HO_5.out)); (case aS => exact (below_size hbZ)); (case aL => have := LMc8.out; omega); intro v102 w9 ho hb hg hat; rw [← Ny101.out] at ho; have _ := aM hb; have _ := aM ho; clear HB HO_5; rename_i HB HO103; clear ho hb hg hat))
             go_roundg k1
             case measure => have := HK1.out; omega
             case rel => exact ⟨(y101), (wrap64 (x7_1 + 1)), (wrap64 (x7_1 + 1)), z4458, z4458, H', ⟨zfb39⟩, ⟨rZ HO103.out⟩, ⟨z5acd⟩⟩
           · rw [if_neg c8] at H
             exact absurd H (by simp)
         · rw [if_neg c6] at H
           exact absurd H (by simp)
       · rw [if_neg c5] at H
         exact absurd H (by simp)
     · rw [if_neg c4] at H
       have c4b0 : (x7_1 == (a0.size : Int)) = false := beq_eq_false_iff_ne.mpr c4
       have c4b1 : (x7_1 != (a0.size : Int)) = true := bne_iff_ne.mpr c4
       by_cases c10 : 0 ≤ x7_1
       · rw [if_pos c10] at H
         have c10b0 : decide (0 ≤ x7_1) = true := decide_eq_true c10
         clear c10
         by_cases c11 : x7_1 < (a0.size : Int)
         · rw [if_pos c11] at H
           have c11b0 : decide (x7_1 < (a0.size : Int)) = true := decide_eq_true c11
           clear c11
           by_cases c13 : (bt a0 x7_1) = a1
           · rw [if_pos c13] at H
             have c13b0 : ((bt a0 x7_1) == a1) = true := beq_iff_eq.mpr c13
             have c13b1 : ((bt a0 x7_1) != a1) = false := bne_eq_false_iff_eq.mpr c13
             clear c13
             by_cases c14 : 0 ≤ x6_1
             · rw [if_pos c14] at H
               have c14b0 := eq_true c14
               have c14b1 : decide (0 ≤ x6_1) = true := decide_eq_true c14
               clear c14
               by_cases c15 : x6_1 ≤ x7_1
               · rw [if_pos c15] at H
                 have c15b0 := eq_true c15
                 have c15b1 : decide (x6_1 ≤ x7_1) = true := decide_eq_true c15
                 clear c15
                 have c16b0 := eq_true (of_decide_eq_true z1200 : x7_1 ≤ (a0.size : Int))
                 by_cases c17 : x5_1.length < 8796093022208
                 · rw [if_pos c17] at H
                   have LMc17 := aM c17
                   clear c17
                   obtain ⟨y104, hy104⟩ : ∃ y_ : List ByteArray, y_ = (x5_1 ++ [a0.extract (x6_1 : Int).toNat (x7_1 : Int).toNat]) := ⟨_, rfl⟩
                   replace H : (spec_l12Split.l0 k1 a0 a1 y104 (wrap64 (x7_1 + 1)) (wrap64 (x7_1 + 1))) = some r := by first | (rw [hy104]; with_reducible exact H) | (have H2_ := (Option.bind_some _ _).symm.trans H; rw [hy104]; with_reducible exact H2_) | (have H2_ := (Option.bind_some _ _).symm.trans H; with_reducible exact H2_) | with_reducible exact H | (rw [hy104]; exact H) | exact H
                   have Ny104 := aM hy104
                   clear hy104
                   have H' := aM H
                   clear H
                   have p12 : 0 ≤ (x7_1 : Int) := of_decide_eq_true z1200
                   have q12 : x7_1 < (a0.size : Int) := of_decide_eq_true z1200
                   have hx12 := bt_at a0 x7_1
                   replace p12 := eq_true p12
                   replace q12 := eq_true q12
                   go_wp2_with (first | ((with_reducible refine gate_builtin (b := .append) (xs := #[.tmp 25, .tmp 30]) rfl ?_); at_builtin; refine Kd.R_append Kd.string (w0 := w) w.heap.size rfl (.tmp 25) (.tmp 30) 89 9 (.string ⟨#[]⟩) 16 rfl Tryd.underlying89 info9 rfl (by decide) (by omega) u5 x5_1 (a0.extract (x6_1 : Int).toNat (x7_1 : Int).toNat) [.string (a0.extract (x6_1 : Int).toNat (x7_1 : Int).toNat)] (fun _ => True) (fun _ => False) rfl rfl ?aP (fun _ hk => hk.elim) ?aF ?aO ?aB ?aS ?aL ?_; (case aP => exact rfl); (case aB => exact hbZ); (case aF => exact (fun _ _ => trivial)); (case aO => exact (rZ HO_5.out)); (case aS => exact (below_size hbZ)); (case aL => have := LMc17.out; omega); intro v105 w18 ho hb hg hat; rw [← Ny104.out] at ho; have _ := aM hb; have _ := aM ho; clear HB HO_5; rename_i HB HO106; clear ho hb hg hat))
                   go_roundg k1
                   case measure => have := HK1.out; omega
                   case rel => exact ⟨(y104), (wrap64 (x7_1 + 1)), (wrap64 (x7_1 + 1)), z4458, z4458, H', ⟨zfb39⟩, ⟨rZ HO106.out⟩, ⟨z5acd⟩⟩
                 · rw [if_neg c17] at H
                   exact absurd H (by simp)
               · rw [if_neg c15] at H
                 exact absurd H (by simp)
             · rw [if_neg c14] at H
               exact absurd H (by simp)
           · rw [if_neg c13] at H
             have c13b0 : ((bt a0 x7_1) == a1) = false := beq_eq_false_iff_ne.mpr c13
             have c13b1 : ((bt a0 x7_1) != a1) = true := bne_iff_ne.mpr c13
             have H' := aM H
             clear H
             have p12 : 0 ≤ (x7_1 : Int) := of_decide_eq_true z1200
             have q12 : x7_1 < (a0.size : Int) := of_decide_eq_true z1200
             have hx12 := bt_at a0 x7_1
             replace p12 := eq_true p12
             replace q12 := eq_true q12
             go_wp2
             go_roundg k1
             case measure => have := HK1.out; omega
             case rel => exact ⟨(x5_1), (x6_1), (wrap64 (x7_1 + 1)), z4458, z4458, H', ⟨zfb39⟩, ⟨rZ HO_5.out⟩, ⟨z5acd⟩⟩
         · rw [if_neg c11] at H
           exact absurd H (by simp)
       · rw [if_neg c10] at H
         exact absurd H (by simp)
   · rw [if_neg c3] at H
     have c3b0 : decide (x7_1 ≤ (a0.size : Int)) = false := decide_eq_false c3
     clear c3
     obtain rfl := Option.some.inj H
     go_wp2
     go_ret
     exact ⟨_, z674d, rZ HO_5.out, z5acd⟩

end Go.Proofs.YteogadaloebdaaaDoor.P

/- Texts cut at a byte: the pieces, the specification's cutter, and the library's. -/
namespace Go.Proofs.YteogadaloebdaaaDoor.Lem
open Go Go.RowKit Go.Proofs.YteogadaloebdaaaDoor.P Go.Proofs.YteogadaloebdaaaDoorW.PrintWords Go.Proofs.YteogadaloebdaaaDoorW.PrintLast Go.Proofs.YteogadaloebdaaaDoorW.PrintMore

/-- The pieces of a text, 'cur' ahead of the first. -/
def splA (c : UInt8) : List UInt8 → List UInt8 → List (List UInt8)
  | cur, [] => [cur]
  | cur, a :: r => if a = c then cur :: splA c [] r else splA c (cur ++ [a]) r
theorem splA_free {c : UInt8} : ∀ (l cur : List UInt8), c ∉ l → splA c cur l = [cur ++ l]
  | [], cur, _ => by rw [splA, List.append_nil]
  | a :: r, cur, h => by
    rw [List.mem_cons, not_or] at h
    rw [splA, if_neg (fun e => h.1 e.symm), splA_free r _ h.2, List.append_assoc]
    rfl
theorem splA_hit {c : UInt8} (r : List UInt8) : ∀ (l cur : List UInt8), c ∉ l → splA c cur (l ++ c :: r) = (cur ++ l) :: splA c [] r
  | [], cur, _ => by rw [List.nil_append, splA, if_pos rfl, List.append_nil]
  | a :: l, cur, h => by
    rw [List.mem_cons, not_or] at h
    rw [List.cons_append, splA, if_neg (fun e => h.1 e.symm), splA_hit r l _ h.2, List.append_assoc]
    rfl
theorem splA_inv {c : UInt8} : ∀ (l cur : List UInt8) {x : List UInt8} {r : List (List UInt8)}, splA c cur l = x :: r →
    (r = [] ∧ x = cur ++ l ∧ c ∉ l) ∨ ∃ l1 l2, l = l1 ++ c :: l2 ∧ c ∉ l1 ∧ x = cur ++ l1 ∧ r = splA c [] l2
  | [], cur, x, r, h => by
    rw [splA] at h
    injection h with h1 h2
    exact Or.inl ⟨h2.symm, by rw [List.append_nil]; exact h1.symm, List.not_mem_nil⟩
  | a :: l, cur, x, r, h => by
    rw [splA] at h
    by_cases e : a = c
    · rw [if_pos e] at h
      injection h with h1 h2
      subst e
      exact Or.inr ⟨[], l, rfl, List.not_mem_nil, by rw [List.append_nil]; exact h1.symm, h2.symm⟩
    · rw [if_neg e] at h
      rcases splA_inv l _ h with ⟨h1, h2, h3⟩ | ⟨l1, l2, h1, h2, h3, h4⟩
      · exact Or.inl ⟨h1, by rw [h2, List.append_assoc]; rfl, by rw [List.mem_cons, not_or]; exact ⟨fun x => e x.symm, h3⟩⟩
      · exact Or.inr ⟨a :: l1, l2, by rw [h1]; rfl, by rw [List.mem_cons, not_or]; exact ⟨fun x => e x.symm, h2⟩, by rw [h3, List.append_assoc]; rfl, h4⟩
theorem splA_ne {c : UInt8} : ∀ (l cur : List UInt8), splA c cur l ≠ []
  | [], cur => by rw [splA]; exact List.cons_ne_nil _ _
  | a :: l, cur => by
    rw [splA]
    split
    · exact List.cons_ne_nil _ _
    · exact splA_ne l _
theorem splA_length {c : UInt8} : ∀ (l cur : List UInt8), (splA c cur l).length ≤ l.length + 1
  | [], cur => by rw [splA]; exact Nat.le_refl _
  | a :: l, cur => by
    rw [splA]
    split
    · have := splA_length (c := c) l []
      rw [List.length_cons, List.length_cons]
      omega
    · have := splA_length (c := c) l (cur ++ [a])
      rw [List.length_cons]
      omega
theorem splA_sizes {c : UInt8} : ∀ (l cur : List UInt8), ∀ p ∈ splA c cur l, p.length ≤ cur.length + l.length
  | [], cur, p, h => by
    rw [splA, List.mem_singleton] at h
    subst h
    exact Nat.le_refl _
  | a :: l, cur, p, h => by
    rw [splA] at h
    rw [List.length_cons]
    split at h
    · rcases List.mem_cons.1 h with rfl | h
      · omega
      · have := splA_sizes l [] p h
        rw [List.length_nil] at this
        omega
    · have := splA_sizes l _ p h
      rw [List.length_append, List.length_singleton] at this
      omega

/-- A text out of bytes. -/
def mkB (l : List UInt8) : ByteArray := ⟨l.toArray⟩
theorem mkB_list (l : List UInt8) : (mkB l).data.toList = l := rfl
theorem mkB_size (l : List UInt8) : (mkB l).size = l.length := List.size_toArray ..
theorem mkB_of (s : ByteArray) : mkB s.data.toList = s := Go.WideShapes.bytes_inj (mkB_list _)
theorem extract_list (s : ByteArray) (a b : Nat) : (s.extract a b).data.toList = (s.data.toList.drop a).take (b - a) := by
  rw [Go.Lib.extract_data]

theorem l12Split_l0 (s : ByteArray) (hs : s.size ≤ 1048576) (c : UInt8) : ∀ (d i at_ k : Nat) (acc : List ByteArray), i + d = s.size → at_ ≤ i → d + 2 < k → acc.length ≤ i →
    spec_l12Split.l0 k s (c.toNat : Int) acc (at_ : Int) (i : Int) = some (acc ++ (splA c ((s.data.toList.drop at_).take (i - at_)) (s.data.toList.drop i)).map mkB) := by
  intro d
  induction d with
  | zero =>
    intro i a k acc hi ha hk hl
    obtain ⟨k, rfl⟩ : ∃ q, k = q + 2 := ⟨k - 2, by omega⟩
    have hlen : s.data.toList.length = s.size := (Go.Lib.size_eq s).symm
    rw [spec_l12Split.l0, if_pos (by omega), if_pos (by omega), if_pos (by omega), if_pos (by omega), if_pos (by omega), show wrap64 ((i : Int) + 1) = ((i + 1 : Nat) : Int) from by rw [w64 (by omega) (by omega)]; omega]
    rw [spec_l12Split.l0, if_neg (by omega), List.drop_of_length_le (i := i) (by omega), splA, List.map_singleton]
    congr 3
    apply Go.WideShapes.bytes_inj
    rw [mkB_list, extract_list, Int.toNat_natCast, Int.toNat_natCast]
  | succ d ih =>
    intro i a k acc hi ha hk hl
    obtain ⟨k, rfl⟩ : ∃ q, k = q + 1 := ⟨k - 1, by omega⟩
    have hlen : s.data.toList.length = s.size := (Go.Lib.size_eq s).symm
    have hlt : i < s.data.toList.length := by omega
    rw [spec_l12Split.l0, if_pos (by omega), if_neg (by omega), if_pos (by omega), if_pos (by omega), bt_get (by omega), show wrap64 ((i : Int) + 1) = ((i + 1 : Nat) : Int) from by rw [w64 (by omega) (by omega)]; omega, drop_get hlt, splA]
    by_cases e : s.data.toList[i] = c
    · rw [if_pos (by rw [e]), if_pos (by omega), if_pos (by omega), if_pos (by omega), if_pos e]
      rw [ih (i + 1) (i + 1) k _ (by omega) (by omega) (by omega) (by rw [List.length_append, List.length_singleton]; omega)]
      rw [Nat.sub_self, List.take_zero, List.map_cons, List.append_assoc]
      congr 3
      rw [List.singleton_append]
      congr 1
      apply Go.WideShapes.bytes_inj
      rw [mkB_list, extract_list, Int.toNat_natCast, Int.toNat_natCast]
    · rw [if_neg (by
        intro h
        exact e (UInt8.toNat_inj.1 (by omega))), if_neg e]
      rw [ih (i + 1) a k _ (by omega) (by omega) (by omega) (by omega)]
      congr 4
      rw [show i + 1 - a = (i - a) + 1 by omega, List.take_succ_eq_append_getElem (by rw [List.length_drop]; omega), List.getElem_drop]
      congr 2
      simp only [show a + (i - a) = i by omega]
theorem l12Split_ok {s : ByteArray} (hs : s.size ≤ 1048576) (c : UInt8) {k : Nat} (hk : s.size + 2 < k) : spec_l12Split.f k s (c.toNat : Int) = some ((splA c [] s.data.toList).map mkB) :=
  l12Split_l0 s hs c s.size 0 0 k [] (by omega) (Nat.le_refl _) hk (Nat.zero_le _)

/-- The library's 'Cut' at one byte. -/
theorem occ1 (c : UInt8) (l : List UInt8) (i : Nat) : Go.Lib.occAt l [c] i = (l[i]? == some c) := by
  unfold Go.Lib.occAt
  cases h : l.drop i with
  | nil =>
    rw [List.getElem?_eq_none (List.drop_eq_nil_iff.1 h)]
    rfl
  | cons a r =>
    have : l[i]? = some a := by
      have := List.head?_drop (l := l) (i := i)
      rw [h] at this
      exact this.symm
    rw [this]
    simp only [List.isPrefixOf, Bool.and_true]
    exact Bool.beq_comm
theorem index_free {c : UInt8} {l : List UInt8} (h : c ∉ l) : Go.Lib.index l [c] = -1 := by
  refine Go.Lib.index_none fun j hj => ?_
  rw [occ1]
  cases e : l[j]? with
  | none => rfl
  | some a =>
    have hm : a ∈ l := List.mem_of_getElem? e
    have : a ≠ c := fun x => h (x ▸ hm)
    simpa using this
theorem index_hit {c : UInt8} {l r : List UInt8} (h : c ∉ l) : Go.Lib.index (l ++ c :: r) [c] = (l.length : Int) := by
  refine Go.Lib.index_first (by rw [List.length_append]; omega) ?_ fun j hj => ?_
  · rw [occ1, List.getElem?_append_right (Nat.le_refl _), Nat.sub_self]
    simp
  · rw [occ1, List.getElem?_append_left hj, List.getElem?_eq_getElem hj]
    have hm : l[j] ∈ l := List.getElem_mem hj
    have : l[j] ≠ c := fun x => h (x ▸ hm)
    simpa using this
theorem cut_free {c : UInt8} {l : List UInt8} (h : c ∉ l) : Go.Lib.cut l [c] = (l, [], false) := by
  unfold Go.Lib.cut
  rw [index_free h, if_neg (by decide)]
theorem cut_hit {c : UInt8} {l r : List UInt8} (h : c ∉ l) : Go.Lib.cut (l ++ c :: r) [c] = (l, r, true) := by
  unfold Go.Lib.cut
  rw [index_hit h, if_pos (by omega), Int.toNat_natCast, List.take_left, List.length_singleton]
  congr 2
  rw [← List.drop_drop, List.drop_left]
  rfl
theorem cut_sizes (c : UInt8) (l : List UInt8) : (Go.Lib.cut l [c]).1.length ≤ l.length ∧ (Go.Lib.cut l [c]).2.1.length ≤ l.length := by
  unfold Go.Lib.cut
  split
  · refine ⟨?_, ?_⟩
    · show (l.take _).length ≤ _
      rw [List.length_take]
      omega
    · show (l.drop _).length ≤ _
      rw [List.length_drop]
      omega
  · exact ⟨Nat.le_refl _, Nat.zero_le _⟩
theorem splitK_eq (c : UInt8) : ∀ (k : Nat) (l : List UInt8), (splA c [] l).length ≤ k + 1 → Go.Lib.splitK [c] 0 k l = splA c [] l
  | 0, l, h => by
    rw [Go.Lib.splitK]
    cases e : splA c [] l with
    | nil => exact absurd e (splA_ne _ _)
    | cons x r =>
      rcases splA_inv l [] e with ⟨h1, h2, h3⟩ | ⟨l1, l2, h1, h2, h3, h4⟩
      · rw [h1, h2]
        rfl
      · rw [e, h4, List.length_cons] at h
        have := List.length_pos_iff.2 (splA_ne (c := c) l2 [])
        omega
  | k + 1, l, h => by
    rw [Go.Lib.splitK]
    cases e : splA c [] l with
    | nil => exact absurd e (splA_ne _ _)
    | cons x r =>
      rcases splA_inv l [] e with ⟨h1, h2, h3⟩ | ⟨l1, l2, h1, h2, h3, h4⟩
      · rw [index_free h3, if_pos (beq_self_eq_true _), h1, h2]
        rfl
      · rw [e, h4, List.length_cons] at h
        have ih := splitK_eq c k l2 (by omega)
        rw [h1, index_hit h2, if_neg (by
          intro x
          have := beq_iff_eq.1 x
          omega), Int.toNat_natCast, Nat.add_zero, List.take_left, List.length_singleton, ← List.drop_drop, List.drop_left, List.drop_one, List.tail_cons, ih, h3, h4]
        rfl
end Go.Proofs.YteogadaloebdaaaDoor.Lem

-- written by a program of this session's (wip/pp)
namespace Go.Proofs.YteogadaloebdaaaDoor.P
open Go.RowKit Go.Proofs.YteogadaloebdaaaDoorW.PrintWords Go.Proofs.YteogadaloebdaaaDoorW.PrintLast Go.Proofs.YteogadaloebdaaaDoorW.PrintMore
attribute [local go_sem] max2_int min2_int max_two min_two max_three min_three max_four min_four str_geq str_gtr str_leq   -- for this text's walks alone
set_option linter.unusedVariables false
set_option linter.unusedSimpArgs false

/-! ### spec_l12Number: function 83 -/
mutual
def spec_l12Number.j0 : Nat → ByteArray → Bool → Option (Int)
 | 0, _, _ => none
 | k + 1, x0, x18 => if x18 = true then (some (-1)) else (spec_l12Number.l0 k x0 0 0)
def spec_l12Number.l0 : Nat → ByteArray → Int → Int → Option (Int)
 | 0, _, _, _ => none
 | k + 1, x0, x3, x4 => if x4 < (x0.size : Int) then (if 0 ≤ x4 then (if (bt x0 x4) < 48 then (some (-1)) else (if (bt x0 x4) > 57 then (some (-1)) else (spec_l12Number.l0 k x0 (wrap64 ((wrap64 (10 * x3)) + (((bt x0 x4) - 48) % 256))) (wrap64 (x4 + 1))))) else (none)) else (some x3)
end
def spec_l12Number.f (k : Nat) (a0 : ByteArray) : Option (Int) := (spec_l1In.f (a0.size : Int) 1 10).bind fun t101 => (if t101 = true then (if 0 < (a0.size : Int) then (if (bt a0 0) = 48 then (spec_l12Number.j0 k a0 (decide ((a0.size : Int) > 1))) else (spec_l12Number.j0 k a0 false)) else (none)) else (spec_l12Number.j0 k a0 true))
theorem spec_l12Number.mono_l : ∀ k, (∀ y0 y1, LeO (spec_l12Number.j0 k y0 y1) (spec_l12Number.j0 (k + 1) y0 y1)) ∧ (∀ y0 y1 y2, LeO (spec_l12Number.l0 k y0 y1 y2) (spec_l12Number.l0 (k + 1) y0 y1 y2))
 | 0 => ⟨fun _ _ r h => by simp [spec_l12Number.j0] at h, fun _ _ _ r h => by simp [spec_l12Number.l0] at h⟩
 | k + 1 => by
  obtain ⟨ih0, ih1⟩ := spec_l12Number.mono_l k
  refine ⟨?_, ?_⟩
  · intro y0 y1
    unfold spec_l12Number.j0
    repeat' first
     | (with_reducible first | exact ih0 .. | exact ih1 .. | exact LeO.refl _ | exact LeO.none _ | refine LeO.ite ?_ ?_ | refine LeO.bind ?_ (fun _ => ?_))
     | exact LeO.none _
     | refine LeO.ite ?_ ?_
     | refine LeO.bind ?_ (fun _ => ?_)
  · intro y0 y1 y2
    unfold spec_l12Number.l0
    repeat' first
     | (with_reducible first | exact ih0 .. | exact ih1 .. | exact LeO.refl _ | exact LeO.none _ | refine LeO.ite ?_ ?_ | refine LeO.bind ?_ (fun _ => ?_))
     | exact LeO.none _
     | refine LeO.ite ?_ ?_
     | refine LeO.bind ?_ (fun _ => ?_)
theorem spec_l12Number.mono : ∀ a0 k, LeO (spec_l12Number.f k a0) (spec_l12Number.f (k + 1) a0) := by
 intro a0 k
 obtain ⟨ih0, ih1⟩ := spec_l12Number.mono_l k
 unfold spec_l12Number.f
 repeat' first
  | (with_reducible first | exact ih0 .. | exact ih1 .. | exact LeO.refl _ | exact LeO.none _ | refine LeO.ite ?_ ?_ | refine LeO.bind ?_ (fun _ => ?_))
  | exact LeO.none _
  | refine LeO.ite ?_ ?_
  | refine LeO.bind ?_ (fun _ => ?_)
set_option maxHeartbeats 8000000 in
set_option maxRecDepth 100000 in
theorem spec_l12Number.calls (k : Nat) (a0 : ByteArray) (r : Int) (w : World) (h : spec_l12Number.f k a0 = some r) :
 Calls Tryd.prog 83 #[.string a0] w fun e w' => e = .returned (.int .i64 r) ∧ Drawn0 w w' := by
 have H : ((spec_l1In.f (a0.size : Int) 1 10).bind fun t101 => (if t101 = true then (if 0 < (a0.size : Int) then (if (bt a0 0) = 48 then (spec_l12Number.j0 k a0 (decide ((a0.size : Int) > 1))) else (spec_l12Number.j0 k a0 false)) else (none)) else (spec_l12Number.j0 k a0 true))) = some r := h
 clear h
 have HC2 := aM H
 clear H
 go_enter Tryd.func83, Tryd.ntmps83
 go_upto_region 1 with (fail)
 go_cut [18] (fun v18 wc => ∃ (kq : Nat) (x18_1 : Bool), v18 = .bool x18_1 ∧ Aside0 (spec_l12Number.j0 kq a0 x18_1 = some r) ∧ Aside0 (kq ≤ k) ∧ Drawn0 w wc)
 case first =>
  have H := HC2.out
  clear HC2
  replace H := Option.bind_eq_some_iff.mp H
  obtain ⟨t101, A30, H⟩ := H
  try dsimp only at H
  have A3 := aM A30
  clear A30
  by_cases c4 : t101 = true
  · subst c4
    have H1 : (if 0 < (a0.size : Int) then (if (bt a0 0) = 48 then (spec_l12Number.j0 k a0 (decide ((a0.size : Int) > 1))) else (spec_l12Number.j0 k a0 false)) else (none)) = some r := by rw [if_pos rfl] at H; exact H
    clear H
    have H := H1
    clear H1
    by_cases c5 : 0 < (a0.size : Int)
    · rw [if_pos c5] at H
      have c5b0 : decide (0 < (a0.size : Int)) = true := decide_eq_true c5
      have c5b1 : decide (0 < a0.size) = true := decide_eq_true (by omega)
      clear c5
      (first | rw [c5b0] | (simp only [i64_w, i32_w]; rw [c5b0]) | skip)
      by_cases c7 : (bt a0 0) = 48
      · rw [if_pos c7] at H
        have c7b0 : ((bt a0 0) == 48) = true := beq_iff_eq.mpr c7
        have c7b1 : ((bt a0 0) != 48) = false := bne_eq_false_iff_eq.mpr c7
        clear c7
        have H' := aM H
        clear H
        go_wp2_with (first | ((with_reducible refine gate_callee (f := 34) rfl ?_); refine goesL_ (some 7) rfl rfl Tryd.func34 (by kernel_rfl) rfl #[.int .i64 (a0.size : Int), .int .i64 1, .int .i64 10] rfl zee81 ?_; (with_reducible refine (spec_l1In.calls (a0.size : Int) 1 10 true _ A3.out).mono ?_); rintro e w' ⟨rfl, ⟨nd, rfl⟩⟩; refine ⟨_, rfl, ?_⟩; have p6 : 0 ≤ (0 : Int) := (by omega); have q6 : 0 < a0.size := (by have : (0 : Int) < (a0.size : Int) := of_decide_eq_true z1200; omega); have hx6 : ∀ h : 0 < a0.size, ((a0[0]'h).toNat : Int) = bt a0 0 := bt_at a0 0; clear p6; have qi6 : (0 < (a0.size : Int)) = True := eq_true (of_decide_eq_true z1200); replace q6 := eq_true q6))
        go_meet
        case rel => exact ⟨_, (decide ((a0.size : Int) > 1)), z4458, H', ⟨zb79b⟩, za9de⟩
      · rw [if_neg c7] at H
        have c7b0 : ((bt a0 0) == 48) = false := beq_eq_false_iff_ne.mpr c7
        have c7b1 : ((bt a0 0) != 48) = true := bne_iff_ne.mpr c7
        have H' := aM H
        clear H
        go_wp2_with (first | ((with_reducible refine gate_callee (f := 34) rfl ?_); refine goesL_ (some 7) rfl rfl Tryd.func34 (by kernel_rfl) rfl #[.int .i64 (a0.size : Int), .int .i64 1, .int .i64 10] rfl zee81 ?_; (with_reducible refine (spec_l1In.calls (a0.size : Int) 1 10 true _ A3.out).mono ?_); rintro e w' ⟨rfl, ⟨nd, rfl⟩⟩; refine ⟨_, rfl, ?_⟩; have p6 : 0 ≤ (0 : Int) := (by omega); have q6 : 0 < a0.size := (by have : (0 : Int) < (a0.size : Int) := of_decide_eq_true z1200; omega); have hx6 : ∀ h : 0 < a0.size, ((a0[0]'h).toNat : Int) = bt a0 0 := bt_at a0 0; clear p6; have qi6 : (0 < (a0.size : Int)) = True := eq_true (of_decide_eq_true z1200); replace q6 := eq_true q6))
        go_meet
        case rel => exact ⟨_, (false), z4458, H', ⟨zb79b⟩, za9de⟩
    · rw [if_neg c5] at H
      exact absurd H (by simp)
  · replace c4 := Bool.eq_false_iff.mpr c4
    subst c4
    have H1 : (spec_l12Number.j0 k a0 true) = some r := by rw [if_neg (show ¬ (false = true) by decide)] at H; exact H
    clear H
    have H := H1
    clear H1
    have H' := aM H
    clear H
    go_wp2_with (first | ((with_reducible refine gate_callee (f := 34) rfl ?_); refine goesL_ (some 7) rfl rfl Tryd.func34 (by kernel_rfl) rfl #[.int .i64 (a0.size : Int), .int .i64 1, .int .i64 10] rfl zee81 ?_; (with_reducible refine (spec_l1In.calls (a0.size : Int) 1 10 false _ A3.out).mono ?_); rintro e w' ⟨rfl, ⟨nd, rfl⟩⟩; refine ⟨_, rfl, ?_⟩))
    go_meet
    case rel => exact ⟨_, (true), z4458, H', ⟨zb79b⟩, za9de⟩
 case rest =>
  clear HC2
  try clear p2
  try clear c3
  try clear c4
  try clear c5
  try clear c5b0
  try clear c5b1
  try clear p6
  try clear q6
  try clear hx6
  try clear qi6
  try clear c7
  try clear c7b0
  try clear c7b1
  try clear p6
  try clear q6
  obtain ⟨kq, x18_1, rfl, HA, HJ1, ⟨mc1, rfl⟩⟩ := hcut
  cases kq with
  | zero => exact absurd HA.out (by simp [spec_l12Number.j0])
  | succ kj1 =>
   have H := HA.out
   clear HA
   simp only [spec_l12Number.j0] at H
   by_cases c8 : x18_1 = true
   · subst c8
     have H1 : (some (-1)) = some r := by rw [if_pos rfl] at H; exact H
     clear H
     have H := H1
     clear H1
     obtain rfl := Option.some.inj H
     go_wp2
     go_ret
     exact ⟨z4458, za9de⟩
   · replace c8 := Bool.eq_false_iff.mpr c8
     subst c8
     have H1 : (spec_l12Number.l0 kj1 a0 0 0) = some r := by rw [if_neg (show ¬ (false = true) by decide)] at H; exact H
     clear H
     have H := H1
     clear H1
     have H' := aM H
     clear H
     go_wp2
     go_loopg [3, 4] kj1 (fun kq v3 v4 w' => ∃ (x3_2 : Int) (x4_2 : Int), v3 = .int .i64 x3_2 ∧ v4 = .int .i64 x4_2 ∧ Aside0 (spec_l12Number.l0 kq a0 x3_2 x4_2 = some r) ∧ Aside0 (kq ≤ kj1) ∧ Drawn0 w w')
     case atStart => exact ⟨(0), (0), z4458, z4458, H', ⟨Nat.le_refl _⟩, za9de⟩
     case round =>
      clear H'
      try clear c1
      try clear p2
      try clear c3
      try clear c4
      try clear c5
      try clear c5b0
      try clear c5b1
      try clear p6
      try clear q6
      try clear hx6
      try clear qi6
      try clear c7
      try clear c7b0
      try clear c7b1
      try clear c8
      try clear p2
      try clear p6
      try clear q6
      obtain ⟨x3_2, x4_2, rfl, rfl, HA, HK2, ⟨m2, rfl⟩⟩ := hrel
      cases gk with
      | zero => exact absurd HA.out (by simp [spec_l12Number.l0])
      | succ k2 =>
       have H := HA.out
       clear HA
       simp only [spec_l12Number.l0] at H
       by_cases c9 : x4_2 < (a0.size : Int)
       · rw [if_pos c9] at H
         have c9b0 : decide (x4_2 < (a0.size : Int)) = true := decide_eq_true c9
         clear c9
         by_cases c10 : 0 ≤ x4_2
         · rw [if_pos c10] at H
           have c10b0 : decide (0 ≤ x4_2) = true := decide_eq_true c10
           clear c10
           by_cases c12 : (bt a0 x4_2) < 48
           · rw [if_pos c12] at H
             have c12b0 : decide ((bt a0 x4_2) < 48) = true := decide_eq_true c12
             clear c12
             obtain rfl := Option.some.inj H
             have p11 : 0 ≤ (x4_2 : Int) := of_decide_eq_true z1200
             have q11 : x4_2 < (a0.size : Int) := of_decide_eq_true z1200
             have hx11 := bt_at a0 x4_2
             replace p11 := eq_true p11
             replace q11 := eq_true q11
             go_wp2
             go_ret
             exact ⟨z4458, za9de⟩
           · rw [if_neg c12] at H
             have c12b0 : decide ((bt a0 x4_2) < 48) = false := decide_eq_false c12
             clear c12
             by_cases c14 : (bt a0 x4_2) > 57
             · rw [if_pos c14] at H
               have c14b0 : decide (57 < (bt a0 x4_2)) = true := decide_eq_true c14
               clear c14
               obtain rfl := Option.some.inj H
               have p11 : 0 ≤ (x4_2 : Int) := of_decide_eq_true z1200
               have q11 : x4_2 < (a0.size : Int) := of_decide_eq_true z1200
               have hx11 := bt_at a0 x4_2
               replace p11 := eq_true p11
               replace q11 := eq_true q11
               have p13 : 0 ≤ (x4_2 : Int) := of_decide_eq_true z1200
               have q13 : x4_2 < (a0.size : Int) := of_decide_eq_true z1200
               have hx13 := bt_at a0 x4_2
               replace p13 := eq_true p13
               replace q13 := eq_true q13
               go_wp2
               go_ret
               exact ⟨z4458, za9de⟩
             · rw [if_neg c14] at H
               have c14b0 : decide (57 < (bt a0 x4_2)) = false := decide_eq_false c14
               clear c14
               have H' := aM H
               clear H
               have p11 : 0 ≤ (x4_2 : Int) := of_decide_eq_true z1200
               have q11 : x4_2 < (a0.size : Int) := of_decide_eq_true z1200
               have hx11 := bt_at a0 x4_2
               replace p11 := eq_true p11
               replace q11 := eq_true q11
               have p13 : 0 ≤ (x4_2 : Int) := of_decide_eq_true z1200
               have q13 : x4_2 < (a0.size : Int) := of_decide_eq_true z1200
               have hx13 := bt_at a0 x4_2
               replace p13 := eq_true p13
               replace q13 := eq_true q13
               have p15 : 0 ≤ (x4_2 : Int) := of_decide_eq_true z1200
               have q15 : x4_2 < (a0.size : Int) := of_decide_eq_true z1200
               have hx15 := bt_at a0 x4_2
               replace p15 := eq_true p15
               replace q15 := eq_true q15
               go_wp2
               go_roundg k2
               case measure => have := HJ1.out; have := HK2.out; omega
               case rel => exact ⟨(wrap64 ((wrap64 (10 * x3_2)) + (((bt a0 x4_2) - 48) % 256))), (wrap64 (x4_2 + 1)), z4458, z4458, H', ⟨by have := HJ1.out; have := HK2.out; omega⟩, za9de⟩
         · rw [if_neg c10] at H
           exact absurd H (by simp)
       · rw [if_neg c9] at H
         have c9b0 : decide (x4_2 < (a0.size : Int)) = false := decide_eq_false c9
         clear c9
         obtain rfl := Option.some.inj H
         go_wp2
         go_ret
         exact ⟨z4458, za9de⟩

end Go.Proofs.YteogadaloebdaaaDoor.P
