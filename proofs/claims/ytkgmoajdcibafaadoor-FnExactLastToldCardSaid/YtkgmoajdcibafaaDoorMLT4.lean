/- Part 4 of the walks and words that LT uses. No conditions of its own. -/
import Derived.Test.YtkgmoajdcibafaaDoorMLT3

-- written by a program of this session's (wip/pp)
namespace Go.Proofs.YtkgmoajdcibafaaDoor.P
open Go.RowKit Go.Proofs.YtkgmoajdcibafaaDoorW.PrintWords Go.Proofs.YtkgmoajdcibafaaDoorW.PrintLast Go.Proofs.YtkgmoajdcibafaaDoorW.PrintMore
attribute [local go_sem] max2_int min2_int max_two min_two max_three min_three max_four min_four str_geq str_gtr str_leq   -- for this text's walks alone
set_option linter.unusedVariables false
set_option linter.unusedSimpArgs false

/-! ### spec_l11OwnKey: function 63 -/
def spec_l11OwnKey.f (a0_0 : ByteArray) (l0_1 : List (S123)) (a0_2 : Int) : Option (ByteArray × (List (S123)) × Int) := (some (([] : List (S123)) : List (S123))).bind fun y103 => (if y103.length + l0_1.length < 4398046511104 then (some (a0_0, (y103 ++ l0_1), a0_2)) else (none))
set_option maxHeartbeats 8000000 in
set_option maxRecDepth 100000 in
theorem spec_l11OwnKey.calls (a0_0 : ByteArray) (A0_1 : Option Addr) (c0_1 : Nat) (l0_1 : List (S123)) (a0_2 : Int) (r1 : ByteArray) (r2 : List (S123)) (r3 : Int) (w : World) (hr0_1 : Kd.C k123 w A0_1 l0_1.length l0_1) (hc0_1 : l0_1.length ≤ c0_1) (h : spec_l11OwnKey.f a0_0 l0_1 a0_2 = some (r1, r2, r3)) :
 Calls Tryd.prog 63 #[.agg #[.string a0_0, .slice A0_1 l0_1.length c0_1, .int .i64 a0_2]] w fun e w' => ∃ v1_ : Value, e = .returned (.agg #[.string r1, v1_, .int .i64 r3]) ∧ Kd.R k123 123 w' w.heap.size (fun _ => True) v1_ r2 ∧ Below w.heap.size w w' := by
 have hu32 := Tryd.underlying32
 have HR0_1 := aM hr0_1
 have HC0_1 := aM hc0_1
 clear hr0_1 hc0_1
 have HB := aM (Below.refl w.heap.size w)
 have H : ((some (([] : List (S123)) : List (S123))).bind fun y103 => (if y103.length + l0_1.length < 4398046511104 then (some (a0_0, (y103 ++ l0_1), a0_2)) else (none))) = some (r1, r2, r3) := h
 clear h
 obtain ⟨y103, hy103⟩ : ∃ y_ : List (S123), y_ = (([] : List (S123))) := ⟨_, rfl⟩
 first | (replace H := bindS H; rw [← hy103] at H; try dsimp only at H) | rw [← hy103] at H
 have Ny103 := aM hy103
 clear hy103
 obtain ⟨LMc2, H⟩ := sM H
 obtain ⟨y106, hy106⟩ : ∃ y_ : List (S123), y_ = (y103 ++ l0_1) := ⟨_, rfl⟩
 first | (replace H := bindS H; rw [← hy106] at H; try dsimp only at H) | rw [← hy106] at H
 have Ny106 := aM hy106
 clear hy106
 simp only [Option.some.injEq, Prod.mk.injEq] at H
 obtain ⟨rfl, rfl, rfl⟩ := H
 go_enter Tryd.func63, Tryd.ntmps63
 go_wp2_with (first | ((with_reducible refine gate_dst (N := 1) rfl ?_); refine bX 1 32 #[.string a0_0, .slice A0_1 l0_1.length c0_1, .int .i64 a0_2] ?_; intro gb101 hg w3 hbox hb; have _ := aM (below_step hbZ hb); have _ := aM hbox; have _ := szZ hg; have _ := szZ hg; clear HB; rename_i HB BK101 GW101 GE101; clear hb hbox hg) | ((with_reducible refine gate_dst (N := 2) rfl ?_); refine bX 2 32 #[.string (⟨#[]⟩ : ByteArray), .slice none 0 0, .int .i64 0] ?_; intro gb102 hg w4 hbox hb; have _ := bB gb101 hb; have _ := aM (below_step hbZ hb); have _ := aM hbox; have _ := szZ hg; have _ := szZ hg; have ⟨_, _⟩ := nbB gb101 hg; clear BK101 HB; rename_i BK101 HB BK102 GW102 GE102 NB101_102 NB102_101; clear hb hbox hg) | ((with_reducible refine gate_dst (N := 3) rfl ?_); refine Kd.R_lit k123 _ 123 ?hg (N := 3) ?hd (xs := ([] : List (S123))) (inner := []) (ok := fun _ => True) (okp := fun _ => True) ?hr ?hp (fun _ hk => hk) trivial (Below.refl _ _) (Nat.le_refl _) (by simp) ?_; (case hd => rfl); (case hg => rfl); (case hr => first | (go_simp; done) | (go_simp; rfl)); (case hp => exact (Reps.none _ _)); intro v104 w5 ho6 hb hg_ hnew_; clear hg_ hnew_; (first | rw [← Ny103.out] at ho6 | (simp only [Int.reduceToNat] at ho6; rw [← Ny103.out] at ho6)); have _ := aM (Kd.R_lower ho6 (below_size hbZ)); have _ := bB gb101 hb; have _ := bB gb102 hb; have _ := aM (below_step hbZ hb); clear BK101 BK102 HB; rename_i HO105 BK101 BK102 HB; clear hb ho6; have hnb7 := NB101_102.out; have hnc7 := NB102_101.out; have hz8 := cellsZ3 BK101.out) | ((with_reducible refine gate_builtin (b := .append) (xs := #[.tmp 3, .tmp 5]) rfl ?_); at_builtin; refine Kd.R_append_rows k123 (w0 := w) w.heap.size rfl (.tmp 3) (.tmp 5) 30 123 (.agg #[(.string ⟨#[]⟩), (.string ⟨#[]⟩)]) 32 rfl Tryd.underlying30 info123 rfl (by decide) (by omega) v104 y103 l0_1 _ _ _ (fun _ => True) (fun _ => False) rfl rfl ?aO ?aR (fun _ _ h => h) (fun _ h => h.elim) ?aF ?aB ?aS ?aL ?_; (case aR => repeat (first | exact (Kd.C_below HR0_1.out HB.out) | (with_reducible refine Kd.C_alloc ?_ _) | (with_reducible refine Kd.C_drewN ?_ _) | (with_reducible refine Kd.C_drew ?_))); (case aB => exact hbZ); (case aF => exact (fun _ _ => trivial)); (case aO => exact (rZ HO105.out)); (case aS => exact (below_size hbZ)); (case aL => have := LMc2.out; omega); intro v107 w9 ho hb hg hat; rw [← Ny106.out] at ho; have _ := aM (blk_grown (g := gb101) bkZ hg (Kd.R_ne HO105.out BK101.out (by decide))); have _ := aM (blk_grown (g := gb102) bkZ hg (Kd.R_ne HO105.out BK102.out (by decide))); have _ := aM hb; have _ := aM ho; clear BK101 BK102 HB HO105; rename_i BK101 BK102 HB HO108; clear ho hb hg hat; obtain ⟨Ao10, co10, eo10⟩ := Kd.R_slice HO108.out; subst eo10; have hz11 := cellsZ3 BK101.out; have hz12 := cellsZ3 BK102.out))
 refine bodyPost_ret (results_cell_row rfl _ _ gb102 32 #[.string a0_0, .slice Ao10 y106.length co10, .int .i64 a0_2] (0, 0) _ rfl bkZ Tryd.underlying32 rfl (by kernel_rfl)) rfl ?_
 exact ⟨_, z674d, by (with_reducible repeat (first | apply Kd.R_alloc | apply Kd.R_drewN | apply Kd.R_drew)); exact Kd.R_mono (Kd.R_far (p := ⟨gb102, 2, none⟩) (Kd.R_far (p := ⟨gb102, 1, none⟩) (Kd.R_far (p := ⟨gb102, 0, none⟩) (Kd.R_far (p := ⟨gb101, 1, none⟩) (Kd.R_types (Kd.R_types HO108.out BK101.out (by decide)) BK102.out (by decide)) (fun _ hk => hk.1.2) (.slice Ao10 y106.length co10)) (fun _ hk => hk.2) (.string a0_0)) (fun _ hk => hk.2) (.slice Ao10 y106.length co10)) (fun _ hk => hk.2) (.int .i64 a0_2)) (fun _ hk => trivial), zcb41⟩
end Go.Proofs.YtkgmoajdcibafaaDoor.P

-- written by a program of this session's (wip/pp)
namespace Go.Proofs.YtkgmoajdcibafaaDoor.P
open Go.RowKit Go.Proofs.YtkgmoajdcibafaaDoorW.PrintWords Go.Proofs.YtkgmoajdcibafaaDoorW.PrintLast Go.Proofs.YtkgmoajdcibafaaDoorW.PrintMore
attribute [local go_sem] max2_int min2_int max_two min_two max_three min_three max_four min_four str_geq str_gtr str_leq   -- for this text's walks alone
set_option linter.unusedVariables false
set_option linter.unusedSimpArgs false

/-! ### spec_LastTold: function 25 -/
mutual
def spec_LastTold.l0 : Nat → List (S96) → List (S96) → Int → Int → Option ((List (S96)) × Bool)
 | 0, _, _, _, _ => none
 | k + 1, x4, x12, x13, x14 => if x14 < x13 then (if 0 ≤ x14 then (if x14 < (x12.length : Int) then ((spec_GoodKey.f k ((rd_T96 x12 x14).f0.f0) ((rd_T96 x12 x14).f0.f1) ((rd_T96 x12 x14).f0.f2)).bind fun t103 => (if t103 = true then ((spec_l11OwnKey.f ((rd_T96 x12 x14).f0.f0) ((rd_T96 x12 x14).f0.f1) ((rd_T96 x12 x14).f0.f2)).bind fun bt104 => ((some (([] : List Int) : List Int)).bind fun y109 => (if y109.length + ((rd_T96 x12 x14).f2.f4).length < 17592186044416 then (spec_LastTold.l1 k x4 0 x12 x13 x14 bt104.1 bt104.2.1 bt104.2.2 ((rd_T96 x12 x14).f1) ((rd_T96 x12 x14).f2.f0) ((rd_T96 x12 x14).f2.f1) ((rd_T96 x12 x14).f2.f2) ((rd_T96 x12 x14).f2.f3) (y109 ++ ((rd_T96 x12 x14).f2.f4)) ((rd_T96 x12 x14).f2.f5)) else (none)))) else (some (([] : List (S96)), false)))) else (none)) else (none)) else (some (x4, true))
def spec_LastTold.j2 : Nat → List (S96) → Int → List (S96) → Int → Int → ByteArray → List (S123) → Int → Int → Int → Int → Int → Int → List Int → Bool → Option ((List (S96)) × Bool)
 | 0, _, _, _, _, _, _, _, _, _, _, _, _, _, _, _ => none
 | k + 1, x4, x7, x12, x13, x14, x103000, x103001, x103002, x103003, x103004, x103005, x103006, x103007, x103008, x103009 => if x7 < (x4.length : Int) then (if 0 ≤ x7 then ((spec_l1Compare.f k ((rd_T96 x4 x7).f0.f0) ((rd_T96 x4 x7).f0.f1) ((rd_T96 x4 x7).f0.f2) x103000 x103001 x103002).bind fun t118 => (spec_LastTold.j3 k x4 x7 x12 x13 x14 (t118 == 0) x103000 x103001 x103002 x103003 x103004 x103005 x103006 x103007 x103008 x103009)) else (none)) else (spec_LastTold.j3 k x4 x7 x12 x13 x14 false x103000 x103001 x103002 x103003 x103004 x103005 x103006 x103007 x103008 x103009)
def spec_LastTold.j3 : Nat → List (S96) → Int → List (S96) → Int → Int → Bool → ByteArray → List (S123) → Int → Int → Int → Int → Int → Int → List Int → Bool → Option ((List (S96)) × Bool)
 | 0, _, _, _, _, _, _, _, _, _, _, _, _, _, _, _, _ => none
 | k + 1, x4, x7, x12, x13, x14, x64, x103000, x103001, x103002, x103003, x103004, x103005, x103006, x103007, x103008, x103009 => if x64 = true then (if 0 ≤ x7 then (if x7 < (x4.length : Int) then (if x103003 ≥ ((rd_T96 x4 x7).f1) then (spec_LastTold.l0 k (x4.set (x7 : Int).toNat (⟨(⟨x103000, x103001, x103002⟩ : S32), x103003, (⟨x103004, x103005, x103006, x103007, x103008, x103009⟩ : S35)⟩ : S96)) x12 x13 (wrap64 (x14 + 1))) else (spec_LastTold.l0 k x4 x12 x13 (wrap64 (x14 + 1)))) else (none)) else (none)) else (if 0 ≤ x7 then (if x7 ≤ (x4.length : Int) then ((some (x4.take (x7 : Int).toNat : List (S96))).bind fun y121 => (if ([] : List (S96)).length + y121.length < 1172812402961 then ((some (([] : List (S96)) ++ y121 : List (S96))).bind fun y126 => (if y126.length < 1172812402961 then ((some (y126 ++ [(⟨(⟨x103000, x103001, x103002⟩ : S32), x103003, (⟨x103004, x103005, x103006, x103007, x103008, x103009⟩ : S35)⟩ : S96)] : List (S96))).bind fun y129 => ((some (x4.drop (x7 : Int).toNat : List (S96))).bind fun y132 => (if y129.length + y132.length < 1172812402961 then (spec_LastTold.l0 k (y129 ++ y132) x12 x13 (wrap64 (x14 + 1))) else (none)))) else (none))) else (none))) else (none)) else (none))
def spec_LastTold.l1 : Nat → List (S96) → Int → List (S96) → Int → Int → ByteArray → List (S123) → Int → Int → Int → Int → Int → Int → List Int → Bool → Option ((List (S96)) × Bool)
 | 0, _, _, _, _, _, _, _, _, _, _, _, _, _, _, _ => none
 | k + 1, x4, x7, x12, x13, x14, x103000, x103001, x103002, x103003, x103004, x103005, x103006, x103007, x103008, x103009 => if x7 < (x4.length : Int) then (if 0 ≤ x7 then ((spec_l1Compare.f k ((rd_T96 x4 x7).f0.f0) ((rd_T96 x4 x7).f0.f1) ((rd_T96 x4 x7).f0.f2) x103000 x103001 x103002).bind fun t116 => (if t116 < 0 then (spec_LastTold.l1 k x4 (wrap64 (x7 + 1)) x12 x13 x14 x103000 x103001 x103002 x103003 x103004 x103005 x103006 x103007 x103008 x103009) else (spec_LastTold.j2 k x4 x7 x12 x13 x14 x103000 x103001 x103002 x103003 x103004 x103005 x103006 x103007 x103008 x103009))) else (none)) else (spec_LastTold.j2 k x4 x7 x12 x13 x14 x103000 x103001 x103002 x103003 x103004 x103005 x103006 x103007 x103008 x103009)
end
def spec_LastTold.f (k : Nat) (l0 : List (S96)) : Option ((List (S96)) × Bool) := if (l0.length : Int) > 200 then (some (([] : List (S96)), false)) else (spec_LastTold.l0 k ([] : List (S96)) l0 (l0.length : Int) 0)
theorem spec_LastTold.mono_l : ∀ k, (∀ y0 y1 y2 y3, LeO (spec_LastTold.l0 k y0 y1 y2 y3) (spec_LastTold.l0 (k + 1) y0 y1 y2 y3)) ∧ (∀ y0 y1 y2 y3 y4 y5 y6 y7 y8 y9 y10 y11 y12 y13 y14, LeO (spec_LastTold.j2 k y0 y1 y2 y3 y4 y5 y6 y7 y8 y9 y10 y11 y12 y13 y14) (spec_LastTold.j2 (k + 1) y0 y1 y2 y3 y4 y5 y6 y7 y8 y9 y10 y11 y12 y13 y14)) ∧ (∀ y0 y1 y2 y3 y4 y5 y6 y7 y8 y9 y10 y11 y12 y13 y14 y15, LeO (spec_LastTold.j3 k y0 y1 y2 y3 y4 y5 y6 y7 y8 y9 y10 y11 y12 y13 y14 y15) (spec_LastTold.j3 (k + 1) y0 y1 y2 y3 y4 y5 y6 y7 y8 y9 y10 y11 y12 y13 y14 y15)) ∧ (∀ y0 y1 y2 y3 y4 y5 y6 y7 y8 y9 y10 y11 y12 y13 y14, LeO (spec_LastTold.l1 k y0 y1 y2 y3 y4 y5 y6 y7 y8 y9 y10 y11 y12 y13 y14) (spec_LastTold.l1 (k + 1) y0 y1 y2 y3 y4 y5 y6 y7 y8 y9 y10 y11 y12 y13 y14))
 | 0 => ⟨fun _ _ _ _ r h => by simp [spec_LastTold.l0] at h, fun _ _ _ _ _ _ _ _ _ _ _ _ _ _ _ r h => by simp [spec_LastTold.j2] at h, fun _ _ _ _ _ _ _ _ _ _ _ _ _ _ _ _ r h => by simp [spec_LastTold.j3] at h, fun _ _ _ _ _ _ _ _ _ _ _ _ _ _ _ r h => by simp [spec_LastTold.l1] at h⟩
 | k + 1 => by
  obtain ⟨ih0, ih1, ih2, ih3⟩ := spec_LastTold.mono_l k; have m0 := @spec_GoodKey.mono; have m1 := @spec_l1Compare.mono
  refine ⟨?_, ?_, ?_, ?_⟩
  · intro y0 y1 y2 y3
    unfold spec_LastTold.l0
    exact moZ
  · intro y0 y1 y2 y3 y4 y5 y6 y7 y8 y9 y10 y11 y12 y13 y14
    unfold spec_LastTold.j2
    exact moZ
  · intro y0 y1 y2 y3 y4 y5 y6 y7 y8 y9 y10 y11 y12 y13 y14 y15
    unfold spec_LastTold.j3
    exact moZ
  · intro y0 y1 y2 y3 y4 y5 y6 y7 y8 y9 y10 y11 y12 y13 y14
    unfold spec_LastTold.l1
    exact moZ
theorem spec_LastTold.mono : ∀ a0 k, LeO (spec_LastTold.f k a0) (spec_LastTold.f (k + 1) a0) := by
 intro a0 k
 obtain ⟨ih0, ih1, ih2, ih3⟩ := spec_LastTold.mono_l k
 have m0 := @spec_GoodKey.mono; have m1 := @spec_l1Compare.mono
 unfold spec_LastTold.f
 exact moZ
def spec_LastTold.T12 : Bool × List (List Nat × List Nat) := (true, [([], []), ([], []), ([1], [1]), ([0, 2], [0, 2]), ([3], [3]), ([4], [4]), ([4], [4]), ([5, 6, 4], [4, 5, 6]), ([7, 4], [4, 7]), ([8, 4], [4, 8]), ([4], [4]), ([10, 4], [4, 10]), ([9, 11, 4, 4], [4, 9, 11]), ([12, 4], [4, 12]), ([4, 13], [4, 13])])
def spec_LastTold.B12 : List Nat := [0, 0, 2, 7, 15, 31, 31, 127, 255, 511, 31, 1055, 4095, 8191, 16383]
theorem spec_LastTold.tab12 : rtab .any (opsOf Tryd.f25 12) = spec_LastTold.T12 := by kernel_rfl
theorem spec_LastTold.bits12 : waitsOk spec_LastTold.T12.2 spec_LastTold.B12 = true := by kernel_rfl
def spec_LastTold.T14 : Bool × List (List Nat × List Nat) := (true, [([], []), ([], []), ([1], [1]), ([0, 2], [0, 2]), ([3], [3]), ([4], [4]), ([4], [4]), ([5, 6, 4], [4, 5, 6]), ([7, 4], [4, 7]), ([8, 4], [4, 8]), ([4], [4]), ([10, 4], [4, 10]), ([9, 11, 4, 4], [4, 9, 11]), ([12, 4], [4, 12]), ([4, 13], [4, 13])])
def spec_LastTold.B14 : List Nat := [0, 0, 2, 7, 15, 31, 31, 127, 255, 511, 31, 1055, 4095, 8191, 16383]
theorem spec_LastTold.tab14 : rtab .any (opsOf Tryd.f25 14) = spec_LastTold.T14 := by kernel_rfl
theorem spec_LastTold.bits14 : waitsOk spec_LastTold.T14.2 spec_LastTold.B14 = true := by kernel_rfl
def spec_LastTold.T15 : Bool × List (List Nat × List Nat) := (true, [([], []), ([0], [0]), ([], []), ([], []), ([2, 3], [2, 3]), ([4], [4]), ([5], [5]), ([1, 6], [1, 6])])
def spec_LastTold.B15 : List Nat := [0, 1, 0, 0, 12, 28, 60, 127]
theorem spec_LastTold.tab15 : rtab .any (opsOf Tryd.f25 15) = spec_LastTold.T15 := by kernel_rfl
theorem spec_LastTold.bits15 : waitsOk spec_LastTold.T15.2 spec_LastTold.B15 = true := by kernel_rfl
set_option maxHeartbeats 8000000 in
set_option maxRecDepth 100000 in
theorem spec_LastTold.calls (k : Nat) (A0 : Option Addr) (c0 : Nat) (l0 : List (S96)) (r1 : List (S96)) (r2 : Bool) (w : World) (hr0 : Kd.C k96 w A0 l0.length l0) (hc0 : l0.length ≤ c0) (h : spec_LastTold.f k l0 = some (r1, r2)) :
 Calls Tryd.prog 25 #[.slice A0 l0.length c0] w fun e w' => ∃ v0_ : Value, e = .returned (.tuple #[v0_, .bool r2]) ∧ Kd.N k96 96 w' w.heap.size (fun k_ => (w.heap.size ≤ k_)) v0_ r1 ∧ Below w.heap.size w w' := by
 have hu96 := Tryd.underlying96
 have hu32 := Tryd.underlying32
 have HR0 := aM hr0
 have HC0 := aM hc0
 clear hr0 hc0
 have HB := aM (Below.refl w.heap.size w)
 have H : (if (l0.length : Int) > 200 then (some (([] : List (S96)), false)) else (spec_LastTold.l0 k ([] : List (S96)) l0 (l0.length : Int) 0)) = some (r1, r2) := h
 clear h
 by_cases c2 : (l0.length : Int) > 200
 · rw [if_pos c2] at H
   have c2b0 : decide (200 < (l0.length : Int)) = true := decide_eq_true c2
   have c2b1 : decide (200 < l0.length) = true := decide_eq_true (by omega)
   clear c2
   simp only [Option.some.injEq, Prod.mk.injEq] at H
   obtain ⟨rfl, rfl⟩ := H
   go_enter Tryd.func25, Tryd.ntmps25
   go_wp2
   go_ret2
   exact ⟨_, z674d, z2bfb, z5acd⟩
 · rw [if_neg c2] at H
   have c2b0 : decide (200 < (l0.length : Int)) = false := decide_eq_false c2
   have c2b1 : decide (200 < l0.length) = false := decide_eq_false (by omega)
   clear c2
   have H' := aM H
   clear H
   go_enter Tryd.func25, Tryd.ntmps25
   go_wp2
   go_loopg [4, 14] k (fun kq v4 v14 w' => ∃ (x4_1 : List (S96)) (x14_1 : Int), v14 = .int .i64 x14_1 ∧ Aside0 (spec_LastTold.l0 kq x4_1 l0 (l0.length : Int) x14_1 = some (r1, r2)) ∧ Aside0 (kq ≤ k) ∧ Aside0 (Kd.N k96 96 w' w.heap.size (fun k_ => (w.heap.size ≤ k_)) v4 x4_1) ∧ Aside0 (Below w.heap.size w w'))
   case atStart => exact ⟨(([] : List (S96))), (0), z4458, H', ⟨Nat.le_refl _⟩, ⟨z2bfb⟩, ⟨z5acd⟩⟩
   case round =>
    clear H'
    (try clear c2b0); (try clear c2b1)
    obtain ⟨x4_1, x14_1, rfl, HA, HK1, HO_4, HB⟩ := hrel
    cases gk with
    | zero => exact absurd HA.out (by simp [spec_LastTold.l0])
    | succ k1 =>
     have H := HA.out
     clear HA
     simp only [spec_LastTold.l0] at H
     by_cases c3 : x14_1 < (l0.length : Int)
     · rw [if_pos c3] at H
       have c3b0 := dL c3
       clear c3
       obtain ⟨c4b0, H⟩ := sE H
       obtain ⟨c5b0, H⟩ := sL H
       obtain ⟨t103, A6, H⟩ := bS H; try dsimp only at H
       by_cases c7 : t103 = true
       · subst c7
         rw [if_pos rfl] at H
         obtain ⟨⟨t104, t105, t108⟩, A8, H⟩ := bS H; try dsimp only at H
         obtain ⟨y109, hy109⟩ : ∃ y_ : List Int, y_ = (([] : List Int)) := ⟨_, rfl⟩
         first | (replace H := bindS H; rw [← hy109] at H; try dsimp only at H) | rw [← hy109] at H
         have Ny109 := aM hy109
         clear hy109
         obtain ⟨LMc9, H⟩ := sM H
         obtain ⟨y112, hy112⟩ : ∃ y_ : List Int, y_ = (y109 ++ ((rd_T96 l0 x14_1).f2.f4)) := ⟨_, rfl⟩
         first | (replace H := bindS H; rw [← hy112] at H; try dsimp only at H) | rw [← hy112] at H
         have Ny112 := aM hy112
         clear hy112
         have HC10 := aM H
         clear H
         have p101 : 0 ≤ (x14_1 : Int) := of_decide_eq_true z1200
         have q101 : x14_1 < (l0.length : Int) := of_decide_eq_true z1200
         obtain ⟨ad101, A101_1, c101_1, A101_8, c101_8, e101, hx101_0, hx101_1, hx101_2, hx101_3, hx101_4, hx101_5, hx101_6, hx101_7, hx101_8, hx101_9, hl101_1, hi101_1, hl101_8, hi101_8⟩ := at_T96 HR0.out x14_1 p101 q101
         cases e101
         have TW101_1 := aM hx101_1
         have TW101_8 := aM hx101_8
         replace hx101_0 := (HB.out.cell (World.block_lt_of_cell? w _ hx101_0)).trans hx101_0
         replace hx101_1 := (HB.out.cell (World.block_lt_of_cell? w _ hx101_1)).trans hx101_1
         replace hx101_2 := (HB.out.cell (World.block_lt_of_cell? w _ hx101_2)).trans hx101_2
         replace hx101_3 := (HB.out.cell (World.block_lt_of_cell? w _ hx101_3)).trans hx101_3
         replace hx101_4 := (HB.out.cell (World.block_lt_of_cell? w _ hx101_4)).trans hx101_4
         replace hx101_5 := (HB.out.cell (World.block_lt_of_cell? w _ hx101_5)).trans hx101_5
         replace hx101_6 := (HB.out.cell (World.block_lt_of_cell? w _ hx101_6)).trans hx101_6
         replace hx101_7 := (HB.out.cell (World.block_lt_of_cell? w _ hx101_7)).trans hx101_7
         replace hx101_8 := (HB.out.cell (World.block_lt_of_cell? w _ hx101_8)).trans hx101_8
         replace hx101_9 := (HB.out.cell (World.block_lt_of_cell? w _ hx101_9)).trans hx101_9
         have HR101_1 := aM hi101_1
         have HC101_1 := aM hl101_1
         clear hi101_1 hl101_1
         have HR101_8 := aM hi101_8
         have HC101_8 := aM hl101_8
         clear hi101_8 hl101_8
         replace p101 := eq_true p101
         replace q101 := eq_true q101
         go_upto_block 2 with (first | ((with_reducible refine gate_dst (N := 6) rfl ?_); refine bX 6 96 #[.string (⟨#[]⟩ : ByteArray), .slice none 0 0, .int .i64 0, .int .i64 0, .int .i64 0, .int .i64 0, .int .i64 0, .int .i64 0, .slice none 0 0, .bool false] ?_; intro gb102 hg w11 hbox hb; have _ := aM (Kd.N_below (Kd.N_elderB (by (with_reducible repeat (first | apply Kd.N_alloc | apply Kd.N_drewN | apply Kd.N_drew)); exact HO_4.out) gb102 (Nat.le_of_eq hg.symm)) hb); have _ := aM (below_step hbZ hb); have _ := aM hbox; have _ := szZ hg; have _ := szZ hg; clear HO_4 HB; rename_i HO_4 HB BK102 GW102 GE102; clear hb hbox hg; have hz12 := cellsZ10 BK102.out) | ((with_reducible refine gate_callee (f := 41) rfl ?_); refine gL 20 Tryd.func41 #[.agg #[.string ((rd_T96 l0 x14_1).f0.f0), .slice A101_1 ((rd_T96 l0 x14_1).f0.f1).length c101_1, .int .i64 ((rd_T96 l0 x14_1).f0.f2)]] ?_; (with_reducible refine (spec_GoodKey.calls k1 ((rd_T96 l0 x14_1).f0.f0) _ _ ((rd_T96 l0 x14_1).f0.f1) ((rd_T96 l0 x14_1).f0.f2) true _ ?side1 ?side2 A6.out).mono ?_); (case side1 => exact Kd.C_below HR101_1.out hbZ); (case side2 => exact HC101_1.out); rintro e w13 ⟨rfl, hb⟩; refine ⟨_, rfl, ?_⟩; have _ := aM (Kd.N_below (by (with_reducible repeat (first | apply Kd.N_alloc | apply Kd.N_drewN | apply Kd.N_drew)); exact (Kd.N_mono (Kd.N_far (p := ⟨gb102, 9, none⟩) (Kd.N_far (p := ⟨gb102, 8, none⟩) (Kd.N_far (p := ⟨gb102, 7, none⟩) (Kd.N_far (p := ⟨gb102, 6, none⟩) (Kd.N_far (p := ⟨gb102, 5, none⟩) (Kd.N_far (p := ⟨gb102, 4, none⟩) (Kd.N_far (p := ⟨gb102, 3, none⟩) (Kd.N_far (p := ⟨gb102, 2, none⟩) (Kd.N_far (p := ⟨gb102, 1, none⟩) (Kd.N_far (p := ⟨gb102, 0, none⟩) (Kd.N_mono HO_4.out (fun k_ hk => (⟨hk, hk.2⟩ : _ ∧ k_ ≠ gb102))) (fun _ hk => hk.2) (.string ((rd_T96 l0 x14_1).f0.f0))) (fun _ hk => hk.2) (.slice A101_1 ((rd_T96 l0 x14_1).f0.f1).length c101_1)) (fun _ hk => hk.2) (.int .i64 ((rd_T96 l0 x14_1).f0.f2))) (fun _ hk => hk.2) (.int .i64 ((rd_T96 l0 x14_1).f1))) (fun _ hk => hk.2) (.int .i64 ((rd_T96 l0 x14_1).f2.f0))) (fun _ hk => hk.2) (.int .i64 ((rd_T96 l0 x14_1).f2.f1))) (fun _ hk => hk.2) (.int .i64 ((rd_T96 l0 x14_1).f2.f2))) (fun _ hk => hk.2) (.int .i64 ((rd_T96 l0 x14_1).f2.f3))) (fun _ hk => hk.2) (.slice A101_8 ((rd_T96 l0 x14_1).f2.f4).length c101_8)) (fun _ hk => hk.2) (.bool ((rd_T96 l0 x14_1).f2.f5))) (fun _ h_ => h_.1))) hb); have _ := aM (blk_below (g := gb102) (o := .cells #[.string ((rd_T96 l0 x14_1).f0.f0), .slice A101_1 ((rd_T96 l0 x14_1).f0.f1).length c101_1, .int .i64 ((rd_T96 l0 x14_1).f0.f2), .int .i64 ((rd_T96 l0 x14_1).f1), .int .i64 ((rd_T96 l0 x14_1).f2.f0), .int .i64 ((rd_T96 l0 x14_1).f2.f1), .int .i64 ((rd_T96 l0 x14_1).f2.f2), .int .i64 ((rd_T96 l0 x14_1).f2.f3), .slice A101_8 ((rd_T96 l0 x14_1).f2.f4).length c101_8, .bool ((rd_T96 l0 x14_1).f2.f5)] 96 (0, 0)) bkZ hb); have _ := aM (below_step hbZ hb); clear HO_4 BK102 HB; rename_i HO_4 BK102 HB; (try clear hb); have hz14 := cellsZ10 BK102.out) | ((with_reducible refine gate_callee (f := 63) rfl ?_); refine gL 24 Tryd.func63 #[.agg #[.string ((rd_T96 l0 x14_1).f0.f0), .slice A101_1 ((rd_T96 l0 x14_1).f0.f1).length c101_1, .int .i64 ((rd_T96 l0 x14_1).f0.f2)]] ?_; (with_reducible refine (spec_l11OwnKey.calls ((rd_T96 l0 x14_1).f0.f0) _ _ ((rd_T96 l0 x14_1).f0.f1) ((rd_T96 l0 x14_1).f0.f2) t104 t105 t108 _ ?side1 ?side2 A8.out).mono ?_); (case side1 => exact (cZ (Kd.C_below HR101_1.out HB.out))); (case side2 => exact HC101_1.out); rintro e w15 ⟨v106, rfl, ho0, hb⟩; refine ⟨_, rfl, ?_⟩; have _ := aM (Kd.N_elder' (by (with_reducible repeat (first | apply Kd.N_alloc | apply Kd.N_drewN | apply Kd.N_drew)); exact HO_4.out) (Kd.R_base ho0) hb); have _ := aM (Kd.R_lower (Kd.R_newM (M := fun k_ => (w.heap.size ≤ k_)) ho0 (below_size hbZ) (fun k_ h_ => h_)) (below_size hbZ)); have _ := bB gb102 hb; have _ := aM (below_step hbZ hb); clear HO_4 BK102 HB; rename_i HO_4 HO107 BK102 HB; (try clear hb); (try clear ho0); have hz16 := cellsZ10 BK102.out; obtain ⟨Ao17, co17, eo17⟩ := Kd.R_slice HO107.out; subst eo17) | ((with_reducible refine gate_dst (N := 26) rfl ?_); refine Kd.R_lit (Kd.int .i64) _ 3 ?hg (N := 26) ?hd (xs := ([] : List Int)) (inner := []) (ok := fun _ => True) (okp := fun _ => True) ?hr ?hp (fun _ hk => hk) trivial (Below.refl _ _) (Nat.le_refl _) (by simp) ?_; (case hd => rfl); (case hg => rfl); (case hr => first | (go_simp; done) | (go_simp; rfl)); (case hp => exact (Reps.none _ _)); intro v110 w18 ho19 hb hg_ hnew_; clear hg_ hnew_; (first | rw [← Ny109.out] at ho19 | (simp only [Int.reduceToNat] at ho19; rw [← Ny109.out] at ho19)); have _ := aM (Kd.N_elder' (by (with_reducible repeat (first | apply Kd.N_alloc | apply Kd.N_drewN | apply Kd.N_drew)); exact (Kd.N_mono (Kd.N_far (p := ⟨gb102, 2, none⟩) (Kd.N_far (p := ⟨gb102, 1, none⟩) (Kd.N_far (p := ⟨gb102, 0, none⟩) (Kd.N_mono HO_4.out (fun k_ hk => (⟨hk, hk.1.2⟩ : _ ∧ k_ ≠ gb102))) (fun _ hk => hk.2) (.string t104)) (fun _ hk => hk.2) (.slice Ao17 t105.length co17)) (fun _ hk => hk.2) (.int .i64 t108)) (fun _ h_ => h_.1))) (Kd.R_base ho19) hb); have _ := aM (Kd.R_below (rZ (rF3 HO107.out BK102.out)) hb); have _ := aM (Kd.R_lower (Kd.R_newM (M := fun k_ => (w.heap.size ≤ k_)) ho19 (below_size hbZ) (fun k_ h_ => h_)) (below_size hbZ)); have _ := aM (blk_below (g := gb102) (o := .cells #[.string t104, .slice Ao17 t105.length co17, .int .i64 t108, .int .i64 ((rd_T96 l0 x14_1).f1), .int .i64 ((rd_T96 l0 x14_1).f2.f0), .int .i64 ((rd_T96 l0 x14_1).f2.f1), .int .i64 ((rd_T96 l0 x14_1).f2.f2), .int .i64 ((rd_T96 l0 x14_1).f2.f3), .slice A101_8 ((rd_T96 l0 x14_1).f2.f4).length c101_8, .bool ((rd_T96 l0 x14_1).f2.f5)] 96 (0, 0)) bkZ hb); have _ := aM (below_step hbZ hb); clear HO_4 HO107 BK102 HB; rename_i HO_4 HO107 HO111 BK102 HB; clear hb ho19; have hz20 := cellsZ10 BK102.out) | ((with_reducible refine gate_builtin (b := .append) (xs := #[.tmp 26, .tmp 29]) rfl ?_); at_builtin; refine Kd.R_append_rows (Kd.int .i64) (w0 := w) w.heap.size rfl (.tmp 26) (.tmp 29) 33 3 (.int .i64 0) 8 rfl Tryd.underlying33 info3 rfl (by decide) (by omega) v110 y109 ((rd_T96 l0 x14_1).f2.f4) _ _ _ (fun k_ => (w.heap.size ≤ k_)) (fun _ => False) rfl rfl ?aO ?aR (fun _ _ h => h) (fun _ h => h.elim) ?aF ?aB ?aS ?aL ?_; (case aR => repeat (first | exact (Kd.C_below HR101_8.out HB.out) | (with_reducible refine Kd.C_alloc ?_ _) | (with_reducible refine Kd.C_drewN ?_ _) | (with_reducible refine Kd.C_drew ?_))); (case aB => exact hbZ); (case aF => exact (fun k_ hk => (Nat.le_trans (below_size hbZ) hk))); (case aO => exact (by (with_reducible repeat (first | apply Kd.R_alloc | apply Kd.R_drewN | apply Kd.R_drew)); exact Kd.R_mono HO111.out (fun _ hk => hk.1))); (case aS => exact (below_size hbZ)); (case aL => have := LMc9.out; omega); intro v113 w21 ho hb hg hat; rw [← Ny112.out] at ho; have _ := aM (Kd.N_afterv (ok := (fun k_ => (w.heap.size ≤ k_) ∧ some k_ ≠ (.slice Ao17 t105.length co17 : Value).ownBlock ∧ k_ ≠ gb102)) (by (with_reducible repeat (first | apply Kd.N_alloc | apply Kd.N_drewN | apply Kd.N_drew)); exact Kd.N_mono HO_4.out (fun _ hk => ⟨⟨hk.1.1.1, ⟨hk.1.2, hk.1.1.2⟩⟩, hk.2⟩)) hg hat); have _ := aM (blk_grown (g := gb102) bkZ hg (Kd.R_ne HO111.out BK102.out (by decide))); have _ := aM (Kd.R_over' (rZ HO107.out) (Kd.R_typed (rZ HO111.out)) (by decide) hg); have _ := aM hb; have _ := aM ho; clear HO_4 BK102 HO107 HB HO111; rename_i HO_4 BK102 HO107 HB HO114; clear ho hb hg hat; obtain ⟨Ao22, co22, eo22⟩ := Kd.R_slice HO114.out; subst eo22; have hz23 := cellsZ10 BK102.out))
         (try simp only [Act.put, List.setIfInBounds_toArray, List.set_cons_zero, List.set_cons_succ])
         go_cut [7] (fun v7 wc => ∃ (kq : Nat) (x7_9 : Int), v7 = .int .i64 x7_9 ∧ Aside0 (spec_LastTold.j2 kq x4_1 x7_9 l0 (l0.length : Int) x14_1 t104 t105 t108 ((rd_T96 l0 x14_1).f1) ((rd_T96 l0 x14_1).f2.f0) ((rd_T96 l0 x14_1).f2.f1) ((rd_T96 l0 x14_1).f2.f2) ((rd_T96 l0 x14_1).f2.f3) y112 ((rd_T96 l0 x14_1).f2.f5) = some (r1, r2)) ∧ Aside0 (kq ≤ k1) ∧ Aside0 (Kd.N k96 96 wc w.heap.size (fun k_ => (w.heap.size ≤ k_) ∧ some k_ ≠ ((.slice Ao17 t105.length co17) : Value).ownBlock ∧ some k_ ≠ ((.slice Ao22 y112.length co22) : Value).ownBlock ∧ k_ ≠ gb102) u4 x4_1) ∧ Aside0 (Kd.R k123 123 wc w.heap.size (fun k_ => (w.heap.size ≤ k_)) (.slice Ao17 t105.length co17) t105) ∧ Aside0 (Kd.R (Kd.int .i64) 3 wc w.heap.size (fun k_ => (w.heap.size ≤ k_)) (.slice Ao22 y112.length co22) y112) ∧ Aside0 (wc.heap[gb102]? = some (.cells #[.string t104, (.slice Ao17 t105.length co17), .int .i64 t108, .int .i64 ((rd_T96 l0 x14_1).f1), .int .i64 ((rd_T96 l0 x14_1).f2.f0), .int .i64 ((rd_T96 l0 x14_1).f2.f1), .int .i64 ((rd_T96 l0 x14_1).f2.f2), .int .i64 ((rd_T96 l0 x14_1).f2.f3), (.slice Ao22 y112.length co22), .bool ((rd_T96 l0 x14_1).f2.f5)] 96 (0, 0))) ∧ Aside0 (Below w.heap.size w wc))
         case first =>
          have H := HC10.out
          clear HC10
          have H' := aM H
          clear H
          go_wp2
          go_loopg [7] k1 (fun kq v7 w' => ∃ (x7_2 : Int), v7 = .int .i64 x7_2 ∧ Aside0 (spec_LastTold.l1 kq x4_1 x7_2 l0 (l0.length : Int) x14_1 t104 t105 t108 ((rd_T96 l0 x14_1).f1) ((rd_T96 l0 x14_1).f2.f0) ((rd_T96 l0 x14_1).f2.f1) ((rd_T96 l0 x14_1).f2.f2) ((rd_T96 l0 x14_1).f2.f3) y112 ((rd_T96 l0 x14_1).f2.f5) = some (r1, r2)) ∧ Aside0 (kq ≤ k1) ∧ Aside0 (Kd.N k96 96 w' w.heap.size (fun k_ => (w.heap.size ≤ k_) ∧ some k_ ≠ ((.slice Ao17 t105.length co17) : Value).ownBlock ∧ some k_ ≠ ((.slice Ao22 y112.length co22) : Value).ownBlock ∧ k_ ≠ gb102) u4 x4_1) ∧ Aside0 (Kd.R k123 123 w' w.heap.size (fun k_ => (w.heap.size ≤ k_)) (.slice Ao17 t105.length co17) t105) ∧ Aside0 (Kd.R (Kd.int .i64) 3 w' w.heap.size (fun k_ => (w.heap.size ≤ k_)) (.slice Ao22 y112.length co22) y112) ∧ Aside0 (w'.heap[gb102]? = some (.cells #[.string t104, (.slice Ao17 t105.length co17), .int .i64 t108, .int .i64 ((rd_T96 l0 x14_1).f1), .int .i64 ((rd_T96 l0 x14_1).f2.f0), .int .i64 ((rd_T96 l0 x14_1).f2.f1), .int .i64 ((rd_T96 l0 x14_1).f2.f2), .int .i64 ((rd_T96 l0 x14_1).f2.f3), (.slice Ao22 y112.length co22), .bool ((rd_T96 l0 x14_1).f2.f5)] 96 (0, 0))) ∧ Aside0 (Below w.heap.size w w'))
          case atStart => exact ⟨(0), z4458, H', ⟨Nat.le_refl _⟩, ⟨by (with_reducible repeat (first | apply Kd.N_alloc | apply Kd.N_drewN | apply Kd.N_drew)); exact Kd.N_mono (Kd.N_far (p := ⟨gb102, 8, none⟩) (Kd.N_mono HO_4.out (fun k_ hk => (⟨hk, hk.1.2.2⟩ : _ ∧ k_ ≠ gb102))) (fun _ hk => hk.2) (.slice Ao22 y112.length co22)) (fun _ hk => ⟨hk.1.1.1, ⟨hk.1.1.2.1, ⟨hk.1.2, hk.1.1.2.2⟩⟩⟩)⟩, ⟨by (with_reducible repeat (first | apply Kd.R_alloc | apply Kd.R_drewN | apply Kd.R_drew)); exact Kd.R_mono (Kd.R_far (p := ⟨gb102, 8, none⟩) (Kd.R_types HO107.out BK102.out (by decide)) (fun _ hk => hk.2) (.slice Ao22 y112.length co22)) (fun _ hk => hk.1.1)⟩, ⟨by (with_reducible repeat (first | apply Kd.R_alloc | apply Kd.R_drewN | apply Kd.R_drew)); exact Kd.R_mono (Kd.R_far (p := ⟨gb102, 8, none⟩) (Kd.R_types HO114.out BK102.out (by decide)) (fun _ hk => hk.2) (.slice Ao22 y112.length co22)) (fun _ hk => hk.1)⟩, ⟨bkZ⟩, ⟨zcb41⟩⟩
          case round =>
           clear H'
           (try clear c3b0); (try clear c4b0); (try clear c5b0); (try clear c7); (try clear hz12); (try clear hz14); (try clear hz16); (try clear hz20); (try clear hz23); (try clear hx101_0); (try clear hx101_1); (try clear hx101_2); (try clear hx101_3); (try clear hx101_4); (try clear hx101_5); (try clear hx101_6); (try clear hx101_7); (try clear hx101_8); (try clear hx101_9); (try clear p101); (try clear q101)
           obtain ⟨x7_2, rfl, HA, HK2, HO_4, HO_103001, HO_103008, BK102, HB⟩ := hrel
           cases gk with
           | zero => exact absurd HA.out (by simp [spec_LastTold.l1])
           | succ k2 =>
            have H := HA.out
            clear HA
            simp only [spec_LastTold.l1] at H
            by_cases c24 : x7_2 < (x4_1.length : Int)
            · rw [if_pos c24] at H
              have c24b0 := dL c24
              clear c24
              (first | rw [c24b0] | (simp only [i64_w, i32_w]; rw [c24b0]) | skip)
              obtain ⟨c25b0, H⟩ := sE H
              obtain ⟨t116, A26, H⟩ := bS H; try dsimp only at H
              by_cases c27 : t116 < 0
              · rw [if_pos c27] at H
                have c27b0 := dL c27
                clear c27
                have H' := aM H
                clear H
                try go_wp2
                have _ := aM (Kd.N_drew HO_4.out)
                have _ := aM (Kd.R_drew HO_103001.out)
                have _ := aM (Kd.R_drew HO_103008.out)
                have _ := aM (blk_drew BK102.out)
                have _ := aM (below_drew1 HB.out)
                clear HO_4
                clear HO_103001
                clear HO_103008
                clear BK102
                clear HB
                rename_i HO_4 HO_103001 HO_103008 BK102 HB
                obtain ⟨Ao29, co29, eo29⟩ := Kd.N_slice HO_4.out
                (first | subst eo29 | (injection eo29 with f1_ f2_ f3_; have f4_ := f1_.symm; have f5_ := f3_.symm; clear f1_ f2_ f3_; subst f4_; subst f5_))
                have p115 : 0 ≤ (x7_2 : Int) := of_decide_eq_true z1200
                have q115 : x7_2 < (x4_1.length : Int) := of_decide_eq_true z1200
                obtain ⟨ad115, A115_1, c115_1, A115_8, c115_8, e115, hx115_0, hx115_1, hx115_2, hx115_3, hx115_4, hx115_5, hx115_6, hx115_7, hx115_8, hx115_9, hl115_1, hi115_1, hl115_8, hi115_8⟩ := at_T96 (Kd.N_reads' HO_4.out).2.2 x7_2 p115 q115
                cases e115
                obtain ⟨ce115, hce115, hMe115, hcc115⟩ := Kd.N_get HO_4.out z96 x7_2 p115 (by first | exact q115 | exact of_decide_eq_true z1200 | (have e_ := (Kd.N_reads' HO_4.out).1; omega))
                obtain ⟨ua115_1, uc115_1, ua115_8, uc115_8, rfl, ul115_1, ge115_1, ul115_8, ge115_8⟩ := k96_openF hMe115
                have hv115_1 := hcc115 1 _ rfl
                rw [add_field _ _ 1 (by omega)] at hv115_1
                replace hv115_1 := Option.some.inj (hv115_1.symm.trans hx115_1)
                injection hv115_1 with hva_ hvn_ hvc_
                rw [hva_] at ge115_1
                rw [hvc_] at ul115_1
                have HL115_1 := aM (show Kd.V k123 123 _ w.heap.size _ _ ((rd_T96 x4_1 x7_2).f0.f1) from Kd.V_mk ul115_1 ge115_1)
                clear hva_ hvn_ hvc_ ge115_1 ul115_1
                have hv115_8 := hcc115 8 _ rfl
                rw [add_field _ _ 8 (by omega)] at hv115_8
                replace hv115_8 := Option.some.inj (hv115_8.symm.trans hx115_8)
                injection hv115_8 with hva_ hvn_ hvc_
                rw [hva_] at ge115_8
                rw [hvc_] at ul115_8
                have HL115_8 := aM (show Kd.V (Kd.int .i64) 3 _ w.heap.size _ _ ((rd_T96 x4_1 x7_2).f2.f4) from Kd.V_mk ul115_8 ge115_8)
                clear hva_ hvn_ hvc_ ge115_8 ul115_8
                clear hcc115 hce115
                have HR115_1 := aM hi115_1
                have HC115_1 := aM hl115_1
                clear hi115_1 hl115_1
                have HR115_8 := aM hi115_8
                have HC115_8 := aM hl115_8
                clear hi115_8 hl115_8
                replace p115 := eq_true p115
                replace q115 := eq_true q115
                refine sA 15 spec_LastTold.tab12 spec_LastTold.bits12 (fun w' => w'.cell? ⟨gb102, 0, none⟩ = some (.string t104) ∧ w'.cell? ⟨gb102, 1, none⟩ = some (.slice Ao17 t105.length co17) ∧ w'.cell? ⟨gb102, 2, none⟩ = some (.int .i64 t108) ∧ w'.cell? ⟨gb102, 3, none⟩ = some (.int .i64 ((rd_T96 l0 x14_1).f1)) ∧ w'.cell? ⟨gb102, 4, none⟩ = some (.int .i64 ((rd_T96 l0 x14_1).f2.f0)) ∧ w'.cell? ⟨gb102, 5, none⟩ = some (.int .i64 ((rd_T96 l0 x14_1).f2.f1)) ∧ w'.cell? ⟨gb102, 6, none⟩ = some (.int .i64 ((rd_T96 l0 x14_1).f2.f2)) ∧ w'.cell? ⟨gb102, 7, none⟩ = some (.int .i64 ((rd_T96 l0 x14_1).f2.f3)) ∧ w'.cell? ⟨gb102, 8, none⟩ = some (.slice Ao22 y112.length co22) ∧ w'.cell? ⟨gb102, 9, none⟩ = some (.bool ((rd_T96 l0 x14_1).f2.f5)) ∧ w'.cell? (ad115.add ((x7_2).toNat * 10)) = some (.string ((rd_T96 x4_1 x7_2).f0.f0)) ∧ w'.cell? ⟨(ad115.add ((x7_2).toNat * 10)).block, (ad115.add ((x7_2).toNat * 10)).off + 1, none⟩ = some (.slice A115_1 ((rd_T96 x4_1 x7_2).f0.f1).length c115_1) ∧ w'.cell? ⟨(ad115.add ((x7_2).toNat * 10)).block, (ad115.add ((x7_2).toNat * 10)).off + 2, none⟩ = some (.int .i64 ((rd_T96 x4_1 x7_2).f0.f2)) ∧ w'.cell? ⟨(ad115.add ((x7_2).toNat * 10)).block, (ad115.add ((x7_2).toNat * 10)).off + 3, none⟩ = some (.int .i64 ((rd_T96 x4_1 x7_2).f1)) ∧ w'.cell? ⟨(ad115.add ((x7_2).toNat * 10)).block, (ad115.add ((x7_2).toNat * 10)).off + 4, none⟩ = some (.int .i64 ((rd_T96 x4_1 x7_2).f2.f0)) ∧ w'.cell? ⟨(ad115.add ((x7_2).toNat * 10)).block, (ad115.add ((x7_2).toNat * 10)).off + 5, none⟩ = some (.int .i64 ((rd_T96 x4_1 x7_2).f2.f1)) ∧ w'.cell? ⟨(ad115.add ((x7_2).toNat * 10)).block, (ad115.add ((x7_2).toNat * 10)).off + 6, none⟩ = some (.int .i64 ((rd_T96 x4_1 x7_2).f2.f2)) ∧ w'.cell? ⟨(ad115.add ((x7_2).toNat * 10)).block, (ad115.add ((x7_2).toNat * 10)).off + 7, none⟩ = some (.int .i64 ((rd_T96 x4_1 x7_2).f2.f3)) ∧ w'.cell? ⟨(ad115.add ((x7_2).toNat * 10)).block, (ad115.add ((x7_2).toNat * 10)).off + 8, none⟩ = some (.slice A115_8 ((rd_T96 x4_1 x7_2).f2.f4).length c115_8) ∧ w'.cell? ⟨(ad115.add ((x7_2).toNat * 10)).block, (ad115.add ((x7_2).toNat * 10)).off + 9, none⟩ = some (.bool ((rd_T96 x4_1 x7_2).f2.f5))) [] (fun hHeld HT_ HW_ => ?_)
                generalize wr.drew = w28 at HO_4 HO_103001 HO_103008 BK102 HB HL115_1 HL115_8 HR115_1 HR115_8 hx115_0 hx115_1 hx115_2 hx115_3 hx115_4 hx115_5 hx115_6 hx115_7 hx115_8 hx115_9 hHeld ⊢
                refine pA 0 33 HT_ ?_; refine pA 1 34 HT_ ?_; refine pA 2 35 HT_ ?_; refine pA 3 36 HT_ ?_; refine pA 4 37 HT_ ?_; refine pA 5 38 HT_ ?_; refine pA 6 39 HT_ ?_; refine pA 7 40 HT_ ?_; refine pA 8 41 HT_ ?_; refine pA 10 43 HT_ ?_; refine tA 9 42 HT_ HW_ hHeld ?_; refine tA 11 44 HT_ HW_ hHeld ?_; refine oA 12 45 HT_ (fun K hK => ?_)
                refine goes_ Tryd.func64 (by kernel_rfl) rfl #[.agg #[.string ((rd_T96 x4_1 x7_2).f0.f0), .slice A115_1 ((rd_T96 x4_1 x7_2).f0.f1).length c115_1, .int .i64 ((rd_T96 x4_1 x7_2).f0.f2)], .agg #[.string t104, .slice Ao17 t105.length co17, .int .i64 t108]] (by rfl) rfl rfl zee81 ?_
                with_reducible refine (spec_l1Compare.calls k2 ((rd_T96 x4_1 x7_2).f0.f0) _ _ ((rd_T96 x4_1 x7_2).f0.f1) ((rd_T96 x4_1 x7_2).f0.f2) t104 _ _ t105 t108 t116 _ ?side1 ?side2 ?side3 ?side4 A26.out).mono ?_
                (case side1 => exact (cZ (by repeat (first | (with_reducible exact HR115_1.out) | (with_reducible refine Kd.C_alloc ?_ _) | (with_reducible refine Kd.C_drewN ?_ _) | (with_reducible refine Kd.C_drew ?_) | exact HR115_1.out))))
                (case side2 => exact HC115_1.out)
                (case side3 => exact (by repeat (first | exact (Kd.R_reads' HO_103001.out).2.2 | (with_reducible refine Kd.C_alloc ?_ _) | (with_reducible refine Kd.C_drewN ?_ _) | (with_reducible refine Kd.C_drew ?_))))
                (case side4 => exact (Kd.R_reads' HO_103001.out).2.1)
                rintro e w30 ⟨rfl, hb⟩
                have HS10_ := (hb.cell (World.block_lt_of_cell? _ _ (hHeld.2.2.2.2.2.2.2.2.2.2.1))).trans (hHeld.2.2.2.2.2.2.2.2.2.2.1)
                have HS11_ := (hb.cell (World.block_lt_of_cell? _ _ (hHeld.2.2.2.2.2.2.2.2.2.2.2.1))).trans (hHeld.2.2.2.2.2.2.2.2.2.2.2.1)
                have HS12_ := (hb.cell (World.block_lt_of_cell? _ _ (hHeld.2.2.2.2.2.2.2.2.2.2.2.2.1))).trans (hHeld.2.2.2.2.2.2.2.2.2.2.2.2.1)
                have HS13_ := (hb.cell (World.block_lt_of_cell? _ _ (hHeld.2.2.2.2.2.2.2.2.2.2.2.2.2.1))).trans (hHeld.2.2.2.2.2.2.2.2.2.2.2.2.2.1)
                have HS14_ := (hb.cell (World.block_lt_of_cell? _ _ (hHeld.2.2.2.2.2.2.2.2.2.2.2.2.2.2.1))).trans (hHeld.2.2.2.2.2.2.2.2.2.2.2.2.2.2.1)
                have HS15_ := (hb.cell (World.block_lt_of_cell? _ _ (hHeld.2.2.2.2.2.2.2.2.2.2.2.2.2.2.2.1))).trans (hHeld.2.2.2.2.2.2.2.2.2.2.2.2.2.2.2.1)
                have HS16_ := (hb.cell (World.block_lt_of_cell? _ _ (hHeld.2.2.2.2.2.2.2.2.2.2.2.2.2.2.2.2.1))).trans (hHeld.2.2.2.2.2.2.2.2.2.2.2.2.2.2.2.2.1)
                have HS17_ := (hb.cell (World.block_lt_of_cell? _ _ (hHeld.2.2.2.2.2.2.2.2.2.2.2.2.2.2.2.2.2.1))).trans (hHeld.2.2.2.2.2.2.2.2.2.2.2.2.2.2.2.2.2.1)
                have HS18_ := (hb.cell (World.block_lt_of_cell? _ _ (hHeld.2.2.2.2.2.2.2.2.2.2.2.2.2.2.2.2.2.2.1))).trans (hHeld.2.2.2.2.2.2.2.2.2.2.2.2.2.2.2.2.2.2.1)
                have HS19_ := (hb.cell (World.block_lt_of_cell? _ _ (hHeld.2.2.2.2.2.2.2.2.2.2.2.2.2.2.2.2.2.2.2))).trans (hHeld.2.2.2.2.2.2.2.2.2.2.2.2.2.2.2.2.2.2.2)
                refine ⟨_, rfl, ?_⟩
                have _ := aM (Kd.N_below (by (with_reducible repeat (first | apply Kd.N_alloc | apply Kd.N_drewN | apply Kd.N_drew)); exact HO_4.out) hb)
                have _ := aM (Kd.R_below (rZ HO_103001.out) hb)
                have _ := aM (Kd.R_below (rZ HO_103008.out) hb)
                have _ := aM (Kd.V_below (vZ HL115_1.out) hb)
                have _ := aM (Kd.V_below (vZ HL115_8.out) hb)
                have _ := bB gb102 hb
                have _ := aM (Kd.C_below (by repeat (first | (with_reducible exact HR115_1.out) | (with_reducible refine Kd.C_alloc ?_ _) | (with_reducible refine Kd.C_drewN ?_ _) | (with_reducible refine Kd.C_drew ?_) | exact HR115_1.out)) hb)
                have _ := aM (Kd.C_below (by repeat (first | (with_reducible exact HR115_8.out) | (with_reducible refine Kd.C_alloc ?_ _) | (with_reducible refine Kd.C_drewN ?_ _) | (with_reducible refine Kd.C_drew ?_) | exact HR115_8.out)) hb)
                have _ := aM (below_step hbZ hb)
                clear HO_4
                clear HO_103001
                clear HO_103008
                clear HL115_1
                clear HL115_8
                clear BK102
                clear HR115_1
                clear HR115_8
                clear HB
                rename_i HO_4 HO_103001 HO_103008 HL115_1 HL115_8 BK102 HR115_1 HR115_8 HB
                (try clear hb); (try clear hk)
                refine hK.out _ _ ⟨(blk_cell BK102.out 0).trans rfl, (blk_cell BK102.out 1).trans rfl, (blk_cell BK102.out 2).trans rfl, (blk_cell BK102.out 3).trans rfl, (blk_cell BK102.out 4).trans rfl, (blk_cell BK102.out 5).trans rfl, (blk_cell BK102.out 6).trans rfl, (blk_cell BK102.out 7).trans rfl, (blk_cell BK102.out 8).trans rfl, (blk_cell BK102.out 9).trans rfl, HS10_, HS11_, HS12_, HS13_, HS14_, HS15_, HS16_, HS17_, HS18_, HS19_⟩ (fun hHeld => ?_)
                clear hK K
                refine nA 45 ?_; refine pA 13 46 HT_ ?_; refine pA 14 47 HT_ ?_
                refine done_ (done_of HT_.out (by kernel_rfl)) ?_
                try go_wp2
                go_roundg k2
                case measure => have := HK1.out; have := HK2.out; omega
                case rel => exact ⟨(wrap64 (x7_2 + 1)), z4458, H', ⟨zc2be⟩, ⟨by (with_reducible repeat (first | apply Kd.N_alloc | apply Kd.N_drewN | apply Kd.N_drew)); exact HO_4.out⟩, ⟨rZ HO_103001.out⟩, ⟨rZ HO_103008.out⟩, ⟨bkZ⟩, ⟨zcb41⟩⟩
              · rw [if_neg c27] at H
                have c27b0 := nL c27
                clear c27
                have H' := aM H
                clear H
                try go_wp2
                have _ := aM (Kd.N_drew HO_4.out)
                have _ := aM (Kd.R_drew HO_103001.out)
                have _ := aM (Kd.R_drew HO_103008.out)
                have _ := aM (blk_drew BK102.out)
                have _ := aM (below_drew1 HB.out)
                clear HO_4
                clear HO_103001
                clear HO_103008
                clear BK102
                clear HB
                rename_i HO_4 HO_103001 HO_103008 BK102 HB
                obtain ⟨Ao32, co32, eo32⟩ := Kd.N_slice HO_4.out
                (first | subst eo32 | (injection eo32 with f1_ f2_ f3_; have f4_ := f1_.symm; have f5_ := f3_.symm; clear f1_ f2_ f3_; subst f4_; subst f5_))
                have p115 : 0 ≤ (x7_2 : Int) := of_decide_eq_true z1200
                have q115 : x7_2 < (x4_1.length : Int) := of_decide_eq_true z1200
                obtain ⟨ad115, A115_1, c115_1, A115_8, c115_8, e115, hx115_0, hx115_1, hx115_2, hx115_3, hx115_4, hx115_5, hx115_6, hx115_7, hx115_8, hx115_9, hl115_1, hi115_1, hl115_8, hi115_8⟩ := at_T96 (Kd.N_reads' HO_4.out).2.2 x7_2 p115 q115
                cases e115
                obtain ⟨ce115, hce115, hMe115, hcc115⟩ := Kd.N_get HO_4.out z96 x7_2 p115 (by first | exact q115 | exact of_decide_eq_true z1200 | (have e_ := (Kd.N_reads' HO_4.out).1; omega))
                obtain ⟨ua115_1, uc115_1, ua115_8, uc115_8, rfl, ul115_1, ge115_1, ul115_8, ge115_8⟩ := k96_openF hMe115
                have hv115_1 := hcc115 1 _ rfl
                rw [add_field _ _ 1 (by omega)] at hv115_1
                replace hv115_1 := Option.some.inj (hv115_1.symm.trans hx115_1)
                injection hv115_1 with hva_ hvn_ hvc_
                rw [hva_] at ge115_1
                rw [hvc_] at ul115_1
                have HL115_1 := aM (show Kd.V k123 123 _ w.heap.size _ _ ((rd_T96 x4_1 x7_2).f0.f1) from Kd.V_mk ul115_1 ge115_1)
                clear hva_ hvn_ hvc_ ge115_1 ul115_1
                have hv115_8 := hcc115 8 _ rfl
                rw [add_field _ _ 8 (by omega)] at hv115_8
                replace hv115_8 := Option.some.inj (hv115_8.symm.trans hx115_8)
                injection hv115_8 with hva_ hvn_ hvc_
                rw [hva_] at ge115_8
                rw [hvc_] at ul115_8
                have HL115_8 := aM (show Kd.V (Kd.int .i64) 3 _ w.heap.size _ _ ((rd_T96 x4_1 x7_2).f2.f4) from Kd.V_mk ul115_8 ge115_8)
                clear hva_ hvn_ hvc_ ge115_8 ul115_8
                clear hcc115 hce115
                have HR115_1 := aM hi115_1
                have HC115_1 := aM hl115_1
                clear hi115_1 hl115_1
                have HR115_8 := aM hi115_8
                have HC115_8 := aM hl115_8
                clear hi115_8 hl115_8
                replace p115 := eq_true p115
                replace q115 := eq_true q115
                refine sA 15 spec_LastTold.tab12 spec_LastTold.bits12 (fun w' => w'.cell? ⟨gb102, 0, none⟩ = some (.string t104) ∧ w'.cell? ⟨gb102, 1, none⟩ = some (.slice Ao17 t105.length co17) ∧ w'.cell? ⟨gb102, 2, none⟩ = some (.int .i64 t108) ∧ w'.cell? ⟨gb102, 3, none⟩ = some (.int .i64 ((rd_T96 l0 x14_1).f1)) ∧ w'.cell? ⟨gb102, 4, none⟩ = some (.int .i64 ((rd_T96 l0 x14_1).f2.f0)) ∧ w'.cell? ⟨gb102, 5, none⟩ = some (.int .i64 ((rd_T96 l0 x14_1).f2.f1)) ∧ w'.cell? ⟨gb102, 6, none⟩ = some (.int .i64 ((rd_T96 l0 x14_1).f2.f2)) ∧ w'.cell? ⟨gb102, 7, none⟩ = some (.int .i64 ((rd_T96 l0 x14_1).f2.f3)) ∧ w'.cell? ⟨gb102, 8, none⟩ = some (.slice Ao22 y112.length co22) ∧ w'.cell? ⟨gb102, 9, none⟩ = some (.bool ((rd_T96 l0 x14_1).f2.f5)) ∧ w'.cell? (ad115.add ((x7_2).toNat * 10)) = some (.string ((rd_T96 x4_1 x7_2).f0.f0)) ∧ w'.cell? ⟨(ad115.add ((x7_2).toNat * 10)).block, (ad115.add ((x7_2).toNat * 10)).off + 1, none⟩ = some (.slice A115_1 ((rd_T96 x4_1 x7_2).f0.f1).length c115_1) ∧ w'.cell? ⟨(ad115.add ((x7_2).toNat * 10)).block, (ad115.add ((x7_2).toNat * 10)).off + 2, none⟩ = some (.int .i64 ((rd_T96 x4_1 x7_2).f0.f2)) ∧ w'.cell? ⟨(ad115.add ((x7_2).toNat * 10)).block, (ad115.add ((x7_2).toNat * 10)).off + 3, none⟩ = some (.int .i64 ((rd_T96 x4_1 x7_2).f1)) ∧ w'.cell? ⟨(ad115.add ((x7_2).toNat * 10)).block, (ad115.add ((x7_2).toNat * 10)).off + 4, none⟩ = some (.int .i64 ((rd_T96 x4_1 x7_2).f2.f0)) ∧ w'.cell? ⟨(ad115.add ((x7_2).toNat * 10)).block, (ad115.add ((x7_2).toNat * 10)).off + 5, none⟩ = some (.int .i64 ((rd_T96 x4_1 x7_2).f2.f1)) ∧ w'.cell? ⟨(ad115.add ((x7_2).toNat * 10)).block, (ad115.add ((x7_2).toNat * 10)).off + 6, none⟩ = some (.int .i64 ((rd_T96 x4_1 x7_2).f2.f2)) ∧ w'.cell? ⟨(ad115.add ((x7_2).toNat * 10)).block, (ad115.add ((x7_2).toNat * 10)).off + 7, none⟩ = some (.int .i64 ((rd_T96 x4_1 x7_2).f2.f3)) ∧ w'.cell? ⟨(ad115.add ((x7_2).toNat * 10)).block, (ad115.add ((x7_2).toNat * 10)).off + 8, none⟩ = some (.slice A115_8 ((rd_T96 x4_1 x7_2).f2.f4).length c115_8) ∧ w'.cell? ⟨(ad115.add ((x7_2).toNat * 10)).block, (ad115.add ((x7_2).toNat * 10)).off + 9, none⟩ = some (.bool ((rd_T96 x4_1 x7_2).f2.f5))) [] (fun hHeld HT_ HW_ => ?_)
                generalize wr.drew = w31 at HO_4 HO_103001 HO_103008 BK102 HB HL115_1 HL115_8 HR115_1 HR115_8 hx115_0 hx115_1 hx115_2 hx115_3 hx115_4 hx115_5 hx115_6 hx115_7 hx115_8 hx115_9 hHeld ⊢
                refine pA 0 33 HT_ ?_; refine pA 1 34 HT_ ?_; refine pA 2 35 HT_ ?_; refine pA 3 36 HT_ ?_; refine pA 4 37 HT_ ?_; refine pA 5 38 HT_ ?_; refine pA 6 39 HT_ ?_; refine pA 7 40 HT_ ?_; refine pA 8 41 HT_ ?_; refine pA 10 43 HT_ ?_; refine tA 9 42 HT_ HW_ hHeld ?_; refine tA 11 44 HT_ HW_ hHeld ?_; refine oA 12 45 HT_ (fun K hK => ?_)
                refine goes_ Tryd.func64 (by kernel_rfl) rfl #[.agg #[.string ((rd_T96 x4_1 x7_2).f0.f0), .slice A115_1 ((rd_T96 x4_1 x7_2).f0.f1).length c115_1, .int .i64 ((rd_T96 x4_1 x7_2).f0.f2)], .agg #[.string t104, .slice Ao17 t105.length co17, .int .i64 t108]] (by rfl) rfl rfl zee81 ?_
                with_reducible refine (spec_l1Compare.calls k2 ((rd_T96 x4_1 x7_2).f0.f0) _ _ ((rd_T96 x4_1 x7_2).f0.f1) ((rd_T96 x4_1 x7_2).f0.f2) t104 _ _ t105 t108 t116 _ ?side1 ?side2 ?side3 ?side4 A26.out).mono ?_
                (case side1 => exact (cZ (by repeat (first | (with_reducible exact HR115_1.out) | (with_reducible refine Kd.C_alloc ?_ _) | (with_reducible refine Kd.C_drewN ?_ _) | (with_reducible refine Kd.C_drew ?_) | exact HR115_1.out))))
                (case side2 => exact HC115_1.out)
                (case side3 => exact (by repeat (first | exact (Kd.R_reads' HO_103001.out).2.2 | (with_reducible refine Kd.C_alloc ?_ _) | (with_reducible refine Kd.C_drewN ?_ _) | (with_reducible refine Kd.C_drew ?_))))
                (case side4 => exact (Kd.R_reads' HO_103001.out).2.1)
                rintro e w33 ⟨rfl, hb⟩
                have HS10_ := (hb.cell (World.block_lt_of_cell? _ _ (hHeld.2.2.2.2.2.2.2.2.2.2.1))).trans (hHeld.2.2.2.2.2.2.2.2.2.2.1)
                have HS11_ := (hb.cell (World.block_lt_of_cell? _ _ (hHeld.2.2.2.2.2.2.2.2.2.2.2.1))).trans (hHeld.2.2.2.2.2.2.2.2.2.2.2.1)
                have HS12_ := (hb.cell (World.block_lt_of_cell? _ _ (hHeld.2.2.2.2.2.2.2.2.2.2.2.2.1))).trans (hHeld.2.2.2.2.2.2.2.2.2.2.2.2.1)
                have HS13_ := (hb.cell (World.block_lt_of_cell? _ _ (hHeld.2.2.2.2.2.2.2.2.2.2.2.2.2.1))).trans (hHeld.2.2.2.2.2.2.2.2.2.2.2.2.2.1)
                have HS14_ := (hb.cell (World.block_lt_of_cell? _ _ (hHeld.2.2.2.2.2.2.2.2.2.2.2.2.2.2.1))).trans (hHeld.2.2.2.2.2.2.2.2.2.2.2.2.2.2.1)
                have HS15_ := (hb.cell (World.block_lt_of_cell? _ _ (hHeld.2.2.2.2.2.2.2.2.2.2.2.2.2.2.2.1))).trans (hHeld.2.2.2.2.2.2.2.2.2.2.2.2.2.2.2.1)
                have HS16_ := (hb.cell (World.block_lt_of_cell? _ _ (hHeld.2.2.2.2.2.2.2.2.2.2.2.2.2.2.2.2.1))).trans (hHeld.2.2.2.2.2.2.2.2.2.2.2.2.2.2.2.2.1)
                have HS17_ := (hb.cell (World.block_lt_of_cell? _ _ (hHeld.2.2.2.2.2.2.2.2.2.2.2.2.2.2.2.2.2.1))).trans (hHeld.2.2.2.2.2.2.2.2.2.2.2.2.2.2.2.2.2.1)
                have HS18_ := (hb.cell (World.block_lt_of_cell? _ _ (hHeld.2.2.2.2.2.2.2.2.2.2.2.2.2.2.2.2.2.2.1))).trans (hHeld.2.2.2.2.2.2.2.2.2.2.2.2.2.2.2.2.2.2.1)
                have HS19_ := (hb.cell (World.block_lt_of_cell? _ _ (hHeld.2.2.2.2.2.2.2.2.2.2.2.2.2.2.2.2.2.2.2))).trans (hHeld.2.2.2.2.2.2.2.2.2.2.2.2.2.2.2.2.2.2.2)
                refine ⟨_, rfl, ?_⟩
                have _ := aM (Kd.N_below (by (with_reducible repeat (first | apply Kd.N_alloc | apply Kd.N_drewN | apply Kd.N_drew)); exact HO_4.out) hb)
                have _ := aM (Kd.R_below (rZ HO_103001.out) hb)
                have _ := aM (Kd.R_below (rZ HO_103008.out) hb)
                have _ := aM (Kd.V_below (vZ HL115_1.out) hb)
                have _ := aM (Kd.V_below (vZ HL115_8.out) hb)
                have _ := bB gb102 hb
                have _ := aM (Kd.C_below (by repeat (first | (with_reducible exact HR115_1.out) | (with_reducible refine Kd.C_alloc ?_ _) | (with_reducible refine Kd.C_drewN ?_ _) | (with_reducible refine Kd.C_drew ?_) | exact HR115_1.out)) hb)
                have _ := aM (Kd.C_below (by repeat (first | (with_reducible exact HR115_8.out) | (with_reducible refine Kd.C_alloc ?_ _) | (with_reducible refine Kd.C_drewN ?_ _) | (with_reducible refine Kd.C_drew ?_) | exact HR115_8.out)) hb)
                have _ := aM (below_step hbZ hb)
                clear HO_4
                clear HO_103001
                clear HO_103008
                clear HL115_1
                clear HL115_8
                clear BK102
                clear HR115_1
                clear HR115_8
                clear HB
                rename_i HO_4 HO_103001 HO_103008 HL115_1 HL115_8 BK102 HR115_1 HR115_8 HB
                (try clear hb); (try clear hk)
                refine hK.out _ _ ⟨(blk_cell BK102.out 0).trans rfl, (blk_cell BK102.out 1).trans rfl, (blk_cell BK102.out 2).trans rfl, (blk_cell BK102.out 3).trans rfl, (blk_cell BK102.out 4).trans rfl, (blk_cell BK102.out 5).trans rfl, (blk_cell BK102.out 6).trans rfl, (blk_cell BK102.out 7).trans rfl, (blk_cell BK102.out 8).trans rfl, (blk_cell BK102.out 9).trans rfl, HS10_, HS11_, HS12_, HS13_, HS14_, HS15_, HS16_, HS17_, HS18_, HS19_⟩ (fun hHeld => ?_)
                clear hK K
                refine nA 45 ?_; refine pA 13 46 HT_ ?_; refine pA 14 47 HT_ ?_
                refine done_ (done_of HT_.out (by kernel_rfl)) ?_
                try go_wp2
                go_meet
                case rel => exact ⟨_, (x7_2), z4458, H', ⟨z715c⟩, ⟨by (with_reducible repeat (first | apply Kd.N_alloc | apply Kd.N_drewN | apply Kd.N_drew)); exact HO_4.out⟩, ⟨rZ HO_103001.out⟩, ⟨rZ HO_103008.out⟩, ⟨bkZ⟩, ⟨zcb41⟩⟩
            · rw [if_neg c24] at H
              have c24b0 := nL c24
              clear c24
              (first | rw [c24b0] | (simp only [i64_w, i32_w]; rw [c24b0]) | skip)
              have H' := aM H
              clear H
              try go_wp2
              have _ := aM (Kd.N_drew HO_4.out)
              have _ := aM (Kd.R_drew HO_103001.out)
              have _ := aM (Kd.R_drew HO_103008.out)
              have _ := aM (blk_drew BK102.out)
              have _ := aM (below_drew1 HB.out)
              clear HO_4
              clear HO_103001
              clear HO_103008
              clear BK102
              clear HB
              rename_i HO_4 HO_103001 HO_103008 BK102 HB
              obtain ⟨Ao35, co35, eo35⟩ := Kd.N_slice HO_4.out
              (first | subst eo35 | (injection eo35 with f1_ f2_ f3_; have f4_ := f1_.symm; have f5_ := f3_.symm; clear f1_ f2_ f3_; subst f4_; subst f5_))
              refine sA 15 spec_LastTold.tab12 spec_LastTold.bits12 (fun w' => True) [] (fun hHeld HT_ HW_ => ?_)
              generalize wr.drew = w34 at HO_4 HO_103001 HO_103008 BK102 HB hHeld ⊢
              refine pA 0 33 HT_ ?_; refine pA 1 34 HT_ ?_; refine pA 2 35 HT_ ?_; refine pA 3 36 HT_ ?_; refine pA 4 37 HT_ ?_; refine uA 5 38 HT_ ?_; refine uA 6 39 HT_ ?_; refine uA 7 40 HT_ ?_; refine uA 8 41 HT_ ?_; refine uA 9 42 HT_ ?_; refine uA 10 43 HT_ ?_; refine uA 11 44 HT_ ?_; refine uA 12 45 HT_ ?_; refine uA 13 46 HT_ ?_; refine pA 14 47 HT_ ?_
              refine done_ (done_of HT_.out (by kernel_rfl)) ?_
              try go_wp2
              go_meet
              case rel => exact ⟨_, (x7_2), z4458, H', ⟨z715c⟩, ⟨by (with_reducible repeat (first | apply Kd.N_alloc | apply Kd.N_drewN | apply Kd.N_drew)); exact HO_4.out⟩, ⟨rZ HO_103001.out⟩, ⟨rZ HO_103008.out⟩, ⟨bkZ⟩, ⟨zcb41⟩⟩
         case rest =>
          clear HC10
          obtain ⟨kq, x7_9, rfl, HA, HJ9, HO_4, HO_103001, HO_103008, BK102, HB⟩ := hcut
          cases kq with
          | zero => exact absurd HA.out (by simp [spec_LastTold.j2])
          | succ kj9 =>
           have H := HA.out
           clear HA
           simp only [spec_LastTold.j2] at H
           have HC36 := aM H
           clear H
           go_upto_region 14 with (fail)
           go_cut [64] (fun v64 wc => ∃ (kq : Nat) (x64_35 : Bool), v64 = .bool x64_35 ∧ Aside0 (spec_LastTold.j3 kq x4_1 x7_9 l0 (l0.length : Int) x14_1 x64_35 t104 t105 t108 ((rd_T96 l0 x14_1).f1) ((rd_T96 l0 x14_1).f2.f0) ((rd_T96 l0 x14_1).f2.f1) ((rd_T96 l0 x14_1).f2.f2) ((rd_T96 l0 x14_1).f2.f3) y112 ((rd_T96 l0 x14_1).f2.f5) = some (r1, r2)) ∧ Aside0 (kq ≤ kj9) ∧ Aside0 (Kd.N k96 96 wc w.heap.size (fun k_ => (w.heap.size ≤ k_) ∧ some k_ ≠ ((.slice Ao17 t105.length co17) : Value).ownBlock ∧ some k_ ≠ ((.slice Ao22 y112.length co22) : Value).ownBlock ∧ k_ ≠ gb102) u4 x4_1) ∧ Aside0 (Kd.R k123 123 wc w.heap.size (fun k_ => (w.heap.size ≤ k_)) (.slice Ao17 t105.length co17) t105) ∧ Aside0 (Kd.R (Kd.int .i64) 3 wc w.heap.size (fun k_ => (w.heap.size ≤ k_)) (.slice Ao22 y112.length co22) y112) ∧ Aside0 (wc.heap[gb102]? = some (.cells #[.string t104, (.slice Ao17 t105.length co17), .int .i64 t108, .int .i64 ((rd_T96 l0 x14_1).f1), .int .i64 ((rd_T96 l0 x14_1).f2.f0), .int .i64 ((rd_T96 l0 x14_1).f2.f1), .int .i64 ((rd_T96 l0 x14_1).f2.f2), .int .i64 ((rd_T96 l0 x14_1).f2.f3), (.slice Ao22 y112.length co22), .bool ((rd_T96 l0 x14_1).f2.f5)] 96 (0, 0))) ∧ Aside0 (Below w.heap.size w wc))
           case first =>
            have H := HC36.out
            clear HC36
            by_cases c37 : x7_9 < (x4_1.length : Int)
            · rw [if_pos c37] at H
              have c37b0 := dL c37
              clear c37
              (first | rw [c37b0] | (simp only [i64_w, i32_w]; rw [c37b0]) | skip)
              obtain ⟨c38b0, H⟩ := sE H
              obtain ⟨t118, A39, H⟩ := bS H; try dsimp only at H
              have H' := aM H
              clear H
              try go_wp2
              have _ := aM (Kd.N_drew HO_4.out)
              have _ := aM (Kd.R_drew HO_103001.out)
              have _ := aM (Kd.R_drew HO_103008.out)
              have _ := aM (blk_drew BK102.out)
              have _ := aM (below_drew1 HB.out)
              clear HO_4
              clear HO_103001
              clear HO_103008
              clear BK102
              clear HB
              rename_i HO_4 HO_103001 HO_103008 BK102 HB
              obtain ⟨Ao41, co41, eo41⟩ := Kd.N_slice HO_4.out
              (first | subst eo41 | (injection eo41 with f1_ f2_ f3_; have f4_ := f1_.symm; have f5_ := f3_.symm; clear f1_ f2_ f3_; subst f4_; subst f5_))
              have p117 : 0 ≤ (x7_9 : Int) := of_decide_eq_true z1200
              have q117 : x7_9 < (x4_1.length : Int) := of_decide_eq_true z1200
              obtain ⟨ad117, A117_1, c117_1, A117_8, c117_8, e117, hx117_0, hx117_1, hx117_2, hx117_3, hx117_4, hx117_5, hx117_6, hx117_7, hx117_8, hx117_9, hl117_1, hi117_1, hl117_8, hi117_8⟩ := at_T96 (Kd.N_reads' HO_4.out).2.2 x7_9 p117 q117
              cases e117
              obtain ⟨ce117, hce117, hMe117, hcc117⟩ := Kd.N_get HO_4.out z96 x7_9 p117 (by first | exact q117 | exact of_decide_eq_true z1200 | (have e_ := (Kd.N_reads' HO_4.out).1; omega))
              obtain ⟨ua117_1, uc117_1, ua117_8, uc117_8, rfl, ul117_1, ge117_1, ul117_8, ge117_8⟩ := k96_openF hMe117
              have hv117_1 := hcc117 1 _ rfl
              rw [add_field _ _ 1 (by omega)] at hv117_1
              replace hv117_1 := Option.some.inj (hv117_1.symm.trans hx117_1)
              injection hv117_1 with hva_ hvn_ hvc_
              rw [hva_] at ge117_1
              rw [hvc_] at ul117_1
              have HL117_1 := aM (show Kd.V k123 123 _ w.heap.size _ _ ((rd_T96 x4_1 x7_9).f0.f1) from Kd.V_mk ul117_1 ge117_1)
              clear hva_ hvn_ hvc_ ge117_1 ul117_1
              have hv117_8 := hcc117 8 _ rfl
              rw [add_field _ _ 8 (by omega)] at hv117_8
              replace hv117_8 := Option.some.inj (hv117_8.symm.trans hx117_8)
              injection hv117_8 with hva_ hvn_ hvc_
              rw [hva_] at ge117_8
              rw [hvc_] at ul117_8
              have HL117_8 := aM (show Kd.V (Kd.int .i64) 3 _ w.heap.size _ _ ((rd_T96 x4_1 x7_9).f2.f4) from Kd.V_mk ul117_8 ge117_8)
              clear hva_ hvn_ hvc_ ge117_8 ul117_8
              clear hcc117 hce117
              have HR117_1 := aM hi117_1
              have HC117_1 := aM hl117_1
              clear hi117_1 hl117_1
              have HR117_8 := aM hi117_8
              have HC117_8 := aM hl117_8
              clear hi117_8 hl117_8
              replace p117 := eq_true p117
              replace q117 := eq_true q117
              refine sA 15 spec_LastTold.tab14 spec_LastTold.bits14 (fun w' => w'.cell? ⟨gb102, 0, none⟩ = some (.string t104) ∧ w'.cell? ⟨gb102, 1, none⟩ = some (.slice Ao17 t105.length co17) ∧ w'.cell? ⟨gb102, 2, none⟩ = some (.int .i64 t108) ∧ w'.cell? ⟨gb102, 3, none⟩ = some (.int .i64 ((rd_T96 l0 x14_1).f1)) ∧ w'.cell? ⟨gb102, 4, none⟩ = some (.int .i64 ((rd_T96 l0 x14_1).f2.f0)) ∧ w'.cell? ⟨gb102, 5, none⟩ = some (.int .i64 ((rd_T96 l0 x14_1).f2.f1)) ∧ w'.cell? ⟨gb102, 6, none⟩ = some (.int .i64 ((rd_T96 l0 x14_1).f2.f2)) ∧ w'.cell? ⟨gb102, 7, none⟩ = some (.int .i64 ((rd_T96 l0 x14_1).f2.f3)) ∧ w'.cell? ⟨gb102, 8, none⟩ = some (.slice Ao22 y112.length co22) ∧ w'.cell? ⟨gb102, 9, none⟩ = some (.bool ((rd_T96 l0 x14_1).f2.f5)) ∧ w'.cell? (ad117.add ((x7_9).toNat * 10)) = some (.string ((rd_T96 x4_1 x7_9).f0.f0)) ∧ w'.cell? ⟨(ad117.add ((x7_9).toNat * 10)).block, (ad117.add ((x7_9).toNat * 10)).off + 1, none⟩ = some (.slice A117_1 ((rd_T96 x4_1 x7_9).f0.f1).length c117_1) ∧ w'.cell? ⟨(ad117.add ((x7_9).toNat * 10)).block, (ad117.add ((x7_9).toNat * 10)).off + 2, none⟩ = some (.int .i64 ((rd_T96 x4_1 x7_9).f0.f2)) ∧ w'.cell? ⟨(ad117.add ((x7_9).toNat * 10)).block, (ad117.add ((x7_9).toNat * 10)).off + 3, none⟩ = some (.int .i64 ((rd_T96 x4_1 x7_9).f1)) ∧ w'.cell? ⟨(ad117.add ((x7_9).toNat * 10)).block, (ad117.add ((x7_9).toNat * 10)).off + 4, none⟩ = some (.int .i64 ((rd_T96 x4_1 x7_9).f2.f0)) ∧ w'.cell? ⟨(ad117.add ((x7_9).toNat * 10)).block, (ad117.add ((x7_9).toNat * 10)).off + 5, none⟩ = some (.int .i64 ((rd_T96 x4_1 x7_9).f2.f1)) ∧ w'.cell? ⟨(ad117.add ((x7_9).toNat * 10)).block, (ad117.add ((x7_9).toNat * 10)).off + 6, none⟩ = some (.int .i64 ((rd_T96 x4_1 x7_9).f2.f2)) ∧ w'.cell? ⟨(ad117.add ((x7_9).toNat * 10)).block, (ad117.add ((x7_9).toNat * 10)).off + 7, none⟩ = some (.int .i64 ((rd_T96 x4_1 x7_9).f2.f3)) ∧ w'.cell? ⟨(ad117.add ((x7_9).toNat * 10)).block, (ad117.add ((x7_9).toNat * 10)).off + 8, none⟩ = some (.slice A117_8 ((rd_T96 x4_1 x7_9).f2.f4).length c117_8) ∧ w'.cell? ⟨(ad117.add ((x7_9).toNat * 10)).block, (ad117.add ((x7_9).toNat * 10)).off + 9, none⟩ = some (.bool ((rd_T96 x4_1 x7_9).f2.f5))) [] (fun hHeld HT_ HW_ => ?_)
              generalize wc.drew = w40 at HO_4 HO_103001 HO_103008 BK102 HB HL117_1 HL117_8 HR117_1 HR117_8 hx117_0 hx117_1 hx117_2 hx117_3 hx117_4 hx117_5 hx117_6 hx117_7 hx117_8 hx117_9 hHeld ⊢
              refine pA 0 50 HT_ ?_; refine pA 1 51 HT_ ?_; refine pA 2 52 HT_ ?_; refine pA 3 53 HT_ ?_; refine pA 4 54 HT_ ?_; refine pA 5 55 HT_ ?_; refine pA 6 56 HT_ ?_; refine pA 7 57 HT_ ?_; refine pA 8 58 HT_ ?_; refine pA 10 60 HT_ ?_; refine tA 9 59 HT_ HW_ hHeld ?_; refine tA 11 61 HT_ HW_ hHeld ?_; refine oA 12 62 HT_ (fun K hK => ?_)
              refine goes_ Tryd.func64 (by kernel_rfl) rfl #[.agg #[.string ((rd_T96 x4_1 x7_9).f0.f0), .slice A117_1 ((rd_T96 x4_1 x7_9).f0.f1).length c117_1, .int .i64 ((rd_T96 x4_1 x7_9).f0.f2)], .agg #[.string t104, .slice Ao17 t105.length co17, .int .i64 t108]] (by rfl) rfl rfl zee81 ?_
              with_reducible refine (spec_l1Compare.calls kj9 ((rd_T96 x4_1 x7_9).f0.f0) _ _ ((rd_T96 x4_1 x7_9).f0.f1) ((rd_T96 x4_1 x7_9).f0.f2) t104 _ _ t105 t108 t118 _ ?side1 ?side2 ?side3 ?side4 A39.out).mono ?_
              (case side1 => exact (cZ (by repeat (first | (with_reducible exact HR117_1.out) | (with_reducible refine Kd.C_alloc ?_ _) | (with_reducible refine Kd.C_drewN ?_ _) | (with_reducible refine Kd.C_drew ?_) | exact HR117_1.out))))
              (case side2 => exact HC117_1.out)
              (case side3 => exact (by repeat (first | exact (Kd.R_reads' HO_103001.out).2.2 | (with_reducible refine Kd.C_alloc ?_ _) | (with_reducible refine Kd.C_drewN ?_ _) | (with_reducible refine Kd.C_drew ?_))))
              (case side4 => exact (Kd.R_reads' HO_103001.out).2.1)
              rintro e w42 ⟨rfl, hb⟩
              have HS10_ := (hb.cell (World.block_lt_of_cell? _ _ (hHeld.2.2.2.2.2.2.2.2.2.2.1))).trans (hHeld.2.2.2.2.2.2.2.2.2.2.1)
              have HS11_ := (hb.cell (World.block_lt_of_cell? _ _ (hHeld.2.2.2.2.2.2.2.2.2.2.2.1))).trans (hHeld.2.2.2.2.2.2.2.2.2.2.2.1)
              have HS12_ := (hb.cell (World.block_lt_of_cell? _ _ (hHeld.2.2.2.2.2.2.2.2.2.2.2.2.1))).trans (hHeld.2.2.2.2.2.2.2.2.2.2.2.2.1)
              have HS13_ := (hb.cell (World.block_lt_of_cell? _ _ (hHeld.2.2.2.2.2.2.2.2.2.2.2.2.2.1))).trans (hHeld.2.2.2.2.2.2.2.2.2.2.2.2.2.1)
              have HS14_ := (hb.cell (World.block_lt_of_cell? _ _ (hHeld.2.2.2.2.2.2.2.2.2.2.2.2.2.2.1))).trans (hHeld.2.2.2.2.2.2.2.2.2.2.2.2.2.2.1)
              have HS15_ := (hb.cell (World.block_lt_of_cell? _ _ (hHeld.2.2.2.2.2.2.2.2.2.2.2.2.2.2.2.1))).trans (hHeld.2.2.2.2.2.2.2.2.2.2.2.2.2.2.2.1)
              have HS16_ := (hb.cell (World.block_lt_of_cell? _ _ (hHeld.2.2.2.2.2.2.2.2.2.2.2.2.2.2.2.2.1))).trans (hHeld.2.2.2.2.2.2.2.2.2.2.2.2.2.2.2.2.1)
              have HS17_ := (hb.cell (World.block_lt_of_cell? _ _ (hHeld.2.2.2.2.2.2.2.2.2.2.2.2.2.2.2.2.2.1))).trans (hHeld.2.2.2.2.2.2.2.2.2.2.2.2.2.2.2.2.2.1)
              have HS18_ := (hb.cell (World.block_lt_of_cell? _ _ (hHeld.2.2.2.2.2.2.2.2.2.2.2.2.2.2.2.2.2.2.1))).trans (hHeld.2.2.2.2.2.2.2.2.2.2.2.2.2.2.2.2.2.2.1)
              have HS19_ := (hb.cell (World.block_lt_of_cell? _ _ (hHeld.2.2.2.2.2.2.2.2.2.2.2.2.2.2.2.2.2.2.2))).trans (hHeld.2.2.2.2.2.2.2.2.2.2.2.2.2.2.2.2.2.2.2)
              refine ⟨_, rfl, ?_⟩
              have _ := aM (Kd.N_below (by (with_reducible repeat (first | apply Kd.N_alloc | apply Kd.N_drewN | apply Kd.N_drew)); exact HO_4.out) hb)
              have _ := aM (Kd.R_below (rZ HO_103001.out) hb)
              have _ := aM (Kd.R_below (rZ HO_103008.out) hb)
              have _ := aM (Kd.V_below (vZ HL117_1.out) hb)
              have _ := aM (Kd.V_below (vZ HL117_8.out) hb)
              have _ := bB gb102 hb
              have _ := aM (Kd.C_below (by repeat (first | (with_reducible exact HR117_1.out) | (with_reducible refine Kd.C_alloc ?_ _) | (with_reducible refine Kd.C_drewN ?_ _) | (with_reducible refine Kd.C_drew ?_) | exact HR117_1.out)) hb)
              have _ := aM (Kd.C_below (by repeat (first | (with_reducible exact HR117_8.out) | (with_reducible refine Kd.C_alloc ?_ _) | (with_reducible refine Kd.C_drewN ?_ _) | (with_reducible refine Kd.C_drew ?_) | exact HR117_8.out)) hb)
              have _ := aM (below_step hbZ hb)
              clear HO_4
              clear HO_103001
              clear HO_103008
              clear HL117_1
              clear HL117_8
              clear BK102
              clear HR117_1
              clear HR117_8
              clear HB
              rename_i HO_4 HO_103001 HO_103008 HL117_1 HL117_8 BK102 HR117_1 HR117_8 HB
              (try clear hb); (try clear hk)
              refine hK.out _ _ ⟨(blk_cell BK102.out 0).trans rfl, (blk_cell BK102.out 1).trans rfl, (blk_cell BK102.out 2).trans rfl, (blk_cell BK102.out 3).trans rfl, (blk_cell BK102.out 4).trans rfl, (blk_cell BK102.out 5).trans rfl, (blk_cell BK102.out 6).trans rfl, (blk_cell BK102.out 7).trans rfl, (blk_cell BK102.out 8).trans rfl, (blk_cell BK102.out 9).trans rfl, HS10_, HS11_, HS12_, HS13_, HS14_, HS15_, HS16_, HS17_, HS18_, HS19_⟩ (fun hHeld => ?_)
              clear hK K
              refine nA 62 ?_; refine pA 13 63 HT_ ?_; refine pA 14 64 HT_ ?_
              refine done_ (done_of HT_.out (by kernel_rfl)) ?_
              try go_wp2
              go_meet
              case rel => exact ⟨_, ((t118 == 0)), z4458, H', ⟨by have := HK1.out; have := HJ9.out; first | omega | exact Nat.le_refl _⟩, ⟨by (with_reducible repeat (first | apply Kd.N_alloc | apply Kd.N_drewN | apply Kd.N_drew)); exact HO_4.out⟩, ⟨rZ HO_103001.out⟩, ⟨rZ HO_103008.out⟩, ⟨bkZ⟩, ⟨zcb41⟩⟩
            · rw [if_neg c37] at H
              have c37b0 := nL c37
              clear c37
              (first | rw [c37b0] | (simp only [i64_w, i32_w]; rw [c37b0]) | skip)
              have H' := aM H
              clear H
              try go_wp2
              have _ := aM (Kd.N_drew HO_4.out)
              have _ := aM (Kd.R_drew HO_103001.out)
              have _ := aM (Kd.R_drew HO_103008.out)
              have _ := aM (blk_drew BK102.out)
              have _ := aM (below_drew1 HB.out)
              clear HO_4
              clear HO_103001
              clear HO_103008
              clear BK102
              clear HB
              rename_i HO_4 HO_103001 HO_103008 BK102 HB
              obtain ⟨Ao44, co44, eo44⟩ := Kd.N_slice HO_4.out
              (first | subst eo44 | (injection eo44 with f1_ f2_ f3_; have f4_ := f1_.symm; have f5_ := f3_.symm; clear f1_ f2_ f3_; subst f4_; subst f5_))
              refine sA 15 spec_LastTold.tab14 spec_LastTold.bits14 (fun w' => True) [] (fun hHeld HT_ HW_ => ?_)
              generalize wc.drew = w43 at HO_4 HO_103001 HO_103008 BK102 HB hHeld ⊢
              refine pA 0 50 HT_ ?_; refine pA 1 51 HT_ ?_; refine pA 2 52 HT_ ?_; refine pA 3 53 HT_ ?_; refine pA 4 54 HT_ ?_; refine uA 5 55 HT_ ?_; refine uA 6 56 HT_ ?_; refine uA 7 57 HT_ ?_; refine uA 8 58 HT_ ?_; refine uA 9 59 HT_ ?_; refine uA 10 60 HT_ ?_; refine uA 11 61 HT_ ?_; refine uA 12 62 HT_ ?_; refine uA 13 63 HT_ ?_; refine pA 14 64 HT_ ?_
              refine done_ (done_of HT_.out (by kernel_rfl)) ?_
              try go_wp2
              go_meet
              case rel => exact ⟨_, (false), z4458, H', ⟨by have := HK1.out; have := HJ9.out; first | omega | exact Nat.le_refl _⟩, ⟨by (with_reducible repeat (first | apply Kd.N_alloc | apply Kd.N_drewN | apply Kd.N_drew)); exact HO_4.out⟩, ⟨rZ HO_103001.out⟩, ⟨rZ HO_103008.out⟩, ⟨bkZ⟩, ⟨zcb41⟩⟩
           case rest =>
            clear HC36
            obtain ⟨kq, x64_35, rfl, HA, HJ35, HO_4, HO_103001, HO_103008, BK102, HB⟩ := hcut
            cases kq with
            | zero => exact absurd HA.out (by simp [spec_LastTold.j3])
            | succ kj35 =>
             have H := HA.out
             clear HA
             simp only [spec_LastTold.j3] at H
             by_cases c45 : x64_35 = true
             · subst c45
               rw [if_pos rfl] at H
               obtain ⟨c46b0, H⟩ := sE H
               obtain ⟨c47b0, H⟩ := sL H
               by_cases c48 : ((rd_T96 l0 x14_1).f1) ≥ ((rd_T96 x4_1 x7_9).f1)
               · rw [if_pos c48] at H
                 have c48b0 := dE c48
                 clear c48
                 obtain ⟨y120, hy120⟩ : ∃ y_ : List (S96), y_ = (x4_1.set (x7_9 : Int).toNat (⟨(⟨t104, t105, t108⟩ : S32), ((rd_T96 l0 x14_1).f1), (⟨((rd_T96 l0 x14_1).f2.f0), ((rd_T96 l0 x14_1).f2.f1), ((rd_T96 l0 x14_1).f2.f2), ((rd_T96 l0 x14_1).f2.f3), y112, ((rd_T96 l0 x14_1).f2.f5)⟩ : S35)⟩ : S96)) := ⟨_, rfl⟩
                 first | (replace H := bindS H; rw [← hy120] at H; try dsimp only at H) | rw [← hy120] at H
                 have Ny120 := aM hy120
                 clear hy120
                 have H' := aM H
                 clear H
                 try go_wp2
                 have _ := aM (Kd.N_drew HO_4.out)
                 have _ := aM (Kd.R_drew HO_103001.out)
                 have _ := aM (Kd.R_drew HO_103008.out)
                 have _ := aM (blk_drew BK102.out)
                 have _ := aM (below_drew1 HB.out)
                 clear HO_4
                 clear HO_103001
                 clear HO_103008
                 clear BK102
                 clear HB
                 rename_i HO_4 HO_103001 HO_103008 BK102 HB
                 obtain ⟨Ao51, co51, eo51⟩ := Kd.N_slice HO_4.out
                 (first | subst eo51 | (injection eo51 with f1_ f2_ f3_; have f4_ := f1_.symm; have f5_ := f3_.symm; clear f1_ f2_ f3_; subst f4_; subst f5_))
                 have p119 : 0 ≤ (x7_9 : Int) := of_decide_eq_true z1200
                 have q119 : x7_9 < (x4_1.length : Int) := of_decide_eq_true z1200
                 obtain ⟨ad119, A119_1, c119_1, A119_8, c119_8, e119, hx119_0, hx119_1, hx119_2, hx119_3, hx119_4, hx119_5, hx119_6, hx119_7, hx119_8, hx119_9, hl119_1, hi119_1, hl119_8, hi119_8⟩ := at_T96 (Kd.N_reads' HO_4.out).2.2 x7_9 p119 q119
                 cases e119
                 obtain ⟨ce119, hce119, hMe119, hcc119⟩ := Kd.N_get HO_4.out z96 x7_9 p119 (by first | exact q119 | exact of_decide_eq_true z1200 | (have e_ := (Kd.N_reads' HO_4.out).1; omega))
                 obtain ⟨ua119_1, uc119_1, ua119_8, uc119_8, rfl, ul119_1, ge119_1, ul119_8, ge119_8⟩ := k96_openF hMe119
                 have hv119_1 := hcc119 1 _ rfl
                 rw [add_field _ _ 1 (by omega)] at hv119_1
                 replace hv119_1 := Option.some.inj (hv119_1.symm.trans hx119_1)
                 injection hv119_1 with hva_ hvn_ hvc_
                 rw [hva_] at ge119_1
                 rw [hvc_] at ul119_1
                 have HL119_1 := aM (show Kd.V k123 123 _ w.heap.size _ _ ((rd_T96 x4_1 x7_9).f0.f1) from Kd.V_mk ul119_1 ge119_1)
                 clear hva_ hvn_ hvc_ ge119_1 ul119_1
                 have hv119_8 := hcc119 8 _ rfl
                 rw [add_field _ _ 8 (by omega)] at hv119_8
                 replace hv119_8 := Option.some.inj (hv119_8.symm.trans hx119_8)
                 injection hv119_8 with hva_ hvn_ hvc_
                 rw [hva_] at ge119_8
                 rw [hvc_] at ul119_8
                 have HL119_8 := aM (show Kd.V (Kd.int .i64) 3 _ w.heap.size _ _ ((rd_T96 x4_1 x7_9).f2.f4) from Kd.V_mk ul119_8 ge119_8)
                 clear hva_ hvn_ hvc_ ge119_8 ul119_8
                 clear hcc119 hce119
                 have HR119_1 := aM hi119_1
                 have HC119_1 := aM hl119_1
                 clear hi119_1 hl119_1
                 have HR119_8 := aM hi119_8
                 have HC119_8 := aM hl119_8
                 clear hi119_8 hl119_8
                 replace p119 := eq_true p119
                 replace q119 := eq_true q119
                 refine sA 8 spec_LastTold.tab15 spec_LastTold.bits15 (fun w' => w'.cell? ⟨gb102, 0, none⟩ = some (.string t104) ∧ w'.cell? ⟨gb102, 1, none⟩ = some (.slice Ao17 t105.length co17) ∧ w'.cell? ⟨gb102, 2, none⟩ = some (.int .i64 t108) ∧ w'.cell? ⟨gb102, 3, none⟩ = some (.int .i64 ((rd_T96 l0 x14_1).f1)) ∧ w'.cell? ⟨gb102, 4, none⟩ = some (.int .i64 ((rd_T96 l0 x14_1).f2.f0)) ∧ w'.cell? ⟨gb102, 5, none⟩ = some (.int .i64 ((rd_T96 l0 x14_1).f2.f1)) ∧ w'.cell? ⟨gb102, 6, none⟩ = some (.int .i64 ((rd_T96 l0 x14_1).f2.f2)) ∧ w'.cell? ⟨gb102, 7, none⟩ = some (.int .i64 ((rd_T96 l0 x14_1).f2.f3)) ∧ w'.cell? ⟨gb102, 8, none⟩ = some (.slice Ao22 y112.length co22) ∧ w'.cell? ⟨gb102, 9, none⟩ = some (.bool ((rd_T96 l0 x14_1).f2.f5)) ∧ w'.cell? (ad119.add ((x7_9).toNat * 10)) = some (.string ((rd_T96 x4_1 x7_9).f0.f0)) ∧ w'.cell? ⟨(ad119.add ((x7_9).toNat * 10)).block, (ad119.add ((x7_9).toNat * 10)).off + 1, none⟩ = some (.slice A119_1 ((rd_T96 x4_1 x7_9).f0.f1).length c119_1) ∧ w'.cell? ⟨(ad119.add ((x7_9).toNat * 10)).block, (ad119.add ((x7_9).toNat * 10)).off + 2, none⟩ = some (.int .i64 ((rd_T96 x4_1 x7_9).f0.f2)) ∧ w'.cell? ⟨(ad119.add ((x7_9).toNat * 10)).block, (ad119.add ((x7_9).toNat * 10)).off + 3, none⟩ = some (.int .i64 ((rd_T96 x4_1 x7_9).f1)) ∧ w'.cell? ⟨(ad119.add ((x7_9).toNat * 10)).block, (ad119.add ((x7_9).toNat * 10)).off + 4, none⟩ = some (.int .i64 ((rd_T96 x4_1 x7_9).f2.f0)) ∧ w'.cell? ⟨(ad119.add ((x7_9).toNat * 10)).block, (ad119.add ((x7_9).toNat * 10)).off + 5, none⟩ = some (.int .i64 ((rd_T96 x4_1 x7_9).f2.f1)) ∧ w'.cell? ⟨(ad119.add ((x7_9).toNat * 10)).block, (ad119.add ((x7_9).toNat * 10)).off + 6, none⟩ = some (.int .i64 ((rd_T96 x4_1 x7_9).f2.f2)) ∧ w'.cell? ⟨(ad119.add ((x7_9).toNat * 10)).block, (ad119.add ((x7_9).toNat * 10)).off + 7, none⟩ = some (.int .i64 ((rd_T96 x4_1 x7_9).f2.f3)) ∧ w'.cell? ⟨(ad119.add ((x7_9).toNat * 10)).block, (ad119.add ((x7_9).toNat * 10)).off + 8, none⟩ = some (.slice A119_8 ((rd_T96 x4_1 x7_9).f2.f4).length c119_8) ∧ w'.cell? ⟨(ad119.add ((x7_9).toNat * 10)).block, (ad119.add ((x7_9).toNat * 10)).off + 9, none⟩ = some (.bool ((rd_T96 x4_1 x7_9).f2.f5))) [] (fun hHeld HT_ HW_ => ?_)
                 generalize wc.drew = w50 at HO_4 HO_103001 HO_103008 BK102 HB HL119_1 HL119_8 HR119_1 HR119_8 hx119_0 hx119_1 hx119_2 hx119_3 hx119_4 hx119_5 hx119_6 hx119_7 hx119_8 hx119_9 hHeld ⊢
                 refine pA 0 65 HT_ ?_; refine pA 2 67 HT_ ?_; refine pA 3 68 HT_ ?_; refine pA 4 69 HT_ ?_; refine pA 5 70 HT_ ?_; refine tA 1 66 HT_ HW_ hHeld ?_; refine tA 6 71 HT_ HW_ hHeld ?_; refine pA 7 72 HT_ ?_
                 refine done_ (done_of HT_.out (by kernel_rfl)) ?_
                 have hz52 := cellsZ10 BK102.out
                 have p49 : 0 ≤ (x7_9 : Int) := of_decide_eq_true z1200
                 have q49 : (x7_9 : Int) < ((x4_1.length : Int) : Int) := of_decide_eq_true z1200
                 obtain ⟨go49, co49, eo49, gb49, gl49, cl49, HG49⟩ := Kd.N_form HO_4.out (by omega)
                 (first | cases eo49 | (injection eo49 with ea_ en_ ec_; (first | subst ea_ | (injection ea_ with ea_; subst ea_)); subst ec_; clear en_))
                 have GB49 := aM gb49
                 have GG49 := aM HG49
                 clear gb49 gl49 HG49
                 (first | simp only [add_plain] at hx119_0 | skip)
                 (first | simp only [add_plain] at hx119_1 | skip)
                 (first | simp only [add_plain] at hx119_2 | skip)
                 (first | simp only [add_plain] at hx119_3 | skip)
                 (first | simp only [add_plain] at hx119_4 | skip)
                 (first | simp only [add_plain] at hx119_5 | skip)
                 (first | simp only [add_plain] at hx119_6 | skip)
                 (first | simp only [add_plain] at hx119_7 | skip)
                 (first | simp only [add_plain] at hx119_8 | skip)
                 (first | simp only [add_plain] at hx119_9 | skip)
                 obtain ⟨ce49, hcl49, hM49, hcc49, hfr49⟩ := Kd.N_elem HO_4.out z96 (x7_9 : Int) p49 q49
                 obtain ⟨ua49_1, uc49_1, ua49_8, uc49_8, rfl, ul49_1, ge49_1, ul49_8, ge49_8⟩ := k96_openF hM49
                 have hx49_0 : w50.cell? ⟨go49, (x7_9 : Int).toNat * 10, none⟩ = some (.string ((rd_T96 x4_1 x7_9).f0.f0)) := hcc49 0 _ rfl
                 have hx49_1 : w50.cell? ⟨go49, (x7_9 : Int).toNat * 10 + 1, none⟩ = some (.slice ua49_1 ((rd_T96 x4_1 x7_9).f0.f1).length uc49_1) := hcc49 1 _ rfl
                 have hx49_2 : w50.cell? ⟨go49, (x7_9 : Int).toNat * 10 + 2, none⟩ = some (.int .i64 ((rd_T96 x4_1 x7_9).f0.f2)) := hcc49 2 _ rfl
                 have hx49_3 : w50.cell? ⟨go49, (x7_9 : Int).toNat * 10 + 3, none⟩ = some (.int .i64 ((rd_T96 x4_1 x7_9).f1)) := hcc49 3 _ rfl
                 have hx49_4 : w50.cell? ⟨go49, (x7_9 : Int).toNat * 10 + 4, none⟩ = some (.int .i64 ((rd_T96 x4_1 x7_9).f2.f0)) := hcc49 4 _ rfl
                 have hx49_5 : w50.cell? ⟨go49, (x7_9 : Int).toNat * 10 + 5, none⟩ = some (.int .i64 ((rd_T96 x4_1 x7_9).f2.f1)) := hcc49 5 _ rfl
                 have hx49_6 : w50.cell? ⟨go49, (x7_9 : Int).toNat * 10 + 6, none⟩ = some (.int .i64 ((rd_T96 x4_1 x7_9).f2.f2)) := hcc49 6 _ rfl
                 have hx49_7 : w50.cell? ⟨go49, (x7_9 : Int).toNat * 10 + 7, none⟩ = some (.int .i64 ((rd_T96 x4_1 x7_9).f2.f3)) := hcc49 7 _ rfl
                 have hx49_8 : w50.cell? ⟨go49, (x7_9 : Int).toNat * 10 + 8, none⟩ = some (.slice ua49_8 ((rd_T96 x4_1 x7_9).f2.f4).length uc49_8) := hcc49 8 _ rfl
                 have hx49_9 : w50.cell? ⟨go49, (x7_9 : Int).toNat * 10 + 9, none⟩ = some (.bool ((rd_T96 x4_1 x7_9).f2.f5)) := hcc49 9 _ rfl
                 have hf49_0 : w50.frozen? ⟨go49, (x7_9 : Int).toNat * 10, none⟩ = false := hfr49 0
                 have hf49_1 : w50.frozen? ⟨go49, (x7_9 : Int).toNat * 10 + 1, none⟩ = false := hfr49 1
                 have hf49_2 : w50.frozen? ⟨go49, (x7_9 : Int).toNat * 10 + 2, none⟩ = false := hfr49 2
                 have hf49_3 : w50.frozen? ⟨go49, (x7_9 : Int).toNat * 10 + 3, none⟩ = false := hfr49 3
                 have hf49_4 : w50.frozen? ⟨go49, (x7_9 : Int).toNat * 10 + 4, none⟩ = false := hfr49 4
                 have hf49_5 : w50.frozen? ⟨go49, (x7_9 : Int).toNat * 10 + 5, none⟩ = false := hfr49 5
                 have hf49_6 : w50.frozen? ⟨go49, (x7_9 : Int).toNat * 10 + 6, none⟩ = false := hfr49 6
                 have hf49_7 : w50.frozen? ⟨go49, (x7_9 : Int).toNat * 10 + 7, none⟩ = false := hfr49 7
                 have hf49_8 : w50.frozen? ⟨go49, (x7_9 : Int).toNat * 10 + 8, none⟩ = false := hfr49 8
                 have hf49_9 : w50.frozen? ⟨go49, (x7_9 : Int).toNat * 10 + 9, none⟩ = false := hfr49 9
                 clear hcl49 hcc49 hfr49 hM49
                 replace p49 := eq_true p49
                 replace q49 := eq_true q49
                 have HX53 := aM (show Kd.N k96 96 w50 w.heap.size (fun k_ => (w.heap.size ≤ k_) ∧ k_ ≠ gb102) (.slice (some ⟨go49, 0, none⟩) x4_1.length co51) x4_1 from (by (with_reducible repeat (first | apply Kd.N_alloc | apply Kd.N_drewN | apply Kd.N_drew)); exact Kd.N_mono HO_4.out (fun _ hk => ⟨hk.1, hk.2.2.2⟩)))
                 obtain ⟨ce53, hcl53, hM53, hcc53, hfr53⟩ := Kd.N_elem HX53.out z96 (x7_9 : Int) (of_decide_eq_true z1200) (by have h_ : (x7_9 : Int) < ((x4_1.length : Int) : Int) := of_decide_eq_true z1200; first | exact h_ | (have e_ := (Kd.N_reads' HO_4.out).1; omega) | simpa using h_)
                 obtain ⟨ua53_1, uc53_1, ua53_8, uc53_8, rfl, ul53_1, ge53_1, ul53_8, ge53_8⟩ := k96_openF hM53
                 have HP53 := Kd.N_seg HX53.out (x7_9 : Int) (of_decide_eq_true z1200) (by have h_ : (x7_9 : Int) < ((x4_1.length : Int) : Int) := of_decide_eq_true z1200; first | exact h_ | (have e_ := (Kd.N_reads' HO_4.out).1; omega) | simpa using h_) (seg := [.string t104, .slice Ao17 t105.length co17, .int .i64 t108, .int .i64 ((rd_T96 l0 x14_1).f1), .int .i64 ((rd_T96 l0 x14_1).f2.f0), .int .i64 ((rd_T96 l0 x14_1).f2.f1), .int .i64 ((rd_T96 l0 x14_1).f2.f2), .int .i64 ((rd_T96 l0 x14_1).f2.f3), .slice Ao22 y112.length co22, .bool ((rd_T96 l0 x14_1).f2.f5)]) (j := 0) hcl53 hcc53 (show 10 ≤ 10 from by decide) (x' := (⟨(⟨t104, t105, t108⟩ : S32), ((rd_T96 l0 x14_1).f1), (⟨((rd_T96 l0 x14_1).f2.f0), ((rd_T96 l0 x14_1).f2.f1), ((rd_T96 l0 x14_1).f2.f2), ((rd_T96 l0 x14_1).f2.f3), y112, ((rd_T96 l0 x14_1).f2.f5)⟩ : S35)⟩ : S96)) (k96_mkF _ _ (⟨(⟨t104, t105, t108⟩ : S32), ((rd_T96 l0 x14_1).f1), (⟨((rd_T96 l0 x14_1).f2.f0), ((rd_T96 l0 x14_1).f2.f1), ((rd_T96 l0 x14_1).f2.f2), ((rd_T96 l0 x14_1).f2.f3), y112, ((rd_T96 l0 x14_1).f2.f5)⟩ : S35)⟩ : S96) (Kd.R_reads' (Kd.R_mono (ok' := (fun k_ => ((fun k_ => (w.heap.size ≤ k_) ∧ k_ ≠ gb102)) k_ ∧ k_ ≠ go49)) (Kd.R_types (Kd.R_apart' (HO_103001.out) (Kd.N_typed HO_4.out) (by decide)) BK102.out (by decide)) (fun k_ hk => ⟨⟨hk.1.1, hk.2⟩, fun e_ => (hk.1.2) (by rw [e_]; rfl)⟩))).2.1 (Kd.R_F (Kd.R_mono (ok' := (fun k_ => ((fun k_ => (w.heap.size ≤ k_) ∧ k_ ≠ gb102)) k_ ∧ k_ ≠ go49)) (Kd.R_types (Kd.R_apart' (HO_103001.out) (Kd.N_typed HO_4.out) (by decide)) BK102.out (by decide)) (fun k_ hk => ⟨⟨hk.1.1, hk.2⟩, fun e_ => (hk.1.2) (by rw [e_]; rfl)⟩))) (Kd.R_reads' (Kd.R_mono (ok' := (fun k_ => ((fun k_ => (w.heap.size ≤ k_) ∧ k_ ≠ gb102)) k_ ∧ k_ ≠ go49)) (Kd.R_types (Kd.R_apart' (HO_103008.out) (Kd.N_typed HO_4.out) (by decide)) BK102.out (by decide)) (fun k_ hk => ⟨⟨hk.1.1, hk.2⟩, fun e_ => (hk.1.2) (by rw [e_]; rfl)⟩))).2.1 (Kd.R_F (Kd.R_mono (ok' := (fun k_ => ((fun k_ => (w.heap.size ≤ k_) ∧ k_ ≠ gb102)) k_ ∧ k_ ≠ go49)) (Kd.R_types (Kd.R_apart' (HO_103008.out) (Kd.N_typed HO_4.out) (by decide)) BK102.out (by decide)) (fun k_ hk => ⟨⟨hk.1.1, hk.2⟩, fun e_ => (hk.1.2) (by rw [e_]; rfl)⟩)))) (fun _ hk => hk)
                 have hx53_0 := hcc53 0 _ rfl
                 (try simp only [show (k96).sz = 10 from rfl, Nat.mul_one, Nat.add_zero] at hx53_0)
                 have hf53_0 := hfr53 0
                 (try simp only [show (k96).sz = 10 from rfl, Nat.mul_one, Nat.add_zero] at hf53_0)
                 have hx53_1 := hcc53 1 _ rfl
                 (try simp only [show (k96).sz = 10 from rfl, Nat.mul_one, Nat.add_zero] at hx53_1)
                 have hf53_1 := hfr53 1
                 (try simp only [show (k96).sz = 10 from rfl, Nat.mul_one, Nat.add_zero] at hf53_1)
                 have hx53_2 := hcc53 2 _ rfl
                 (try simp only [show (k96).sz = 10 from rfl, Nat.mul_one, Nat.add_zero] at hx53_2)
                 have hf53_2 := hfr53 2
                 (try simp only [show (k96).sz = 10 from rfl, Nat.mul_one, Nat.add_zero] at hf53_2)
                 have hx53_3 := hcc53 3 _ rfl
                 (try simp only [show (k96).sz = 10 from rfl, Nat.mul_one, Nat.add_zero] at hx53_3)
                 have hf53_3 := hfr53 3
                 (try simp only [show (k96).sz = 10 from rfl, Nat.mul_one, Nat.add_zero] at hf53_3)
                 have hx53_4 := hcc53 4 _ rfl
                 (try simp only [show (k96).sz = 10 from rfl, Nat.mul_one, Nat.add_zero] at hx53_4)
                 have hf53_4 := hfr53 4
                 (try simp only [show (k96).sz = 10 from rfl, Nat.mul_one, Nat.add_zero] at hf53_4)
                 have hx53_5 := hcc53 5 _ rfl
                 (try simp only [show (k96).sz = 10 from rfl, Nat.mul_one, Nat.add_zero] at hx53_5)
                 have hf53_5 := hfr53 5
                 (try simp only [show (k96).sz = 10 from rfl, Nat.mul_one, Nat.add_zero] at hf53_5)
                 have hx53_6 := hcc53 6 _ rfl
                 (try simp only [show (k96).sz = 10 from rfl, Nat.mul_one, Nat.add_zero] at hx53_6)
                 have hf53_6 := hfr53 6
                 (try simp only [show (k96).sz = 10 from rfl, Nat.mul_one, Nat.add_zero] at hf53_6)
                 have hx53_7 := hcc53 7 _ rfl
                 (try simp only [show (k96).sz = 10 from rfl, Nat.mul_one, Nat.add_zero] at hx53_7)
                 have hf53_7 := hfr53 7
                 (try simp only [show (k96).sz = 10 from rfl, Nat.mul_one, Nat.add_zero] at hf53_7)
                 have hx53_8 := hcc53 8 _ rfl
                 (try simp only [show (k96).sz = 10 from rfl, Nat.mul_one, Nat.add_zero] at hx53_8)
                 have hf53_8 := hfr53 8
                 (try simp only [show (k96).sz = 10 from rfl, Nat.mul_one, Nat.add_zero] at hf53_8)
                 have hx53_9 := hcc53 9 _ rfl
                 (try simp only [show (k96).sz = 10 from rfl, Nat.mul_one, Nat.add_zero] at hx53_9)
                 have hf53_9 := hfr53 9
                 (try simp only [show (k96).sz = 10 from rfl, Nat.mul_one, Nat.add_zero] at hf53_9)
                 clear hcl53 hcc53 hfr53 hM53
                 try go_wp2_with (first | ((with_reducible refine gate_store (t := 96) (p := 76) rfl ?_); refine store_event (t := 96) (p := 76) (v := ?vo_w54) (w1 := ((((((((((w50.setCell ⟨go49, (x7_9 : Int).toNat * 10, none⟩ (.string t104)).setCell ⟨go49, (x7_9 : Int).toNat * 10 + 1, none⟩ (.slice Ao17 t105.length co17)).setCell ⟨go49, (x7_9 : Int).toNat * 10 + 2, none⟩ (.int .i64 t108)).setCell ⟨go49, (x7_9 : Int).toNat * 10 + 3, none⟩ (.int .i64 ((rd_T96 l0 x14_1).f1))).setCell ⟨go49, (x7_9 : Int).toNat * 10 + 4, none⟩ (.int .i64 ((rd_T96 l0 x14_1).f2.f0))).setCell ⟨go49, (x7_9 : Int).toNat * 10 + 5, none⟩ (.int .i64 ((rd_T96 l0 x14_1).f2.f1))).setCell ⟨go49, (x7_9 : Int).toNat * 10 + 6, none⟩ (.int .i64 ((rd_T96 l0 x14_1).f2.f2))).setCell ⟨go49, (x7_9 : Int).toNat * 10 + 7, none⟩ (.int .i64 ((rd_T96 l0 x14_1).f2.f3))).setCell ⟨go49, (x7_9 : Int).toNat * 10 + 8, none⟩ (.slice Ao22 y112.length co22)).setCell ⟨go49, (x7_9 : Int).toNat * 10 + 9, none⟩ (.bool ((rd_T96 l0 x14_1).f2.f5)))) ?hg ?ho ?hn ?hr ?_; (case ho => rfl); (case hg => rfl); (case hn => rfl); (case hr => first | (go_simp; done) | (go_simp; rfl)); intro w54 hw; have hg : w50.grownBy w54 (some go49) := (by rw [hw]; exact HP53.2); have hp_ : Kd.N k96 96 w54 w.heap.size (fun k_ => (w.heap.size ≤ k_) ∧ k_ ≠ gb102) (.slice (some ⟨go49, 0, none⟩) x4_1.length co51) y120 := (by rw [hw, Ny120.out]; exact HP53.1); clear HP53; have _ := aM hp_; have _ := aM (blk_grown (g := gb102) bkZ hg (Kd.N_away HO_4.out (fun _ hk => hk.2.2.2))); have _ := aM (Kd.V_afterv (v := (.slice (some ⟨go49, 0, none⟩) x4_1.length co51)) (v1 := (.slice (some ⟨go49, 0, none⟩) x4_1.length co51)) (ok := (fun k_ => (w.heap.size ≤ k_) ∧ some k_ ≠ (.slice Ao17 t105.length co17 : Value).ownBlock ∧ some k_ ≠ (.slice Ao22 y112.length co22 : Value).ownBlock ∧ k_ ≠ gb102)) (vZ HL119_1.out) hg (.inl rfl)); have _ := aM (Kd.V_afterv (v := (.slice (some ⟨go49, 0, none⟩) x4_1.length co51)) (v1 := (.slice (some ⟨go49, 0, none⟩) x4_1.length co51)) (ok := (fun k_ => (w.heap.size ≤ k_) ∧ some k_ ≠ (.slice Ao17 t105.length co17 : Value).ownBlock ∧ some k_ ≠ (.slice Ao22 y112.length co22 : Value).ownBlock ∧ k_ ≠ gb102)) (vZ HL119_8.out) hg (.inl rfl)); have _ := aM ((by rw [hw]; exact below_set (below_set (below_set (below_set (below_set (below_set (below_set (below_set (below_set (below_set (HB.out) GB49.out) GB49.out) GB49.out) GB49.out) GB49.out) GB49.out) GB49.out) GB49.out) GB49.out) GB49.out : Below w.heap.size w w54)); clear HO_4 BK102 HL119_1 HL119_8 HB HO_103001 HO_103008; rename_i HO_4 BK102 HL119_1 HL119_8 HB; clear hg hw hp_))
                 go_roundg kj35
                 case measure => have := HK1.out; have := HJ9.out; have := HJ35.out; omega
                 case rel => exact ⟨(y120), (wrap64 (x14_1 + 1)), z4458, H', ⟨by have := HK1.out; have := HJ9.out; have := HJ35.out; omega⟩, ⟨by (with_reducible repeat (first | apply Kd.N_alloc | apply Kd.N_drewN | apply Kd.N_drew)); exact Kd.N_mono HO_4.out (fun _ hk => hk.1)⟩, ⟨zcb41⟩⟩
               · rw [if_neg c48] at H
                 have c48b0 := nE c48
                 clear c48
                 have H' := aM H
                 clear H
                 try go_wp2
                 have _ := aM (Kd.N_drew HO_4.out)
                 have _ := aM (Kd.R_drew HO_103001.out)
                 have _ := aM (Kd.R_drew HO_103008.out)
                 have _ := aM (blk_drew BK102.out)
                 have _ := aM (below_drew1 HB.out)
                 clear HO_4
                 clear HO_103001
                 clear HO_103008
                 clear BK102
                 clear HB
                 rename_i HO_4 HO_103001 HO_103008 BK102 HB
                 obtain ⟨Ao56, co56, eo56⟩ := Kd.N_slice HO_4.out
                 (first | subst eo56 | (injection eo56 with f1_ f2_ f3_; have f4_ := f1_.symm; have f5_ := f3_.symm; clear f1_ f2_ f3_; subst f4_; subst f5_))
                 have p119 : 0 ≤ (x7_9 : Int) := of_decide_eq_true z1200
                 have q119 : x7_9 < (x4_1.length : Int) := of_decide_eq_true z1200
                 obtain ⟨ad119, A119_1, c119_1, A119_8, c119_8, e119, hx119_0, hx119_1, hx119_2, hx119_3, hx119_4, hx119_5, hx119_6, hx119_7, hx119_8, hx119_9, hl119_1, hi119_1, hl119_8, hi119_8⟩ := at_T96 (Kd.N_reads' HO_4.out).2.2 x7_9 p119 q119
                 cases e119
                 obtain ⟨ce119, hce119, hMe119, hcc119⟩ := Kd.N_get HO_4.out z96 x7_9 p119 (by first | exact q119 | exact of_decide_eq_true z1200 | (have e_ := (Kd.N_reads' HO_4.out).1; omega))
                 obtain ⟨ua119_1, uc119_1, ua119_8, uc119_8, rfl, ul119_1, ge119_1, ul119_8, ge119_8⟩ := k96_openF hMe119
                 have hv119_1 := hcc119 1 _ rfl
                 rw [add_field _ _ 1 (by omega)] at hv119_1
                 replace hv119_1 := Option.some.inj (hv119_1.symm.trans hx119_1)
                 injection hv119_1 with hva_ hvn_ hvc_
                 rw [hva_] at ge119_1
                 rw [hvc_] at ul119_1
                 have HL119_1 := aM (show Kd.V k123 123 _ w.heap.size _ _ ((rd_T96 x4_1 x7_9).f0.f1) from Kd.V_mk ul119_1 ge119_1)
                 clear hva_ hvn_ hvc_ ge119_1 ul119_1
                 have hv119_8 := hcc119 8 _ rfl
                 rw [add_field _ _ 8 (by omega)] at hv119_8
                 replace hv119_8 := Option.some.inj (hv119_8.symm.trans hx119_8)
                 injection hv119_8 with hva_ hvn_ hvc_
                 rw [hva_] at ge119_8
                 rw [hvc_] at ul119_8
                 have HL119_8 := aM (show Kd.V (Kd.int .i64) 3 _ w.heap.size _ _ ((rd_T96 x4_1 x7_9).f2.f4) from Kd.V_mk ul119_8 ge119_8)
                 clear hva_ hvn_ hvc_ ge119_8 ul119_8
                 clear hcc119 hce119
                 have HR119_1 := aM hi119_1
                 have HC119_1 := aM hl119_1
                 clear hi119_1 hl119_1
                 have HR119_8 := aM hi119_8
                 have HC119_8 := aM hl119_8
                 clear hi119_8 hl119_8
                 replace p119 := eq_true p119
                 replace q119 := eq_true q119
                 refine sA 8 spec_LastTold.tab15 spec_LastTold.bits15 (fun w' => w'.cell? ⟨gb102, 0, none⟩ = some (.string t104) ∧ w'.cell? ⟨gb102, 1, none⟩ = some (.slice Ao17 t105.length co17) ∧ w'.cell? ⟨gb102, 2, none⟩ = some (.int .i64 t108) ∧ w'.cell? ⟨gb102, 3, none⟩ = some (.int .i64 ((rd_T96 l0 x14_1).f1)) ∧ w'.cell? ⟨gb102, 4, none⟩ = some (.int .i64 ((rd_T96 l0 x14_1).f2.f0)) ∧ w'.cell? ⟨gb102, 5, none⟩ = some (.int .i64 ((rd_T96 l0 x14_1).f2.f1)) ∧ w'.cell? ⟨gb102, 6, none⟩ = some (.int .i64 ((rd_T96 l0 x14_1).f2.f2)) ∧ w'.cell? ⟨gb102, 7, none⟩ = some (.int .i64 ((rd_T96 l0 x14_1).f2.f3)) ∧ w'.cell? ⟨gb102, 8, none⟩ = some (.slice Ao22 y112.length co22) ∧ w'.cell? ⟨gb102, 9, none⟩ = some (.bool ((rd_T96 l0 x14_1).f2.f5)) ∧ w'.cell? (ad119.add ((x7_9).toNat * 10)) = some (.string ((rd_T96 x4_1 x7_9).f0.f0)) ∧ w'.cell? ⟨(ad119.add ((x7_9).toNat * 10)).block, (ad119.add ((x7_9).toNat * 10)).off + 1, none⟩ = some (.slice A119_1 ((rd_T96 x4_1 x7_9).f0.f1).length c119_1) ∧ w'.cell? ⟨(ad119.add ((x7_9).toNat * 10)).block, (ad119.add ((x7_9).toNat * 10)).off + 2, none⟩ = some (.int .i64 ((rd_T96 x4_1 x7_9).f0.f2)) ∧ w'.cell? ⟨(ad119.add ((x7_9).toNat * 10)).block, (ad119.add ((x7_9).toNat * 10)).off + 3, none⟩ = some (.int .i64 ((rd_T96 x4_1 x7_9).f1)) ∧ w'.cell? ⟨(ad119.add ((x7_9).toNat * 10)).block, (ad119.add ((x7_9).toNat * 10)).off + 4, none⟩ = some (.int .i64 ((rd_T96 x4_1 x7_9).f2.f0)) ∧ w'.cell? ⟨(ad119.add ((x7_9).toNat * 10)).block, (ad119.add ((x7_9).toNat * 10)).off + 5, none⟩ = some (.int .i64 ((rd_T96 x4_1 x7_9).f2.f1)) ∧ w'.cell? ⟨(ad119.add ((x7_9).toNat * 10)).block, (ad119.add ((x7_9).toNat * 10)).off + 6, none⟩ = some (.int .i64 ((rd_T96 x4_1 x7_9).f2.f2)) ∧ w'.cell? ⟨(ad119.add ((x7_9).toNat * 10)).block, (ad119.add ((x7_9).toNat * 10)).off + 7, none⟩ = some (.int .i64 ((rd_T96 x4_1 x7_9).f2.f3)) ∧ w'.cell? ⟨(ad119.add ((x7_9).toNat * 10)).block, (ad119.add ((x7_9).toNat * 10)).off + 8, none⟩ = some (.slice A119_8 ((rd_T96 x4_1 x7_9).f2.f4).length c119_8) ∧ w'.cell? ⟨(ad119.add ((x7_9).toNat * 10)).block, (ad119.add ((x7_9).toNat * 10)).off + 9, none⟩ = some (.bool ((rd_T96 x4_1 x7_9).f2.f5))) [] (fun hHeld HT_ HW_ => ?_)
                 generalize wc.drew = w55 at HO_4 HO_103001 HO_103008 BK102 HB HL119_1 HL119_8 HR119_1 HR119_8 hx119_0 hx119_1 hx119_2 hx119_3 hx119_4 hx119_5 hx119_6 hx119_7 hx119_8 hx119_9 hHeld ⊢
                 refine pA 0 65 HT_ ?_; refine pA 2 67 HT_ ?_; refine pA 3 68 HT_ ?_; refine pA 4 69 HT_ ?_; refine pA 5 70 HT_ ?_; refine tA 1 66 HT_ HW_ hHeld ?_; refine tA 6 71 HT_ HW_ hHeld ?_; refine pA 7 72 HT_ ?_
                 refine done_ (done_of HT_.out (by kernel_rfl)) ?_
                 try go_wp2
                 go_roundg kj35
                 case measure => have := HK1.out; have := HJ9.out; have := HJ35.out; omega
                 case rel => exact ⟨(x4_1), (wrap64 (x14_1 + 1)), z4458, H', ⟨by have := HK1.out; have := HJ9.out; have := HJ35.out; omega⟩, ⟨by (with_reducible repeat (first | apply Kd.N_alloc | apply Kd.N_drewN | apply Kd.N_drew)); exact Kd.N_mono HO_4.out (fun _ hk => hk.1)⟩, ⟨zcb41⟩⟩
             · replace c45 := Bool.eq_false_iff.mpr c45
               subst c45
               rw [if_neg (show ¬ (false = true) by decide)] at H
               replace H := ifS H; obtain ⟨c57, H⟩ := H
               have c57b0 := eq_true c57
               have c57b1 : decide (0 ≤ x7_9) = true := decide_eq_true c57
               clear c57
               replace H := ifS H; obtain ⟨c58, H⟩ := H
               have c58b0 := eq_true c58
               have c58b1 : decide (x7_9 ≤ (x4_1.length : Int)) = true := decide_eq_true c58
               clear c58
               obtain ⟨y121, hy121⟩ : ∃ y_ : List (S96), y_ = (x4_1.take (x7_9 : Int).toNat) := ⟨_, rfl⟩
               first | (replace H := bindS H; rw [← hy121] at H; try dsimp only at H) | rw [← hy121] at H
               have Ny121 := aM hy121
               clear hy121
               obtain ⟨LMc59, H⟩ := sM H
               obtain ⟨y126, hy126⟩ : ∃ y_ : List (S96), y_ = (([] : List (S96)) ++ y121) := ⟨_, rfl⟩
               first | (replace H := bindS H; rw [← hy126] at H; try dsimp only at H) | rw [← hy126] at H
               have Ny126 := aM hy126
               clear hy126
               obtain ⟨LMc60, H⟩ := sM H
               obtain ⟨y129, hy129⟩ : ∃ y_ : List (S96), y_ = (y126 ++ [(⟨(⟨t104, t105, t108⟩ : S32), ((rd_T96 l0 x14_1).f1), (⟨((rd_T96 l0 x14_1).f2.f0), ((rd_T96 l0 x14_1).f2.f1), ((rd_T96 l0 x14_1).f2.f2), ((rd_T96 l0 x14_1).f2.f3), y112, ((rd_T96 l0 x14_1).f2.f5)⟩ : S35)⟩ : S96)]) := ⟨_, rfl⟩
               first | (replace H := bindS H; rw [← hy129] at H; try dsimp only at H) | rw [← hy129] at H
               have Ny129 := aM hy129
               clear hy129
               have c61b0 := eq_true (of_decide_eq_true z1200 : 0 ≤ x7_9)
               have c62b0 := eq_true (of_decide_eq_true z1200 : x7_9 ≤ (x4_1.length : Int))
               obtain ⟨y132, hy132⟩ : ∃ y_ : List (S96), y_ = (x4_1.drop (x7_9 : Int).toNat) := ⟨_, rfl⟩
               first | (replace H := bindS H; rw [← hy132] at H; try dsimp only at H) | rw [← hy132] at H
               have Ny132 := aM hy132
               clear hy132
               obtain ⟨LMc63, H⟩ := sM H
               obtain ⟨y137, hy137⟩ : ∃ y_ : List (S96), y_ = (y129 ++ y132) := ⟨_, rfl⟩
               first | (replace H := bindS H; rw [← hy137] at H; try dsimp only at H) | rw [← hy137] at H
               have Ny137 := aM hy137
               clear hy137
               have H' := aM H
               clear H
               obtain ⟨Ao65, co65, eo65⟩ := Kd.N_slice HO_4.out
               subst eo65
               have q64 : (x7_9 : Int) ≤ ((x4_1.length : Int) : Int) := of_decide_eq_true z1200
               obtain ⟨i064, hi064, _, hsz64, _⟩ := info_parts info96
               have hroom64 : x4_1.length ≤ co65 := (Kd.N_reads' HO_4.out).2.1
               have hC64 : Kd.F k96 _ _ Ao65 x4_1.length x4_1 := (Kd.V_at (base := w.heap.size) (Kd.N_V HO_4.out)).2.2
               have hcut64 := cut_to (P := Tryd.prog) 57 96 .i64 Tryd.underlying57 hi064 Ao65 x4_1.length co65 x7_9 (of_decide_eq_true z1200) q64 hroom64
               have hr64 := Kd.F_take (m := (x7_9 : Int).toNat) hC64 (by omega)
               have hy64 : y121.length = (x7_9 : Int).toNat := (by rw [Ny121.out, List.length_take]; omega)
               rw [← Ny121.out] at hr64
               rw [← hy64] at hcut64
               have HO125 := aM (show Kd.V k96 96 _ w.heap.size _ (.slice Ao65 y121.length co65) y121 from Kd.V_mk (by omega) hr64)
               have HC125 := aM (show y121.length ≤ co65 from by omega)
               clear hr64 hC64 hroom64 hi064 hsz64
               have KY64 := aM hy64
               clear hy64
               replace q64 := eq_true q64
               go_wp2_with (first | ((with_reducible refine gate_builtin (b := .append) (xs := #[.tmp 77, .tmp 80]) rfl ?_); at_builtin; refine Kd.N_append_rows k96 (w0 := w) w.heap.size rfl (.tmp 77) (.tmp 80) 57 96 (.agg #[(.string ⟨#[]⟩), (.slice none 0 0), (.int .i64 0), (.int .i64 0), (.int .i64 0), (.int .i64 0), (.int .i64 0), (.int .i64 0), (.slice none 0 0), (.bool false)]) 120 rfl Tryd.underlying57 info96 rfl (by decide) (by omega) (.slice none 0 0) ([] : List (S96)) y121 _ _ _ (fun k_ => (w.heap.size ≤ k_) ∧ some k_ ≠ (.slice Ao17 t105.length co17 : Value).ownBlock ∧ some k_ ≠ (.slice Ao22 y112.length co22 : Value).ownBlock ∧ k_ ≠ gb102) (fun k_ => ((fun k_ => (w.heap.size ≤ k_) ∧ some k_ ≠ (.slice Ao17 t105.length co17 : Value).ownBlock ∧ some k_ ≠ (.slice Ao22 y112.length co22 : Value).ownBlock ∧ k_ ≠ gb102)) k_ ∧ some k_ ≠ (.slice none 0 0 : Value).ownBlock) rfl rfl ?aO ?aR (fun _ hk => hk) ?aF ?aB ?aS ?aL ?_; (case aR => exact (by skip; exact Kd.V_F (Kd.V_mono (ok' := (fun k_ => ((fun k_ => (w.heap.size ≤ k_) ∧ some k_ ≠ (.slice Ao17 t105.length co17 : Value).ownBlock ∧ some k_ ≠ (.slice Ao22 y112.length co22 : Value).ownBlock ∧ k_ ≠ gb102)) k_ ∧ some k_ ≠ (.slice none 0 0 : Value).ownBlock)) (HO125.out) (fun k_ hk => ⟨⟨hk.1, ⟨hk.2.1, ⟨hk.2.2.1, hk.2.2.2⟩⟩⟩, (by simp [Value.ownBlock])⟩)))); (case aB => exact hbZ); (case aF => exact (fun k_ hk => ⟨(Nat.le_trans (below_size hbZ) hk), Kd.fresh' (Kd.R_lt (rZ HO_103001.out)) k_ hk, Kd.fresh' (Kd.R_lt (rZ HO_103008.out)) k_ hk, Kd.freshB (g := gb102) bkZ k_ hk⟩)); (case aO => exact ((Kd.N_nil _ _ _ _ (fun k_ => (w.heap.size ≤ k_) ∧ some k_ ≠ (.slice Ao17 t105.length co17 : Value).ownBlock ∧ some k_ ≠ (.slice Ao22 y112.length co22 : Value).ownBlock ∧ k_ ≠ gb102)))); (case aS => exact (below_size hbZ)); (case aL => have := LMc59.out; omega); intro v127 w66 ho hb hg hat; rw [← Ny126.out] at ho; have _ := aM (Kd.N_afterv (Kd.N_apart_nil (by (with_reducible repeat (first | apply Kd.N_alloc | apply Kd.N_drewN | apply Kd.N_drew)); exact HO_4.out)) hg hat); have _ := aM (Kd.R_grown (rZ HO_103001.out) hg (fun _ _ => by simp [Value.ownBlock])); have _ := aM (Kd.R_grown (rZ HO_103008.out) hg (fun _ _ => by simp [Value.ownBlock])); have _ := aM (blk_grown (g := gb102) bkZ hg (by simp [Value.ownBlock])); have _ := aM (Kd.V_afterv (Kd.V_apart_nil (vZ HO125.out)) hg hat); have _ := aM hb; have _ := aM ho; clear HO_4 HO_103001 HO_103008 BK102 HO125 HB; rename_i HO_4 HO_103001 HO_103008 BK102 HO125 HB HO128; clear ho hb hg hat; have hz67 := cellsZ10 BK102.out) | ((with_reducible refine gate_builtin (b := .append) (xs := #[.tmp 82, .tmp 84]) rfl ?_); at_builtin; refine Kd.N_append k96 (w0 := w) w.heap.size rfl (.tmp 82) (.tmp 84) 57 96 (.agg #[(.string ⟨#[]⟩), (.slice none 0 0), (.int .i64 0), (.int .i64 0), (.int .i64 0), (.int .i64 0), (.int .i64 0), (.int .i64 0), (.slice none 0 0), (.bool false)]) 120 rfl Tryd.underlying57 info96 rfl (by decide) (by omega) v127 y126 (⟨(⟨t104, t105, t108⟩ : S32), ((rd_T96 l0 x14_1).f1), (⟨((rd_T96 l0 x14_1).f2.f0), ((rd_T96 l0 x14_1).f2.f1), ((rd_T96 l0 x14_1).f2.f2), ((rd_T96 l0 x14_1).f2.f3), y112, ((rd_T96 l0 x14_1).f2.f5)⟩ : S35)⟩ : S96) [.string t104, .slice Ao17 t105.length co17, .int .i64 t108, .int .i64 ((rd_T96 l0 x14_1).f1), .int .i64 ((rd_T96 l0 x14_1).f2.f0), .int .i64 ((rd_T96 l0 x14_1).f2.f1), .int .i64 ((rd_T96 l0 x14_1).f2.f2), .int .i64 ((rd_T96 l0 x14_1).f2.f3), .slice Ao22 y112.length co22, .bool ((rd_T96 l0 x14_1).f2.f5)] (fun k_ => (w.heap.size ≤ k_) ∧ k_ ≠ gb102) (fun k_ => ((fun k_ => (w.heap.size ≤ k_) ∧ k_ ≠ gb102)) k_ ∧ some k_ ≠ (v127 : Value).ownBlock) rfl rfl ?aP (fun _ hk => hk) ?aF ?aO ?aB ?aS ?aL ?_; (case aP => exact (k96_mkF _ _ (⟨(⟨t104, t105, t108⟩ : S32), ((rd_T96 l0 x14_1).f1), (⟨((rd_T96 l0 x14_1).f2.f0), ((rd_T96 l0 x14_1).f2.f1), ((rd_T96 l0 x14_1).f2.f2), ((rd_T96 l0 x14_1).f2.f3), y112, ((rd_T96 l0 x14_1).f2.f5)⟩ : S35)⟩ : S96) (Kd.R_reads' (Kd.R_mono (ok' := (fun k_ => ((fun k_ => (w.heap.size ≤ k_) ∧ k_ ≠ gb102)) k_ ∧ some k_ ≠ (v127 : Value).ownBlock)) (Kd.R_types (Kd.R_apart' (HO_103001.out) (Kd.N_typed HO128.out) (by decide)) BK102.out (by decide)) (fun k_ hk => ⟨⟨hk.1.1, hk.2⟩, hk.1.2⟩))).2.1 (Kd.R_F (Kd.R_mono (ok' := (fun k_ => ((fun k_ => (w.heap.size ≤ k_) ∧ k_ ≠ gb102)) k_ ∧ some k_ ≠ (v127 : Value).ownBlock)) (Kd.R_types (Kd.R_apart' (HO_103001.out) (Kd.N_typed HO128.out) (by decide)) BK102.out (by decide)) (fun k_ hk => ⟨⟨hk.1.1, hk.2⟩, hk.1.2⟩))) (Kd.R_reads' (Kd.R_mono (ok' := (fun k_ => ((fun k_ => (w.heap.size ≤ k_) ∧ k_ ≠ gb102)) k_ ∧ some k_ ≠ (v127 : Value).ownBlock)) (Kd.R_types (Kd.R_apart' (HO_103008.out) (Kd.N_typed HO128.out) (by decide)) BK102.out (by decide)) (fun k_ hk => ⟨⟨hk.1.1, hk.2⟩, hk.1.2⟩))).2.1 (Kd.R_F (Kd.R_mono (ok' := (fun k_ => ((fun k_ => (w.heap.size ≤ k_) ∧ k_ ≠ gb102)) k_ ∧ some k_ ≠ (v127 : Value).ownBlock)) (Kd.R_types (Kd.R_apart' (HO_103008.out) (Kd.N_typed HO128.out) (by decide)) BK102.out (by decide)) (fun k_ hk => ⟨⟨hk.1.1, hk.2⟩, hk.1.2⟩))))); (case aB => exact hbZ); (case aF => exact (fun k_ hk => ⟨(Nat.le_trans (below_size hbZ) hk), Kd.freshB (g := gb102) bkZ k_ hk⟩)); (case aO => exact (by (with_reducible repeat (first | apply Kd.N_alloc | apply Kd.N_drewN | apply Kd.N_drew)); exact Kd.N_mono HO128.out (fun _ hk => ⟨hk.1, hk.2.2.2⟩))); (case aS => exact (below_size hbZ)); (case aL => have := LMc60.out; omega); intro v130 w68 ho hb hg hat; rw [← Ny129.out] at ho; have _ := aM (Kd.N_afterv (ok := (fun k_ => (w.heap.size ≤ k_) ∧ some k_ ≠ (.slice Ao17 t105.length co17 : Value).ownBlock ∧ some k_ ≠ (.slice Ao22 y112.length co22 : Value).ownBlock ∧ k_ ≠ gb102)) (by (with_reducible repeat (first | apply Kd.N_alloc | apply Kd.N_drewN | apply Kd.N_drew)); exact HO_4.out) hg hat); have _ := aM (blk_grown (g := gb102) bkZ hg (Kd.N_away HO128.out (fun _ hk => hk.2.2.2))); have _ := aM (Kd.V_afterv (ok := (fun k_ => (w.heap.size ≤ k_) ∧ some k_ ≠ (.slice Ao17 t105.length co17 : Value).ownBlock ∧ some k_ ≠ (.slice Ao22 y112.length co22 : Value).ownBlock ∧ k_ ≠ gb102)) (vZ HO125.out) hg hat); have _ := aM hb; have _ := aM ho; clear HO_4 BK102 HO125 HB HO128 HO_103001 HO_103008; rename_i HO_4 BK102 HO125 HB HO131; clear ho hb hg hat; have q69 : (x7_9 : Int) ≤ ((x4_1.length : Int) : Int) := of_decide_eq_true z1200; obtain ⟨i069, hi069, _, hsz69, _⟩ := info_parts info96; have hroom69 : x4_1.length ≤ co65 := (Kd.N_reads' HO_4.out).2.1; have hC69 : Kd.F k96 _ _ Ao65 x4_1.length x4_1 := (Kd.V_at (base := w.heap.size) (Kd.N_V HO_4.out)).2.2; have q069 : (0 : Int) ≤ (x7_9 : Int) := of_decide_eq_true z1200; have hcut69 := cut_from (P := Tryd.prog) 57 96 .i64 Tryd.underlying57 hi069 10 hsz69 Ao65 x4_1.length co65 x7_9 q069 q69; have hr69 := Kd.F_cut (m := (x7_9 : Int).toNat) (c := co65) hC69 (by omega) hroom69; obtain ⟨A69, hA69⟩ : ∃ A1, A1 = (if co65 = (x7_9 : Int).toNat then Ao65 else (Ao65 : Option Addr).map (·.add ((x7_9 : Int).toNat * 10))) := ⟨_, rfl⟩; obtain ⟨c69, hc69⟩ : ∃ c1, c1 = co65 - (x7_9 : Int).toNat := ⟨_, rfl⟩; have hy69 : y132.length = x4_1.length - (x7_9 : Int).toNat := (by rw [Ny132.out, List.length_drop] <;> omega); rw [show (x4_1).drop (x7_9 : Int).toNat = y132 from Ny132.out.symm] at hr69; replace hr69 : Kd.F k96 _ _ A69 y132.length y132 := (by rw [hA69]; exact hr69); rw [← hy69, ← hA69, ← hc69] at hcut69; have HO136 := aM (show Kd.V k96 96 _ w.heap.size _ (.slice A69 y132.length c69) y132 from Kd.V_mk (by rw [hy69, hc69]; exact Nat.sub_le_sub_right hroom69 _) hr69); have HC136 := aM (show y132.length ≤ c69 from by rw [hy69, hc69]; exact Nat.sub_le_sub_right hroom69 _); clear hr69 hC69 hroom69 hi069 hsz69 hc69; have KY69 := aM hy69; have KA69 := aM hA69; clear hy69 hA69; replace q69 := eq_true q69) | ((with_reducible refine gate_builtin (b := .append) (xs := #[.tmp 86, .tmp 89]) rfl ?_); at_builtin; refine Kd.N_append_rows k96 (w0 := w) w.heap.size rfl (.tmp 86) (.tmp 89) 57 96 (.agg #[(.string ⟨#[]⟩), (.slice none 0 0), (.int .i64 0), (.int .i64 0), (.int .i64 0), (.int .i64 0), (.int .i64 0), (.int .i64 0), (.slice none 0 0), (.bool false)]) 120 rfl Tryd.underlying57 info96 rfl (by decide) (by omega) v130 y129 y132 _ _ _ (fun k_ => (w.heap.size ≤ k_) ∧ k_ ≠ gb102) (fun k_ => ((fun k_ => (w.heap.size ≤ k_) ∧ k_ ≠ gb102)) k_ ∧ some k_ ≠ (v130 : Value).ownBlock) rfl rfl ?aO ?aR (fun _ hk => hk) ?aF ?aB ?aS ?aL ?_; (case aR => exact (by skip; exact Kd.V_F (Kd.V_mono (ok' := (fun k_ => ((fun k_ => (w.heap.size ≤ k_) ∧ k_ ≠ gb102)) k_ ∧ some k_ ≠ (v130 : Value).ownBlock)) (HO136.out) (fun k_ hk => ⟨⟨hk.1.1, hk.1.2.2.2⟩, hk.2⟩)))); (case aB => exact hbZ); (case aF => exact (fun k_ hk => ⟨(Nat.le_trans (below_size hbZ) hk), Kd.freshB (g := gb102) bkZ k_ hk⟩)); (case aO => exact (by (with_reducible repeat (first | apply Kd.N_alloc | apply Kd.N_drewN | apply Kd.N_drew)); exact HO131.out)); (case aS => exact (below_size hbZ)); (case aL => have := LMc63.out; omega); intro v138 w70 ho hb hg hat; rw [← Ny137.out] at ho; have _ := aM (Kd.N_afterv (ok := (fun k_ => (w.heap.size ≤ k_) ∧ k_ ≠ gb102)) (by (with_reducible repeat (first | apply Kd.N_alloc | apply Kd.N_drewN | apply Kd.N_drew)); exact Kd.N_mono HO_4.out (fun _ hk => ⟨⟨hk.1.1, hk.1.2.2.2⟩, hk.2⟩)) hg hat); have _ := aM (blk_grown (g := gb102) bkZ hg (Kd.N_away HO131.out (fun _ hk => hk.2))); have _ := aM (Kd.V_afterv (ok := (fun k_ => (w.heap.size ≤ k_) ∧ k_ ≠ gb102)) (by (with_reducible repeat (first | apply Kd.V_alloc | apply Kd.V_drewN | apply Kd.V_drew)); exact Kd.V_mono HO125.out (fun _ hk => ⟨⟨hk.1.1, hk.1.2.2.2⟩, hk.2⟩)) hg hat); have _ := aM (Kd.V_afterv (ok := (fun k_ => (w.heap.size ≤ k_) ∧ k_ ≠ gb102)) (by (with_reducible repeat (first | apply Kd.V_alloc | apply Kd.V_drewN | apply Kd.V_drew)); exact Kd.V_mono HO136.out (fun _ hk => ⟨⟨hk.1.1, hk.1.2.2.2⟩, hk.2⟩)) hg hat); have _ := aM hb; have _ := aM ho; clear HO_4 BK102 HO125 HO136 HB HO131; rename_i HO_4 BK102 HO125 HO136 HB HO139; clear ho hb hg hat))
               go_roundg kj35
               case measure => have := HK1.out; have := HJ9.out; have := HJ35.out; omega
               case rel => exact ⟨(y137), (wrap64 (x14_1 + 1)), z4458, H', ⟨by have := HK1.out; have := HJ9.out; have := HJ35.out; omega⟩, ⟨by (with_reducible repeat (first | apply Kd.N_alloc | apply Kd.N_drewN | apply Kd.N_drew)); exact Kd.N_mono HO139.out (fun _ hk => hk.1)⟩, ⟨zcb41⟩⟩
       · replace c7 := Bool.eq_false_iff.mpr c7
         subst c7
         rw [if_neg (show ¬ (false = true) by decide)] at H
         simp only [Option.some.injEq, Prod.mk.injEq] at H
         obtain ⟨rfl, rfl⟩ := H
         have p101 : 0 ≤ (x14_1 : Int) := of_decide_eq_true z1200
         have q101 : x14_1 < (l0.length : Int) := of_decide_eq_true z1200
         obtain ⟨ad101, A101_1, c101_1, A101_8, c101_8, e101, hx101_0, hx101_1, hx101_2, hx101_3, hx101_4, hx101_5, hx101_6, hx101_7, hx101_8, hx101_9, hl101_1, hi101_1, hl101_8, hi101_8⟩ := at_T96 HR0.out x14_1 p101 q101
         cases e101
         have TW101_1 := aM hx101_1
         have TW101_8 := aM hx101_8
         replace hx101_0 := (HB.out.cell (World.block_lt_of_cell? w _ hx101_0)).trans hx101_0
         replace hx101_1 := (HB.out.cell (World.block_lt_of_cell? w _ hx101_1)).trans hx101_1
         replace hx101_2 := (HB.out.cell (World.block_lt_of_cell? w _ hx101_2)).trans hx101_2
         replace hx101_3 := (HB.out.cell (World.block_lt_of_cell? w _ hx101_3)).trans hx101_3
         replace hx101_4 := (HB.out.cell (World.block_lt_of_cell? w _ hx101_4)).trans hx101_4
         replace hx101_5 := (HB.out.cell (World.block_lt_of_cell? w _ hx101_5)).trans hx101_5
         replace hx101_6 := (HB.out.cell (World.block_lt_of_cell? w _ hx101_6)).trans hx101_6
         replace hx101_7 := (HB.out.cell (World.block_lt_of_cell? w _ hx101_7)).trans hx101_7
         replace hx101_8 := (HB.out.cell (World.block_lt_of_cell? w _ hx101_8)).trans hx101_8
         replace hx101_9 := (HB.out.cell (World.block_lt_of_cell? w _ hx101_9)).trans hx101_9
         have HR101_1 := aM hi101_1
         have HC101_1 := aM hl101_1
         clear hi101_1 hl101_1
         have HR101_8 := aM hi101_8
         have HC101_8 := aM hl101_8
         clear hi101_8 hl101_8
         replace p101 := eq_true p101
         replace q101 := eq_true q101
         go_wp2_with (first | ((with_reducible refine gate_dst (N := 6) rfl ?_); refine bX 6 96 #[.string (⟨#[]⟩ : ByteArray), .slice none 0 0, .int .i64 0, .int .i64 0, .int .i64 0, .int .i64 0, .int .i64 0, .int .i64 0, .slice none 0 0, .bool false] ?_; intro gb102 hg w71 hbox hb; have _ := aM (Kd.N_below (Kd.N_elderB (by (with_reducible repeat (first | apply Kd.N_alloc | apply Kd.N_drewN | apply Kd.N_drew)); exact HO_4.out) gb102 (Nat.le_of_eq hg.symm)) hb); have _ := aM (below_step hbZ hb); have _ := aM hbox; have _ := szZ hg; have _ := szZ hg; clear HO_4 HB; rename_i HO_4 HB BK102 GW102 GE102; clear hb hbox hg; have hz72 := cellsZ10 BK102.out) | ((with_reducible refine gate_callee (f := 41) rfl ?_); refine gL 20 Tryd.func41 #[.agg #[.string ((rd_T96 l0 x14_1).f0.f0), .slice A101_1 ((rd_T96 l0 x14_1).f0.f1).length c101_1, .int .i64 ((rd_T96 l0 x14_1).f0.f2)]] ?_; (with_reducible refine (spec_GoodKey.calls k1 ((rd_T96 l0 x14_1).f0.f0) _ _ ((rd_T96 l0 x14_1).f0.f1) ((rd_T96 l0 x14_1).f0.f2) false _ ?side1 ?side2 A6.out).mono ?_); (case side1 => exact Kd.C_below HR101_1.out hbZ); (case side2 => exact HC101_1.out); rintro e w73 ⟨rfl, hb⟩; refine ⟨_, rfl, ?_⟩; have _ := aM (Kd.N_below (by (with_reducible repeat (first | apply Kd.N_alloc | apply Kd.N_drewN | apply Kd.N_drew)); exact (Kd.N_mono (Kd.N_far (p := ⟨gb102, 9, none⟩) (Kd.N_far (p := ⟨gb102, 8, none⟩) (Kd.N_far (p := ⟨gb102, 7, none⟩) (Kd.N_far (p := ⟨gb102, 6, none⟩) (Kd.N_far (p := ⟨gb102, 5, none⟩) (Kd.N_far (p := ⟨gb102, 4, none⟩) (Kd.N_far (p := ⟨gb102, 3, none⟩) (Kd.N_far (p := ⟨gb102, 2, none⟩) (Kd.N_far (p := ⟨gb102, 1, none⟩) (Kd.N_far (p := ⟨gb102, 0, none⟩) (Kd.N_mono HO_4.out (fun k_ hk => (⟨hk, hk.2⟩ : _ ∧ k_ ≠ gb102))) (fun _ hk => hk.2) (.string ((rd_T96 l0 x14_1).f0.f0))) (fun _ hk => hk.2) (.slice A101_1 ((rd_T96 l0 x14_1).f0.f1).length c101_1)) (fun _ hk => hk.2) (.int .i64 ((rd_T96 l0 x14_1).f0.f2))) (fun _ hk => hk.2) (.int .i64 ((rd_T96 l0 x14_1).f1))) (fun _ hk => hk.2) (.int .i64 ((rd_T96 l0 x14_1).f2.f0))) (fun _ hk => hk.2) (.int .i64 ((rd_T96 l0 x14_1).f2.f1))) (fun _ hk => hk.2) (.int .i64 ((rd_T96 l0 x14_1).f2.f2))) (fun _ hk => hk.2) (.int .i64 ((rd_T96 l0 x14_1).f2.f3))) (fun _ hk => hk.2) (.slice A101_8 ((rd_T96 l0 x14_1).f2.f4).length c101_8)) (fun _ hk => hk.2) (.bool ((rd_T96 l0 x14_1).f2.f5))) (fun _ h_ => h_.1))) hb); have _ := aM (blk_below (g := gb102) (o := .cells #[.string ((rd_T96 l0 x14_1).f0.f0), .slice A101_1 ((rd_T96 l0 x14_1).f0.f1).length c101_1, .int .i64 ((rd_T96 l0 x14_1).f0.f2), .int .i64 ((rd_T96 l0 x14_1).f1), .int .i64 ((rd_T96 l0 x14_1).f2.f0), .int .i64 ((rd_T96 l0 x14_1).f2.f1), .int .i64 ((rd_T96 l0 x14_1).f2.f2), .int .i64 ((rd_T96 l0 x14_1).f2.f3), .slice A101_8 ((rd_T96 l0 x14_1).f2.f4).length c101_8, .bool ((rd_T96 l0 x14_1).f2.f5)] 96 (0, 0)) bkZ hb); have _ := aM (below_step hbZ hb); clear HO_4 BK102 HB; rename_i HO_4 BK102 HB; (try clear hb)))
         go_ret2
         exact ⟨_, z674d, z2bfb, zcb41⟩
     · rw [if_neg c3] at H
       have c3b0 := nL c3
       clear c3
       simp only [Option.some.injEq, Prod.mk.injEq] at H
       obtain ⟨rfl, rfl⟩ := H
       go_wp2
       go_ret2
       exact ⟨_, z674d, by (with_reducible repeat (first | apply Kd.N_alloc | apply Kd.N_drewN | apply Kd.N_drew)); exact HO_4.out, z5acd⟩

end Go.Proofs.YtkgmoajdcibafaaDoor.P

-- written by a program of this session's (wip/pp)
namespace Go.Proofs.YtkgmoajdcibafaaDoor.P
open Go.RowKit Go.Proofs.YtkgmoajdcibafaaDoorW.PrintWords Go.Proofs.YtkgmoajdcibafaaDoorW.PrintLast Go.Proofs.YtkgmoajdcibafaaDoorW.PrintMore
attribute [local go_sem] max2_int min2_int max_two min_two max_three min_three max_four min_four str_geq str_gtr str_leq   -- for this text's walks alone
set_option linter.unusedVariables false
set_option linter.unusedSimpArgs false

/-! ### laws_toTag: function 88 -/
def laws_toTag.f (a0_0 : ByteArray) (a0_1 : ByteArray) : Option (ByteArray × ByteArray) := some (a0_0, a0_1)
set_option maxHeartbeats 8000000 in
set_option maxRecDepth 100000 in
theorem laws_toTag.calls (a0_0 : ByteArray) (a0_1 : ByteArray) (r1 : ByteArray) (r2 : ByteArray) (w : World) (h : laws_toTag.f a0_0 a0_1 = some (r1, r2)) :
 Calls Tryd.prog 88 #[.agg #[.string a0_0, .string a0_1]] w fun e w' => e = .returned (.agg #[.string r1, .string r2]) ∧ Below w.heap.size w w' := by
 have hu119 := Tryd.underlying119
 have hu123 := Tryd.underlying123
 have HB := aM (Below.refl w.heap.size w)
 have H : (some (a0_0, a0_1)) = some (r1, r2) := h
 clear h
 simp only [Option.some.injEq, Prod.mk.injEq] at H
 obtain ⟨rfl, rfl⟩ := H
 go_enter Tryd.func88, Tryd.ntmps88
 go_wp2_with (first | ((with_reducible refine gate_dst (N := 1) rfl ?_); refine bX 1 119 #[.string a0_0, .string a0_1] ?_; intro gb101 hg w2 hbox hb; have _ := aM (below_step hbZ hb); have _ := aM hbox; have _ := szZ hg; have _ := szZ hg; clear HB; rename_i HB BK101 GW101 GE101; clear hb hbox hg) | ((with_reducible refine gate_dst (N := 2) rfl ?_); refine bX 2 123 #[.string (⟨#[]⟩ : ByteArray), .string (⟨#[]⟩ : ByteArray)] ?_; intro gb102 hg w3 hbox hb; have _ := bB gb101 hb; have _ := aM (below_step hbZ hb); have _ := aM hbox; have _ := szZ hg; have _ := szZ hg; have ⟨_, _⟩ := nbB gb101 hg; clear BK101 HB; rename_i BK101 HB BK102 GW102 GE102 NB101_102 NB102_101; clear hb hbox hg) | ((with_reducible refine gate_dst (N := 3) rfl ?_); refine bX 3 123 #[.string (⟨#[]⟩ : ByteArray), .string (⟨#[]⟩ : ByteArray)] ?_; intro gb103 hg w4 hbox hb; have _ := bB gb101 hb; have _ := bB gb102 hb; have _ := aM (below_step hbZ hb); have _ := aM hbox; have _ := szZ hg; have _ := szZ hg; have ⟨_, _⟩ := nbB gb101 hg; have ⟨_, _⟩ := nbB gb102 hg; clear BK101 BK102 HB; rename_i BK101 BK102 HB BK103 GW103 GE103 NB101_103 NB103_101 NB102_103 NB103_102; clear hb hbox hg; have hnb5 := NB101_102.out; have hnc5 := NB102_101.out; have hnb6 := NB101_103.out; have hnc6 := NB103_101.out; have hz7 := cellsZ2 BK101.out; have hnb8 := NB103_102.out; have hnc8 := NB102_103.out; have hz9 := cellsZ2 BK103.out; have hz10 := cellsZ2 BK102.out))
 refine bodyPost_ret (results_cell_row rfl _ _ gb102 123 #[.string a0_0, .string a0_1] (0, 0) _ rfl bkZ Tryd.underlying123 rfl (by kernel_rfl)) rfl ?_
 exact ⟨z674d, zcb41⟩

end Go.Proofs.YtkgmoajdcibafaaDoor.P

-- written by a program of this session's (wip/pp)
namespace Go.Proofs.YtkgmoajdcibafaaDoor.P
open Go.RowKit Go.Proofs.YtkgmoajdcibafaaDoorW.PrintWords Go.Proofs.YtkgmoajdcibafaaDoorW.PrintLast Go.Proofs.YtkgmoajdcibafaaDoorW.PrintMore
attribute [local go_sem] max2_int min2_int max_two min_two max_three min_three max_four min_four str_geq str_gtr str_leq   -- for this text's walks alone
set_option linter.unusedVariables false
set_option linter.unusedSimpArgs false

/-! ### laws_toTagS: function 45 -/
def laws_toTagS.l0 : Nat → List (S119) → List (S123) → Int → Option ((List (S123)))
 | 0, _, _, _ => none
 | k + 1, x0, x3, x4 => if x4 < (x0.length : Int) then (if 0 ≤ x4 then ((laws_toTag.f ((rd_T119 x0 x4).f0) ((rd_T119 x0 x4).f1)).bind fun bt105 => (if x4 < (x3.length : Int) then (laws_toTagS.l0 k x0 (x3.set (x4 : Int).toNat (⟨bt105.1, bt105.2⟩ : S123)) (wrap64 (x4 + 1))) else (none))) else (none)) else (some x3)
def laws_toTagS.f (k : Nat) (l0 : List (S119)) : Option ((List (S123))) := if 0 ≤ (l0.length : Int) then (if ((l0.length : Int) : Int).toNat ≤ 8796093022208 then (laws_toTagS.l0 k l0 (List.replicate ((l0.length : Int) : Int).toNat z123) 0) else (none)) else (none)
theorem laws_toTagS.mono_l : ∀ k, (∀ y0 y1 y2, LeO (laws_toTagS.l0 k y0 y1 y2) (laws_toTagS.l0 (k + 1) y0 y1 y2))
 | 0 => fun _ _ _ r h => by simp [laws_toTagS.l0] at h
 | k + 1 => by
  have ih0 := laws_toTagS.mono_l k
  · intro y0 y1 y2
    unfold laws_toTagS.l0
    exact moZ
theorem laws_toTagS.mono : ∀ a0 k, LeO (laws_toTagS.f k a0) (laws_toTagS.f (k + 1) a0) := by
 intro a0 k
 have ih0 := laws_toTagS.mono_l k
 unfold laws_toTagS.f
 exact moZ
set_option maxHeartbeats 8000000 in
set_option maxRecDepth 100000 in
theorem laws_toTagS.calls (k : Nat) (A0 : Option Addr) (c0 : Nat) (l0 : List (S119)) (r : List (S123)) (w : World) (hr0 : Kd.C k119 w A0 l0.length l0) (hc0 : l0.length ≤ c0) (h : laws_toTagS.f k l0 = some r) :
 Calls Tryd.prog 45 #[.slice A0 l0.length c0] w fun e w' => ∃ v0_ : Value, e = .returned (v0_) ∧ Kd.R k123 123 w' w.heap.size (fun _ => True) v0_ r ∧ Below w.heap.size w w' := by
 have hu119 := Tryd.underlying119
 have hu123 := Tryd.underlying123
 have HR0 := aM hr0
 have HC0 := aM hc0
 clear hr0 hc0
 have HB := aM (Below.refl w.heap.size w)
 have H : (if 0 ≤ (l0.length : Int) then (if ((l0.length : Int) : Int).toNat ≤ 8796093022208 then (laws_toTagS.l0 k l0 (List.replicate ((l0.length : Int) : Int).toNat z123) 0) else (none)) else (none)) = some r := h
 clear h
 replace H := ifS H; obtain ⟨c2, H⟩ := H
 have c2b0 := eq_true c2
 have c2b1 : decide (0 ≤ (l0.length : Int)) = true := decide_eq_true c2
 clear c2
 replace H := ifS H; obtain ⟨c3, H⟩ := H
 have c3b0 := eq_true c3
 have c3b1 : decide (((l0.length : Int) : Int).toNat ≤ 8796093022208) = true := decide_eq_true c3
 clear c3
 obtain ⟨y101, hy101⟩ : ∃ y_ : List (S123), y_ = (List.replicate ((l0.length : Int) : Int).toNat z123) := ⟨_, rfl⟩
 first | (replace H := bindS H; rw [← hy101] at H; try dsimp only at H) | rw [← hy101] at H
 have Ny101 := aM hy101
 clear hy101
 have H' := aM H
 clear H
 go_enter Tryd.func45, Tryd.ntmps45
 go_wp2_with (first | ((with_reducible refine gate_dst (N := 7) rfl ?_); refine Kd.R_make k123 _ 123 rfl (N := 7) rfl 30 _ _ rfl (l0.length : Int) rfl rfl Tryd.underlying30 (.agg #[(.string ⟨#[]⟩), (.string ⟨#[]⟩)]) 32 info123 rfl (by decide) (by omega) z123 (ok := fun _ => True) (okp := fun _ => True) (k123_mkM _ _ _ z123 ) (fun _ hk => hk) trivial (of_decide_eq_true z1200) (Nat.le_trans (Nat.mul_le_mul_right _ (of_decide_eq_true z1200 : (l0.length : Int).toNat ≤ 8796093022208)) (by omega)) (Below.refl _ _) (Nat.le_refl _) ?_; intro v102 w4 ho5 hb hg_ hnew_; clear hg_ hnew_; (first | rw [← Ny101.out] at ho5 | (simp only [Int.reduceToNat] at ho5; rw [← Ny101.out] at ho5)); have _ := aM (Kd.R_lower ho5 (below_size hbZ)); have _ := aM (below_step hbZ hb); clear HB; rename_i HO103 HB; clear hb ho5))
 go_loopg [4] k (fun kq v4 w' => ∃ (x3_1 : List (S123)) (x4_1 : Int), v4 = .int .i64 x4_1 ∧ Aside0 (laws_toTagS.l0 kq l0 x3_1 x4_1 = some r) ∧ Aside0 (kq ≤ k) ∧ Aside0 (Kd.R k123 123 w' w.heap.size (fun _ => True) v102 x3_1) ∧ Aside0 (Below w.heap.size w w'))
 case atStart => exact ⟨(y101), (0), z4458, H', ⟨Nat.le_refl _⟩, ⟨rZ HO103.out⟩, ⟨z5acd⟩⟩
 case round =>
  clear H'
  (try clear c2b0); (try clear c2b1); (try clear c3b0); (try clear c3b1)
  obtain ⟨x3_1, x4_1, rfl, HA, HK1, HO_3, HB⟩ := hrel
  cases gk with
  | zero => exact absurd HA.out (by simp [laws_toTagS.l0])
  | succ k1 =>
   have H := HA.out
   clear HA
   simp only [laws_toTagS.l0] at H
   by_cases c6 : x4_1 < (l0.length : Int)
   · rw [if_pos c6] at H
     have c6b0 := dL c6
     clear c6
     obtain ⟨c7b0, H⟩ := sE H
     obtain ⟨⟨t105, t106⟩, A8, H⟩ := bS H; try dsimp only at H
     obtain ⟨c9b0, H⟩ := sL H
     obtain ⟨y107, hy107⟩ : ∃ y_ : List (S123), y_ = (x3_1.set (x4_1 : Int).toNat (⟨t105, t106⟩ : S123)) := ⟨_, rfl⟩
     first | (replace H := bindS H; rw [← hy107] at H; try dsimp only at H) | rw [← hy107] at H
     have Ny107 := aM hy107
     clear hy107
     have H' := aM H
     clear H
     have p104 : 0 ≤ (x4_1 : Int) := of_decide_eq_true z1200
     have q104 : x4_1 < (l0.length : Int) := of_decide_eq_true z1200
     obtain ⟨ad104, e104, hx104_0, hx104_1⟩ := at_T119 HR0.out x4_1 p104 q104
     cases e104
     replace hx104_0 := (HB.out.cell (World.block_lt_of_cell? w _ hx104_0)).trans hx104_0
     replace hx104_1 := (HB.out.cell (World.block_lt_of_cell? w _ hx104_1)).trans hx104_1
     replace p104 := eq_true p104
     replace q104 := eq_true q104
     go_wp2_with (first | ((with_reducible refine gate_callee (f := 88) rfl ?_); refine gL 20 Tryd.func88 #[.agg #[.string ((rd_T119 l0 x4_1).f0), .string ((rd_T119 l0 x4_1).f1)]] ?_; (with_reducible refine (laws_toTag.calls ((rd_T119 l0 x4_1).f0) ((rd_T119 l0 x4_1).f1) t105 t106 _ A8.out).mono ?_); rintro e w11 ⟨rfl, hb⟩; refine ⟨_, rfl, ?_⟩; have _ := aM (Kd.R_below (rZ HO_3.out) hb); have _ := aM (below_step hbZ hb); clear HO_3 HB; rename_i HO_3 HB; (try clear hb); have p10 : 0 ≤ (x4_1 : Int) := of_decide_eq_true z1200; have q10 : (x4_1 : Int) < ((x3_1.length : Int) : Int) := of_decide_eq_true z1200; obtain ⟨go10, co10, eo10, gb10, gl10, cl10, HG10⟩ := Kd.R_form HO_3.out (by omega); (first | cases eo10 | (injection eo10 with ea_ en_ ec_; (first | subst ea_ | (injection ea_ with ea_; subst ea_)); subst ec_; clear en_)); have GB10 := aM gb10; have GG10 := aM HG10; clear gb10 gl10 HG10; obtain ⟨ce10, hcl10, hM10, hcc10, hfr10⟩ := Kd.R_elem HO_3.out z123 (x4_1 : Int) p10 q10; obtain rfl := k123_openM hM10; have hx10_0 : w11.cell? ⟨go10, (x4_1 : Int).toNat * 2, none⟩ = some (.string ((rd_T123 x3_1 x4_1).f0)) := hcc10 0 _ rfl; have hx10_1 : w11.cell? ⟨go10, (x4_1 : Int).toNat * 2 + 1, none⟩ = some (.string ((rd_T123 x3_1 x4_1).f1)) := hcc10 1 _ rfl; have hf10_0 : w11.frozen? ⟨go10, (x4_1 : Int).toNat * 2, none⟩ = false := hfr10 0; have hf10_1 : w11.frozen? ⟨go10, (x4_1 : Int).toNat * 2 + 1, none⟩ = false := hfr10 1; clear hcl10 hcc10 hfr10 hM10; replace p10 := eq_true p10; replace q10 := eq_true q10; have HX12 := aM (show Kd.R k123 123 w11 w.heap.size (fun _ => True) (.slice (some ⟨go10, 0, none⟩) x3_1.length co10) x3_1 from (rZ HO_3.out)); obtain ⟨ce12, hcl12, hM12, hcc12, hfr12⟩ := Kd.R_elem HX12.out z123 (x4_1 : Int) (of_decide_eq_true z1200) (by have h_ : (x4_1 : Int) < ((x3_1.length : Int) : Int) := of_decide_eq_true z1200; first | exact h_ | (have e_ := (Kd.R_reads' HO_3.out).1; omega) | simpa using h_); obtain rfl := k123_openM hM12; have HP12 := Kd.R_seg HX12.out (x4_1 : Int) (of_decide_eq_true z1200) (by have h_ : (x4_1 : Int) < ((x3_1.length : Int) : Int) := of_decide_eq_true z1200; first | exact h_ | (have e_ := (Kd.R_reads' HO_3.out).1; omega) | simpa using h_) (seg := [.string t105, .string t106]) (j := 0) hcl12 hcc12 (show 2 ≤ 2 from by decide) (x' := (⟨t105, t106⟩ : S123)) (k123_mkM _ _ _ (⟨t105, t106⟩ : S123) ) (fun _ hk => hk); have hx12_0 := hcc12 0 _ rfl; (try simp only [show (k123).sz = 2 from rfl, Nat.mul_one, Nat.add_zero] at hx12_0); have hf12_0 := hfr12 0; (try simp only [show (k123).sz = 2 from rfl, Nat.mul_one, Nat.add_zero] at hf12_0); have hx12_1 := hcc12 1 _ rfl; (try simp only [show (k123).sz = 2 from rfl, Nat.mul_one, Nat.add_zero] at hx12_1); have hf12_1 := hfr12 1; (try simp only [show (k123).sz = 2 from rfl, Nat.mul_one, Nat.add_zero] at hf12_1); clear hcl12 hcc12 hfr12 hM12) | ((with_reducible refine gate_store (t := 123) (p := 21) rfl ?_); refine store_event (t := 123) (p := 21) (v := ?vo_w13) (w1 := ((w11.setCell ⟨go10, (x4_1 : Int).toNat * 2, none⟩ (.string t105)).setCell ⟨go10, (x4_1 : Int).toNat * 2 + 1, none⟩ (.string t106))) ?hg ?ho ?hn ?hr ?_; (case ho => rfl); (case hg => rfl); (case hn => rfl); (case hr => first | (go_simp; done) | (go_simp; rfl)); intro w13 hw; have hg : w11.grownBy w13 (some go10) := (by rw [hw]; exact HP12.2); have hp_ : Kd.R k123 123 w13 w.heap.size (fun _ => True) (.slice (some ⟨go10, 0, none⟩) x3_1.length co10) y107 := (by rw [hw, Ny107.out]; exact HP12.1); clear HP12; have _ := aM hp_; have _ := aM ((by rw [hw]; exact below_set (below_set (HB.out) GB10.out) GB10.out : Below w.heap.size w w13)); clear HO_3 HB; rename_i HO_3 HB; clear hg hw hp_))
     go_roundg k1
     case measure => have := HK1.out; omega
     case rel => exact ⟨(y107), (wrap64 (x4_1 + 1)), z4458, H', ⟨zfb39⟩, ⟨rZ HO_3.out⟩, ⟨z5acd⟩⟩
   · rw [if_neg c6] at H
     have c6b0 := nL c6
     clear c6
     obtain rfl := Option.some.inj H
     go_wp2
     go_ret
     exact ⟨_, z674d, rZ HO_3.out, z5acd⟩
end Go.Proofs.YtkgmoajdcibafaaDoor.P

-- written by a program of this session's (wip/pp)
namespace Go.Proofs.YtkgmoajdcibafaaDoor.P
open Go.RowKit Go.Proofs.YtkgmoajdcibafaaDoorW.PrintWords Go.Proofs.YtkgmoajdcibafaaDoorW.PrintLast Go.Proofs.YtkgmoajdcibafaaDoorW.PrintMore
attribute [local go_sem] max2_int min2_int max_two min_two max_three min_three max_four min_four str_geq str_gtr str_leq   -- for this text's walks alone
set_option linter.unusedVariables false
set_option linter.unusedSimpArgs false

/-! ### laws_toKey: function 12 -/
def laws_toKey.f (k : Nat) (a0_0 : ByteArray) (l0_1 : List (S119)) (a0_2 : Int) : Option (ByteArray × (List (S123)) × Int) := (laws_toTagS.f k l0_1).bind fun t104 => (some (a0_0, t104, a0_2))
theorem laws_toKey.mono : ∀ a0 a1 a2 k, LeO (laws_toKey.f k a0 a1 a2) (laws_toKey.f (k + 1) a0 a1 a2) := by
 intro a0 a1 a2 k
 have m0 := @laws_toTagS.mono
 unfold laws_toKey.f
 exact moZ
set_option maxHeartbeats 8000000 in
set_option maxRecDepth 100000 in
theorem laws_toKey.calls (k : Nat) (a0_0 : ByteArray) (A0_1 : Option Addr) (c0_1 : Nat) (l0_1 : List (S119)) (a0_2 : Int) (r1 : ByteArray) (r2 : List (S123)) (r3 : Int) (w : World) (hr0_1 : Kd.C k119 w A0_1 l0_1.length l0_1) (hc0_1 : l0_1.length ≤ c0_1) (h : laws_toKey.f k a0_0 l0_1 a0_2 = some (r1, r2, r3)) :
 Calls Tryd.prog 12 #[.agg #[.string a0_0, .slice A0_1 l0_1.length c0_1, .int .i64 a0_2]] w fun e w' => ∃ v1_ : Value, e = .returned (.agg #[.string r1, v1_, .int .i64 r3]) ∧ Kd.R k123 123 w' w.heap.size (fun _ => True) v1_ r2 ∧ Below w.heap.size w w' := by
 have hu27 := Tryd.underlying27
 have hu32 := Tryd.underlying32
 have HR0_1 := aM hr0_1
 have HC0_1 := aM hc0_1
 clear hr0_1 hc0_1
 have HB := aM (Below.refl w.heap.size w)
 have H : ((laws_toTagS.f k l0_1).bind fun t104 => (some (a0_0, t104, a0_2))) = some (r1, r2, r3) := h
 clear h
 obtain ⟨t104, A2, H⟩ := bS H; try dsimp only at H
 simp only [Option.some.injEq, Prod.mk.injEq] at H
 obtain ⟨rfl, rfl, rfl⟩ := H
 go_enter Tryd.func12, Tryd.ntmps12
 go_wp2_with (first | ((with_reducible refine gate_dst (N := 1) rfl ?_); refine bX 1 27 #[.string a0_0, .slice A0_1 l0_1.length c0_1, .int .i64 a0_2] ?_; intro gb101 hg w3 hbox hb; have _ := aM (below_step hbZ hb); have _ := aM hbox; have _ := szZ hg; have _ := szZ hg; clear HB; rename_i HB BK101 GW101 GE101; clear hb hbox hg) | ((with_reducible refine gate_dst (N := 2) rfl ?_); refine bX 2 32 #[.string (⟨#[]⟩ : ByteArray), .slice none 0 0, .int .i64 0] ?_; intro gb102 hg w4 hbox hb; have _ := bB gb101 hb; have _ := aM (below_step hbZ hb); have _ := aM hbox; have _ := szZ hg; have _ := szZ hg; have ⟨_, _⟩ := nbB gb101 hg; clear BK101 HB; rename_i BK101 HB BK102 GW102 GE102 NB101_102 NB102_101; clear hb hbox hg) | ((with_reducible refine gate_dst (N := 3) rfl ?_); refine bX 3 32 #[.string (⟨#[]⟩ : ByteArray), .slice none 0 0, .int .i64 0] ?_; intro gb103 hg w5 hbox hb; have _ := bB gb101 hb; have _ := bB gb102 hb; have _ := aM (below_step hbZ hb); have _ := aM hbox; have _ := szZ hg; have _ := szZ hg; have ⟨_, _⟩ := nbB gb101 hg; have ⟨_, _⟩ := nbB gb102 hg; clear BK101 BK102 HB; rename_i BK101 BK102 HB BK103 GW103 GE103 NB101_103 NB103_101 NB102_103 NB103_102; clear hb hbox hg; have hnb6 := NB101_102.out; have hnc6 := NB102_101.out; have hnb7 := NB101_103.out; have hnc7 := NB103_101.out; have hz8 := cellsZ3 BK101.out; have hnb9 := NB103_102.out; have hnc9 := NB102_103.out; have hz10 := cellsZ3 BK103.out) | ((with_reducible refine gate_callee (f := 45) rfl ?_); refine gL 9 Tryd.func45 #[.slice A0_1 l0_1.length c0_1] ?_; (with_reducible refine (laws_toTagS.calls k _ _ l0_1 t104 _ ?side1 ?side2 A2.out).mono ?_); (case side1 => exact Kd.C_below HR0_1.out hbZ); (case side2 => exact HC0_1.out); rintro e w11 ⟨v105, rfl, ho0, hb⟩; refine ⟨_, rfl, ?_⟩; have _ := aM (Kd.R_lower ho0 (below_size hbZ)); have _ := bB gb101 hb; have _ := bB gb102 hb; have _ := aM (blk_below (g := gb103) (o := .cells #[.string a0_0, .slice none 0 0, .int .i64 0] 32 (0, 0)) bkZ hb); have _ := aM (below_step hbZ hb); clear BK101 BK102 BK103 HB; rename_i HO106 BK101 BK102 BK103 HB; (try clear hb); (try clear ho0); obtain ⟨Ao12, co12, eo12⟩ := Kd.R_slice HO106.out; subst eo12; have hz13 := cellsZ3 BK103.out; have hz14 := cellsZ3 BK101.out; have hz15 := cellsZ3 BK102.out))
 refine bodyPost_ret (results_cell_row rfl _ _ gb102 32 #[.string a0_0, .slice Ao12 t104.length co12, .int .i64 a0_2] (0, 0) _ rfl bkZ Tryd.underlying32 rfl (by kernel_rfl)) rfl ?_
 exact ⟨_, z674d, by (with_reducible repeat (first | apply Kd.R_alloc | apply Kd.R_drewN | apply Kd.R_drew)); exact Kd.R_mono (Kd.R_far (p := ⟨gb102, 2, none⟩) (Kd.R_far (p := ⟨gb102, 1, none⟩) (Kd.R_far (p := ⟨gb102, 0, none⟩) (Kd.R_far (p := ⟨gb103, 2, none⟩) (Kd.R_far (p := ⟨gb103, 1, none⟩) (Kd.R_types (Kd.R_types HO106.out BK103.out (by decide)) BK102.out (by decide)) (fun _ hk => hk.1.2) (.slice Ao12 t104.length co12)) (fun _ hk => hk.1.2) (.int .i64 a0_2)) (fun _ hk => hk.2) (.string a0_0)) (fun _ hk => hk.2) (.slice Ao12 t104.length co12)) (fun _ hk => hk.2) (.int .i64 a0_2)) (fun _ hk => trivial), zcb41⟩

end Go.Proofs.YtkgmoajdcibafaaDoor.P

-- written by a program of this session's (wip/pp)
namespace Go.Proofs.YtkgmoajdcibafaaDoor.P
open Go.RowKit Go.Proofs.YtkgmoajdcibafaaDoorW.PrintWords Go.Proofs.YtkgmoajdcibafaaDoorW.PrintLast Go.Proofs.YtkgmoajdcibafaaDoorW.PrintMore
attribute [local go_sem] max2_int min2_int max_two min_two max_three min_three max_four min_four str_geq str_gtr str_leq   -- for this text's walks alone
set_option linter.unusedVariables false
set_option linter.unusedSimpArgs false

/-! ### laws_toIntS: function 114 -/
def laws_toIntS.l0 : Nat → List Int → List Int → Int → Option (List Int)
 | 0, _, _, _ => none
 | k + 1, x0, x3, x4 => if x4 < (x0.length : Int) then (if 0 ≤ x4 then (if x4 < (x3.length : Int) then (laws_toIntS.l0 k x0 (x3.set (x4 : Int).toNat (rd x0 x4)) (wrap64 (x4 + 1))) else (none)) else (none)) else (some x3)
def laws_toIntS.f (k : Nat) (l0 : List Int) : Option (List Int) := if 0 ≤ (l0.length : Int) then (if ((l0.length : Int) : Int).toNat ≤ 35184372088832 then (laws_toIntS.l0 k l0 (List.replicate ((l0.length : Int) : Int).toNat 0) 0) else (none)) else (none)
theorem laws_toIntS.mono_l : ∀ k, (∀ y0 y1 y2, LeO (laws_toIntS.l0 k y0 y1 y2) (laws_toIntS.l0 (k + 1) y0 y1 y2))
 | 0 => fun _ _ _ r h => by simp [laws_toIntS.l0] at h
 | k + 1 => by
  have ih0 := laws_toIntS.mono_l k
  · intro y0 y1 y2
    unfold laws_toIntS.l0
    exact moZ
theorem laws_toIntS.mono : ∀ a0 k, LeO (laws_toIntS.f k a0) (laws_toIntS.f (k + 1) a0) := by
 intro a0 k
 have ih0 := laws_toIntS.mono_l k
 unfold laws_toIntS.f
 exact moZ
set_option maxHeartbeats 8000000 in
set_option maxRecDepth 100000 in
theorem laws_toIntS.calls (k : Nat) (A0 : Option Addr) (c0 : Nat) (l0 : List Int) (r : List Int) (w : World) (hr0 : Kd.C (Kd.int .i64) w A0 l0.length l0) (hc0 : l0.length ≤ c0) (h : laws_toIntS.f k l0 = some r) :
 Calls Tryd.prog 114 #[.slice A0 l0.length c0] w fun e w' => ∃ v0_ : Value, e = .returned (v0_) ∧ Kd.R (Kd.int .i64) 3 w' w.heap.size (fun _ => True) v0_ r ∧ Below w.heap.size w w' := by
 have HR0 := aM hr0
 have HC0 := aM hc0
 clear hr0 hc0
 have HB := aM (Below.refl w.heap.size w)
 have H : (if 0 ≤ (l0.length : Int) then (if ((l0.length : Int) : Int).toNat ≤ 35184372088832 then (laws_toIntS.l0 k l0 (List.replicate ((l0.length : Int) : Int).toNat 0) 0) else (none)) else (none)) = some r := h
 clear h
 replace H := ifS H; obtain ⟨c2, H⟩ := H
 have c2b0 := eq_true c2
 have c2b1 : decide (0 ≤ (l0.length : Int)) = true := decide_eq_true c2
 clear c2
 replace H := ifS H; obtain ⟨c3, H⟩ := H
 have c3b0 := eq_true c3
 have c3b1 : decide (((l0.length : Int) : Int).toNat ≤ 35184372088832) = true := decide_eq_true c3
 clear c3
 obtain ⟨y101, hy101⟩ : ∃ y_ : List Int, y_ = (List.replicate ((l0.length : Int) : Int).toNat 0) := ⟨_, rfl⟩
 first | (replace H := bindS H; rw [← hy101] at H; try dsimp only at H) | rw [← hy101] at H
 have Ny101 := aM hy101
 clear hy101
 have H' := aM H
 clear H
 go_enter Tryd.func114, Tryd.ntmps114
 go_wp2_with (first | ((with_reducible refine gate_dst (N := 7) rfl ?_); refine Kd.R_make (Kd.int .i64) _ 3 rfl (N := 7) rfl 33 _ _ rfl (l0.length : Int) rfl rfl Tryd.underlying33 (.int .i64 0) 8 info3 rfl (by decide) (by omega) 0 (ok := fun _ => True) (okp := fun _ => True) rfl (fun _ hk => hk) trivial (of_decide_eq_true z1200) (Nat.le_trans (Nat.mul_le_mul_right _ (of_decide_eq_true z1200 : (l0.length : Int).toNat ≤ 35184372088832)) (by omega)) (Below.refl _ _) (Nat.le_refl _) ?_; intro v102 w4 ho5 hb hg_ hnew_; clear hg_ hnew_; (first | rw [← Ny101.out] at ho5 | (simp only [Int.reduceToNat] at ho5; rw [← Ny101.out] at ho5)); have _ := aM (Kd.R_lower ho5 (below_size hbZ)); have _ := aM (below_step hbZ hb); clear HB; rename_i HO103 HB; clear hb ho5))
 go_loopg [4] k (fun kq v4 w' => ∃ (x3_1 : List Int) (x4_1 : Int), v4 = .int .i64 x4_1 ∧ Aside0 (laws_toIntS.l0 kq l0 x3_1 x4_1 = some r) ∧ Aside0 (kq ≤ k) ∧ Aside0 (Kd.R (Kd.int .i64) 3 w' w.heap.size (fun _ => True) v102 x3_1) ∧ Aside0 (Below w.heap.size w w'))
 case atStart => exact ⟨(y101), (0), z4458, H', ⟨Nat.le_refl _⟩, ⟨rZ HO103.out⟩, ⟨z5acd⟩⟩
 case round =>
  clear H'
  (try clear c2b0); (try clear c2b1); (try clear c3b0); (try clear c3b1)
  obtain ⟨x3_1, x4_1, rfl, HA, HK1, HO_3, HB⟩ := hrel
  cases gk with
  | zero => exact absurd HA.out (by simp [laws_toIntS.l0])
  | succ k1 =>
   have H := HA.out
   clear HA
   simp only [laws_toIntS.l0] at H
   by_cases c6 : x4_1 < (l0.length : Int)
   · rw [if_pos c6] at H
     have c6b0 := dL c6
     clear c6
     obtain ⟨c7b0, H⟩ := sE H
     obtain ⟨c8b0, H⟩ := sL H
     obtain ⟨y105, hy105⟩ : ∃ y_ : List Int, y_ = (x3_1.set (x4_1 : Int).toNat (rd l0 x4_1)) := ⟨_, rfl⟩
     first | (replace H := bindS H; rw [← hy105] at H; try dsimp only at H) | rw [← hy105] at H
     have Ny105 := aM hy105
     clear hy105
     have H' := aM H
     clear H
     have p104 : 0 ≤ (x4_1 : Int) := of_decide_eq_true z1200
     have q104 : x4_1 < (l0.length : Int) := of_decide_eq_true z1200
     obtain ⟨ad104, e104, hx104_0⟩ := Kd.at_int HR0.out x4_1 p104 q104
     cases e104
     replace hx104_0 := (HB.out.cell (World.block_lt_of_cell? w _ hx104_0)).trans hx104_0
     replace p104 := eq_true p104
     replace q104 := eq_true q104
     have p9 : 0 ≤ (x4_1 : Int) := of_decide_eq_true z1200
     have q9 : (x4_1 : Int) < ((x3_1.length : Int) : Int) := of_decide_eq_true z1200
     obtain ⟨go9, co9, eo9, gb9, gl9, cl9, HG9⟩ := Kd.R_form HO_3.out (by omega)
     (first | cases eo9 | (injection eo9 with ea_ en_ ec_; (first | subst ea_ | (injection ea_ with ea_; subst ea_)); subst ec_; clear en_))
     have GB9 := aM gb9
     have GG9 := aM HG9
     clear gb9 gl9 HG9
     obtain ⟨hx9_0, hf9_0⟩ := Kd.R_celln 0 HO_3.out (x4_1 : Int) p9 q9
     replace p9 := eq_true p9
     replace q9 := eq_true q9
     have HP10 := Kd.R_putg HO_3.out (x4_1 : Int) (rd l0 x4_1)
     go_wp2_with (first | ((with_reducible refine gate_store (t := 3) (p := 20) rfl ?_); refine store_event (t := 3) (p := 20) (v := ?vo_w11) (w1 := (wr.setCell ⟨go9, (x4_1 : Int).toNat, none⟩ (.int .i64 (rd l0 x4_1)))) ?hg ?ho ?hn ?hr ?_; (case ho => rfl); (case hg => rfl); (case hn => rfl); (case hr => first | (go_simp; done) | (go_simp; rfl)); intro w11 hw; have hg : wr.grownBy w11 (some go9) := (by rw [hw]; exact HP10.2); have hp_ : Kd.R (Kd.int .i64) 3 w11 w.heap.size (fun _ => True) (.slice (some ⟨go9, 0, none⟩) x3_1.length co9) y105 := (by rw [hw, Ny105.out]; exact HP10.1); clear HP10; have _ := aM hp_; have _ := aM ((by rw [hw]; exact below_set (HB.out) GB9.out : Below w.heap.size w w11)); clear HO_3 HB; rename_i HO_3 HB; clear hg hw hp_))
     go_roundg k1
     case measure => have := HK1.out; omega
     case rel => exact ⟨(y105), (wrap64 (x4_1 + 1)), z4458, H', ⟨zfb39⟩, ⟨rZ HO_3.out⟩, ⟨z5acd⟩⟩
   · rw [if_neg c6] at H
     have c6b0 := nL c6
     clear c6
     obtain rfl := Option.some.inj H
     go_wp2
     go_ret
     exact ⟨_, z674d, rZ HO_3.out, z5acd⟩
end Go.Proofs.YtkgmoajdcibafaaDoor.P

-- written by a program of this session's (wip/pp)
namespace Go.Proofs.YtkgmoajdcibafaaDoor.P
open Go.RowKit Go.Proofs.YtkgmoajdcibafaaDoorW.PrintWords Go.Proofs.YtkgmoajdcibafaaDoorW.PrintLast Go.Proofs.YtkgmoajdcibafaaDoorW.PrintMore
attribute [local go_sem] max2_int min2_int max_two min_two max_three min_three max_four min_four str_geq str_gtr str_leq   -- for this text's walks alone
set_option linter.unusedVariables false
set_option linter.unusedSimpArgs false

/-! ### laws_toAgg: function 99 -/
def laws_toAgg.f (k : Nat) (a0_0 : Int) (a0_1 : Int) (a0_2 : Int) (a0_3 : Int) (l0_4 : List Int) (a0_5 : Bool) : Option (Int × Int × Int × Int × List Int × Bool) := (laws_toIntS.f k l0_4).bind fun t104 => (some (a0_0, a0_1, a0_2, a0_3, t104, a0_5))
theorem laws_toAgg.mono : ∀ a0 a1 a2 a3 a4 a5 k, LeO (laws_toAgg.f k a0 a1 a2 a3 a4 a5) (laws_toAgg.f (k + 1) a0 a1 a2 a3 a4 a5) := by
 intro a0 a1 a2 a3 a4 a5 k
 have m0 := @laws_toIntS.mono
 unfold laws_toAgg.f
 exact moZ
set_option maxHeartbeats 8000000 in
set_option maxRecDepth 100000 in
theorem laws_toAgg.calls (k : Nat) (a0_0 : Int) (a0_1 : Int) (a0_2 : Int) (a0_3 : Int) (A0_4 : Option Addr) (c0_4 : Nat) (l0_4 : List Int) (a0_5 : Bool) (r1 : Int) (r2 : Int) (r3 : Int) (r4 : Int) (r5 : List Int) (r6 : Bool) (w : World) (hr0_4 : Kd.C (Kd.int .i64) w A0_4 l0_4.length l0_4) (hc0_4 : l0_4.length ≤ c0_4) (h : laws_toAgg.f k a0_0 a0_1 a0_2 a0_3 l0_4 a0_5 = some (r1, r2, r3, r4, r5, r6)) :
 Calls Tryd.prog 99 #[.agg #[.int .i64 a0_0, .int .i64 a0_1, .int .i64 a0_2, .int .i64 a0_3, .slice A0_4 l0_4.length c0_4, .bool a0_5]] w fun e w' => ∃ v4_ : Value, e = .returned (.agg #[.int .i64 r1, .int .i64 r2, .int .i64 r3, .int .i64 r4, v4_, .bool r6]) ∧ Kd.R (Kd.int .i64) 3 w' w.heap.size (fun _ => True) v4_ r5 ∧ Below w.heap.size w w' := by
 have hu92 := Tryd.underlying92
 have hu35 := Tryd.underlying35
 have HR0_4 := aM hr0_4
 have HC0_4 := aM hc0_4
 clear hr0_4 hc0_4
 have HB := aM (Below.refl w.heap.size w)
 have H : ((laws_toIntS.f k l0_4).bind fun t104 => (some (a0_0, a0_1, a0_2, a0_3, t104, a0_5))) = some (r1, r2, r3, r4, r5, r6) := h
 clear h
 obtain ⟨t104, A2, H⟩ := bS H; try dsimp only at H
 simp only [Option.some.injEq, Prod.mk.injEq] at H
 obtain ⟨rfl, rfl, rfl, rfl, rfl, rfl⟩ := H
 go_enter Tryd.func99, Tryd.ntmps99
 go_wp2_with (first | ((with_reducible refine gate_dst (N := 1) rfl ?_); refine bX 1 92 #[.int .i64 a0_0, .int .i64 a0_1, .int .i64 a0_2, .int .i64 a0_3, .slice A0_4 l0_4.length c0_4, .bool a0_5] ?_; intro gb101 hg w3 hbox hb; have _ := aM (below_step hbZ hb); have _ := aM hbox; have _ := szZ hg; have _ := szZ hg; clear HB; rename_i HB BK101 GW101 GE101; clear hb hbox hg) | ((with_reducible refine gate_dst (N := 2) rfl ?_); refine bX 2 35 #[.int .i64 0, .int .i64 0, .int .i64 0, .int .i64 0, .slice none 0 0, .bool false] ?_; intro gb102 hg w4 hbox hb; have _ := bB gb101 hb; have _ := aM (below_step hbZ hb); have _ := aM hbox; have _ := szZ hg; have _ := szZ hg; have ⟨_, _⟩ := nbB gb101 hg; clear BK101 HB; rename_i BK101 HB BK102 GW102 GE102 NB101_102 NB102_101; clear hb hbox hg) | ((with_reducible refine gate_dst (N := 3) rfl ?_); refine bX 3 35 #[.int .i64 0, .int .i64 0, .int .i64 0, .int .i64 0, .slice none 0 0, .bool false] ?_; intro gb103 hg w5 hbox hb; have _ := bB gb101 hb; have _ := bB gb102 hb; have _ := aM (below_step hbZ hb); have _ := aM hbox; have _ := szZ hg; have _ := szZ hg; have ⟨_, _⟩ := nbB gb101 hg; have ⟨_, _⟩ := nbB gb102 hg; clear BK101 BK102 HB; rename_i BK101 BK102 HB BK103 GW103 GE103 NB101_103 NB103_101 NB102_103 NB103_102; clear hb hbox hg; have hnb6 := NB101_102.out; have hnc6 := NB102_101.out; have hnb7 := NB101_103.out; have hnc7 := NB103_101.out; have hz8 := cellsZ6 BK101.out; have hnb9 := NB103_102.out; have hnc9 := NB102_103.out; have hz10 := cellsZ6 BK103.out) | ((with_reducible refine gate_callee (f := 114) rfl ?_); refine gL 18 Tryd.func114 #[.slice A0_4 l0_4.length c0_4] ?_; (with_reducible refine (laws_toIntS.calls k _ _ l0_4 t104 _ ?side1 ?side2 A2.out).mono ?_); (case side1 => exact Kd.C_below HR0_4.out hbZ); (case side2 => exact HC0_4.out); rintro e w11 ⟨v105, rfl, ho0, hb⟩; refine ⟨_, rfl, ?_⟩; have _ := aM (Kd.R_lower ho0 (below_size hbZ)); have _ := bB gb101 hb; have _ := bB gb102 hb; have _ := aM (blk_below (g := gb103) (o := .cells #[.int .i64 a0_0, .int .i64 a0_1, .int .i64 a0_2, .int .i64 a0_3, .slice none 0 0, .bool false] 35 (0, 0)) bkZ hb); have _ := aM (below_step hbZ hb); clear BK101 BK102 BK103 HB; rename_i HO106 BK101 BK102 BK103 HB; (try clear hb); (try clear ho0); obtain ⟨Ao12, co12, eo12⟩ := Kd.R_slice HO106.out; subst eo12; have hz13 := cellsZ6 BK103.out; have hz14 := cellsZ6 BK101.out; have hz15 := cellsZ6 BK102.out))
 refine bodyPost_ret (results_cell_row rfl _ _ gb102 35 #[.int .i64 a0_0, .int .i64 a0_1, .int .i64 a0_2, .int .i64 a0_3, .slice Ao12 t104.length co12, .bool a0_5] (0, 0) _ rfl bkZ Tryd.underlying35 rfl (by kernel_rfl)) rfl ?_
 exact ⟨_, z674d, by (with_reducible repeat (first | apply Kd.R_alloc | apply Kd.R_drewN | apply Kd.R_drew)); exact Kd.R_mono (Kd.R_far (p := ⟨gb102, 5, none⟩) (Kd.R_far (p := ⟨gb102, 4, none⟩) (Kd.R_far (p := ⟨gb102, 3, none⟩) (Kd.R_far (p := ⟨gb102, 2, none⟩) (Kd.R_far (p := ⟨gb102, 1, none⟩) (Kd.R_far (p := ⟨gb102, 0, none⟩) (Kd.R_far (p := ⟨gb103, 5, none⟩) (Kd.R_far (p := ⟨gb103, 4, none⟩) (Kd.R_types (Kd.R_types HO106.out BK103.out (by decide)) BK102.out (by decide)) (fun _ hk => hk.1.2) (.slice Ao12 t104.length co12)) (fun _ hk => hk.1.2) (.bool a0_5)) (fun _ hk => hk.2) (.int .i64 a0_0)) (fun _ hk => hk.2) (.int .i64 a0_1)) (fun _ hk => hk.2) (.int .i64 a0_2)) (fun _ hk => hk.2) (.int .i64 a0_3)) (fun _ hk => hk.2) (.slice Ao12 t104.length co12)) (fun _ hk => hk.2) (.bool a0_5)) (fun _ hk => trivial), zcb41⟩

end Go.Proofs.YtkgmoajdcibafaaDoor.P

-- written by a program of this session's (wip/pp)
namespace Go.Proofs.YtkgmoajdcibafaaDoor.P
open Go.RowKit Go.Proofs.YtkgmoajdcibafaaDoorW.PrintWords Go.Proofs.YtkgmoajdcibafaaDoorW.PrintLast Go.Proofs.YtkgmoajdcibafaaDoorW.PrintMore
attribute [local go_sem] max2_int min2_int max_two min_two max_three min_three max_four min_four str_geq str_gtr str_leq   -- for this text's walks alone
set_option linter.unusedVariables false
set_option linter.unusedSimpArgs false

/-! ### laws_toTold: function 65 -/
def laws_toTold.f (k : Nat) (a0_0 : ByteArray) (l0_1 : List (S119)) (a0_2 : Int) (a0_3 : Int) (a0_4 : Int) (a0_5 : Int) (a0_6 : Int) (a0_7 : Int) (l0_8 : List Int) (a0_9 : Bool) : Option (ByteArray × (List (S123)) × Int × Int × Int × Int × Int × Int × List Int × Bool) := (laws_toKey.f k a0_0 l0_1 a0_2).bind fun bt104 => ((laws_toAgg.f k a0_4 a0_5 a0_6 a0_7 l0_8 a0_9).bind fun bt109 => (some (bt104.1, bt104.2.1, bt104.2.2, a0_3, bt109.1, bt109.2.1, bt109.2.2.1, bt109.2.2.2.1, bt109.2.2.2.2.1, bt109.2.2.2.2.2)))
theorem laws_toTold.mono : ∀ a0 a1 a2 a3 a4 a5 a6 a7 a8 a9 k, LeO (laws_toTold.f k a0 a1 a2 a3 a4 a5 a6 a7 a8 a9) (laws_toTold.f (k + 1) a0 a1 a2 a3 a4 a5 a6 a7 a8 a9) := by
 intro a0 a1 a2 a3 a4 a5 a6 a7 a8 a9 k
 have m0 := @laws_toAgg.mono; have m1 := @laws_toKey.mono
 unfold laws_toTold.f
 exact moZ
set_option maxHeartbeats 8000000 in
set_option maxRecDepth 100000 in
theorem laws_toTold.calls (k : Nat) (a0_0 : ByteArray) (A0_1 : Option Addr) (c0_1 : Nat) (l0_1 : List (S119)) (a0_2 : Int) (a0_3 : Int) (a0_4 : Int) (a0_5 : Int) (a0_6 : Int) (a0_7 : Int) (A0_8 : Option Addr) (c0_8 : Nat) (l0_8 : List Int) (a0_9 : Bool) (r1 : ByteArray) (r2 : List (S123)) (r3 : Int) (r4 : Int) (r5 : Int) (r6 : Int) (r7 : Int) (r8 : Int) (r9 : List Int) (r10 : Bool) (w : World) (hr0_1 : Kd.C k119 w A0_1 l0_1.length l0_1) (hc0_1 : l0_1.length ≤ c0_1) (hr0_8 : Kd.C (Kd.int .i64) w A0_8 l0_8.length l0_8) (hc0_8 : l0_8.length ≤ c0_8) (h : laws_toTold.f k a0_0 l0_1 a0_2 a0_3 a0_4 a0_5 a0_6 a0_7 l0_8 a0_9 = some (r1, r2, r3, r4, r5, r6, r7, r8, r9, r10)) :
 Calls Tryd.prog 65 #[.agg #[.string a0_0, .slice A0_1 l0_1.length c0_1, .int .i64 a0_2, .int .i64 a0_3, .int .i64 a0_4, .int .i64 a0_5, .int .i64 a0_6, .int .i64 a0_7, .slice A0_8 l0_8.length c0_8, .bool a0_9]] w fun e w' => ∃ v1_ v8_ : Value, e = .returned (.agg #[.string r1, v1_, .int .i64 r3, .int .i64 r4, .int .i64 r5, .int .i64 r6, .int .i64 r7, .int .i64 r8, v8_, .bool r10]) ∧ Kd.R k123 123 w' w.heap.size (fun _ => True) v1_ r2 ∧ Kd.R (Kd.int .i64) 3 w' w.heap.size (fun _ => True) v8_ r9 ∧ Below w.heap.size w w' := by
 have hu94 := Tryd.underlying94
 have hu96 := Tryd.underlying96
 have hu27 := Tryd.underlying27
 have hu32 := Tryd.underlying32
 have hu92 := Tryd.underlying92
 have hu35 := Tryd.underlying35
 have HR0_1 := aM hr0_1
 have HC0_1 := aM hc0_1
 clear hr0_1 hc0_1
 have HR0_8 := aM hr0_8
 have HC0_8 := aM hc0_8
 clear hr0_8 hc0_8
 have HB := aM (Below.refl w.heap.size w)
 have H : ((laws_toKey.f k a0_0 l0_1 a0_2).bind fun bt104 => ((laws_toAgg.f k a0_4 a0_5 a0_6 a0_7 l0_8 a0_9).bind fun bt109 => (some (bt104.1, bt104.2.1, bt104.2.2, a0_3, bt109.1, bt109.2.1, bt109.2.2.1, bt109.2.2.2.1, bt109.2.2.2.2.1, bt109.2.2.2.2.2)))) = some (r1, r2, r3, r4, r5, r6, r7, r8, r9, r10) := h
 clear h
 obtain ⟨⟨t104, t105, t108⟩, A2, H⟩ := bS H; try dsimp only at H
 obtain ⟨⟨t109, t110, t111, t112, t113, t116⟩, A3, H⟩ := bS H; try dsimp only at H
 simp only [Option.some.injEq, Prod.mk.injEq] at H
 obtain ⟨rfl, rfl, rfl, rfl, rfl, rfl, rfl, rfl, rfl, rfl⟩ := H
 go_enter Tryd.func65, Tryd.ntmps65
 go_wp2_with (first | ((with_reducible refine gate_dst (N := 1) rfl ?_); refine bX 1 94 #[.string a0_0, .slice A0_1 l0_1.length c0_1, .int .i64 a0_2, .int .i64 a0_3, .int .i64 a0_4, .int .i64 a0_5, .int .i64 a0_6, .int .i64 a0_7, .slice A0_8 l0_8.length c0_8, .bool a0_9] ?_; intro gb101 hg w4 hbox hb; have _ := aM (below_step hbZ hb); have _ := aM hbox; have _ := szZ hg; have _ := szZ hg; clear HB; rename_i HB BK101 GW101 GE101; clear hb hbox hg) | ((with_reducible refine gate_dst (N := 2) rfl ?_); refine bX 2 96 #[.string (⟨#[]⟩ : ByteArray), .slice none 0 0, .int .i64 0, .int .i64 0, .int .i64 0, .int .i64 0, .int .i64 0, .int .i64 0, .slice none 0 0, .bool false] ?_; intro gb102 hg w5 hbox hb; have _ := bB gb101 hb; have _ := aM (below_step hbZ hb); have _ := aM hbox; have _ := szZ hg; have _ := szZ hg; have ⟨_, _⟩ := nbB gb101 hg; clear BK101 HB; rename_i BK101 HB BK102 GW102 GE102 NB101_102 NB102_101; clear hb hbox hg) | ((with_reducible refine gate_dst (N := 3) rfl ?_); refine bX 3 96 #[.string (⟨#[]⟩ : ByteArray), .slice none 0 0, .int .i64 0, .int .i64 0, .int .i64 0, .int .i64 0, .int .i64 0, .int .i64 0, .slice none 0 0, .bool false] ?_; intro gb103 hg w6 hbox hb; have _ := bB gb101 hb; have _ := bB gb102 hb; have _ := aM (below_step hbZ hb); have _ := aM hbox; have _ := szZ hg; have _ := szZ hg; have ⟨_, _⟩ := nbB gb101 hg; have ⟨_, _⟩ := nbB gb102 hg; clear BK101 BK102 HB; rename_i BK101 BK102 HB BK103 GW103 GE103 NB101_103 NB103_101 NB102_103 NB103_102; clear hb hbox hg; have hnb7 := NB101_102.out; have hnc7 := NB102_101.out; have hnb8 := NB101_103.out; have hnc8 := NB103_101.out; have hz9 := cellsZ10 BK101.out) | ((with_reducible refine gate_callee (f := 12) rfl ?_); refine gL 6 Tryd.func12 #[.agg #[.string a0_0, .slice A0_1 l0_1.length c0_1, .int .i64 a0_2]] ?_; (with_reducible refine (laws_toKey.calls k a0_0 _ _ l0_1 a0_2 t104 t105 t108 _ ?side1 ?side2 A2.out).mono ?_); (case side1 => exact (cZ (Kd.C_below HR0_1.out HB.out))); (case side2 => exact HC0_1.out); rintro e w10 ⟨v106, rfl, ho0, hb⟩; refine ⟨_, rfl, ?_⟩; have _ := aM (Kd.R_lower ho0 (below_size hbZ)); have _ := bB gb101 hb; have _ := bB gb102 hb; have _ := bB gb103 hb; have _ := aM (below_step hbZ hb); clear BK101 BK102 BK103 HB; rename_i HO107 BK101 BK102 BK103 HB; (try clear hb); (try clear ho0); have hnb11 := NB103_102.out; have hnc11 := NB102_103.out; have hz12 := cellsZ10 BK103.out; obtain ⟨Ao13, co13, eo13⟩ := Kd.R_slice HO107.out; subst eo13; have hz14 := cellsZ10 BK101.out) | ((with_reducible refine gate_callee (f := 99) rfl ?_); refine gL 13 Tryd.func99 #[.agg #[.int .i64 a0_4, .int .i64 a0_5, .int .i64 a0_6, .int .i64 a0_7, .slice A0_8 l0_8.length c0_8, .bool a0_9]] ?_; (with_reducible refine (laws_toAgg.calls k a0_4 a0_5 a0_6 a0_7 _ _ l0_8 a0_9 t109 t110 t111 t112 t113 t116 _ ?side1 ?side2 A3.out).mono ?_); (case side1 => exact Kd.C_below HR0_8.out hbZ); (case side2 => exact HC0_8.out); rintro e w15 ⟨v114, rfl, ho0, hb⟩; refine ⟨_, rfl, ?_⟩; have _ := aM (Kd.R_below (rZ (rF4 HO107.out BK103.out)) hb); have _ := aM (Kd.R_lower ho0 (below_size hbZ)); have _ := bB gb101 hb; have _ := bB gb102 hb; have _ := aM (blk_below (g := gb103) (o := .cells #[.string t104, .slice Ao13 t105.length co13, .int .i64 t108, .int .i64 a0_3, .int .i64 0, .int .i64 0, .int .i64 0, .int .i64 0, .slice none 0 0, .bool false] 96 (0, 0)) bkZ hb); have _ := aM (below_step hbZ hb); clear HO107 BK101 BK102 BK103 HB; rename_i HO107 HO115 BK101 BK102 BK103 HB; (try clear hb); (try clear ho0); have hz16 := cellsZ10 BK103.out; obtain ⟨Ao17, co17, eo17⟩ := Kd.R_slice HO115.out; subst eo17; have hz18 := cellsZ10 BK102.out))
 refine bodyPost_ret (results_cell_row rfl _ _ gb102 96 #[.string t104, .slice Ao13 t105.length co13, .int .i64 t108, .int .i64 a0_3, .int .i64 t109, .int .i64 t110, .int .i64 t111, .int .i64 t112, .slice Ao17 t113.length co17, .bool t116] (0, 0) _ rfl bkZ Tryd.underlying96 rfl (by kernel_rfl)) rfl ?_
 exact ⟨_, _, z674d, by (with_reducible repeat (first | apply Kd.R_alloc | apply Kd.R_drewN | apply Kd.R_drew)); exact Kd.R_mono (Kd.R_far (p := ⟨gb102, 9, none⟩) (Kd.R_far (p := ⟨gb102, 8, none⟩) (Kd.R_far (p := ⟨gb102, 7, none⟩) (Kd.R_far (p := ⟨gb102, 6, none⟩) (Kd.R_far (p := ⟨gb102, 5, none⟩) (Kd.R_far (p := ⟨gb102, 4, none⟩) (Kd.R_far (p := ⟨gb102, 3, none⟩) (Kd.R_far (p := ⟨gb102, 2, none⟩) (Kd.R_far (p := ⟨gb102, 1, none⟩) (Kd.R_far (p := ⟨gb102, 0, none⟩) (Kd.R_far (p := ⟨gb103, 9, none⟩) (Kd.R_far (p := ⟨gb103, 8, none⟩) (Kd.R_far (p := ⟨gb103, 7, none⟩) (Kd.R_far (p := ⟨gb103, 6, none⟩) (Kd.R_far (p := ⟨gb103, 5, none⟩) (Kd.R_far (p := ⟨gb103, 4, none⟩) (Kd.R_types (Kd.R_types HO107.out BK103.out (by decide)) BK102.out (by decide)) (fun _ hk => hk.1.2) (.int .i64 t109)) (fun _ hk => hk.1.2) (.int .i64 t110)) (fun _ hk => hk.1.2) (.int .i64 t111)) (fun _ hk => hk.1.2) (.int .i64 t112)) (fun _ hk => hk.1.2) (.slice Ao17 t113.length co17)) (fun _ hk => hk.1.2) (.bool t116)) (fun _ hk => hk.2) (.string t104)) (fun _ hk => hk.2) (.slice Ao13 t105.length co13)) (fun _ hk => hk.2) (.int .i64 t108)) (fun _ hk => hk.2) (.int .i64 a0_3)) (fun _ hk => hk.2) (.int .i64 t109)) (fun _ hk => hk.2) (.int .i64 t110)) (fun _ hk => hk.2) (.int .i64 t111)) (fun _ hk => hk.2) (.int .i64 t112)) (fun _ hk => hk.2) (.slice Ao17 t113.length co17)) (fun _ hk => hk.2) (.bool t116)) (fun _ hk => trivial), by (with_reducible repeat (first | apply Kd.R_alloc | apply Kd.R_drewN | apply Kd.R_drew)); exact Kd.R_mono (Kd.R_far (p := ⟨gb102, 9, none⟩) (Kd.R_far (p := ⟨gb102, 8, none⟩) (Kd.R_far (p := ⟨gb102, 7, none⟩) (Kd.R_far (p := ⟨gb102, 6, none⟩) (Kd.R_far (p := ⟨gb102, 5, none⟩) (Kd.R_far (p := ⟨gb102, 4, none⟩) (Kd.R_far (p := ⟨gb102, 3, none⟩) (Kd.R_far (p := ⟨gb102, 2, none⟩) (Kd.R_far (p := ⟨gb102, 1, none⟩) (Kd.R_far (p := ⟨gb102, 0, none⟩) (Kd.R_far (p := ⟨gb103, 9, none⟩) (Kd.R_far (p := ⟨gb103, 8, none⟩) (Kd.R_far (p := ⟨gb103, 7, none⟩) (Kd.R_far (p := ⟨gb103, 6, none⟩) (Kd.R_far (p := ⟨gb103, 5, none⟩) (Kd.R_far (p := ⟨gb103, 4, none⟩) (Kd.R_types (Kd.R_types HO115.out BK103.out (by decide)) BK102.out (by decide)) (fun _ hk => hk.1.2) (.int .i64 t109)) (fun _ hk => hk.1.2) (.int .i64 t110)) (fun _ hk => hk.1.2) (.int .i64 t111)) (fun _ hk => hk.1.2) (.int .i64 t112)) (fun _ hk => hk.1.2) (.slice Ao17 t113.length co17)) (fun _ hk => hk.1.2) (.bool t116)) (fun _ hk => hk.2) (.string t104)) (fun _ hk => hk.2) (.slice Ao13 t105.length co13)) (fun _ hk => hk.2) (.int .i64 t108)) (fun _ hk => hk.2) (.int .i64 a0_3)) (fun _ hk => hk.2) (.int .i64 t109)) (fun _ hk => hk.2) (.int .i64 t110)) (fun _ hk => hk.2) (.int .i64 t111)) (fun _ hk => hk.2) (.int .i64 t112)) (fun _ hk => hk.2) (.slice Ao17 t113.length co17)) (fun _ hk => hk.2) (.bool t116)) (fun _ hk => trivial), zcb41⟩

end Go.Proofs.YtkgmoajdcibafaaDoor.P

-- written by a program of this session's (wip/pp)
namespace Go.Proofs.YtkgmoajdcibafaaDoor.P
open Go.RowKit Go.Proofs.YtkgmoajdcibafaaDoorW.PrintWords Go.Proofs.YtkgmoajdcibafaaDoorW.PrintLast Go.Proofs.YtkgmoajdcibafaaDoorW.PrintMore
attribute [local go_sem] max2_int min2_int max_two min_two max_three min_three max_four min_four str_geq str_gtr str_leq   -- for this text's walks alone
set_option linter.unusedVariables false
set_option linter.unusedSimpArgs false

/-! ### laws_toToldS: function 26 -/
def laws_toToldS.l0 : Nat → List (S94) → List (S96) → Int → Option ((List (S96)))
 | 0, _, _, _ => none
 | k + 1, x0, x3, x4 => if x4 < (x0.length : Int) then (if 0 ≤ x4 then ((laws_toTold.f k ((rd_T94 x0 x4).f0.f0) ((rd_T94 x0 x4).f0.f1) ((rd_T94 x0 x4).f0.f2) ((rd_T94 x0 x4).f1) ((rd_T94 x0 x4).f2.f0) ((rd_T94 x0 x4).f2.f1) ((rd_T94 x0 x4).f2.f2) ((rd_T94 x0 x4).f2.f3) ((rd_T94 x0 x4).f2.f4) ((rd_T94 x0 x4).f2.f5)).bind fun bt105 => (if x4 < (x3.length : Int) then (laws_toToldS.l0 k x0 (x3.set (x4 : Int).toNat (⟨(⟨bt105.1, bt105.2.1, bt105.2.2.1⟩ : S32), bt105.2.2.2.1, (⟨bt105.2.2.2.2.1, bt105.2.2.2.2.2.1, bt105.2.2.2.2.2.2.1, bt105.2.2.2.2.2.2.2.1, bt105.2.2.2.2.2.2.2.2.1, bt105.2.2.2.2.2.2.2.2.2⟩ : S35)⟩ : S96)) (wrap64 (x4 + 1))) else (none))) else (none)) else (some x3)
def laws_toToldS.f (k : Nat) (l0 : List (S94)) : Option ((List (S96))) := if 0 ≤ (l0.length : Int) then (if ((l0.length : Int) : Int).toNat ≤ 2345624805922 then (laws_toToldS.l0 k l0 (List.replicate ((l0.length : Int) : Int).toNat z96) 0) else (none)) else (none)
theorem laws_toToldS.mono_l : ∀ k, (∀ y0 y1 y2, LeO (laws_toToldS.l0 k y0 y1 y2) (laws_toToldS.l0 (k + 1) y0 y1 y2))
 | 0 => fun _ _ _ r h => by simp [laws_toToldS.l0] at h
 | k + 1 => by
  have ih0 := laws_toToldS.mono_l k; have m0 := @laws_toTold.mono
  · intro y0 y1 y2
    unfold laws_toToldS.l0
    exact moZ
theorem laws_toToldS.mono : ∀ a0 k, LeO (laws_toToldS.f k a0) (laws_toToldS.f (k + 1) a0) := by
 intro a0 k
 have ih0 := laws_toToldS.mono_l k
 have m0 := @laws_toTold.mono
 unfold laws_toToldS.f
 exact moZ
set_option maxHeartbeats 8000000 in
set_option maxRecDepth 100000 in
theorem laws_toToldS.calls (k : Nat) (A0 : Option Addr) (c0 : Nat) (l0 : List (S94)) (r : List (S96)) (w : World) (hr0 : Kd.C k94 w A0 l0.length l0) (hc0 : l0.length ≤ c0) (h : laws_toToldS.f k l0 = some r) :
 Calls Tryd.prog 26 #[.slice A0 l0.length c0] w fun e w' => ∃ v0_ : Value, e = .returned (v0_) ∧ Kd.S k96 96 w' w.heap.size (fun _ => True) v0_ r ∧ Below w.heap.size w w' := by
 have hu94 := Tryd.underlying94
 have hu96 := Tryd.underlying96
 have HR0 := aM hr0
 have HC0 := aM hc0
 clear hr0 hc0
 have HB := aM (Below.refl w.heap.size w)
 have H : (if 0 ≤ (l0.length : Int) then (if ((l0.length : Int) : Int).toNat ≤ 2345624805922 then (laws_toToldS.l0 k l0 (List.replicate ((l0.length : Int) : Int).toNat z96) 0) else (none)) else (none)) = some r := h
 clear h
 replace H := ifS H; obtain ⟨c2, H⟩ := H
 have c2b0 := eq_true c2
 have c2b1 : decide (0 ≤ (l0.length : Int)) = true := decide_eq_true c2
 clear c2
 replace H := ifS H; obtain ⟨c3, H⟩ := H
 have c3b0 := eq_true c3
 have c3b1 : decide (((l0.length : Int) : Int).toNat ≤ 2345624805922) = true := decide_eq_true c3
 clear c3
 obtain ⟨y101, hy101⟩ : ∃ y_ : List (S96), y_ = (List.replicate ((l0.length : Int) : Int).toNat z96) := ⟨_, rfl⟩
 first | (replace H := bindS H; rw [← hy101] at H; try dsimp only at H) | rw [← hy101] at H
 have Ny101 := aM hy101
 clear hy101
 have H' := aM H
 clear H
 go_enter Tryd.func26, Tryd.ntmps26
 go_wp2_with (first | ((with_reducible refine gate_dst (N := 7) rfl ?_); refine Kd.S_make k96 _ 96 rfl (N := 7) rfl 57 _ _ rfl (l0.length : Int) rfl rfl Tryd.underlying57 (.agg #[(.string ⟨#[]⟩), (.slice none 0 0), (.int .i64 0), (.int .i64 0), (.int .i64 0), (.int .i64 0), (.int .i64 0), (.int .i64 0), (.slice none 0 0), (.bool false)]) 120 info96 rfl (by decide) (by omega) z96 (ok := fun _ => True) (okp := fun _ => True) (k96_mkM _ _ _ z96 (Kd.R_nil _ _ _ _ _) (Kd.R_nil _ _ _ _ _)) (fun _ hk => hk) trivial (of_decide_eq_true z1200) (Nat.le_trans (Nat.mul_le_mul_right _ (of_decide_eq_true z1200 : (l0.length : Int).toNat ≤ 2345624805922)) (by omega)) (Below.refl _ _) (Nat.le_refl _) ?_; intro v102 w4 ho5 hb hg_ hnew_; clear hg_ hnew_; (first | rw [← Ny101.out] at ho5 | (simp only [Int.reduceToNat] at ho5; rw [← Ny101.out] at ho5)); have _ := aM (Kd.S_lower ho5 (below_size hbZ)); have _ := aM (below_step hbZ hb); clear HB; rename_i HO103 HB; clear hb ho5))
 go_loopg [4] k (fun kq v4 w' => ∃ (x3_1 : List (S96)) (x4_1 : Int), v4 = .int .i64 x4_1 ∧ Aside0 (laws_toToldS.l0 kq l0 x3_1 x4_1 = some r) ∧ Aside0 (kq ≤ k) ∧ Aside0 (Kd.S k96 96 w' w.heap.size (fun _ => True) v102 x3_1) ∧ Aside0 (Below w.heap.size w w'))
 case atStart => exact ⟨(y101), (0), z4458, H', ⟨Nat.le_refl _⟩, ⟨z1bd3⟩, ⟨z5acd⟩⟩
 case round =>
  clear H'
  (try clear c2b0); (try clear c2b1); (try clear c3b0); (try clear c3b1)
  obtain ⟨x3_1, x4_1, rfl, HA, HK1, HO_3, HB⟩ := hrel
  cases gk with
  | zero => exact absurd HA.out (by simp [laws_toToldS.l0])
  | succ k1 =>
   have H := HA.out
   clear HA
   simp only [laws_toToldS.l0] at H
   by_cases c6 : x4_1 < (l0.length : Int)
   · rw [if_pos c6] at H
     have c6b0 := dL c6
     clear c6
     obtain ⟨c7b0, H⟩ := sE H
     obtain ⟨⟨t105, t106, t109, t110, t111, t112, t113, t114, t115, t118⟩, A8, H⟩ := bS H; try dsimp only at H
     obtain ⟨c9b0, H⟩ := sL H
     obtain ⟨y119, hy119⟩ : ∃ y_ : List (S96), y_ = (x3_1.set (x4_1 : Int).toNat (⟨(⟨t105, t106, t109⟩ : S32), t110, (⟨t111, t112, t113, t114, t115, t118⟩ : S35)⟩ : S96)) := ⟨_, rfl⟩
     first | (replace H := bindS H; rw [← hy119] at H; try dsimp only at H) | rw [← hy119] at H
     have Ny119 := aM hy119
     clear hy119
     have H' := aM H
     clear H
     have p104 : 0 ≤ (x4_1 : Int) := of_decide_eq_true z1200
     have q104 : x4_1 < (l0.length : Int) := of_decide_eq_true z1200
     obtain ⟨ad104, A104_1, c104_1, A104_8, c104_8, e104, hx104_0, hx104_1, hx104_2, hx104_3, hx104_4, hx104_5, hx104_6, hx104_7, hx104_8, hx104_9, hl104_1, hi104_1, hl104_8, hi104_8⟩ := at_T94 HR0.out x4_1 p104 q104
     cases e104
     have TW104_1 := aM hx104_1
     have TW104_8 := aM hx104_8
     replace hx104_0 := (HB.out.cell (World.block_lt_of_cell? w _ hx104_0)).trans hx104_0
     replace hx104_1 := (HB.out.cell (World.block_lt_of_cell? w _ hx104_1)).trans hx104_1
     replace hx104_2 := (HB.out.cell (World.block_lt_of_cell? w _ hx104_2)).trans hx104_2
     replace hx104_3 := (HB.out.cell (World.block_lt_of_cell? w _ hx104_3)).trans hx104_3
     replace hx104_4 := (HB.out.cell (World.block_lt_of_cell? w _ hx104_4)).trans hx104_4
     replace hx104_5 := (HB.out.cell (World.block_lt_of_cell? w _ hx104_5)).trans hx104_5
     replace hx104_6 := (HB.out.cell (World.block_lt_of_cell? w _ hx104_6)).trans hx104_6
     replace hx104_7 := (HB.out.cell (World.block_lt_of_cell? w _ hx104_7)).trans hx104_7
     replace hx104_8 := (HB.out.cell (World.block_lt_of_cell? w _ hx104_8)).trans hx104_8
     replace hx104_9 := (HB.out.cell (World.block_lt_of_cell? w _ hx104_9)).trans hx104_9
     have HR104_1 := aM hi104_1
     have HC104_1 := aM hl104_1
     clear hi104_1 hl104_1
     have HR104_8 := aM hi104_8
     have HC104_8 := aM hl104_8
     clear hi104_8 hl104_8
     replace p104 := eq_true p104
     replace q104 := eq_true q104
     go_wp2_with (first | ((with_reducible refine gate_callee (f := 65) rfl ?_); refine gL 20 Tryd.func65 #[.agg #[.string ((rd_T94 l0 x4_1).f0.f0), .slice A104_1 ((rd_T94 l0 x4_1).f0.f1).length c104_1, .int .i64 ((rd_T94 l0 x4_1).f0.f2), .int .i64 ((rd_T94 l0 x4_1).f1), .int .i64 ((rd_T94 l0 x4_1).f2.f0), .int .i64 ((rd_T94 l0 x4_1).f2.f1), .int .i64 ((rd_T94 l0 x4_1).f2.f2), .int .i64 ((rd_T94 l0 x4_1).f2.f3), .slice A104_8 ((rd_T94 l0 x4_1).f2.f4).length c104_8, .bool ((rd_T94 l0 x4_1).f2.f5)]] ?_; (with_reducible refine (laws_toTold.calls k1 ((rd_T94 l0 x4_1).f0.f0) _ _ ((rd_T94 l0 x4_1).f0.f1) ((rd_T94 l0 x4_1).f0.f2) ((rd_T94 l0 x4_1).f1) ((rd_T94 l0 x4_1).f2.f0) ((rd_T94 l0 x4_1).f2.f1) ((rd_T94 l0 x4_1).f2.f2) ((rd_T94 l0 x4_1).f2.f3) _ _ ((rd_T94 l0 x4_1).f2.f4) ((rd_T94 l0 x4_1).f2.f5) t105 t106 t109 t110 t111 t112 t113 t114 t115 t118 _ ?side1 ?side2 ?side3 ?side4 A8.out).mono ?_); (case side1 => exact (cZ (Kd.C_below HR104_1.out HB.out))); (case side2 => exact HC104_1.out); (case side3 => exact (cZ (Kd.C_below HR104_8.out HB.out))); (case side4 => exact HC104_8.out); rintro e w11 ⟨v107, v116, rfl, ho0, ho1, hb⟩; refine ⟨_, rfl, ?_⟩; have _ := aM (Kd.S_mono (Kd.S_told (Kd.S_told (Kd.S_old zd74a hb) (Kd.R_base ho0)) (Kd.R_base ho1)) (fun _ h_ => h_.1)); have _ := aM (Kd.R_lower ho0 (below_size hbZ)); have _ := aM (Kd.R_lower ho1 (below_size hbZ)); have _ := aM (below_step hbZ hb); clear HO_3 HB; rename_i HO_3 HO108 HO117 HB; (try clear hb); (try clear ho0); (try clear ho1); have p10 : 0 ≤ (x4_1 : Int) := of_decide_eq_true z1200; have q10 : (x4_1 : Int) < ((x3_1.length : Int) : Int) := of_decide_eq_true z1200; obtain ⟨go10, co10, eo10, gb10, gl10, cl10, HG10⟩ := Kd.S_form HO_3.out (by omega); (first | cases eo10 | (injection eo10 with ea_ en_ ec_; (first | subst ea_ | (injection ea_ with ea_; subst ea_)); subst ec_; clear en_)); have GB10 := aM gb10; have GG10 := aM HG10; clear gb10 gl10 HG10; obtain ⟨_, ce10, hcl10, hM10, hcc10, hfr10, _, _⟩ := Kd.S_elem HO_3.out z96 (x4_1 : Int) p10 q10; obtain ⟨ve10_1, ve10_8, rfl, ge10_1, ge10_8⟩ := k96_openM hM10; have hx10_0 : w11.cell? ⟨go10, (x4_1 : Int).toNat * 10, none⟩ = some (.string ((rd_T96 x3_1 x4_1).f0.f0)) := hcc10 0 _ rfl; have hx10_1 : w11.cell? ⟨go10, (x4_1 : Int).toNat * 10 + 1, none⟩ = some (ve10_1) := hcc10 1 _ rfl; have hx10_2 : w11.cell? ⟨go10, (x4_1 : Int).toNat * 10 + 2, none⟩ = some (.int .i64 ((rd_T96 x3_1 x4_1).f0.f2)) := hcc10 2 _ rfl; have hx10_3 : w11.cell? ⟨go10, (x4_1 : Int).toNat * 10 + 3, none⟩ = some (.int .i64 ((rd_T96 x3_1 x4_1).f1)) := hcc10 3 _ rfl; have hx10_4 : w11.cell? ⟨go10, (x4_1 : Int).toNat * 10 + 4, none⟩ = some (.int .i64 ((rd_T96 x3_1 x4_1).f2.f0)) := hcc10 4 _ rfl; have hx10_5 : w11.cell? ⟨go10, (x4_1 : Int).toNat * 10 + 5, none⟩ = some (.int .i64 ((rd_T96 x3_1 x4_1).f2.f1)) := hcc10 5 _ rfl; have hx10_6 : w11.cell? ⟨go10, (x4_1 : Int).toNat * 10 + 6, none⟩ = some (.int .i64 ((rd_T96 x3_1 x4_1).f2.f2)) := hcc10 6 _ rfl; have hx10_7 : w11.cell? ⟨go10, (x4_1 : Int).toNat * 10 + 7, none⟩ = some (.int .i64 ((rd_T96 x3_1 x4_1).f2.f3)) := hcc10 7 _ rfl; have hx10_8 : w11.cell? ⟨go10, (x4_1 : Int).toNat * 10 + 8, none⟩ = some (ve10_8) := hcc10 8 _ rfl; have hx10_9 : w11.cell? ⟨go10, (x4_1 : Int).toNat * 10 + 9, none⟩ = some (.bool ((rd_T96 x3_1 x4_1).f2.f5)) := hcc10 9 _ rfl; have hf10_0 : w11.frozen? ⟨go10, (x4_1 : Int).toNat * 10, none⟩ = false := hfr10 0; have hf10_1 : w11.frozen? ⟨go10, (x4_1 : Int).toNat * 10 + 1, none⟩ = false := hfr10 1; have hf10_2 : w11.frozen? ⟨go10, (x4_1 : Int).toNat * 10 + 2, none⟩ = false := hfr10 2; have hf10_3 : w11.frozen? ⟨go10, (x4_1 : Int).toNat * 10 + 3, none⟩ = false := hfr10 3; have hf10_4 : w11.frozen? ⟨go10, (x4_1 : Int).toNat * 10 + 4, none⟩ = false := hfr10 4; have hf10_5 : w11.frozen? ⟨go10, (x4_1 : Int).toNat * 10 + 5, none⟩ = false := hfr10 5; have hf10_6 : w11.frozen? ⟨go10, (x4_1 : Int).toNat * 10 + 6, none⟩ = false := hfr10 6; have hf10_7 : w11.frozen? ⟨go10, (x4_1 : Int).toNat * 10 + 7, none⟩ = false := hfr10 7; have hf10_8 : w11.frozen? ⟨go10, (x4_1 : Int).toNat * 10 + 8, none⟩ = false := hfr10 8; have hf10_9 : w11.frozen? ⟨go10, (x4_1 : Int).toNat * 10 + 9, none⟩ = false := hfr10 9; clear hcl10 hcc10 hfr10 hM10; replace p10 := eq_true p10; replace q10 := eq_true q10; obtain ⟨Ao14, co14, eo14⟩ := Kd.R_slice HO108.out; subst eo14; obtain ⟨Ao15, co15, eo15⟩ := Kd.R_slice HO117.out; subst eo15; have n_ := aM (Kd.S_mono (ok' := (fun k_ => some k_ ≠ (.slice Ao14 t106.length co14 : Value).ownBlock ∧ some k_ ≠ (.slice Ao15 t115.length co15 : Value).ownBlock)) HO_3.out (fun k_ hk => ⟨hk.1.2, hk.2⟩)); clear HO_3; have HO_3 := n_; clear n_; have HX12 := aM (show Kd.S k96 96 w11 w.heap.size (fun k_ => ((fun _ => True)) k_ ∧ ¬ ((fun k_ => some k_ = (.slice Ao14 t106.length co14 : Value).ownBlock ∨ some k_ = (.slice Ao15 t115.length co15 : Value).ownBlock)) k_) (.slice (some ⟨go10, 0, none⟩) x3_1.length co10) x3_1 from (by (with_reducible repeat (first | apply Kd.S_alloc | apply Kd.S_drewN | apply Kd.S_drew)); exact Kd.S_mono HO_3.out (fun k_ hk => ⟨trivial, fun e_ => e_.elim (fun h_ => hk.1 h_) (fun h_ => hk.2 h_)⟩))); obtain ⟨oki12, ce12, hcl12, hM12, hcc12, hfr12, hoki12, hH12⟩ := Kd.S_elem HX12.out z96 (x4_1 : Int) (of_decide_eq_true z1200) (by have h_ : (x4_1 : Int) < ((x3_1.length : Int) : Int) := of_decide_eq_true z1200; first | exact h_ | (have e_ := (Kd.S_reads' HO_3.out).1; omega) | simpa using h_); obtain ⟨ve12_1, ve12_8, rfl, ge12_1, ge12_8⟩ := k96_openM hM12; have HP12 := Kd.S_seg hH12 (of_decide_eq_true z1200) (by have h_ : (x4_1 : Int) < ((x3_1.length : Int) : Int) := of_decide_eq_true z1200; first | exact h_ | (have e_ := (Kd.S_reads' HO_3.out).1; omega) | simpa using h_) (seg := [.string t105, .slice Ao14 t106.length co14, .int .i64 t109, .int .i64 t110, .int .i64 t111, .int .i64 t112, .int .i64 t113, .int .i64 t114, .slice Ao15 t115.length co15, .bool t118]) (j := 0) (show 10 ≤ 10 from by decide) (x' := (⟨(⟨t105, t106, t109⟩ : S32), t110, (⟨t111, t112, t113, t114, t115, t118⟩ : S35)⟩ : S96)) (k96_mkM _ _ _ (⟨(⟨t105, t106, t109⟩ : S32), t110, (⟨t111, t112, t113, t114, t115, t118⟩ : S35)⟩ : S96) (Kd.R_mono (Kd.R_tight rfl (Kd.R_mono (ok' := fun k_ => ((fun _ => True)) k_ ∧ k_ ≠ go10) (Kd.R_apart' (HO108.out) (Kd.S_typed HO_3.out) (by decide)) (fun k_ hk => ⟨trivial, fun e_ => (hk.2) (by rw [e_]; rfl)⟩))) (fun _ h_ => Or.inr (Or.inl h_))) (Kd.R_mono (Kd.R_tight rfl (Kd.R_mono (ok' := fun k_ => ((fun _ => True)) k_ ∧ k_ ≠ go10) (Kd.R_apart' (HO117.out) (Kd.S_typed HO_3.out) (by decide)) (fun k_ hk => ⟨trivial, fun e_ => (hk.2) (by rw [e_]; rfl)⟩))) (fun _ h_ => Or.inr (Or.inr (h_))))) (fun _ hk => hk) (fun k_ hk_ => hk_.elim (fun h_ => ((Kd.R_mono (ok' := fun k_ => ((fun _ => True)) k_ ∧ k_ ≠ go10) (Kd.R_apart' (HO108.out) (Kd.S_typed HO_3.out) (by decide)) (fun k_ hk => ⟨trivial, fun e_ => (hk.2) (by rw [e_]; rfl)⟩))).1 k_ h_.symm) (fun h_ => ((Kd.R_mono (ok' := fun k_ => ((fun _ => True)) k_ ∧ k_ ≠ go10) (Kd.R_apart' (HO117.out) (Kd.S_typed HO_3.out) (by decide)) (fun k_ hk => ⟨trivial, fun e_ => (hk.2) (by rw [e_]; rfl)⟩))).1 k_ h_.symm)); have hx12_0 := hcc12 0 _ rfl; (try simp only [show (k96).sz = 10 from rfl, Nat.mul_one, Nat.add_zero] at hx12_0); have hf12_0 := hfr12 0; (try simp only [show (k96).sz = 10 from rfl, Nat.mul_one, Nat.add_zero] at hf12_0); have hx12_1 := hcc12 1 _ rfl; (try simp only [show (k96).sz = 10 from rfl, Nat.mul_one, Nat.add_zero] at hx12_1); have hf12_1 := hfr12 1; (try simp only [show (k96).sz = 10 from rfl, Nat.mul_one, Nat.add_zero] at hf12_1); have hx12_2 := hcc12 2 _ rfl; (try simp only [show (k96).sz = 10 from rfl, Nat.mul_one, Nat.add_zero] at hx12_2); have hf12_2 := hfr12 2; (try simp only [show (k96).sz = 10 from rfl, Nat.mul_one, Nat.add_zero] at hf12_2); have hx12_3 := hcc12 3 _ rfl; (try simp only [show (k96).sz = 10 from rfl, Nat.mul_one, Nat.add_zero] at hx12_3); have hf12_3 := hfr12 3; (try simp only [show (k96).sz = 10 from rfl, Nat.mul_one, Nat.add_zero] at hf12_3); have hx12_4 := hcc12 4 _ rfl; (try simp only [show (k96).sz = 10 from rfl, Nat.mul_one, Nat.add_zero] at hx12_4); have hf12_4 := hfr12 4; (try simp only [show (k96).sz = 10 from rfl, Nat.mul_one, Nat.add_zero] at hf12_4); have hx12_5 := hcc12 5 _ rfl; (try simp only [show (k96).sz = 10 from rfl, Nat.mul_one, Nat.add_zero] at hx12_5); have hf12_5 := hfr12 5; (try simp only [show (k96).sz = 10 from rfl, Nat.mul_one, Nat.add_zero] at hf12_5); have hx12_6 := hcc12 6 _ rfl; (try simp only [show (k96).sz = 10 from rfl, Nat.mul_one, Nat.add_zero] at hx12_6); have hf12_6 := hfr12 6; (try simp only [show (k96).sz = 10 from rfl, Nat.mul_one, Nat.add_zero] at hf12_6); have hx12_7 := hcc12 7 _ rfl; (try simp only [show (k96).sz = 10 from rfl, Nat.mul_one, Nat.add_zero] at hx12_7); have hf12_7 := hfr12 7; (try simp only [show (k96).sz = 10 from rfl, Nat.mul_one, Nat.add_zero] at hf12_7); have hx12_8 := hcc12 8 _ rfl; (try simp only [show (k96).sz = 10 from rfl, Nat.mul_one, Nat.add_zero] at hx12_8); have hf12_8 := hfr12 8; (try simp only [show (k96).sz = 10 from rfl, Nat.mul_one, Nat.add_zero] at hf12_8); have hx12_9 := hcc12 9 _ rfl; (try simp only [show (k96).sz = 10 from rfl, Nat.mul_one, Nat.add_zero] at hx12_9); have hf12_9 := hfr12 9; (try simp only [show (k96).sz = 10 from rfl, Nat.mul_one, Nat.add_zero] at hf12_9); clear hcl12 hcc12 hfr12 hM12 hoki12 hH12) | ((with_reducible refine gate_store (t := 96) (p := 21) rfl ?_); refine store_event (t := 96) (p := 21) (v := ?vo_w13) (w1 := ((((((((((w11.setCell ⟨go10, (x4_1 : Int).toNat * 10, none⟩ (.string t105)).setCell ⟨go10, (x4_1 : Int).toNat * 10 + 1, none⟩ (.slice Ao14 t106.length co14)).setCell ⟨go10, (x4_1 : Int).toNat * 10 + 2, none⟩ (.int .i64 t109)).setCell ⟨go10, (x4_1 : Int).toNat * 10 + 3, none⟩ (.int .i64 t110)).setCell ⟨go10, (x4_1 : Int).toNat * 10 + 4, none⟩ (.int .i64 t111)).setCell ⟨go10, (x4_1 : Int).toNat * 10 + 5, none⟩ (.int .i64 t112)).setCell ⟨go10, (x4_1 : Int).toNat * 10 + 6, none⟩ (.int .i64 t113)).setCell ⟨go10, (x4_1 : Int).toNat * 10 + 7, none⟩ (.int .i64 t114)).setCell ⟨go10, (x4_1 : Int).toNat * 10 + 8, none⟩ (.slice Ao15 t115.length co15)).setCell ⟨go10, (x4_1 : Int).toNat * 10 + 9, none⟩ (.bool t118))) ?hg ?ho ?hn ?hr ?_; (case ho => rfl); (case hg => rfl); (case hn => rfl); (case hr => first | (go_simp; done) | (go_simp; rfl)); intro w13 hw; have hg : w11.grownBy w13 (some go10) := (by rw [hw]; exact HP12.2); have hp_ : Kd.S k96 96 w13 w.heap.size (fun _ => True) (.slice (some ⟨go10, 0, none⟩) x3_1.length co10) y119 := (by rw [hw, Ny119.out]; exact HP12.1); clear HP12; have _ := aM hp_; have _ := aM ((by rw [hw]; exact below_set (below_set (below_set (below_set (below_set (below_set (below_set (below_set (below_set (below_set (HB.out) GB10.out) GB10.out) GB10.out) GB10.out) GB10.out) GB10.out) GB10.out) GB10.out) GB10.out) GB10.out : Below w.heap.size w w13)); clear HO_3 HB HO108 HO117; rename_i HO_3 HB; clear hg hw hp_))
     go_roundg k1
     case measure => have := HK1.out; omega
     case rel => exact ⟨(y119), (wrap64 (x4_1 + 1)), z4458, H', ⟨zfb39⟩, ⟨zd74a⟩, ⟨z5acd⟩⟩
   · rw [if_neg c6] at H
     have c6b0 := nL c6
     clear c6
     obtain rfl := Option.some.inj H
     go_wp2
     go_ret
     exact ⟨_, z674d, zd74a, z5acd⟩
end Go.Proofs.YtkgmoajdcibafaaDoor.P

-- written by a program of this session's (wip/pp)
namespace Go.Proofs.YtkgmoajdcibafaaDoor.P
open Go.RowKit Go.Proofs.YtkgmoajdcibafaaDoorW.PrintWords Go.Proofs.YtkgmoajdcibafaaDoorW.PrintLast Go.Proofs.YtkgmoajdcibafaaDoorW.PrintMore
attribute [local go_sem] max2_int min2_int max_two min_two max_three min_three max_four min_four str_geq str_gtr str_leq   -- for this text's walks alone
set_option linter.unusedVariables false
set_option linter.unusedSimpArgs false

/-! ### laws_eqTag: function 96 -/
def laws_eqTag.f (a0_0 : ByteArray) (a0_1 : ByteArray) (a1_0 : ByteArray) (a1_1 : ByteArray) : Option (Bool) := if a0_0.toList = a1_0.toList then (if a0_1.toList = a1_1.toList then (some true) else (none)) else (none)
set_option maxHeartbeats 8000000 in
set_option maxRecDepth 100000 in
theorem laws_eqTag.calls (a0_0 : ByteArray) (a0_1 : ByteArray) (a1_0 : ByteArray) (a1_1 : ByteArray) (r : Bool) (w : World) (h : laws_eqTag.f a0_0 a0_1 a1_0 a1_1 = some r) :
 Calls Tryd.prog 96 #[.agg #[.string a0_0, .string a0_1], .agg #[.string a1_0, .string a1_1]] w fun e w' => e = .returned (.bool r) ∧ Below w.heap.size w w' := by
 have hu123 := Tryd.underlying123
 have HB := aM (Below.refl w.heap.size w)
 have H : (if a0_0.toList = a1_0.toList then (if a0_1.toList = a1_1.toList then (some true) else (none)) else (none)) = some r := h
 clear h
 replace H := ifS H; obtain ⟨c3, H⟩ := H
 have c3b0 := eqE c3
 clear c3
 replace H := ifS H; obtain ⟨c4, H⟩ := H
 have c4b0 := eqE c4
 clear c4
 obtain rfl := Option.some.inj H
 go_enter Tryd.func96, Tryd.ntmps96
 go_wp2_with (first | ((with_reducible refine gate_dst (N := 2) rfl ?_); refine bX 2 123 #[.string a0_0, .string a0_1] ?_; intro gb101 hg w5 hbox hb; have _ := aM (below_step hbZ hb); have _ := aM hbox; have _ := szZ hg; have _ := szZ hg; clear HB; rename_i HB BK101 GW101 GE101; clear hb hbox hg) | ((with_reducible refine gate_dst (N := 3) rfl ?_); refine bX 3 123 #[.string a1_0, .string a1_1] ?_; intro gb102 hg w6 hbox hb; have _ := bB gb101 hb; have _ := aM (below_step hbZ hb); have _ := aM hbox; have _ := szZ hg; have _ := szZ hg; have ⟨_, _⟩ := nbB gb101 hg; clear BK101 HB; rename_i BK101 HB BK102 GW102 GE102 NB101_102 NB102_101; clear hb hbox hg; have hnb7 := NB101_102.out; have hnc7 := NB102_101.out; have hz8 := cellsZ2 BK101.out; have hz9 := cellsZ2 BK102.out))
 go_ret
 exact ⟨z674d, zcb41⟩
end Go.Proofs.YtkgmoajdcibafaaDoor.P

-- written by a program of this session's (wip/pp)
namespace Go.Proofs.YtkgmoajdcibafaaDoor.P
open Go.RowKit Go.Proofs.YtkgmoajdcibafaaDoorW.PrintWords Go.Proofs.YtkgmoajdcibafaaDoorW.PrintLast Go.Proofs.YtkgmoajdcibafaaDoorW.PrintMore
attribute [local go_sem] max2_int min2_int max_two min_two max_three min_three max_four min_four str_geq str_gtr str_leq   -- for this text's walks alone
set_option linter.unusedVariables false
set_option linter.unusedSimpArgs false

/-! ### laws_eqTagS: function 52 -/
def laws_eqTagS.l0 : Nat → List (S123) → List (S123) → Int → Option (Bool)
 | 0, _, _, _ => none
 | k + 1, x0, x1, x5 => if x5 < (x0.length : Int) then (if 0 ≤ x5 then (if x5 < (x1.length : Int) then ((laws_eqTag.f ((rd_T123 x0 x5).f0) ((rd_T123 x0 x5).f1) ((rd_T123 x1 x5).f0) ((rd_T123 x1 x5).f1)).bind fun t103 => (if t103 = true then (laws_eqTagS.l0 k x0 x1 (wrap64 (x5 + 1))) else (none))) else (none)) else (none)) else (some true)
def laws_eqTagS.f (k : Nat) (l0 : List (S123)) (l1 : List (S123)) : Option (Bool) := if (l0.length : Int) = (l1.length : Int) then (laws_eqTagS.l0 k l0 l1 0) else (none)
theorem laws_eqTagS.mono_l : ∀ k, (∀ y0 y1 y2, LeO (laws_eqTagS.l0 k y0 y1 y2) (laws_eqTagS.l0 (k + 1) y0 y1 y2))
 | 0 => fun _ _ _ r h => by simp [laws_eqTagS.l0] at h
 | k + 1 => by
  have ih0 := laws_eqTagS.mono_l k
  · intro y0 y1 y2
    unfold laws_eqTagS.l0
    exact moZ
theorem laws_eqTagS.mono : ∀ a0 a1 k, LeO (laws_eqTagS.f k a0 a1) (laws_eqTagS.f (k + 1) a0 a1) := by
 intro a0 a1 k
 have ih0 := laws_eqTagS.mono_l k
 unfold laws_eqTagS.f
 exact moZ
def laws_eqTagS.T6 : Bool × List (List Nat × List Nat) := (true, [([], []), ([], []), ([0, 1], [0, 1]), ([2], [2]), ([], []), ([], []), ([4, 5], [4, 5]), ([6], [6]), ([3, 7], [3, 7]), ([8], [8])])
def laws_eqTagS.B6 : List Nat := [0, 0, 3, 7, 0, 0, 48, 112, 255, 511]
theorem laws_eqTagS.tab6 : rtab .any (opsOf Tryd.f52 6) = laws_eqTagS.T6 := by kernel_rfl
theorem laws_eqTagS.bits6 : waitsOk laws_eqTagS.T6.2 laws_eqTagS.B6 = true := by kernel_rfl
set_option maxHeartbeats 8000000 in
set_option maxRecDepth 100000 in
theorem laws_eqTagS.calls (k : Nat) (A0 : Option Addr) (c0 : Nat) (l0 : List (S123)) (A1 : Option Addr) (c1 : Nat) (l1 : List (S123)) (r : Bool) (w : World) (hr0 : Kd.C k123 w A0 l0.length l0) (hc0 : l0.length ≤ c0) (hr1 : Kd.C k123 w A1 l1.length l1) (hc1 : l1.length ≤ c1) (h : laws_eqTagS.f k l0 l1 = some r) :
 Calls Tryd.prog 52 #[.slice A0 l0.length c0, .slice A1 l1.length c1] w fun e w' => e = .returned (.bool r) ∧ Below w.heap.size w w' := by
 have hu123 := Tryd.underlying123
 have HR0 := aM hr0
 have HC0 := aM hc0
 clear hr0 hc0
 have HR1 := aM hr1
 have HC1 := aM hc1
 clear hr1 hc1
 have HB := aM (Below.refl w.heap.size w)
 have H : (if (l0.length : Int) = (l1.length : Int) then (laws_eqTagS.l0 k l0 l1 0) else (none)) = some r := h
 clear h
 replace H := ifS H; obtain ⟨c3, H⟩ := H
 have c3b0 := eqE c3
 have c3b2 : (l0.length == l1.length) = true := by first | simpa using c3 | (simp at c3 ⊢; omega)
 clear c3
 have H' := aM H
 clear H
 go_enter Tryd.func52, Tryd.ntmps52
 go_wp2
 go_loopg [5] k (fun kq v5 w' => ∃ (x5_1 : Int), v5 = .int .i64 x5_1 ∧ Aside0 (laws_eqTagS.l0 kq l0 l1 x5_1 = some r) ∧ Aside0 (kq ≤ k) ∧ Aside0 (Below w.heap.size w w'))
 case atStart => exact ⟨(0), z4458, H', ⟨Nat.le_refl _⟩, ⟨z5acd⟩⟩
 case round =>
  clear H'
  (try clear c1); (try clear c3b0); (try clear c3b2)
  obtain ⟨x5_1, rfl, HA, HK1, HB⟩ := hrel
  cases gk with
  | zero => exact absurd HA.out (by simp [laws_eqTagS.l0])
  | succ k1 =>
   have H := HA.out
   clear HA
   simp only [laws_eqTagS.l0] at H
   by_cases c4 : x5_1 < (l0.length : Int)
   · rw [if_pos c4] at H
     have c4b0 := dL c4
     clear c4
     obtain ⟨c5b0, H⟩ := sE H
     obtain ⟨c6b0, H⟩ := sL H
     obtain ⟨t103, A7, H⟩ := bS H; try dsimp only at H
     by_cases c8 : t103 = true
     · subst c8
       rw [if_pos rfl] at H
       have H' := aM H
       clear H
       try go_wp2
       have _ := aM (below_drew1 HB.out)
       clear HB
       rename_i HB
       have p101 : 0 ≤ (x5_1 : Int) := of_decide_eq_true z1200
       have q101 : x5_1 < (l0.length : Int) := of_decide_eq_true z1200
       obtain ⟨ad101, e101, hx101_0, hx101_1⟩ := at_T123 HR0.out x5_1 p101 q101
       have hw101_1 := hx101_1
       have hw101_0 := hx101_0
       cases e101
       replace hx101_0 := (HB.out.cell (World.block_lt_of_cell? w _ hx101_0)).trans hx101_0
       replace hx101_1 := (HB.out.cell (World.block_lt_of_cell? w _ hx101_1)).trans hx101_1
       replace p101 := eq_true p101
       replace q101 := eq_true q101
       have p102 : 0 ≤ (x5_1 : Int) := of_decide_eq_true z1200
       have q102 : x5_1 < (l1.length : Int) := of_decide_eq_true z1200
       obtain ⟨ad102, e102, hx102_0, hx102_1⟩ := at_T123 HR1.out x5_1 p102 q102
       have hw102_1 := hx102_1
       have hw102_0 := hx102_0
       cases e102
       replace hx102_0 := (HB.out.cell (World.block_lt_of_cell? w _ hx102_0)).trans hx102_0
       replace hx102_1 := (HB.out.cell (World.block_lt_of_cell? w _ hx102_1)).trans hx102_1
       replace p102 := eq_true p102
       replace q102 := eq_true q102
       refine sA 10 laws_eqTagS.tab6 laws_eqTagS.bits6 (fun w' => w'.cell? (ad101.add ((x5_1).toNat * 2)) = some (.string ((rd_T123 l0 x5_1).f0)) ∧ w'.cell? ⟨(ad101.add ((x5_1).toNat * 2)).block, (ad101.add ((x5_1).toNat * 2)).off + 1, none⟩ = some (.string ((rd_T123 l0 x5_1).f1)) ∧ w'.cell? (ad102.add ((x5_1).toNat * 2)) = some (.string ((rd_T123 l1 x5_1).f0)) ∧ w'.cell? ⟨(ad102.add ((x5_1).toNat * 2)).block, (ad102.add ((x5_1).toNat * 2)).off + 1, none⟩ = some (.string ((rd_T123 l1 x5_1).f1))) [] (fun hHeld HT_ HW_ => ?_)
       generalize wr.drew = w9 at HB hx101_0 hx101_1 hx102_0 hx102_1 hHeld ⊢
       refine pA 0 17 HT_ ?_; refine pA 1 18 HT_ ?_; refine pA 2 19 HT_ ?_; refine pA 4 21 HT_ ?_; refine pA 5 22 HT_ ?_; refine pA 6 23 HT_ ?_; refine tA 3 20 HT_ HW_ hHeld ?_; refine tA 7 24 HT_ HW_ hHeld ?_; refine oA 8 25 HT_ (fun K hK => ?_)
       refine goes_ Tryd.func96 (by kernel_rfl) rfl #[.agg #[.string ((rd_T123 l0 x5_1).f0), .string ((rd_T123 l0 x5_1).f1)], .agg #[.string ((rd_T123 l1 x5_1).f0), .string ((rd_T123 l1 x5_1).f1)]] (by rfl) rfl rfl zee81 ?_
       with_reducible refine (laws_eqTag.calls ((rd_T123 l0 x5_1).f0) ((rd_T123 l0 x5_1).f1) ((rd_T123 l1 x5_1).f0) ((rd_T123 l1 x5_1).f1) true _ A7.out).mono ?_
       rintro e w10 ⟨rfl, hb⟩
       refine ⟨_, rfl, ?_⟩
       have _ := aM (below_step hbZ hb)
       clear HB
       rename_i HB
       (try clear hb)
       refine hK.out _ _ sZ (fun hHeld => ?_)
       clear hK K
       refine nA 25 ?_; refine pA 9 26 HT_ ?_
       refine done_ (done_of HT_.out (by kernel_rfl)) ?_
       try go_wp2
       go_roundg k1
       case measure => have := HK1.out; omega
       case rel => exact ⟨(wrap64 (x5_1 + 1)), z4458, H', ⟨zfb39⟩, ⟨z5acd⟩⟩
     · replace c8 := Bool.eq_false_iff.mpr c8
       subst c8
       rw [if_neg (show ¬ (false = true) by decide)] at H
       exact absurd H (by simp)
   · rw [if_neg c4] at H
     have c4b0 := nL c4
     clear c4
     obtain rfl := Option.some.inj H
     go_wp2
     go_ret
     exact ⟨z674d, z5acd⟩
end Go.Proofs.YtkgmoajdcibafaaDoor.P

-- written by a program of this session's (wip/pp)
namespace Go.Proofs.YtkgmoajdcibafaaDoor.P
open Go.RowKit Go.Proofs.YtkgmoajdcibafaaDoorW.PrintWords Go.Proofs.YtkgmoajdcibafaaDoorW.PrintLast Go.Proofs.YtkgmoajdcibafaaDoorW.PrintMore
attribute [local go_sem] max2_int min2_int max_two min_two max_three min_three max_four min_four str_geq str_gtr str_leq   -- for this text's walks alone
set_option linter.unusedVariables false
set_option linter.unusedSimpArgs false

/-! ### laws_eqKey: function 16 -/
def laws_eqKey.f (k : Nat) (a0_0 : ByteArray) (l0_1 : List (S123)) (a0_2 : Int) (a1_0 : ByteArray) (l1_1 : List (S123)) (a1_2 : Int) : Option (Bool) := if a0_0.toList = a1_0.toList then ((laws_eqTagS.f k l0_1 l1_1).bind fun t103 => (if t103 = true then (if a0_2 = a1_2 then (some true) else (none)) else (none))) else (none)
theorem laws_eqKey.mono : ∀ a0 a1 a2 a3 a4 a5 k, LeO (laws_eqKey.f k a0 a1 a2 a3 a4 a5) (laws_eqKey.f (k + 1) a0 a1 a2 a3 a4 a5) := by
 intro a0 a1 a2 a3 a4 a5 k
 have m0 := @laws_eqTagS.mono
 unfold laws_eqKey.f
 exact moZ
set_option maxHeartbeats 8000000 in
set_option maxRecDepth 100000 in
theorem laws_eqKey.calls (k : Nat) (a0_0 : ByteArray) (A0_1 : Option Addr) (c0_1 : Nat) (l0_1 : List (S123)) (a0_2 : Int) (a1_0 : ByteArray) (A1_1 : Option Addr) (c1_1 : Nat) (l1_1 : List (S123)) (a1_2 : Int) (r : Bool) (w : World) (hr0_1 : Kd.C k123 w A0_1 l0_1.length l0_1) (hc0_1 : l0_1.length ≤ c0_1) (hr1_1 : Kd.C k123 w A1_1 l1_1.length l1_1) (hc1_1 : l1_1.length ≤ c1_1) (h : laws_eqKey.f k a0_0 l0_1 a0_2 a1_0 l1_1 a1_2 = some r) :
 Calls Tryd.prog 16 #[.agg #[.string a0_0, .slice A0_1 l0_1.length c0_1, .int .i64 a0_2], .agg #[.string a1_0, .slice A1_1 l1_1.length c1_1, .int .i64 a1_2]] w fun e w' => e = .returned (.bool r) ∧ Below w.heap.size w w' := by
 have hu32 := Tryd.underlying32
 have HR0_1 := aM hr0_1
 have HC0_1 := aM hc0_1
 clear hr0_1 hc0_1
 have HR1_1 := aM hr1_1
 have HC1_1 := aM hc1_1
 clear hr1_1 hc1_1
 have HB := aM (Below.refl w.heap.size w)
 have H : (if a0_0.toList = a1_0.toList then ((laws_eqTagS.f k l0_1 l1_1).bind fun t103 => (if t103 = true then (if a0_2 = a1_2 then (some true) else (none)) else (none))) else (none)) = some r := h
 clear h
 replace H := ifS H; obtain ⟨c3, H⟩ := H
 have c3b0 := eqE c3
 clear c3
 obtain ⟨t103, A4, H⟩ := bS H; try dsimp only at H
 by_cases c5 : t103 = true
 · subst c5
   rw [if_pos rfl] at H
   replace H := ifS H; obtain ⟨c6, H⟩ := H
   have c6b0 := eqE c6
   clear c6
   obtain rfl := Option.some.inj H
   go_enter Tryd.func16, Tryd.ntmps16
   go_wp2_with (first | ((with_reducible refine gate_dst (N := 2) rfl ?_); refine bX 2 32 #[.string a0_0, .slice A0_1 l0_1.length c0_1, .int .i64 a0_2] ?_; intro gb101 hg w7 hbox hb; have _ := aM (below_step hbZ hb); have _ := aM hbox; have _ := szZ hg; have _ := szZ hg; clear HB; rename_i HB BK101 GW101 GE101; clear hb hbox hg) | ((with_reducible refine gate_dst (N := 3) rfl ?_); refine bX 3 32 #[.string a1_0, .slice A1_1 l1_1.length c1_1, .int .i64 a1_2] ?_; intro gb102 hg w8 hbox hb; have _ := bB gb101 hb; have _ := aM (below_step hbZ hb); have _ := aM hbox; have _ := szZ hg; have _ := szZ hg; have ⟨_, _⟩ := nbB gb101 hg; clear BK101 HB; rename_i BK101 HB BK102 GW102 GE102 NB101_102 NB102_101; clear hb hbox hg; have hnb9 := NB101_102.out; have hnc9 := NB102_101.out; have hz10 := cellsZ3 BK101.out; have hz11 := cellsZ3 BK102.out) | ((with_reducible refine gate_callee (f := 52) rfl ?_); refine gL 14 Tryd.func52 #[.slice A0_1 l0_1.length c0_1, .slice A1_1 l1_1.length c1_1] ?_; (with_reducible refine (laws_eqTagS.calls k _ _ l0_1 _ _ l1_1 true _ ?side1 ?side2 ?side3 ?side4 A4.out).mono ?_); (case side1 => exact (cZ (Kd.C_below HR0_1.out HB.out))); (case side2 => exact HC0_1.out); (case side3 => exact (cZ (Kd.C_below HR1_1.out HB.out))); (case side4 => exact HC1_1.out); rintro e w12 ⟨rfl, hb⟩; refine ⟨_, rfl, ?_⟩; have _ := bB gb101 hb; have _ := bB gb102 hb; have _ := aM (below_step hbZ hb); clear BK101 BK102 HB; rename_i BK101 BK102 HB; (try clear hb); have hz13 := cellsZ3 BK101.out; have hz14 := cellsZ3 BK102.out))
   go_ret
   exact ⟨z674d, zcb41⟩
 · replace c5 := Bool.eq_false_iff.mpr c5
   subst c5
   rw [if_neg (show ¬ (false = true) by decide)] at H
   exact absurd H (by simp)
end Go.Proofs.YtkgmoajdcibafaaDoor.P

-- written by a program of this session's (wip/pp)
namespace Go.Proofs.YtkgmoajdcibafaaDoor.P
open Go.RowKit Go.Proofs.YtkgmoajdcibafaaDoorW.PrintWords Go.Proofs.YtkgmoajdcibafaaDoorW.PrintLast Go.Proofs.YtkgmoajdcibafaaDoorW.PrintMore
attribute [local go_sem] max2_int min2_int max_two min_two max_three min_three max_four min_four str_geq str_gtr str_leq   -- for this text's walks alone
set_option linter.unusedVariables false
set_option linter.unusedSimpArgs false

/-! ### laws_eqIntS: function 95 -/
def laws_eqIntS.l0 : Nat → List Int → List Int → Int → Option (Bool)
 | 0, _, _, _ => none
 | k + 1, x0, x1, x5 => if x5 < (x0.length : Int) then (if 0 ≤ x5 then (if x5 < (x1.length : Int) then (if (rd x0 x5) = (rd x1 x5) then (laws_eqIntS.l0 k x0 x1 (wrap64 (x5 + 1))) else (none)) else (none)) else (none)) else (some true)
def laws_eqIntS.f (k : Nat) (l0 : List Int) (l1 : List Int) : Option (Bool) := if (l0.length : Int) = (l1.length : Int) then (laws_eqIntS.l0 k l0 l1 0) else (none)
theorem laws_eqIntS.mono_l : ∀ k, (∀ y0 y1 y2, LeO (laws_eqIntS.l0 k y0 y1 y2) (laws_eqIntS.l0 (k + 1) y0 y1 y2))
 | 0 => fun _ _ _ r h => by simp [laws_eqIntS.l0] at h
 | k + 1 => by
  have ih0 := laws_eqIntS.mono_l k
  · intro y0 y1 y2
    unfold laws_eqIntS.l0
    exact moZ
theorem laws_eqIntS.mono : ∀ a0 a1 k, LeO (laws_eqIntS.f k a0 a1) (laws_eqIntS.f (k + 1) a0 a1) := by
 intro a0 a1 k
 have ih0 := laws_eqIntS.mono_l k
 unfold laws_eqIntS.f
 exact moZ
set_option maxHeartbeats 8000000 in
set_option maxRecDepth 100000 in
theorem laws_eqIntS.calls (k : Nat) (A0 : Option Addr) (c0 : Nat) (l0 : List Int) (A1 : Option Addr) (c1 : Nat) (l1 : List Int) (r : Bool) (w : World) (hr0 : Kd.C (Kd.int .i64) w A0 l0.length l0) (hc0 : l0.length ≤ c0) (hr1 : Kd.C (Kd.int .i64) w A1 l1.length l1) (hc1 : l1.length ≤ c1) (h : laws_eqIntS.f k l0 l1 = some r) :
 Calls Tryd.prog 95 #[.slice A0 l0.length c0, .slice A1 l1.length c1] w fun e w' => e = .returned (.bool r) ∧ Drawn0 w w' := by
 have HR0 := aM hr0
 have HC0 := aM hc0
 clear hr0 hc0
 have HR1 := aM hr1
 have HC1 := aM hc1
 clear hr1 hc1
 have H : (if (l0.length : Int) = (l1.length : Int) then (laws_eqIntS.l0 k l0 l1 0) else (none)) = some r := h
 clear h
 replace H := ifS H; obtain ⟨c3, H⟩ := H
 have c3b0 := eqE c3
 have c3b2 : (l0.length == l1.length) = true := by first | simpa using c3 | (simp at c3 ⊢; omega)
 clear c3
 have H' := aM H
 clear H
 go_enter Tryd.func95, Tryd.ntmps95
 go_wp2
 repeat (go_quiet (fail); try go_wp2)
 go_loopg [5] k (fun kq v5 w' => ∃ (x5_1 : Int), v5 = .int .i64 x5_1 ∧ Aside0 (laws_eqIntS.l0 kq l0 l1 x5_1 = some r) ∧ Aside0 (kq ≤ k) ∧ Drawn0 w w')
 case atStart => exact ⟨(0), z4458, H', ⟨Nat.le_refl _⟩, za9de⟩
 case round =>
  clear H'
  (try clear c1); (try clear c3b0); (try clear c3b2)
  obtain ⟨x5_1, rfl, HA, HK1, ⟨m1, rfl⟩⟩ := hrel
  cases gk with
  | zero => exact absurd HA.out (by simp [laws_eqIntS.l0])
  | succ k1 =>
   have H := HA.out
   clear HA
   simp only [laws_eqIntS.l0] at H
   by_cases c4 : x5_1 < (l0.length : Int)
   · rw [if_pos c4] at H
     have c4b0 := dL c4
     clear c4
     obtain ⟨c5b0, H⟩ := sE H
     obtain ⟨c6b0, H⟩ := sL H
     replace H := ifS H; obtain ⟨c7, H⟩ := H
     have c7b0 := eqE c7
     clear c7
     have H' := aM H
     clear H
     have p101 : 0 ≤ (x5_1 : Int) := of_decide_eq_true z1200
     have q101 : x5_1 < (l0.length : Int) := of_decide_eq_true z1200
     obtain ⟨ad101, e101, hx101_0⟩ := Kd.at_int HR0.out x5_1 p101 q101
     cases e101
     replace p101 := eq_true p101
     replace q101 := eq_true q101
     have p102 : 0 ≤ (x5_1 : Int) := of_decide_eq_true z1200
     have q102 : x5_1 < (l1.length : Int) := of_decide_eq_true z1200
     obtain ⟨ad102, e102, hx102_0⟩ := Kd.at_int HR1.out x5_1 p102 q102
     cases e102
     replace p102 := eq_true p102
     replace q102 := eq_true q102
     go_wp2
     repeat (go_quiet (fail); try go_wp2)
     go_roundg k1
     case measure => have := HK1.out; omega
     case rel => exact ⟨(wrap64 (x5_1 + 1)), z4458, H', ⟨zfb39⟩, za9de⟩
   · rw [if_neg c4] at H
     have c4b0 := nL c4
     clear c4
     obtain rfl := Option.some.inj H
     go_wp2
     repeat (go_quiet (fail); try go_wp2)
     go_ret
     exact ⟨z4458, za9de⟩
end Go.Proofs.YtkgmoajdcibafaaDoor.P

-- written by a program of this session's (wip/pp)
namespace Go.Proofs.YtkgmoajdcibafaaDoor.P
open Go.RowKit Go.Proofs.YtkgmoajdcibafaaDoorW.PrintWords Go.Proofs.YtkgmoajdcibafaaDoorW.PrintLast Go.Proofs.YtkgmoajdcibafaaDoorW.PrintMore
attribute [local go_sem] max2_int min2_int max_two min_two max_three min_three max_four min_four str_geq str_gtr str_leq   -- for this text's walks alone
set_option linter.unusedVariables false
set_option linter.unusedSimpArgs false

/-! ### laws_eqAgg: function 50 -/
def laws_eqAgg.f (k : Nat) (a0_0 : Int) (a0_1 : Int) (a0_2 : Int) (a0_3 : Int) (l0_4 : List Int) (a0_5 : Bool) (a1_0 : Int) (a1_1 : Int) (a1_2 : Int) (a1_3 : Int) (l1_4 : List Int) (a1_5 : Bool) : Option (Bool) := if a0_0 = a1_0 then (if a0_1 = a1_1 then (if a0_2 = a1_2 then (if a0_3 = a1_3 then ((laws_eqIntS.f k l0_4 l1_4).bind fun t103 => (if t103 = true then (if (a0_5 != a1_5) = true then (none) else (some true)) else (none))) else (none)) else (none)) else (none)) else (none)
theorem laws_eqAgg.mono : ∀ a0 a1 a2 a3 a4 a5 a6 a7 a8 a9 a10 a11 k, LeO (laws_eqAgg.f k a0 a1 a2 a3 a4 a5 a6 a7 a8 a9 a10 a11) (laws_eqAgg.f (k + 1) a0 a1 a2 a3 a4 a5 a6 a7 a8 a9 a10 a11) := by
 intro a0 a1 a2 a3 a4 a5 a6 a7 a8 a9 a10 a11 k
 have m0 := @laws_eqIntS.mono
 unfold laws_eqAgg.f
 exact moZ
set_option maxHeartbeats 8000000 in
set_option maxRecDepth 100000 in
theorem laws_eqAgg.calls (k : Nat) (a0_0 : Int) (a0_1 : Int) (a0_2 : Int) (a0_3 : Int) (A0_4 : Option Addr) (c0_4 : Nat) (l0_4 : List Int) (a0_5 : Bool) (a1_0 : Int) (a1_1 : Int) (a1_2 : Int) (a1_3 : Int) (A1_4 : Option Addr) (c1_4 : Nat) (l1_4 : List Int) (a1_5 : Bool) (r : Bool) (w : World) (hr0_4 : Kd.C (Kd.int .i64) w A0_4 l0_4.length l0_4) (hc0_4 : l0_4.length ≤ c0_4) (hr1_4 : Kd.C (Kd.int .i64) w A1_4 l1_4.length l1_4) (hc1_4 : l1_4.length ≤ c1_4) (h : laws_eqAgg.f k a0_0 a0_1 a0_2 a0_3 l0_4 a0_5 a1_0 a1_1 a1_2 a1_3 l1_4 a1_5 = some r) :
 Calls Tryd.prog 50 #[.agg #[.int .i64 a0_0, .int .i64 a0_1, .int .i64 a0_2, .int .i64 a0_3, .slice A0_4 l0_4.length c0_4, .bool a0_5], .agg #[.int .i64 a1_0, .int .i64 a1_1, .int .i64 a1_2, .int .i64 a1_3, .slice A1_4 l1_4.length c1_4, .bool a1_5]] w fun e w' => e = .returned (.bool r) ∧ Below w.heap.size w w' := by
 have hu35 := Tryd.underlying35
 have HR0_4 := aM hr0_4
 have HC0_4 := aM hc0_4
 clear hr0_4 hc0_4
 have HR1_4 := aM hr1_4
 have HC1_4 := aM hc1_4
 clear hr1_4 hc1_4
 have HB := aM (Below.refl w.heap.size w)
 have H : (if a0_0 = a1_0 then (if a0_1 = a1_1 then (if a0_2 = a1_2 then (if a0_3 = a1_3 then ((laws_eqIntS.f k l0_4 l1_4).bind fun t103 => (if t103 = true then (if (a0_5 != a1_5) = true then (none) else (some true)) else (none))) else (none)) else (none)) else (none)) else (none)) = some r := h
 clear h
 replace H := ifS H; obtain ⟨c3, H⟩ := H
 have c3b0 := eqE c3
 clear c3
 replace H := ifS H; obtain ⟨c4, H⟩ := H
 have c4b0 := eqE c4
 clear c4
 replace H := ifS H; obtain ⟨c5, H⟩ := H
 have c5b0 := eqE c5
 clear c5
 replace H := ifS H; obtain ⟨c6, H⟩ := H
 have c6b0 := eqE c6
 clear c6
 obtain ⟨t103, A7, H⟩ := bS H; try dsimp only at H
 by_cases c8 : t103 = true
 · subst c8
   rw [if_pos rfl] at H
   replace H := ifN H; obtain ⟨c9, H⟩ := H
   have c9b0 : (a0_5 != a1_5) = false := by simpa using c9
   (try (have c9b1 : decide (a0_5 = a1_5) = true := by simpa using c9))
   (try (have c9b2 : (a0_5 == a1_5) = true := by simpa using c9))
   clear c9
   obtain rfl := Option.some.inj H
   go_enter Tryd.func50, Tryd.ntmps50
   go_wp2_with (first | ((with_reducible refine gate_dst (N := 2) rfl ?_); refine bX 2 35 #[.int .i64 a0_0, .int .i64 a0_1, .int .i64 a0_2, .int .i64 a0_3, .slice A0_4 l0_4.length c0_4, .bool a0_5] ?_; intro gb101 hg w10 hbox hb; have _ := aM (below_step hbZ hb); have _ := aM hbox; have _ := szZ hg; have _ := szZ hg; clear HB; rename_i HB BK101 GW101 GE101; clear hb hbox hg) | ((with_reducible refine gate_dst (N := 3) rfl ?_); refine bX 3 35 #[.int .i64 a1_0, .int .i64 a1_1, .int .i64 a1_2, .int .i64 a1_3, .slice A1_4 l1_4.length c1_4, .bool a1_5] ?_; intro gb102 hg w11 hbox hb; have _ := bB gb101 hb; have _ := aM (below_step hbZ hb); have _ := aM hbox; have _ := szZ hg; have _ := szZ hg; have ⟨_, _⟩ := nbB gb101 hg; clear BK101 HB; rename_i BK101 HB BK102 GW102 GE102 NB101_102 NB102_101; clear hb hbox hg; have hnb12 := NB101_102.out; have hnc12 := NB102_101.out; have hz13 := cellsZ6 BK101.out; have hz14 := cellsZ6 BK102.out) | ((with_reducible refine gate_callee (f := 95) rfl ?_); refine gL 29 Tryd.func95 #[.slice A0_4 l0_4.length c0_4, .slice A1_4 l1_4.length c1_4] ?_; (with_reducible refine (laws_eqIntS.calls k _ _ l0_4 _ _ l1_4 true _ ?side1 ?side2 ?side3 ?side4 A7.out).mono ?_); (case side1 => exact (cZ (Kd.C_below HR0_4.out HB.out))); (case side2 => exact HC0_4.out); (case side3 => exact (cZ (Kd.C_below HR1_4.out HB.out))); (case side4 => exact HC1_4.out); rintro e w' ⟨rfl, ⟨nd, rfl⟩⟩; refine ⟨_, rfl, ?_⟩))
   go_ret
   exact ⟨z674d, zcb41⟩
 · replace c8 := Bool.eq_false_iff.mpr c8
   subst c8
   rw [if_neg (show ¬ (false = true) by decide)] at H
   exact absurd H (by simp)
end Go.Proofs.YtkgmoajdcibafaaDoor.P

-- written by a program of this session's (wip/pp)
namespace Go.Proofs.YtkgmoajdcibafaaDoor.P
open Go.RowKit Go.Proofs.YtkgmoajdcibafaaDoorW.PrintWords Go.Proofs.YtkgmoajdcibafaaDoorW.PrintLast Go.Proofs.YtkgmoajdcibafaaDoorW.PrintMore
attribute [local go_sem] max2_int min2_int max_two min_two max_three min_three max_four min_four str_geq str_gtr str_leq   -- for this text's walks alone
set_option linter.unusedVariables false
set_option linter.unusedSimpArgs false

/-! ### laws_eqTold: function 74 -/
def laws_eqTold.f (k : Nat) (a0_0 : ByteArray) (l0_1 : List (S123)) (a0_2 : Int) (a0_3 : Int) (a0_4 : Int) (a0_5 : Int) (a0_6 : Int) (a0_7 : Int) (l0_8 : List Int) (a0_9 : Bool) (a1_0 : ByteArray) (l1_1 : List (S123)) (a1_2 : Int) (a1_3 : Int) (a1_4 : Int) (a1_5 : Int) (a1_6 : Int) (a1_7 : Int) (l1_8 : List Int) (a1_9 : Bool) : Option (Bool) := (laws_eqKey.f k a0_0 l0_1 a0_2 a1_0 l1_1 a1_2).bind fun t103 => (if t103 = true then (if a0_3 = a1_3 then ((laws_eqAgg.f k a0_4 a0_5 a0_6 a0_7 l0_8 a0_9 a1_4 a1_5 a1_6 a1_7 l1_8 a1_9).bind fun t104 => (if t104 = true then (some true) else (none))) else (none)) else (none))
theorem laws_eqTold.mono : ∀ a0 a1 a2 a3 a4 a5 a6 a7 a8 a9 a10 a11 a12 a13 a14 a15 a16 a17 a18 a19 k, LeO (laws_eqTold.f k a0 a1 a2 a3 a4 a5 a6 a7 a8 a9 a10 a11 a12 a13 a14 a15 a16 a17 a18 a19) (laws_eqTold.f (k + 1) a0 a1 a2 a3 a4 a5 a6 a7 a8 a9 a10 a11 a12 a13 a14 a15 a16 a17 a18 a19) := by
 intro a0 a1 a2 a3 a4 a5 a6 a7 a8 a9 a10 a11 a12 a13 a14 a15 a16 a17 a18 a19 k
 have m0 := @laws_eqAgg.mono; have m1 := @laws_eqKey.mono
 unfold laws_eqTold.f
 exact moZ
set_option maxHeartbeats 8000000 in
set_option maxRecDepth 100000 in
theorem laws_eqTold.calls (k : Nat) (a0_0 : ByteArray) (A0_1 : Option Addr) (c0_1 : Nat) (l0_1 : List (S123)) (a0_2 : Int) (a0_3 : Int) (a0_4 : Int) (a0_5 : Int) (a0_6 : Int) (a0_7 : Int) (A0_8 : Option Addr) (c0_8 : Nat) (l0_8 : List Int) (a0_9 : Bool) (a1_0 : ByteArray) (A1_1 : Option Addr) (c1_1 : Nat) (l1_1 : List (S123)) (a1_2 : Int) (a1_3 : Int) (a1_4 : Int) (a1_5 : Int) (a1_6 : Int) (a1_7 : Int) (A1_8 : Option Addr) (c1_8 : Nat) (l1_8 : List Int) (a1_9 : Bool) (r : Bool) (w : World) (hr0_1 : Kd.C k123 w A0_1 l0_1.length l0_1) (hc0_1 : l0_1.length ≤ c0_1) (hr0_8 : Kd.C (Kd.int .i64) w A0_8 l0_8.length l0_8) (hc0_8 : l0_8.length ≤ c0_8) (hr1_1 : Kd.C k123 w A1_1 l1_1.length l1_1) (hc1_1 : l1_1.length ≤ c1_1) (hr1_8 : Kd.C (Kd.int .i64) w A1_8 l1_8.length l1_8) (hc1_8 : l1_8.length ≤ c1_8) (h : laws_eqTold.f k a0_0 l0_1 a0_2 a0_3 a0_4 a0_5 a0_6 a0_7 l0_8 a0_9 a1_0 l1_1 a1_2 a1_3 a1_4 a1_5 a1_6 a1_7 l1_8 a1_9 = some r) :
 Calls Tryd.prog 74 #[.agg #[.string a0_0, .slice A0_1 l0_1.length c0_1, .int .i64 a0_2, .int .i64 a0_3, .int .i64 a0_4, .int .i64 a0_5, .int .i64 a0_6, .int .i64 a0_7, .slice A0_8 l0_8.length c0_8, .bool a0_9], .agg #[.string a1_0, .slice A1_1 l1_1.length c1_1, .int .i64 a1_2, .int .i64 a1_3, .int .i64 a1_4, .int .i64 a1_5, .int .i64 a1_6, .int .i64 a1_7, .slice A1_8 l1_8.length c1_8, .bool a1_9]] w fun e w' => e = .returned (.bool r) ∧ Below w.heap.size w w' := by
 have hu96 := Tryd.underlying96
 have hu32 := Tryd.underlying32
 have hu35 := Tryd.underlying35
 have HR0_1 := aM hr0_1
 have HC0_1 := aM hc0_1
 clear hr0_1 hc0_1
 have HR0_8 := aM hr0_8
 have HC0_8 := aM hc0_8
 clear hr0_8 hc0_8
 have HR1_1 := aM hr1_1
 have HC1_1 := aM hc1_1
 clear hr1_1 hc1_1
 have HR1_8 := aM hr1_8
 have HC1_8 := aM hc1_8
 clear hr1_8 hc1_8
 have HB := aM (Below.refl w.heap.size w)
 have H : ((laws_eqKey.f k a0_0 l0_1 a0_2 a1_0 l1_1 a1_2).bind fun t103 => (if t103 = true then (if a0_3 = a1_3 then ((laws_eqAgg.f k a0_4 a0_5 a0_6 a0_7 l0_8 a0_9 a1_4 a1_5 a1_6 a1_7 l1_8 a1_9).bind fun t104 => (if t104 = true then (some true) else (none))) else (none)) else (none))) = some r := h
 clear h
 obtain ⟨t103, A3, H⟩ := bS H; try dsimp only at H
 by_cases c4 : t103 = true
 · subst c4
   rw [if_pos rfl] at H
   replace H := ifS H; obtain ⟨c5, H⟩ := H
   have c5b0 := eqE c5
   clear c5
   obtain ⟨t104, A6, H⟩ := bS H; try dsimp only at H
   by_cases c7 : t104 = true
   · subst c7
     rw [if_pos rfl] at H
     obtain rfl := Option.some.inj H
     go_enter Tryd.func74, Tryd.ntmps74
     go_wp2_with (first | ((with_reducible refine gate_dst (N := 2) rfl ?_); refine bX 2 96 #[.string a0_0, .slice A0_1 l0_1.length c0_1, .int .i64 a0_2, .int .i64 a0_3, .int .i64 a0_4, .int .i64 a0_5, .int .i64 a0_6, .int .i64 a0_7, .slice A0_8 l0_8.length c0_8, .bool a0_9] ?_; intro gb101 hg w8 hbox hb; have _ := aM (below_step hbZ hb); have _ := aM hbox; have _ := szZ hg; have _ := szZ hg; clear HB; rename_i HB BK101 GW101 GE101; clear hb hbox hg) | ((with_reducible refine gate_dst (N := 3) rfl ?_); refine bX 3 96 #[.string a1_0, .slice A1_1 l1_1.length c1_1, .int .i64 a1_2, .int .i64 a1_3, .int .i64 a1_4, .int .i64 a1_5, .int .i64 a1_6, .int .i64 a1_7, .slice A1_8 l1_8.length c1_8, .bool a1_9] ?_; intro gb102 hg w9 hbox hb; have _ := bB gb101 hb; have _ := aM (below_step hbZ hb); have _ := aM hbox; have _ := szZ hg; have _ := szZ hg; have ⟨_, _⟩ := nbB gb101 hg; clear BK101 HB; rename_i BK101 HB BK102 GW102 GE102 NB101_102 NB102_101; clear hb hbox hg; have hnb10 := NB101_102.out; have hnc10 := NB102_101.out; have hz11 := cellsZ10 BK101.out; have hz12 := cellsZ10 BK102.out) | ((with_reducible refine gate_callee (f := 16) rfl ?_); refine gL 9 Tryd.func16 #[.agg #[.string a0_0, .slice A0_1 l0_1.length c0_1, .int .i64 a0_2], .agg #[.string a1_0, .slice A1_1 l1_1.length c1_1, .int .i64 a1_2]] ?_; (with_reducible refine (laws_eqKey.calls k a0_0 _ _ l0_1 a0_2 a1_0 _ _ l1_1 a1_2 true _ ?side1 ?side2 ?side3 ?side4 A3.out).mono ?_); (case side1 => exact (cZ (Kd.C_below HR0_1.out HB.out))); (case side2 => exact HC0_1.out); (case side3 => exact (cZ (Kd.C_below HR1_1.out HB.out))); (case side4 => exact HC1_1.out); rintro e w13 ⟨rfl, hb⟩; refine ⟨_, rfl, ?_⟩; have _ := bB gb101 hb; have _ := bB gb102 hb; have _ := aM (below_step hbZ hb); clear BK101 BK102 HB; rename_i BK101 BK102 HB; (try clear hb); have hz14 := cellsZ10 BK101.out; have hz15 := cellsZ10 BK102.out) | ((with_reducible refine gate_callee (f := 50) rfl ?_); refine gL 20 Tryd.func50 #[.agg #[.int .i64 a0_4, .int .i64 a0_5, .int .i64 a0_6, .int .i64 a0_7, .slice A0_8 l0_8.length c0_8, .bool a0_9], .agg #[.int .i64 a1_4, .int .i64 a1_5, .int .i64 a1_6, .int .i64 a1_7, .slice A1_8 l1_8.length c1_8, .bool a1_9]] ?_; (with_reducible refine (laws_eqAgg.calls k a0_4 a0_5 a0_6 a0_7 _ _ l0_8 a0_9 a1_4 a1_5 a1_6 a1_7 _ _ l1_8 a1_9 true _ ?side1 ?side2 ?side3 ?side4 A6.out).mono ?_); (case side1 => exact (cZ (Kd.C_below HR0_8.out HB.out))); (case side2 => exact HC0_8.out); (case side3 => exact (cZ (Kd.C_below HR1_8.out HB.out))); (case side4 => exact HC1_8.out); rintro e w16 ⟨rfl, hb⟩; refine ⟨_, rfl, ?_⟩; have _ := bB gb101 hb; have _ := bB gb102 hb; have _ := aM (below_step hbZ hb); clear BK101 BK102 HB; rename_i BK101 BK102 HB; (try clear hb)))
     go_ret
     exact ⟨z674d, zcb41⟩
   · replace c7 := Bool.eq_false_iff.mpr c7
     subst c7
     rw [if_neg (show ¬ (false = true) by decide)] at H
     exact absurd H (by simp)
 · replace c4 := Bool.eq_false_iff.mpr c4
   subst c4
   rw [if_neg (show ¬ (false = true) by decide)] at H
   exact absurd H (by simp)

end Go.Proofs.YtkgmoajdcibafaaDoor.P

-- written by a program of this session's (wip/pp)
namespace Go.Proofs.YtkgmoajdcibafaaDoor.P
open Go.RowKit Go.Proofs.YtkgmoajdcibafaaDoorW.PrintWords Go.Proofs.YtkgmoajdcibafaaDoorW.PrintLast Go.Proofs.YtkgmoajdcibafaaDoorW.PrintMore
attribute [local go_sem] max2_int min2_int max_two min_two max_three min_three max_four min_four str_geq str_gtr str_leq   -- for this text's walks alone
set_option linter.unusedVariables false
set_option linter.unusedSimpArgs false

/-! ### laws_eqToldS: function 28 -/
def laws_eqToldS.l0 : Nat → List (S96) → List (S96) → Int → Option (Bool)
 | 0, _, _, _ => none
 | k + 1, x0, x1, x5 => if x5 < (x0.length : Int) then (if 0 ≤ x5 then (if x5 < (x1.length : Int) then ((laws_eqTold.f k ((rd_T96 x0 x5).f0.f0) ((rd_T96 x0 x5).f0.f1) ((rd_T96 x0 x5).f0.f2) ((rd_T96 x0 x5).f1) ((rd_T96 x0 x5).f2.f0) ((rd_T96 x0 x5).f2.f1) ((rd_T96 x0 x5).f2.f2) ((rd_T96 x0 x5).f2.f3) ((rd_T96 x0 x5).f2.f4) ((rd_T96 x0 x5).f2.f5) ((rd_T96 x1 x5).f0.f0) ((rd_T96 x1 x5).f0.f1) ((rd_T96 x1 x5).f0.f2) ((rd_T96 x1 x5).f1) ((rd_T96 x1 x5).f2.f0) ((rd_T96 x1 x5).f2.f1) ((rd_T96 x1 x5).f2.f2) ((rd_T96 x1 x5).f2.f3) ((rd_T96 x1 x5).f2.f4) ((rd_T96 x1 x5).f2.f5)).bind fun t103 => (if t103 = true then (laws_eqToldS.l0 k x0 x1 (wrap64 (x5 + 1))) else (none))) else (none)) else (none)) else (some true)
def laws_eqToldS.f (k : Nat) (l0 : List (S96)) (l1 : List (S96)) : Option (Bool) := if (l0.length : Int) = (l1.length : Int) then (laws_eqToldS.l0 k l0 l1 0) else (none)
theorem laws_eqToldS.mono_l : ∀ k, (∀ y0 y1 y2, LeO (laws_eqToldS.l0 k y0 y1 y2) (laws_eqToldS.l0 (k + 1) y0 y1 y2))
 | 0 => fun _ _ _ r h => by simp [laws_eqToldS.l0] at h
 | k + 1 => by
  have ih0 := laws_eqToldS.mono_l k; have m0 := @laws_eqTold.mono
  · intro y0 y1 y2
    unfold laws_eqToldS.l0
    exact moZ
theorem laws_eqToldS.mono : ∀ a0 a1 k, LeO (laws_eqToldS.f k a0 a1) (laws_eqToldS.f (k + 1) a0 a1) := by
 intro a0 a1 k
 have ih0 := laws_eqToldS.mono_l k
 have m0 := @laws_eqTold.mono
 unfold laws_eqToldS.f
 exact moZ
def laws_eqToldS.T6 : Bool × List (List Nat × List Nat) := (true, [([], []), ([], []), ([0, 1], [0, 1]), ([2], [2]), ([], []), ([], []), ([4, 5], [4, 5]), ([6], [6]), ([3, 7], [3, 7]), ([8], [8])])
def laws_eqToldS.B6 : List Nat := [0, 0, 3, 7, 0, 0, 48, 112, 255, 511]
theorem laws_eqToldS.tab6 : rtab .any (opsOf Tryd.f28 6) = laws_eqToldS.T6 := by kernel_rfl
theorem laws_eqToldS.bits6 : waitsOk laws_eqToldS.T6.2 laws_eqToldS.B6 = true := by kernel_rfl
set_option maxHeartbeats 8000000 in
set_option maxRecDepth 100000 in
theorem laws_eqToldS.calls (k : Nat) (A0 : Option Addr) (c0 : Nat) (l0 : List (S96)) (A1 : Option Addr) (c1 : Nat) (l1 : List (S96)) (r : Bool) (w : World) (hr0 : Kd.C k96 w A0 l0.length l0) (hc0 : l0.length ≤ c0) (hr1 : Kd.C k96 w A1 l1.length l1) (hc1 : l1.length ≤ c1) (h : laws_eqToldS.f k l0 l1 = some r) :
 Calls Tryd.prog 28 #[.slice A0 l0.length c0, .slice A1 l1.length c1] w fun e w' => e = .returned (.bool r) ∧ Below w.heap.size w w' := by
 have hu96 := Tryd.underlying96
 have HR0 := aM hr0
 have HC0 := aM hc0
 clear hr0 hc0
 have HR1 := aM hr1
 have HC1 := aM hc1
 clear hr1 hc1
 have HB := aM (Below.refl w.heap.size w)
 have H : (if (l0.length : Int) = (l1.length : Int) then (laws_eqToldS.l0 k l0 l1 0) else (none)) = some r := h
 clear h
 replace H := ifS H; obtain ⟨c3, H⟩ := H
 have c3b0 := eqE c3
 have c3b2 : (l0.length == l1.length) = true := by first | simpa using c3 | (simp at c3 ⊢; omega)
 clear c3
 have H' := aM H
 clear H
 go_enter Tryd.func28, Tryd.ntmps28
 go_wp2
 go_loopg [5] k (fun kq v5 w' => ∃ (x5_1 : Int), v5 = .int .i64 x5_1 ∧ Aside0 (laws_eqToldS.l0 kq l0 l1 x5_1 = some r) ∧ Aside0 (kq ≤ k) ∧ Aside0 (Below w.heap.size w w'))
 case atStart => exact ⟨(0), z4458, H', ⟨Nat.le_refl _⟩, ⟨z5acd⟩⟩
 case round =>
  clear H'
  (try clear c1); (try clear c3b0); (try clear c3b2)
  obtain ⟨x5_1, rfl, HA, HK1, HB⟩ := hrel
  cases gk with
  | zero => exact absurd HA.out (by simp [laws_eqToldS.l0])
  | succ k1 =>
   have H := HA.out
   clear HA
   simp only [laws_eqToldS.l0] at H
   by_cases c4 : x5_1 < (l0.length : Int)
   · rw [if_pos c4] at H
     have c4b0 := dL c4
     clear c4
     obtain ⟨c5b0, H⟩ := sE H
     obtain ⟨c6b0, H⟩ := sL H
     obtain ⟨t103, A7, H⟩ := bS H; try dsimp only at H
     by_cases c8 : t103 = true
     · subst c8
       rw [if_pos rfl] at H
       have H' := aM H
       clear H
       try go_wp2
       have _ := aM (below_drew1 HB.out)
       clear HB
       rename_i HB
       have p101 : 0 ≤ (x5_1 : Int) := of_decide_eq_true z1200
       have q101 : x5_1 < (l0.length : Int) := of_decide_eq_true z1200
       obtain ⟨ad101, A101_1, c101_1, A101_8, c101_8, e101, hx101_0, hx101_1, hx101_2, hx101_3, hx101_4, hx101_5, hx101_6, hx101_7, hx101_8, hx101_9, hl101_1, hi101_1, hl101_8, hi101_8⟩ := at_T96 HR0.out x5_1 p101 q101
       have hw101_9 := hx101_9
       have hw101_8 := hx101_8
       have hw101_7 := hx101_7
       have hw101_6 := hx101_6
       have hw101_5 := hx101_5
       have hw101_4 := hx101_4
       have hw101_3 := hx101_3
       have hw101_2 := hx101_2
       have hw101_1 := hx101_1
       have hw101_0 := hx101_0
       cases e101
       have TW101_1 := aM hx101_1
       have TW101_8 := aM hx101_8
       replace hx101_0 := (HB.out.cell (World.block_lt_of_cell? w _ hx101_0)).trans hx101_0
       replace hx101_1 := (HB.out.cell (World.block_lt_of_cell? w _ hx101_1)).trans hx101_1
       replace hx101_2 := (HB.out.cell (World.block_lt_of_cell? w _ hx101_2)).trans hx101_2
       replace hx101_3 := (HB.out.cell (World.block_lt_of_cell? w _ hx101_3)).trans hx101_3
       replace hx101_4 := (HB.out.cell (World.block_lt_of_cell? w _ hx101_4)).trans hx101_4
       replace hx101_5 := (HB.out.cell (World.block_lt_of_cell? w _ hx101_5)).trans hx101_5
       replace hx101_6 := (HB.out.cell (World.block_lt_of_cell? w _ hx101_6)).trans hx101_6
       replace hx101_7 := (HB.out.cell (World.block_lt_of_cell? w _ hx101_7)).trans hx101_7
       replace hx101_8 := (HB.out.cell (World.block_lt_of_cell? w _ hx101_8)).trans hx101_8
       replace hx101_9 := (HB.out.cell (World.block_lt_of_cell? w _ hx101_9)).trans hx101_9
       have HR101_1 := aM hi101_1
       have HC101_1 := aM hl101_1
       clear hi101_1 hl101_1
       have HR101_8 := aM hi101_8
       have HC101_8 := aM hl101_8
       clear hi101_8 hl101_8
       replace p101 := eq_true p101
       replace q101 := eq_true q101
       have p102 : 0 ≤ (x5_1 : Int) := of_decide_eq_true z1200
       have q102 : x5_1 < (l1.length : Int) := of_decide_eq_true z1200
       obtain ⟨ad102, A102_1, c102_1, A102_8, c102_8, e102, hx102_0, hx102_1, hx102_2, hx102_3, hx102_4, hx102_5, hx102_6, hx102_7, hx102_8, hx102_9, hl102_1, hi102_1, hl102_8, hi102_8⟩ := at_T96 HR1.out x5_1 p102 q102
       have hw102_9 := hx102_9
       have hw102_8 := hx102_8
       have hw102_7 := hx102_7
       have hw102_6 := hx102_6
       have hw102_5 := hx102_5
       have hw102_4 := hx102_4
       have hw102_3 := hx102_3
       have hw102_2 := hx102_2
       have hw102_1 := hx102_1
       have hw102_0 := hx102_0
       cases e102
       have TW102_1 := aM hx102_1
       have TW102_8 := aM hx102_8
       replace hx102_0 := (HB.out.cell (World.block_lt_of_cell? w _ hx102_0)).trans hx102_0
       replace hx102_1 := (HB.out.cell (World.block_lt_of_cell? w _ hx102_1)).trans hx102_1
       replace hx102_2 := (HB.out.cell (World.block_lt_of_cell? w _ hx102_2)).trans hx102_2
       replace hx102_3 := (HB.out.cell (World.block_lt_of_cell? w _ hx102_3)).trans hx102_3
       replace hx102_4 := (HB.out.cell (World.block_lt_of_cell? w _ hx102_4)).trans hx102_4
       replace hx102_5 := (HB.out.cell (World.block_lt_of_cell? w _ hx102_5)).trans hx102_5
       replace hx102_6 := (HB.out.cell (World.block_lt_of_cell? w _ hx102_6)).trans hx102_6
       replace hx102_7 := (HB.out.cell (World.block_lt_of_cell? w _ hx102_7)).trans hx102_7
       replace hx102_8 := (HB.out.cell (World.block_lt_of_cell? w _ hx102_8)).trans hx102_8
       replace hx102_9 := (HB.out.cell (World.block_lt_of_cell? w _ hx102_9)).trans hx102_9
       have HR102_1 := aM hi102_1
       have HC102_1 := aM hl102_1
       clear hi102_1 hl102_1
       have HR102_8 := aM hi102_8
       have HC102_8 := aM hl102_8
       clear hi102_8 hl102_8
       replace p102 := eq_true p102
       replace q102 := eq_true q102
       refine sA 10 laws_eqToldS.tab6 laws_eqToldS.bits6 (fun w' => w'.cell? (ad101.add ((x5_1).toNat * 10)) = some (.string ((rd_T96 l0 x5_1).f0.f0)) ∧ w'.cell? ⟨(ad101.add ((x5_1).toNat * 10)).block, (ad101.add ((x5_1).toNat * 10)).off + 1, none⟩ = some (.slice A101_1 ((rd_T96 l0 x5_1).f0.f1).length c101_1) ∧ w'.cell? ⟨(ad101.add ((x5_1).toNat * 10)).block, (ad101.add ((x5_1).toNat * 10)).off + 2, none⟩ = some (.int .i64 ((rd_T96 l0 x5_1).f0.f2)) ∧ w'.cell? ⟨(ad101.add ((x5_1).toNat * 10)).block, (ad101.add ((x5_1).toNat * 10)).off + 3, none⟩ = some (.int .i64 ((rd_T96 l0 x5_1).f1)) ∧ w'.cell? ⟨(ad101.add ((x5_1).toNat * 10)).block, (ad101.add ((x5_1).toNat * 10)).off + 4, none⟩ = some (.int .i64 ((rd_T96 l0 x5_1).f2.f0)) ∧ w'.cell? ⟨(ad101.add ((x5_1).toNat * 10)).block, (ad101.add ((x5_1).toNat * 10)).off + 5, none⟩ = some (.int .i64 ((rd_T96 l0 x5_1).f2.f1)) ∧ w'.cell? ⟨(ad101.add ((x5_1).toNat * 10)).block, (ad101.add ((x5_1).toNat * 10)).off + 6, none⟩ = some (.int .i64 ((rd_T96 l0 x5_1).f2.f2)) ∧ w'.cell? ⟨(ad101.add ((x5_1).toNat * 10)).block, (ad101.add ((x5_1).toNat * 10)).off + 7, none⟩ = some (.int .i64 ((rd_T96 l0 x5_1).f2.f3)) ∧ w'.cell? ⟨(ad101.add ((x5_1).toNat * 10)).block, (ad101.add ((x5_1).toNat * 10)).off + 8, none⟩ = some (.slice A101_8 ((rd_T96 l0 x5_1).f2.f4).length c101_8) ∧ w'.cell? ⟨(ad101.add ((x5_1).toNat * 10)).block, (ad101.add ((x5_1).toNat * 10)).off + 9, none⟩ = some (.bool ((rd_T96 l0 x5_1).f2.f5)) ∧ w'.cell? (ad102.add ((x5_1).toNat * 10)) = some (.string ((rd_T96 l1 x5_1).f0.f0)) ∧ w'.cell? ⟨(ad102.add ((x5_1).toNat * 10)).block, (ad102.add ((x5_1).toNat * 10)).off + 1, none⟩ = some (.slice A102_1 ((rd_T96 l1 x5_1).f0.f1).length c102_1) ∧ w'.cell? ⟨(ad102.add ((x5_1).toNat * 10)).block, (ad102.add ((x5_1).toNat * 10)).off + 2, none⟩ = some (.int .i64 ((rd_T96 l1 x5_1).f0.f2)) ∧ w'.cell? ⟨(ad102.add ((x5_1).toNat * 10)).block, (ad102.add ((x5_1).toNat * 10)).off + 3, none⟩ = some (.int .i64 ((rd_T96 l1 x5_1).f1)) ∧ w'.cell? ⟨(ad102.add ((x5_1).toNat * 10)).block, (ad102.add ((x5_1).toNat * 10)).off + 4, none⟩ = some (.int .i64 ((rd_T96 l1 x5_1).f2.f0)) ∧ w'.cell? ⟨(ad102.add ((x5_1).toNat * 10)).block, (ad102.add ((x5_1).toNat * 10)).off + 5, none⟩ = some (.int .i64 ((rd_T96 l1 x5_1).f2.f1)) ∧ w'.cell? ⟨(ad102.add ((x5_1).toNat * 10)).block, (ad102.add ((x5_1).toNat * 10)).off + 6, none⟩ = some (.int .i64 ((rd_T96 l1 x5_1).f2.f2)) ∧ w'.cell? ⟨(ad102.add ((x5_1).toNat * 10)).block, (ad102.add ((x5_1).toNat * 10)).off + 7, none⟩ = some (.int .i64 ((rd_T96 l1 x5_1).f2.f3)) ∧ w'.cell? ⟨(ad102.add ((x5_1).toNat * 10)).block, (ad102.add ((x5_1).toNat * 10)).off + 8, none⟩ = some (.slice A102_8 ((rd_T96 l1 x5_1).f2.f4).length c102_8) ∧ w'.cell? ⟨(ad102.add ((x5_1).toNat * 10)).block, (ad102.add ((x5_1).toNat * 10)).off + 9, none⟩ = some (.bool ((rd_T96 l1 x5_1).f2.f5))) [] (fun hHeld HT_ HW_ => ?_)
       generalize wr.drew = w9 at HB HR101_1 HR101_8 HR102_1 HR102_8 hx101_0 hx101_1 hx101_2 hx101_3 hx101_4 hx101_5 hx101_6 hx101_7 hx101_8 hx101_9 hx102_0 hx102_1 hx102_2 hx102_3 hx102_4 hx102_5 hx102_6 hx102_7 hx102_8 hx102_9 hHeld ⊢
       refine pA 0 17 HT_ ?_; refine pA 1 18 HT_ ?_; refine pA 2 19 HT_ ?_; refine pA 4 21 HT_ ?_; refine pA 5 22 HT_ ?_; refine pA 6 23 HT_ ?_; refine tA 3 20 HT_ HW_ hHeld ?_; refine tA 7 24 HT_ HW_ hHeld ?_; refine oA 8 25 HT_ (fun K hK => ?_)
       refine goes_ Tryd.func74 (by kernel_rfl) rfl #[.agg #[.string ((rd_T96 l0 x5_1).f0.f0), .slice A101_1 ((rd_T96 l0 x5_1).f0.f1).length c101_1, .int .i64 ((rd_T96 l0 x5_1).f0.f2), .int .i64 ((rd_T96 l0 x5_1).f1), .int .i64 ((rd_T96 l0 x5_1).f2.f0), .int .i64 ((rd_T96 l0 x5_1).f2.f1), .int .i64 ((rd_T96 l0 x5_1).f2.f2), .int .i64 ((rd_T96 l0 x5_1).f2.f3), .slice A101_8 ((rd_T96 l0 x5_1).f2.f4).length c101_8, .bool ((rd_T96 l0 x5_1).f2.f5)], .agg #[.string ((rd_T96 l1 x5_1).f0.f0), .slice A102_1 ((rd_T96 l1 x5_1).f0.f1).length c102_1, .int .i64 ((rd_T96 l1 x5_1).f0.f2), .int .i64 ((rd_T96 l1 x5_1).f1), .int .i64 ((rd_T96 l1 x5_1).f2.f0), .int .i64 ((rd_T96 l1 x5_1).f2.f1), .int .i64 ((rd_T96 l1 x5_1).f2.f2), .int .i64 ((rd_T96 l1 x5_1).f2.f3), .slice A102_8 ((rd_T96 l1 x5_1).f2.f4).length c102_8, .bool ((rd_T96 l1 x5_1).f2.f5)]] (by rfl) rfl rfl zee81 ?_
       with_reducible refine (laws_eqTold.calls k1 ((rd_T96 l0 x5_1).f0.f0) _ _ ((rd_T96 l0 x5_1).f0.f1) ((rd_T96 l0 x5_1).f0.f2) ((rd_T96 l0 x5_1).f1) ((rd_T96 l0 x5_1).f2.f0) ((rd_T96 l0 x5_1).f2.f1) ((rd_T96 l0 x5_1).f2.f2) ((rd_T96 l0 x5_1).f2.f3) _ _ ((rd_T96 l0 x5_1).f2.f4) ((rd_T96 l0 x5_1).f2.f5) ((rd_T96 l1 x5_1).f0.f0) _ _ ((rd_T96 l1 x5_1).f0.f1) ((rd_T96 l1 x5_1).f0.f2) ((rd_T96 l1 x5_1).f1) ((rd_T96 l1 x5_1).f2.f0) ((rd_T96 l1 x5_1).f2.f1) ((rd_T96 l1 x5_1).f2.f2) ((rd_T96 l1 x5_1).f2.f3) _ _ ((rd_T96 l1 x5_1).f2.f4) ((rd_T96 l1 x5_1).f2.f5) true _ ?side1 ?side2 ?side3 ?side4 ?side5 ?side6 ?side7 ?side8 A7.out).mono ?_
       (case side1 => exact (cZ (Kd.C_below HR101_1.out HB.out)))
       (case side2 => exact HC101_1.out)
       (case side3 => exact (cZ (Kd.C_below HR101_8.out HB.out)))
       (case side4 => exact HC101_8.out)
       (case side5 => exact (cZ (Kd.C_below HR102_1.out HB.out)))
       (case side6 => exact HC102_1.out)
       (case side7 => exact (cZ (Kd.C_below HR102_8.out HB.out)))
       (case side8 => exact HC102_8.out)
       rintro e w10 ⟨rfl, hb⟩
       refine ⟨_, rfl, ?_⟩
       have _ := aM (below_step hbZ hb)
       clear HB
       rename_i HB
       (try clear hb)
       refine hK.out _ _ sZ (fun hHeld => ?_)
       clear hK K
       refine nA 25 ?_; refine pA 9 26 HT_ ?_
       refine done_ (done_of HT_.out (by kernel_rfl)) ?_
       try go_wp2
       go_roundg k1
       case measure => have := HK1.out; omega
       case rel => exact ⟨(wrap64 (x5_1 + 1)), z4458, H', ⟨zfb39⟩, ⟨z5acd⟩⟩
     · replace c8 := Bool.eq_false_iff.mpr c8
       subst c8
       rw [if_neg (show ¬ (false = true) by decide)] at H
       exact absurd H (by simp)
   · rw [if_neg c4] at H
     have c4b0 := nL c4
     clear c4
     obtain rfl := Option.some.inj H
     go_wp2
     go_ret
     exact ⟨z674d, z5acd⟩
end Go.Proofs.YtkgmoajdcibafaaDoor.P

-- written by a program of this session's (wip/pp)
namespace Go.Proofs.YtkgmoajdcibafaaDoor.P
open Go.RowKit Go.Proofs.YtkgmoajdcibafaaDoorW.PrintWords Go.Proofs.YtkgmoajdcibafaaDoorW.PrintLast Go.Proofs.YtkgmoajdcibafaaDoorW.PrintMore
attribute [local go_sem] max2_int min2_int max_two min_two max_three min_three max_four min_four str_geq str_gtr str_leq   -- for this text's walks alone
set_option linter.unusedVariables false
set_option linter.unusedSimpArgs false

/-! ### laws_heldTagS: function 77 -/
def laws_heldTagS.l0 : Nat → List (S123) → Int → Int → Option (Int)
 | 0, _, _, _ => none
 | k + 1, x0, x1, x5 => if x5 < (x0.length : Int) then (if 0 ≤ x5 then ((laws_markText.f k x1).bind fun t102 => (if ((rd_T123 x0 x5).f0).toList = t102.toList then ((laws_markText.f k (wrap64 (x1 + 1))).bind fun t104 => (if ((rd_T123 x0 x5).f1).toList = t104.toList then (laws_heldTagS.l0 k x0 (wrap64 ((wrap64 (x1 + 1)) + 1)) (wrap64 (x5 + 1))) else (none))) else (none))) else (none)) else (some x1)
def laws_heldTagS.f (k : Nat) (l0 : List (S123)) (a1 : Int) : Option (Int) := laws_heldTagS.l0 k l0 a1 0
theorem laws_heldTagS.mono_l : ∀ k, (∀ y0 y1 y2, LeO (laws_heldTagS.l0 k y0 y1 y2) (laws_heldTagS.l0 (k + 1) y0 y1 y2))
 | 0 => fun _ _ _ r h => by simp [laws_heldTagS.l0] at h
 | k + 1 => by
  have ih0 := laws_heldTagS.mono_l k; have m0 := @laws_markText.mono
  · intro y0 y1 y2
    unfold laws_heldTagS.l0
    exact moZ
theorem laws_heldTagS.mono : ∀ a0 a1 k, LeO (laws_heldTagS.f k a0 a1) (laws_heldTagS.f (k + 1) a0 a1) := by
 intro a0 a1 k
 have ih0 := laws_heldTagS.mono_l k
 have m0 := @laws_markText.mono
 unfold laws_heldTagS.f
 exact moZ
def laws_heldTagS.T4 : Bool × List (List Nat × List Nat) := (true, [([], []), ([], []), ([0, 1], [0, 1]), ([2], [2]), ([3], [3]), ([], []), ([5], [5]), ([4, 6], [4, 6])])
def laws_heldTagS.B4 : List Nat := [0, 0, 3, 7, 15, 0, 32, 127]
theorem laws_heldTagS.tab4 : rtab .any (opsOf Tryd.f77 4) = laws_heldTagS.T4 := by kernel_rfl
theorem laws_heldTagS.bits4 : waitsOk laws_heldTagS.T4.2 laws_heldTagS.B4 = true := by kernel_rfl
def laws_heldTagS.T7 : Bool × List (List Nat × List Nat) := (true, [([], []), ([], []), ([0, 1], [0, 1]), ([2], [2]), ([3], [3]), ([], []), ([5], [5]), ([4, 6], [4, 6])])
def laws_heldTagS.B7 : List Nat := [0, 0, 3, 7, 15, 0, 32, 127]
theorem laws_heldTagS.tab7 : rtab .any (opsOf Tryd.f77 7) = laws_heldTagS.T7 := by kernel_rfl
theorem laws_heldTagS.bits7 : waitsOk laws_heldTagS.T7.2 laws_heldTagS.B7 = true := by kernel_rfl
set_option maxHeartbeats 8000000 in
set_option maxRecDepth 100000 in
theorem laws_heldTagS.calls (k : Nat) (A0 : Option Addr) (c0 : Nat) (l0 : List (S123)) (a1 : Int) (r : Int) (w : World) (hr0 : Kd.C k123 w A0 l0.length l0) (hc0 : l0.length ≤ c0) (h : laws_heldTagS.f k l0 a1 = some r) :
 Calls Tryd.prog 77 #[.slice A0 l0.length c0, .int .i64 a1] w fun e w' => e = .returned (.int .i64 r) ∧ Below w.heap.size w w' := by
 have HR0 := aM hr0
 have HC0 := aM hc0
 clear hr0 hc0
 have HB := aM (Below.refl w.heap.size w)
 have H : (laws_heldTagS.l0 k l0 a1 0) = some r := h
 clear h
 have H' := aM H
 clear H
 go_enter Tryd.func77, Tryd.ntmps77
 go_wp2
 go_loopg [1, 5] k (fun kq v1 v5 w' => ∃ (x1_1 : Int) (x5_1 : Int), v1 = .int .i64 x1_1 ∧ v5 = .int .i64 x5_1 ∧ Aside0 (laws_heldTagS.l0 kq l0 x1_1 x5_1 = some r) ∧ Aside0 (kq ≤ k) ∧ Aside0 (Below w.heap.size w w'))
 case atStart => exact ⟨(a1), (0), z4458, z4458, H', ⟨Nat.le_refl _⟩, ⟨z5acd⟩⟩
 case round =>
  clear H'
  obtain ⟨x1_1, x5_1, rfl, rfl, HA, HK1, HB⟩ := hrel
  cases gk with
  | zero => exact absurd HA.out (by simp [laws_heldTagS.l0])
  | succ k1 =>
   have H := HA.out
   clear HA
   simp only [laws_heldTagS.l0] at H
   by_cases c3 : x5_1 < (l0.length : Int)
   · rw [if_pos c3] at H
     have c3b0 := dL c3
     clear c3
     obtain ⟨c4b0, H⟩ := sE H
     obtain ⟨t102, A5, H⟩ := bS H; try dsimp only at H
     replace H := ifS H; obtain ⟨c6, H⟩ := H
     have c6b0 := eqE c6
     clear c6
     obtain ⟨t104, A7, H⟩ := bS H; try dsimp only at H
     replace H := ifS H; obtain ⟨c8, H⟩ := H
     have c8b0 := eqE c8
     clear c8
     have H' := aM H
     clear H
     try go_wp2
     have _ := aM (below_drew1 HB.out)
     clear HB
     rename_i HB
     have p101 : 0 ≤ (x5_1 : Int) := of_decide_eq_true z1200
     have q101 : x5_1 < (l0.length : Int) := of_decide_eq_true z1200
     obtain ⟨ad101, e101, hx101_0, hx101_1⟩ := at_T123 HR0.out x5_1 p101 q101
     have hw101_1 := hx101_1
     have hw101_0 := hx101_0
     cases e101
     replace hx101_0 := (HB.out.cell (World.block_lt_of_cell? w _ hx101_0)).trans hx101_0
     replace hx101_1 := (HB.out.cell (World.block_lt_of_cell? w _ hx101_1)).trans hx101_1
     replace p101 := eq_true p101
     replace q101 := eq_true q101
     refine sA 8 laws_heldTagS.tab4 laws_heldTagS.bits4 (fun w' => w'.cell? (ad101.add ((x5_1).toNat * 2)) = some (.string ((rd_T123 l0 x5_1).f0)) ∧ w'.cell? ⟨(ad101.add ((x5_1).toNat * 2)).block, (ad101.add ((x5_1).toNat * 2)).off + 1, none⟩ = some (.string ((rd_T123 l0 x5_1).f1))) [] (fun hHeld HT_ HW_ => ?_)
     generalize wr.drew = w9 at HB hx101_0 hx101_1 hHeld ⊢
     refine pA 0 12 HT_ ?_; refine pA 1 13 HT_ ?_; refine pA 2 14 HT_ ?_; refine pA 3 15 HT_ ?_; refine pA 5 17 HT_ ?_; refine tA 4 16 HT_ HW_ hHeld ?_; refine oA 6 18 HT_ (fun K hK => ?_)
     refine goes_ Tryd.func75 (by kernel_rfl) rfl #[.int .i64 x1_1] (by rfl) rfl rfl zee81 ?_
     with_reducible refine (laws_markText.calls k1 x1_1 t102 _ A5.out).mono ?_
     rintro e w10 ⟨rfl, hb⟩
     refine ⟨_, rfl, ?_⟩
     have _ := aM (below_step hbZ hb)
     clear HB
     rename_i HB
     (try clear hb)
     refine hK.out _ _ sZ (fun hHeld => ?_)
     clear hK K
     refine nA 18 ?_; refine pA 7 19 HT_ ?_
     refine done_ (done_of HT_.out (by kernel_rfl)) ?_
     try go_wp2
     have _ := aM (below_drew1 HB.out)
     clear HB
     rename_i HB
     have p103 : 0 ≤ (x5_1 : Int) := of_decide_eq_true z1200
     have q103 : x5_1 < (l0.length : Int) := of_decide_eq_true z1200
     obtain ⟨ad103, e103, hx103_0, hx103_1⟩ := at_T123 HR0.out x5_1 p103 q103
     have hw103_1 := hx103_1
     have hw103_0 := hx103_0
     obtain rfl : ad101 = ad103 := (by injection e103)
     replace hx103_0 := (HB.out.cell (World.block_lt_of_cell? w _ hx103_0)).trans hx103_0
     replace hx103_1 := (HB.out.cell (World.block_lt_of_cell? w _ hx103_1)).trans hx103_1
     replace p103 := eq_true p103
     replace q103 := eq_true q103
     refine sA 8 laws_heldTagS.tab7 laws_heldTagS.bits7 (fun w' => w'.cell? (ad101.add ((x5_1).toNat * 2)) = some (.string ((rd_T123 l0 x5_1).f0)) ∧ w'.cell? ⟨(ad101.add ((x5_1).toNat * 2)).block, (ad101.add ((x5_1).toNat * 2)).off + 1, none⟩ = some (.string ((rd_T123 l0 x5_1).f1))) [] (fun hHeld HT_ HW_ => ?_)
     generalize w10.drew = w11 at HB hx103_0 hx103_1 hHeld ⊢
     refine pA 0 22 HT_ ?_; refine pA 1 23 HT_ ?_; refine pA 2 24 HT_ ?_; refine pA 3 25 HT_ ?_; refine pA 5 27 HT_ ?_; refine tA 4 26 HT_ HW_ hHeld ?_; refine oA 6 28 HT_ (fun K hK => ?_)
     refine goes_ Tryd.func75 (by kernel_rfl) rfl #[.int .i64 (wrap64 (x1_1 + 1))] (by rfl) rfl rfl zee81 ?_
     with_reducible refine (laws_markText.calls k1 (wrap64 (x1_1 + 1)) t104 _ A7.out).mono ?_
     rintro e w12 ⟨rfl, hb⟩
     refine ⟨_, rfl, ?_⟩
     have _ := aM (below_step hbZ hb)
     clear HB
     rename_i HB
     (try clear hb)
     refine hK.out _ _ sZ (fun hHeld => ?_)
     clear hK K
     refine nA 28 ?_; refine pA 7 29 HT_ ?_
     refine done_ (done_of HT_.out (by kernel_rfl)) ?_
     try go_wp2
     go_roundg k1
     case measure => have := HK1.out; omega
     case rel => exact ⟨(wrap64 ((wrap64 (x1_1 + 1)) + 1)), (wrap64 (x5_1 + 1)), z4458, z4458, H', ⟨zfb39⟩, ⟨z5acd⟩⟩
   · rw [if_neg c3] at H
     have c3b0 := nL c3
     clear c3
     obtain rfl := Option.some.inj H
     go_wp2
     go_ret
     exact ⟨z674d, z5acd⟩

end Go.Proofs.YtkgmoajdcibafaaDoor.P

-- written by a program of this session's (wip/pp)
namespace Go.Proofs.YtkgmoajdcibafaaDoor.P
open Go.RowKit Go.Proofs.YtkgmoajdcibafaaDoorW.PrintWords Go.Proofs.YtkgmoajdcibafaaDoorW.PrintLast Go.Proofs.YtkgmoajdcibafaaDoorW.PrintMore
attribute [local go_sem] max2_int min2_int max_two min_two max_three min_three max_four min_four str_geq str_gtr str_leq   -- for this text's walks alone
set_option linter.unusedVariables false
set_option linter.unusedSimpArgs false

/-! ### laws_heldIntS: function 78 -/
def laws_heldIntS.l0 : Nat → List Int → Int → Int → Option (Int)
 | 0, _, _, _ => none
 | k + 1, x0, x1, x5 => if x5 < (x0.length : Int) then (if 0 ≤ x5 then (if (rd x0 x5) = x1 then (laws_heldIntS.l0 k x0 (wrap64 (x1 + 1)) (wrap64 (x5 + 1))) else (none)) else (none)) else (some x1)
def laws_heldIntS.f (k : Nat) (l0 : List Int) (a1 : Int) : Option (Int) := laws_heldIntS.l0 k l0 a1 0
theorem laws_heldIntS.mono_l : ∀ k, (∀ y0 y1 y2, LeO (laws_heldIntS.l0 k y0 y1 y2) (laws_heldIntS.l0 (k + 1) y0 y1 y2))
 | 0 => fun _ _ _ r h => by simp [laws_heldIntS.l0] at h
 | k + 1 => by
  have ih0 := laws_heldIntS.mono_l k
  · intro y0 y1 y2
    unfold laws_heldIntS.l0
    exact moZ
theorem laws_heldIntS.mono : ∀ a0 a1 k, LeO (laws_heldIntS.f k a0 a1) (laws_heldIntS.f (k + 1) a0 a1) := by
 intro a0 a1 k
 have ih0 := laws_heldIntS.mono_l k
 unfold laws_heldIntS.f
 exact moZ
set_option maxHeartbeats 8000000 in
set_option maxRecDepth 100000 in
theorem laws_heldIntS.calls (k : Nat) (A0 : Option Addr) (c0 : Nat) (l0 : List Int) (a1 : Int) (r : Int) (w : World) (hr0 : Kd.C (Kd.int .i64) w A0 l0.length l0) (hc0 : l0.length ≤ c0) (h : laws_heldIntS.f k l0 a1 = some r) :
 Calls Tryd.prog 78 #[.slice A0 l0.length c0, .int .i64 a1] w fun e w' => e = .returned (.int .i64 r) ∧ Drawn0 w w' := by
 have HR0 := aM hr0
 have HC0 := aM hc0
 clear hr0 hc0
 have H : (laws_heldIntS.l0 k l0 a1 0) = some r := h
 clear h
 have H' := aM H
 clear H
 go_enter Tryd.func78, Tryd.ntmps78
 go_wp2
 go_loopg [1, 5] k (fun kq v1 v5 w' => ∃ (x1_1 : Int) (x5_1 : Int), v1 = .int .i64 x1_1 ∧ v5 = .int .i64 x5_1 ∧ Aside0 (laws_heldIntS.l0 kq l0 x1_1 x5_1 = some r) ∧ Aside0 (kq ≤ k) ∧ Drawn0 w w')
 case atStart => exact ⟨(a1), (0), z4458, z4458, H', ⟨Nat.le_refl _⟩, za9de⟩
 case round =>
  clear H'
  obtain ⟨x1_1, x5_1, rfl, rfl, HA, HK1, ⟨m1, rfl⟩⟩ := hrel
  cases gk with
  | zero => exact absurd HA.out (by simp [laws_heldIntS.l0])
  | succ k1 =>
   have H := HA.out
   clear HA
   simp only [laws_heldIntS.l0] at H
   by_cases c3 : x5_1 < (l0.length : Int)
   · rw [if_pos c3] at H
     have c3b0 := dL c3
     clear c3
     obtain ⟨c4b0, H⟩ := sE H
     replace H := ifS H; obtain ⟨c5, H⟩ := H
     have c5b0 := eqE c5
     clear c5
     have H' := aM H
     clear H
     have p101 : 0 ≤ (x5_1 : Int) := of_decide_eq_true z1200
     have q101 : x5_1 < (l0.length : Int) := of_decide_eq_true z1200
     obtain ⟨ad101, e101, hx101_0⟩ := Kd.at_int HR0.out x5_1 p101 q101
     cases e101
     replace p101 := eq_true p101
     replace q101 := eq_true q101
     go_wp2
     go_roundg k1
     case measure => have := HK1.out; omega
     case rel => exact ⟨(wrap64 (x1_1 + 1)), (wrap64 (x5_1 + 1)), z4458, z4458, H', ⟨zfb39⟩, za9de⟩
   · rw [if_neg c3] at H
     have c3b0 := nL c3
     clear c3
     obtain rfl := Option.some.inj H
     go_wp2
     go_ret
     exact ⟨z4458, za9de⟩

end Go.Proofs.YtkgmoajdcibafaaDoor.P

-- written by a program of this session's (wip/pp)
namespace Go.Proofs.YtkgmoajdcibafaaDoor.P
open Go.RowKit Go.Proofs.YtkgmoajdcibafaaDoorW.PrintWords Go.Proofs.YtkgmoajdcibafaaDoorW.PrintLast Go.Proofs.YtkgmoajdcibafaaDoorW.PrintMore
attribute [local go_sem] max2_int min2_int max_two min_two max_three min_three max_four min_four str_geq str_gtr str_leq   -- for this text's walks alone
set_option linter.unusedVariables false
set_option linter.unusedSimpArgs false

/-! ### laws_heldToldS: function 30 -/
def laws_heldToldS.l0 : Nat → List (S96) → Int → Int → Option (Int)
 | 0, _, _, _ => none
 | k + 1, x0, x1, x5 => if x5 < (x0.length : Int) then (if 0 ≤ x5 then ((laws_markText.f k x1).bind fun t102 => (if ((rd_T96 x0 x5).f0.f0).toList = t102.toList then ((laws_heldTagS.f k ((rd_T96 x0 x5).f0.f1) (wrap64 (x1 + 1))).bind fun t104 => (if t104 < 0 then (none) else (if ((rd_T96 x0 x5).f0.f2) = t104 then (if ((rd_T96 x0 x5).f1) = (wrap64 (t104 + 1)) then (if ((rd_T96 x0 x5).f2.f0) = (wrap64 ((wrap64 (t104 + 1)) + 1)) then (if ((rd_T96 x0 x5).f2.f1) = (wrap64 ((wrap64 ((wrap64 (t104 + 1)) + 1)) + 1)) then (if ((rd_T96 x0 x5).f2.f2) = (wrap64 ((wrap64 ((wrap64 ((wrap64 (t104 + 1)) + 1)) + 1)) + 1)) then (if ((rd_T96 x0 x5).f2.f3) = (wrap64 ((wrap64 ((wrap64 ((wrap64 ((wrap64 (t104 + 1)) + 1)) + 1)) + 1)) + 1)) then ((laws_heldIntS.f k ((rd_T96 x0 x5).f2.f4) (wrap64 ((wrap64 ((wrap64 ((wrap64 ((wrap64 ((wrap64 (t104 + 1)) + 1)) + 1)) + 1)) + 1)) + 1))).bind fun t112 => (if t112 < 0 then (none) else (if (((rd_T96 x0 x5).f2.f5) != ((Int.tmod t112 3) == 0)) = true then (none) else (laws_heldToldS.l0 k x0 (wrap64 (t112 + 1)) (wrap64 (x5 + 1)))))) else (none)) else (none)) else (none)) else (none)) else (none)) else (none)))) else (none))) else (none)) else (some x1)
def laws_heldToldS.f (k : Nat) (l0 : List (S96)) (a1 : Int) : Option (Int) := laws_heldToldS.l0 k l0 a1 0
theorem laws_heldToldS.mono_l : ∀ k, (∀ y0 y1 y2, LeO (laws_heldToldS.l0 k y0 y1 y2) (laws_heldToldS.l0 (k + 1) y0 y1 y2))
 | 0 => fun _ _ _ r h => by simp [laws_heldToldS.l0] at h
 | k + 1 => by
  have ih0 := laws_heldToldS.mono_l k; have m0 := @laws_heldIntS.mono; have m1 := @laws_heldTagS.mono; have m2 := @laws_markText.mono
  · intro y0 y1 y2
    unfold laws_heldToldS.l0
    exact moZ
theorem laws_heldToldS.mono : ∀ a0 a1 k, LeO (laws_heldToldS.f k a0 a1) (laws_heldToldS.f (k + 1) a0 a1) := by
 intro a0 a1 k
 have ih0 := laws_heldToldS.mono_l k
 have m0 := @laws_heldIntS.mono; have m1 := @laws_heldTagS.mono; have m2 := @laws_markText.mono
 unfold laws_heldToldS.f
 exact moZ
def laws_heldToldS.T4 : Bool × List (List Nat × List Nat) := (true, [([], []), ([], []), ([0, 1], [0, 1]), ([2], [2]), ([3], [3]), ([4], [4]), ([], []), ([6], [6]), ([5, 7], [5, 7])])
def laws_heldToldS.B4 : List Nat := [0, 0, 3, 7, 15, 31, 0, 64, 255]
theorem laws_heldToldS.tab4 : rtab .any (opsOf Tryd.f30 4) = laws_heldToldS.T4 := by kernel_rfl
theorem laws_heldToldS.bits4 : waitsOk laws_heldToldS.T4.2 laws_heldToldS.B4 = true := by kernel_rfl
set_option maxHeartbeats 8000000 in
set_option maxRecDepth 100000 in
theorem laws_heldToldS.calls (k : Nat) (A0 : Option Addr) (c0 : Nat) (l0 : List (S96)) (a1 : Int) (r : Int) (w : World) (hr0 : Kd.C k96 w A0 l0.length l0) (hc0 : l0.length ≤ c0) (h : laws_heldToldS.f k l0 a1 = some r) :
 Calls Tryd.prog 30 #[.slice A0 l0.length c0, .int .i64 a1] w fun e w' => e = .returned (.int .i64 r) ∧ Below w.heap.size w w' := by
 have HR0 := aM hr0
 have HC0 := aM hc0
 clear hr0 hc0
 have HB := aM (Below.refl w.heap.size w)
 have H : (laws_heldToldS.l0 k l0 a1 0) = some r := h
 clear h
 have H' := aM H
 clear H
 go_enter Tryd.func30, Tryd.ntmps30
 go_wp2
 go_loopg [1, 5] k (fun kq v1 v5 w' => ∃ (x1_1 : Int) (x5_1 : Int), v1 = .int .i64 x1_1 ∧ v5 = .int .i64 x5_1 ∧ Aside0 (laws_heldToldS.l0 kq l0 x1_1 x5_1 = some r) ∧ Aside0 (kq ≤ k) ∧ Aside0 (Below w.heap.size w w'))
 case atStart => exact ⟨(a1), (0), z4458, z4458, H', ⟨Nat.le_refl _⟩, ⟨z5acd⟩⟩
 case round =>
  clear H'
  obtain ⟨x1_1, x5_1, rfl, rfl, HA, HK1, HB⟩ := hrel
  cases gk with
  | zero => exact absurd HA.out (by simp [laws_heldToldS.l0])
  | succ k1 =>
   have H := HA.out
   clear HA
   simp only [laws_heldToldS.l0] at H
   by_cases c3 : x5_1 < (l0.length : Int)
   · rw [if_pos c3] at H
     have c3b0 := dL c3
     clear c3
     obtain ⟨c4b0, H⟩ := sE H
     obtain ⟨t102, A5, H⟩ := bS H; try dsimp only at H
     replace H := ifS H; obtain ⟨c6, H⟩ := H
     have c6b0 := eqE c6
     clear c6
     obtain ⟨t104, A7, H⟩ := bS H; try dsimp only at H
     replace H := ifN H; obtain ⟨c8, H⟩ := H
     have c8b0 := nL c8
     clear c8
     replace H := ifS H; obtain ⟨c9, H⟩ := H
     have c9b0 := eqE c9
     clear c9
     replace H := ifS H; obtain ⟨c10, H⟩ := H
     have c10b0 := eqE c10
     clear c10
     replace H := ifS H; obtain ⟨c11, H⟩ := H
     have c11b0 := eqE c11
     clear c11
     replace H := ifS H; obtain ⟨c12, H⟩ := H
     have c12b0 := eqE c12
     clear c12
     replace H := ifS H; obtain ⟨c13, H⟩ := H
     have c13b0 := eqE c13
     clear c13
     replace H := ifS H; obtain ⟨c14, H⟩ := H
     have c14b0 := eqE c14
     clear c14
     obtain ⟨t112, A15, H⟩ := bS H; try dsimp only at H
     replace H := ifN H; obtain ⟨c16, H⟩ := H
     have c16b0 := nL c16
     clear c16
     replace H := ifN H; obtain ⟨c17, H⟩ := H
     have c17b0 : (((rd_T96 l0 x5_1).f2.f5) != ((Int.tmod t112 3) == 0)) = false := by simpa using c17
     (try (have c17b1 : decide (((rd_T96 l0 x5_1).f2.f5) = ((Int.tmod t112 3) == 0)) = true := by simpa using c17))
     (try (have c17b2 : (((rd_T96 l0 x5_1).f2.f5) == ((Int.tmod t112 3) == 0)) = true := by simpa using c17))
     clear c17
     have H' := aM H
     clear H
     try go_wp2
     have _ := aM (below_drew1 HB.out)
     clear HB
     rename_i HB
     have p101 : 0 ≤ (x5_1 : Int) := of_decide_eq_true z1200
     have q101 : x5_1 < (l0.length : Int) := of_decide_eq_true z1200
     obtain ⟨ad101, A101_1, c101_1, A101_8, c101_8, e101, hx101_0, hx101_1, hx101_2, hx101_3, hx101_4, hx101_5, hx101_6, hx101_7, hx101_8, hx101_9, hl101_1, hi101_1, hl101_8, hi101_8⟩ := at_T96 HR0.out x5_1 p101 q101
     have hw101_9 := hx101_9
     have hw101_8 := hx101_8
     have hw101_7 := hx101_7
     have hw101_6 := hx101_6
     have hw101_5 := hx101_5
     have hw101_4 := hx101_4
     have hw101_3 := hx101_3
     have hw101_2 := hx101_2
     have hw101_1 := hx101_1
     have hw101_0 := hx101_0
     cases e101
     have TW101_1 := aM hx101_1
     have TW101_8 := aM hx101_8
     replace hx101_0 := (HB.out.cell (World.block_lt_of_cell? w _ hx101_0)).trans hx101_0
     replace hx101_1 := (HB.out.cell (World.block_lt_of_cell? w _ hx101_1)).trans hx101_1
     replace hx101_2 := (HB.out.cell (World.block_lt_of_cell? w _ hx101_2)).trans hx101_2
     replace hx101_3 := (HB.out.cell (World.block_lt_of_cell? w _ hx101_3)).trans hx101_3
     replace hx101_4 := (HB.out.cell (World.block_lt_of_cell? w _ hx101_4)).trans hx101_4
     replace hx101_5 := (HB.out.cell (World.block_lt_of_cell? w _ hx101_5)).trans hx101_5
     replace hx101_6 := (HB.out.cell (World.block_lt_of_cell? w _ hx101_6)).trans hx101_6
     replace hx101_7 := (HB.out.cell (World.block_lt_of_cell? w _ hx101_7)).trans hx101_7
     replace hx101_8 := (HB.out.cell (World.block_lt_of_cell? w _ hx101_8)).trans hx101_8
     replace hx101_9 := (HB.out.cell (World.block_lt_of_cell? w _ hx101_9)).trans hx101_9
     have HR101_1 := aM hi101_1
     have HC101_1 := aM hl101_1
     clear hi101_1 hl101_1
     have HR101_8 := aM hi101_8
     have HC101_8 := aM hl101_8
     clear hi101_8 hl101_8
     replace p101 := eq_true p101
     replace q101 := eq_true q101
     refine sA 9 laws_heldToldS.tab4 laws_heldToldS.bits4 (fun w' => w'.cell? (ad101.add ((x5_1).toNat * 10)) = some (.string ((rd_T96 l0 x5_1).f0.f0)) ∧ w'.cell? ⟨(ad101.add ((x5_1).toNat * 10)).block, (ad101.add ((x5_1).toNat * 10)).off + 1, none⟩ = some (.slice A101_1 ((rd_T96 l0 x5_1).f0.f1).length c101_1) ∧ w'.cell? ⟨(ad101.add ((x5_1).toNat * 10)).block, (ad101.add ((x5_1).toNat * 10)).off + 2, none⟩ = some (.int .i64 ((rd_T96 l0 x5_1).f0.f2)) ∧ w'.cell? ⟨(ad101.add ((x5_1).toNat * 10)).block, (ad101.add ((x5_1).toNat * 10)).off + 3, none⟩ = some (.int .i64 ((rd_T96 l0 x5_1).f1)) ∧ w'.cell? ⟨(ad101.add ((x5_1).toNat * 10)).block, (ad101.add ((x5_1).toNat * 10)).off + 4, none⟩ = some (.int .i64 ((rd_T96 l0 x5_1).f2.f0)) ∧ w'.cell? ⟨(ad101.add ((x5_1).toNat * 10)).block, (ad101.add ((x5_1).toNat * 10)).off + 5, none⟩ = some (.int .i64 ((rd_T96 l0 x5_1).f2.f1)) ∧ w'.cell? ⟨(ad101.add ((x5_1).toNat * 10)).block, (ad101.add ((x5_1).toNat * 10)).off + 6, none⟩ = some (.int .i64 ((rd_T96 l0 x5_1).f2.f2)) ∧ w'.cell? ⟨(ad101.add ((x5_1).toNat * 10)).block, (ad101.add ((x5_1).toNat * 10)).off + 7, none⟩ = some (.int .i64 ((rd_T96 l0 x5_1).f2.f3)) ∧ w'.cell? ⟨(ad101.add ((x5_1).toNat * 10)).block, (ad101.add ((x5_1).toNat * 10)).off + 8, none⟩ = some (.slice A101_8 ((rd_T96 l0 x5_1).f2.f4).length c101_8) ∧ w'.cell? ⟨(ad101.add ((x5_1).toNat * 10)).block, (ad101.add ((x5_1).toNat * 10)).off + 9, none⟩ = some (.bool ((rd_T96 l0 x5_1).f2.f5))) [] (fun hHeld HT_ HW_ => ?_)
     generalize wr.drew = w18 at HB HR101_1 HR101_8 hx101_0 hx101_1 hx101_2 hx101_3 hx101_4 hx101_5 hx101_6 hx101_7 hx101_8 hx101_9 hHeld ⊢
     refine pA 0 12 HT_ ?_; refine pA 1 13 HT_ ?_; refine pA 2 14 HT_ ?_; refine pA 3 15 HT_ ?_; refine pA 4 16 HT_ ?_; refine pA 6 18 HT_ ?_; refine tA 5 17 HT_ HW_ hHeld ?_; refine oA 7 19 HT_ (fun K hK => ?_)
     refine goes_ Tryd.func75 (by kernel_rfl) rfl #[.int .i64 x1_1] (by rfl) rfl rfl zee81 ?_
     with_reducible refine (laws_markText.calls k1 x1_1 t102 _ A5.out).mono ?_
     rintro e w19 ⟨rfl, hb⟩
     refine ⟨_, rfl, ?_⟩
     have _ := aM (below_step hbZ hb)
     clear HB
     rename_i HB
     (try clear hb)
     refine hK.out _ _ sZ (fun hHeld => ?_)
     clear hK K
     refine nA 19 ?_; refine pA 8 20 HT_ ?_
     refine done_ (done_of HT_.out (by kernel_rfl)) ?_
     have p103 : 0 ≤ (x5_1 : Int) := of_decide_eq_true z1200
     have q103 : x5_1 < (l0.length : Int) := of_decide_eq_true z1200
     obtain ⟨ad103, A103_1, c103_1, A103_8, c103_8, e103, hx103_0, hx103_1, hx103_2, hx103_3, hx103_4, hx103_5, hx103_6, hx103_7, hx103_8, hx103_9, hl103_1, hi103_1, hl103_8, hi103_8⟩ := at_T96 HR0.out x5_1 p103 q103
     obtain rfl : ad101 = ad103 := (by injection e103)
     (try (have ez_ := hx103_1.symm.trans TW101_1.out; simp only [Option.some.injEq, Value.slice.injEq, true_and] at ez_; obtain ⟨ez1_, ez2_⟩ := ez_; subst ez1_ ez2_))
     (try (have ez_ := hx103_8.symm.trans TW101_8.out; simp only [Option.some.injEq, Value.slice.injEq, true_and] at ez_; obtain ⟨ez1_, ez2_⟩ := ez_; subst ez1_ ez2_))
     have TW103_1 := aM hx103_1
     have TW103_8 := aM hx103_8
     replace hx103_0 := (HB.out.cell (World.block_lt_of_cell? w _ hx103_0)).trans hx103_0
     replace hx103_1 := (HB.out.cell (World.block_lt_of_cell? w _ hx103_1)).trans hx103_1
     replace hx103_2 := (HB.out.cell (World.block_lt_of_cell? w _ hx103_2)).trans hx103_2
     replace hx103_3 := (HB.out.cell (World.block_lt_of_cell? w _ hx103_3)).trans hx103_3
     replace hx103_4 := (HB.out.cell (World.block_lt_of_cell? w _ hx103_4)).trans hx103_4
     replace hx103_5 := (HB.out.cell (World.block_lt_of_cell? w _ hx103_5)).trans hx103_5
     replace hx103_6 := (HB.out.cell (World.block_lt_of_cell? w _ hx103_6)).trans hx103_6
     replace hx103_7 := (HB.out.cell (World.block_lt_of_cell? w _ hx103_7)).trans hx103_7
     replace hx103_8 := (HB.out.cell (World.block_lt_of_cell? w _ hx103_8)).trans hx103_8
     replace hx103_9 := (HB.out.cell (World.block_lt_of_cell? w _ hx103_9)).trans hx103_9
     have HR103_1 := aM hi103_1
     have HC103_1 := aM hl103_1
     clear hi103_1 hl103_1
     have HR103_8 := aM hi103_8
     have HC103_8 := aM hl103_8
     clear hi103_8 hl103_8
     replace p103 := eq_true p103
     replace q103 := eq_true q103
     try go_wp2_with (first | ((with_reducible refine gate_callee (f := 77) rfl ?_); refine gL 30 Tryd.func77 #[.slice A103_1 ((rd_T96 l0 x5_1).f0.f1).length c103_1, .int .i64 (wrap64 (x1_1 + 1))] ?_; (with_reducible refine (laws_heldTagS.calls k1 _ _ ((rd_T96 l0 x5_1).f0.f1) (wrap64 (x1_1 + 1)) t104 _ ?side1 ?side2 A7.out).mono ?_); (case side1 => exact (cZ (Kd.C_below HR103_1.out HB.out))); (case side2 => exact HC103_1.out); rintro e w20 ⟨rfl, hb⟩; refine ⟨_, rfl, ?_⟩; have _ := aM (below_step hbZ hb); clear HB; rename_i HB; (try clear hb); have p105 : 0 ≤ (x5_1 : Int) := of_decide_eq_true z1200; have q105 : x5_1 < (l0.length : Int) := of_decide_eq_true z1200; obtain ⟨ad105, A105_1, c105_1, A105_8, c105_8, e105, hx105_0, hx105_1, hx105_2, hx105_3, hx105_4, hx105_5, hx105_6, hx105_7, hx105_8, hx105_9, hl105_1, hi105_1, hl105_8, hi105_8⟩ := at_T96 HR0.out x5_1 p105 q105; obtain rfl : ad101 = ad105 := (by injection e105); (try (have ez_ := hx105_1.symm.trans TW101_1.out; simp only [Option.some.injEq, Value.slice.injEq, true_and] at ez_; obtain ⟨ez1_, ez2_⟩ := ez_; subst ez1_ ez2_)); (try (have ez_ := hx105_8.symm.trans TW101_8.out; simp only [Option.some.injEq, Value.slice.injEq, true_and] at ez_; obtain ⟨ez1_, ez2_⟩ := ez_; subst ez1_ ez2_)); (try (have ez_ := hx105_1.symm.trans TW103_1.out; simp only [Option.some.injEq, Value.slice.injEq, true_and] at ez_; obtain ⟨ez1_, ez2_⟩ := ez_; subst ez1_ ez2_)); (try (have ez_ := hx105_8.symm.trans TW103_8.out; simp only [Option.some.injEq, Value.slice.injEq, true_and] at ez_; obtain ⟨ez1_, ez2_⟩ := ez_; subst ez1_ ez2_)); have TW105_1 := aM hx105_1; have TW105_8 := aM hx105_8; replace hx105_0 := (HB.out.cell (World.block_lt_of_cell? w _ hx105_0)).trans hx105_0; replace hx105_1 := (HB.out.cell (World.block_lt_of_cell? w _ hx105_1)).trans hx105_1; replace hx105_2 := (HB.out.cell (World.block_lt_of_cell? w _ hx105_2)).trans hx105_2; replace hx105_3 := (HB.out.cell (World.block_lt_of_cell? w _ hx105_3)).trans hx105_3; replace hx105_4 := (HB.out.cell (World.block_lt_of_cell? w _ hx105_4)).trans hx105_4; replace hx105_5 := (HB.out.cell (World.block_lt_of_cell? w _ hx105_5)).trans hx105_5; replace hx105_6 := (HB.out.cell (World.block_lt_of_cell? w _ hx105_6)).trans hx105_6; replace hx105_7 := (HB.out.cell (World.block_lt_of_cell? w _ hx105_7)).trans hx105_7; replace hx105_8 := (HB.out.cell (World.block_lt_of_cell? w _ hx105_8)).trans hx105_8; replace hx105_9 := (HB.out.cell (World.block_lt_of_cell? w _ hx105_9)).trans hx105_9; have HR105_1 := aM hi105_1; have HC105_1 := aM hl105_1; clear hi105_1 hl105_1; have HR105_8 := aM hi105_8; have HC105_8 := aM hl105_8; clear hi105_8 hl105_8; replace p105 := eq_true p105; replace q105 := eq_true q105; have p106 : 0 ≤ (x5_1 : Int) := of_decide_eq_true z1200; have q106 : x5_1 < (l0.length : Int) := of_decide_eq_true z1200; obtain ⟨ad106, A106_1, c106_1, A106_8, c106_8, e106, hx106_0, hx106_1, hx106_2, hx106_3, hx106_4, hx106_5, hx106_6, hx106_7, hx106_8, hx106_9, hl106_1, hi106_1, hl106_8, hi106_8⟩ := at_T96 HR0.out x5_1 p106 q106; obtain rfl : ad101 = ad106 := (by injection e106); replace hx106_0 := (HB.out.cell (World.block_lt_of_cell? w _ hx106_0)).trans hx106_0; replace hx106_1 := (HB.out.cell (World.block_lt_of_cell? w _ hx106_1)).trans hx106_1; replace hx106_2 := (HB.out.cell (World.block_lt_of_cell? w _ hx106_2)).trans hx106_2; replace hx106_3 := (HB.out.cell (World.block_lt_of_cell? w _ hx106_3)).trans hx106_3; replace hx106_4 := (HB.out.cell (World.block_lt_of_cell? w _ hx106_4)).trans hx106_4; replace hx106_5 := (HB.out.cell (World.block_lt_of_cell? w _ hx106_5)).trans hx106_5; replace hx106_6 := (HB.out.cell (World.block_lt_of_cell? w _ hx106_6)).trans hx106_6; replace hx106_7 := (HB.out.cell (World.block_lt_of_cell? w _ hx106_7)).trans hx106_7; replace hx106_8 := (HB.out.cell (World.block_lt_of_cell? w _ hx106_8)).trans hx106_8; replace hx106_9 := (HB.out.cell (World.block_lt_of_cell? w _ hx106_9)).trans hx106_9; have HR106_1 := aM hi106_1; have HC106_1 := aM hl106_1; clear hi106_1 hl106_1; have HR106_8 := aM hi106_8; have HC106_8 := aM hl106_8; clear hi106_8 hl106_8; replace p106 := eq_true p106; replace q106 := eq_true q106; have ea_ := Option.some.inj (hx105_1.symm.trans hx106_1); injection ea_ with ea_ en_ ec_; subst ea_; subst ec_; clear en_; have ea_ := Option.some.inj (hx105_8.symm.trans hx106_8); injection ea_ with ea_ en_ ec_; subst ea_; subst ec_; clear en_; have p107 : 0 ≤ (x5_1 : Int) := of_decide_eq_true z1200; have q107 : x5_1 < (l0.length : Int) := of_decide_eq_true z1200; obtain ⟨ad107, A107_1, c107_1, A107_8, c107_8, e107, hx107_0, hx107_1, hx107_2, hx107_3, hx107_4, hx107_5, hx107_6, hx107_7, hx107_8, hx107_9, hl107_1, hi107_1, hl107_8, hi107_8⟩ := at_T96 HR0.out x5_1 p107 q107; obtain rfl : ad101 = ad107 := (by injection e107); replace hx107_0 := (HB.out.cell (World.block_lt_of_cell? w _ hx107_0)).trans hx107_0; replace hx107_1 := (HB.out.cell (World.block_lt_of_cell? w _ hx107_1)).trans hx107_1; replace hx107_2 := (HB.out.cell (World.block_lt_of_cell? w _ hx107_2)).trans hx107_2; replace hx107_3 := (HB.out.cell (World.block_lt_of_cell? w _ hx107_3)).trans hx107_3; replace hx107_4 := (HB.out.cell (World.block_lt_of_cell? w _ hx107_4)).trans hx107_4; replace hx107_5 := (HB.out.cell (World.block_lt_of_cell? w _ hx107_5)).trans hx107_5; replace hx107_6 := (HB.out.cell (World.block_lt_of_cell? w _ hx107_6)).trans hx107_6; replace hx107_7 := (HB.out.cell (World.block_lt_of_cell? w _ hx107_7)).trans hx107_7; replace hx107_8 := (HB.out.cell (World.block_lt_of_cell? w _ hx107_8)).trans hx107_8; replace hx107_9 := (HB.out.cell (World.block_lt_of_cell? w _ hx107_9)).trans hx107_9; have HR107_1 := aM hi107_1; have HC107_1 := aM hl107_1; clear hi107_1 hl107_1; have HR107_8 := aM hi107_8; have HC107_8 := aM hl107_8; clear hi107_8 hl107_8; replace p107 := eq_true p107; replace q107 := eq_true q107; have ea_ := Option.some.inj (hx105_1.symm.trans hx107_1); injection ea_ with ea_ en_ ec_; subst ea_; subst ec_; clear en_; have ea_ := Option.some.inj (hx105_8.symm.trans hx107_8); injection ea_ with ea_ en_ ec_; subst ea_; subst ec_; clear en_; have p108 : 0 ≤ (x5_1 : Int) := of_decide_eq_true z1200; have q108 : x5_1 < (l0.length : Int) := of_decide_eq_true z1200; obtain ⟨ad108, A108_1, c108_1, A108_8, c108_8, e108, hx108_0, hx108_1, hx108_2, hx108_3, hx108_4, hx108_5, hx108_6, hx108_7, hx108_8, hx108_9, hl108_1, hi108_1, hl108_8, hi108_8⟩ := at_T96 HR0.out x5_1 p108 q108; obtain rfl : ad101 = ad108 := (by injection e108); replace hx108_0 := (HB.out.cell (World.block_lt_of_cell? w _ hx108_0)).trans hx108_0; replace hx108_1 := (HB.out.cell (World.block_lt_of_cell? w _ hx108_1)).trans hx108_1; replace hx108_2 := (HB.out.cell (World.block_lt_of_cell? w _ hx108_2)).trans hx108_2; replace hx108_3 := (HB.out.cell (World.block_lt_of_cell? w _ hx108_3)).trans hx108_3; replace hx108_4 := (HB.out.cell (World.block_lt_of_cell? w _ hx108_4)).trans hx108_4; replace hx108_5 := (HB.out.cell (World.block_lt_of_cell? w _ hx108_5)).trans hx108_5; replace hx108_6 := (HB.out.cell (World.block_lt_of_cell? w _ hx108_6)).trans hx108_6; replace hx108_7 := (HB.out.cell (World.block_lt_of_cell? w _ hx108_7)).trans hx108_7; replace hx108_8 := (HB.out.cell (World.block_lt_of_cell? w _ hx108_8)).trans hx108_8; replace hx108_9 := (HB.out.cell (World.block_lt_of_cell? w _ hx108_9)).trans hx108_9; have HR108_1 := aM hi108_1; have HC108_1 := aM hl108_1; clear hi108_1 hl108_1; have HR108_8 := aM hi108_8; have HC108_8 := aM hl108_8; clear hi108_8 hl108_8; replace p108 := eq_true p108; replace q108 := eq_true q108; have ea_ := Option.some.inj (hx105_1.symm.trans hx108_1); injection ea_ with ea_ en_ ec_; subst ea_; subst ec_; clear en_; have ea_ := Option.some.inj (hx105_8.symm.trans hx108_8); injection ea_ with ea_ en_ ec_; subst ea_; subst ec_; clear en_; have p109 : 0 ≤ (x5_1 : Int) := of_decide_eq_true z1200; have q109 : x5_1 < (l0.length : Int) := of_decide_eq_true z1200; obtain ⟨ad109, A109_1, c109_1, A109_8, c109_8, e109, hx109_0, hx109_1, hx109_2, hx109_3, hx109_4, hx109_5, hx109_6, hx109_7, hx109_8, hx109_9, hl109_1, hi109_1, hl109_8, hi109_8⟩ := at_T96 HR0.out x5_1 p109 q109; obtain rfl : ad101 = ad109 := (by injection e109); replace hx109_0 := (HB.out.cell (World.block_lt_of_cell? w _ hx109_0)).trans hx109_0; replace hx109_1 := (HB.out.cell (World.block_lt_of_cell? w _ hx109_1)).trans hx109_1; replace hx109_2 := (HB.out.cell (World.block_lt_of_cell? w _ hx109_2)).trans hx109_2; replace hx109_3 := (HB.out.cell (World.block_lt_of_cell? w _ hx109_3)).trans hx109_3; replace hx109_4 := (HB.out.cell (World.block_lt_of_cell? w _ hx109_4)).trans hx109_4; replace hx109_5 := (HB.out.cell (World.block_lt_of_cell? w _ hx109_5)).trans hx109_5; replace hx109_6 := (HB.out.cell (World.block_lt_of_cell? w _ hx109_6)).trans hx109_6; replace hx109_7 := (HB.out.cell (World.block_lt_of_cell? w _ hx109_7)).trans hx109_7; replace hx109_8 := (HB.out.cell (World.block_lt_of_cell? w _ hx109_8)).trans hx109_8; replace hx109_9 := (HB.out.cell (World.block_lt_of_cell? w _ hx109_9)).trans hx109_9; have HR109_1 := aM hi109_1; have HC109_1 := aM hl109_1; clear hi109_1 hl109_1; have HR109_8 := aM hi109_8; have HC109_8 := aM hl109_8; clear hi109_8 hl109_8; replace p109 := eq_true p109; replace q109 := eq_true q109; have ea_ := Option.some.inj (hx105_1.symm.trans hx109_1); injection ea_ with ea_ en_ ec_; subst ea_; subst ec_; clear en_; have ea_ := Option.some.inj (hx105_8.symm.trans hx109_8); injection ea_ with ea_ en_ ec_; subst ea_; subst ec_; clear en_; have p110 : 0 ≤ (x5_1 : Int) := of_decide_eq_true z1200; have q110 : x5_1 < (l0.length : Int) := of_decide_eq_true z1200; obtain ⟨ad110, A110_1, c110_1, A110_8, c110_8, e110, hx110_0, hx110_1, hx110_2, hx110_3, hx110_4, hx110_5, hx110_6, hx110_7, hx110_8, hx110_9, hl110_1, hi110_1, hl110_8, hi110_8⟩ := at_T96 HR0.out x5_1 p110 q110; obtain rfl : ad101 = ad110 := (by injection e110); replace hx110_0 := (HB.out.cell (World.block_lt_of_cell? w _ hx110_0)).trans hx110_0; replace hx110_1 := (HB.out.cell (World.block_lt_of_cell? w _ hx110_1)).trans hx110_1; replace hx110_2 := (HB.out.cell (World.block_lt_of_cell? w _ hx110_2)).trans hx110_2; replace hx110_3 := (HB.out.cell (World.block_lt_of_cell? w _ hx110_3)).trans hx110_3; replace hx110_4 := (HB.out.cell (World.block_lt_of_cell? w _ hx110_4)).trans hx110_4; replace hx110_5 := (HB.out.cell (World.block_lt_of_cell? w _ hx110_5)).trans hx110_5; replace hx110_6 := (HB.out.cell (World.block_lt_of_cell? w _ hx110_6)).trans hx110_6; replace hx110_7 := (HB.out.cell (World.block_lt_of_cell? w _ hx110_7)).trans hx110_7; replace hx110_8 := (HB.out.cell (World.block_lt_of_cell? w _ hx110_8)).trans hx110_8; replace hx110_9 := (HB.out.cell (World.block_lt_of_cell? w _ hx110_9)).trans hx110_9; have HR110_1 := aM hi110_1; have HC110_1 := aM hl110_1; clear hi110_1 hl110_1; have HR110_8 := aM hi110_8; have HC110_8 := aM hl110_8; clear hi110_8 hl110_8; replace p110 := eq_true p110; replace q110 := eq_true q110; have ea_ := Option.some.inj (hx105_1.symm.trans hx110_1); injection ea_ with ea_ en_ ec_; subst ea_; subst ec_; clear en_; have ea_ := Option.some.inj (hx105_8.symm.trans hx110_8); injection ea_ with ea_ en_ ec_; subst ea_; subst ec_; clear en_; have p111 : 0 ≤ (x5_1 : Int) := of_decide_eq_true z1200; have q111 : x5_1 < (l0.length : Int) := of_decide_eq_true z1200; obtain ⟨ad111, A111_1, c111_1, A111_8, c111_8, e111, hx111_0, hx111_1, hx111_2, hx111_3, hx111_4, hx111_5, hx111_6, hx111_7, hx111_8, hx111_9, hl111_1, hi111_1, hl111_8, hi111_8⟩ := at_T96 HR0.out x5_1 p111 q111; obtain rfl : ad101 = ad111 := (by injection e111); replace hx111_0 := (HB.out.cell (World.block_lt_of_cell? w _ hx111_0)).trans hx111_0; replace hx111_1 := (HB.out.cell (World.block_lt_of_cell? w _ hx111_1)).trans hx111_1; replace hx111_2 := (HB.out.cell (World.block_lt_of_cell? w _ hx111_2)).trans hx111_2; replace hx111_3 := (HB.out.cell (World.block_lt_of_cell? w _ hx111_3)).trans hx111_3; replace hx111_4 := (HB.out.cell (World.block_lt_of_cell? w _ hx111_4)).trans hx111_4; replace hx111_5 := (HB.out.cell (World.block_lt_of_cell? w _ hx111_5)).trans hx111_5; replace hx111_6 := (HB.out.cell (World.block_lt_of_cell? w _ hx111_6)).trans hx111_6; replace hx111_7 := (HB.out.cell (World.block_lt_of_cell? w _ hx111_7)).trans hx111_7; replace hx111_8 := (HB.out.cell (World.block_lt_of_cell? w _ hx111_8)).trans hx111_8; replace hx111_9 := (HB.out.cell (World.block_lt_of_cell? w _ hx111_9)).trans hx111_9; have HR111_1 := aM hi111_1; have HC111_1 := aM hl111_1; clear hi111_1 hl111_1; have HR111_8 := aM hi111_8; have HC111_8 := aM hl111_8; clear hi111_8 hl111_8; replace p111 := eq_true p111; replace q111 := eq_true q111; have ea_ := Option.some.inj (hx105_1.symm.trans hx111_1); injection ea_ with ea_ en_ ec_; subst ea_; subst ec_; clear en_; have ea_ := Option.some.inj (hx105_8.symm.trans hx111_8); injection ea_ with ea_ en_ ec_; subst ea_; subst ec_; clear en_) | ((with_reducible refine gate_callee (f := 78) rfl ?_); refine gL 99 Tryd.func78 #[.slice A105_8 ((rd_T96 l0 x5_1).f2.f4).length c105_8, .int .i64 (wrap64 ((wrap64 ((wrap64 ((wrap64 ((wrap64 ((wrap64 (t104 + 1)) + 1)) + 1)) + 1)) + 1)) + 1))] ?_; (with_reducible refine (laws_heldIntS.calls k1 _ _ ((rd_T96 l0 x5_1).f2.f4) (wrap64 ((wrap64 ((wrap64 ((wrap64 ((wrap64 ((wrap64 (t104 + 1)) + 1)) + 1)) + 1)) + 1)) + 1)) t112 _ ?side1 ?side2 A15.out).mono ?_); (case side1 => exact (cZ (Kd.C_below HR111_8.out HB.out))); (case side2 => exact HC111_8.out); rintro e w' ⟨rfl, ⟨nd, rfl⟩⟩; refine ⟨_, rfl, ?_⟩; have p113 : 0 ≤ (x5_1 : Int) := of_decide_eq_true z1200; have q113 : x5_1 < (l0.length : Int) := of_decide_eq_true z1200; obtain ⟨ad113, A113_1, c113_1, A113_8, c113_8, e113, hx113_0, hx113_1, hx113_2, hx113_3, hx113_4, hx113_5, hx113_6, hx113_7, hx113_8, hx113_9, hl113_1, hi113_1, hl113_8, hi113_8⟩ := at_T96 HR0.out x5_1 p113 q113; obtain rfl : ad101 = ad113 := (by injection e113); replace hx113_0 := (HB.out.cell (World.block_lt_of_cell? w _ hx113_0)).trans hx113_0; replace hx113_1 := (HB.out.cell (World.block_lt_of_cell? w _ hx113_1)).trans hx113_1; replace hx113_2 := (HB.out.cell (World.block_lt_of_cell? w _ hx113_2)).trans hx113_2; replace hx113_3 := (HB.out.cell (World.block_lt_of_cell? w _ hx113_3)).trans hx113_3; replace hx113_4 := (HB.out.cell (World.block_lt_of_cell? w _ hx113_4)).trans hx113_4; replace hx113_5 := (HB.out.cell (World.block_lt_of_cell? w _ hx113_5)).trans hx113_5; replace hx113_6 := (HB.out.cell (World.block_lt_of_cell? w _ hx113_6)).trans hx113_6; replace hx113_7 := (HB.out.cell (World.block_lt_of_cell? w _ hx113_7)).trans hx113_7; replace hx113_8 := (HB.out.cell (World.block_lt_of_cell? w _ hx113_8)).trans hx113_8; replace hx113_9 := (HB.out.cell (World.block_lt_of_cell? w _ hx113_9)).trans hx113_9; have HR113_1 := aM hi113_1; have HC113_1 := aM hl113_1; clear hi113_1 hl113_1; have HR113_8 := aM hi113_8; have HC113_8 := aM hl113_8; clear hi113_8 hl113_8; replace p113 := eq_true p113; replace q113 := eq_true q113; have ea_ := Option.some.inj (hx105_1.symm.trans hx113_1); injection ea_ with ea_ en_ ec_; subst ea_; subst ec_; clear en_; have ea_ := Option.some.inj (hx105_8.symm.trans hx113_8); injection ea_ with ea_ en_ ec_; subst ea_; subst ec_; clear en_))
     go_roundg k1
     case measure => have := HK1.out; omega
     case rel => exact ⟨(wrap64 (t112 + 1)), (wrap64 (x5_1 + 1)), z4458, z4458, H', ⟨zfb39⟩, ⟨z5acd⟩⟩
   · rw [if_neg c3] at H
     have c3b0 := nL c3
     clear c3
     obtain rfl := Option.some.inj H
     go_wp2
     go_ret
     exact ⟨z674d, z5acd⟩

end Go.Proofs.YtkgmoajdcibafaaDoor.P
