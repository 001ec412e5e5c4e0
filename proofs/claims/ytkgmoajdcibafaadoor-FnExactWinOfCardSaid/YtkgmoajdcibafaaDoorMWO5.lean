/- Part 5 of the walks and words that WO uses. No conditions of its own. -/
import Derived.Deep.RegionHeld3
import Derived.Laws.BitsAllLaws
import Derived.Lib.SlTrimSet
import Derived.ChangeArms
import Derived.ChangeSlices
import Derived.DataReads
import Derived.Test.YtkgmoajdcibafaaDoorMWO4

-- written by a program of this session's (wip/pp)
namespace Go.Proofs.YtkgmoajdcibafaaDoor.P
open Go.RowKit Go.Proofs.YtkgmoajdcibafaaDoorW.PrintWords Go.Proofs.YtkgmoajdcibafaaDoorW.PrintLast Go.Proofs.YtkgmoajdcibafaaDoorW.PrintMore
attribute [local go_sem] max2_int min2_int max_two min_two max_three min_three max_four min_four str_geq str_gtr str_leq   -- for this text's walks alone
set_option linter.unusedVariables false
set_option linter.unusedSimpArgs false

/-! ### laws_heldTagS: function 77 -/
def laws_heldTagS.l0 : Nat → List (S123) → Int → Int → Option (Int)
 | 0, _, _, _ => none
 | k + 1, x0, x1, x5 => if x5 < (x0.length : Int) then (if 0 ≤ x5 then ((laws_markText.f k x1).bind fun t102 => (if ((rd_T123 x0 x5).f0).toList = t102.toList then ((laws_markText.f k (wrap64 (x1 + 1))).bind fun t104 => (if ((rd_T123 x0 x5).f1).toList = t104.toList then (laws_heldTagS.l0 k x0 (wrap64 ((wrap64 (x1 + 1)) + 1)) (wrap64 (x5 + 1))) else (none))) else (none))) else (none)) else (some x1)
def laws_heldTagS.f (k : Nat) (l0 : List (S123)) (a1 : Int) : Option (Int) := laws_heldTagS.l0 k l0 a1 0
theorem laws_heldTagS.mono_l : ∀ k, (∀ y0 y1 y2, LeO (laws_heldTagS.l0 k y0 y1 y2) (laws_heldTagS.l0 (k + 1) y0 y1 y2))
 | 0 => fun _ _ _ r h => by simp [laws_heldTagS.l0] at h
 | k + 1 => by
  have ih0 := laws_heldTagS.mono_l k; have m0 := @laws_markText.mono
  · intro y0 y1 y2
    unfold laws_heldTagS.l0
    exact moZ
theorem laws_heldTagS.mono : ∀ a0 a1 k, LeO (laws_heldTagS.f k a0 a1) (laws_heldTagS.f (k + 1) a0 a1) := by
 intro a0 a1 k
 have ih0 := laws_heldTagS.mono_l k
 have m0 := @laws_markText.mono
 unfold laws_heldTagS.f
 exact moZ
def laws_heldTagS.T4 : Bool × List (List Nat × List Nat) := (true, [([], []), ([], []), ([0, 1], [0, 1]), ([2], [2]), ([3], [3]), ([], []), ([5], [5]), ([4, 6], [4, 6])])
def laws_heldTagS.B4 : List Nat := [0, 0, 3, 7, 15, 0, 32, 127]
theorem laws_heldTagS.tab4 : rtab .any (opsOf Tryd.f77 4) = laws_heldTagS.T4 := by kernel_rfl
theorem laws_heldTagS.bits4 : waitsOk laws_heldTagS.T4.2 laws_heldTagS.B4 = true := by kernel_rfl
def laws_heldTagS.T7 : Bool × List (List Nat × List Nat) := (true, [([], []), ([], []), ([0, 1], [0, 1]), ([2], [2]), ([3], [3]), ([], []), ([5], [5]), ([4, 6], [4, 6])])
def laws_heldTagS.B7 : List Nat := [0, 0, 3, 7, 15, 0, 32, 127]
theorem laws_heldTagS.tab7 : rtab .any (opsOf Tryd.f77 7) = laws_heldTagS.T7 := by kernel_rfl
theorem laws_heldTagS.bits7 : waitsOk laws_heldTagS.T7.2 laws_heldTagS.B7 = true := by kernel_rfl
set_option maxHeartbeats 8000000 in
set_option maxRecDepth 100000 in
theorem laws_heldTagS.calls (k : Nat) (A0 : Option Addr) (c0 : Nat) (l0 : List (S123)) (a1 : Int) (r : Int) (w : World) (hr0 : Kd.C k123 w A0 l0.length l0) (hc0 : l0.length ≤ c0) (h : laws_heldTagS.f k l0 a1 = some r) :
 Calls Tryd.prog 77 #[.slice A0 l0.length c0, .int .i64 a1] w fun e w' => e = .returned (.int .i64 r) ∧ Below w.heap.size w w' := by
 have HR0 := aM hr0
 have HC0 := aM hc0
 clear hr0 hc0
 have HB := aM (Below.refl w.heap.size w)
 have H : (laws_heldTagS.l0 k l0 a1 0) = some r := h
 clear h
 have H' := aM H
 clear H
 go_enter Tryd.func77, Tryd.ntmps77
 go_wp2
 go_loopg [1, 5] k (fun kq v1 v5 w' => ∃ (x1_1 : Int) (x5_1 : Int), v1 = .int .i64 x1_1 ∧ v5 = .int .i64 x5_1 ∧ Aside0 (laws_heldTagS.l0 kq l0 x1_1 x5_1 = some r) ∧ Aside0 (kq ≤ k) ∧ Aside0 (Below w.heap.size w w'))
 case atStart => exact ⟨(a1), (0), z4458, z4458, H', ⟨Nat.le_refl _⟩, ⟨z5acd⟩⟩
 case round =>
  clear H'
  obtain ⟨x1_1, x5_1, rfl, rfl, HA, HK1, HB⟩ := hrel
  cases gk with
  | zero => exact absurd HA.out (by simp [laws_heldTagS.l0])
  | succ k1 =>
   have H := HA.out
   clear HA
   simp only [laws_heldTagS.l0] at H
   by_cases c3 : x5_1 < (l0.length : Int)
   · rw [if_pos c3] at H
     have c3b0 := dL c3
     clear c3
     obtain ⟨c4b0, H⟩ := sE H
     obtain ⟨t102, A5, H⟩ := bS H; try dsimp only at H
     replace H := ifS H; obtain ⟨c6, H⟩ := H
     have c6b0 := eqE c6
     clear c6
     obtain ⟨t104, A7, H⟩ := bS H; try dsimp only at H
     replace H := ifS H; obtain ⟨c8, H⟩ := H
     have c8b0 := eqE c8
     clear c8
     have H' := aM H
     clear H
     try go_wp2
     have _ := aM (below_drew1 HB.out)
     clear HB
     rename_i HB
     have p101 : 0 ≤ (x5_1 : Int) := of_decide_eq_true z1200
     have q101 : x5_1 < (l0.length : Int) := of_decide_eq_true z1200
     obtain ⟨ad101, e101, hx101_0, hx101_1⟩ := at_T123 HR0.out x5_1 p101 q101
     have hw101_1 := hx101_1
     have hw101_0 := hx101_0
     cases e101
     replace hx101_0 := (HB.out.cell (World.block_lt_of_cell? w _ hx101_0)).trans hx101_0
     replace hx101_1 := (HB.out.cell (World.block_lt_of_cell? w _ hx101_1)).trans hx101_1
     replace p101 := eq_true p101
     replace q101 := eq_true q101
     refine sA 8 laws_heldTagS.tab4 laws_heldTagS.bits4 (fun w' => w'.cell? (ad101.add ((x5_1).toNat * 2)) = some (.string ((rd_T123 l0 x5_1).f0)) ∧ w'.cell? ⟨(ad101.add ((x5_1).toNat * 2)).block, (ad101.add ((x5_1).toNat * 2)).off + 1, none⟩ = some (.string ((rd_T123 l0 x5_1).f1))) [] (fun hHeld HT_ HW_ => ?_)
     generalize wr.drew = w9 at HB hx101_0 hx101_1 hHeld ⊢
     refine pA 0 12 HT_ ?_; refine pA 1 13 HT_ ?_; refine pA 2 14 HT_ ?_; refine pA 3 15 HT_ ?_; refine pA 5 17 HT_ ?_; refine tA 4 16 HT_ HW_ hHeld ?_; refine oA 6 18 HT_ (fun K hK => ?_)
     refine goes_ Tryd.func75 (by kernel_rfl) rfl #[.int .i64 x1_1] (by rfl) rfl rfl zee81 ?_
     with_reducible refine (laws_markText.calls k1 x1_1 t102 _ A5.out).mono ?_
     rintro e w10 ⟨rfl, hb⟩
     refine ⟨_, rfl, ?_⟩
     have _ := aM (below_step hbZ hb)
     clear HB
     rename_i HB
     (try clear hb)
     refine hK.out _ _ sZ (fun hHeld => ?_)
     clear hK K
     refine nA 18 ?_; refine pA 7 19 HT_ ?_
     refine done_ (done_of HT_.out (by kernel_rfl)) ?_
     try go_wp2
     have _ := aM (below_drew1 HB.out)
     clear HB
     rename_i HB
     have p103 : 0 ≤ (x5_1 : Int) := of_decide_eq_true z1200
     have q103 : x5_1 < (l0.length : Int) := of_decide_eq_true z1200
     obtain ⟨ad103, e103, hx103_0, hx103_1⟩ := at_T123 HR0.out x5_1 p103 q103
     have hw103_1 := hx103_1
     have hw103_0 := hx103_0
     obtain rfl : ad101 = ad103 := (by injection e103)
     replace hx103_0 := (HB.out.cell (World.block_lt_of_cell? w _ hx103_0)).trans hx103_0
     replace hx103_1 := (HB.out.cell (World.block_lt_of_cell? w _ hx103_1)).trans hx103_1
     replace p103 := eq_true p103
     replace q103 := eq_true q103
     refine sA 8 laws_heldTagS.tab7 laws_heldTagS.bits7 (fun w' => w'.cell? (ad101.add ((x5_1).toNat * 2)) = some (.string ((rd_T123 l0 x5_1).f0)) ∧ w'.cell? ⟨(ad101.add ((x5_1).toNat * 2)).block, (ad101.add ((x5_1).toNat * 2)).off + 1, none⟩ = some (.string ((rd_T123 l0 x5_1).f1))) [] (fun hHeld HT_ HW_ => ?_)
     generalize w10.drew = w11 at HB hx103_0 hx103_1 hHeld ⊢
     refine pA 0 22 HT_ ?_; refine pA 1 23 HT_ ?_; refine pA 2 24 HT_ ?_; refine pA 3 25 HT_ ?_; refine pA 5 27 HT_ ?_; refine tA 4 26 HT_ HW_ hHeld ?_; refine oA 6 28 HT_ (fun K hK => ?_)
     refine goes_ Tryd.func75 (by kernel_rfl) rfl #[.int .i64 (wrap64 (x1_1 + 1))] (by rfl) rfl rfl zee81 ?_
     with_reducible refine (laws_markText.calls k1 (wrap64 (x1_1 + 1)) t104 _ A7.out).mono ?_
     rintro e w12 ⟨rfl, hb⟩
     refine ⟨_, rfl, ?_⟩
     have _ := aM (below_step hbZ hb)
     clear HB
     rename_i HB
     (try clear hb)
     refine hK.out _ _ sZ (fun hHeld => ?_)
     clear hK K
     refine nA 28 ?_; refine pA 7 29 HT_ ?_
     refine done_ (done_of HT_.out (by kernel_rfl)) ?_
     try go_wp2
     go_roundg k1
     case measure => have := HK1.out; omega
     case rel => exact ⟨(wrap64 ((wrap64 (x1_1 + 1)) + 1)), (wrap64 (x5_1 + 1)), z4458, z4458, H', ⟨zfb39⟩, ⟨z5acd⟩⟩
   · rw [if_neg c3] at H
     have c3b0 := nL c3
     clear c3
     obtain rfl := Option.some.inj H
     go_wp2
     go_ret
     exact ⟨z674d, z5acd⟩

end Go.Proofs.YtkgmoajdcibafaaDoor.P

-- written by a program of this session's (wip/pp)
namespace Go.Proofs.YtkgmoajdcibafaaDoor.P
open Go.RowKit Go.Proofs.YtkgmoajdcibafaaDoorW.PrintWords Go.Proofs.YtkgmoajdcibafaaDoorW.PrintLast Go.Proofs.YtkgmoajdcibafaaDoorW.PrintMore
attribute [local go_sem] max2_int min2_int max_two min_two max_three min_three max_four min_four str_geq str_gtr str_leq   -- for this text's walks alone
set_option linter.unusedVariables false
set_option linter.unusedSimpArgs false

/-! ### laws_heldKey: function 56 -/
def laws_heldKey.f (k : Nat) (a0_0 : ByteArray) (l0_1 : List (S123)) (a0_2 : Int) (a1 : Int) : Option (Int) := (laws_heldTagS.f k l0_1 a1).bind fun t102 => (if t102 < 0 then (none) else (some t102))
theorem laws_heldKey.mono : ∀ a0 a1 a2 a3 k, LeO (laws_heldKey.f k a0 a1 a2 a3) (laws_heldKey.f (k + 1) a0 a1 a2 a3) := by
 intro a0 a1 a2 a3 k
 have m0 := @laws_heldTagS.mono
 unfold laws_heldKey.f
 exact moZ
set_option maxHeartbeats 8000000 in
set_option maxRecDepth 100000 in
theorem laws_heldKey.calls (k : Nat) (a0_0 : ByteArray) (A0_1 : Option Addr) (c0_1 : Nat) (l0_1 : List (S123)) (a0_2 : Int) (a1 : Int) (r : Int) (w : World) (hr0_1 : Kd.C k123 w A0_1 l0_1.length l0_1) (hc0_1 : l0_1.length ≤ c0_1) (h : laws_heldKey.f k a0_0 l0_1 a0_2 a1 = some r) :
 Calls Tryd.prog 56 #[.agg #[.string a0_0, .slice A0_1 l0_1.length c0_1, .int .i64 a0_2], .int .i64 a1] w fun e w' => e = .returned (.int .i64 r) ∧ Below w.heap.size w w' := by
 have hu32 := Tryd.underlying32
 have HR0_1 := aM hr0_1
 have HC0_1 := aM hc0_1
 clear hr0_1 hc0_1
 have HB := aM (Below.refl w.heap.size w)
 have H : ((laws_heldTagS.f k l0_1 a1).bind fun t102 => (if t102 < 0 then (none) else (some t102))) = some r := h
 clear h
 obtain ⟨t102, A3, H⟩ := bS H; try dsimp only at H
 replace H := ifN H; obtain ⟨c4, H⟩ := H
 have c4b0 := nL c4
 clear c4
 obtain rfl := Option.some.inj H
 go_enter Tryd.func56, Tryd.ntmps56
 go_wp2_with (first | ((with_reducible refine gate_dst (N := 2) rfl ?_); refine bX 2 32 #[.string a0_0, .slice A0_1 l0_1.length c0_1, .int .i64 a0_2] ?_; intro gb101 hg w5 hbox hb; have _ := aM (below_step hbZ hb); have _ := aM hbox; have _ := szZ hg; have _ := szZ hg; clear HB; rename_i HB BK101 GW101 GE101; clear hb hbox hg; have hz6 := cellsZ3 BK101.out) | ((with_reducible refine gate_callee (f := 77) rfl ?_); refine gL 8 Tryd.func77 #[.slice A0_1 l0_1.length c0_1, .int .i64 a1] ?_; (with_reducible refine (laws_heldTagS.calls k _ _ l0_1 a1 t102 _ ?side1 ?side2 A3.out).mono ?_); (case side1 => exact (cZ (Kd.C_below HR0_1.out HB.out))); (case side2 => exact HC0_1.out); rintro e w7 ⟨rfl, hb⟩; refine ⟨_, rfl, ?_⟩; have _ := bB gb101 hb; have _ := aM (below_step hbZ hb); clear BK101 HB; rename_i BK101 HB; (try clear hb)))
 go_ret
 exact ⟨z674d, zcb41⟩

end Go.Proofs.YtkgmoajdcibafaaDoor.P

-- written by a program of this session's (wip/pp)
namespace Go.Proofs.YtkgmoajdcibafaaDoor.P
open Go.RowKit Go.Proofs.YtkgmoajdcibafaaDoorW.PrintWords Go.Proofs.YtkgmoajdcibafaaDoorW.PrintLast Go.Proofs.YtkgmoajdcibafaaDoorW.PrintMore
attribute [local go_sem] max2_int min2_int max_two min_two max_three min_three max_four min_four str_geq str_gtr str_leq   -- for this text's walks alone
set_option linter.unusedVariables false
set_option linter.unusedSimpArgs false

/-! ### laws_heldIntS: function 78 -/
def laws_heldIntS.l0 : Nat → List Int → Int → Int → Option (Int)
 | 0, _, _, _ => none
 | k + 1, x0, x1, x5 => if x5 < (x0.length : Int) then (if 0 ≤ x5 then (if (rd x0 x5) = x1 then (laws_heldIntS.l0 k x0 (wrap64 (x1 + 1)) (wrap64 (x5 + 1))) else (none)) else (none)) else (some x1)
def laws_heldIntS.f (k : Nat) (l0 : List Int) (a1 : Int) : Option (Int) := laws_heldIntS.l0 k l0 a1 0
theorem laws_heldIntS.mono_l : ∀ k, (∀ y0 y1 y2, LeO (laws_heldIntS.l0 k y0 y1 y2) (laws_heldIntS.l0 (k + 1) y0 y1 y2))
 | 0 => fun _ _ _ r h => by simp [laws_heldIntS.l0] at h
 | k + 1 => by
  have ih0 := laws_heldIntS.mono_l k
  · intro y0 y1 y2
    unfold laws_heldIntS.l0
    exact moZ
theorem laws_heldIntS.mono : ∀ a0 a1 k, LeO (laws_heldIntS.f k a0 a1) (laws_heldIntS.f (k + 1) a0 a1) := by
 intro a0 a1 k
 have ih0 := laws_heldIntS.mono_l k
 unfold laws_heldIntS.f
 exact moZ
set_option maxHeartbeats 8000000 in
set_option maxRecDepth 100000 in
theorem laws_heldIntS.calls (k : Nat) (A0 : Option Addr) (c0 : Nat) (l0 : List Int) (a1 : Int) (r : Int) (w : World) (hr0 : Kd.C (Kd.int .i64) w A0 l0.length l0) (hc0 : l0.length ≤ c0) (h : laws_heldIntS.f k l0 a1 = some r) :
 Calls Tryd.prog 78 #[.slice A0 l0.length c0, .int .i64 a1] w fun e w' => e = .returned (.int .i64 r) ∧ Drawn0 w w' := by
 have HR0 := aM hr0
 have HC0 := aM hc0
 clear hr0 hc0
 have H : (laws_heldIntS.l0 k l0 a1 0) = some r := h
 clear h
 have H' := aM H
 clear H
 go_enter Tryd.func78, Tryd.ntmps78
 go_wp2
 go_loopg [1, 5] k (fun kq v1 v5 w' => ∃ (x1_1 : Int) (x5_1 : Int), v1 = .int .i64 x1_1 ∧ v5 = .int .i64 x5_1 ∧ Aside0 (laws_heldIntS.l0 kq l0 x1_1 x5_1 = some r) ∧ Aside0 (kq ≤ k) ∧ Drawn0 w w')
 case atStart => exact ⟨(a1), (0), z4458, z4458, H', ⟨Nat.le_refl _⟩, za9de⟩
 case round =>
  clear H'
  obtain ⟨x1_1, x5_1, rfl, rfl, HA, HK1, ⟨m1, rfl⟩⟩ := hrel
  cases gk with
  | zero => exact absurd HA.out (by simp [laws_heldIntS.l0])
  | succ k1 =>
   have H := HA.out
   clear HA
   simp only [laws_heldIntS.l0] at H
   by_cases c3 : x5_1 < (l0.length : Int)
   · rw [if_pos c3] at H
     have c3b0 := dL c3
     clear c3
     obtain ⟨c4b0, H⟩ := sE H
     replace H := ifS H; obtain ⟨c5, H⟩ := H
     have c5b0 := eqE c5
     clear c5
     have H' := aM H
     clear H
     have p101 : 0 ≤ (x5_1 : Int) := of_decide_eq_true z1200
     have q101 : x5_1 < (l0.length : Int) := of_decide_eq_true z1200
     obtain ⟨ad101, e101, hx101_0⟩ := Kd.at_int HR0.out x5_1 p101 q101
     cases e101
     replace p101 := eq_true p101
     replace q101 := eq_true q101
     go_wp2
     go_roundg k1
     case measure => have := HK1.out; omega
     case rel => exact ⟨(wrap64 (x1_1 + 1)), (wrap64 (x5_1 + 1)), z4458, z4458, H', ⟨zfb39⟩, za9de⟩
   · rw [if_neg c3] at H
     have c3b0 := nL c3
     clear c3
     obtain rfl := Option.some.inj H
     go_wp2
     go_ret
     exact ⟨z4458, za9de⟩

end Go.Proofs.YtkgmoajdcibafaaDoor.P

-- written by a program of this session's (wip/pp)
namespace Go.Proofs.YtkgmoajdcibafaaDoor.P
open Go.RowKit Go.Proofs.YtkgmoajdcibafaaDoorW.PrintWords Go.Proofs.YtkgmoajdcibafaaDoorW.PrintLast Go.Proofs.YtkgmoajdcibafaaDoorW.PrintMore
attribute [local go_sem] max2_int min2_int max_two min_two max_three min_three max_four min_four str_geq str_gtr str_leq   -- for this text's walks alone
set_option linter.unusedVariables false
set_option linter.unusedSimpArgs false

/-! ### laws_heldAgg: function 57 -/
def laws_heldAgg.f (k : Nat) (a0_0 : Int) (a0_1 : Int) (a0_2 : Int) (a0_3 : Int) (l0_4 : List Int) (a0_5 : Bool) (a1 : Int) : Option (Int) := (laws_heldIntS.f k l0_4 a1).bind fun t102 => (if t102 < 0 then (none) else (some t102))
theorem laws_heldAgg.mono : ∀ a0 a1 a2 a3 a4 a5 a6 k, LeO (laws_heldAgg.f k a0 a1 a2 a3 a4 a5 a6) (laws_heldAgg.f (k + 1) a0 a1 a2 a3 a4 a5 a6) := by
 intro a0 a1 a2 a3 a4 a5 a6 k
 have m0 := @laws_heldIntS.mono
 unfold laws_heldAgg.f
 exact moZ
set_option maxHeartbeats 8000000 in
set_option maxRecDepth 100000 in
theorem laws_heldAgg.calls (k : Nat) (a0_0 : Int) (a0_1 : Int) (a0_2 : Int) (a0_3 : Int) (A0_4 : Option Addr) (c0_4 : Nat) (l0_4 : List Int) (a0_5 : Bool) (a1 : Int) (r : Int) (w : World) (hr0_4 : Kd.C (Kd.int .i64) w A0_4 l0_4.length l0_4) (hc0_4 : l0_4.length ≤ c0_4) (h : laws_heldAgg.f k a0_0 a0_1 a0_2 a0_3 l0_4 a0_5 a1 = some r) :
 Calls Tryd.prog 57 #[.agg #[.int .i64 a0_0, .int .i64 a0_1, .int .i64 a0_2, .int .i64 a0_3, .slice A0_4 l0_4.length c0_4, .bool a0_5], .int .i64 a1] w fun e w' => e = .returned (.int .i64 r) ∧ Below w.heap.size w w' := by
 have hu35 := Tryd.underlying35
 have HR0_4 := aM hr0_4
 have HC0_4 := aM hc0_4
 clear hr0_4 hc0_4
 have HB := aM (Below.refl w.heap.size w)
 have H : ((laws_heldIntS.f k l0_4 a1).bind fun t102 => (if t102 < 0 then (none) else (some t102))) = some r := h
 clear h
 obtain ⟨t102, A3, H⟩ := bS H; try dsimp only at H
 replace H := ifN H; obtain ⟨c4, H⟩ := H
 have c4b0 := nL c4
 clear c4
 obtain rfl := Option.some.inj H
 go_enter Tryd.func57, Tryd.ntmps57
 go_wp2_with (first | ((with_reducible refine gate_dst (N := 2) rfl ?_); refine bX 2 35 #[.int .i64 a0_0, .int .i64 a0_1, .int .i64 a0_2, .int .i64 a0_3, .slice A0_4 l0_4.length c0_4, .bool a0_5] ?_; intro gb101 hg w5 hbox hb; have _ := aM (below_step hbZ hb); have _ := aM hbox; have _ := szZ hg; have _ := szZ hg; clear HB; rename_i HB BK101 GW101 GE101; clear hb hbox hg; have hz6 := cellsZ6 BK101.out) | ((with_reducible refine gate_callee (f := 78) rfl ?_); refine gL 8 Tryd.func78 #[.slice A0_4 l0_4.length c0_4, .int .i64 a1] ?_; (with_reducible refine (laws_heldIntS.calls k _ _ l0_4 a1 t102 _ ?side1 ?side2 A3.out).mono ?_); (case side1 => exact (cZ (Kd.C_below HR0_4.out HB.out))); (case side2 => exact HC0_4.out); rintro e w' ⟨rfl, ⟨nd, rfl⟩⟩; refine ⟨_, rfl, ?_⟩))
 go_ret
 exact ⟨z674d, zcb41⟩

end Go.Proofs.YtkgmoajdcibafaaDoor.P

-- written by a program of this session's (wip/pp)
namespace Go.Proofs.YtkgmoajdcibafaaDoor.P
open Go.RowKit Go.Proofs.YtkgmoajdcibafaaDoorW.PrintWords Go.Proofs.YtkgmoajdcibafaaDoorW.PrintLast Go.Proofs.YtkgmoajdcibafaaDoorW.PrintMore
attribute [local go_sem] max2_int min2_int max_two min_two max_three min_three max_four min_four str_geq str_gtr str_leq   -- for this text's walks alone
set_option linter.unusedVariables false
set_option linter.unusedSimpArgs false

/-! ### laws_heldWin: function 20 -/
def laws_heldWin.f (k : Nat) (a0_0 : ByteArray) (l0_1 : List (S123)) (a0_2 : Int) (a0_3 : Int) (a0_4 : Int) (a0_5 : Int) (a0_6 : Int) (l0_7 : List Int) (a0_8 : Bool) (a0_9 : Int) (a0_10 : Bool) (a1 : Int) : Option (Int) := (laws_heldKey.f k a0_0 l0_1 a0_2 a1).bind fun t102 => (if t102 < 0 then (none) else ((laws_heldAgg.f k a0_3 a0_4 a0_5 a0_6 l0_7 a0_8 t102).bind fun t103 => (if t103 < 0 then (none) else (some t103))))
theorem laws_heldWin.mono : ∀ a0 a1 a2 a3 a4 a5 a6 a7 a8 a9 a10 a11 k, LeO (laws_heldWin.f k a0 a1 a2 a3 a4 a5 a6 a7 a8 a9 a10 a11) (laws_heldWin.f (k + 1) a0 a1 a2 a3 a4 a5 a6 a7 a8 a9 a10 a11) := by
 intro a0 a1 a2 a3 a4 a5 a6 a7 a8 a9 a10 a11 k
 have m0 := @laws_heldAgg.mono; have m1 := @laws_heldKey.mono
 unfold laws_heldWin.f
 exact moZ
set_option maxHeartbeats 8000000 in
set_option maxRecDepth 100000 in
theorem laws_heldWin.calls (k : Nat) (a0_0 : ByteArray) (A0_1 : Option Addr) (c0_1 : Nat) (l0_1 : List (S123)) (a0_2 : Int) (a0_3 : Int) (a0_4 : Int) (a0_5 : Int) (a0_6 : Int) (A0_7 : Option Addr) (c0_7 : Nat) (l0_7 : List Int) (a0_8 : Bool) (a0_9 : Int) (a0_10 : Bool) (a1 : Int) (r : Int) (w : World) (hr0_1 : Kd.C k123 w A0_1 l0_1.length l0_1) (hc0_1 : l0_1.length ≤ c0_1) (hr0_7 : Kd.C (Kd.int .i64) w A0_7 l0_7.length l0_7) (hc0_7 : l0_7.length ≤ c0_7) (h : laws_heldWin.f k a0_0 l0_1 a0_2 a0_3 a0_4 a0_5 a0_6 l0_7 a0_8 a0_9 a0_10 a1 = some r) :
 Calls Tryd.prog 20 #[.agg #[.string a0_0, .slice A0_1 l0_1.length c0_1, .int .i64 a0_2, .int .i64 a0_3, .int .i64 a0_4, .int .i64 a0_5, .int .i64 a0_6, .slice A0_7 l0_7.length c0_7, .bool a0_8, .int .i64 a0_9, .bool a0_10], .int .i64 a1] w fun e w' => e = .returned (.int .i64 r) ∧ Below w.heap.size w w' := by
 have hu37 := Tryd.underlying37
 have hu32 := Tryd.underlying32
 have hu35 := Tryd.underlying35
 have HR0_1 := aM hr0_1
 have HC0_1 := aM hc0_1
 clear hr0_1 hc0_1
 have HR0_7 := aM hr0_7
 have HC0_7 := aM hc0_7
 clear hr0_7 hc0_7
 have HB := aM (Below.refl w.heap.size w)
 have H : ((laws_heldKey.f k a0_0 l0_1 a0_2 a1).bind fun t102 => (if t102 < 0 then (none) else ((laws_heldAgg.f k a0_3 a0_4 a0_5 a0_6 l0_7 a0_8 t102).bind fun t103 => (if t103 < 0 then (none) else (some t103))))) = some r := h
 clear h
 obtain ⟨t102, A3, H⟩ := bS H; try dsimp only at H
 replace H := ifN H; obtain ⟨c4, H⟩ := H
 have c4b0 := nL c4
 clear c4
 obtain ⟨t103, A5, H⟩ := bS H; try dsimp only at H
 replace H := ifN H; obtain ⟨c6, H⟩ := H
 have c6b0 := nL c6
 clear c6
 obtain rfl := Option.some.inj H
 go_enter Tryd.func20, Tryd.ntmps20
 go_wp2_with (first | ((with_reducible refine gate_dst (N := 2) rfl ?_); refine bX 2 37 #[.string a0_0, .slice A0_1 l0_1.length c0_1, .int .i64 a0_2, .int .i64 a0_3, .int .i64 a0_4, .int .i64 a0_5, .int .i64 a0_6, .slice A0_7 l0_7.length c0_7, .bool a0_8, .int .i64 a0_9, .bool a0_10] ?_; intro gb101 hg w7 hbox hb; have _ := aM (below_step hbZ hb); have _ := aM hbox; have _ := szZ hg; have _ := szZ hg; clear HB; rename_i HB BK101 GW101 GE101; clear hb hbox hg; have hz8 := cellsZ11 BK101.out) | ((with_reducible refine gate_callee (f := 56) rfl ?_); refine gL 8 Tryd.func56 #[.agg #[.string a0_0, .slice A0_1 l0_1.length c0_1, .int .i64 a0_2], .int .i64 a1] ?_; (with_reducible refine (laws_heldKey.calls k a0_0 _ _ l0_1 a0_2 a1 t102 _ ?side1 ?side2 A3.out).mono ?_); (case side1 => exact (cZ (Kd.C_below HR0_1.out HB.out))); (case side2 => exact HC0_1.out); rintro e w9 ⟨rfl, hb⟩; refine ⟨_, rfl, ?_⟩; have _ := bB gb101 hb; have _ := aM (below_step hbZ hb); clear BK101 HB; rename_i BK101 HB; (try clear hb); have hz10 := cellsZ11 BK101.out) | ((with_reducible refine gate_callee (f := 57) rfl ?_); refine gL 14 Tryd.func57 #[.agg #[.int .i64 a0_3, .int .i64 a0_4, .int .i64 a0_5, .int .i64 a0_6, .slice A0_7 l0_7.length c0_7, .bool a0_8], .int .i64 t102] ?_; (with_reducible refine (laws_heldAgg.calls k a0_3 a0_4 a0_5 a0_6 _ _ l0_7 a0_8 t102 t103 _ ?side1 ?side2 A5.out).mono ?_); (case side1 => exact (cZ (Kd.C_below HR0_7.out HB.out))); (case side2 => exact HC0_7.out); rintro e w11 ⟨rfl, hb⟩; refine ⟨_, rfl, ?_⟩; have _ := bB gb101 hb; have _ := aM (below_step hbZ hb); clear BK101 HB; rename_i BK101 HB; (try clear hb)))
 go_ret
 exact ⟨z674d, zcb41⟩

end Go.Proofs.YtkgmoajdcibafaaDoor.P

-- written by a program of this session's (wip/pp)
namespace Go.Proofs.YtkgmoajdcibafaaDoor.P
open Go.RowKit Go.Proofs.YtkgmoajdcibafaaDoorW.PrintWords Go.Proofs.YtkgmoajdcibafaaDoorW.PrintLast Go.Proofs.YtkgmoajdcibafaaDoorW.PrintMore
attribute [local go_sem] max2_int min2_int max_two min_two max_three min_three max_four min_four str_geq str_gtr str_leq   -- for this text's walks alone
set_option linter.unusedVariables false
set_option linter.unusedSimpArgs false

/-! ### laws_szTag: function 83 -/
def laws_szTag.f (a0_0 : ByteArray) (a0_1 : ByteArray) (a1 : Int) : Option (Int) := if (wrap64 (a1 - (a0_0.size : Int))) < 0 then (some (-1)) else (if (wrap64 ((wrap64 (a1 - (a0_0.size : Int))) - (a0_1.size : Int))) < 0 then (some (-1)) else (some (wrap64 ((wrap64 (a1 - (a0_0.size : Int))) - (a0_1.size : Int)))))
set_option maxHeartbeats 8000000 in
set_option maxRecDepth 100000 in
theorem laws_szTag.calls (a0_0 : ByteArray) (a0_1 : ByteArray) (a1 : Int) (r : Int) (w : World) (h : laws_szTag.f a0_0 a0_1 a1 = some r) :
 Calls Tryd.prog 83 #[.agg #[.string a0_0, .string a0_1], .int .i64 a1] w fun e w' => e = .returned (.int .i64 r) ∧ Below w.heap.size w w' := by
 have hu119 := Tryd.underlying119
 have HB := aM (Below.refl w.heap.size w)
 have H : (if (wrap64 (a1 - (a0_0.size : Int))) < 0 then (some (-1)) else (if (wrap64 ((wrap64 (a1 - (a0_0.size : Int))) - (a0_1.size : Int))) < 0 then (some (-1)) else (some (wrap64 ((wrap64 (a1 - (a0_0.size : Int))) - (a0_1.size : Int)))))) = some r := h
 clear h
 by_cases c3 : (wrap64 (a1 - (a0_0.size : Int))) < 0
 · rw [if_pos c3] at H
   have c3b0 := dL c3
   clear c3
   obtain rfl := Option.some.inj H
   go_enter Tryd.func83, Tryd.ntmps83
   go_wp2_with (first | ((with_reducible refine gate_dst (N := 2) rfl ?_); refine bX 2 119 #[.string a0_0, .string a0_1] ?_; intro gb101 hg w4 hbox hb; have _ := aM (below_step hbZ hb); have _ := aM hbox; have _ := szZ hg; have _ := szZ hg; clear HB; rename_i HB BK101 GW101 GE101; clear hb hbox hg; have hz5 := cellsZ2 BK101.out))
   go_ret
   exact ⟨z674d, zcb41⟩
 · rw [if_neg c3] at H
   have c3b0 := nL c3
   clear c3
   by_cases c6 : (wrap64 ((wrap64 (a1 - (a0_0.size : Int))) - (a0_1.size : Int))) < 0
   · rw [if_pos c6] at H
     have c6b0 := dL c6
     clear c6
     obtain rfl := Option.some.inj H
     go_enter Tryd.func83, Tryd.ntmps83
     go_wp2_with (first | ((with_reducible refine gate_dst (N := 2) rfl ?_); refine bX 2 119 #[.string a0_0, .string a0_1] ?_; intro gb101 hg w7 hbox hb; have _ := aM (below_step hbZ hb); have _ := aM hbox; have _ := szZ hg; have _ := szZ hg; clear HB; rename_i HB BK101 GW101 GE101; clear hb hbox hg; have hz8 := cellsZ2 BK101.out))
     go_ret
     exact ⟨z674d, zcb41⟩
   · rw [if_neg c6] at H
     have c6b0 := nL c6
     clear c6
     obtain rfl := Option.some.inj H
     go_enter Tryd.func83, Tryd.ntmps83
     go_wp2_with (first | ((with_reducible refine gate_dst (N := 2) rfl ?_); refine bX 2 119 #[.string a0_0, .string a0_1] ?_; intro gb101 hg w9 hbox hb; have _ := aM (below_step hbZ hb); have _ := aM hbox; have _ := szZ hg; have _ := szZ hg; clear HB; rename_i HB BK101 GW101 GE101; clear hb hbox hg; have hz10 := cellsZ2 BK101.out))
     go_ret
     exact ⟨z674d, zcb41⟩

end Go.Proofs.YtkgmoajdcibafaaDoor.P

-- written by a program of this session's (wip/pp)
namespace Go.Proofs.YtkgmoajdcibafaaDoor.P
open Go.RowKit Go.Proofs.YtkgmoajdcibafaaDoorW.PrintWords Go.Proofs.YtkgmoajdcibafaaDoorW.PrintLast Go.Proofs.YtkgmoajdcibafaaDoorW.PrintMore
attribute [local go_sem] max2_int min2_int max_two min_two max_three min_three max_four min_four str_geq str_gtr str_leq   -- for this text's walks alone
set_option linter.unusedVariables false
set_option linter.unusedSimpArgs false

/-! ### laws_szTagS: function 39 -/
def laws_szTagS.l0 : Nat → List (S119) → Int → Int → Option (Int)
 | 0, _, _, _ => none
 | k + 1, x0, x1, x5 => if x5 < (x0.length : Int) then (if 0 ≤ x5 then ((laws_szTag.f ((rd_T119 x0 x5).f0) ((rd_T119 x0 x5).f1) x1).bind fun t102 => (if t102 < 0 then (some (-1)) else (laws_szTagS.l0 k x0 t102 (wrap64 (x5 + 1))))) else (none)) else (some x1)
def laws_szTagS.f (k : Nat) (l0 : List (S119)) (a1 : Int) : Option (Int) := if (wrap64 (a1 - (l0.length : Int))) < 0 then (some (-1)) else (laws_szTagS.l0 k l0 (wrap64 (a1 - (l0.length : Int))) 0)
theorem laws_szTagS.mono_l : ∀ k, (∀ y0 y1 y2, LeO (laws_szTagS.l0 k y0 y1 y2) (laws_szTagS.l0 (k + 1) y0 y1 y2))
 | 0 => fun _ _ _ r h => by simp [laws_szTagS.l0] at h
 | k + 1 => by
  have ih0 := laws_szTagS.mono_l k
  · intro y0 y1 y2
    unfold laws_szTagS.l0
    exact moZ
theorem laws_szTagS.mono : ∀ a0 a1 k, LeO (laws_szTagS.f k a0 a1) (laws_szTagS.f (k + 1) a0 a1) := by
 intro a0 a1 k
 have ih0 := laws_szTagS.mono_l k
 unfold laws_szTagS.f
 exact moZ
set_option maxHeartbeats 8000000 in
set_option maxRecDepth 100000 in
theorem laws_szTagS.calls (k : Nat) (A0 : Option Addr) (c0 : Nat) (l0 : List (S119)) (a1 : Int) (r : Int) (w : World) (hr0 : Kd.C k119 w A0 l0.length l0) (hc0 : l0.length ≤ c0) (h : laws_szTagS.f k l0 a1 = some r) :
 Calls Tryd.prog 39 #[.slice A0 l0.length c0, .int .i64 a1] w fun e w' => e = .returned (.int .i64 r) ∧ Below w.heap.size w w' := by
 have hu119 := Tryd.underlying119
 have HR0 := aM hr0
 have HC0 := aM hc0
 clear hr0 hc0
 have HB := aM (Below.refl w.heap.size w)
 have H : (if (wrap64 (a1 - (l0.length : Int))) < 0 then (some (-1)) else (laws_szTagS.l0 k l0 (wrap64 (a1 - (l0.length : Int))) 0)) = some r := h
 clear h
 by_cases c3 : (wrap64 (a1 - (l0.length : Int))) < 0
 · rw [if_pos c3] at H
   have c3b0 := dL c3
   clear c3
   obtain rfl := Option.some.inj H
   go_enter Tryd.func39, Tryd.ntmps39
   go_wp2
   go_ret
   exact ⟨z674d, z5acd⟩
 · rw [if_neg c3] at H
   have c3b0 := nL c3
   clear c3
   have H' := aM H
   clear H
   go_enter Tryd.func39, Tryd.ntmps39
   go_wp2
   go_loopg [1, 5] k (fun kq v1 v5 w' => ∃ (x1_1 : Int) (x5_1 : Int), v1 = .int .i64 x1_1 ∧ v5 = .int .i64 x5_1 ∧ Aside0 (laws_szTagS.l0 kq l0 x1_1 x5_1 = some r) ∧ Aside0 (kq ≤ k) ∧ Aside0 (Below w.heap.size w w'))
   case atStart => exact ⟨(wrap64 (a1 - (l0.length : Int))), (0), z4458, z4458, H', ⟨Nat.le_refl _⟩, ⟨z5acd⟩⟩
   case round =>
    clear H'
    (try clear c3b0)
    obtain ⟨x1_1, x5_1, rfl, rfl, HA, HK1, HB⟩ := hrel
    cases gk with
    | zero => exact absurd HA.out (by simp [laws_szTagS.l0])
    | succ k1 =>
     have H := HA.out
     clear HA
     simp only [laws_szTagS.l0] at H
     by_cases c4 : x5_1 < (l0.length : Int)
     · rw [if_pos c4] at H
       have c4b0 := dL c4
       clear c4
       obtain ⟨c5b0, H⟩ := sE H
       obtain ⟨t102, A6, H⟩ := bS H; try dsimp only at H
       by_cases c7 : t102 < 0
       · rw [if_pos c7] at H
         have c7b0 := dL c7
         clear c7
         obtain rfl := Option.some.inj H
         have p101 : 0 ≤ (x5_1 : Int) := of_decide_eq_true z1200
         have q101 : x5_1 < (l0.length : Int) := of_decide_eq_true z1200
         obtain ⟨ad101, e101, hx101_0, hx101_1⟩ := at_T119 HR0.out x5_1 p101 q101
         cases e101
         replace hx101_0 := (HB.out.cell (World.block_lt_of_cell? w _ hx101_0)).trans hx101_0
         replace hx101_1 := (HB.out.cell (World.block_lt_of_cell? w _ hx101_1)).trans hx101_1
         replace p101 := eq_true p101
         replace q101 := eq_true q101
         go_wp2_with (first | ((with_reducible refine gate_callee (f := 83) rfl ?_); refine gL 23 Tryd.func83 #[.agg #[.string ((rd_T119 l0 x5_1).f0), .string ((rd_T119 l0 x5_1).f1)], .int .i64 x1_1] ?_; (with_reducible refine (laws_szTag.calls ((rd_T119 l0 x5_1).f0) ((rd_T119 l0 x5_1).f1) x1_1 t102 _ A6.out).mono ?_); rintro e w8 ⟨rfl, hb⟩; refine ⟨_, rfl, ?_⟩; have _ := aM (below_step hbZ hb); clear HB; rename_i HB; (try clear hb)))
         go_ret
         exact ⟨z674d, z5acd⟩
       · rw [if_neg c7] at H
         have c7b0 := nL c7
         clear c7
         have H' := aM H
         clear H
         have p101 : 0 ≤ (x5_1 : Int) := of_decide_eq_true z1200
         have q101 : x5_1 < (l0.length : Int) := of_decide_eq_true z1200
         obtain ⟨ad101, e101, hx101_0, hx101_1⟩ := at_T119 HR0.out x5_1 p101 q101
         cases e101
         replace hx101_0 := (HB.out.cell (World.block_lt_of_cell? w _ hx101_0)).trans hx101_0
         replace hx101_1 := (HB.out.cell (World.block_lt_of_cell? w _ hx101_1)).trans hx101_1
         replace p101 := eq_true p101
         replace q101 := eq_true q101
         go_wp2_with (first | ((with_reducible refine gate_callee (f := 83) rfl ?_); refine gL 23 Tryd.func83 #[.agg #[.string ((rd_T119 l0 x5_1).f0), .string ((rd_T119 l0 x5_1).f1)], .int .i64 x1_1] ?_; (with_reducible refine (laws_szTag.calls ((rd_T119 l0 x5_1).f0) ((rd_T119 l0 x5_1).f1) x1_1 t102 _ A6.out).mono ?_); rintro e w9 ⟨rfl, hb⟩; refine ⟨_, rfl, ?_⟩; have _ := aM (below_step hbZ hb); clear HB; rename_i HB; (try clear hb)))
         go_roundg k1
         case measure => have := HK1.out; omega
         case rel => exact ⟨(t102), (wrap64 (x5_1 + 1)), z4458, z4458, H', ⟨zfb39⟩, ⟨z5acd⟩⟩
     · rw [if_neg c4] at H
       have c4b0 := nL c4
       clear c4
       obtain rfl := Option.some.inj H
       go_wp2
       go_ret
       exact ⟨z674d, z5acd⟩

end Go.Proofs.YtkgmoajdcibafaaDoor.P

-- written by a program of this session's (wip/pp)
namespace Go.Proofs.YtkgmoajdcibafaaDoor.P
open Go.RowKit Go.Proofs.YtkgmoajdcibafaaDoorW.PrintWords Go.Proofs.YtkgmoajdcibafaaDoorW.PrintLast Go.Proofs.YtkgmoajdcibafaaDoorW.PrintMore
attribute [local go_sem] max2_int min2_int max_two min_two max_three min_three max_four min_four str_geq str_gtr str_leq   -- for this text's walks alone
set_option linter.unusedVariables false
set_option linter.unusedSimpArgs false

/-! ### laws_szKey: function 9 -/
def laws_szKey.f (k : Nat) (a0_0 : ByteArray) (l0_1 : List (S119)) (a0_2 : Int) (a1 : Int) : Option (Int) := if (wrap64 (a1 - (a0_0.size : Int))) < 0 then (some (-1)) else ((laws_szTagS.f k l0_1 (wrap64 (a1 - (a0_0.size : Int)))).bind fun t102 => (if t102 < 0 then (some (-1)) else (some t102)))
theorem laws_szKey.mono : ∀ a0 a1 a2 a3 k, LeO (laws_szKey.f k a0 a1 a2 a3) (laws_szKey.f (k + 1) a0 a1 a2 a3) := by
 intro a0 a1 a2 a3 k
 have m0 := @laws_szTagS.mono
 unfold laws_szKey.f
 exact moZ
set_option maxHeartbeats 8000000 in
set_option maxRecDepth 100000 in
theorem laws_szKey.calls (k : Nat) (a0_0 : ByteArray) (A0_1 : Option Addr) (c0_1 : Nat) (l0_1 : List (S119)) (a0_2 : Int) (a1 : Int) (r : Int) (w : World) (hr0_1 : Kd.C k119 w A0_1 l0_1.length l0_1) (hc0_1 : l0_1.length ≤ c0_1) (h : laws_szKey.f k a0_0 l0_1 a0_2 a1 = some r) :
 Calls Tryd.prog 9 #[.agg #[.string a0_0, .slice A0_1 l0_1.length c0_1, .int .i64 a0_2], .int .i64 a1] w fun e w' => e = .returned (.int .i64 r) ∧ Below w.heap.size w w' := by
 have hu27 := Tryd.underlying27
 have HR0_1 := aM hr0_1
 have HC0_1 := aM hc0_1
 clear hr0_1 hc0_1
 have HB := aM (Below.refl w.heap.size w)
 have H : (if (wrap64 (a1 - (a0_0.size : Int))) < 0 then (some (-1)) else ((laws_szTagS.f k l0_1 (wrap64 (a1 - (a0_0.size : Int)))).bind fun t102 => (if t102 < 0 then (some (-1)) else (some t102)))) = some r := h
 clear h
 by_cases c3 : (wrap64 (a1 - (a0_0.size : Int))) < 0
 · rw [if_pos c3] at H
   have c3b0 := dL c3
   clear c3
   obtain rfl := Option.some.inj H
   go_enter Tryd.func9, Tryd.ntmps9
   go_wp2_with (first | ((with_reducible refine gate_dst (N := 2) rfl ?_); refine bX 2 27 #[.string a0_0, .slice A0_1 l0_1.length c0_1, .int .i64 a0_2] ?_; intro gb101 hg w4 hbox hb; have _ := aM (below_step hbZ hb); have _ := aM hbox; have _ := szZ hg; have _ := szZ hg; clear HB; rename_i HB BK101 GW101 GE101; clear hb hbox hg; have hz5 := cellsZ3 BK101.out))
   go_ret
   exact ⟨z674d, zcb41⟩
 · rw [if_neg c3] at H
   have c3b0 := nL c3
   clear c3
   obtain ⟨t102, A6, H⟩ := bS H; try dsimp only at H
   by_cases c7 : t102 < 0
   · rw [if_pos c7] at H
     have c7b0 := dL c7
     clear c7
     obtain rfl := Option.some.inj H
     go_enter Tryd.func9, Tryd.ntmps9
     go_wp2_with (first | ((with_reducible refine gate_dst (N := 2) rfl ?_); refine bX 2 27 #[.string a0_0, .slice A0_1 l0_1.length c0_1, .int .i64 a0_2] ?_; intro gb101 hg w8 hbox hb; have _ := aM (below_step hbZ hb); have _ := aM hbox; have _ := szZ hg; have _ := szZ hg; clear HB; rename_i HB BK101 GW101 GE101; clear hb hbox hg; have hz9 := cellsZ3 BK101.out) | ((with_reducible refine gate_callee (f := 39) rfl ?_); refine gL 15 Tryd.func39 #[.slice A0_1 l0_1.length c0_1, .int .i64 (wrap64 (a1 - (a0_0.size : Int)))] ?_; (with_reducible refine (laws_szTagS.calls k _ _ l0_1 (wrap64 (a1 - (a0_0.size : Int))) t102 _ ?side1 ?side2 A6.out).mono ?_); (case side1 => exact (cZ (Kd.C_below HR0_1.out HB.out))); (case side2 => exact HC0_1.out); rintro e w10 ⟨rfl, hb⟩; refine ⟨_, rfl, ?_⟩; have _ := bB gb101 hb; have _ := aM (below_step hbZ hb); clear BK101 HB; rename_i BK101 HB; (try clear hb)))
     go_ret
     exact ⟨z674d, zcb41⟩
   · rw [if_neg c7] at H
     have c7b0 := nL c7
     clear c7
     obtain rfl := Option.some.inj H
     go_enter Tryd.func9, Tryd.ntmps9
     go_wp2_with (first | ((with_reducible refine gate_dst (N := 2) rfl ?_); refine bX 2 27 #[.string a0_0, .slice A0_1 l0_1.length c0_1, .int .i64 a0_2] ?_; intro gb101 hg w11 hbox hb; have _ := aM (below_step hbZ hb); have _ := aM hbox; have _ := szZ hg; have _ := szZ hg; clear HB; rename_i HB BK101 GW101 GE101; clear hb hbox hg; have hz12 := cellsZ3 BK101.out) | ((with_reducible refine gate_callee (f := 39) rfl ?_); refine gL 15 Tryd.func39 #[.slice A0_1 l0_1.length c0_1, .int .i64 (wrap64 (a1 - (a0_0.size : Int)))] ?_; (with_reducible refine (laws_szTagS.calls k _ _ l0_1 (wrap64 (a1 - (a0_0.size : Int))) t102 _ ?side1 ?side2 A6.out).mono ?_); (case side1 => exact (cZ (Kd.C_below HR0_1.out HB.out))); (case side2 => exact HC0_1.out); rintro e w13 ⟨rfl, hb⟩; refine ⟨_, rfl, ?_⟩; have _ := bB gb101 hb; have _ := aM (below_step hbZ hb); clear BK101 HB; rename_i BK101 HB; (try clear hb)))
     go_ret
     exact ⟨z674d, zcb41⟩

end Go.Proofs.YtkgmoajdcibafaaDoor.P

-- written by a program of this session's (wip/pp)
namespace Go.Proofs.YtkgmoajdcibafaaDoor.P
open Go.RowKit Go.Proofs.YtkgmoajdcibafaaDoorW.PrintWords Go.Proofs.YtkgmoajdcibafaaDoorW.PrintLast Go.Proofs.YtkgmoajdcibafaaDoorW.PrintMore
attribute [local go_sem] max2_int min2_int max_two min_two max_three min_three max_four min_four str_geq str_gtr str_leq   -- for this text's walks alone
set_option linter.unusedVariables false
set_option linter.unusedSimpArgs false

/-! ### laws_szIntS: function 113 -/
def laws_szIntS.f (l0 : List Int) (a1 : Int) : Option (Int) := if (wrap64 (a1 - (l0.length : Int))) < 0 then (some (-1)) else (some (wrap64 (a1 - (l0.length : Int))))
set_option maxHeartbeats 8000000 in
set_option maxRecDepth 100000 in
theorem laws_szIntS.calls (A0 : Option Addr) (c0 : Nat) (l0 : List Int) (a1 : Int) (r : Int) (w : World) (hr0 : Kd.C (Kd.int .i64) w A0 l0.length l0) (hc0 : l0.length ≤ c0) (h : laws_szIntS.f l0 a1 = some r) :
 Calls Tryd.prog 113 #[.slice A0 l0.length c0, .int .i64 a1] w fun e w' => e = .returned (.int .i64 r) ∧ Drawn0 w w' := by
 have HR0 := aM hr0
 have HC0 := aM hc0
 clear hr0 hc0
 have H : (if (wrap64 (a1 - (l0.length : Int))) < 0 then (some (-1)) else (some (wrap64 (a1 - (l0.length : Int))))) = some r := h
 clear h
 by_cases c3 : (wrap64 (a1 - (l0.length : Int))) < 0
 · rw [if_pos c3] at H
   have c3b0 := dL c3
   clear c3
   obtain rfl := Option.some.inj H
   go_enter Tryd.func113, Tryd.ntmps113
   go_wp2
   go_ret
   exact ⟨z4458, za9de⟩
 · rw [if_neg c3] at H
   have c3b0 := nL c3
   clear c3
   obtain rfl := Option.some.inj H
   go_enter Tryd.func113, Tryd.ntmps113
   go_wp2
   go_ret
   exact ⟨z4458, za9de⟩

end Go.Proofs.YtkgmoajdcibafaaDoor.P

-- written by a program of this session's (wip/pp)
namespace Go.Proofs.YtkgmoajdcibafaaDoor.P
open Go.RowKit Go.Proofs.YtkgmoajdcibafaaDoorW.PrintWords Go.Proofs.YtkgmoajdcibafaaDoorW.PrintLast Go.Proofs.YtkgmoajdcibafaaDoorW.PrintMore
attribute [local go_sem] max2_int min2_int max_two min_two max_three min_three max_four min_four str_geq str_gtr str_leq   -- for this text's walks alone
set_option linter.unusedVariables false
set_option linter.unusedSimpArgs false

/-! ### laws_szAgg: function 97 -/
def laws_szAgg.f (a0_0 : Int) (a0_1 : Int) (a0_2 : Int) (a0_3 : Int) (l0_4 : List Int) (a0_5 : Bool) (a1 : Int) : Option (Int) := (laws_szIntS.f l0_4 a1).bind fun t102 => (if t102 < 0 then (some (-1)) else (some t102))
set_option maxHeartbeats 8000000 in
set_option maxRecDepth 100000 in
theorem laws_szAgg.calls (a0_0 : Int) (a0_1 : Int) (a0_2 : Int) (a0_3 : Int) (A0_4 : Option Addr) (c0_4 : Nat) (l0_4 : List Int) (a0_5 : Bool) (a1 : Int) (r : Int) (w : World) (hr0_4 : Kd.C (Kd.int .i64) w A0_4 l0_4.length l0_4) (hc0_4 : l0_4.length ≤ c0_4) (h : laws_szAgg.f a0_0 a0_1 a0_2 a0_3 l0_4 a0_5 a1 = some r) :
 Calls Tryd.prog 97 #[.agg #[.int .i64 a0_0, .int .i64 a0_1, .int .i64 a0_2, .int .i64 a0_3, .slice A0_4 l0_4.length c0_4, .bool a0_5], .int .i64 a1] w fun e w' => e = .returned (.int .i64 r) ∧ Below w.heap.size w w' := by
 have hu92 := Tryd.underlying92
 have HR0_4 := aM hr0_4
 have HC0_4 := aM hc0_4
 clear hr0_4 hc0_4
 have HB := aM (Below.refl w.heap.size w)
 have H : ((laws_szIntS.f l0_4 a1).bind fun t102 => (if t102 < 0 then (some (-1)) else (some t102))) = some r := h
 clear h
 obtain ⟨t102, A3, H⟩ := bS H; try dsimp only at H
 by_cases c4 : t102 < 0
 · rw [if_pos c4] at H
   have c4b0 := dL c4
   clear c4
   obtain rfl := Option.some.inj H
   go_enter Tryd.func97, Tryd.ntmps97
   go_wp2_with (first | ((with_reducible refine gate_dst (N := 2) rfl ?_); refine bX 2 92 #[.int .i64 a0_0, .int .i64 a0_1, .int .i64 a0_2, .int .i64 a0_3, .slice A0_4 l0_4.length c0_4, .bool a0_5] ?_; intro gb101 hg w5 hbox hb; have _ := aM (below_step hbZ hb); have _ := aM hbox; have _ := szZ hg; have _ := szZ hg; clear HB; rename_i HB BK101 GW101 GE101; clear hb hbox hg; have hz6 := cellsZ6 BK101.out) | ((with_reducible refine gate_callee (f := 113) rfl ?_); refine gL 8 Tryd.func113 #[.slice A0_4 l0_4.length c0_4, .int .i64 a1] ?_; (with_reducible refine (laws_szIntS.calls _ _ l0_4 a1 t102 _ ?side1 ?side2 A3.out).mono ?_); (case side1 => exact (cZ (Kd.C_below HR0_4.out HB.out))); (case side2 => exact HC0_4.out); rintro e w' ⟨rfl, ⟨nd, rfl⟩⟩; refine ⟨_, rfl, ?_⟩))
   go_ret
   exact ⟨z674d, zcb41⟩
 · rw [if_neg c4] at H
   have c4b0 := nL c4
   clear c4
   obtain rfl := Option.some.inj H
   go_enter Tryd.func97, Tryd.ntmps97
   go_wp2_with (first | ((with_reducible refine gate_dst (N := 2) rfl ?_); refine bX 2 92 #[.int .i64 a0_0, .int .i64 a0_1, .int .i64 a0_2, .int .i64 a0_3, .slice A0_4 l0_4.length c0_4, .bool a0_5] ?_; intro gb101 hg w7 hbox hb; have _ := aM (below_step hbZ hb); have _ := aM hbox; have _ := szZ hg; have _ := szZ hg; clear HB; rename_i HB BK101 GW101 GE101; clear hb hbox hg; have hz8 := cellsZ6 BK101.out) | ((with_reducible refine gate_callee (f := 113) rfl ?_); refine gL 8 Tryd.func113 #[.slice A0_4 l0_4.length c0_4, .int .i64 a1] ?_; (with_reducible refine (laws_szIntS.calls _ _ l0_4 a1 t102 _ ?side1 ?side2 A3.out).mono ?_); (case side1 => exact (cZ (Kd.C_below HR0_4.out HB.out))); (case side2 => exact HC0_4.out); rintro e w' ⟨rfl, ⟨nd, rfl⟩⟩; refine ⟨_, rfl, ?_⟩))
   go_ret
   exact ⟨z674d, zcb41⟩

end Go.Proofs.YtkgmoajdcibafaaDoor.P

-- written by a program of this session's (wip/pp)
namespace Go.Proofs.YtkgmoajdcibafaaDoor.P
open Go.RowKit Go.Proofs.YtkgmoajdcibafaaDoorW.PrintWords Go.Proofs.YtkgmoajdcibafaaDoorW.PrintLast Go.Proofs.YtkgmoajdcibafaaDoorW.PrintMore
attribute [local go_sem] max2_int min2_int max_two min_two max_three min_three max_four min_four str_geq str_gtr str_leq   -- for this text's walks alone
set_option linter.unusedVariables false
set_option linter.unusedSimpArgs false

/-! ### laws_szWin: function 82 -/
def laws_szWin.f (k : Nat) (a0_0 : ByteArray) (l0_1 : List (S119)) (a0_2 : Int) (a0_3 : Int) (a0_4 : Int) (a0_5 : Int) (a0_6 : Int) (l0_7 : List Int) (a0_8 : Bool) (a0_9 : Int) (a0_10 : Bool) (a1 : Int) : Option (Int) := (laws_szKey.f k a0_0 l0_1 a0_2 a1).bind fun t102 => (if t102 < 0 then (some (-1)) else ((laws_szAgg.f a0_3 a0_4 a0_5 a0_6 l0_7 a0_8 t102).bind fun t103 => (if t103 < 0 then (some (-1)) else (some t103))))
theorem laws_szWin.mono : ∀ a0 a1 a2 a3 a4 a5 a6 a7 a8 a9 a10 a11 k, LeO (laws_szWin.f k a0 a1 a2 a3 a4 a5 a6 a7 a8 a9 a10 a11) (laws_szWin.f (k + 1) a0 a1 a2 a3 a4 a5 a6 a7 a8 a9 a10 a11) := by
 intro a0 a1 a2 a3 a4 a5 a6 a7 a8 a9 a10 a11 k
 have m0 := @laws_szKey.mono
 unfold laws_szWin.f
 exact moZ
set_option maxHeartbeats 8000000 in
set_option maxRecDepth 100000 in
theorem laws_szWin.calls (k : Nat) (a0_0 : ByteArray) (A0_1 : Option Addr) (c0_1 : Nat) (l0_1 : List (S119)) (a0_2 : Int) (a0_3 : Int) (a0_4 : Int) (a0_5 : Int) (a0_6 : Int) (A0_7 : Option Addr) (c0_7 : Nat) (l0_7 : List Int) (a0_8 : Bool) (a0_9 : Int) (a0_10 : Bool) (a1 : Int) (r : Int) (w : World) (hr0_1 : Kd.C k119 w A0_1 l0_1.length l0_1) (hc0_1 : l0_1.length ≤ c0_1) (hr0_7 : Kd.C (Kd.int .i64) w A0_7 l0_7.length l0_7) (hc0_7 : l0_7.length ≤ c0_7) (h : laws_szWin.f k a0_0 l0_1 a0_2 a0_3 a0_4 a0_5 a0_6 l0_7 a0_8 a0_9 a0_10 a1 = some r) :
 Calls Tryd.prog 82 #[.agg #[.string a0_0, .slice A0_1 l0_1.length c0_1, .int .i64 a0_2, .int .i64 a0_3, .int .i64 a0_4, .int .i64 a0_5, .int .i64 a0_6, .slice A0_7 l0_7.length c0_7, .bool a0_8, .int .i64 a0_9, .bool a0_10], .int .i64 a1] w fun e w' => e = .returned (.int .i64 r) ∧ Below w.heap.size w w' := by
 have hu116 := Tryd.underlying116
 have hu27 := Tryd.underlying27
 have hu92 := Tryd.underlying92
 have HR0_1 := aM hr0_1
 have HC0_1 := aM hc0_1
 clear hr0_1 hc0_1
 have HR0_7 := aM hr0_7
 have HC0_7 := aM hc0_7
 clear hr0_7 hc0_7
 have HB := aM (Below.refl w.heap.size w)
 have H : ((laws_szKey.f k a0_0 l0_1 a0_2 a1).bind fun t102 => (if t102 < 0 then (some (-1)) else ((laws_szAgg.f a0_3 a0_4 a0_5 a0_6 l0_7 a0_8 t102).bind fun t103 => (if t103 < 0 then (some (-1)) else (some t103))))) = some r := h
 clear h
 obtain ⟨t102, A3, H⟩ := bS H; try dsimp only at H
 by_cases c4 : t102 < 0
 · rw [if_pos c4] at H
   have c4b0 := dL c4
   clear c4
   obtain rfl := Option.some.inj H
   go_enter Tryd.func82, Tryd.ntmps82
   go_wp2_with (first | ((with_reducible refine gate_dst (N := 2) rfl ?_); refine bX 2 116 #[.string a0_0, .slice A0_1 l0_1.length c0_1, .int .i64 a0_2, .int .i64 a0_3, .int .i64 a0_4, .int .i64 a0_5, .int .i64 a0_6, .slice A0_7 l0_7.length c0_7, .bool a0_8, .int .i64 a0_9, .bool a0_10] ?_; intro gb101 hg w5 hbox hb; have _ := aM (below_step hbZ hb); have _ := aM hbox; have _ := szZ hg; have _ := szZ hg; clear HB; rename_i HB BK101 GW101 GE101; clear hb hbox hg; have hz6 := cellsZ11 BK101.out) | ((with_reducible refine gate_callee (f := 9) rfl ?_); refine gL 8 Tryd.func9 #[.agg #[.string a0_0, .slice A0_1 l0_1.length c0_1, .int .i64 a0_2], .int .i64 a1] ?_; (with_reducible refine (laws_szKey.calls k a0_0 _ _ l0_1 a0_2 a1 t102 _ ?side1 ?side2 A3.out).mono ?_); (case side1 => exact (cZ (Kd.C_below HR0_1.out HB.out))); (case side2 => exact HC0_1.out); rintro e w7 ⟨rfl, hb⟩; refine ⟨_, rfl, ?_⟩; have _ := bB gb101 hb; have _ := aM (below_step hbZ hb); clear BK101 HB; rename_i BK101 HB; (try clear hb)))
   go_ret
   exact ⟨z674d, zcb41⟩
 · rw [if_neg c4] at H
   have c4b0 := nL c4
   clear c4
   obtain ⟨t103, A8, H⟩ := bS H; try dsimp only at H
   by_cases c9 : t103 < 0
   · rw [if_pos c9] at H
     have c9b0 := dL c9
     clear c9
     obtain rfl := Option.some.inj H
     go_enter Tryd.func82, Tryd.ntmps82
     go_wp2_with (first | ((with_reducible refine gate_dst (N := 2) rfl ?_); refine bX 2 116 #[.string a0_0, .slice A0_1 l0_1.length c0_1, .int .i64 a0_2, .int .i64 a0_3, .int .i64 a0_4, .int .i64 a0_5, .int .i64 a0_6, .slice A0_7 l0_7.length c0_7, .bool a0_8, .int .i64 a0_9, .bool a0_10] ?_; intro gb101 hg w10 hbox hb; have _ := aM (below_step hbZ hb); have _ := aM hbox; have _ := szZ hg; have _ := szZ hg; clear HB; rename_i HB BK101 GW101 GE101; clear hb hbox hg; have hz11 := cellsZ11 BK101.out) | ((with_reducible refine gate_callee (f := 9) rfl ?_); refine gL 8 Tryd.func9 #[.agg #[.string a0_0, .slice A0_1 l0_1.length c0_1, .int .i64 a0_2], .int .i64 a1] ?_; (with_reducible refine (laws_szKey.calls k a0_0 _ _ l0_1 a0_2 a1 t102 _ ?side1 ?side2 A3.out).mono ?_); (case side1 => exact (cZ (Kd.C_below HR0_1.out HB.out))); (case side2 => exact HC0_1.out); rintro e w12 ⟨rfl, hb⟩; refine ⟨_, rfl, ?_⟩; have _ := bB gb101 hb; have _ := aM (below_step hbZ hb); clear BK101 HB; rename_i BK101 HB; (try clear hb); have hz13 := cellsZ11 BK101.out) | ((with_reducible refine gate_callee (f := 97) rfl ?_); refine gL 14 Tryd.func97 #[.agg #[.int .i64 a0_3, .int .i64 a0_4, .int .i64 a0_5, .int .i64 a0_6, .slice A0_7 l0_7.length c0_7, .bool a0_8], .int .i64 t102] ?_; (with_reducible refine (laws_szAgg.calls a0_3 a0_4 a0_5 a0_6 _ _ l0_7 a0_8 t102 t103 _ ?side1 ?side2 A8.out).mono ?_); (case side1 => exact (cZ (Kd.C_below HR0_7.out HB.out))); (case side2 => exact HC0_7.out); rintro e w14 ⟨rfl, hb⟩; refine ⟨_, rfl, ?_⟩; have _ := bB gb101 hb; have _ := aM (below_step hbZ hb); clear BK101 HB; rename_i BK101 HB; (try clear hb)))
     go_ret
     exact ⟨z674d, zcb41⟩
   · rw [if_neg c9] at H
     have c9b0 := nL c9
     clear c9
     obtain rfl := Option.some.inj H
     go_enter Tryd.func82, Tryd.ntmps82
     go_wp2_with (first | ((with_reducible refine gate_dst (N := 2) rfl ?_); refine bX 2 116 #[.string a0_0, .slice A0_1 l0_1.length c0_1, .int .i64 a0_2, .int .i64 a0_3, .int .i64 a0_4, .int .i64 a0_5, .int .i64 a0_6, .slice A0_7 l0_7.length c0_7, .bool a0_8, .int .i64 a0_9, .bool a0_10] ?_; intro gb101 hg w15 hbox hb; have _ := aM (below_step hbZ hb); have _ := aM hbox; have _ := szZ hg; have _ := szZ hg; clear HB; rename_i HB BK101 GW101 GE101; clear hb hbox hg; have hz16 := cellsZ11 BK101.out) | ((with_reducible refine gate_callee (f := 9) rfl ?_); refine gL 8 Tryd.func9 #[.agg #[.string a0_0, .slice A0_1 l0_1.length c0_1, .int .i64 a0_2], .int .i64 a1] ?_; (with_reducible refine (laws_szKey.calls k a0_0 _ _ l0_1 a0_2 a1 t102 _ ?side1 ?side2 A3.out).mono ?_); (case side1 => exact (cZ (Kd.C_below HR0_1.out HB.out))); (case side2 => exact HC0_1.out); rintro e w17 ⟨rfl, hb⟩; refine ⟨_, rfl, ?_⟩; have _ := bB gb101 hb; have _ := aM (below_step hbZ hb); clear BK101 HB; rename_i BK101 HB; (try clear hb); have hz18 := cellsZ11 BK101.out) | ((with_reducible refine gate_callee (f := 97) rfl ?_); refine gL 14 Tryd.func97 #[.agg #[.int .i64 a0_3, .int .i64 a0_4, .int .i64 a0_5, .int .i64 a0_6, .slice A0_7 l0_7.length c0_7, .bool a0_8], .int .i64 t102] ?_; (with_reducible refine (laws_szAgg.calls a0_3 a0_4 a0_5 a0_6 _ _ l0_7 a0_8 t102 t103 _ ?side1 ?side2 A8.out).mono ?_); (case side1 => exact (cZ (Kd.C_below HR0_7.out HB.out))); (case side2 => exact HC0_7.out); rintro e w19 ⟨rfl, hb⟩; refine ⟨_, rfl, ?_⟩; have _ := bB gb101 hb; have _ := aM (below_step hbZ hb); clear BK101 HB; rename_i BK101 HB; (try clear hb)))
     go_ret
     exact ⟨z674d, zcb41⟩

end Go.Proofs.YtkgmoajdcibafaaDoor.P

-- written by a program of this session's (wip/pp)
namespace Go.Proofs.YtkgmoajdcibafaaDoor.P
open Go.RowKit Go.Proofs.YtkgmoajdcibafaaDoorW.PrintWords Go.Proofs.YtkgmoajdcibafaaDoorW.PrintLast Go.Proofs.YtkgmoajdcibafaaDoorW.PrintMore
attribute [local go_sem] max2_int min2_int max_two min_two max_three min_three max_four min_four str_geq str_gtr str_leq   -- for this text's walks alone
set_option linter.unusedVariables false
set_option linter.unusedSimpArgs false

/-! ### laws_szWinS: function 38 -/
def laws_szWinS.l0 : Nat → List (S116) → Int → Int → Option (Int)
 | 0, _, _, _ => none
 | k + 1, x0, x1, x5 => if x5 < (x0.length : Int) then (if 0 ≤ x5 then ((laws_szWin.f k ((rd_T116 x0 x5).f0.f0) ((rd_T116 x0 x5).f0.f1) ((rd_T116 x0 x5).f0.f2) ((rd_T116 x0 x5).f1.f0) ((rd_T116 x0 x5).f1.f1) ((rd_T116 x0 x5).f1.f2) ((rd_T116 x0 x5).f1.f3) ((rd_T116 x0 x5).f1.f4) ((rd_T116 x0 x5).f1.f5) ((rd_T116 x0 x5).f2) ((rd_T116 x0 x5).f3) x1).bind fun t102 => (if t102 < 0 then (some (-1)) else (laws_szWinS.l0 k x0 t102 (wrap64 (x5 + 1))))) else (none)) else (some x1)
def laws_szWinS.f (k : Nat) (l0 : List (S116)) (a1 : Int) : Option (Int) := if (wrap64 (a1 - (l0.length : Int))) < 0 then (some (-1)) else (laws_szWinS.l0 k l0 (wrap64 (a1 - (l0.length : Int))) 0)
theorem laws_szWinS.mono_l : ∀ k, (∀ y0 y1 y2, LeO (laws_szWinS.l0 k y0 y1 y2) (laws_szWinS.l0 (k + 1) y0 y1 y2))
 | 0 => fun _ _ _ r h => by simp [laws_szWinS.l0] at h
 | k + 1 => by
  have ih0 := laws_szWinS.mono_l k; have m0 := @laws_szWin.mono
  · intro y0 y1 y2
    unfold laws_szWinS.l0
    exact moZ
theorem laws_szWinS.mono : ∀ a0 a1 k, LeO (laws_szWinS.f k a0 a1) (laws_szWinS.f (k + 1) a0 a1) := by
 intro a0 a1 k
 have ih0 := laws_szWinS.mono_l k
 have m0 := @laws_szWin.mono
 unfold laws_szWinS.f
 exact moZ
set_option maxHeartbeats 8000000 in
set_option maxRecDepth 100000 in
theorem laws_szWinS.calls (k : Nat) (A0 : Option Addr) (c0 : Nat) (l0 : List (S116)) (a1 : Int) (r : Int) (w : World) (hr0 : Kd.C k116 w A0 l0.length l0) (hc0 : l0.length ≤ c0) (h : laws_szWinS.f k l0 a1 = some r) :
 Calls Tryd.prog 38 #[.slice A0 l0.length c0, .int .i64 a1] w fun e w' => e = .returned (.int .i64 r) ∧ Below w.heap.size w w' := by
 have hu116 := Tryd.underlying116
 have HR0 := aM hr0
 have HC0 := aM hc0
 clear hr0 hc0
 have HB := aM (Below.refl w.heap.size w)
 have H : (if (wrap64 (a1 - (l0.length : Int))) < 0 then (some (-1)) else (laws_szWinS.l0 k l0 (wrap64 (a1 - (l0.length : Int))) 0)) = some r := h
 clear h
 by_cases c3 : (wrap64 (a1 - (l0.length : Int))) < 0
 · rw [if_pos c3] at H
   have c3b0 := dL c3
   clear c3
   obtain rfl := Option.some.inj H
   go_enter Tryd.func38, Tryd.ntmps38
   go_wp2
   go_ret
   exact ⟨z674d, z5acd⟩
 · rw [if_neg c3] at H
   have c3b0 := nL c3
   clear c3
   have H' := aM H
   clear H
   go_enter Tryd.func38, Tryd.ntmps38
   go_wp2
   go_loopg [1, 5] k (fun kq v1 v5 w' => ∃ (x1_1 : Int) (x5_1 : Int), v1 = .int .i64 x1_1 ∧ v5 = .int .i64 x5_1 ∧ Aside0 (laws_szWinS.l0 kq l0 x1_1 x5_1 = some r) ∧ Aside0 (kq ≤ k) ∧ Aside0 (Below w.heap.size w w'))
   case atStart => exact ⟨(wrap64 (a1 - (l0.length : Int))), (0), z4458, z4458, H', ⟨Nat.le_refl _⟩, ⟨z5acd⟩⟩
   case round =>
    clear H'
    (try clear c3b0)
    obtain ⟨x1_1, x5_1, rfl, rfl, HA, HK1, HB⟩ := hrel
    cases gk with
    | zero => exact absurd HA.out (by simp [laws_szWinS.l0])
    | succ k1 =>
     have H := HA.out
     clear HA
     simp only [laws_szWinS.l0] at H
     by_cases c4 : x5_1 < (l0.length : Int)
     · rw [if_pos c4] at H
       have c4b0 := dL c4
       clear c4
       obtain ⟨c5b0, H⟩ := sE H
       obtain ⟨t102, A6, H⟩ := bS H; try dsimp only at H
       by_cases c7 : t102 < 0
       · rw [if_pos c7] at H
         have c7b0 := dL c7
         clear c7
         obtain rfl := Option.some.inj H
         have p101 : 0 ≤ (x5_1 : Int) := of_decide_eq_true z1200
         have q101 : x5_1 < (l0.length : Int) := of_decide_eq_true z1200
         obtain ⟨ad101, A101_1, c101_1, A101_7, c101_7, e101, hx101_0, hx101_1, hx101_2, hx101_3, hx101_4, hx101_5, hx101_6, hx101_7, hx101_8, hx101_9, hx101_10, hl101_1, hi101_1, hl101_7, hi101_7⟩ := at_T116 HR0.out x5_1 p101 q101
         cases e101
         have TW101_1 := aM hx101_1
         have TW101_7 := aM hx101_7
         replace hx101_0 := (HB.out.cell (World.block_lt_of_cell? w _ hx101_0)).trans hx101_0
         replace hx101_1 := (HB.out.cell (World.block_lt_of_cell? w _ hx101_1)).trans hx101_1
         replace hx101_2 := (HB.out.cell (World.block_lt_of_cell? w _ hx101_2)).trans hx101_2
         replace hx101_3 := (HB.out.cell (World.block_lt_of_cell? w _ hx101_3)).trans hx101_3
         replace hx101_4 := (HB.out.cell (World.block_lt_of_cell? w _ hx101_4)).trans hx101_4
         replace hx101_5 := (HB.out.cell (World.block_lt_of_cell? w _ hx101_5)).trans hx101_5
         replace hx101_6 := (HB.out.cell (World.block_lt_of_cell? w _ hx101_6)).trans hx101_6
         replace hx101_7 := (HB.out.cell (World.block_lt_of_cell? w _ hx101_7)).trans hx101_7
         replace hx101_8 := (HB.out.cell (World.block_lt_of_cell? w _ hx101_8)).trans hx101_8
         replace hx101_9 := (HB.out.cell (World.block_lt_of_cell? w _ hx101_9)).trans hx101_9
         replace hx101_10 := (HB.out.cell (World.block_lt_of_cell? w _ hx101_10)).trans hx101_10
         have HR101_1 := aM hi101_1
         have HC101_1 := aM hl101_1
         clear hi101_1 hl101_1
         have HR101_7 := aM hi101_7
         have HC101_7 := aM hl101_7
         clear hi101_7 hl101_7
         replace p101 := eq_true p101
         replace q101 := eq_true q101
         go_wp2_with (first | ((with_reducible refine gate_callee (f := 82) rfl ?_); refine gL 23 Tryd.func82 #[.agg #[.string ((rd_T116 l0 x5_1).f0.f0), .slice A101_1 ((rd_T116 l0 x5_1).f0.f1).length c101_1, .int .i64 ((rd_T116 l0 x5_1).f0.f2), .int .i64 ((rd_T116 l0 x5_1).f1.f0), .int .i64 ((rd_T116 l0 x5_1).f1.f1), .int .i64 ((rd_T116 l0 x5_1).f1.f2), .int .i64 ((rd_T116 l0 x5_1).f1.f3), .slice A101_7 ((rd_T116 l0 x5_1).f1.f4).length c101_7, .bool ((rd_T116 l0 x5_1).f1.f5), .int .i64 ((rd_T116 l0 x5_1).f2), .bool ((rd_T116 l0 x5_1).f3)], .int .i64 x1_1] ?_; (with_reducible refine (laws_szWin.calls k1 ((rd_T116 l0 x5_1).f0.f0) _ _ ((rd_T116 l0 x5_1).f0.f1) ((rd_T116 l0 x5_1).f0.f2) ((rd_T116 l0 x5_1).f1.f0) ((rd_T116 l0 x5_1).f1.f1) ((rd_T116 l0 x5_1).f1.f2) ((rd_T116 l0 x5_1).f1.f3) _ _ ((rd_T116 l0 x5_1).f1.f4) ((rd_T116 l0 x5_1).f1.f5) ((rd_T116 l0 x5_1).f2) ((rd_T116 l0 x5_1).f3) x1_1 t102 _ ?side1 ?side2 ?side3 ?side4 A6.out).mono ?_); (case side1 => exact (cZ (Kd.C_below HR101_1.out HB.out))); (case side2 => exact HC101_1.out); (case side3 => exact (cZ (Kd.C_below HR101_7.out HB.out))); (case side4 => exact HC101_7.out); rintro e w8 ⟨rfl, hb⟩; refine ⟨_, rfl, ?_⟩; have _ := aM (below_step hbZ hb); clear HB; rename_i HB; (try clear hb)))
         go_ret
         exact ⟨z674d, z5acd⟩
       · rw [if_neg c7] at H
         have c7b0 := nL c7
         clear c7
         have H' := aM H
         clear H
         have p101 : 0 ≤ (x5_1 : Int) := of_decide_eq_true z1200
         have q101 : x5_1 < (l0.length : Int) := of_decide_eq_true z1200
         obtain ⟨ad101, A101_1, c101_1, A101_7, c101_7, e101, hx101_0, hx101_1, hx101_2, hx101_3, hx101_4, hx101_5, hx101_6, hx101_7, hx101_8, hx101_9, hx101_10, hl101_1, hi101_1, hl101_7, hi101_7⟩ := at_T116 HR0.out x5_1 p101 q101
         cases e101
         have TW101_1 := aM hx101_1
         have TW101_7 := aM hx101_7
         replace hx101_0 := (HB.out.cell (World.block_lt_of_cell? w _ hx101_0)).trans hx101_0
         replace hx101_1 := (HB.out.cell (World.block_lt_of_cell? w _ hx101_1)).trans hx101_1
         replace hx101_2 := (HB.out.cell (World.block_lt_of_cell? w _ hx101_2)).trans hx101_2
         replace hx101_3 := (HB.out.cell (World.block_lt_of_cell? w _ hx101_3)).trans hx101_3
         replace hx101_4 := (HB.out.cell (World.block_lt_of_cell? w _ hx101_4)).trans hx101_4
         replace hx101_5 := (HB.out.cell (World.block_lt_of_cell? w _ hx101_5)).trans hx101_5
         replace hx101_6 := (HB.out.cell (World.block_lt_of_cell? w _ hx101_6)).trans hx101_6
         replace hx101_7 := (HB.out.cell (World.block_lt_of_cell? w _ hx101_7)).trans hx101_7
         replace hx101_8 := (HB.out.cell (World.block_lt_of_cell? w _ hx101_8)).trans hx101_8
         replace hx101_9 := (HB.out.cell (World.block_lt_of_cell? w _ hx101_9)).trans hx101_9
         replace hx101_10 := (HB.out.cell (World.block_lt_of_cell? w _ hx101_10)).trans hx101_10
         have HR101_1 := aM hi101_1
         have HC101_1 := aM hl101_1
         clear hi101_1 hl101_1
         have HR101_7 := aM hi101_7
         have HC101_7 := aM hl101_7
         clear hi101_7 hl101_7
         replace p101 := eq_true p101
         replace q101 := eq_true q101
         go_wp2_with (first | ((with_reducible refine gate_callee (f := 82) rfl ?_); refine gL 23 Tryd.func82 #[.agg #[.string ((rd_T116 l0 x5_1).f0.f0), .slice A101_1 ((rd_T116 l0 x5_1).f0.f1).length c101_1, .int .i64 ((rd_T116 l0 x5_1).f0.f2), .int .i64 ((rd_T116 l0 x5_1).f1.f0), .int .i64 ((rd_T116 l0 x5_1).f1.f1), .int .i64 ((rd_T116 l0 x5_1).f1.f2), .int .i64 ((rd_T116 l0 x5_1).f1.f3), .slice A101_7 ((rd_T116 l0 x5_1).f1.f4).length c101_7, .bool ((rd_T116 l0 x5_1).f1.f5), .int .i64 ((rd_T116 l0 x5_1).f2), .bool ((rd_T116 l0 x5_1).f3)], .int .i64 x1_1] ?_; (with_reducible refine (laws_szWin.calls k1 ((rd_T116 l0 x5_1).f0.f0) _ _ ((rd_T116 l0 x5_1).f0.f1) ((rd_T116 l0 x5_1).f0.f2) ((rd_T116 l0 x5_1).f1.f0) ((rd_T116 l0 x5_1).f1.f1) ((rd_T116 l0 x5_1).f1.f2) ((rd_T116 l0 x5_1).f1.f3) _ _ ((rd_T116 l0 x5_1).f1.f4) ((rd_T116 l0 x5_1).f1.f5) ((rd_T116 l0 x5_1).f2) ((rd_T116 l0 x5_1).f3) x1_1 t102 _ ?side1 ?side2 ?side3 ?side4 A6.out).mono ?_); (case side1 => exact (cZ (Kd.C_below HR101_1.out HB.out))); (case side2 => exact HC101_1.out); (case side3 => exact (cZ (Kd.C_below HR101_7.out HB.out))); (case side4 => exact HC101_7.out); rintro e w9 ⟨rfl, hb⟩; refine ⟨_, rfl, ?_⟩; have _ := aM (below_step hbZ hb); clear HB; rename_i HB; (try clear hb)))
         go_roundg k1
         case measure => have := HK1.out; omega
         case rel => exact ⟨(t102), (wrap64 (x5_1 + 1)), z4458, z4458, H', ⟨zfb39⟩, ⟨z5acd⟩⟩
     · rw [if_neg c4] at H
       have c4b0 := nL c4
       clear c4
       obtain rfl := Option.some.inj H
       go_wp2
       go_ret
       exact ⟨z674d, z5acd⟩

end Go.Proofs.YtkgmoajdcibafaaDoor.P

-- written by a program of this session's (wip/pp)
namespace Go.Proofs.YtkgmoajdcibafaaDoor.P
open Go.RowKit Go.Proofs.YtkgmoajdcibafaaDoorW.PrintWords Go.Proofs.YtkgmoajdcibafaaDoorW.PrintLast Go.Proofs.YtkgmoajdcibafaaDoorW.PrintMore
attribute [local go_sem] max2_int min2_int max_two min_two max_three min_three max_four min_four str_geq str_gtr str_leq   -- for this text's walks alone
set_option linter.unusedVariables false
set_option linter.unusedSimpArgs false

/-! ### laws_szBoard: function 8 -/
def laws_szBoard.f (k : Nat) (a0_0 : Int) (a0_1 : Int) (a0_2 : Int) (l0_3 : List (S116)) (a1 : Int) : Option (Int) := (laws_szWinS.f k l0_3 a1).bind fun t102 => (if t102 < 0 then (some (-1)) else (some t102))
theorem laws_szBoard.mono : ∀ a0 a1 a2 a3 a4 k, LeO (laws_szBoard.f k a0 a1 a2 a3 a4) (laws_szBoard.f (k + 1) a0 a1 a2 a3 a4) := by
 intro a0 a1 a2 a3 a4 k
 have m0 := @laws_szWinS.mono
 unfold laws_szBoard.f
 exact moZ
set_option maxHeartbeats 8000000 in
set_option maxRecDepth 100000 in
theorem laws_szBoard.calls (k : Nat) (a0_0 : Int) (a0_1 : Int) (a0_2 : Int) (A0_3 : Option Addr) (c0_3 : Nat) (l0_3 : List (S116)) (a1 : Int) (r : Int) (w : World) (hr0_3 : Kd.C k116 w A0_3 l0_3.length l0_3) (hc0_3 : l0_3.length ≤ c0_3) (h : laws_szBoard.f k a0_0 a0_1 a0_2 l0_3 a1 = some r) :
 Calls Tryd.prog 8 #[.agg #[.int .i64 a0_0, .int .i64 a0_1, .int .i64 a0_2, .slice A0_3 l0_3.length c0_3], .int .i64 a1] w fun e w' => e = .returned (.int .i64 r) ∧ Below w.heap.size w w' := by
 have hu24 := Tryd.underlying24
 have HR0_3 := aM hr0_3
 have HC0_3 := aM hc0_3
 clear hr0_3 hc0_3
 have HB := aM (Below.refl w.heap.size w)
 have H : ((laws_szWinS.f k l0_3 a1).bind fun t102 => (if t102 < 0 then (some (-1)) else (some t102))) = some r := h
 clear h
 obtain ⟨t102, A3, H⟩ := bS H; try dsimp only at H
 by_cases c4 : t102 < 0
 · rw [if_pos c4] at H
   have c4b0 := dL c4
   clear c4
   obtain rfl := Option.some.inj H
   go_enter Tryd.func8, Tryd.ntmps8
   go_wp2_with (first | ((with_reducible refine gate_dst (N := 2) rfl ?_); refine bX 2 24 #[.int .i64 a0_0, .int .i64 a0_1, .int .i64 a0_2, .slice A0_3 l0_3.length c0_3] ?_; intro gb101 hg w5 hbox hb; have _ := aM (below_step hbZ hb); have _ := aM hbox; have _ := szZ hg; have _ := szZ hg; clear HB; rename_i HB BK101 GW101 GE101; clear hb hbox hg; have hz6 := cellsZ4 BK101.out) | ((with_reducible refine gate_callee (f := 38) rfl ?_); refine gL 8 Tryd.func38 #[.slice A0_3 l0_3.length c0_3, .int .i64 a1] ?_; (with_reducible refine (laws_szWinS.calls k _ _ l0_3 a1 t102 _ ?side1 ?side2 A3.out).mono ?_); (case side1 => exact (cZ (Kd.C_below HR0_3.out HB.out))); (case side2 => exact HC0_3.out); rintro e w7 ⟨rfl, hb⟩; refine ⟨_, rfl, ?_⟩; have _ := bB gb101 hb; have _ := aM (below_step hbZ hb); clear BK101 HB; rename_i BK101 HB; (try clear hb)))
   go_ret
   exact ⟨z674d, zcb41⟩
 · rw [if_neg c4] at H
   have c4b0 := nL c4
   clear c4
   obtain rfl := Option.some.inj H
   go_enter Tryd.func8, Tryd.ntmps8
   go_wp2_with (first | ((with_reducible refine gate_dst (N := 2) rfl ?_); refine bX 2 24 #[.int .i64 a0_0, .int .i64 a0_1, .int .i64 a0_2, .slice A0_3 l0_3.length c0_3] ?_; intro gb101 hg w8 hbox hb; have _ := aM (below_step hbZ hb); have _ := aM hbox; have _ := szZ hg; have _ := szZ hg; clear HB; rename_i HB BK101 GW101 GE101; clear hb hbox hg; have hz9 := cellsZ4 BK101.out) | ((with_reducible refine gate_callee (f := 38) rfl ?_); refine gL 8 Tryd.func38 #[.slice A0_3 l0_3.length c0_3, .int .i64 a1] ?_; (with_reducible refine (laws_szWinS.calls k _ _ l0_3 a1 t102 _ ?side1 ?side2 A3.out).mono ?_); (case side1 => exact (cZ (Kd.C_below HR0_3.out HB.out))); (case side2 => exact HC0_3.out); rintro e w10 ⟨rfl, hb⟩; refine ⟨_, rfl, ?_⟩; have _ := bB gb101 hb; have _ := aM (below_step hbZ hb); clear BK101 HB; rename_i BK101 HB; (try clear hb)))
   go_ret
   exact ⟨z674d, zcb41⟩

end Go.Proofs.YtkgmoajdcibafaaDoor.P

/- laws.FnExactWinOf: its walk, over what its callees answer. No conditions of its own. -/
namespace Go.Proofs.YtkgmoajdcibafaaDoor.P
open Go.RowKit Go.Proofs.YtkgmoajdcibafaaDoorW.PrintWords Go.Proofs.YtkgmoajdcibafaaDoorW.PrintLast Go.Proofs.YtkgmoajdcibafaaDoorW.PrintMore
set_option linter.unusedVariables false
set_option linter.unusedSimpArgs false
/-- What the callees answer. -/
def laws_FnExactWinOf.Ok (k : Nat) (a0_0 : Int) (a0_1 : Int) (a0_2 : Int) (l0_3 : List S116) (a1_0 : ByteArray) (l1_1 : List S119) (a1_2 : Int) : Prop := ∃ q1 : Int, laws_szBoard.f k a0_0 a0_1 a0_2 l0_3 1048576 = some q1 ∧ (q1 < 0 ∨ (0 ≤ q1 ∧ ∃ q2 : Int, laws_szKey.f k a1_0 l1_1 a1_2 q1 = some q2 ∧ (q2 < 0 ∨ (0 ≤ q2 ∧ ∃ (q3 : Int) (q4 : Int) (q5 : Int) (q6 : List (S37)) (q7 : ByteArray) (q8 : List (S123)) (q9 : Int) (q10 : ByteArray) (q11 : List (S123)) (q12 : Int) (q13 : Int) (q14 : Int) (q15 : Int) (q16 : Int) (q17 : List Int) (q18 : Bool) (q19 : Int) (q20 : Bool) (q21 : Bool) (q22 : Int) (q23 : List S37) (q24 : Int) (q25 : List (S123)) (q26 : Int) (q27 : List (S123)) (q28 : List Int), laws_toBoard.f k a0_0 a0_1 a0_2 l0_3 = some (q3, q4, q5, q6) ∧ laws_toKey.f k a1_0 l1_1 a1_2 = some (q7, q8, q9) ∧ spec_WinOf.f k q3 q4 q5 q6 q7 q8 q9 = some (q10, q11, q12, q13, q14, q15, q16, q17, q18, q19, q20, q21) ∧ impl_WinOf.f k q3 q4 q5 q6 q7 q8 q9 = some (q10, q11, q12, q13, q14, q15, q16, q17, q18, q19, q20, q21) ∧ laws_eqWin.f k q10 q11 q12 q13 q14 q15 q16 q17 q18 q19 q20 q10 q11 q12 q13 q14 q15 q16 q17 q18 q19 q20 = some true ∧ laws_eqBoard.f k q3 q4 q5 q6 q3 q4 q5 q6 = some true ∧ laws_eqKey.f k q7 q8 q9 q7 q8 q9 = some true ∧ laws_markWinS.f k q6 1 = some (q22, q23) ∧ laws_markKey.f k q7 q8 q9 q22 = some (q24, q25) ∧ laws_markWin.f k q10 q11 q12 q13 q14 q15 q16 q17 q18 q19 q20 1 = some (q26, q27, q28) ∧ laws_heldWin.f k q10 q27 q12 q13 q14 q15 q16 q28 q18 q19 q20 1 = some q26 ∧ 0 ≤ q22 ∧ 0 ≤ q24 ∧ 0 ≤ q26))))
def tab8 : Bool × List (List Nat × List Nat) := (true, [([], []), ([0], [0]), ([], []), ([2, 1], [2]), ([1, 3, 3], [1, 3]), ([4], [4]), ([5], [5]), ([5], [5]), ([], []), ([8, 6, 4, 0, 1, 2, 3, 4, 5, 6, 8], [6, 8]), ([7, 9, 0, 1, 2, 3, 4, 5, 6, 7, 8, 9], [7])])
def bit8 : List Nat := [0, 1, 0, 7, 15, 31, 63, 63, 0, 383, 1023]
theorem tab8_ok : rtab .any (opsOf Tryd.f3 8) = tab8 := by kernel_rfl
theorem bit8_ok : waitsOk tab8.2 bit8 = true := by kernel_rfl
def tab31 : Bool × List (List Nat × List Nat) := (true, [([], []), ([0], [0]), ([], []), ([2, 1], [2]), ([1, 3, 3], [1, 3]), ([4], [4]), ([5], [5]), ([5], [5]), ([], []), ([8, 6, 4, 0, 1, 2, 3, 4, 5, 6, 8], [6, 8]), ([7, 9, 0, 1, 2, 3, 4, 5, 6, 7, 8, 9], [7])])
def bit31 : List Nat := [0, 1, 0, 7, 15, 31, 63, 63, 0, 383, 1023]
theorem tab31_ok : rtab .any (opsOf Tryd.f3 31) = tab31 := by kernel_rfl
theorem bit31_ok : waitsOk tab31.2 bit31 = true := by kernel_rfl
set_option maxHeartbeats 8000000 in
set_option maxRecDepth 100000 in
theorem laws_FnExactWinOf.calls (k : Nat) (a0_0 : Int) (a0_1 : Int) (a0_2 : Int) (A0_3 : Option Addr) (c0_3 : Nat) (l0_3 : List S116) (a1_0 : ByteArray) (A1_1 : Option Addr) (c1_1 : Nat) (l1_1 : List S119) (a1_2 : Int) (w : World) (hr0_3 : Kd.C k116 w A0_3 l0_3.length l0_3) (hc0_3 : l0_3.length ≤ c0_3) (hr1_1 : Kd.C k119 w A1_1 l1_1.length l1_1) (hc1_1 : l1_1.length ≤ c1_1) (h : laws_FnExactWinOf.Ok k a0_0 a0_1 a0_2 l0_3 a1_0 l1_1 a1_2) :
 Calls Tryd.prog 3 #[.agg #[.int .i64 a0_0, .int .i64 a0_1, .int .i64 a0_2, .slice A0_3 l0_3.length c0_3], .agg #[.string a1_0, .slice A1_1 l1_1.length c1_1, .int .i64 a1_2]] w fun e w' => e = .returned (.bool true) ∧ Below w.heap.size w w' := by
 unfold laws_FnExactWinOf.Ok at h
 have HB := aM (Below.refl w.heap.size w)
 have HR0_3 := aM hr0_3
 have HC0_3 := aM hc0_3
 clear hr0_3 hc0_3
 have HR1_1 := aM hr1_1
 have HC1_1 := aM hc1_1
 clear hr1_1 hc1_1
 obtain ⟨q1, e0_, h⟩ := h
 have HE1 := aM e0_
 clear e0_
 rcases h with h | ⟨h0, h⟩
 · have c0_ : decide (q1 < 0) = true := decide_eq_true h
   clear h
   go_enter Tryd.func3, Tryd.ntmps3
   go_wp2_with (first | ((with_reducible refine gate_dst (N := 2) rfl ?_); refine box_event ?hg (N := 2) ?hd (cs := #[.int .i64 a0_0, .int .i64 a0_1, .int .i64 a0_2, .slice A0_3 l0_3.length c0_3]) (t := 24) ?hr ?_; (case hd => rfl); (case hg => rfl); (case hr => first | (go_simp; done) | (go_simp; rfl)); intro b1_ hg wv1 hbox hb; have LO1 := aM (Loc.box hbox); have el_ := hg; have ORLO1 := aM (show w.heap.size ≤ b1_ from (by first | (rw [el_]; exact HB.out.size))); have OQLO1 := aM (show b1_ ≤ (b1_ + 1) from Nat.le_succ _); have HWLO1 := aM (show w.heap.size ≤ b1_ from (by rw [hg]; exact HB.out.size)); replace HB := aM (below_after HB.out hb); clear hg hbox hb el_) | ((with_reducible refine gate_dst (N := 3) rfl ?_); refine box_event ?hg (N := 3) ?hd (cs := #[.string a1_0, .slice A1_1 l1_1.length c1_1, .int .i64 a1_2]) (t := 27) ?hr ?_; (case hd => rfl); (case hg => rfl); (case hr => first | (go_simp; done) | (go_simp; rfl)); intro b2_ hg wv2 hbox hb; have LO2 := aM (Loc.box hbox); have el_ := hg; have ORLO2 := aM (show (b1_ + 1) ≤ b2_ from (by rw [el_]; exact LO1.out.size)); have OQLO2 := aM (show b2_ ≤ (b2_ + 1) from Nat.le_succ _); have HWLO2 := aM (show w.heap.size ≤ b2_ from (by rw [hg]; exact HB.out.size)); replace LO1 := aM (LO1.out.below hb); replace HB := aM (below_after HB.out hb); clear hg hbox hb el_; obtain ⟨hcLO1_0, hcLO1_1, hcLO1_2, hcLO1_3, hfLO1_0, hfLO1_1, hfLO1_2, hfLO1_3⟩ := cellsZ4 LO1.out.now) | ((with_reducible refine gate_callee (f := 8) rfl ?_); refine goesL_ (some 19) rfl rfl Tryd.func8 (by kernel_rfl) rfl #[.agg #[.int .i64 a0_0, .int .i64 a0_1, .int .i64 a0_2, .slice A0_3 l0_3.length c0_3], .int .i64 1048576] rfl zee81 ?_; (with_reducible refine (laws_szBoard.calls k a0_0 a0_1 a0_2 _ _ l0_3 1048576 q1 _ ?s1 ?s2 HE1.out).mono ?_); (case s1 => exact Kd.C_below HR0_3.out HB.out); (case s2 => exact HC0_3.out); rintro e wv3 ⟨he_, hb⟩; subst he_; refine ⟨_, rfl, ?_⟩; (try clear hcLO1_0 hcLO1_1 hcLO1_2 hcLO1_3 hfLO1_0 hfLO1_1 hfLO1_2 hfLO1_3); replace LO1 := aM (LO1.out.below hb); replace LO2 := aM (LO2.out.below hb); replace HB := aM (below_after HB.out hb); clear hb))
   go_ret
   exact ⟨rfl, HB.out⟩
 have c0_ : decide (q1 < 0) = false := decide_eq_false (by omega)
 clear h0
 obtain ⟨q2, e1_, h⟩ := h
 have HE2 := aM e1_
 clear e1_
 rcases h with h | ⟨h1, h⟩
 · have c1_ : decide (q2 < 0) = true := decide_eq_true h
   clear h
   go_enter Tryd.func3, Tryd.ntmps3
   go_wp2_with (first | ((with_reducible refine gate_dst (N := 2) rfl ?_); refine box_event ?hg (N := 2) ?hd (cs := #[.int .i64 a0_0, .int .i64 a0_1, .int .i64 a0_2, .slice A0_3 l0_3.length c0_3]) (t := 24) ?hr ?_; (case hd => rfl); (case hg => rfl); (case hr => first | (go_simp; done) | (go_simp; rfl)); intro b1_ hg wv1 hbox hb; have LO1 := aM (Loc.box hbox); have el_ := hg; have ORLO1 := aM (show w.heap.size ≤ b1_ from (by first | (rw [el_]; exact HB.out.size))); have OQLO1 := aM (show b1_ ≤ (b1_ + 1) from Nat.le_succ _); have HWLO1 := aM (show w.heap.size ≤ b1_ from (by rw [hg]; exact HB.out.size)); replace HB := aM (below_after HB.out hb); clear hg hbox hb el_) | ((with_reducible refine gate_dst (N := 3) rfl ?_); refine box_event ?hg (N := 3) ?hd (cs := #[.string a1_0, .slice A1_1 l1_1.length c1_1, .int .i64 a1_2]) (t := 27) ?hr ?_; (case hd => rfl); (case hg => rfl); (case hr => first | (go_simp; done) | (go_simp; rfl)); intro b2_ hg wv2 hbox hb; have LO2 := aM (Loc.box hbox); have el_ := hg; have ORLO2 := aM (show (b1_ + 1) ≤ b2_ from (by rw [el_]; exact LO1.out.size)); have OQLO2 := aM (show b2_ ≤ (b2_ + 1) from Nat.le_succ _); have HWLO2 := aM (show w.heap.size ≤ b2_ from (by rw [hg]; exact HB.out.size)); replace LO1 := aM (LO1.out.below hb); replace HB := aM (below_after HB.out hb); clear hg hbox hb el_; obtain ⟨hcLO1_0, hcLO1_1, hcLO1_2, hcLO1_3, hfLO1_0, hfLO1_1, hfLO1_2, hfLO1_3⟩ := cellsZ4 LO1.out.now) | ((with_reducible refine gate_callee (f := 8) rfl ?_); refine goesL_ (some 19) rfl rfl Tryd.func8 (by kernel_rfl) rfl #[.agg #[.int .i64 a0_0, .int .i64 a0_1, .int .i64 a0_2, .slice A0_3 l0_3.length c0_3], .int .i64 1048576] rfl zee81 ?_; (with_reducible refine (laws_szBoard.calls k a0_0 a0_1 a0_2 _ _ l0_3 1048576 q1 _ ?s1 ?s2 HE1.out).mono ?_); (case s1 => exact Kd.C_below HR0_3.out HB.out); (case s2 => exact HC0_3.out); rintro e wv3 ⟨he_, hb⟩; subst he_; refine ⟨_, rfl, ?_⟩; (try clear hcLO1_0 hcLO1_1 hcLO1_2 hcLO1_3 hfLO1_0 hfLO1_1 hfLO1_2 hfLO1_3); replace LO1 := aM (LO1.out.below hb); replace LO2 := aM (LO2.out.below hb); replace HB := aM (below_after HB.out hb); clear hb; obtain ⟨hcLO2_0, hcLO2_1, hcLO2_2, hfLO2_0, hfLO2_1, hfLO2_2⟩ := cellsZ3 LO2.out.now) | ((with_reducible refine gate_callee (f := 9) rfl ?_); refine goesL_ (some 24) rfl rfl Tryd.func9 (by kernel_rfl) rfl #[.agg #[.string a1_0, .slice A1_1 l1_1.length c1_1, .int .i64 a1_2], .int .i64 q1] rfl zee81 ?_; (with_reducible refine (laws_szKey.calls k a1_0 _ _ l1_1 a1_2 q1 q2 _ ?s1 ?s2 HE2.out).mono ?_); (case s1 => exact Kd.C_below HR1_1.out HB.out); (case s2 => exact HC1_1.out); rintro e wv4 ⟨he_, hb⟩; subst he_; refine ⟨_, rfl, ?_⟩; (try clear hcLO2_0 hcLO2_1 hcLO2_2 hfLO2_0 hfLO2_1 hfLO2_2); replace LO1 := aM (LO1.out.below hb); replace LO2 := aM (LO2.out.below hb); replace HB := aM (below_after HB.out hb); clear hb))
   go_ret
   exact ⟨rfl, HB.out⟩
 have c1_ : decide (q2 < 0) = false := decide_eq_false (by omega)
 clear h1
 obtain ⟨q3, q4, q5, q6, q7, q8, q9, q10, q11, q12, q13, q14, q15, q16, q17, q18, q19, q20, q21, q22, q23, q24, q25, q26, q27, q28, e0_, e1_, e2_, e3_, e4_, e5_, e6_, e7_, e8_, e9_, e10_, f0_, f1_, f2_⟩ := h
 have HE3 := aM e0_
 have HE4 := aM e1_
 have HE5 := aM e2_
 have HE6 := aM e3_
 have HE7 := aM e4_
 have HE8 := aM e5_
 have HE9 := aM e6_
 have HE10 := aM e7_
 have HE11 := aM e8_
 have HE12 := aM e9_
 have HE13 := aM e10_
 clear e0_ e1_ e2_ e3_ e4_ e5_ e6_ e7_ e8_ e9_ e10_
 have g0_ : decide (q22 < 0) = false := decide_eq_false (by omega)
 clear f0_
 have g1_ : decide (q24 < 0) = false := decide_eq_false (by omega)
 clear f1_
 have g2_ : decide (q26 < 0) = false := decide_eq_false (by omega)
 clear f2_
 go_enter Tryd.func3, Tryd.ntmps3
 go_upto_region 8 with (first | ((with_reducible refine gate_dst (N := 2) rfl ?_); refine box_event ?hg (N := 2) ?hd (cs := #[.int .i64 a0_0, .int .i64 a0_1, .int .i64 a0_2, .slice A0_3 l0_3.length c0_3]) (t := 24) ?hr ?_; (case hd => rfl); (case hg => rfl); (case hr => first | (go_simp; done) | (go_simp; rfl)); intro b1_ hg wv1 hbox hb; have LO1 := aM (Loc.box hbox); have el_ := hg; have ORLO1 := aM (show w.heap.size ≤ b1_ from (by first | (rw [el_]; exact HB.out.size))); have OQLO1 := aM (show b1_ ≤ (b1_ + 1) from Nat.le_succ _); have HWLO1 := aM (show w.heap.size ≤ b1_ from (by rw [hg]; exact HB.out.size)); replace HB := aM (below_after HB.out hb); clear hg hbox hb el_) | ((with_reducible refine gate_dst (N := 3) rfl ?_); refine box_event ?hg (N := 3) ?hd (cs := #[.string a1_0, .slice A1_1 l1_1.length c1_1, .int .i64 a1_2]) (t := 27) ?hr ?_; (case hd => rfl); (case hg => rfl); (case hr => first | (go_simp; done) | (go_simp; rfl)); intro b2_ hg wv2 hbox hb; have LO2 := aM (Loc.box hbox); have el_ := hg; have ORLO2 := aM (show (b1_ + 1) ≤ b2_ from (by rw [el_]; exact LO1.out.size)); have OQLO2 := aM (show b2_ ≤ (b2_ + 1) from Nat.le_succ _); have HWLO2 := aM (show w.heap.size ≤ b2_ from (by rw [hg]; exact HB.out.size)); replace LO1 := aM (LO1.out.below hb); replace HB := aM (below_after HB.out hb); clear hg hbox hb el_; obtain ⟨hcLO1_0, hcLO1_1, hcLO1_2, hcLO1_3, hfLO1_0, hfLO1_1, hfLO1_2, hfLO1_3⟩ := cellsZ4 LO1.out.now) | ((with_reducible refine gate_callee (f := 8) rfl ?_); refine goesL_ (some 19) rfl rfl Tryd.func8 (by kernel_rfl) rfl #[.agg #[.int .i64 a0_0, .int .i64 a0_1, .int .i64 a0_2, .slice A0_3 l0_3.length c0_3], .int .i64 1048576] rfl zee81 ?_; (with_reducible refine (laws_szBoard.calls k a0_0 a0_1 a0_2 _ _ l0_3 1048576 q1 _ ?s1 ?s2 HE1.out).mono ?_); (case s1 => exact Kd.C_below HR0_3.out HB.out); (case s2 => exact HC0_3.out); rintro e wv3 ⟨he_, hb⟩; subst he_; refine ⟨_, rfl, ?_⟩; (try clear hcLO1_0 hcLO1_1 hcLO1_2 hcLO1_3 hfLO1_0 hfLO1_1 hfLO1_2 hfLO1_3); replace LO1 := aM (LO1.out.below hb); replace LO2 := aM (LO2.out.below hb); replace HB := aM (below_after HB.out hb); clear hb; obtain ⟨hcLO2_0, hcLO2_1, hcLO2_2, hfLO2_0, hfLO2_1, hfLO2_2⟩ := cellsZ3 LO2.out.now) | ((with_reducible refine gate_callee (f := 9) rfl ?_); refine goesL_ (some 24) rfl rfl Tryd.func9 (by kernel_rfl) rfl #[.agg #[.string a1_0, .slice A1_1 l1_1.length c1_1, .int .i64 a1_2], .int .i64 q1] rfl zee81 ?_; (with_reducible refine (laws_szKey.calls k a1_0 _ _ l1_1 a1_2 q1 q2 _ ?s1 ?s2 HE2.out).mono ?_); (case s1 => exact Kd.C_below HR1_1.out HB.out); (case s2 => exact HC1_1.out); rintro e wv4 ⟨he_, hb⟩; subst he_; refine ⟨_, rfl, ?_⟩; (try clear hcLO2_0 hcLO2_1 hcLO2_2 hfLO2_0 hfLO2_1 hfLO2_2); replace LO1 := aM (LO1.out.below hb); replace LO2 := aM (LO2.out.below hb); replace HB := aM (below_after HB.out hb); clear hb))
 (try simp only [Act.put, List.setIfInBounds_toArray, List.set_cons_zero, List.set_cons_succ])
 have hb := (below_drew (Below.refl _ _) : Below wv4.heap.size wv4 wv4.drew)
 replace LO1 := aM (LO1.out.below hb); replace LO2 := aM (LO2.out.below hb); replace HB := aM (below_after HB.out hb); clear hb
 have XB0 := aM LO1.out.now
 have XB1 := aM LO2.out.now
 refine sA 11 tab8_ok bit8_ok (fun W_ => W_.cell? ⟨b1_, 0, none⟩ = some (.int .i64 a0_0) ∧ W_.cell? ⟨b1_, 1, none⟩ = some (.int .i64 a0_1) ∧ W_.cell? ⟨b1_, 2, none⟩ = some (.int .i64 a0_2) ∧ W_.cell? ⟨b1_, 3, none⟩ = some (.slice A0_3 l0_3.length c0_3) ∧ W_.cell? ⟨b2_, 0, none⟩ = some (.string a1_0) ∧ W_.cell? ⟨b2_, 1, none⟩ = some (.slice A1_1 l1_1.length c1_1) ∧ W_.cell? ⟨b2_, 2, none⟩ = some (.int .i64 a1_2)) [9] (hS := ⟨(blk_cell XB0.out 0).trans rfl, (blk_cell XB0.out 1).trans rfl, (blk_cell XB0.out 2).trans rfl, (blk_cell XB0.out 3).trans rfl, (blk_cell XB1.out 0).trans rfl, (blk_cell XB1.out 1).trans rfl, (blk_cell XB1.out 2).trans rfl⟩) (fun hHeld HT_ HW_ => ?_)
 generalize wv4.drew = wq8 at LO1 LO2 HB XB0 XB1 hHeld ⊢
 refine tA 0 28 HT_ HW_ hHeld ?_; refine tA 2 30 HT_ HW_ hHeld ?_
 have HB0 := aM HB.out
 have HT := aM (Below.refl wq8.heap.size wq8)
 refine join_ (σ := Nat × Value × Value × Option Addr × Nat × Option Addr × Nat) 2 #[true, true, true, true, true, true, true, true, true, false, false] (fun s => [(29, s.2.1), (31, s.2.2.1), (32, .tuple #[.agg #[.string q10, .slice s.2.2.2.1 q11.length s.2.2.2.2.1, .int .i64 q12, .int .i64 q13, .int .i64 q14, .int .i64 q15, .int .i64 q16, .slice s.2.2.2.2.2.1 q17.length s.2.2.2.2.2.2, .bool q18, .int .i64 q19, .bool q20], .bool q21]), (27, .tuple #[.agg #[.string q10, .slice s.2.2.2.1 q11.length s.2.2.2.2.1, .int .i64 q12, .int .i64 q13, .int .i64 q14, .int .i64 q15, .int .i64 q16, .slice s.2.2.2.2.2.1 q17.length s.2.2.2.2.2.2, .bool q18, .int .i64 q19, .bool q20], .bool q21]), (33, .agg #[.string q10, .slice s.2.2.2.1 q11.length s.2.2.2.2.1, .int .i64 q12, .int .i64 q13, .int .i64 q14, .int .i64 q15, .int .i64 q16, .slice s.2.2.2.2.2.1 q17.length s.2.2.2.2.2.2, .bool q18, .int .i64 q19, .bool q20]), (34, .bool q21), (6, .pointer (some ⟨s.1, 0, none⟩))]) (fun s W_ => W_.heap[s.1]? = some (.cells #[.string (⟨#[]⟩ : ByteArray), .slice none 0 0, .int .i64 0, .int .i64 0, .int .i64 0, .int .i64 0, .int .i64 0, .slice none 0 0, .bool false, .int .i64 0, .bool false] 37 (0, 0)) ∧ Kd.R k123 123 W_ wq8.heap.size (fun _ => True) (.slice s.2.2.2.1 q11.length s.2.2.2.2.1) q11 ∧ Kd.R (Kd.int .i64) 3 W_ wq8.heap.size (fun _ => True) (.slice s.2.2.2.2.2.1 q17.length s.2.2.2.2.2.2) q17 ∧ Below wq8.heap.size wq8 W_ ∧ wq8.heap.size ≤ s.1) ?_ ?_
 rotate_left
 · intro hJ
   refine two_ (i := 1) (j := 8) (Ni := some 29) (Nj := some 6) #[true, true, true, false, false, false, false, false, false, false, false] #[true, false, true, false, false, false, false, false, true, false, false] rfl rfl rfl rfl (two_of HT_.out (by kernel_rfl)) (by decide) (by decide) (fun K hK => ?_) (fun K hK => ?_)
   · skip
     refine goes_ Tryd.func11 (by kernel_rfl) rfl #[.agg #[.int .i64 a0_0, .int .i64 a0_1, .int .i64 a0_2, .slice A0_3 l0_3.length c0_3]] (by rfl) rfl rfl zee81 ?_; (with_reducible refine (laws_toBoard.calls k a0_0 a0_1 a0_2 _ _ l0_3 q3 q4 q5 q6 _ ?s1 ?s2 HE3.out).mono ?_); (case s1 => exact Kd.C_below HR0_3.out HB.out); (case s2 => exact HC0_3.out); rintro e wv5 ⟨v3_, he_, ho_v3_, hb⟩; subst he_; refine ⟨_, rfl, ?_⟩; obtain ⟨Au8_0v3, cu8_0v3, ev_⟩ := Kd.S_slice ho_v3_; subst ev_; have CRu8_0v3 := aM (Kd.S_reads' ho_v3_).2.2; have CLu8_0v3 := aM (Kd.S_reads' ho_v3_).2.1; clear ho_v3_; replace HB := aM (below_after HB.out hb); replace HT := aM (below_after HT.out hb); replace XB0 := aM (blk_below XB0.out hb); replace XB1 := aM (blk_below XB1.out hb); clear hb
     refine hK.out _ _ ⟨(blk_cell XB0.out 0).trans rfl, (blk_cell XB0.out 1).trans rfl, (blk_cell XB0.out 2).trans rfl, (blk_cell XB0.out 3).trans rfl, (blk_cell XB1.out 0).trans rfl, (blk_cell XB1.out 1).trans rfl, (blk_cell XB1.out 2).trans rfl⟩ (fun hHeld => ?_); clear hK K; refine nA 29 ?_
     refine two_ (i := 3) (j := 8) (Ni := some 31) (Nj := some 6) #[true, true, true, true, false, false, false, false, false, false, false] #[true, true, true, false, false, false, false, false, true, false, false] rfl rfl rfl rfl (two_of HT_.out (by kernel_rfl)) (by decide) (by decide) (fun K hK => ?_) (fun K hK => ?_)
     · skip
       refine goes_ Tryd.func12 (by kernel_rfl) rfl #[.agg #[.string a1_0, .slice A1_1 l1_1.length c1_1, .int .i64 a1_2]] (by rfl) rfl rfl zee81 ?_; (with_reducible refine (laws_toKey.calls k a1_0 _ _ l1_1 a1_2 q7 q8 q9 _ ?s1 ?s2 HE4.out).mono ?_); (case s1 => exact Kd.C_below HR1_1.out HB.out); (case s2 => exact HC1_1.out); rintro e wv6 ⟨v1_, he_, ho_v1_, hb⟩; subst he_; refine ⟨_, rfl, ?_⟩; obtain ⟨Au8_1v1, cu8_1v1, ev_⟩ := Kd.R_slice ho_v1_; subst ev_; have CRu8_1v1 := aM (Kd.R_reads' ho_v1_).2.2; have CLu8_1v1 := aM (Kd.R_reads' ho_v1_).2.1; clear ho_v1_; replace CRu8_0v3 := aM (Kd.C_below CRu8_0v3.out hb); replace HB := aM (below_after HB.out hb); replace HT := aM (below_after HT.out hb); replace XB0 := aM (blk_below XB0.out hb); replace XB1 := aM (blk_below XB1.out hb); clear hb
       refine hK.out _ _ ⟨(blk_cell XB0.out 0).trans rfl, (blk_cell XB0.out 1).trans rfl, (blk_cell XB0.out 2).trans rfl, (blk_cell XB0.out 3).trans rfl, (blk_cell XB1.out 0).trans rfl, (blk_cell XB1.out 1).trans rfl, (blk_cell XB1.out 2).trans rfl⟩ (fun hHeld => ?_); clear hK K; refine nA 31 ?_
       refine two_ (i := 4) (j := 8) (Ni := some 32) (Nj := some 6) #[true, true, true, true, true, false, false, false, false, false, false] #[true, true, true, true, false, false, false, false, true, false, false] rfl rfl rfl rfl (two_of HT_.out (by kernel_rfl)) (by decide) (by decide) (fun K hK => ?_) (fun K hK => ?_)
       · skip
         refine goes_ Tryd.func10 (by kernel_rfl) rfl #[.agg #[.int .i64 q3, .int .i64 q4, .int .i64 q5, .slice Au8_0v3 q6.length cu8_0v3], .agg #[.string q7, .slice Au8_1v1 q8.length cu8_1v1, .int .i64 q9]] (by rfl) rfl rfl zee81 ?_; (with_reducible refine (spec_WinOf.calls k q3 q4 q5 _ _ q6 q7 _ _ q8 q9 q10 q11 q12 q13 q14 q15 q16 q17 q18 q19 q20 q21 _ ?s1 ?s2 ?s3 ?s4 HE5.out).mono ?_); (case s1 => exact CRu8_0v3.out); (case s2 => exact CLu8_0v3.out); (case s3 => exact CRu8_1v1.out); (case s4 => exact CLu8_1v1.out); rintro e wv7 ⟨v1_, v7_, he_, ho_v1_, ho_v7_, hb⟩; subst he_; refine ⟨_, rfl, ?_⟩; obtain ⟨Au8_2v1, cu8_2v1, ev_⟩ := Kd.R_slice ho_v1_; subst ev_; have RWu8_2v1 := aM (Kd.R_lower ho_v1_ HT.out.size); clear ho_v1_; obtain ⟨Au8_2v7, cu8_2v7, ev_⟩ := Kd.R_slice ho_v7_; subst ev_; have RWu8_2v7 := aM (Kd.R_lower ho_v7_ HT.out.size); clear ho_v7_; replace HB := aM (below_after HB.out hb); replace HT := aM (below_after HT.out hb); replace XB0 := aM (blk_below XB0.out hb); replace XB1 := aM (blk_below XB1.out hb); clear hb
         refine hK.out _ _ ⟨(blk_cell XB0.out 0).trans rfl, (blk_cell XB0.out 1).trans rfl, (blk_cell XB0.out 2).trans rfl, (blk_cell XB0.out 3).trans rfl, (blk_cell XB1.out 0).trans rfl, (blk_cell XB1.out 1).trans rfl, (blk_cell XB1.out 2).trans rfl⟩ (fun hHeld => ?_); clear hK K; refine nA 32 ?_
         refine pA 5 27 HT_ ?_; refine pA 6 33 HT_ ?_; refine pA 7 34 HT_ ?_
         refine oA 8 6 HT_ (fun K hK => ?_)
         · skip
           refine alloc_st (cs := #[.string (⟨#[]⟩ : ByteArray), .slice none 0 0, .int .i64 0, .int .i64 0, .int .i64 0, .int .i64 0, .int .i64 0, .slice none 0 0, .bool false, .int .i64 0, .bool false]) (t := 37) (by rfl) rfl ?hrun ?_; (case hrun => clear hHeld; first | (go_simp; done) | (go_simp; rfl)); intro b3_ hg wn hbox hb; have BQ := aM hbox; have GQ := aM (show wq8.heap.size ≤ b3_ from by rw [hg]; exact HT.out.size); replace HB := aM (below_after HB.out hb); replace HT := aM (below_after HT.out hb); replace XB0 := aM (blk_below XB0.out hb); replace XB1 := aM (blk_below XB1.out hb); replace RWu8_2v1 := aM (Kd.R_below RWu8_2v1.out hb); replace RWu8_2v7 := aM (Kd.R_below RWu8_2v7.out hb); clear hb hg hbox
           refine hK.out _ _ ⟨(blk_cell XB0.out 0).trans rfl, (blk_cell XB0.out 1).trans rfl, (blk_cell XB0.out 2).trans rfl, (blk_cell XB0.out 3).trans rfl, (blk_cell XB1.out 0).trans rfl, (blk_cell XB1.out 1).trans rfl, (blk_cell XB1.out 2).trans rfl⟩ (fun hHeld => ?_); clear hK K; refine nA 6 ?_
           exact norm_ (by simp only [putAll, Act.put, List.setIfInBounds_toArray, List.set_cons_zero, List.set_cons_succ]) (hJ (b3_, (.agg #[.int .i64 q3, .int .i64 q4, .int .i64 q5, .slice Au8_0v3 q6.length cu8_0v3] : Value), (.agg #[.string q7, .slice Au8_1v1 q8.length cu8_1v1, .int .i64 q9] : Value), Au8_2v1, cu8_2v1, Au8_2v7, cu8_2v7) _ ⟨BQ.out, RWu8_2v1.out, RWu8_2v7.out, HT.out, GQ.out⟩)
       · skip
         refine alloc_st (cs := #[.string (⟨#[]⟩ : ByteArray), .slice none 0 0, .int .i64 0, .int .i64 0, .int .i64 0, .int .i64 0, .int .i64 0, .slice none 0 0, .bool false, .int .i64 0, .bool false]) (t := 37) (by rfl) rfl ?hrun ?_; (case hrun => clear hHeld; first | (go_simp; done) | (go_simp; rfl)); intro b3_ hg wn hbox hb; have BQ := aM hbox; have GQ := aM (show wq8.heap.size ≤ b3_ from by rw [hg]; exact HT.out.size); replace HB := aM (below_after HB.out hb); replace HT := aM (below_after HT.out hb); replace XB0 := aM (blk_below XB0.out hb); replace XB1 := aM (blk_below XB1.out hb); replace CRu8_0v3 := aM (Kd.C_below CRu8_0v3.out hb); replace CRu8_1v1 := aM (Kd.C_below CRu8_1v1.out hb); clear hb hg hbox
         refine hK.out _ _ ⟨(blk_cell XB0.out 0).trans rfl, (blk_cell XB0.out 1).trans rfl, (blk_cell XB0.out 2).trans rfl, (blk_cell XB0.out 3).trans rfl, (blk_cell XB1.out 0).trans rfl, (blk_cell XB1.out 1).trans rfl, (blk_cell XB1.out 2).trans rfl⟩ (fun hHeld => ?_); clear hK K; refine nA 6 ?_
         refine oA 4 32 HT_ (fun K hK => ?_)
         · skip
           refine goes_ Tryd.func10 (by kernel_rfl) rfl #[.agg #[.int .i64 q3, .int .i64 q4, .int .i64 q5, .slice Au8_0v3 q6.length cu8_0v3], .agg #[.string q7, .slice Au8_1v1 q8.length cu8_1v1, .int .i64 q9]] (by rfl) rfl rfl zee81 ?_; (with_reducible refine (spec_WinOf.calls k q3 q4 q5 _ _ q6 q7 _ _ q8 q9 q10 q11 q12 q13 q14 q15 q16 q17 q18 q19 q20 q21 _ ?s1 ?s2 ?s3 ?s4 HE5.out).mono ?_); (case s1 => exact CRu8_0v3.out); (case s2 => exact CLu8_0v3.out); (case s3 => exact CRu8_1v1.out); (case s4 => exact CLu8_1v1.out); rintro e wv7 ⟨v1_, v7_, he_, ho_v1_, ho_v7_, hb⟩; subst he_; refine ⟨_, rfl, ?_⟩; obtain ⟨Au8_2v1, cu8_2v1, ev_⟩ := Kd.R_slice ho_v1_; subst ev_; have RWu8_2v1 := aM (Kd.R_lower ho_v1_ HT.out.size); clear ho_v1_; obtain ⟨Au8_2v7, cu8_2v7, ev_⟩ := Kd.R_slice ho_v7_; subst ev_; have RWu8_2v7 := aM (Kd.R_lower ho_v7_ HT.out.size); clear ho_v7_; replace HB := aM (below_after HB.out hb); replace HT := aM (below_after HT.out hb); replace XB0 := aM (blk_below XB0.out hb); replace XB1 := aM (blk_below XB1.out hb); replace BQ := aM (blk_below BQ.out hb); clear hb
           refine hK.out _ _ ⟨(blk_cell XB0.out 0).trans rfl, (blk_cell XB0.out 1).trans rfl, (blk_cell XB0.out 2).trans rfl, (blk_cell XB0.out 3).trans rfl, (blk_cell XB1.out 0).trans rfl, (blk_cell XB1.out 1).trans rfl, (blk_cell XB1.out 2).trans rfl⟩ (fun hHeld => ?_); clear hK K; refine nA 32 ?_
           refine pA 5 27 HT_ ?_
           refine pA 6 33 HT_ ?_
           refine pA 7 34 HT_ ?_
           exact norm_ (by simp only [putAll, Act.put, List.setIfInBounds_toArray, List.set_cons_zero, List.set_cons_succ]) (hJ (b3_, (.agg #[.int .i64 q3, .int .i64 q4, .int .i64 q5, .slice Au8_0v3 q6.length cu8_0v3] : Value), (.agg #[.string q7, .slice Au8_1v1 q8.length cu8_1v1, .int .i64 q9] : Value), Au8_2v1, cu8_2v1, Au8_2v7, cu8_2v7) _ ⟨BQ.out, RWu8_2v1.out, RWu8_2v7.out, HT.out, GQ.out⟩)
     · skip
       refine alloc_st (cs := #[.string (⟨#[]⟩ : ByteArray), .slice none 0 0, .int .i64 0, .int .i64 0, .int .i64 0, .int .i64 0, .int .i64 0, .slice none 0 0, .bool false, .int .i64 0, .bool false]) (t := 37) (by rfl) rfl ?hrun ?_; (case hrun => clear hHeld; first | (go_simp; done) | (go_simp; rfl)); intro b3_ hg wn hbox hb; have BQ := aM hbox; have GQ := aM (show wq8.heap.size ≤ b3_ from by rw [hg]; exact HT.out.size); replace HB := aM (below_after HB.out hb); replace HT := aM (below_after HT.out hb); replace XB0 := aM (blk_below XB0.out hb); replace XB1 := aM (blk_below XB1.out hb); replace CRu8_0v3 := aM (Kd.C_below CRu8_0v3.out hb); clear hb hg hbox
       refine hK.out _ _ ⟨(blk_cell XB0.out 0).trans rfl, (blk_cell XB0.out 1).trans rfl, (blk_cell XB0.out 2).trans rfl, (blk_cell XB0.out 3).trans rfl, (blk_cell XB1.out 0).trans rfl, (blk_cell XB1.out 1).trans rfl, (blk_cell XB1.out 2).trans rfl⟩ (fun hHeld => ?_); clear hK K; refine nA 6 ?_
       refine oA 3 31 HT_ (fun K hK => ?_)
       · skip
         refine goes_ Tryd.func12 (by kernel_rfl) rfl #[.agg #[.string a1_0, .slice A1_1 l1_1.length c1_1, .int .i64 a1_2]] (by rfl) rfl rfl zee81 ?_; (with_reducible refine (laws_toKey.calls k a1_0 _ _ l1_1 a1_2 q7 q8 q9 _ ?s1 ?s2 HE4.out).mono ?_); (case s1 => exact Kd.C_below HR1_1.out HB.out); (case s2 => exact HC1_1.out); rintro e wv6 ⟨v1_, he_, ho_v1_, hb⟩; subst he_; refine ⟨_, rfl, ?_⟩; obtain ⟨Au8_1v1, cu8_1v1, ev_⟩ := Kd.R_slice ho_v1_; subst ev_; have CRu8_1v1 := aM (Kd.R_reads' ho_v1_).2.2; have CLu8_1v1 := aM (Kd.R_reads' ho_v1_).2.1; clear ho_v1_; replace CRu8_0v3 := aM (Kd.C_below CRu8_0v3.out hb); replace HB := aM (below_after HB.out hb); replace HT := aM (below_after HT.out hb); replace XB0 := aM (blk_below XB0.out hb); replace XB1 := aM (blk_below XB1.out hb); replace BQ := aM (blk_below BQ.out hb); clear hb
         refine hK.out _ _ ⟨(blk_cell XB0.out 0).trans rfl, (blk_cell XB0.out 1).trans rfl, (blk_cell XB0.out 2).trans rfl, (blk_cell XB0.out 3).trans rfl, (blk_cell XB1.out 0).trans rfl, (blk_cell XB1.out 1).trans rfl, (blk_cell XB1.out 2).trans rfl⟩ (fun hHeld => ?_); clear hK K; refine nA 31 ?_
         refine oA 4 32 HT_ (fun K hK => ?_)
         · skip
           refine goes_ Tryd.func10 (by kernel_rfl) rfl #[.agg #[.int .i64 q3, .int .i64 q4, .int .i64 q5, .slice Au8_0v3 q6.length cu8_0v3], .agg #[.string q7, .slice Au8_1v1 q8.length cu8_1v1, .int .i64 q9]] (by rfl) rfl rfl zee81 ?_; (with_reducible refine (spec_WinOf.calls k q3 q4 q5 _ _ q6 q7 _ _ q8 q9 q10 q11 q12 q13 q14 q15 q16 q17 q18 q19 q20 q21 _ ?s1 ?s2 ?s3 ?s4 HE5.out).mono ?_); (case s1 => exact CRu8_0v3.out); (case s2 => exact CLu8_0v3.out); (case s3 => exact CRu8_1v1.out); (case s4 => exact CLu8_1v1.out); rintro e wv7 ⟨v1_, v7_, he_, ho_v1_, ho_v7_, hb⟩; subst he_; refine ⟨_, rfl, ?_⟩; obtain ⟨Au8_2v1, cu8_2v1, ev_⟩ := Kd.R_slice ho_v1_; subst ev_; have RWu8_2v1 := aM (Kd.R_lower ho_v1_ HT.out.size); clear ho_v1_; obtain ⟨Au8_2v7, cu8_2v7, ev_⟩ := Kd.R_slice ho_v7_; subst ev_; have RWu8_2v7 := aM (Kd.R_lower ho_v7_ HT.out.size); clear ho_v7_; replace HB := aM (below_after HB.out hb); replace HT := aM (below_after HT.out hb); replace XB0 := aM (blk_below XB0.out hb); replace XB1 := aM (blk_below XB1.out hb); replace BQ := aM (blk_below BQ.out hb); clear hb
           refine hK.out _ _ ⟨(blk_cell XB0.out 0).trans rfl, (blk_cell XB0.out 1).trans rfl, (blk_cell XB0.out 2).trans rfl, (blk_cell XB0.out 3).trans rfl, (blk_cell XB1.out 0).trans rfl, (blk_cell XB1.out 1).trans rfl, (blk_cell XB1.out 2).trans rfl⟩ (fun hHeld => ?_); clear hK K; refine nA 32 ?_
           refine pA 5 27 HT_ ?_
           refine pA 6 33 HT_ ?_
           refine pA 7 34 HT_ ?_
           exact norm_ (by simp only [putAll, Act.put, List.setIfInBounds_toArray, List.set_cons_zero, List.set_cons_succ]) (hJ (b3_, (.agg #[.int .i64 q3, .int .i64 q4, .int .i64 q5, .slice Au8_0v3 q6.length cu8_0v3] : Value), (.agg #[.string q7, .slice Au8_1v1 q8.length cu8_1v1, .int .i64 q9] : Value), Au8_2v1, cu8_2v1, Au8_2v7, cu8_2v7) _ ⟨BQ.out, RWu8_2v1.out, RWu8_2v7.out, HT.out, GQ.out⟩)
   · skip
     refine alloc_st (cs := #[.string (⟨#[]⟩ : ByteArray), .slice none 0 0, .int .i64 0, .int .i64 0, .int .i64 0, .int .i64 0, .int .i64 0, .slice none 0 0, .bool false, .int .i64 0, .bool false]) (t := 37) (by rfl) rfl ?hrun ?_; (case hrun => clear hHeld; first | (go_simp; done) | (go_simp; rfl)); intro b3_ hg wn hbox hb; have BQ := aM hbox; have GQ := aM (show wq8.heap.size ≤ b3_ from by rw [hg]; exact HT.out.size); replace HB := aM (below_after HB.out hb); replace HT := aM (below_after HT.out hb); replace XB0 := aM (blk_below XB0.out hb); replace XB1 := aM (blk_below XB1.out hb); clear hb hg hbox
     refine hK.out _ _ ⟨(blk_cell XB0.out 0).trans rfl, (blk_cell XB0.out 1).trans rfl, (blk_cell XB0.out 2).trans rfl, (blk_cell XB0.out 3).trans rfl, (blk_cell XB1.out 0).trans rfl, (blk_cell XB1.out 1).trans rfl, (blk_cell XB1.out 2).trans rfl⟩ (fun hHeld => ?_); clear hK K; refine nA 6 ?_
     refine oA 1 29 HT_ (fun K hK => ?_)
     · skip
       refine goes_ Tryd.func11 (by kernel_rfl) rfl #[.agg #[.int .i64 a0_0, .int .i64 a0_1, .int .i64 a0_2, .slice A0_3 l0_3.length c0_3]] (by rfl) rfl rfl zee81 ?_; (with_reducible refine (laws_toBoard.calls k a0_0 a0_1 a0_2 _ _ l0_3 q3 q4 q5 q6 _ ?s1 ?s2 HE3.out).mono ?_); (case s1 => exact Kd.C_below HR0_3.out HB.out); (case s2 => exact HC0_3.out); rintro e wv5 ⟨v3_, he_, ho_v3_, hb⟩; subst he_; refine ⟨_, rfl, ?_⟩; obtain ⟨Au8_0v3, cu8_0v3, ev_⟩ := Kd.S_slice ho_v3_; subst ev_; have CRu8_0v3 := aM (Kd.S_reads' ho_v3_).2.2; have CLu8_0v3 := aM (Kd.S_reads' ho_v3_).2.1; clear ho_v3_; replace HB := aM (below_after HB.out hb); replace HT := aM (below_after HT.out hb); replace XB0 := aM (blk_below XB0.out hb); replace XB1 := aM (blk_below XB1.out hb); replace BQ := aM (blk_below BQ.out hb); clear hb
       refine hK.out _ _ ⟨(blk_cell XB0.out 0).trans rfl, (blk_cell XB0.out 1).trans rfl, (blk_cell XB0.out 2).trans rfl, (blk_cell XB0.out 3).trans rfl, (blk_cell XB1.out 0).trans rfl, (blk_cell XB1.out 1).trans rfl, (blk_cell XB1.out 2).trans rfl⟩ (fun hHeld => ?_); clear hK K; refine nA 29 ?_
       refine oA 3 31 HT_ (fun K hK => ?_)
       · skip
         refine goes_ Tryd.func12 (by kernel_rfl) rfl #[.agg #[.string a1_0, .slice A1_1 l1_1.length c1_1, .int .i64 a1_2]] (by rfl) rfl rfl zee81 ?_; (with_reducible refine (laws_toKey.calls k a1_0 _ _ l1_1 a1_2 q7 q8 q9 _ ?s1 ?s2 HE4.out).mono ?_); (case s1 => exact Kd.C_below HR1_1.out HB.out); (case s2 => exact HC1_1.out); rintro e wv6 ⟨v1_, he_, ho_v1_, hb⟩; subst he_; refine ⟨_, rfl, ?_⟩; obtain ⟨Au8_1v1, cu8_1v1, ev_⟩ := Kd.R_slice ho_v1_; subst ev_; have CRu8_1v1 := aM (Kd.R_reads' ho_v1_).2.2; have CLu8_1v1 := aM (Kd.R_reads' ho_v1_).2.1; clear ho_v1_; replace CRu8_0v3 := aM (Kd.C_below CRu8_0v3.out hb); replace HB := aM (below_after HB.out hb); replace HT := aM (below_after HT.out hb); replace XB0 := aM (blk_below XB0.out hb); replace XB1 := aM (blk_below XB1.out hb); replace BQ := aM (blk_below BQ.out hb); clear hb
         refine hK.out _ _ ⟨(blk_cell XB0.out 0).trans rfl, (blk_cell XB0.out 1).trans rfl, (blk_cell XB0.out 2).trans rfl, (blk_cell XB0.out 3).trans rfl, (blk_cell XB1.out 0).trans rfl, (blk_cell XB1.out 1).trans rfl, (blk_cell XB1.out 2).trans rfl⟩ (fun hHeld => ?_); clear hK K; refine nA 31 ?_
         refine oA 4 32 HT_ (fun K hK => ?_)
         · skip
           refine goes_ Tryd.func10 (by kernel_rfl) rfl #[.agg #[.int .i64 q3, .int .i64 q4, .int .i64 q5, .slice Au8_0v3 q6.length cu8_0v3], .agg #[.string q7, .slice Au8_1v1 q8.length cu8_1v1, .int .i64 q9]] (by rfl) rfl rfl zee81 ?_; (with_reducible refine (spec_WinOf.calls k q3 q4 q5 _ _ q6 q7 _ _ q8 q9 q10 q11 q12 q13 q14 q15 q16 q17 q18 q19 q20 q21 _ ?s1 ?s2 ?s3 ?s4 HE5.out).mono ?_); (case s1 => exact CRu8_0v3.out); (case s2 => exact CLu8_0v3.out); (case s3 => exact CRu8_1v1.out); (case s4 => exact CLu8_1v1.out); rintro e wv7 ⟨v1_, v7_, he_, ho_v1_, ho_v7_, hb⟩; subst he_; refine ⟨_, rfl, ?_⟩; obtain ⟨Au8_2v1, cu8_2v1, ev_⟩ := Kd.R_slice ho_v1_; subst ev_; have RWu8_2v1 := aM (Kd.R_lower ho_v1_ HT.out.size); clear ho_v1_; obtain ⟨Au8_2v7, cu8_2v7, ev_⟩ := Kd.R_slice ho_v7_; subst ev_; have RWu8_2v7 := aM (Kd.R_lower ho_v7_ HT.out.size); clear ho_v7_; replace HB := aM (below_after HB.out hb); replace HT := aM (below_after HT.out hb); replace XB0 := aM (blk_below XB0.out hb); replace XB1 := aM (blk_below XB1.out hb); replace BQ := aM (blk_below BQ.out hb); clear hb
           refine hK.out _ _ ⟨(blk_cell XB0.out 0).trans rfl, (blk_cell XB0.out 1).trans rfl, (blk_cell XB0.out 2).trans rfl, (blk_cell XB0.out 3).trans rfl, (blk_cell XB1.out 0).trans rfl, (blk_cell XB1.out 1).trans rfl, (blk_cell XB1.out 2).trans rfl⟩ (fun hHeld => ?_); clear hK K; refine nA 32 ?_
           refine pA 5 27 HT_ ?_
           refine pA 6 33 HT_ ?_
           refine pA 7 34 HT_ ?_
           exact norm_ (by simp only [putAll, Act.put, List.setIfInBounds_toArray, List.set_cons_zero, List.set_cons_succ]) (hJ (b3_, (.agg #[.int .i64 q3, .int .i64 q4, .int .i64 q5, .slice Au8_0v3 q6.length cu8_0v3] : Value), (.agg #[.string q7, .slice Au8_1v1 q8.length cu8_1v1, .int .i64 q9] : Value), Au8_2v1, cu8_2v1, Au8_2v7, cu8_2v7) _ ⟨BQ.out, RWu8_2v1.out, RWu8_2v7.out, HT.out, GQ.out⟩)
 clear HB
 rintro ⟨b3_, vv8_0, vv8_1, Au8_2v1, cu8_2v1, Au8_2v7, cu8_2v7⟩ wj8 ⟨hbq, hr1, hr2, hT, hg⟩
 dsimp only at hbq hr1 hr2 hT hg
 refine norm_ (a' := ?_) ?_ ?_
 rotate_left
 · simp only [putAll, Act.put, List.setIfInBounds_toArray, List.set_cons_zero, List.set_cons_succ]
   rfl
 have ho := aM (show Only wj8 (((((((((((wj8.setCell ⟨b3_, 0, none⟩ (.string q10)).setCell ⟨b3_, 1, none⟩ (.slice Au8_2v1 q11.length cu8_2v1)).setCell ⟨b3_, 2, none⟩ (.int .i64 q12)).setCell ⟨b3_, 3, none⟩ (.int .i64 q13)).setCell ⟨b3_, 4, none⟩ (.int .i64 q14)).setCell ⟨b3_, 5, none⟩ (.int .i64 q15)).setCell ⟨b3_, 6, none⟩ (.int .i64 q16)).setCell ⟨b3_, 7, none⟩ (.slice Au8_2v7 q17.length cu8_2v7)).setCell ⟨b3_, 8, none⟩ (.bool q18)).setCell ⟨b3_, 9, none⟩ (.int .i64 q19)).setCell ⟨b3_, 10, none⟩ (.bool q20)) b3_ from by repeat (first | (with_reducible apply Only.set) | exact Only.refl _ _))
 have hbx := aM (show (((((((((((wj8.setCell ⟨b3_, 0, none⟩ (.string q10)).setCell ⟨b3_, 1, none⟩ (.slice Au8_2v1 q11.length cu8_2v1)).setCell ⟨b3_, 2, none⟩ (.int .i64 q12)).setCell ⟨b3_, 3, none⟩ (.int .i64 q13)).setCell ⟨b3_, 4, none⟩ (.int .i64 q14)).setCell ⟨b3_, 5, none⟩ (.int .i64 q15)).setCell ⟨b3_, 6, none⟩ (.int .i64 q16)).setCell ⟨b3_, 7, none⟩ (.slice Au8_2v7 q17.length cu8_2v7)).setCell ⟨b3_, 8, none⟩ (.bool q18)).setCell ⟨b3_, 9, none⟩ (.int .i64 q19)).setCell ⟨b3_, 10, none⟩ (.bool q20)).heap[b3_]? = some (.cells #[.string q10, .slice Au8_2v1 q11.length cu8_2v1, .int .i64 q12, .int .i64 q13, .int .i64 q14, .int .i64 q15, .int .i64 q16, .slice Au8_2v7 q17.length cu8_2v7, .bool q18, .int .i64 q19, .bool q20] 37 (0, 0)) from by with_reducible exact blk_put11 hbq)
 obtain ⟨hcq_0, hcq_1, hcq_2, hcq_3, hcq_4, hcq_5, hcq_6, hcq_7, hcq_8, hcq_9, hcq_10, hfq_0, hfq_1, hfq_2, hfq_3, hfq_4, hfq_5, hfq_6, hfq_7, hfq_8, hfq_9, hfq_10⟩ := cellsZ11 hbq
 refine last_ (i := 9) (N := none) #[true, true, true, true, true, true, true, true, true, true, false] rfl rfl (one_of HT_.out (by kernel_rfl)) (by decide) (fun K hK => ?_)
 refine skip_ (w1 := (((((((((((wj8.setCell ⟨b3_, 0, none⟩ (.string q10)).setCell ⟨b3_, 1, none⟩ (.slice Au8_2v1 q11.length cu8_2v1)).setCell ⟨b3_, 2, none⟩ (.int .i64 q12)).setCell ⟨b3_, 3, none⟩ (.int .i64 q13)).setCell ⟨b3_, 4, none⟩ (.int .i64 q14)).setCell ⟨b3_, 5, none⟩ (.int .i64 q15)).setCell ⟨b3_, 6, none⟩ (.int .i64 q16)).setCell ⟨b3_, 7, none⟩ (.slice Au8_2v7 q17.length cu8_2v7)).setCell ⟨b3_, 8, none⟩ (.bool q18)).setCell ⟨b3_, 9, none⟩ (.int .i64 q19)).setCell ⟨b3_, 10, none⟩ (.bool q20))) (by rfl) rfl ?_ ?_
 · clear hHeld
   go_simp
 refine hK.out _ _ ?_
 clear hK K hcq_0 hcq_1 hcq_2 hcq_3 hcq_4 hcq_5 hcq_6 hcq_7 hcq_8 hcq_9 hcq_10 hfq_0 hfq_1 hfq_2 hfq_3 hfq_4 hfq_5 hfq_6 hfq_7 hfq_8 hfq_9 hfq_10
 generalize (((((((((((wj8.setCell ⟨b3_, 0, none⟩ (.string q10)).setCell ⟨b3_, 1, none⟩ (.slice Au8_2v1 q11.length cu8_2v1)).setCell ⟨b3_, 2, none⟩ (.int .i64 q12)).setCell ⟨b3_, 3, none⟩ (.int .i64 q13)).setCell ⟨b3_, 4, none⟩ (.int .i64 q14)).setCell ⟨b3_, 5, none⟩ (.int .i64 q15)).setCell ⟨b3_, 6, none⟩ (.int .i64 q16)).setCell ⟨b3_, 7, none⟩ (.slice Au8_2v7 q17.length cu8_2v7)).setCell ⟨b3_, 8, none⟩ (.bool q18)).setCell ⟨b3_, 9, none⟩ (.int .i64 q19)).setCell ⟨b3_, 10, none⟩ (.bool q20)) = wv8 at ho hbx ⊢
 refine pA 10 7 HT_ ?_
 refine done_ (done_of HT_.out (by kernel_rfl)) ?_
 clear HT_ HW_ hHeld
 have hb := below_only hT hg ho.out
 obtain ⟨lo3_, hi3_, el_, hL_, eh_⟩ := Loc.newBRR (w := w) hbx.out hg hb (R_only hr1 hbq (by decide) ho.out) (R_only hr2 hbq (by decide) ho.out) HB0.out
 have LO3 := aM hL_; have ORLO3 := aM (show (b2_ + 1) ≤ lo3_ from (by rw [el_]; exact LO2.out.size)); have OQLO3 := aM (show lo3_ ≤ hi3_ from (by rw [el_, eh_]; exact hb.size))
 replace LO1 := aM (LO1.out.below hb); replace LO2 := aM (LO2.out.below hb); have HB := aM (below_after HB0.out hb); clear hb el_ hL_ eh_ hbx hbq hr1 hr2 hT hg ho HT HB0 XB0 XB1
 obtain ⟨hcLO1_0, hcLO1_1, hcLO1_2, hcLO1_3, hfLO1_0, hfLO1_1, hfLO1_2, hfLO1_3⟩ := cellsZ4 LO1.out.now
 go_wp2_with (first | ((with_reducible refine gate_callee (f := 11) rfl ?_); refine goesL_ (some 36) rfl rfl Tryd.func11 (by kernel_rfl) rfl #[.agg #[.int .i64 a0_0, .int .i64 a0_1, .int .i64 a0_2, .slice A0_3 l0_3.length c0_3]] rfl zee81 ?_; (with_reducible refine (laws_toBoard.calls k a0_0 a0_1 a0_2 _ _ l0_3 q3 q4 q5 q6 _ ?s1 ?s2 HE3.out).mono ?_); (case s1 => exact Kd.C_below HR0_3.out HB.out); (case s2 => exact HC0_3.out); rintro e wv9 ⟨v3_, he_, ho_v3_, hb⟩; subst he_; refine ⟨_, rfl, ?_⟩; (try clear hcLO1_0 hcLO1_1 hcLO1_2 hcLO1_3 hfLO1_0 hfLO1_1 hfLO1_2 hfLO1_3); obtain ⟨lo4_, hi4_, el_, hL_, eh_⟩ := Loc.newS (Kd.S_mono ho_v3_ (fun _ _ => trivial)) HB.out; have LO4 := aM hL_; have ORLO4 := aM (show hi3_ ≤ lo4_ from (by rw [el_]; exact LO3.out.size)); have OQLO4 := aM (show lo4_ ≤ hi4_ from (by rw [el_, eh_]; exact hb.size)); obtain ⟨ALO4, cLO4, ev_⟩ := Kd.S_slice ho_v3_; subst ev_; clear el_ hL_ eh_ ho_v3_; replace LO1 := aM (LO1.out.below hb); replace LO2 := aM (LO2.out.below hb); replace LO3 := aM (LO3.out.below hb); replace HB := aM (below_after HB.out hb); clear hb) | ((with_reducible refine gate_dst (N := 8) rfl ?_); refine box_event ?hg (N := 8) ?hd (cs := #[.int .i64 0, .int .i64 0, .int .i64 0, .slice none 0 0]) (t := 42) ?hr ?_; (case hd => rfl); (case hg => rfl); (case hr => first | (go_simp; done) | (go_simp; rfl)); intro b4_ hg wv10 hbox hb; have LO5 := aM (Loc.box hbox); have el_ := hg; have ORLO5 := aM (show hi4_ ≤ b4_ from (by rw [el_]; exact LO4.out.size)); have OQLO5 := aM (show b4_ ≤ (b4_ + 1) from Nat.le_succ _); have HWLO5 := aM (show w.heap.size ≤ b4_ from (by rw [hg]; exact HB.out.size)); replace LO1 := aM (LO1.out.below hb); replace LO2 := aM (LO2.out.below hb); replace LO3 := aM (LO3.out.below hb); replace LO4 := aM (LO4.out.below hb); replace HB := aM (below_after HB.out hb); clear hg hbox hb el_; obtain ⟨hcLO5_0, hcLO5_1, hcLO5_2, hcLO5_3, hfLO5_0, hfLO5_1, hfLO5_2, hfLO5_3⟩ := cellsZ4 LO5.out.now) | ((with_reducible refine gate_store (t := 42) (p := 8) rfl ?_); refine store_event (t := 42) (p := 8) (v := ?vo_wv11) (w1 := ((((wv10.setCell ⟨b4_, 0, none⟩ (.int .i64 q3)).setCell ⟨b4_, 1, none⟩ (.int .i64 q4)).setCell ⟨b4_, 2, none⟩ (.int .i64 q5)).setCell ⟨b4_, 3, none⟩ (.slice ALO4 q6.length cLO4))) ?hg ?ho ?hn ?hr ?_; (case ho => rfl); (case hg => rfl); (case hn => rfl); (case hr => first | (go_simp; done) | (go_simp; rfl)); intro wv11 hw; (try clear hcLO5_0 hcLO5_1 hcLO5_2 hcLO5_3 hfLO5_0 hfLO5_1 hfLO5_2 hfLO5_3); have ho_ : Only wv10 wv11 b4_ := (by rw [hw]; repeat (first | (with_reducible apply Only.set) | exact Only.refl _ _)); have := ORLO1.out; have := OQLO1.out; have := ORLO2.out; have := OQLO2.out; have := ORLO3.out; have := OQLO3.out; have := ORLO4.out; have := OQLO4.out; have := ORLO5.out; have := OQLO5.out; replace LO1 := aM (LO1.out.only ho_ (by omega)); replace LO2 := aM (LO2.out.only ho_ (by omega)); replace LO3 := aM (LO3.out.only ho_ (by omega)); replace LO4 := aM (LO4.out.only ho_ (by omega)); have hbx_ : wv11.heap[b4_]? = some (.cells #[.int .i64 q3, .int .i64 q4, .int .i64 q5, .slice ALO4 q6.length cLO4] 42 (0, 0)) := (by have BK_ := LO5.out.now; rw [hw]; first | (with_reducible exact blk_put9 BK_) | (with_reducible exact blk_put6 BK_) | (with_reducible exact blk_put4 BK_) | (apply blk_eqZ; (repeat (first | (with_reducible apply blk_put0) | exact BK_)); first | (simp only [List.setIfInBounds_toArray, List.set_cons_zero, List.set_cons_succ] <;> rfl) | rfl)); replace LO5 := aM (Loc.box hbx_); replace HB := aM (below_only HB.out HWLO5.out ho_); clear ho_ hbx_ hw; obtain ⟨hcLO2_0, hcLO2_1, hcLO2_2, hfLO2_0, hfLO2_1, hfLO2_2⟩ := cellsZ3 LO2.out.now) | ((with_reducible refine gate_callee (f := 12) rfl ?_); refine goesL_ (some 38) rfl rfl Tryd.func12 (by kernel_rfl) rfl #[.agg #[.string a1_0, .slice A1_1 l1_1.length c1_1, .int .i64 a1_2]] rfl zee81 ?_; (with_reducible refine (laws_toKey.calls k a1_0 _ _ l1_1 a1_2 q7 q8 q9 _ ?s1 ?s2 HE4.out).mono ?_); (case s1 => exact Kd.C_below HR1_1.out HB.out); (case s2 => exact HC1_1.out); rintro e wv12 ⟨v1_, he_, ho_v1_, hb⟩; subst he_; refine ⟨_, rfl, ?_⟩; (try clear hcLO2_0 hcLO2_1 hcLO2_2 hfLO2_0 hfLO2_1 hfLO2_2); obtain ⟨lo6_, hi6_, el_, hL_, eh_⟩ := Loc.newR (Kd.R_mono ho_v1_ (fun _ _ => trivial)) HB.out; have LO6 := aM hL_; have ORLO6 := aM (show (b4_ + 1) ≤ lo6_ from (by rw [el_]; exact LO5.out.size)); have OQLO6 := aM (show lo6_ ≤ hi6_ from (by rw [el_, eh_]; exact hb.size)); obtain ⟨ALO6, cLO6, ev_⟩ := Kd.R_slice ho_v1_; subst ev_; clear el_ hL_ eh_ ho_v1_; replace LO1 := aM (LO1.out.below hb); replace LO2 := aM (LO2.out.below hb); replace LO3 := aM (LO3.out.below hb); replace LO4 := aM (LO4.out.below hb); replace LO5 := aM (LO5.out.below hb); replace HB := aM (below_after HB.out hb); clear hb) | ((with_reducible refine gate_dst (N := 9) rfl ?_); refine box_event ?hg (N := 9) ?hd (cs := #[.string (⟨#[]⟩ : ByteArray), .slice none 0 0, .int .i64 0]) (t := 32) ?hr ?_; (case hd => rfl); (case hg => rfl); (case hr => first | (go_simp; done) | (go_simp; rfl)); intro b5_ hg wv13 hbox hb; have LO7 := aM (Loc.box hbox); have el_ := hg; have ORLO7 := aM (show hi6_ ≤ b5_ from (by rw [el_]; exact LO6.out.size)); have OQLO7 := aM (show b5_ ≤ (b5_ + 1) from Nat.le_succ _); have HWLO7 := aM (show w.heap.size ≤ b5_ from (by rw [hg]; exact HB.out.size)); replace LO1 := aM (LO1.out.below hb); replace LO2 := aM (LO2.out.below hb); replace LO3 := aM (LO3.out.below hb); replace LO4 := aM (LO4.out.below hb); replace LO5 := aM (LO5.out.below hb); replace LO6 := aM (LO6.out.below hb); replace HB := aM (below_after HB.out hb); clear hg hbox hb el_; obtain ⟨hcLO7_0, hcLO7_1, hcLO7_2, hfLO7_0, hfLO7_1, hfLO7_2⟩ := cellsZ3 LO7.out.now) | ((with_reducible refine gate_store (t := 32) (p := 9) rfl ?_); refine store_event (t := 32) (p := 9) (v := ?vo_wv14) (w1 := (((wv13.setCell ⟨b5_, 0, none⟩ (.string q7)).setCell ⟨b5_, 1, none⟩ (.slice ALO6 q8.length cLO6)).setCell ⟨b5_, 2, none⟩ (.int .i64 q9))) ?hg ?ho ?hn ?hr ?_; (case ho => rfl); (case hg => rfl); (case hn => rfl); (case hr => first | (go_simp; done) | (go_simp; rfl)); intro wv14 hw; (try clear hcLO7_0 hcLO7_1 hcLO7_2 hfLO7_0 hfLO7_1 hfLO7_2); have ho_ : Only wv13 wv14 b5_ := (by rw [hw]; repeat (first | (with_reducible apply Only.set) | exact Only.refl _ _)); have := ORLO1.out; have := OQLO1.out; have := ORLO2.out; have := OQLO2.out; have := ORLO3.out; have := OQLO3.out; have := ORLO4.out; have := OQLO4.out; have := ORLO5.out; have := OQLO5.out; have := ORLO6.out; have := OQLO6.out; have := ORLO7.out; have := OQLO7.out; replace LO1 := aM (LO1.out.only ho_ (by omega)); replace LO2 := aM (LO2.out.only ho_ (by omega)); replace LO3 := aM (LO3.out.only ho_ (by omega)); replace LO4 := aM (LO4.out.only ho_ (by omega)); replace LO5 := aM (LO5.out.only ho_ (by omega)); replace LO6 := aM (LO6.out.only ho_ (by omega)); have hbx_ : wv14.heap[b5_]? = some (.cells #[.string q7, .slice ALO6 q8.length cLO6, .int .i64 q9] 32 (0, 0)) := (by have BK_ := LO7.out.now; rw [hw]; first | (with_reducible exact blk_put9 BK_) | (with_reducible exact blk_put6 BK_) | (with_reducible exact blk_put4 BK_) | (apply blk_eqZ; (repeat (first | (with_reducible apply blk_put0) | exact BK_)); first | (simp only [List.setIfInBounds_toArray, List.set_cons_zero, List.set_cons_succ] <;> rfl) | rfl)); replace LO7 := aM (Loc.box hbx_); replace HB := aM (below_only HB.out HWLO7.out ho_); clear ho_ hbx_ hw; obtain ⟨hcLO5_0, hcLO5_1, hcLO5_2, hcLO5_3, hfLO5_0, hfLO5_1, hfLO5_2, hfLO5_3⟩ := cellsZ4 LO5.out.now; obtain ⟨hcLO7_0, hcLO7_1, hcLO7_2, hfLO7_0, hfLO7_1, hfLO7_2⟩ := cellsZ3 LO7.out.now) | ((with_reducible refine gate_callee (f := 13) rfl ?_); refine goesL_ (some 42) rfl rfl Tryd.func13 (by kernel_rfl) rfl #[.agg #[.int .i64 q3, .int .i64 q4, .int .i64 q5, .slice ALO4 q6.length cLO4], .agg #[.string q7, .slice ALO6 q8.length cLO6, .int .i64 q9]] rfl zee81 ?_; (with_reducible refine (impl_WinOf.calls k q3 q4 q5 _ _ q6 q7 _ _ q8 q9 q10 q11 q12 q13 q14 q15 q16 q17 q18 q19 q20 q21 _ ?s1 ?s2 ?s3 ?s4 HE6.out).mono ?_); (case s1 => exact LO4.out.readsS.2.2); (case s2 => exact LO4.out.readsS.2.1); (case s3 => exact LO6.out.readsR.2.2); (case s4 => exact LO6.out.readsR.2.1); rintro e wv15 ⟨v1_, v7_, he_, ho_v1_, ho_v7_, hb⟩; subst he_; refine ⟨_, rfl, ?_⟩; (try clear hcLO5_0 hcLO5_1 hcLO5_2 hcLO5_3 hfLO5_0 hfLO5_1 hfLO5_2 hfLO5_3 hcLO7_0 hcLO7_1 hcLO7_2 hfLO7_0 hfLO7_1 hfLO7_2); obtain ⟨lo8_, hi8_, el_, hL_, eh_⟩ := Loc.newRR (Kd.R_mono ho_v1_ (fun _ _ => trivial)) (Kd.R_mono ho_v7_ (fun _ _ => trivial)) HB.out; have LO8 := aM hL_; have ORLO8 := aM (show (b5_ + 1) ≤ lo8_ from (by rw [el_]; exact LO7.out.size)); have OQLO8 := aM (show lo8_ ≤ hi8_ from (by rw [el_, eh_]; exact hb.size)); obtain ⟨ALO8x, cLO8x, ev_⟩ := Kd.R_slice ho_v1_; subst ev_; obtain ⟨ALO8y, cLO8y, ev_⟩ := Kd.R_slice ho_v7_; subst ev_; clear el_ hL_ eh_ ho_v1_ ho_v7_; replace LO1 := aM (LO1.out.below hb); replace LO2 := aM (LO2.out.below hb); replace LO3 := aM (LO3.out.below hb); replace LO4 := aM (LO4.out.below hb); replace LO5 := aM (LO5.out.below hb); replace LO6 := aM (LO6.out.below hb); replace LO7 := aM (LO7.out.below hb); replace HB := aM (below_after HB.out hb); clear hb) | ((with_reducible refine gate_dst (N := 10) rfl ?_); refine box_event ?hg (N := 10) ?hd (cs := #[.string (⟨#[]⟩ : ByteArray), .slice none 0 0, .int .i64 0, .int .i64 0, .int .i64 0, .int .i64 0, .int .i64 0, .slice none 0 0, .bool false, .int .i64 0, .bool false]) (t := 37) ?hr ?_; (case hd => rfl); (case hg => rfl); (case hr => first | (go_simp; done) | (go_simp; rfl)); intro b6_ hg wv16 hbox hb; have LO9 := aM (Loc.box hbox); have el_ := hg; have ORLO9 := aM (show hi8_ ≤ b6_ from (by rw [el_]; exact LO8.out.size)); have OQLO9 := aM (show b6_ ≤ (b6_ + 1) from Nat.le_succ _); have HWLO9 := aM (show w.heap.size ≤ b6_ from (by rw [hg]; exact HB.out.size)); replace LO1 := aM (LO1.out.below hb); replace LO2 := aM (LO2.out.below hb); replace LO3 := aM (LO3.out.below hb); replace LO4 := aM (LO4.out.below hb); replace LO5 := aM (LO5.out.below hb); replace LO6 := aM (LO6.out.below hb); replace LO7 := aM (LO7.out.below hb); replace LO8 := aM (LO8.out.below hb); replace HB := aM (below_after HB.out hb); clear hg hbox hb el_; obtain ⟨hcLO9_0, hcLO9_1, hcLO9_2, hcLO9_3, hcLO9_4, hcLO9_5, hcLO9_6, hcLO9_7, hcLO9_8, hcLO9_9, hcLO9_10, hfLO9_0, hfLO9_1, hfLO9_2, hfLO9_3, hfLO9_4, hfLO9_5, hfLO9_6, hfLO9_7, hfLO9_8, hfLO9_9, hfLO9_10⟩ := cellsZ11 LO9.out.now) | ((with_reducible refine gate_store (t := 37) (p := 10) rfl ?_); refine store_event (t := 37) (p := 10) (v := ?vo_wv17) (w1 := (((((((((((wv16.setCell ⟨b6_, 0, none⟩ (.string q10)).setCell ⟨b6_, 1, none⟩ (.slice ALO8x q11.length cLO8x)).setCell ⟨b6_, 2, none⟩ (.int .i64 q12)).setCell ⟨b6_, 3, none⟩ (.int .i64 q13)).setCell ⟨b6_, 4, none⟩ (.int .i64 q14)).setCell ⟨b6_, 5, none⟩ (.int .i64 q15)).setCell ⟨b6_, 6, none⟩ (.int .i64 q16)).setCell ⟨b6_, 7, none⟩ (.slice ALO8y q17.length cLO8y)).setCell ⟨b6_, 8, none⟩ (.bool q18)).setCell ⟨b6_, 9, none⟩ (.int .i64 q19)).setCell ⟨b6_, 10, none⟩ (.bool q20))) ?hg ?ho ?hn ?hr ?_; (case ho => rfl); (case hg => rfl); (case hn => rfl); (case hr => first | (go_simp; done) | (go_simp; rfl)); intro wv17 hw; (try clear hcLO9_0 hcLO9_1 hcLO9_2 hcLO9_3 hcLO9_4 hcLO9_5 hcLO9_6 hcLO9_7 hcLO9_8 hcLO9_9 hcLO9_10 hfLO9_0 hfLO9_1 hfLO9_2 hfLO9_3 hfLO9_4 hfLO9_5 hfLO9_6 hfLO9_7 hfLO9_8 hfLO9_9 hfLO9_10); have ho_ : Only wv16 wv17 b6_ := (by rw [hw]; repeat (first | (with_reducible apply Only.set) | exact Only.refl _ _)); have := ORLO1.out; have := OQLO1.out; have := ORLO2.out; have := OQLO2.out; have := ORLO3.out; have := OQLO3.out; have := ORLO4.out; have := OQLO4.out; have := ORLO5.out; have := OQLO5.out; have := ORLO6.out; have := OQLO6.out; have := ORLO7.out; have := OQLO7.out; have := ORLO8.out; have := OQLO8.out; have := ORLO9.out; have := OQLO9.out; replace LO1 := aM (LO1.out.only ho_ (by omega)); replace LO2 := aM (LO2.out.only ho_ (by omega)); replace LO3 := aM (LO3.out.only ho_ (by omega)); replace LO4 := aM (LO4.out.only ho_ (by omega)); replace LO5 := aM (LO5.out.only ho_ (by omega)); replace LO6 := aM (LO6.out.only ho_ (by omega)); replace LO7 := aM (LO7.out.only ho_ (by omega)); replace LO8 := aM (LO8.out.only ho_ (by omega)); have hbx_ : wv17.heap[b6_]? = some (.cells #[.string q10, .slice ALO8x q11.length cLO8x, .int .i64 q12, .int .i64 q13, .int .i64 q14, .int .i64 q15, .int .i64 q16, .slice ALO8y q17.length cLO8y, .bool q18, .int .i64 q19, .bool q20] 37 (0, 0)) := (by have BK_ := LO9.out.now; rw [hw]; first | (with_reducible exact blk_put11 BK_) | (with_reducible exact blk_put9 BK_) | (with_reducible exact blk_put6 BK_) | (with_reducible exact blk_put4 BK_) | (apply blk_eqZ; (repeat (first | (with_reducible apply blk_put0) | exact BK_)); first | (simp only [List.setIfInBounds_toArray, List.set_cons_zero, List.set_cons_succ] <;> rfl) | rfl)); replace LO9 := aM (Loc.box hbx_); replace HB := aM (below_only HB.out HWLO9.out ho_); clear ho_ hbx_ hw; obtain ⟨hcLO9_0, hcLO9_1, hcLO9_2, hcLO9_3, hcLO9_4, hcLO9_5, hcLO9_6, hcLO9_7, hcLO9_8, hcLO9_9, hcLO9_10, hfLO9_0, hfLO9_1, hfLO9_2, hfLO9_3, hfLO9_4, hfLO9_5, hfLO9_6, hfLO9_7, hfLO9_8, hfLO9_9, hfLO9_10⟩ := cellsZ11 LO9.out.now; obtain ⟨hcLO3_0, hcLO3_1, hcLO3_2, hcLO3_3, hcLO3_4, hcLO3_5, hcLO3_6, hcLO3_7, hcLO3_8, hcLO3_9, hcLO3_10, hfLO3_0, hfLO3_1, hfLO3_2, hfLO3_3, hfLO3_4, hfLO3_5, hfLO3_6, hfLO3_7, hfLO3_8, hfLO3_9, hfLO3_10⟩ := cellsZ11 LO3.out.now.1) | ((with_reducible refine gate_callee (f := 14) rfl ?_); refine goesL_ (some 47) rfl rfl Tryd.func14 (by kernel_rfl) rfl #[.agg #[.string q10, .slice ALO8x q11.length cLO8x, .int .i64 q12, .int .i64 q13, .int .i64 q14, .int .i64 q15, .int .i64 q16, .slice ALO8y q17.length cLO8y, .bool q18, .int .i64 q19, .bool q20], .agg #[.string q10, .slice Au8_2v1 q11.length cu8_2v1, .int .i64 q12, .int .i64 q13, .int .i64 q14, .int .i64 q15, .int .i64 q16, .slice Au8_2v7 q17.length cu8_2v7, .bool q18, .int .i64 q19, .bool q20]] rfl zee81 ?_; (with_reducible refine (laws_eqWin.calls k q10 _ _ q11 q12 q13 q14 q15 q16 _ _ q17 q18 q19 q20 q10 _ _ q11 q12 q13 q14 q15 q16 _ _ q17 q18 q19 q20 true _ ?s1 ?s2 ?s3 ?s4 ?s5 ?s6 ?s7 ?s8 HE7.out).mono ?_); (case s1 => exact LO8.out.readsRR1.2.2); (case s2 => exact LO8.out.readsRR1.2.1); (case s3 => exact LO8.out.readsRR2.2.2); (case s4 => exact LO8.out.readsRR2.2.1); (case s5 => exact LO3.out.readsBRR1.2.2); (case s6 => exact LO3.out.readsBRR1.2.1); (case s7 => exact LO3.out.readsBRR2.2.2); (case s8 => exact LO3.out.readsBRR2.2.1); rintro e wv18 ⟨he_, hb⟩; subst he_; refine ⟨_, rfl, ?_⟩; (try clear hcLO9_0 hcLO9_1 hcLO9_2 hcLO9_3 hcLO9_4 hcLO9_5 hcLO9_6 hcLO9_7 hcLO9_8 hcLO9_9 hcLO9_10 hfLO9_0 hfLO9_1 hfLO9_2 hfLO9_3 hfLO9_4 hfLO9_5 hfLO9_6 hfLO9_7 hfLO9_8 hfLO9_9 hfLO9_10 hcLO3_0 hcLO3_1 hcLO3_2 hcLO3_3 hcLO3_4 hcLO3_5 hcLO3_6 hcLO3_7 hcLO3_8 hcLO3_9 hcLO3_10 hfLO3_0 hfLO3_1 hfLO3_2 hfLO3_3 hfLO3_4 hfLO3_5 hfLO3_6 hfLO3_7 hfLO3_8 hfLO3_9 hfLO3_10); replace LO1 := aM (LO1.out.below hb); replace LO2 := aM (LO2.out.below hb); replace LO3 := aM (LO3.out.below hb); replace LO4 := aM (LO4.out.below hb); replace LO5 := aM (LO5.out.below hb); replace LO6 := aM (LO6.out.below hb); replace LO7 := aM (LO7.out.below hb); replace LO8 := aM (LO8.out.below hb); replace LO9 := aM (LO9.out.below hb); replace HB := aM (below_after HB.out hb); clear hb))
 obtain ⟨hcLO5_0, hcLO5_1, hcLO5_2, hcLO5_3, hfLO5_0, hfLO5_1, hfLO5_2, hfLO5_3⟩ := cellsZ4 LO5.out.now
 obtain ⟨hcLO1_0, hcLO1_1, hcLO1_2, hcLO1_3, hfLO1_0, hfLO1_1, hfLO1_2, hfLO1_3⟩ := cellsZ4 LO1.out.now
 go_region_held3 (fun W_ => W_.cell? ⟨b4_, 0, none⟩ = some (.int .i64 q3) ∧ W_.cell? ⟨b4_, 1, none⟩ = some (.int .i64 q4) ∧ W_.cell? ⟨b4_, 2, none⟩ = some (.int .i64 q5) ∧ W_.cell? ⟨b4_, 3, none⟩ = some (.slice ALO4 q6.length cLO4) ∧ W_.cell? ⟨b1_, 0, none⟩ = some (.int .i64 a0_0) ∧ W_.cell? ⟨b1_, 1, none⟩ = some (.int .i64 a0_1) ∧ W_.cell? ⟨b1_, 2, none⟩ = some (.int .i64 a0_2) ∧ W_.cell? ⟨b1_, 3, none⟩ = some (.slice A0_3 l0_3.length c0_3)) (exact ⟨hcLO5_0, hcLO5_1, hcLO5_2, hcLO5_3, hcLO1_0, hcLO1_1, hcLO1_2, hcLO1_3⟩) (first | (go_at_call 11; have hb := (below_drew (Below.refl _ _) : Below wv18.heap.size wv18 wv18.drew); replace LO1 := aM (LO1.out.below hb); replace LO2 := aM (LO2.out.below hb); replace LO3 := aM (LO3.out.below hb); replace LO4 := aM (LO4.out.below hb); replace LO5 := aM (LO5.out.below hb); replace LO6 := aM (LO6.out.below hb); replace LO7 := aM (LO7.out.below hb); replace LO8 := aM (LO8.out.below hb); replace LO9 := aM (LO9.out.below hb); replace HB := aM (below_after HB.out hb); clear hb; (with_reducible refine (laws_toBoard.calls k a0_0 a0_1 a0_2 _ _ l0_3 q3 q4 q5 q6 _ ?s1 ?s2 HE3.out).mono ?_); (case s1 => exact Kd.C_below HR0_3.out HB.out); (case s2 => exact HC0_3.out); rintro e wv19 ⟨v3_, he_, ho_v3_, hb⟩; subst he_; clear hcLO5_0 hcLO5_1 hcLO5_2 hcLO5_3 hfLO5_0 hfLO5_1 hfLO5_2 hfLO5_3 hcLO1_0 hcLO1_1 hcLO1_2 hcLO1_3 hfLO1_0 hfLO1_1 hfLO1_2 hfLO1_3; obtain ⟨lo10_, hi10_, el_, hL_, eh_⟩ := Loc.newS (Kd.S_mono ho_v3_ (fun _ _ => trivial)) HB.out; have LO10 := aM hL_; have ORLO10 := aM (show (b6_ + 1) ≤ lo10_ from (by rw [el_]; exact LO9.out.size)); have OQLO10 := aM (show lo10_ ≤ hi10_ from (by rw [el_, eh_]; exact hb.size)); obtain ⟨ALO10, cLO10, ev_⟩ := Kd.S_slice ho_v3_; subst ev_; clear el_ hL_ eh_ ho_v3_; replace LO1 := aM (LO1.out.below hb); replace LO2 := aM (LO2.out.below hb); replace LO3 := aM (LO3.out.below hb); replace LO4 := aM (LO4.out.below hb); replace LO5 := aM (LO5.out.below hb); replace LO6 := aM (LO6.out.below hb); replace LO7 := aM (LO7.out.below hb); replace LO8 := aM (LO8.out.below hb); replace LO9 := aM (LO9.out.below hb); replace HB := aM (below_after HB.out hb); clear hb; obtain ⟨hcLO5_0, hcLO5_1, hcLO5_2, hcLO5_3, hfLO5_0, hfLO5_1, hfLO5_2, hfLO5_3⟩ := cellsZ4 LO5.out.now; obtain ⟨hcLO1_0, hcLO1_1, hcLO1_2, hcLO1_3, hfLO1_0, hfLO1_1, hfLO1_2, hfLO1_3⟩ := cellsZ4 LO1.out.now) | (go_at_call 15; (with_reducible refine (laws_eqBoard.calls k q3 q4 q5 _ _ q6 q3 q4 q5 _ _ q6 true _ ?s1 ?s2 ?s3 ?s4 HE8.out).mono ?_); (case s1 => exact LO4.out.readsS.2.2); (case s2 => exact LO4.out.readsS.2.1); (case s3 => exact LO10.out.readsS.2.2); (case s4 => exact LO10.out.readsS.2.1); rintro e wv20 ⟨he_, hb⟩; subst he_; clear hcLO5_0 hcLO5_1 hcLO5_2 hcLO5_3 hfLO5_0 hfLO5_1 hfLO5_2 hfLO5_3 hcLO1_0 hcLO1_1 hcLO1_2 hcLO1_3 hfLO1_0 hfLO1_1 hfLO1_2 hfLO1_3; replace LO1 := aM (LO1.out.below hb); replace LO2 := aM (LO2.out.below hb); replace LO3 := aM (LO3.out.below hb); replace LO4 := aM (LO4.out.below hb); replace LO5 := aM (LO5.out.below hb); replace LO6 := aM (LO6.out.below hb); replace LO7 := aM (LO7.out.below hb); replace LO8 := aM (LO8.out.below hb); replace LO9 := aM (LO9.out.below hb); replace LO10 := aM (LO10.out.below hb); replace HB := aM (below_after HB.out hb); clear hb; obtain ⟨hcLO5_0, hcLO5_1, hcLO5_2, hcLO5_3, hfLO5_0, hfLO5_1, hfLO5_2, hfLO5_3⟩ := cellsZ4 LO5.out.now; obtain ⟨hcLO1_0, hcLO1_1, hcLO1_2, hcLO1_3, hfLO1_0, hfLO1_1, hfLO1_2, hfLO1_3⟩ := cellsZ4 LO1.out.now))
 go_wp2
 try clear hcLO5_0 hcLO5_1 hcLO5_2 hcLO5_3 hfLO5_0 hfLO5_1 hfLO5_2 hfLO5_3 hcLO1_0 hcLO1_1 hcLO1_2 hcLO1_3 hfLO1_0 hfLO1_1 hfLO1_2 hfLO1_3
 obtain ⟨hcLO7_0, hcLO7_1, hcLO7_2, hfLO7_0, hfLO7_1, hfLO7_2⟩ := cellsZ3 LO7.out.now
 obtain ⟨hcLO2_0, hcLO2_1, hcLO2_2, hfLO2_0, hfLO2_1, hfLO2_2⟩ := cellsZ3 LO2.out.now
 go_region_held3 (fun W_ => W_.cell? ⟨b5_, 0, none⟩ = some (.string q7) ∧ W_.cell? ⟨b5_, 1, none⟩ = some (.slice ALO6 q8.length cLO6) ∧ W_.cell? ⟨b5_, 2, none⟩ = some (.int .i64 q9) ∧ W_.cell? ⟨b2_, 0, none⟩ = some (.string a1_0) ∧ W_.cell? ⟨b2_, 1, none⟩ = some (.slice A1_1 l1_1.length c1_1) ∧ W_.cell? ⟨b2_, 2, none⟩ = some (.int .i64 a1_2)) (exact ⟨hcLO7_0, hcLO7_1, hcLO7_2, hcLO2_0, hcLO2_1, hcLO2_2⟩) (first | (go_at_call 12; have hb := (below_drew (Below.refl _ _) : Below wv20.heap.size wv20 wv20.drew); replace LO1 := aM (LO1.out.below hb); replace LO2 := aM (LO2.out.below hb); replace LO3 := aM (LO3.out.below hb); replace LO4 := aM (LO4.out.below hb); replace LO5 := aM (LO5.out.below hb); replace LO6 := aM (LO6.out.below hb); replace LO7 := aM (LO7.out.below hb); replace LO8 := aM (LO8.out.below hb); replace LO9 := aM (LO9.out.below hb); replace LO10 := aM (LO10.out.below hb); replace HB := aM (below_after HB.out hb); clear hb; (with_reducible refine (laws_toKey.calls k a1_0 _ _ l1_1 a1_2 q7 q8 q9 _ ?s1 ?s2 HE4.out).mono ?_); (case s1 => exact Kd.C_below HR1_1.out HB.out); (case s2 => exact HC1_1.out); rintro e wv21 ⟨v1_, he_, ho_v1_, hb⟩; subst he_; clear hcLO7_0 hcLO7_1 hcLO7_2 hfLO7_0 hfLO7_1 hfLO7_2 hcLO2_0 hcLO2_1 hcLO2_2 hfLO2_0 hfLO2_1 hfLO2_2; obtain ⟨lo11_, hi11_, el_, hL_, eh_⟩ := Loc.newR (Kd.R_mono ho_v1_ (fun _ _ => trivial)) HB.out; have LO11 := aM hL_; have ORLO11 := aM (show hi10_ ≤ lo11_ from (by rw [el_]; exact LO10.out.size)); have OQLO11 := aM (show lo11_ ≤ hi11_ from (by rw [el_, eh_]; exact hb.size)); obtain ⟨ALO11, cLO11, ev_⟩ := Kd.R_slice ho_v1_; subst ev_; clear el_ hL_ eh_ ho_v1_; replace LO1 := aM (LO1.out.below hb); replace LO2 := aM (LO2.out.below hb); replace LO3 := aM (LO3.out.below hb); replace LO4 := aM (LO4.out.below hb); replace LO5 := aM (LO5.out.below hb); replace LO6 := aM (LO6.out.below hb); replace LO7 := aM (LO7.out.below hb); replace LO8 := aM (LO8.out.below hb); replace LO9 := aM (LO9.out.below hb); replace LO10 := aM (LO10.out.below hb); replace HB := aM (below_after HB.out hb); clear hb; obtain ⟨hcLO7_0, hcLO7_1, hcLO7_2, hfLO7_0, hfLO7_1, hfLO7_2⟩ := cellsZ3 LO7.out.now; obtain ⟨hcLO2_0, hcLO2_1, hcLO2_2, hfLO2_0, hfLO2_1, hfLO2_2⟩ := cellsZ3 LO2.out.now) | (go_at_call 16; (with_reducible refine (laws_eqKey.calls k q7 _ _ q8 q9 q7 _ _ q8 q9 true _ ?s1 ?s2 ?s3 ?s4 HE9.out).mono ?_); (case s1 => exact LO6.out.readsR.2.2); (case s2 => exact LO6.out.readsR.2.1); (case s3 => exact LO11.out.readsR.2.2); (case s4 => exact LO11.out.readsR.2.1); rintro e wv22 ⟨he_, hb⟩; subst he_; clear hcLO7_0 hcLO7_1 hcLO7_2 hfLO7_0 hfLO7_1 hfLO7_2 hcLO2_0 hcLO2_1 hcLO2_2 hfLO2_0 hfLO2_1 hfLO2_2; replace LO1 := aM (LO1.out.below hb); replace LO2 := aM (LO2.out.below hb); replace LO3 := aM (LO3.out.below hb); replace LO4 := aM (LO4.out.below hb); replace LO5 := aM (LO5.out.below hb); replace LO6 := aM (LO6.out.below hb); replace LO7 := aM (LO7.out.below hb); replace LO8 := aM (LO8.out.below hb); replace LO9 := aM (LO9.out.below hb); replace LO10 := aM (LO10.out.below hb); replace LO11 := aM (LO11.out.below hb); replace HB := aM (below_after HB.out hb); clear hb; obtain ⟨hcLO7_0, hcLO7_1, hcLO7_2, hfLO7_0, hfLO7_1, hfLO7_2⟩ := cellsZ3 LO7.out.now; obtain ⟨hcLO2_0, hcLO2_1, hcLO2_2, hfLO2_0, hfLO2_1, hfLO2_2⟩ := cellsZ3 LO2.out.now))
 obtain ⟨hcLO5_0, hcLO5_1, hcLO5_2, hcLO5_3, hfLO5_0, hfLO5_1, hfLO5_2, hfLO5_3⟩ := cellsZ4 LO5.out.now
 go_upto_region 31 with (first | ((with_reducible refine gate_callee (f := 17) rfl ?_); refine goesL_ (some 66) rfl rfl Tryd.func17 (by kernel_rfl) rfl #[.agg #[.int .i64 q3, .int .i64 q4, .int .i64 q5, .slice ALO4 q6.length cLO4], .int .i64 1] rfl zee81 ?_; (with_reducible refine (laws_markBoard.calls k (fun k => lo4_ ≤ k ∧ k < hi4_) q3 q4 q5 (.slice ALO4 q6.length cLO4) q6 1 q22 q23 w _ ?s1 ?s2 HE10.out).mono ?_); (case s1 => exact HB.out); (case s2 => exact LO4.out.now); rintro e wv23 ⟨he_, hs, hB2, hk⟩; subst he_; refine ⟨_, rfl, ?_⟩; (try clear hcLO7_0 hcLO7_1 hcLO7_2 hfLO7_0 hfLO7_1 hfLO7_2 hcLO2_0 hcLO2_1 hcLO2_2 hfLO2_0 hfLO2_1 hfLO2_2 hcLO5_0 hcLO5_1 hcLO5_2 hcLO5_3 hfLO5_0 hfLO5_1 hfLO5_2 hfLO5_3); have hi_ := LO4.out.size; have := ORLO1.out; have := OQLO1.out; have := ORLO2.out; have := OQLO2.out; have := ORLO3.out; have := OQLO3.out; have := ORLO4.out; have := OQLO4.out; have := ORLO5.out; have := OQLO5.out; have := ORLO6.out; have := OQLO6.out; have := ORLO7.out; have := OQLO7.out; have := ORLO8.out; have := OQLO8.out; have := ORLO9.out; have := OQLO9.out; have := ORLO10.out; have := OQLO10.out; have := ORLO11.out; have := OQLO11.out; replace LO1 := aM (LO1.out.apart hk (by omega)); replace LO2 := aM (LO2.out.apart hk (by omega)); replace LO3 := aM (LO3.out.apart hk (by omega)); replace LO5 := aM (LO5.out.apart hk (by omega)); replace LO6 := aM (LO6.out.apart hk (by omega)); replace LO7 := aM (LO7.out.apart hk (by omega)); replace LO8 := aM (LO8.out.apart hk (by omega)); replace LO9 := aM (LO9.out.apart hk (by omega)); replace LO10 := aM (LO10.out.apart hk (by omega)); replace LO11 := aM (LO11.out.apart hk (by omega)); replace LO4 := aM (Loc.ofS (Nat.le_trans hi_ hk.1) hs); replace HB := aM hB2; have HN23 := aM ((LO4.out.readsS).1 : q6.length = q23.length); clear hs hB2 hk hi_; rw [HN23.out] at LO5; obtain ⟨hcLO7_0, hcLO7_1, hcLO7_2, hfLO7_0, hfLO7_1, hfLO7_2⟩ := cellsZ3 LO7.out.now) | ((with_reducible refine gate_callee (f := 18) rfl ?_); refine goesL_ (some 69) rfl rfl Tryd.func18 (by kernel_rfl) rfl #[.agg #[.string q7, .slice ALO6 q8.length cLO6, .int .i64 q9], .int .i64 q22] rfl zee81 ?_; (with_reducible refine (laws_markKey.calls k q7 (fun k => lo6_ ≤ k ∧ k < hi6_) (.slice ALO6 q8.length cLO6) q8 q9 q22 q24 q25 w _ ?s1 ?s2 HE11.out).mono ?_); (case s1 => exact HB.out); (case s2 => exact LO6.out.now); rintro e wv24 ⟨he_, hs, hB2, hk⟩; subst he_; refine ⟨_, rfl, ?_⟩; (try clear hcLO7_0 hcLO7_1 hcLO7_2 hfLO7_0 hfLO7_1 hfLO7_2); have hi_ := LO6.out.size; have hs2_ := Kd.R_mono (Kd.R_tight rfl hs) (fun k_ e_ => (LO6.out.now).1 k_ e_.symm); clear hs; have hs := hs2_; clear hs2_; have := ORLO1.out; have := OQLO1.out; have := ORLO2.out; have := OQLO2.out; have := ORLO3.out; have := OQLO3.out; have := ORLO4.out; have := OQLO4.out; have := ORLO5.out; have := OQLO5.out; have := ORLO6.out; have := OQLO6.out; have := ORLO7.out; have := OQLO7.out; have := ORLO8.out; have := OQLO8.out; have := ORLO9.out; have := OQLO9.out; have := ORLO10.out; have := OQLO10.out; have := ORLO11.out; have := OQLO11.out; replace LO1 := aM (LO1.out.apart hk (by omega)); replace LO2 := aM (LO2.out.apart hk (by omega)); replace LO3 := aM (LO3.out.apart hk (by omega)); replace LO4 := aM (LO4.out.apart hk (by omega)); replace LO5 := aM (LO5.out.apart hk (by omega)); replace LO7 := aM (LO7.out.apart hk (by omega)); replace LO8 := aM (LO8.out.apart hk (by omega)); replace LO9 := aM (LO9.out.apart hk (by omega)); replace LO10 := aM (LO10.out.apart hk (by omega)); replace LO11 := aM (LO11.out.apart hk (by omega)); replace LO6 := aM (Loc.ofR (Nat.le_trans hi_ hk.1) hs); replace HB := aM hB2; have HN24 := aM ((LO6.out.readsR).1 : q8.length = q25.length); clear hs hB2 hk hi_; rw [HN24.out] at LO7; obtain ⟨hcLO9_0, hcLO9_1, hcLO9_2, hcLO9_3, hcLO9_4, hcLO9_5, hcLO9_6, hcLO9_7, hcLO9_8, hcLO9_9, hcLO9_10, hfLO9_0, hfLO9_1, hfLO9_2, hfLO9_3, hfLO9_4, hfLO9_5, hfLO9_6, hfLO9_7, hfLO9_8, hfLO9_9, hfLO9_10⟩ := cellsZ11 LO9.out.now; obtain ⟨hcLO3_0, hcLO3_1, hcLO3_2, hcLO3_3, hcLO3_4, hcLO3_5, hcLO3_6, hcLO3_7, hcLO3_8, hcLO3_9, hcLO3_10, hfLO3_0, hfLO3_1, hfLO3_2, hfLO3_3, hfLO3_4, hfLO3_5, hfLO3_6, hfLO3_7, hfLO3_8, hfLO3_9, hfLO3_10⟩ := cellsZ11 LO3.out.now.1) | (go_at_call 14; (with_reducible refine (laws_eqWin.calls k q10 _ _ q11 q12 q13 q14 q15 q16 _ _ q17 q18 q19 q20 q10 _ _ q11 q12 q13 q14 q15 q16 _ _ q17 q18 q19 q20 true _ ?s1 ?s2 ?s3 ?s4 ?s5 ?s6 ?s7 ?s8 HE7.out).mono ?_); (case s1 => exact LO8.out.readsRR1.2.2); (case s2 => exact LO8.out.readsRR1.2.1); (case s3 => exact LO8.out.readsRR2.2.2); (case s4 => exact LO8.out.readsRR2.2.1); (case s5 => exact LO3.out.readsBRR1.2.2); (case s6 => exact LO3.out.readsBRR1.2.1); (case s7 => exact LO3.out.readsBRR2.2.2); (case s8 => exact LO3.out.readsBRR2.2.1); rintro e wv25 ⟨he_, hb⟩; subst he_; (try clear hcLO9_0 hcLO9_1 hcLO9_2 hcLO9_3 hcLO9_4 hcLO9_5 hcLO9_6 hcLO9_7 hcLO9_8 hcLO9_9 hcLO9_10 hfLO9_0 hfLO9_1 hfLO9_2 hfLO9_3 hfLO9_4 hfLO9_5 hfLO9_6 hfLO9_7 hfLO9_8 hfLO9_9 hfLO9_10 hcLO3_0 hcLO3_1 hcLO3_2 hcLO3_3 hcLO3_4 hcLO3_5 hcLO3_6 hcLO3_7 hcLO3_8 hcLO3_9 hcLO3_10 hfLO3_0 hfLO3_1 hfLO3_2 hfLO3_3 hfLO3_4 hfLO3_5 hfLO3_6 hfLO3_7 hfLO3_8 hfLO3_9 hfLO3_10); replace LO1 := aM (LO1.out.below hb); replace LO2 := aM (LO2.out.below hb); replace LO3 := aM (LO3.out.below hb); replace LO4 := aM (LO4.out.below hb); replace LO5 := aM (LO5.out.below hb); replace LO6 := aM (LO6.out.below hb); replace LO7 := aM (LO7.out.below hb); replace LO8 := aM (LO8.out.below hb); replace LO9 := aM (LO9.out.below hb); replace LO10 := aM (LO10.out.below hb); replace LO11 := aM (LO11.out.below hb); replace HB := aM (below_after HB.out hb); clear hb; obtain ⟨hcLO9_0, hcLO9_1, hcLO9_2, hcLO9_3, hcLO9_4, hcLO9_5, hcLO9_6, hcLO9_7, hcLO9_8, hcLO9_9, hcLO9_10, hfLO9_0, hfLO9_1, hfLO9_2, hfLO9_3, hfLO9_4, hfLO9_5, hfLO9_6, hfLO9_7, hfLO9_8, hfLO9_9, hfLO9_10⟩ := cellsZ11 LO9.out.now) | ((with_reducible refine gate_callee (f := 19) rfl ?_); refine goesL_ (some 85) rfl rfl Tryd.func19 (by kernel_rfl) rfl #[.agg #[.string q10, .slice ALO8x q11.length cLO8x, .int .i64 q12, .int .i64 q13, .int .i64 q14, .int .i64 q15, .int .i64 q16, .slice ALO8y q17.length cLO8y, .bool q18, .int .i64 q19, .bool q20], .int .i64 1] rfl zee81 ?_; (with_reducible refine (laws_markWin.calls k q10 (fun k => lo8_ ≤ k ∧ k < hi8_) (.slice ALO8x q11.length cLO8x) q11 q12 q13 q14 q15 q16 (fun k => lo8_ ≤ k ∧ k < hi8_) (.slice ALO8y q17.length cLO8y) q17 q18 q19 q20 1 q26 q27 q28 w _ ?s1 ?s2 ?s3 HE12.out).mono ?_); (case s1 => exact HB.out); (case s2 => exact LO8.out.now.1); (case s3 => exact LO8.out.now.2); rintro e wv26 ⟨he_, hs, hs2x, hB2, hk⟩; subst he_; refine ⟨_, rfl, ?_⟩; (try clear hcLO9_0 hcLO9_1 hcLO9_2 hcLO9_3 hcLO9_4 hcLO9_5 hcLO9_6 hcLO9_7 hcLO9_8 hcLO9_9 hcLO9_10 hfLO9_0 hfLO9_1 hfLO9_2 hfLO9_3 hfLO9_4 hfLO9_5 hfLO9_6 hfLO9_7 hfLO9_8 hfLO9_9 hfLO9_10); have hi_ := LO8.out.size; replace hk := Kept.dup hk; have t1_ := Kd.R_mono (Kd.R_tight rfl hs) (fun k_ e_ => (LO8.out.now.1).1 k_ e_.symm); have t2_ := Kd.R_mono (Kd.R_tight rfl hs2x) (fun k_ e_ => (LO8.out.now.2).1 k_ e_.symm); clear hs hs2x; have := ORLO1.out; have := OQLO1.out; have := ORLO2.out; have := OQLO2.out; have := ORLO3.out; have := OQLO3.out; have := ORLO4.out; have := OQLO4.out; have := ORLO5.out; have := OQLO5.out; have := ORLO6.out; have := OQLO6.out; have := ORLO7.out; have := OQLO7.out; have := ORLO8.out; have := OQLO8.out; have := ORLO9.out; have := OQLO9.out; have := ORLO10.out; have := OQLO10.out; have := ORLO11.out; have := OQLO11.out; replace LO1 := aM (LO1.out.apart hk (by omega)); replace LO2 := aM (LO2.out.apart hk (by omega)); replace LO3 := aM (LO3.out.apart hk (by omega)); replace LO4 := aM (LO4.out.apart hk (by omega)); replace LO5 := aM (LO5.out.apart hk (by omega)); replace LO6 := aM (LO6.out.apart hk (by omega)); replace LO7 := aM (LO7.out.apart hk (by omega)); replace LO9 := aM (LO9.out.apart hk (by omega)); replace LO10 := aM (LO10.out.apart hk (by omega)); replace LO11 := aM (LO11.out.apart hk (by omega)); replace LO8 := aM (Loc.ofRR (Nat.le_trans hi_ hk.1) t1_ t2_); replace HB := aM hB2; have HN26 := aM ((LO8.out.readsRR1).1 : q11.length = q27.length); have HNb26 := aM ((LO8.out.readsRR2).1 : q17.length = q28.length); clear t1_ t2_ hB2 hk hi_; rw [HN26.out] at LO9; rw [HNb26.out] at LO9; obtain ⟨hcLO9_0, hcLO9_1, hcLO9_2, hcLO9_3, hcLO9_4, hcLO9_5, hcLO9_6, hcLO9_7, hcLO9_8, hcLO9_9, hcLO9_10, hfLO9_0, hfLO9_1, hfLO9_2, hfLO9_3, hfLO9_4, hfLO9_5, hfLO9_6, hfLO9_7, hfLO9_8, hfLO9_9, hfLO9_10⟩ := cellsZ11 LO9.out.now) | ((with_reducible refine gate_callee (f := 20) rfl ?_); refine goesL_ (some 88) rfl rfl Tryd.func20 (by kernel_rfl) rfl #[.agg #[.string q10, .slice ALO8x q27.length cLO8x, .int .i64 q12, .int .i64 q13, .int .i64 q14, .int .i64 q15, .int .i64 q16, .slice ALO8y q28.length cLO8y, .bool q18, .int .i64 q19, .bool q20], .int .i64 1] rfl zee81 ?_; (with_reducible refine (laws_heldWin.calls k q10 _ _ q27 q12 q13 q14 q15 q16 _ _ q28 q18 q19 q20 1 q26 _ ?s1 ?s2 ?s3 ?s4 HE13.out).mono ?_); (case s1 => exact LO8.out.readsRR1.2.2); (case s2 => exact LO8.out.readsRR1.2.1); (case s3 => exact LO8.out.readsRR2.2.2); (case s4 => exact LO8.out.readsRR2.2.1); rintro e wv27 ⟨he_, hb⟩; subst he_; refine ⟨_, rfl, ?_⟩; (try clear hcLO9_0 hcLO9_1 hcLO9_2 hcLO9_3 hcLO9_4 hcLO9_5 hcLO9_6 hcLO9_7 hcLO9_8 hcLO9_9 hcLO9_10 hfLO9_0 hfLO9_1 hfLO9_2 hfLO9_3 hfLO9_4 hfLO9_5 hfLO9_6 hfLO9_7 hfLO9_8 hfLO9_9 hfLO9_10); replace LO1 := aM (LO1.out.below hb); replace LO2 := aM (LO2.out.below hb); replace LO3 := aM (LO3.out.below hb); replace LO4 := aM (LO4.out.below hb); replace LO5 := aM (LO5.out.below hb); replace LO6 := aM (LO6.out.below hb); replace LO7 := aM (LO7.out.below hb); replace LO8 := aM (LO8.out.below hb); replace LO9 := aM (LO9.out.below hb); replace LO10 := aM (LO10.out.below hb); replace LO11 := aM (LO11.out.below hb); replace HB := aM (below_after HB.out hb); clear hb))
 (try simp only [Act.put, List.setIfInBounds_toArray, List.set_cons_zero, List.set_cons_succ])
 have hb := (below_drew (Below.refl _ _) : Below wv27.heap.size wv27 wv27.drew)
 replace LO1 := aM (LO1.out.below hb); replace LO2 := aM (LO2.out.below hb); replace LO3 := aM (LO3.out.below hb); replace LO4 := aM (LO4.out.below hb); replace LO5 := aM (LO5.out.below hb); replace LO6 := aM (LO6.out.below hb); replace LO7 := aM (LO7.out.below hb); replace LO8 := aM (LO8.out.below hb); replace LO9 := aM (LO9.out.below hb); replace LO10 := aM (LO10.out.below hb); replace LO11 := aM (LO11.out.below hb); replace HB := aM (below_after HB.out hb); clear hb
 have XB0 := aM LO1.out.now
 have XB1 := aM LO2.out.now
 refine sA 11 tab31_ok bit31_ok (fun W_ => W_.cell? ⟨b1_, 0, none⟩ = some (.int .i64 a0_0) ∧ W_.cell? ⟨b1_, 1, none⟩ = some (.int .i64 a0_1) ∧ W_.cell? ⟨b1_, 2, none⟩ = some (.int .i64 a0_2) ∧ W_.cell? ⟨b1_, 3, none⟩ = some (.slice A0_3 l0_3.length c0_3) ∧ W_.cell? ⟨b2_, 0, none⟩ = some (.string a1_0) ∧ W_.cell? ⟨b2_, 1, none⟩ = some (.slice A1_1 l1_1.length c1_1) ∧ W_.cell? ⟨b2_, 2, none⟩ = some (.int .i64 a1_2)) [9] (hS := ⟨(blk_cell XB0.out 0).trans rfl, (blk_cell XB0.out 1).trans rfl, (blk_cell XB0.out 2).trans rfl, (blk_cell XB0.out 3).trans rfl, (blk_cell XB1.out 0).trans rfl, (blk_cell XB1.out 1).trans rfl, (blk_cell XB1.out 2).trans rfl⟩) (fun hHeld HT_ HW_ => ?_)
 generalize wv27.drew = wq31 at LO1 LO2 LO3 LO4 LO5 LO6 LO7 LO8 LO9 LO10 LO11 HB XB0 XB1 hHeld ⊢
 refine tA 0 95 HT_ HW_ hHeld ?_; refine tA 2 97 HT_ HW_ hHeld ?_
 have HB0 := aM HB.out
 have HT := aM (Below.refl wq31.heap.size wq31)
 refine join_ (σ := Nat × Value × Value × Option Addr × Nat × Option Addr × Nat) 2 #[true, true, true, true, true, true, true, true, true, false, false] (fun s => [(96, s.2.1), (98, s.2.2.1), (99, .tuple #[.agg #[.string q10, .slice s.2.2.2.1 q11.length s.2.2.2.2.1, .int .i64 q12, .int .i64 q13, .int .i64 q14, .int .i64 q15, .int .i64 q16, .slice s.2.2.2.2.2.1 q17.length s.2.2.2.2.2.2, .bool q18, .int .i64 q19, .bool q20], .bool q21]), (94, .tuple #[.agg #[.string q10, .slice s.2.2.2.1 q11.length s.2.2.2.2.1, .int .i64 q12, .int .i64 q13, .int .i64 q14, .int .i64 q15, .int .i64 q16, .slice s.2.2.2.2.2.1 q17.length s.2.2.2.2.2.2, .bool q18, .int .i64 q19, .bool q20], .bool q21]), (100, .agg #[.string q10, .slice s.2.2.2.1 q11.length s.2.2.2.2.1, .int .i64 q12, .int .i64 q13, .int .i64 q14, .int .i64 q15, .int .i64 q16, .slice s.2.2.2.2.2.1 q17.length s.2.2.2.2.2.2, .bool q18, .int .i64 q19, .bool q20]), (101, .bool q21), (15, .pointer (some ⟨s.1, 0, none⟩))]) (fun s W_ => W_.heap[s.1]? = some (.cells #[.string (⟨#[]⟩ : ByteArray), .slice none 0 0, .int .i64 0, .int .i64 0, .int .i64 0, .int .i64 0, .int .i64 0, .slice none 0 0, .bool false, .int .i64 0, .bool false] 37 (0, 0)) ∧ Kd.R k123 123 W_ wq31.heap.size (fun _ => True) (.slice s.2.2.2.1 q11.length s.2.2.2.2.1) q11 ∧ Kd.R (Kd.int .i64) 3 W_ wq31.heap.size (fun _ => True) (.slice s.2.2.2.2.2.1 q17.length s.2.2.2.2.2.2) q17 ∧ Below wq31.heap.size wq31 W_ ∧ wq31.heap.size ≤ s.1) ?_ ?_
 rotate_left
 · intro hJ
   refine two_ (i := 1) (j := 8) (Ni := some 96) (Nj := some 15) #[true, true, true, false, false, false, false, false, false, false, false] #[true, false, true, false, false, false, false, false, true, false, false] rfl rfl rfl rfl (two_of HT_.out (by kernel_rfl)) (by decide) (by decide) (fun K hK => ?_) (fun K hK => ?_)
   · skip
     refine goes_ Tryd.func11 (by kernel_rfl) rfl #[.agg #[.int .i64 a0_0, .int .i64 a0_1, .int .i64 a0_2, .slice A0_3 l0_3.length c0_3]] (by rfl) rfl rfl zee81 ?_; (with_reducible refine (laws_toBoard.calls k a0_0 a0_1 a0_2 _ _ l0_3 q3 q4 q5 q6 _ ?s1 ?s2 HE3.out).mono ?_); (case s1 => exact Kd.C_below HR0_3.out HB.out); (case s2 => exact HC0_3.out); rintro e wv28 ⟨v3_, he_, ho_v3_, hb⟩; subst he_; refine ⟨_, rfl, ?_⟩; obtain ⟨Au31_0v3, cu31_0v3, ev_⟩ := Kd.S_slice ho_v3_; subst ev_; have CRu31_0v3 := aM (Kd.S_reads' ho_v3_).2.2; have CLu31_0v3 := aM (Kd.S_reads' ho_v3_).2.1; clear ho_v3_; replace HB := aM (below_after HB.out hb); replace HT := aM (below_after HT.out hb); replace XB0 := aM (blk_below XB0.out hb); replace XB1 := aM (blk_below XB1.out hb); clear hb
     refine hK.out _ _ ⟨(blk_cell XB0.out 0).trans rfl, (blk_cell XB0.out 1).trans rfl, (blk_cell XB0.out 2).trans rfl, (blk_cell XB0.out 3).trans rfl, (blk_cell XB1.out 0).trans rfl, (blk_cell XB1.out 1).trans rfl, (blk_cell XB1.out 2).trans rfl⟩ (fun hHeld => ?_); clear hK K; refine nA 96 ?_
     refine two_ (i := 3) (j := 8) (Ni := some 98) (Nj := some 15) #[true, true, true, true, false, false, false, false, false, false, false] #[true, true, true, false, false, false, false, false, true, false, false] rfl rfl rfl rfl (two_of HT_.out (by kernel_rfl)) (by decide) (by decide) (fun K hK => ?_) (fun K hK => ?_)
     · skip
       refine goes_ Tryd.func12 (by kernel_rfl) rfl #[.agg #[.string a1_0, .slice A1_1 l1_1.length c1_1, .int .i64 a1_2]] (by rfl) rfl rfl zee81 ?_; (with_reducible refine (laws_toKey.calls k a1_0 _ _ l1_1 a1_2 q7 q8 q9 _ ?s1 ?s2 HE4.out).mono ?_); (case s1 => exact Kd.C_below HR1_1.out HB.out); (case s2 => exact HC1_1.out); rintro e wv29 ⟨v1_, he_, ho_v1_, hb⟩; subst he_; refine ⟨_, rfl, ?_⟩; obtain ⟨Au31_1v1, cu31_1v1, ev_⟩ := Kd.R_slice ho_v1_; subst ev_; have CRu31_1v1 := aM (Kd.R_reads' ho_v1_).2.2; have CLu31_1v1 := aM (Kd.R_reads' ho_v1_).2.1; clear ho_v1_; replace CRu31_0v3 := aM (Kd.C_below CRu31_0v3.out hb); replace HB := aM (below_after HB.out hb); replace HT := aM (below_after HT.out hb); replace XB0 := aM (blk_below XB0.out hb); replace XB1 := aM (blk_below XB1.out hb); clear hb
       refine hK.out _ _ ⟨(blk_cell XB0.out 0).trans rfl, (blk_cell XB0.out 1).trans rfl, (blk_cell XB0.out 2).trans rfl, (blk_cell XB0.out 3).trans rfl, (blk_cell XB1.out 0).trans rfl, (blk_cell XB1.out 1).trans rfl, (blk_cell XB1.out 2).trans rfl⟩ (fun hHeld => ?_); clear hK K; refine nA 98 ?_
       refine two_ (i := 4) (j := 8) (Ni := some 99) (Nj := some 15) #[true, true, true, true, true, false, false, false, false, false, false] #[true, true, true, true, false, false, false, false, true, false, false] rfl rfl rfl rfl (two_of HT_.out (by kernel_rfl)) (by decide) (by decide) (fun K hK => ?_) (fun K hK => ?_)
       · skip
         refine goes_ Tryd.func13 (by kernel_rfl) rfl #[.agg #[.int .i64 q3, .int .i64 q4, .int .i64 q5, .slice Au31_0v3 q6.length cu31_0v3], .agg #[.string q7, .slice Au31_1v1 q8.length cu31_1v1, .int .i64 q9]] (by rfl) rfl rfl zee81 ?_; (with_reducible refine (impl_WinOf.calls k q3 q4 q5 _ _ q6 q7 _ _ q8 q9 q10 q11 q12 q13 q14 q15 q16 q17 q18 q19 q20 q21 _ ?s1 ?s2 ?s3 ?s4 HE6.out).mono ?_); (case s1 => exact CRu31_0v3.out); (case s2 => exact CLu31_0v3.out); (case s3 => exact CRu31_1v1.out); (case s4 => exact CLu31_1v1.out); rintro e wv30 ⟨v1_, v7_, he_, ho_v1_, ho_v7_, hb⟩; subst he_; refine ⟨_, rfl, ?_⟩; obtain ⟨Au31_2v1, cu31_2v1, ev_⟩ := Kd.R_slice ho_v1_; subst ev_; have RWu31_2v1 := aM (Kd.R_lower ho_v1_ HT.out.size); clear ho_v1_; obtain ⟨Au31_2v7, cu31_2v7, ev_⟩ := Kd.R_slice ho_v7_; subst ev_; have RWu31_2v7 := aM (Kd.R_lower ho_v7_ HT.out.size); clear ho_v7_; replace HB := aM (below_after HB.out hb); replace HT := aM (below_after HT.out hb); replace XB0 := aM (blk_below XB0.out hb); replace XB1 := aM (blk_below XB1.out hb); clear hb
         refine hK.out _ _ ⟨(blk_cell XB0.out 0).trans rfl, (blk_cell XB0.out 1).trans rfl, (blk_cell XB0.out 2).trans rfl, (blk_cell XB0.out 3).trans rfl, (blk_cell XB1.out 0).trans rfl, (blk_cell XB1.out 1).trans rfl, (blk_cell XB1.out 2).trans rfl⟩ (fun hHeld => ?_); clear hK K; refine nA 99 ?_
         refine pA 5 94 HT_ ?_; refine pA 6 100 HT_ ?_; refine pA 7 101 HT_ ?_
         refine oA 8 15 HT_ (fun K hK => ?_)
         · skip
           refine alloc_st (cs := #[.string (⟨#[]⟩ : ByteArray), .slice none 0 0, .int .i64 0, .int .i64 0, .int .i64 0, .int .i64 0, .int .i64 0, .slice none 0 0, .bool false, .int .i64 0, .bool false]) (t := 37) (by rfl) rfl ?hrun ?_; (case hrun => clear hHeld; first | (go_simp; done) | (go_simp; rfl)); intro b7_ hg wn hbox hb; have BQ := aM hbox; have GQ := aM (show wq31.heap.size ≤ b7_ from by rw [hg]; exact HT.out.size); replace HB := aM (below_after HB.out hb); replace HT := aM (below_after HT.out hb); replace XB0 := aM (blk_below XB0.out hb); replace XB1 := aM (blk_below XB1.out hb); replace RWu31_2v1 := aM (Kd.R_below RWu31_2v1.out hb); replace RWu31_2v7 := aM (Kd.R_below RWu31_2v7.out hb); clear hb hg hbox
           refine hK.out _ _ ⟨(blk_cell XB0.out 0).trans rfl, (blk_cell XB0.out 1).trans rfl, (blk_cell XB0.out 2).trans rfl, (blk_cell XB0.out 3).trans rfl, (blk_cell XB1.out 0).trans rfl, (blk_cell XB1.out 1).trans rfl, (blk_cell XB1.out 2).trans rfl⟩ (fun hHeld => ?_); clear hK K; refine nA 15 ?_
           exact norm_ (by simp only [putAll, Act.put, List.setIfInBounds_toArray, List.set_cons_zero, List.set_cons_succ]) (hJ (b7_, (.agg #[.int .i64 q3, .int .i64 q4, .int .i64 q5, .slice Au31_0v3 q6.length cu31_0v3] : Value), (.agg #[.string q7, .slice Au31_1v1 q8.length cu31_1v1, .int .i64 q9] : Value), Au31_2v1, cu31_2v1, Au31_2v7, cu31_2v7) _ ⟨BQ.out, RWu31_2v1.out, RWu31_2v7.out, HT.out, GQ.out⟩)
       · skip
         refine alloc_st (cs := #[.string (⟨#[]⟩ : ByteArray), .slice none 0 0, .int .i64 0, .int .i64 0, .int .i64 0, .int .i64 0, .int .i64 0, .slice none 0 0, .bool false, .int .i64 0, .bool false]) (t := 37) (by rfl) rfl ?hrun ?_; (case hrun => clear hHeld; first | (go_simp; done) | (go_simp; rfl)); intro b7_ hg wn hbox hb; have BQ := aM hbox; have GQ := aM (show wq31.heap.size ≤ b7_ from by rw [hg]; exact HT.out.size); replace HB := aM (below_after HB.out hb); replace HT := aM (below_after HT.out hb); replace XB0 := aM (blk_below XB0.out hb); replace XB1 := aM (blk_below XB1.out hb); replace CRu31_0v3 := aM (Kd.C_below CRu31_0v3.out hb); replace CRu31_1v1 := aM (Kd.C_below CRu31_1v1.out hb); clear hb hg hbox
         refine hK.out _ _ ⟨(blk_cell XB0.out 0).trans rfl, (blk_cell XB0.out 1).trans rfl, (blk_cell XB0.out 2).trans rfl, (blk_cell XB0.out 3).trans rfl, (blk_cell XB1.out 0).trans rfl, (blk_cell XB1.out 1).trans rfl, (blk_cell XB1.out 2).trans rfl⟩ (fun hHeld => ?_); clear hK K; refine nA 15 ?_
         refine oA 4 99 HT_ (fun K hK => ?_)
         · skip
           refine goes_ Tryd.func13 (by kernel_rfl) rfl #[.agg #[.int .i64 q3, .int .i64 q4, .int .i64 q5, .slice Au31_0v3 q6.length cu31_0v3], .agg #[.string q7, .slice Au31_1v1 q8.length cu31_1v1, .int .i64 q9]] (by rfl) rfl rfl zee81 ?_; (with_reducible refine (impl_WinOf.calls k q3 q4 q5 _ _ q6 q7 _ _ q8 q9 q10 q11 q12 q13 q14 q15 q16 q17 q18 q19 q20 q21 _ ?s1 ?s2 ?s3 ?s4 HE6.out).mono ?_); (case s1 => exact CRu31_0v3.out); (case s2 => exact CLu31_0v3.out); (case s3 => exact CRu31_1v1.out); (case s4 => exact CLu31_1v1.out); rintro e wv30 ⟨v1_, v7_, he_, ho_v1_, ho_v7_, hb⟩; subst he_; refine ⟨_, rfl, ?_⟩; obtain ⟨Au31_2v1, cu31_2v1, ev_⟩ := Kd.R_slice ho_v1_; subst ev_; have RWu31_2v1 := aM (Kd.R_lower ho_v1_ HT.out.size); clear ho_v1_; obtain ⟨Au31_2v7, cu31_2v7, ev_⟩ := Kd.R_slice ho_v7_; subst ev_; have RWu31_2v7 := aM (Kd.R_lower ho_v7_ HT.out.size); clear ho_v7_; replace HB := aM (below_after HB.out hb); replace HT := aM (below_after HT.out hb); replace XB0 := aM (blk_below XB0.out hb); replace XB1 := aM (blk_below XB1.out hb); replace BQ := aM (blk_below BQ.out hb); clear hb
           refine hK.out _ _ ⟨(blk_cell XB0.out 0).trans rfl, (blk_cell XB0.out 1).trans rfl, (blk_cell XB0.out 2).trans rfl, (blk_cell XB0.out 3).trans rfl, (blk_cell XB1.out 0).trans rfl, (blk_cell XB1.out 1).trans rfl, (blk_cell XB1.out 2).trans rfl⟩ (fun hHeld => ?_); clear hK K; refine nA 99 ?_
           refine pA 5 94 HT_ ?_
           refine pA 6 100 HT_ ?_
           refine pA 7 101 HT_ ?_
           exact norm_ (by simp only [putAll, Act.put, List.setIfInBounds_toArray, List.set_cons_zero, List.set_cons_succ]) (hJ (b7_, (.agg #[.int .i64 q3, .int .i64 q4, .int .i64 q5, .slice Au31_0v3 q6.length cu31_0v3] : Value), (.agg #[.string q7, .slice Au31_1v1 q8.length cu31_1v1, .int .i64 q9] : Value), Au31_2v1, cu31_2v1, Au31_2v7, cu31_2v7) _ ⟨BQ.out, RWu31_2v1.out, RWu31_2v7.out, HT.out, GQ.out⟩)
     · skip
       refine alloc_st (cs := #[.string (⟨#[]⟩ : ByteArray), .slice none 0 0, .int .i64 0, .int .i64 0, .int .i64 0, .int .i64 0, .int .i64 0, .slice none 0 0, .bool false, .int .i64 0, .bool false]) (t := 37) (by rfl) rfl ?hrun ?_; (case hrun => clear hHeld; first | (go_simp; done) | (go_simp; rfl)); intro b7_ hg wn hbox hb; have BQ := aM hbox; have GQ := aM (show wq31.heap.size ≤ b7_ from by rw [hg]; exact HT.out.size); replace HB := aM (below_after HB.out hb); replace HT := aM (below_after HT.out hb); replace XB0 := aM (blk_below XB0.out hb); replace XB1 := aM (blk_below XB1.out hb); replace CRu31_0v3 := aM (Kd.C_below CRu31_0v3.out hb); clear hb hg hbox
       refine hK.out _ _ ⟨(blk_cell XB0.out 0).trans rfl, (blk_cell XB0.out 1).trans rfl, (blk_cell XB0.out 2).trans rfl, (blk_cell XB0.out 3).trans rfl, (blk_cell XB1.out 0).trans rfl, (blk_cell XB1.out 1).trans rfl, (blk_cell XB1.out 2).trans rfl⟩ (fun hHeld => ?_); clear hK K; refine nA 15 ?_
       refine oA 3 98 HT_ (fun K hK => ?_)
       · skip
         refine goes_ Tryd.func12 (by kernel_rfl) rfl #[.agg #[.string a1_0, .slice A1_1 l1_1.length c1_1, .int .i64 a1_2]] (by rfl) rfl rfl zee81 ?_; (with_reducible refine (laws_toKey.calls k a1_0 _ _ l1_1 a1_2 q7 q8 q9 _ ?s1 ?s2 HE4.out).mono ?_); (case s1 => exact Kd.C_below HR1_1.out HB.out); (case s2 => exact HC1_1.out); rintro e wv29 ⟨v1_, he_, ho_v1_, hb⟩; subst he_; refine ⟨_, rfl, ?_⟩; obtain ⟨Au31_1v1, cu31_1v1, ev_⟩ := Kd.R_slice ho_v1_; subst ev_; have CRu31_1v1 := aM (Kd.R_reads' ho_v1_).2.2; have CLu31_1v1 := aM (Kd.R_reads' ho_v1_).2.1; clear ho_v1_; replace CRu31_0v3 := aM (Kd.C_below CRu31_0v3.out hb); replace HB := aM (below_after HB.out hb); replace HT := aM (below_after HT.out hb); replace XB0 := aM (blk_below XB0.out hb); replace XB1 := aM (blk_below XB1.out hb); replace BQ := aM (blk_below BQ.out hb); clear hb
         refine hK.out _ _ ⟨(blk_cell XB0.out 0).trans rfl, (blk_cell XB0.out 1).trans rfl, (blk_cell XB0.out 2).trans rfl, (blk_cell XB0.out 3).trans rfl, (blk_cell XB1.out 0).trans rfl, (blk_cell XB1.out 1).trans rfl, (blk_cell XB1.out 2).trans rfl⟩ (fun hHeld => ?_); clear hK K; refine nA 98 ?_
         refine oA 4 99 HT_ (fun K hK => ?_)
         · skip
           refine goes_ Tryd.func13 (by kernel_rfl) rfl #[.agg #[.int .i64 q3, .int .i64 q4, .int .i64 q5, .slice Au31_0v3 q6.length cu31_0v3], .agg #[.string q7, .slice Au31_1v1 q8.length cu31_1v1, .int .i64 q9]] (by rfl) rfl rfl zee81 ?_; (with_reducible refine (impl_WinOf.calls k q3 q4 q5 _ _ q6 q7 _ _ q8 q9 q10 q11 q12 q13 q14 q15 q16 q17 q18 q19 q20 q21 _ ?s1 ?s2 ?s3 ?s4 HE6.out).mono ?_); (case s1 => exact CRu31_0v3.out); (case s2 => exact CLu31_0v3.out); (case s3 => exact CRu31_1v1.out); (case s4 => exact CLu31_1v1.out); rintro e wv30 ⟨v1_, v7_, he_, ho_v1_, ho_v7_, hb⟩; subst he_; refine ⟨_, rfl, ?_⟩; obtain ⟨Au31_2v1, cu31_2v1, ev_⟩ := Kd.R_slice ho_v1_; subst ev_; have RWu31_2v1 := aM (Kd.R_lower ho_v1_ HT.out.size); clear ho_v1_; obtain ⟨Au31_2v7, cu31_2v7, ev_⟩ := Kd.R_slice ho_v7_; subst ev_; have RWu31_2v7 := aM (Kd.R_lower ho_v7_ HT.out.size); clear ho_v7_; replace HB := aM (below_after HB.out hb); replace HT := aM (below_after HT.out hb); replace XB0 := aM (blk_below XB0.out hb); replace XB1 := aM (blk_below XB1.out hb); replace BQ := aM (blk_below BQ.out hb); clear hb
           refine hK.out _ _ ⟨(blk_cell XB0.out 0).trans rfl, (blk_cell XB0.out 1).trans rfl, (blk_cell XB0.out 2).trans rfl, (blk_cell XB0.out 3).trans rfl, (blk_cell XB1.out 0).trans rfl, (blk_cell XB1.out 1).trans rfl, (blk_cell XB1.out 2).trans rfl⟩ (fun hHeld => ?_); clear hK K; refine nA 99 ?_
           refine pA 5 94 HT_ ?_
           refine pA 6 100 HT_ ?_
           refine pA 7 101 HT_ ?_
           exact norm_ (by simp only [putAll, Act.put, List.setIfInBounds_toArray, List.set_cons_zero, List.set_cons_succ]) (hJ (b7_, (.agg #[.int .i64 q3, .int .i64 q4, .int .i64 q5, .slice Au31_0v3 q6.length cu31_0v3] : Value), (.agg #[.string q7, .slice Au31_1v1 q8.length cu31_1v1, .int .i64 q9] : Value), Au31_2v1, cu31_2v1, Au31_2v7, cu31_2v7) _ ⟨BQ.out, RWu31_2v1.out, RWu31_2v7.out, HT.out, GQ.out⟩)
   · skip
     refine alloc_st (cs := #[.string (⟨#[]⟩ : ByteArray), .slice none 0 0, .int .i64 0, .int .i64 0, .int .i64 0, .int .i64 0, .int .i64 0, .slice none 0 0, .bool false, .int .i64 0, .bool false]) (t := 37) (by rfl) rfl ?hrun ?_; (case hrun => clear hHeld; first | (go_simp; done) | (go_simp; rfl)); intro b7_ hg wn hbox hb; have BQ := aM hbox; have GQ := aM (show wq31.heap.size ≤ b7_ from by rw [hg]; exact HT.out.size); replace HB := aM (below_after HB.out hb); replace HT := aM (below_after HT.out hb); replace XB0 := aM (blk_below XB0.out hb); replace XB1 := aM (blk_below XB1.out hb); clear hb hg hbox
     refine hK.out _ _ ⟨(blk_cell XB0.out 0).trans rfl, (blk_cell XB0.out 1).trans rfl, (blk_cell XB0.out 2).trans rfl, (blk_cell XB0.out 3).trans rfl, (blk_cell XB1.out 0).trans rfl, (blk_cell XB1.out 1).trans rfl, (blk_cell XB1.out 2).trans rfl⟩ (fun hHeld => ?_); clear hK K; refine nA 15 ?_
     refine oA 1 96 HT_ (fun K hK => ?_)
     · skip
       refine goes_ Tryd.func11 (by kernel_rfl) rfl #[.agg #[.int .i64 a0_0, .int .i64 a0_1, .int .i64 a0_2, .slice A0_3 l0_3.length c0_3]] (by rfl) rfl rfl zee81 ?_; (with_reducible refine (laws_toBoard.calls k a0_0 a0_1 a0_2 _ _ l0_3 q3 q4 q5 q6 _ ?s1 ?s2 HE3.out).mono ?_); (case s1 => exact Kd.C_below HR0_3.out HB.out); (case s2 => exact HC0_3.out); rintro e wv28 ⟨v3_, he_, ho_v3_, hb⟩; subst he_; refine ⟨_, rfl, ?_⟩; obtain ⟨Au31_0v3, cu31_0v3, ev_⟩ := Kd.S_slice ho_v3_; subst ev_; have CRu31_0v3 := aM (Kd.S_reads' ho_v3_).2.2; have CLu31_0v3 := aM (Kd.S_reads' ho_v3_).2.1; clear ho_v3_; replace HB := aM (below_after HB.out hb); replace HT := aM (below_after HT.out hb); replace XB0 := aM (blk_below XB0.out hb); replace XB1 := aM (blk_below XB1.out hb); replace BQ := aM (blk_below BQ.out hb); clear hb
       refine hK.out _ _ ⟨(blk_cell XB0.out 0).trans rfl, (blk_cell XB0.out 1).trans rfl, (blk_cell XB0.out 2).trans rfl, (blk_cell XB0.out 3).trans rfl, (blk_cell XB1.out 0).trans rfl, (blk_cell XB1.out 1).trans rfl, (blk_cell XB1.out 2).trans rfl⟩ (fun hHeld => ?_); clear hK K; refine nA 96 ?_
       refine oA 3 98 HT_ (fun K hK => ?_)
       · skip
         refine goes_ Tryd.func12 (by kernel_rfl) rfl #[.agg #[.string a1_0, .slice A1_1 l1_1.length c1_1, .int .i64 a1_2]] (by rfl) rfl rfl zee81 ?_; (with_reducible refine (laws_toKey.calls k a1_0 _ _ l1_1 a1_2 q7 q8 q9 _ ?s1 ?s2 HE4.out).mono ?_); (case s1 => exact Kd.C_below HR1_1.out HB.out); (case s2 => exact HC1_1.out); rintro e wv29 ⟨v1_, he_, ho_v1_, hb⟩; subst he_; refine ⟨_, rfl, ?_⟩; obtain ⟨Au31_1v1, cu31_1v1, ev_⟩ := Kd.R_slice ho_v1_; subst ev_; have CRu31_1v1 := aM (Kd.R_reads' ho_v1_).2.2; have CLu31_1v1 := aM (Kd.R_reads' ho_v1_).2.1; clear ho_v1_; replace CRu31_0v3 := aM (Kd.C_below CRu31_0v3.out hb); replace HB := aM (below_after HB.out hb); replace HT := aM (below_after HT.out hb); replace XB0 := aM (blk_below XB0.out hb); replace XB1 := aM (blk_below XB1.out hb); replace BQ := aM (blk_below BQ.out hb); clear hb
         refine hK.out _ _ ⟨(blk_cell XB0.out 0).trans rfl, (blk_cell XB0.out 1).trans rfl, (blk_cell XB0.out 2).trans rfl, (blk_cell XB0.out 3).trans rfl, (blk_cell XB1.out 0).trans rfl, (blk_cell XB1.out 1).trans rfl, (blk_cell XB1.out 2).trans rfl⟩ (fun hHeld => ?_); clear hK K; refine nA 98 ?_
         refine oA 4 99 HT_ (fun K hK => ?_)
         · skip
           refine goes_ Tryd.func13 (by kernel_rfl) rfl #[.agg #[.int .i64 q3, .int .i64 q4, .int .i64 q5, .slice Au31_0v3 q6.length cu31_0v3], .agg #[.string q7, .slice Au31_1v1 q8.length cu31_1v1, .int .i64 q9]] (by rfl) rfl rfl zee81 ?_; (with_reducible refine (impl_WinOf.calls k q3 q4 q5 _ _ q6 q7 _ _ q8 q9 q10 q11 q12 q13 q14 q15 q16 q17 q18 q19 q20 q21 _ ?s1 ?s2 ?s3 ?s4 HE6.out).mono ?_); (case s1 => exact CRu31_0v3.out); (case s2 => exact CLu31_0v3.out); (case s3 => exact CRu31_1v1.out); (case s4 => exact CLu31_1v1.out); rintro e wv30 ⟨v1_, v7_, he_, ho_v1_, ho_v7_, hb⟩; subst he_; refine ⟨_, rfl, ?_⟩; obtain ⟨Au31_2v1, cu31_2v1, ev_⟩ := Kd.R_slice ho_v1_; subst ev_; have RWu31_2v1 := aM (Kd.R_lower ho_v1_ HT.out.size); clear ho_v1_; obtain ⟨Au31_2v7, cu31_2v7, ev_⟩ := Kd.R_slice ho_v7_; subst ev_; have RWu31_2v7 := aM (Kd.R_lower ho_v7_ HT.out.size); clear ho_v7_; replace HB := aM (below_after HB.out hb); replace HT := aM (below_after HT.out hb); replace XB0 := aM (blk_below XB0.out hb); replace XB1 := aM (blk_below XB1.out hb); replace BQ := aM (blk_below BQ.out hb); clear hb
           refine hK.out _ _ ⟨(blk_cell XB0.out 0).trans rfl, (blk_cell XB0.out 1).trans rfl, (blk_cell XB0.out 2).trans rfl, (blk_cell XB0.out 3).trans rfl, (blk_cell XB1.out 0).trans rfl, (blk_cell XB1.out 1).trans rfl, (blk_cell XB1.out 2).trans rfl⟩ (fun hHeld => ?_); clear hK K; refine nA 99 ?_
           refine pA 5 94 HT_ ?_
           refine pA 6 100 HT_ ?_
           refine pA 7 101 HT_ ?_
           exact norm_ (by simp only [putAll, Act.put, List.setIfInBounds_toArray, List.set_cons_zero, List.set_cons_succ]) (hJ (b7_, (.agg #[.int .i64 q3, .int .i64 q4, .int .i64 q5, .slice Au31_0v3 q6.length cu31_0v3] : Value), (.agg #[.string q7, .slice Au31_1v1 q8.length cu31_1v1, .int .i64 q9] : Value), Au31_2v1, cu31_2v1, Au31_2v7, cu31_2v7) _ ⟨BQ.out, RWu31_2v1.out, RWu31_2v7.out, HT.out, GQ.out⟩)
 clear HB
 rintro ⟨b7_, vv31_0, vv31_1, Au31_2v1, cu31_2v1, Au31_2v7, cu31_2v7⟩ wj31 ⟨hbq, hr1, hr2, hT, hg⟩
 dsimp only at hbq hr1 hr2 hT hg
 refine norm_ (a' := ?_) ?_ ?_
 rotate_left
 · simp only [putAll, Act.put, List.setIfInBounds_toArray, List.set_cons_zero, List.set_cons_succ]
   rfl
 have ho := aM (show Only wj31 (((((((((((wj31.setCell ⟨b7_, 0, none⟩ (.string q10)).setCell ⟨b7_, 1, none⟩ (.slice Au31_2v1 q11.length cu31_2v1)).setCell ⟨b7_, 2, none⟩ (.int .i64 q12)).setCell ⟨b7_, 3, none⟩ (.int .i64 q13)).setCell ⟨b7_, 4, none⟩ (.int .i64 q14)).setCell ⟨b7_, 5, none⟩ (.int .i64 q15)).setCell ⟨b7_, 6, none⟩ (.int .i64 q16)).setCell ⟨b7_, 7, none⟩ (.slice Au31_2v7 q17.length cu31_2v7)).setCell ⟨b7_, 8, none⟩ (.bool q18)).setCell ⟨b7_, 9, none⟩ (.int .i64 q19)).setCell ⟨b7_, 10, none⟩ (.bool q20)) b7_ from by repeat (first | (with_reducible apply Only.set) | exact Only.refl _ _))
 have hbx := aM (show (((((((((((wj31.setCell ⟨b7_, 0, none⟩ (.string q10)).setCell ⟨b7_, 1, none⟩ (.slice Au31_2v1 q11.length cu31_2v1)).setCell ⟨b7_, 2, none⟩ (.int .i64 q12)).setCell ⟨b7_, 3, none⟩ (.int .i64 q13)).setCell ⟨b7_, 4, none⟩ (.int .i64 q14)).setCell ⟨b7_, 5, none⟩ (.int .i64 q15)).setCell ⟨b7_, 6, none⟩ (.int .i64 q16)).setCell ⟨b7_, 7, none⟩ (.slice Au31_2v7 q17.length cu31_2v7)).setCell ⟨b7_, 8, none⟩ (.bool q18)).setCell ⟨b7_, 9, none⟩ (.int .i64 q19)).setCell ⟨b7_, 10, none⟩ (.bool q20)).heap[b7_]? = some (.cells #[.string q10, .slice Au31_2v1 q11.length cu31_2v1, .int .i64 q12, .int .i64 q13, .int .i64 q14, .int .i64 q15, .int .i64 q16, .slice Au31_2v7 q17.length cu31_2v7, .bool q18, .int .i64 q19, .bool q20] 37 (0, 0)) from by with_reducible exact blk_put11 hbq)
 obtain ⟨hcq_0, hcq_1, hcq_2, hcq_3, hcq_4, hcq_5, hcq_6, hcq_7, hcq_8, hcq_9, hcq_10, hfq_0, hfq_1, hfq_2, hfq_3, hfq_4, hfq_5, hfq_6, hfq_7, hfq_8, hfq_9, hfq_10⟩ := cellsZ11 hbq
 refine last_ (i := 9) (N := none) #[true, true, true, true, true, true, true, true, true, true, false] rfl rfl (one_of HT_.out (by kernel_rfl)) (by decide) (fun K hK => ?_)
 refine skip_ (w1 := (((((((((((wj31.setCell ⟨b7_, 0, none⟩ (.string q10)).setCell ⟨b7_, 1, none⟩ (.slice Au31_2v1 q11.length cu31_2v1)).setCell ⟨b7_, 2, none⟩ (.int .i64 q12)).setCell ⟨b7_, 3, none⟩ (.int .i64 q13)).setCell ⟨b7_, 4, none⟩ (.int .i64 q14)).setCell ⟨b7_, 5, none⟩ (.int .i64 q15)).setCell ⟨b7_, 6, none⟩ (.int .i64 q16)).setCell ⟨b7_, 7, none⟩ (.slice Au31_2v7 q17.length cu31_2v7)).setCell ⟨b7_, 8, none⟩ (.bool q18)).setCell ⟨b7_, 9, none⟩ (.int .i64 q19)).setCell ⟨b7_, 10, none⟩ (.bool q20))) (by rfl) rfl ?_ ?_
 · clear hHeld
   go_simp
 refine hK.out _ _ ?_
 clear hK K hcq_0 hcq_1 hcq_2 hcq_3 hcq_4 hcq_5 hcq_6 hcq_7 hcq_8 hcq_9 hcq_10 hfq_0 hfq_1 hfq_2 hfq_3 hfq_4 hfq_5 hfq_6 hfq_7 hfq_8 hfq_9 hfq_10
 generalize (((((((((((wj31.setCell ⟨b7_, 0, none⟩ (.string q10)).setCell ⟨b7_, 1, none⟩ (.slice Au31_2v1 q11.length cu31_2v1)).setCell ⟨b7_, 2, none⟩ (.int .i64 q12)).setCell ⟨b7_, 3, none⟩ (.int .i64 q13)).setCell ⟨b7_, 4, none⟩ (.int .i64 q14)).setCell ⟨b7_, 5, none⟩ (.int .i64 q15)).setCell ⟨b7_, 6, none⟩ (.int .i64 q16)).setCell ⟨b7_, 7, none⟩ (.slice Au31_2v7 q17.length cu31_2v7)).setCell ⟨b7_, 8, none⟩ (.bool q18)).setCell ⟨b7_, 9, none⟩ (.int .i64 q19)).setCell ⟨b7_, 10, none⟩ (.bool q20)) = wv31 at ho hbx ⊢
 refine pA 10 16 HT_ ?_
 refine done_ (done_of HT_.out (by kernel_rfl)) ?_
 clear HT_ HW_ hHeld
 have hb := below_only hT hg ho.out
 obtain ⟨lo12_, hi12_, el_, hL_, eh_⟩ := Loc.newBRR (w := w) hbx.out hg hb (R_only hr1 hbq (by decide) ho.out) (R_only hr2 hbq (by decide) ho.out) HB0.out
 have LO12 := aM hL_; have ORLO12 := aM (show hi11_ ≤ lo12_ from (by rw [el_]; exact LO11.out.size)); have OQLO12 := aM (show lo12_ ≤ hi12_ from (by rw [el_, eh_]; exact hb.size))
 replace LO1 := aM (LO1.out.below hb); replace LO2 := aM (LO2.out.below hb); replace LO3 := aM (LO3.out.below hb); replace LO4 := aM (LO4.out.below hb); replace LO5 := aM (LO5.out.below hb); replace LO6 := aM (LO6.out.below hb); replace LO7 := aM (LO7.out.below hb); replace LO8 := aM (LO8.out.below hb); replace LO9 := aM (LO9.out.below hb); replace LO10 := aM (LO10.out.below hb); replace LO11 := aM (LO11.out.below hb); have HB := aM (below_after HB0.out hb); clear hb el_ hL_ eh_ hbx hbq hr1 hr2 hT hg ho HT HB0 XB0 XB1
 obtain ⟨hcLO12_0, hcLO12_1, hcLO12_2, hcLO12_3, hcLO12_4, hcLO12_5, hcLO12_6, hcLO12_7, hcLO12_8, hcLO12_9, hcLO12_10, hfLO12_0, hfLO12_1, hfLO12_2, hfLO12_3, hfLO12_4, hfLO12_5, hfLO12_6, hfLO12_7, hfLO12_8, hfLO12_9, hfLO12_10⟩ := cellsZ11 LO12.out.now.1
 obtain ⟨hcLO3_0, hcLO3_1, hcLO3_2, hcLO3_3, hcLO3_4, hcLO3_5, hcLO3_6, hcLO3_7, hcLO3_8, hcLO3_9, hcLO3_10, hfLO3_0, hfLO3_1, hfLO3_2, hfLO3_3, hfLO3_4, hfLO3_5, hfLO3_6, hfLO3_7, hfLO3_8, hfLO3_9, hfLO3_10⟩ := cellsZ11 LO3.out.now.1
 go_wp2_with (first | ((with_reducible refine gate_callee (f := 14) rfl ?_); refine goesL_ (some 104) rfl rfl Tryd.func14 (by kernel_rfl) rfl #[.agg #[.string q10, .slice Au31_2v1 q11.length cu31_2v1, .int .i64 q12, .int .i64 q13, .int .i64 q14, .int .i64 q15, .int .i64 q16, .slice Au31_2v7 q17.length cu31_2v7, .bool q18, .int .i64 q19, .bool q20], .agg #[.string q10, .slice Au8_2v1 q11.length cu8_2v1, .int .i64 q12, .int .i64 q13, .int .i64 q14, .int .i64 q15, .int .i64 q16, .slice Au8_2v7 q17.length cu8_2v7, .bool q18, .int .i64 q19, .bool q20]] rfl zee81 ?_; (with_reducible refine (laws_eqWin.calls k q10 _ _ q11 q12 q13 q14 q15 q16 _ _ q17 q18 q19 q20 q10 _ _ q11 q12 q13 q14 q15 q16 _ _ q17 q18 q19 q20 true _ ?s1 ?s2 ?s3 ?s4 ?s5 ?s6 ?s7 ?s8 HE7.out).mono ?_); (case s1 => exact LO12.out.readsBRR1.2.2); (case s2 => exact LO12.out.readsBRR1.2.1); (case s3 => exact LO12.out.readsBRR2.2.2); (case s4 => exact LO12.out.readsBRR2.2.1); (case s5 => exact LO3.out.readsBRR1.2.2); (case s6 => exact LO3.out.readsBRR1.2.1); (case s7 => exact LO3.out.readsBRR2.2.2); (case s8 => exact LO3.out.readsBRR2.2.1); rintro e wv32 ⟨he_, hb⟩; subst he_; refine ⟨_, rfl, ?_⟩; (try clear hcLO12_0 hcLO12_1 hcLO12_2 hcLO12_3 hcLO12_4 hcLO12_5 hcLO12_6 hcLO12_7 hcLO12_8 hcLO12_9 hcLO12_10 hfLO12_0 hfLO12_1 hfLO12_2 hfLO12_3 hfLO12_4 hfLO12_5 hfLO12_6 hfLO12_7 hfLO12_8 hfLO12_9 hfLO12_10 hcLO3_0 hcLO3_1 hcLO3_2 hcLO3_3 hcLO3_4 hcLO3_5 hcLO3_6 hcLO3_7 hcLO3_8 hcLO3_9 hcLO3_10 hfLO3_0 hfLO3_1 hfLO3_2 hfLO3_3 hfLO3_4 hfLO3_5 hfLO3_6 hfLO3_7 hfLO3_8 hfLO3_9 hfLO3_10); replace LO1 := aM (LO1.out.below hb); replace LO2 := aM (LO2.out.below hb); replace LO3 := aM (LO3.out.below hb); replace LO4 := aM (LO4.out.below hb); replace LO5 := aM (LO5.out.below hb); replace LO6 := aM (LO6.out.below hb); replace LO7 := aM (LO7.out.below hb); replace LO8 := aM (LO8.out.below hb); replace LO9 := aM (LO9.out.below hb); replace LO10 := aM (LO10.out.below hb); replace LO11 := aM (LO11.out.below hb); replace LO12 := aM (LO12.out.below hb); replace HB := aM (below_after HB.out hb); clear hb; obtain ⟨hcLO9_0, hcLO9_1, hcLO9_2, hcLO9_3, hcLO9_4, hcLO9_5, hcLO9_6, hcLO9_7, hcLO9_8, hcLO9_9, hcLO9_10, hfLO9_0, hfLO9_1, hfLO9_2, hfLO9_3, hfLO9_4, hfLO9_5, hfLO9_6, hfLO9_7, hfLO9_8, hfLO9_9, hfLO9_10⟩ := cellsZ11 LO9.out.now) | ((with_reducible refine gate_callee (f := 20) rfl ?_); refine goesL_ (some 113) rfl rfl Tryd.func20 (by kernel_rfl) rfl #[.agg #[.string q10, .slice ALO8x q27.length cLO8x, .int .i64 q12, .int .i64 q13, .int .i64 q14, .int .i64 q15, .int .i64 q16, .slice ALO8y q28.length cLO8y, .bool q18, .int .i64 q19, .bool q20], .int .i64 1] rfl zee81 ?_; (with_reducible refine (laws_heldWin.calls k q10 _ _ q27 q12 q13 q14 q15 q16 _ _ q28 q18 q19 q20 1 q26 _ ?s1 ?s2 ?s3 ?s4 HE13.out).mono ?_); (case s1 => exact LO8.out.readsRR1.2.2); (case s2 => exact LO8.out.readsRR1.2.1); (case s3 => exact LO8.out.readsRR2.2.2); (case s4 => exact LO8.out.readsRR2.2.1); rintro e wv33 ⟨he_, hb⟩; subst he_; refine ⟨_, rfl, ?_⟩; (try clear hcLO9_0 hcLO9_1 hcLO9_2 hcLO9_3 hcLO9_4 hcLO9_5 hcLO9_6 hcLO9_7 hcLO9_8 hcLO9_9 hcLO9_10 hfLO9_0 hfLO9_1 hfLO9_2 hfLO9_3 hfLO9_4 hfLO9_5 hfLO9_6 hfLO9_7 hfLO9_8 hfLO9_9 hfLO9_10); replace LO1 := aM (LO1.out.below hb); replace LO2 := aM (LO2.out.below hb); replace LO3 := aM (LO3.out.below hb); replace LO4 := aM (LO4.out.below hb); replace LO5 := aM (LO5.out.below hb); replace LO6 := aM (LO6.out.below hb); replace LO7 := aM (LO7.out.below hb); replace LO8 := aM (LO8.out.below hb); replace LO9 := aM (LO9.out.below hb); replace LO10 := aM (LO10.out.below hb); replace LO11 := aM (LO11.out.below hb); replace LO12 := aM (LO12.out.below hb); replace HB := aM (below_after HB.out hb); clear hb))
 go_ret
 exact ⟨rfl, HB.out⟩
end Go.Proofs.YtkgmoajdcibafaaDoor.P

namespace Go.Proofs.YtkgmoajdcibafaaDoor.Lem
open Go.RowKit Go.Proofs.YtkgmoajdcibafaaDoorW.PrintWords Go.Proofs.YtkgmoajdcibafaaDoorW.PrintLast Go.Proofs.YtkgmoajdcibafaaDoorW.PrintMore

theorem w64 {x : Int} (h0 : -9223372036854775808 ≤ x) (h1 : x < 9223372036854775808) : wrap64 x = x := by
  unfold wrap64; omega
theorem wu64 {x : Int} (h0 : 0 ≤ x) (h1 : x < 18446744073709551616) : IntKind.u64.wrap x = x := by
  rw [IntKind.wrap_u64]; omega
theorem wu64_lo (x : Int) : 0 ≤ IntKind.u64.wrap x := by rw [IntKind.wrap_u64]; omega
theorem wu64_hi (x : Int) : IntKind.u64.wrap x < 18446744073709551616 := by rw [IntKind.wrap_u64]; omega

/-- A list of bytes. -/
def Bytes (l : List Int) : Prop := ∀ x ∈ l, 0 ≤ x ∧ x < 256

theorem Bytes.of_wf {l : List Int} (h : ∀ x ∈ l, (Lit.int .u8 x).wf = true) : Bytes l := by
  intro x hx
  have := h x hx
  simp [Lit.wf, IntKind.min, IntKind.max, IntKind.signed, IntKind.bits] at this
  omega
theorem Bytes.append {a b : List Int} (ha : Bytes a) (hb : Bytes b) : Bytes (a ++ b) := by
  intro x hx
  rcases List.mem_append.1 hx with h | h
  · exact ha x h
  · exact hb x h
theorem Bytes.nil : Bytes [] := fun x hx => by simp at hx
theorem Bytes.cons {x : Int} {l : List Int} (h0 : 0 ≤ x) (h1 : x < 256) (hl : Bytes l) : Bytes (x :: l) := by
  intro y hy
  rcases List.mem_cons.1 hy with rfl | h
  · exact ⟨h0, h1⟩
  · exact hl y h
theorem Bytes.rd {l : List Int} (h : Bytes l) (i : Int) : 0 ≤ rd l i ∧ rd l i < 256 := by
  unfold Go.Proofs.YtkgmoajdcibafaaDoorW.PrintWords.rd
  rcases Nat.lt_or_ge i.toNat l.length with hl | hl
  · rw [List.getD_eq_getElem?_getD, List.getElem?_eq_getElem hl]
    exact h _ (List.getElem_mem hl)
  · rw [List.getD_eq_getElem?_getD, List.getElem?_eq_none hl]
    simp
theorem Bytes.take {l : List Int} (h : Bytes l) (n : Nat) : Bytes (l.take n) := fun x hx => h x (List.mem_of_mem_take hx)
theorem Bytes.drop {l : List Int} (h : Bytes l) (n : Nat) : Bytes (l.drop n) := fun x hx => h x (List.mem_of_mem_drop hx)

theorem and255 {x : Int} (h0 : 0 ≤ x) (h1 : x < 18446744073709551616) : 0 ≤ Go.bits .and .u64 x 255 ∧ Go.bits .and .u64 x 255 < 256 := by
  rw [u64_and x 255 h0 h1 (by decide) (by decide)]
  have : x.toNat &&& (255 : Int).toNat ≤ (255 : Int).toNat := Nat.and_le_right
  have e : (255 : Int).toNat = 255 := rfl
  omega

theorem shr_lo {k : IntKind} {x y : Int} (h : 0 ≤ x) : 0 ≤ shr k x y := by
  unfold shr
  exact Int.ediv_nonneg h (Int.le_of_lt (Int.pow_pos (by decide)))
theorem shr_hi {k : IntKind} {x y B : Int} (h : 0 ≤ x) (h1 : x < B) : shr k x y < B := by
  unfold shr
  have : x / 2 ^ min y.toNat k.bits ≤ x := Int.ediv_le_self _ h
  omega

end Go.Proofs.YtkgmoajdcibafaaDoor.Lem

/- The order of texts: words with ends that are less than every letter are in the order of their letters. -/
namespace Go.Proofs.YtkgmoajdcibafaaDoor.Lem
open Go

theorem less_irrefl : ∀ x : List UInt8, Op.bytesLess x x = false
  | [] => rfl
  | a :: x => by
    rw [Op.bytesLess, less_irrefl x, Bool.and_false, Bool.or_false]
    exact decide_eq_false (by rw [UInt8.lt_iff_toNat_lt]; omega)

theorem less_cons (a b : UInt8) (x y : List UInt8) : Op.bytesLess (a :: x) (b :: y) = if a = b then Op.bytesLess x y else decide (a < b) := by
  rw [Op.bytesLess]
  by_cases h : a = b
  · subst h
    rw [if_pos rfl, beq_self_eq_true, Bool.true_and, decide_eq_false (by rw [UInt8.lt_iff_toNat_lt]; omega), Bool.false_or]
  · rw [if_neg h, beq_eq_false_iff_ne.2 h, Bool.false_and, Bool.or_false]

/-- The order of two texts as a number. -/
def ord (x y : List UInt8) : Int := if Op.bytesLess x y = true then -1 else if Op.bytesLess y x = true then 1 else 0
theorem ord_self (x : List UInt8) : ord x x = 0 := by
  unfold ord
  rw [less_irrefl, if_neg (by decide), if_neg (by decide)]
theorem ord_cons (a b : UInt8) (x y : List UInt8) : ord (a :: x) (b :: y) = if a = b then ord x y else if a < b then -1 else 1 := by
  unfold ord
  rw [less_cons, less_cons]
  by_cases h : a = b
  · subst h
    rw [if_pos rfl, if_pos rfl, if_pos rfl]
  · rw [if_neg h, if_neg (Ne.symm h), if_neg h]
    have hn : a.toNat ≠ b.toNat := fun e => h (UInt8.toNat_inj.1 e)
    by_cases hl : a < b
    · rw [if_pos (decide_eq_true hl), if_pos hl]
    · rw [if_neg (by simpa using hl), if_neg hl]
      rw [UInt8.lt_iff_toNat_lt] at hl
      rw [if_pos (decide_eq_true (by rw [UInt8.lt_iff_toNat_lt]; omega))]
theorem ord_nil_cons (b : UInt8) (y : List UInt8) : ord [] (b :: y) = -1 := rfl
theorem ord_cons_nil (b : UInt8) (y : List UInt8) : ord (b :: y) [] = 1 := rfl

/-- Words whose ends are less than each letter. -/
theorem ord_ends : ∀ (a b : List UInt8) (c d : UInt8) (x y : List UInt8), (∀ h ∈ a, d < h) → (∀ h ∈ b, c < h) →
    ord (a ++ c :: x) (b ++ d :: y) = if a = b then ord (c :: x) (d :: y) else ord a b
  | [], [], c, d, x, y, _, _ => by rw [if_pos rfl]; rfl
  | [], g :: b, c, d, x, y, _, hb => by
    have h1 : c < g := hb g (List.mem_cons_self ..)
    have hne : c ≠ g := fun e => by subst e; rw [UInt8.lt_iff_toNat_lt] at h1; omega
    rw [if_neg (by simp), ord_nil_cons, List.nil_append, List.cons_append, ord_cons, if_neg hne, if_pos h1]
  | h :: a, [], c, d, x, y, ha, _ => by
    have h1 : d < h := ha h (List.mem_cons_self ..)
    have h2 : ¬ h < d := by rw [UInt8.lt_iff_toNat_lt] at h1 ⊢; omega
    have hne : h ≠ d := fun e => by subst e; exact h2 h1
    rw [if_neg (by simp), ord_cons_nil, List.nil_append, List.cons_append, ord_cons, if_neg hne, if_neg h2]
  | h :: a, g :: b, c, d, x, y, ha, hb => by
    have ih := ord_ends a b c d x y (fun q hq => ha q (List.mem_cons_of_mem _ hq)) (fun q hq => hb q (List.mem_cons_of_mem _ hq))
    rw [List.cons_append, List.cons_append, ord_cons h g (a ++ c :: x) (b ++ d :: y), ord_cons h g a b, ih]
    by_cases e : h = g
    · subst e
      rw [if_pos rfl, if_pos rfl]
      by_cases e2 : a = b
      · rw [if_pos e2, if_pos (by rw [e2])]
      · rw [if_neg e2, if_neg (by simpa using e2)]
    · rw [if_neg e, if_neg e, if_neg (show ¬ (h :: a = g :: b) from fun q => e (by injection q))]

theorem ord_eq_zero : ∀ {a b : List UInt8}, ord a b = 0 → a = b
  | [], [], _ => rfl
  | [], g :: b, h => by rw [ord_nil_cons] at h; exact absurd h (by decide)
  | x :: a, [], h => by rw [ord_cons_nil] at h; exact absurd h (by decide)
  | x :: a, g :: b, h => by
    rw [ord_cons] at h
    by_cases e : x = g
    · subst e
      rw [if_pos rfl] at h
      rw [ord_eq_zero h]
    · rw [if_neg e] at h
      split at h <;> exact absurd h (by decide)
end Go.Proofs.YtkgmoajdcibafaaDoor.Lem

/- Two texts and two numbers compared, and the first of numbers that is not nought. No conditions. -/
namespace Go.Proofs.YtkgmoajdcibafaaDoor.Lem
open Go Go.RowKit Go.Proofs.YtkgmoajdcibafaaDoor.P Go.Proofs.YtkgmoajdcibafaaDoorW.PrintWords Go.Proofs.YtkgmoajdcibafaaDoorW.PrintLast Go.Proofs.YtkgmoajdcibafaaDoorW.PrintMore

def ordB (a b : ByteArray) : Int := ord a.data.toList b.data.toList
def sgnI (a b : Int) : Int := if a < b then -1 else if a > b then 1 else 0
theorem cmpS_ok (a b : ByteArray) : cmp_Compare_string.f a b = some (ordB a b) := by
  unfold cmp_Compare_string.f cmp_isNaN_string.f
  rw [bne_self_eq_false, bne_self_eq_false, Option.bind_some, Option.bind_some, if_neg (by decide), if_neg (by decide)]
  unfold ordB ord
  rw [Go.Lib.toList_data, Go.Lib.toList_data]
  split
  · rfl
  · split <;> rfl
theorem cmpI_ok (a b : Int) : cmp_Compare_int.f a b = some (sgnI a b) := by
  unfold cmp_Compare_int.f cmp_isNaN_int.f
  rw [bne_self_eq_false, bne_self_eq_false, Option.bind_some, Option.bind_some, if_neg (by decide), if_neg (by decide)]
  unfold sgnI
  split
  · rfl
  · split <;> rfl
theorem or2_ok (x y : Int) (k : Nat) : cmp_Or_int.f (k + 3) [x, y] = some (if x = 0 then y else x) := by
  unfold cmp_Or_int.f
  show cmp_Or_int.l0 (k + 3) 0 [x, y] 2 0 = _
  rw [cmp_Or_int.l0, if_pos (by decide), if_pos (by decide), if_pos (show (0 : Int) < ([x, y].length : Int) from (by decide : (0 : Int) < ((2 : Nat) : Int))), show rd [x, y] 0 = x from rfl]
  by_cases h : x = 0
  · rw [if_pos h, if_pos h, show wrap64 (0 + 1) = 1 from w64 (by decide) (by decide), cmp_Or_int.l0, if_pos (by decide), if_pos (by decide), if_pos (show (1 : Int) < ([x, y].length : Int) from (by decide : (1 : Int) < ((2 : Nat) : Int))), show rd [x, y] 1 = y from rfl]
    by_cases h2 : y = 0
    · rw [if_pos h2, show wrap64 (1 + 1) = 2 from w64 (by decide) (by decide), cmp_Or_int.l0, if_neg (by decide), h2]
    · rw [if_neg h2]
  · rw [if_neg h, if_neg h]
theorem or3_ok (x y z : Int) (k : Nat) : cmp_Or_int.f (k + 4) [x, y, z] = some (if x = 0 then (if y = 0 then z else y) else x) := by
  unfold cmp_Or_int.f
  show cmp_Or_int.l0 (k + 4) 0 [x, y, z] 3 0 = _
  rw [cmp_Or_int.l0, if_pos (by decide), if_pos (by decide), if_pos (show (0 : Int) < ([x, y, z].length : Int) from (by decide : (0 : Int) < ((3 : Nat) : Int))), show rd [x, y, z] 0 = x from rfl]
  by_cases h : x = 0
  · rw [if_pos h, if_pos h, show wrap64 (0 + 1) = 1 from w64 (by decide) (by decide), cmp_Or_int.l0, if_pos (by decide), if_pos (by decide), if_pos (show (1 : Int) < ([x, y, z].length : Int) from (by decide : (1 : Int) < ((3 : Nat) : Int))), show rd [x, y, z] 1 = y from rfl]
    by_cases h2 : y = 0
    · rw [if_pos h2, if_pos h2, show wrap64 (1 + 1) = 2 from w64 (by decide) (by decide), cmp_Or_int.l0, if_pos (by decide), if_pos (by decide), if_pos (show (2 : Int) < ([x, y, z].length : Int) from (by decide : (2 : Int) < ((3 : Nat) : Int))), show rd [x, y, z] 2 = z from rfl]
      by_cases h3 : z = 0
      · rw [if_pos h3, show wrap64 (2 + 1) = 3 from w64 (by decide) (by decide), cmp_Or_int.l0, if_neg (by decide), h3]
      · rw [if_neg h3]
    · rw [if_neg h2, if_neg h2]
  · rw [if_neg h, if_neg h]
end Go.Proofs.YtkgmoajdcibafaaDoor.Lem

/- Words on lists: a place of a row, and what stands behind it. No conditions. -/
namespace Go.Proofs.YtkgmoajdcibafaaDoor.Lem
open Go Go.RowKit Go.Proofs.YtkgmoajdcibafaaDoor.P Go.Proofs.YtkgmoajdcibafaaDoorW.PrintWords Go.Proofs.YtkgmoajdcibafaaDoorW.PrintLast Go.Proofs.YtkgmoajdcibafaaDoorW.PrintMore

theorem drop_get {α : Type} {l : List α} {i : Nat} (h : i < l.length) : l.drop i = l[i] :: l.drop (i + 1) := (List.drop_eq_getElem_cons h)
theorem set_copy {α β : Type} (f : α → β) (z : β) {l : List α} {i d : Nat} (h : i < l.length) : ((l.take i).map f ++ List.replicate (d + 1) z).set i (f l[i]) = (l.take (i + 1)).map f ++ List.replicate d z := by
  have hl : ((l.take i).map f).length = i := by rw [List.length_map, List.length_take]; omega
  rw [List.set_append_right _ _ (by omega), hl, Nat.sub_self, List.replicate_succ, List.set_cons_zero, List.take_succ_eq_append_getElem h, List.map_append, List.append_assoc]
  rfl
theorem set_mid {α : Type} (pre : List α) (a v : α) (rest : List α) {i : Nat} (h : i = pre.length) : (pre ++ a :: rest).set i v = pre ++ v :: rest := by
  subst h
  rw [List.set_append_right _ _ (Nat.le_refl _), Nat.sub_self, List.set_cons_zero]
theorem getD_mid {α : Type} (pre : List α) (a : α) (rest : List α) (d : α) {i : Nat} (h : i = pre.length) : (pre ++ a :: rest).getD i d = a := by
  subst h
  rw [List.getD_eq_getElem?_getD, List.getElem?_append_right (Nat.le_refl _), Nat.sub_self]
  rfl
end Go.Proofs.YtkgmoajdcibafaaDoor.Lem

/- Names and keys: what GoodKey says, the program's and the specification's. -/
namespace Go.Proofs.YtkgmoajdcibafaaDoor.Lem
open Go Go.RowKit Go.Proofs.YtkgmoajdcibafaaDoor.P Go.Proofs.YtkgmoajdcibafaaDoorW.PrintWords Go.Proofs.YtkgmoajdcibafaaDoorW.PrintLast Go.Proofs.YtkgmoajdcibafaaDoorW.PrintMore

abbrev Tg := S123
abbrev rdT := rd_T123

theorem dropWhile_head {α : Type} (p : α → Bool) : ∀ (l : List α) (x : α) (r : List α), l.dropWhile p = x :: r → p x = false
  | [], x, r, h => by simp at h
  | a :: l, x, r, h => by
    rw [List.dropWhile_cons] at h
    cases e : p a with
    | true => rw [e, if_pos rfl] at h; exact dropWhile_head p l x r h
    | false =>
      rw [e, if_neg (by decide)] at h
      injection h with h _
      rw [← h]; exact e
theorem dropWhile_all {α : Type} (p : α → Bool) : ∀ l : List α, l.all p = true → l.dropWhile p = []
  | [], _ => rfl
  | a :: l, h => by
    rw [List.all_cons, Bool.and_eq_true] at h
    rw [List.dropWhile_cons, h.1, if_pos rfl]
    exact dropWhile_all p l h.2
theorem dropWhile_nil {α : Type} (p : α → Bool) : ∀ l : List α, l.dropWhile p = [] → l.all p = true
  | [], _ => rfl
  | a :: l, h => by
    rw [List.dropWhile_cons] at h
    cases e : p a with
    | true => rw [e, if_pos rfl] at h; rw [List.all_cons, e, dropWhile_nil p l h]; rfl
    | false => rw [e, if_neg (by decide)] at h; exact absurd h (by simp)

theorem trim_nil (l cs : List UInt8) : (Go.Lib.trimS l cs == []) = l.all (cs.contains ·) := by
  unfold Go.Lib.trimS Go.Lib.trimLeftS Go.Lib.trimRightS
  cases e : l.all (cs.contains ·) with
  | true =>
    have h1 : l.reverse.all (cs.contains ·) = true := by rw [List.all_reverse]; exact e
    rw [dropWhile_all _ _ h1, List.reverse_nil, List.dropWhile_nil]
    rfl
  | false =>
    rw [beq_eq_false_iff_ne]
    intro h
    have h1 := dropWhile_nil _ _ h
    rw [List.all_reverse] at h1
    cases e2 : l.reverse.dropWhile (cs.contains ·) with
    | nil =>
      have h3 := dropWhile_nil _ _ e2
      rw [List.all_reverse, e] at h3
      exact absurd h3 (by decide)
    | cons x r =>
      have h3 := dropWhile_head _ _ x r e2
      rw [e2, List.all_cons, h3, Bool.false_and] at h1
      exact absurd h1 (by decide)

/-- A letter's byte. -/
def letter (b : UInt8) : Bool := (decide (97 ≤ b.toNat) && decide (b.toNat ≤ 122)) || (decide (65 ≤ b.toNat) && decide (b.toNat ≤ 90))
def alphabet : List UInt8 := [97, 98, 99, 100, 101, 102, 103, 104, 105, 106, 107, 108, 109, 110, 111, 112, 113, 114, 115, 116, 117, 118, 119, 120, 121, 122, 65, 66, 67, 68, 69, 70, 71, 72, 73, 74, 75, 76, 77, 78, 79, 80, 81, 82, 83, 84, 85, 86, 87, 88, 89, 90]
theorem alphabet_all : ∀ n, n < 256 → (alphabet.contains (UInt8.ofNat n) == letter (UInt8.ofNat n)) = true := of_decide_eq_true (by kernel_rfl)
theorem alphabet_letter (b : UInt8) : alphabet.contains b = letter b := by
  have h := alphabet_all b.toNat b.toNat_lt
  rw [UInt8.ofNat_toNat] at h
  exact eq_of_beq h

/-- A name. -/
def nameB (s : ByteArray) : Bool := decide (1 ≤ s.size) && decide (s.size ≤ 12) && s.data.toList.all letter
theorem nameB_size {s : ByteArray} (h : nameB s = true) : 1 ≤ s.size ∧ s.size ≤ 12 := by
  unfold nameB at h
  rw [Bool.and_eq_true, Bool.and_eq_true] at h
  exact ⟨of_decide_eq_true h.1.1, of_decide_eq_true h.1.2⟩
theorem nameB_letters {s : ByteArray} (h : nameB s = true) : s.data.toList.all letter = true := by
  unfold nameB at h
  rw [Bool.and_eq_true] at h
  exact h.2
theorem withinB_ok (n a b : Int) : impl_within.f n a b = some (decide (a ≤ n) && decide (n ≤ b)) := by
  unfold impl_within.f
  by_cases h : n ≥ a
  · rw [if_pos h, decide_eq_true h, Bool.true_and]
  · rw [if_neg h, decide_eq_false h, Bool.false_and]
theorem l1InB_ok (n a b : Int) : spec_l1In.f n a b = some (decide (a ≤ n) && decide (n ≤ b)) := by
  unfold spec_l1In.f
  by_cases h : n ≥ a
  · rw [if_pos h, decide_eq_true h, Bool.true_and]
  · rw [if_neg h, decide_eq_false h, Bool.false_and]
theorem size_b (s : ByteArray) : (decide ((1 : Int) ≤ (s.size : Int)) && decide ((s.size : Int) ≤ 12)) = (decide (1 ≤ s.size) && decide (s.size ≤ 12)) := by
  have e1 : ((1 : Int) ≤ (s.size : Int)) ↔ 1 ≤ s.size := by omega
  have e2 : ((s.size : Int) ≤ 12) ↔ s.size ≤ 12 := by omega
  rw [decide_eq_decide.2 e1, decide_eq_decide.2 e2]

theorem isName_ok (s : ByteArray) : impl_isName.f s = some (nameB s) := by
  unfold impl_isName.f nameB
  rw [withinB_ok, Option.bind_some, size_b]
  cases e : (decide (1 ≤ s.size) && decide (s.size ≤ 12)) with
  | false => rw [if_neg (by decide), Bool.false_and]
  | true =>
    rw [Bool.and_eq_true] at e
    have h1 := of_decide_eq_true e.2
    rw [if_pos rfl, Bool.true_and]
    unfold strings_Trim.f
    rw [if_pos ⟨by omega, of_decide_eq_true (by kernel_rfl), by kernel_rfl⟩, Option.bind_some, Go.Lib.toList_data]
    have e3 : s.data.toList.all (alphabet.contains ·) = s.data.toList.all letter := by
      congr 1
      funext b
      exact alphabet_letter b
    rw [← e3, ← trim_nil]
    rfl

theorem bt_get {s : ByteArray} {i : Nat} (h : i < s.size) : bt s (i : Int) = ((s.data.toList[i]'(by rw [← Go.Lib.size_eq]; exact h)).toNat : Int) := by
  rw [← bt_at s (i : Int) (by rw [Int.toNat_natCast]; exact h)]
  simp only [Int.toNat_natCast]
  rfl
theorem l1Name_l0 (s : ByteArray) (hs : s.size ≤ 12) : ∀ (d i k : Nat), i + d = s.size → d < k → spec_l1Name.l0 k s (i : Int) = some ((s.data.toList.drop i).all letter) := by
  intro d
  induction d with
  | zero =>
    intro i k hi hk
    obtain ⟨k, rfl⟩ : ∃ m, k = m + 1 := ⟨k - 1, by omega⟩
    rw [spec_l1Name.l0, if_neg (by omega), List.drop_of_length_le (by rw [← Go.Lib.size_eq]; omega)]
    rfl
  | succ d ih =>
    intro i k hi hk
    obtain ⟨k, rfl⟩ : ∃ m, k = m + 1 := ⟨k - 1, by omega⟩
    have hn := ih (i + 1) k (by omega) (by omega)
    have hlt : i < s.data.toList.length := by rw [← Go.Lib.size_eq]; omega
    rw [spec_l1Name.l0, if_pos (by omega), if_pos (by omega), bt_get (by omega), show wrap64 ((i : Int) + 1) = ((i + 1 : Nat) : Int) from by rw [w64 (by omega) (by omega)]; omega, hn, drop_get hlt, List.all_cons]
    generalize s.data.toList[i] = b
    generalize (List.drop (i + 1) s.data.toList).all letter = v
    unfold letter
    by_cases h1 : 97 ≤ b.toNat
    · rw [if_pos (by omega), decide_eq_true h1, Bool.true_and]
      by_cases h2 : b.toNat ≤ 122
      · rw [if_pos (by omega), decide_eq_true h2, Bool.true_or, Bool.true_and]
      · rw [if_neg (by omega), if_pos (by omega), if_neg (by omega), decide_eq_false h2, decide_eq_false (show ¬ b.toNat ≤ 90 by omega), Bool.and_false, Bool.false_or, Bool.false_and]
    · rw [if_neg (by omega), decide_eq_false h1, Bool.false_and, Bool.false_or]
      by_cases h2 : 65 ≤ b.toNat
      · rw [if_pos (by omega), decide_eq_true h2, Bool.true_and]
        by_cases h3 : b.toNat ≤ 90
        · rw [if_pos (by omega), decide_eq_true h3, Bool.true_and]
        · rw [if_neg (by omega), decide_eq_false h3, Bool.false_and]
      · rw [if_neg (by omega), decide_eq_false h2, Bool.false_and, Bool.false_and]

theorem l1Name_ok (s : ByteArray) {k : Nat} (hk : 12 < k) : spec_l1Name.f k s = some (nameB s) := by
  unfold spec_l1Name.f nameB
  rw [l1InB_ok, Option.bind_some, size_b]
  cases e : (decide (1 ≤ s.size) && decide (s.size ≤ 12)) with
  | false => rw [if_neg (by decide), Bool.false_and]
  | true =>
    rw [Bool.and_eq_true] at e
    have h1 := of_decide_eq_true e.2
    rw [if_pos rfl, Bool.true_and]
    have h := l1Name_l0 s h1 s.size 0 k (by omega) (by omega)
    rw [List.drop_zero] at h
    exact h

def aft : Option ByteArray → ByteArray → Bool
  | none, _ => true
  | some q, x => Op.bytesLess q.data.toList x.data.toList
/-- Tags in their order: behind a name, or at the beginning. -/
def tagsB : Option ByteArray → List Tg → Bool
  | _, [] => true
  | p, t :: r => nameB t.f0 && (nameB t.f1 && (aft p t.f0 && tagsB (some t.f0) r))
/-- The tag before a place. -/
def prevT (l : List Tg) (i : Nat) : Option ByteArray := if i = 0 then none else some (rdT l ((i - 1 : Nat) : Int)).f0
theorem rdT_get {l : List Tg} {i : Nat} (h : i < l.length) : rdT l (i : Int) = l[i] := by
  unfold rdT rd_T123
  rw [Int.toNat_natCast, List.getD_eq_getElem?_getD, List.getElem?_eq_getElem h]
  rfl
/-- A good key. -/
def keyB (m : ByteArray) (l : List Tg) (st : Int) : Bool := nameB m && (decide (l.length ≤ 4) && (decide (0 ≤ st) && decide (st ≤ 1000000000)) && tagsB none l)
theorem keyB_parts {m : ByteArray} {l : List Tg} {st : Int} (h : keyB m l st = true) : nameB m = true ∧ l.length ≤ 4 ∧ 0 ≤ st ∧ st ≤ 1000000000 ∧ tagsB none l = true := by
  unfold keyB at h
  simp only [Bool.and_eq_true] at h
  exact ⟨h.1, of_decide_eq_true h.2.1.1, of_decide_eq_true h.2.1.2.1, of_decide_eq_true h.2.1.2.2, h.2.2⟩
theorem tagsB_names : ∀ {l : List Tg} {p : Option ByteArray}, tagsB p l = true → ∀ t ∈ l, nameB t.f0 = true ∧ nameB t.f1 = true
  | [], _, _, t, ht => by simp at ht
  | a :: l, p, h, t, ht => by
    rw [tagsB, Bool.and_eq_true, Bool.and_eq_true, Bool.and_eq_true] at h
    rcases List.mem_cons.1 ht with rfl | ht
    · exact ⟨h.1, h.2.1⟩
    · exact tagsB_names h.2.2.2 t ht

theorem implKey_l0 (l : List Tg) (hl : l.length ≤ 4) (m : ByteArray) (st : Int) : ∀ (d i k : Nat), i + d = l.length → d < k → impl_GoodKey.l0 k l (l.length : Int) (i : Int) m l st = some (tagsB (prevT l i) (l.drop i)) := by
  intro d
  induction d with
  | zero =>
    intro i k hi hk
    obtain ⟨k, rfl⟩ : ∃ q, k = q + 1 := ⟨k - 1, by omega⟩
    rw [impl_GoodKey.l0, if_neg (by omega), List.drop_of_length_le (by omega)]
    rfl
  | succ d ih =>
    intro i k hi hk
    obtain ⟨k, rfl⟩ : ∃ q, k = q + 1 := ⟨k - 1, by omega⟩
    have hn := ih (i + 1) k (by omega) (by omega)
    have hlt : i < l.length := by omega
    have hp : prevT l (i + 1) = some l[i].f0 := by unfold prevT; rw [if_neg (by omega), Nat.add_sub_cancel, rdT_get hlt]
    rw [hp] at hn
    have e0 : rd_T123 l (i : Int) = l[i] := rdT_get hlt
    rw [impl_GoodKey.l0, if_pos (by omega), if_pos (by omega), if_pos (by omega), e0, isName_ok, isName_ok, Option.bind_some, show wrap64 ((i : Int) + 1) = ((i + 1 : Nat) : Int) from by rw [w64 (by omega) (by omega)]; omega, hn, drop_get hlt, tagsB]
    cases e1 : nameB l[i].f0 with
    | false => rw [if_neg (by decide), Bool.false_and]
    | true =>
      rw [if_pos rfl, Option.bind_some, Bool.true_and]
      cases e2 : nameB l[i].f1 with
      | false => rw [if_neg (by decide), Bool.false_and]
      | true =>
        rw [if_pos rfl, Bool.true_and]
        by_cases h0 : i = 0
        · rw [if_neg (by omega)]
          unfold prevT
          rw [if_pos h0, aft, Bool.true_and]
        · have e3 : wrap64 ((i : Int) - 1) = ((i - 1 : Nat) : Int) := by rw [w64 (by omega) (by omega)]; omega
          rw [if_pos (by omega), e3, if_pos (by omega), if_pos (by omega)]
          unfold prevT
          rw [if_neg h0, aft, Go.Lib.toList_data, Go.Lib.toList_data]
          show (if Op.bytesLess (rdT l ((i - 1 : Nat) : Int)).f0.data.toList l[i].f0.data.toList = true then _ else _) = _
          cases Op.bytesLess (rdT l ((i - 1 : Nat) : Int)).f0.data.toList l[i].f0.data.toList with
          | true => rw [if_pos rfl, Bool.true_and]
          | false => rw [if_neg (by decide), Bool.false_and]

theorem implKey_ok (m : ByteArray) (l : List Tg) (st : Int) {k : Nat} (hk : 6 < k) : impl_GoodKey.f k m l st = some (keyB m l st) := by
  obtain ⟨k, rfl⟩ : ∃ q, k = q + 1 := ⟨k - 1, by omega⟩
  unfold impl_GoodKey.f keyB
  rw [isName_ok, Option.bind_some, impl_GoodKey.j0, if_pos rfl]
  cases e1 : nameB m with
  | false => rw [if_neg (by decide), Bool.false_and]
  | true =>
    rw [if_pos rfl, Bool.true_and]
    by_cases h : l.length ≤ 4
    · rw [if_neg (by omega), withinB_ok, Option.bind_some, decide_eq_true h, Bool.true_and, impl_GoodKey.j0]
      have h0 := implKey_l0 l h m st l.length 0 k (by omega) (by omega)
      rw [List.drop_zero] at h0
      cases e2 : (decide (0 ≤ st) && decide (st ≤ 1000000000)) with
      | false => rw [if_pos (show (!false) = true from rfl), Bool.false_and]
      | true => rw [if_neg (show ¬ (!true) = true by decide), Bool.true_and]; exact h0
    · rw [if_pos (by omega), decide_eq_false h, Bool.false_and, Bool.false_and]

theorem specKey_l0 (l : List Tg) (hl : l.length ≤ 4) (m : ByteArray) (st : Int) : ∀ (d i k : Nat), i + d = l.length → d + 14 < k → spec_GoodKey.l0 k l (l.length : Int) (i : Int) m l st = some (tagsB (prevT l i) (l.drop i)) := by
  intro d
  induction d with
  | zero =>
    intro i k hi hk
    obtain ⟨k, rfl⟩ : ∃ q, k = q + 1 := ⟨k - 1, by omega⟩
    rw [spec_GoodKey.l0, if_neg (by omega), List.drop_of_length_le (by omega)]
    rfl
  | succ d ih =>
    intro i k hi hk
    obtain ⟨k, rfl⟩ : ∃ q, k = q + 1 := ⟨k - 1, by omega⟩
    have hn := ih (i + 1) k (by omega) (by omega)
    have hlt : i < l.length := by omega
    have hp : prevT l (i + 1) = some l[i].f0 := by unfold prevT; rw [if_neg (by omega), Nat.add_sub_cancel, rdT_get hlt]
    rw [hp] at hn
    have e0 : rd_T123 l (i : Int) = l[i] := rdT_get hlt
    rw [spec_GoodKey.l0, if_pos (by omega), if_pos (by omega), if_pos (by omega), e0, l1Name_ok _ (by omega), l1Name_ok _ (by omega), Option.bind_some, show wrap64 ((i : Int) + 1) = ((i + 1 : Nat) : Int) from by rw [w64 (by omega) (by omega)]; omega, hn, drop_get hlt, tagsB]
    cases e1 : nameB l[i].f0 with
    | false => rw [if_neg (by decide), Bool.false_and]
    | true =>
      rw [if_pos rfl, Option.bind_some, Bool.true_and]
      cases e2 : nameB l[i].f1 with
      | false => rw [if_neg (by decide), Bool.false_and]
      | true =>
        rw [if_pos rfl, Bool.true_and]
        by_cases h0 : i = 0
        · rw [if_neg (by omega)]
          unfold prevT
          rw [if_pos h0, aft, Bool.true_and]
        · have e3 : wrap64 ((i : Int) - 1) = ((i - 1 : Nat) : Int) := by rw [w64 (by omega) (by omega)]; omega
          rw [if_pos (by omega), e3, if_pos (by omega), if_pos (by omega)]
          unfold prevT
          rw [if_neg h0, aft, Go.Lib.toList_data, Go.Lib.toList_data]
          show (if Op.bytesLess (rdT l ((i - 1 : Nat) : Int)).f0.data.toList l[i].f0.data.toList = true then _ else _) = _
          cases Op.bytesLess (rdT l ((i - 1 : Nat) : Int)).f0.data.toList l[i].f0.data.toList with
          | true => rw [if_pos rfl, Bool.true_and]
          | false => rw [if_neg (by decide), Bool.false_and]

theorem specKey_ok (m : ByteArray) (l : List Tg) (st : Int) {k : Nat} (hk : 20 < k) : spec_GoodKey.f k m l st = some (keyB m l st) := by
  obtain ⟨k, rfl⟩ : ∃ q, k = q + 1 := ⟨k - 1, by omega⟩
  unfold spec_GoodKey.f keyB
  rw [l1Name_ok _ (by omega), Option.bind_some, spec_GoodKey.j0, if_pos rfl]
  cases e1 : nameB m with
  | false => rw [if_neg (by decide), Bool.false_and]
  | true =>
    rw [if_pos rfl, Bool.true_and]
    by_cases h : l.length ≤ 4
    · rw [if_neg (by omega), l1InB_ok, Option.bind_some, decide_eq_true h, Bool.true_and, spec_GoodKey.j0]
      have h0 := specKey_l0 l h m st l.length 0 k (by omega) (by omega)
      rw [List.drop_zero] at h0
      cases e2 : (decide (0 ≤ st) && decide (st ≤ 1000000000)) with
      | false => rw [if_pos (show (!false) = true from rfl), Bool.false_and]
      | true => rw [if_neg (show ¬ (!true) = true by decide), Bool.true_and]; exact h0
    · rw [if_pos (by omega), decide_eq_false h, Bool.false_and, Bool.false_and]

end Go.Proofs.YtkgmoajdcibafaaDoor.Lem

/- Two good keys compared: the program's CompareKeys and the specification's comparison give one number. -/
namespace Go.Proofs.YtkgmoajdcibafaaDoor.Lem
open Go Go.RowKit Go.Proofs.YtkgmoajdcibafaaDoor.P Go.Proofs.YtkgmoajdcibafaaDoorW.PrintWords Go.Proofs.YtkgmoajdcibafaaDoorW.PrintLast Go.Proofs.YtkgmoajdcibafaaDoorW.PrintMore

/-- Tags in line. -/
def ordT : List Tg → List Tg → Int
  | [], [] => 0
  | [], _ :: _ => -1
  | _ :: _, [] => 1
  | a :: x, b :: y => if ordB a.f0 b.f0 = 0 then (if ordB a.f1 b.f1 = 0 then ordT x y else ordB a.f1 b.f1) else ordB a.f0 b.f0
def keyOrd (m : ByteArray) (l : List Tg) (s : Int) (m' : ByteArray) (l' : List Tg) (s' : Int) : Int :=
  if ordB m m' = 0 then (if ordT l l' = 0 then sgnI s s' else ordT l l') else ordB m m'

theorem l1Text_ok (a b : ByteArray) : spec_l1Text.f a b = some (ordB a b) := by
  unfold spec_l1Text.f ordB ord
  rw [Go.Lib.toList_data, Go.Lib.toList_data]
  split
  · rfl
  · split <;> rfl
theorem cmpTag_ok (a b : Tg) {k : Nat} (hk : 3 < k) : impl_CompareKeys_1.f k a.f0 a.f1 b.f0 b.f1 = some (if ordB a.f0 b.f0 = 0 then ordB a.f1 b.f1 else ordB a.f0 b.f0) := by
  obtain ⟨k, rfl⟩ : ∃ q, k = q + 3 := ⟨k - 3, by omega⟩
  unfold impl_CompareKeys_1.f
  rw [cmpS_ok, cmpS_ok, Option.bind_some, Option.bind_some, or2_ok, Option.bind_some]

theorem implTags_l0 (l l' : List Tg) (hl : l.length ≤ 4) : ∀ (d i k : Nat), i + d = l.length → i ≤ l'.length → d + 6 < k →
    impl_Tag_with_impl_CompareKeys_1.l0 k l l' l (l.length : Int) (i : Int) = some (ordT (l.drop i) (l'.drop i)) := by
  intro d
  induction d with
  | zero =>
    intro i k hi hi' hk
    obtain ⟨k, rfl⟩ : ∃ q, k = q + 1 := ⟨k - 1, by omega⟩
    rw [impl_Tag_with_impl_CompareKeys_1.l0, if_neg (by omega), List.drop_of_length_le (show l.length ≤ i by omega)]
    by_cases h : l.length < l'.length
    · rw [if_pos (by omega), drop_get (show i < l'.length by omega)]
      rfl
    · rw [if_neg (by omega), List.drop_of_length_le (show l'.length ≤ i by omega)]
      rfl
  | succ d ih =>
    intro i k hi hi' hk
    obtain ⟨k, rfl⟩ : ∃ q, k = q + 1 := ⟨k - 1, by omega⟩
    have hlt : i < l.length := by omega
    have e0 : rd_T123 l (i : Int) = l[i] := rdT_get hlt
    rw [impl_Tag_with_impl_CompareKeys_1.l0, if_pos (by omega), if_pos (by omega), if_pos (by omega), drop_get hlt]
    by_cases h : i < l'.length
    · have e1 : rd_T123 l' (i : Int) = l'[i] := rdT_get h
      have hnext := ih (i + 1) k (by omega) (by omega) (by omega)
      rw [if_neg (by omega), if_pos (by omega), e0, e1, cmpTag_ok _ _ (by omega), Option.bind_some, drop_get h, ordT, show wrap64 ((i : Int) + 1) = ((i + 1 : Nat) : Int) from by rw [w64 (by omega) (by omega)]; omega, hnext]
      by_cases h1 : ordB l[i].f0 l'[i].f0 = 0
      · rw [if_pos h1, if_pos h1]
        by_cases h2 : ordB l[i].f1 l'[i].f1 = 0
        · rw [if_pos h2, if_pos h2]
        · rw [if_neg h2, if_neg h2]
      · rw [if_neg h1, if_neg h1, if_neg h1]
    · rw [if_pos (by omega), List.drop_of_length_le (show l'.length ≤ i by omega)]
      rfl
theorem implTags_ok (l l' : List Tg) (hl : l.length ≤ 4) {k : Nat} (hk : 12 < k) : impl_Tag_with_impl_CompareKeys_1.f k l l' = some (ordT l l') := by
  unfold impl_Tag_with_impl_CompareKeys_1.f
  have h := implTags_l0 l l' hl l.length 0 k (by omega) (by omega) (by omega)
  rw [List.drop_zero, List.drop_zero] at h
  exact h
theorem implCompare_ok {m m' : ByteArray} {l l' : List Tg} {s s' : Int} (h : keyB m l s = true) (h' : keyB m' l' s' = true) {k : Nat} (hk : 20 < k) : impl_CompareKeys.f k m l s m' l' s' = some (keyOrd m l s m' l' s') := by
  obtain ⟨k, rfl⟩ : ∃ q, k = q + 5 := ⟨k - 5, by omega⟩
  obtain ⟨_, hl, _⟩ := keyB_parts h
  unfold impl_CompareKeys.f
  rw [implKey_ok _ _ _ (by omega), implKey_ok _ _ _ (by omega), h, h', Option.bind_some, if_pos rfl, Option.bind_some, impl_CompareKeys.j0, if_neg (by decide), implTags_ok l l' hl (by omega), cmpS_ok, cmpI_ok, Option.bind_some, Option.bind_some, Option.bind_some, or3_ok, Option.bind_some]
  rfl

theorem specCmp_j2 (x : Int) (k : Nat) : spec_l1Compare.j2 (k + 1) x = some (sgnI x 0) := by
  rw [spec_l1Compare.j2]
  unfold sgnI
  split
  · rfl
  · split <;> rfl
theorem specCmp_l0 (m m' : ByteArray) (l l' : List Tg) (hl : l.length ≤ 4) (hl' : l'.length ≤ 4) {s s' : Int} (h0 : 0 ≤ s ∧ s ≤ 1000000000) (h1 : 0 ≤ s' ∧ s' ≤ 1000000000) : ∀ (d i k : Nat), i + d = l.length → i ≤ l'.length → 2 * d + 6 < k →
    spec_l1Compare.l0 k (i : Int) m l s m' l' s' = some (if ordT (l.drop i) (l'.drop i) = 0 then sgnI s s' else ordT (l.drop i) (l'.drop i)) := by
  have hend : ∀ (i k : Nat), (i = l.length ∨ i = l'.length) → i ≤ l.length → i ≤ l'.length → spec_l1Compare.j1 (k + 2) (i : Int) false m l s m' l' s' = some (if ordT (l.drop i) (l'.drop i) = 0 then sgnI s s' else ordT (l.drop i) (l'.drop i)) := by
    intro i k hi h2 h3
    rw [spec_l1Compare.j1, if_neg (by decide), show wrap64 ((l.length : Int) - (l'.length : Int)) = (l.length : Int) - (l'.length : Int) from w64 (by omega) (by omega)]
    by_cases e : l.length = l'.length
    · rw [if_pos (by omega), show wrap64 (s - s') = s - s' from w64 (by omega) (by omega), specCmp_j2, List.drop_of_length_le (show l.length ≤ i by omega), List.drop_of_length_le (show l'.length ≤ i by omega)]
      show _ = some (if (0 : Int) = 0 then sgnI s s' else 0)
      rw [if_pos rfl]
      unfold sgnI
      by_cases q : s < s'
      · rw [if_pos (by omega), if_pos q]
      · rw [if_neg (by omega), if_neg q]
        by_cases q2 : s > s'
        · rw [if_pos (by omega), if_pos q2]
        · rw [if_neg (by omega), if_neg q2]
    · rw [if_neg (by omega), specCmp_j2]
      rcases Nat.lt_or_ge l.length l'.length with q | q
      · rw [List.drop_of_length_le (show l.length ≤ i by omega), drop_get (show i < l'.length by omega)]
        show some (sgnI _ 0) = some (if (-1 : Int) = 0 then sgnI s s' else -1)
        rw [if_neg (by decide)]
        unfold sgnI
        rw [if_pos (by omega)]
      · rw [List.drop_of_length_le (show l'.length ≤ i by omega), drop_get (show i < l.length by omega)]
        show some (sgnI _ 0) = some (if (1 : Int) = 0 then sgnI s s' else 1)
        rw [if_neg (by decide)]
        unfold sgnI
        rw [if_neg (by omega), if_pos (by omega)]
  intro d
  induction d with
  | zero =>
    intro i k hi hi' hk
    obtain ⟨k, rfl⟩ : ∃ q, k = q + 3 := ⟨k - 3, by omega⟩
    rw [spec_l1Compare.l0, if_neg (by omega)]
    exact hend i k (by omega) (by omega) hi'
  | succ d ih =>
    intro i k hi hi' hk
    obtain ⟨k, rfl⟩ : ∃ q, k = q + 3 := ⟨k - 3, by omega⟩
    have hlt : i < l.length := by omega
    have e0 : rd_T123 l (i : Int) = l[i] := rdT_get hlt
    rw [spec_l1Compare.l0, if_pos (by omega)]
    by_cases h : i < l'.length
    · have e1 : rd_T123 l' (i : Int) = l'[i] := rdT_get h
      have hnext := ih (i + 1) (k + 1) (by omega) (by omega) (by omega)
      rw [decide_eq_true (by omega), spec_l1Compare.j1, if_pos rfl, if_pos (by omega), if_pos (by omega), if_pos (by omega), e0, e1, l1Text_ok, l1Text_ok, Option.bind_some, Option.bind_some, drop_get hlt, drop_get h, ordT, show wrap64 ((i : Int) + 1) = ((i + 1 : Nat) : Int) from by rw [w64 (by omega) (by omega)]; omega, hnext]
      by_cases q1 : ordB l[i].f0 l'[i].f0 = 0
      · rw [if_pos q1, if_pos q1]
        by_cases q2 : ordB l[i].f1 l'[i].f1 = 0
        · rw [if_pos q2, if_pos q2]
        · rw [if_neg q2, if_neg q2, if_neg q2]
      · rw [if_neg q1, if_neg q1, if_neg q1]
    · rw [decide_eq_false (by omega)]
      exact hend i k (.inr (by omega)) (by omega) hi'
theorem specCompare_ok {m m' : ByteArray} {l l' : List Tg} {s s' : Int} (h : keyB m l s = true) (h' : keyB m' l' s' = true) {k : Nat} (hk : 20 < k) : spec_l1Compare.f k m l s m' l' s' = some (keyOrd m l s m' l' s') := by
  obtain ⟨_, hl, h0, h1, _⟩ := keyB_parts h
  obtain ⟨_, hl', h0', h1', _⟩ := keyB_parts h'
  unfold spec_l1Compare.f keyOrd
  rw [l1Text_ok, Option.bind_some]
  by_cases q : ordB m m' = 0
  · have e := specCmp_l0 m m' l l' hl hl' ⟨h0, h1⟩ ⟨h0', h1'⟩ l.length 0 k (by omega) (by omega) (by omega)
    rw [List.drop_zero, List.drop_zero] at e
    rw [if_pos q, if_pos q]
    exact e
  · rw [if_neg q, if_neg q]
end Go.Proofs.YtkgmoajdcibafaaDoor.Lem

/- Two computations that answer, and alike. No conditions. -/
namespace Go.Proofs.YtkgmoajdcibafaaDoor.Lem
open Go Go.RowKit Go.Proofs.YtkgmoajdcibafaaDoor.P
/-- Both answer, and alike. -/
def Both {α : Type} (a b : Option α) : Prop := ∃ r, a = some r ∧ b = some r
section
variable {α β γ : Type} {a a' b b' : Option α}
theorem Both.of (r : α) (ha : a = some r) (hb : b = some r) : Both a b := ⟨r, ha, hb⟩
theorem Both.ite {c : Prop} [Decidable c] (h1 : c → Both a a') (h2 : ¬ c → Both b b') : Both (if c then a else b) (if c then a' else b') := by
  by_cases h : c
  · rw [if_pos h, if_pos h]
    exact h1 h
  · rw [if_neg h, if_neg h]
    exact h2 h
theorem Both.yes {c : Prop} [Decidable c] (h : c) (h1 : Both a a') : Both (if c then a else b) (if c then a' else b') := Both.ite (fun _ => h1) (fun q => absurd h q)
theorem Both.no {c : Prop} [Decidable c] (h : ¬ c) (h1 : Both b b') : Both (if c then a else b) (if c then a' else b') := Both.ite (fun q => absurd q h) (fun _ => h1)
theorem Both.bind {f : Option β} {f' : Option γ} {g : β → Option α} {g' : γ → Option α} {x : β} {x' : γ} (hf : f = some x) (hf' : f' = some x') (h : Both (g x) (g' x')) : Both (f.bind g) (f'.bind g') := by
  rw [hf, hf', Option.bind_some, Option.bind_some]
  exact h
theorem Both.bind_l {f : Option β} {g : β → Option α} {x : β} (hf : f = some x) (h : Both (g x) a') : Both (f.bind g) a' := by
  rw [hf, Option.bind_some]
  exact h
theorem Both.bind_r {f : Option β} {g : β → Option α} {x : β} (hf : f = some x) (h : Both a (g x)) : Both a (f.bind g) := by
  rw [hf, Option.bind_some]
  exact h
theorem Both.yes_l {c : Prop} [Decidable c] (h : c) (h1 : Both a a') : Both (if c then a else b) a' := by rw [if_pos h]; exact h1
theorem Both.no_l {c : Prop} [Decidable c] (h : ¬ c) (h1 : Both b a') : Both (if c then a else b) a' := by rw [if_neg h]; exact h1
theorem Both.yes_r {c : Prop} [Decidable c] (h : c) (h1 : Both a' a) : Both a' (if c then a else b) := by rw [if_pos h]; exact h1
theorem Both.no_r {c : Prop} [Decidable c] (h : ¬ c) (h1 : Both a' b) : Both a' (if c then a else b) := by rw [if_neg h]; exact h1
end
end Go.Proofs.YtkgmoajdcibafaaDoor.Lem

/- Aggs: when one is good, and how two are joined; joining is the same in any order and any brackets. No program in sight. -/
namespace Go.Proofs.YtkgmoajdcibafaaDoor.Lem
open Go.RowKit Go.Proofs.YtkgmoajdcibafaaDoorW.PrintWords Go.Proofs.YtkgmoajdcibafaaDoorW.PrintLast Go.Proofs.YtkgmoajdcibafaaDoorW.PrintMore

/-- An agg. -/
structure Ag where
  c : Int
  s : Int
  mi : Int
  ma : Int
  h : List Int
  f : Bool

/-- A number, capped. -/
def cap (x : Int) : Int := if x > 1000000000 then 1000000000 else x
theorem cap_le (x : Int) : cap x ≤ 1000000000 := by unfold cap; split <;> omega
theorem cap_of {x : Int} (h : x ≤ 1000000000) : cap x = x := by unfold cap; rw [if_neg (by omega)]
theorem cap_nonneg {x : Int} (h : 0 ≤ x) : 0 ≤ cap x := by unfold cap; split <;> omega
theorem cap_cap (x y : Int) (h0 : 0 ≤ y) : cap (cap x + y) = cap (x + y) := by unfold cap; split <;> split <;> omega
theorem cap_cap' (x y : Int) (h0 : 0 ≤ x) : cap (x + cap y) = cap (x + y) := by unfold cap; split <;> split <;> omega
theorem cap_over (x y : Int) (h0 : 0 ≤ y) : (decide (x > 1000000000) || decide (cap x + y > 1000000000)) = decide (x + y > 1000000000) := by
  unfold cap
  by_cases h : x > 1000000000
  · rw [decide_eq_true h, Bool.true_or, decide_eq_true (by omega)]
  · rw [decide_eq_false h, Bool.false_or, if_neg h]
theorem cap_over' (x y : Int) (h0 : 0 ≤ x) : (decide (y > 1000000000) || decide (x + cap y > 1000000000)) = decide (x + y > 1000000000) := by
  rw [Int.add_comm x (cap y), Int.add_comm x y]
  exact cap_over y x h0

/-- Two lists' sums, capped; whether one is over. -/
def addH : List Int → List Int → List Int
  | x :: xs, y :: ys => cap (x + y) :: addH xs ys
  | _, _ => []
def overH : List Int → List Int → Bool
  | x :: xs, y :: ys => decide (x + y > 1000000000) || overH xs ys
  | _, _ => false

/-- Numbers of a histogram. -/
def Nums (l : List Int) : Prop := ∀ x ∈ l, 0 ≤ x ∧ x ≤ 1000000000
theorem Nums.tail {x : Int} {l : List Int} (h : Nums (x :: l)) : Nums l := fun y hy => h y (List.mem_cons_of_mem _ hy)
theorem Nums.head {x : Int} {l : List Int} (h : Nums (x :: l)) : 0 ≤ x ∧ x ≤ 1000000000 := h x (List.mem_cons_self ..)
theorem Nums.cons {x : Int} {l : List Int} (h0 : 0 ≤ x) (h1 : x ≤ 1000000000) (h : Nums l) : Nums (x :: l) := by
  intro y hy
  rcases List.mem_cons.1 hy with rfl | h'
  · exact ⟨h0, h1⟩
  · exact h y h'

theorem addH_comm : ∀ a b, addH a b = addH b a
  | [], [] => rfl
  | [], _ :: _ => rfl
  | _ :: _, [] => rfl
  | x :: xs, y :: ys => by simp only [addH]; rw [addH_comm xs ys, Int.add_comm]
theorem overH_comm : ∀ a b, overH a b = overH b a
  | [], [] => rfl
  | [], _ :: _ => rfl
  | _ :: _, [] => rfl
  | x :: xs, y :: ys => by simp only [overH]; rw [overH_comm xs ys, Int.add_comm]
theorem addH_length : ∀ {a b : List Int}, a.length = b.length → (addH a b).length = a.length
  | [], [], _ => rfl
  | [], _ :: _, h => by simp at h
  | _ :: _, [], h => by simp at h
  | x :: xs, y :: ys, h => by simp only [addH, List.length_cons]; rw [addH_length (by simpa using h)]
theorem addH_nums : ∀ {a b : List Int}, Nums a → Nums b → Nums (addH a b)
  | [], _, _, _ => fun _ h => by simp [addH] at h
  | _ :: _, [], _, _ => fun _ h => by simp [addH] at h
  | x :: xs, y :: ys, ha, hb => Nums.cons (cap_nonneg (by have := ha.head; have := hb.head; omega)) (cap_le _) (addH_nums ha.tail hb.tail)
theorem addH_assoc : ∀ {a b c : List Int}, Nums a → Nums b → Nums c → addH (addH a b) c = addH a (addH b c)
  | [], _, _, _, _, _ => by simp [addH]
  | _ :: _, [], _, _, _, _ => by simp [addH]
  | _ :: _, _ :: _, [], _, _, _ => by simp [addH]
  | x :: xs, y :: ys, z :: zs, ha, hb, hc => by
    have := ha.head; have := hb.head; have := hc.head
    simp only [addH]
    rw [addH_assoc ha.tail hb.tail hc.tail, cap_cap _ _ (by omega), cap_cap' _ _ (by omega), Int.add_assoc]
theorem overH_assoc : ∀ {a b c : List Int}, a.length = b.length → b.length = c.length → Nums a → Nums b → Nums c → (overH a b || overH (addH a b) c) = (overH b c || overH a (addH b c))
  | [], [], [], _, _, _, _, _ => by simp [addH, overH]
  | [], _ :: _, _, h, _, _, _, _ => by simp at h
  | _ :: _, [], _, h, _, _, _, _ => by simp at h
  | _, [], _ :: _, _, h, _, _, _ => by simp at h
  | _, _ :: _, [], _, h, _, _, _ => by simp at h
  | x :: xs, y :: ys, z :: zs, h1, h2, ha, hb, hc => by
    have := ha.head; have := hb.head; have := hc.head
    simp only [addH, overH]
    have ih := overH_assoc (by simpa using h1) (by simpa using h2) ha.tail hb.tail hc.tail
    have e1 := cap_over (x + y) z (by omega)
    have e2 := cap_over' x (y + z) (by omega)
    rw [← Int.add_assoc] at e2
    generalize decide (x + y > 1000000000) = p at *
    generalize decide (cap (x + y) + z > 1000000000) = q at *
    generalize decide (y + z > 1000000000) = r at *
    generalize decide (x + cap (y + z) > 1000000000) = t at *
    generalize overH xs ys = u at *
    generalize overH (addH xs ys) zs = v at *
    generalize overH ys zs = m at *
    generalize overH xs (addH ys zs) = n at *
    rw [← e2] at e1
    revert e1 ih
    cases p <;> cases q <;> cases r <;> cases t <;> cases u <;> cases v <;> cases m <;> cases n <;> decide
theorem addH_zero : ∀ {a b : List Int}, a.length = b.length → (∀ x ∈ a, x = 0) → Nums b → addH a b = b ∧ overH a b = false
  | [], [], _, _, _ => ⟨rfl, rfl⟩
  | [], _ :: _, h, _, _ => by simp at h
  | _ :: _, [], h, _, _ => by simp at h
  | x :: xs, y :: ys, h, h0, hb => by
    have hx : x = 0 := h0 x (List.mem_cons_self ..)
    have := hb.head
    obtain ⟨i1, i2⟩ := addH_zero (by simpa using h) (fun z hz => h0 z (List.mem_cons_of_mem _ hz)) hb.tail
    simp only [addH, overH]
    rw [i1, i2, hx, Int.zero_add, cap_of (by omega), decide_eq_false (by omega)]
    exact ⟨rfl, rfl⟩
theorem sum_addH : ∀ {a b : List Int}, a.length = b.length → overH a b = false → (addH a b).sum = a.sum + b.sum
  | [], [], _, _ => by simp [addH]
  | [], _ :: _, h, _ => by simp at h
  | _ :: _, [], h, _ => by simp at h
  | x :: xs, y :: ys, h, ho => by
    simp only [overH, Bool.or_eq_false_iff, decide_eq_false_iff_not] at ho
    have ih := sum_addH (a := xs) (b := ys) (by simpa using h) ho.2
    simp only [addH, List.sum_cons]
    rw [ih, cap_of (by omega)]
    omega
theorem Nums.sum_bound : ∀ {a : List Int}, Nums a → 0 ≤ a.sum ∧ a.sum ≤ 1000000000 * (a.length : Int)
  | [], _ => by simp
  | x :: xs, h => by
    have := h.head
    have ih := Nums.sum_bound h.tail
    simp only [List.sum_cons, List.length_cons]
    omega
theorem Nums.sum_zero : ∀ {a : List Int}, Nums a → a.sum = 0 → ∀ x ∈ a, x = 0
  | [], _, _ => by simp
  | x :: xs, h, hs => by
    have := h.head
    have ih := Nums.sum_bound h.tail
    simp only [List.sum_cons] at hs
    intro y hy
    rcases List.mem_cons.1 hy with rfl | h'
    · omega
    · exact Nums.sum_zero h.tail (by omega) y h'

/-- When an agg is good. -/
structure Good (a : Ag) : Prop where
  c0 : 0 ≤ a.c
  c1 : a.c ≤ 1000000000
  len : a.h.length = 8
  nums : Nums a.h
  full : a.f = true → a.s = 0
  notfull : a.f = false → a.h.sum = a.c ∧ -1000000000 * a.c ≤ a.s ∧ a.s ≤ 1000000000 * a.c
  zero : a.c = 0 → a.mi = 0 ∧ a.ma = 0 ∧ a.h.sum = 0 ∧ a.f = false
  some : a.c ≠ 0 → -1000000000 ≤ a.mi ∧ a.mi ≤ a.ma ∧ a.ma ≤ 1000000000

/-- Two aggs in one. -/
def join (a b : Ag) : Ag :=
  let f := a.f || b.f || decide (a.c + b.c > 1000000000) || overH a.h b.h
  { c := cap (a.c + b.c), s := if f then 0 else a.s + b.s,
    mi := if a.c = 0 then b.mi else if b.c = 0 then a.mi else mn a.mi b.mi,
    ma := if a.c = 0 then b.ma else if b.c = 0 then a.ma else mx a.ma b.ma,
    h := addH a.h b.h, f := f }

theorem Ag.ext' {a b : Ag} (h1 : a.c = b.c) (h2 : a.s = b.s) (h3 : a.mi = b.mi) (h4 : a.ma = b.ma) (h5 : a.h = b.h) (h6 : a.f = b.f) : a = b := by
  cases a; cases b; simp_all
theorem mn_comm (a b : Int) : mn a b = mn b a := by unfold mn; split <;> split <;> omega
theorem mx_comm (a b : Int) : mx a b = mx b a := by unfold mx; split <;> split <;> omega

theorem mn_assoc (a b c : Int) : mn (mn a b) c = mn a (mn b c) := by unfold mn; (repeat' split) <;> omega
theorem mx_assoc (a b c : Int) : mx (mx a b) c = mx a (mx b c) := by unfold mx; (repeat' split) <;> omega

theorem join_comm {a b : Ag} (ha : Good a) (hb : Good b) : join a b = join b a := by
  have hf : (a.f || b.f || decide (a.c + b.c > 1000000000) || overH a.h b.h) = (b.f || a.f || decide (b.c + a.c > 1000000000) || overH b.h a.h) := by
    rw [overH_comm, Int.add_comm, Bool.or_comm a.f b.f]
  unfold join
  apply Ag.ext'
  · show cap (a.c + b.c) = cap (b.c + a.c)
    rw [Int.add_comm]
  · simp only [hf, Int.add_comm]
  · simp only
    by_cases h1 : a.c = 0
    · by_cases h2 : b.c = 0
      · rw [if_pos h1, if_pos h2, (ha.zero h1).1, (hb.zero h2).1]
      · rw [if_pos h1, if_neg h2, if_pos h1]
    · by_cases h2 : b.c = 0
      · rw [if_neg h1, if_pos h2, if_pos h2]
      · rw [if_neg h1, if_neg h2, if_neg h2, if_neg h1, mn_comm]
  · simp only
    by_cases h1 : a.c = 0
    · by_cases h2 : b.c = 0
      · rw [if_pos h1, if_pos h2, (ha.zero h1).2.1, (hb.zero h2).2.1]
      · rw [if_pos h1, if_neg h2, if_pos h1]
    · by_cases h2 : b.c = 0
      · rw [if_neg h1, if_pos h2, if_pos h2]
      · rw [if_neg h1, if_neg h2, if_neg h2, if_neg h1, mx_comm]
  · exact addH_comm _ _
  · exact hf

theorem join_zero {a b : Ag} (ha : Good a) (hb : Good b) (h : a.c = 0) : join a b = b := by
  obtain ⟨_, _, z3, z4⟩ := ha.zero h
  obtain ⟨e1, e2⟩ := addH_zero (a := a.h) (b := b.h) (by rw [ha.len, hb.len]) (ha.nums.sum_zero z3) hb.nums
  have hc := hb.c1
  have hs : a.s = 0 := by
    have := ha.notfull z4
    rw [h] at this
    omega
  have hf : (a.f || b.f || decide (a.c + b.c > 1000000000) || overH a.h b.h) = b.f := by
    rw [z4, e2, h, Int.zero_add, decide_eq_false (by omega), Bool.false_or, Bool.or_false, Bool.or_false]
  unfold join
  apply Ag.ext'
  · show cap (a.c + b.c) = b.c
    rw [h, Int.zero_add, cap_of hc]
  · simp only [hf]
    by_cases hb' : b.f = true
    · rw [if_pos hb', hb.full hb']
    · rw [if_neg hb', hs, Int.zero_add]
  · simp only; rw [if_pos h]
  · simp only; rw [if_pos h]
  · exact e1
  · exact hf

theorem join_good {a b : Ag} (ha : Good a) (hb : Good b) : Good (join a b) := by
  have a0 := ha.c0; have a1 := ha.c1; have b0 := hb.c0; have b1 := hb.c1
  by_cases h1 : a.c = 0
  · rw [join_zero ha hb h1]; exact hb
  by_cases h2 : b.c = 0
  · rw [join_comm ha hb, join_zero hb ha h2]; exact ha
  have hcc : cap (a.c + b.c) ≠ 0 := by unfold cap; split <;> omega
  obtain ⟨am1, am2, am3⟩ := ha.some h1
  obtain ⟨bm1, bm2, bm3⟩ := hb.some h2
  have hlen : a.h.length = b.h.length := by rw [ha.len, hb.len]
  refine ⟨cap_nonneg (by omega), cap_le _, (addH_length hlen).trans ha.len, addH_nums ha.nums hb.nums, ?_, ?_, fun h => absurd h hcc, fun _ => ?_⟩
  · intro hf
    show (if (join a b).f = true then (0 : Int) else a.s + b.s) = 0
    rw [if_pos hf]
  · intro hf
    have hf' : (a.f || b.f || decide (a.c + b.c > 1000000000) || overH a.h b.h) = false := hf
    simp only [Bool.or_eq_false_iff, decide_eq_false_iff_not] at hf'
    obtain ⟨⟨⟨f1, f2⟩, f3⟩, f4⟩ := hf'
    obtain ⟨x1, x2, x3⟩ := ha.notfull f1
    obtain ⟨y1, y2, y3⟩ := hb.notfull f2
    have hc : (join a b).c = a.c + b.c := cap_of (by omega)
    have hs : (join a b).s = a.s + b.s := by
      show (if (join a b).f = true then (0 : Int) else a.s + b.s) = _
      rw [if_neg (by rw [hf]; decide)]
    rw [hc, hs]
    refine ⟨?_, by omega, by omega⟩
    show (addH a.h b.h).sum = _
    rw [sum_addH hlen f4, x1, y1]
  · show -1000000000 ≤ (if a.c = 0 then b.mi else if b.c = 0 then a.mi else mn a.mi b.mi) ∧ (if a.c = 0 then b.mi else if b.c = 0 then a.mi else mn a.mi b.mi) ≤ (if a.c = 0 then b.ma else if b.c = 0 then a.ma else mx a.ma b.ma) ∧ (if a.c = 0 then b.ma else if b.c = 0 then a.ma else mx a.ma b.ma) ≤ 1000000000
    rw [if_neg h1, if_neg h2, if_neg h1, if_neg h2]
    unfold mn mx
    split <;> split <;> omega

theorem join_assoc {a b c : Ag} (ha : Good a) (hb : Good b) (hc : Good c) : join (join a b) c = join a (join b c) := by
  have a0 := ha.c0; have a1 := ha.c1; have b0 := hb.c0; have b1 := hb.c1; have d0 := hc.c0; have d1 := hc.c1
  by_cases h1 : a.c = 0
  · rw [join_zero ha hb h1, join_zero ha (join_good hb hc) h1]
  by_cases h2 : b.c = 0
  · rw [join_comm ha hb, join_zero hb ha h2, join_zero hb hc h2]
  by_cases h3 : c.c = 0
  · rw [join_comm (join_good ha hb) hc, join_zero hc (join_good ha hb) h3, join_comm hb hc, join_zero hc hb h3]
  have n1 : cap (a.c + b.c) ≠ 0 := by unfold cap; split <;> omega
  have n2 : cap (b.c + c.c) ≠ 0 := by unfold cap; split <;> omega
  have l1 : a.h.length = b.h.length := by rw [ha.len, hb.len]
  have l2 : b.h.length = c.h.length := by rw [hb.len, hc.len]
  have hover := overH_assoc l1 l2 ha.nums hb.nums hc.nums
  have o1 := cap_over (a.c + b.c) c.c d0
  have o2 := cap_over' a.c (b.c + c.c) a0
  rw [← Int.add_assoc, ← o1] at o2
  have hf : (join (join a b) c).f = (join a (join b c)).f := by
    show ((a.f || b.f || decide (a.c + b.c > 1000000000) || overH a.h b.h) || c.f || decide (cap (a.c + b.c) + c.c > 1000000000) || overH (addH a.h b.h) c.h) = (a.f || (b.f || c.f || decide (b.c + c.c > 1000000000) || overH b.h c.h) || decide (a.c + cap (b.c + c.c) > 1000000000) || overH a.h (addH b.h c.h))
    generalize decide (a.c + b.c > 1000000000) = p at *
    generalize decide (cap (a.c + b.c) + c.c > 1000000000) = q at *
    generalize decide (b.c + c.c > 1000000000) = r at *
    generalize decide (a.c + cap (b.c + c.c) > 1000000000) = t at *
    generalize overH a.h b.h = u at *
    generalize overH (addH a.h b.h) c.h = v at *
    generalize overH b.h c.h = m at *
    generalize overH a.h (addH b.h c.h) = n at *
    generalize a.f = x
    generalize b.f = y
    generalize c.f = z
    clear ha hb hc a0 a1 b0 b1 d0 d1 h1 h2 h3 n1 n2 l1 l2 o1
    revert o2 hover
    cases p <;> cases q <;> cases r <;> cases t <;> cases u <;> cases v <;> cases m <;> cases n <;> simp <;> cases x <;> cases y <;> cases z <;> decide
  have hs : (join (join a b) c).s = (join a (join b c)).s := by
    by_cases hF : (join (join a b) c).f = true
    · have hG := hf ▸ hF
      show (if (join (join a b) c).f = true then (0 : Int) else (join a b).s + c.s) = (if (join a (join b c)).f = true then (0 : Int) else a.s + (join b c).s)
      rw [if_pos hF, if_pos hG]
    · have hG : ¬ (join a (join b c)).f = true := hf ▸ hF
      have e1 : (join a b).f = false := by
        have : ((join a b).f || c.f || decide (cap (a.c + b.c) + c.c > 1000000000) || overH (addH a.h b.h) c.h) = false := Bool.eq_false_iff.2 hF
        simp only [Bool.or_eq_false_iff] at this
        exact this.1.1.1
      have e2 : (join b c).f = false := by
        have : (a.f || (join b c).f || decide (a.c + cap (b.c + c.c) > 1000000000) || overH a.h (addH b.h c.h)) = false := Bool.eq_false_iff.2 hG
        simp only [Bool.or_eq_false_iff] at this
        exact this.1.1.2
      show (if (join (join a b) c).f = true then (0 : Int) else (if (join a b).f = true then (0 : Int) else a.s + b.s) + c.s) = (if (join a (join b c)).f = true then (0 : Int) else a.s + (if (join b c).f = true then (0 : Int) else b.s + c.s))
      rw [if_neg hF, if_neg hG, if_neg (by rw [e1]; decide), if_neg (by rw [e2]; decide), Int.add_assoc]
  apply Ag.ext'
  · show cap (cap (a.c + b.c) + c.c) = cap (a.c + cap (b.c + c.c))
    rw [cap_cap _ _ d0, cap_cap' _ _ a0, Int.add_assoc]
  · exact hs
  · show (if cap (a.c + b.c) = 0 then c.mi else if c.c = 0 then (join a b).mi else mn (if a.c = 0 then b.mi else if b.c = 0 then a.mi else mn a.mi b.mi) c.mi) = (if a.c = 0 then (join b c).mi else if cap (b.c + c.c) = 0 then a.mi else mn a.mi (if b.c = 0 then c.mi else if c.c = 0 then b.mi else mn b.mi c.mi))
    rw [if_neg n1, if_neg h3, if_neg h1, if_neg h2, if_neg h1, if_neg n2, if_neg h2, if_neg h3]
    exact mn_assoc _ _ _
  · show (if cap (a.c + b.c) = 0 then c.ma else if c.c = 0 then (join a b).ma else mx (if a.c = 0 then b.ma else if b.c = 0 then a.ma else mx a.ma b.ma) c.ma) = (if a.c = 0 then (join b c).ma else if cap (b.c + c.c) = 0 then a.ma else mx a.ma (if b.c = 0 then c.ma else if c.c = 0 then b.ma else mx b.ma c.ma))
    rw [if_neg n1, if_neg h3, if_neg h1, if_neg h2, if_neg h1, if_neg n2, if_neg h2, if_neg h3]
    exact mx_assoc _ _ _
  · exact addH_assoc ha.nums hb.nums hc.nums
  · exact hf

end Go.Proofs.YtkgmoajdcibafaaDoor.Lem

namespace Go.Proofs.YtkgmoajdcibafaaDoor.Lem
open Go.RowKit Go.Proofs.YtkgmoajdcibafaaDoor.P Go.Proofs.YtkgmoajdcibafaaDoorW.PrintWords Go.Proofs.YtkgmoajdcibafaaDoorW.PrintLast Go.Proofs.YtkgmoajdcibafaaDoorW.PrintMore

theorem within_ok (a b c : Int) : impl_within.f a b c = some (decide (b ≤ a ∧ a ≤ c)) := by
  unfold impl_within.f
  by_cases h : a ≥ b
  · rw [if_pos h]
    congr 1
    simp [show b ≤ a from h]
  · rw [if_neg h]
    congr 1
    simp [show ¬ b ≤ a from h]

end Go.Proofs.YtkgmoajdcibafaaDoor.Lem

/- Both programs tell whether an agg is good, and tell it alike, for aggs in bounds. -/
namespace Go.Proofs.YtkgmoajdcibafaaDoor.Lem
open Go.RowKit Go.Proofs.YtkgmoajdcibafaaDoor.P Go.Proofs.YtkgmoajdcibafaaDoorW.PrintWords Go.Proofs.YtkgmoajdcibafaaDoorW.PrintLast Go.Proofs.YtkgmoajdcibafaaDoorW.PrintMore

theorem l1In_ok (a b c : Int) : spec_l1In.f a b c = some (decide (b ≤ a ∧ a ≤ c)) := by
  unfold spec_l1In.f
  by_cases h : a ≥ b
  · rw [if_pos h]
    congr 1
    exact decide_eq_decide.2 ⟨fun h' => ⟨h, h'⟩, fun h' => h'.2⟩
  · rw [if_neg h]
    congr 1
    exact (decide_eq_false (fun h' => h h'.1)).symm
theorem isValue_ok (v : Int) : impl_isValue.f v = some (decide (-1000000000 ≤ v ∧ v ≤ 1000000000)) := by
  unfold impl_isValue.f
  rw [within_ok, Option.bind_some]
theorem l4Value_ok (v : Int) : spec_l4Value.f v = some (decide (-1000000000 ≤ v ∧ v ≤ 1000000000)) := by
  unfold spec_l4Value.f
  rw [l1In_ok, Option.bind_some]

/-- An agg in bounds. -/
structure Rg (a : Ag) : Prop where
  c : -4000000000 ≤ a.c ∧ a.c ≤ 4000000000
  s : -4000000000000000000 ≤ a.s ∧ a.s ≤ 4000000000000000000
  mi : -4000000000 ≤ a.mi ∧ a.mi ≤ 4000000000
  ma : -4000000000 ≤ a.ma ∧ a.ma ≤ 4000000000
  len : a.h.length ≤ 8
  nums : ∀ x ∈ a.h, -4000000000 ≤ x ∧ x ≤ 4000000000

theorem Good.rg {a : Ag} (h : Good a) : Rg a := by
  have h0 := h.c0; have h1 := h.c1
  refine ⟨by omega, ?_, ?_, ?_, by rw [h.len]; decide, fun x hx => by have := h.nums x hx; omega⟩
  · by_cases hf : a.f = true
    · rw [h.full hf]; decide
    · have := h.notfull (Bool.eq_false_iff.2 hf)
      omega
  · by_cases hc : a.c = 0
    · have := h.zero hc; omega
    · have := h.some hc; omega
  · by_cases hc : a.c = 0
    · have := h.zero hc; omega
    · have := h.some hc; omega

theorem rd_at0 {l : List Int} {i : Nat} (h : i < l.length) : l.drop i = rd l (i : Int) :: l.drop (i + 1) := by
  rw [List.drop_eq_getElem_cons h]
  unfold Go.Proofs.YtkgmoajdcibafaaDoorW.PrintWords.rd
  rw [Int.toNat_natCast, List.getD_eq_getElem?_getD, List.getElem?_eq_getElem h]
  rfl

theorem gi_l0 {h : List Int} (hl : h.length ≤ 8) (c s mi ma : Int) (hh : List Int) (f : Bool) (d : Nat) : ∀ (k i : Nat) (x : Int), i + d = h.length → 0 ≤ x → x ≤ 1000000000 * (i : Int) →
    (Nums (h.drop i) → impl_GoodAgg.l0 (k + d) x h (h.length : Int) (i : Int) c s mi ma hh f = impl_GoodAgg.l0 k (x + (h.drop i).sum) h (h.length : Int) (h.length : Int) c s mi ma hh f) ∧
    (¬ Nums (h.drop i) → impl_GoodAgg.l0 (k + d + 1) x h (h.length : Int) (i : Int) c s mi ma hh f = some false) := by
  induction d with
  | zero =>
    intro k i x hi h0 h1
    have hd : h.drop i = [] := List.drop_eq_nil_of_le (by omega)
    have hi' : i = h.length := by omega
    refine ⟨fun _ => ?_, fun hn => ?_⟩
    · rw [hd, List.sum_nil, Int.add_zero, hi']; rfl
    · rw [hd] at hn; exact absurd (fun x hx => by simp at hx) hn
  | succ d ih =>
    intro k i x hi h0 h1
    have hd := rd_at0 (l := h) (i := i) (by omega)
    have e1 : wrap64 ((i : Int) + 1) = ((i + 1 : Nat) : Int) := by rw [w64 (by omega) (by omega)]; omega
    by_cases hw : 0 ≤ rd h (i : Int) ∧ rd h (i : Int) ≤ 1000000000
    · have ew : wrap64 (x + rd h (i : Int)) = x + rd h (i : Int) := w64 (by omega) (by omega)
      obtain ⟨i1, i2⟩ := ih k (i + 1) (x + rd h (i : Int)) (by omega) (by omega) (by omega)
      refine ⟨fun hn => ?_, fun hn => ?_⟩
      · rw [hd] at hn
        rw [show k + (d + 1) = (k + d) + 1 by omega]
        conv => lhs; unfold impl_GoodAgg.l0
        rw [if_pos (by omega), if_pos (by omega), if_pos (by omega), within_ok, decide_eq_true hw, Option.bind_some, if_pos rfl, ew, e1, i1 hn.tail, hd, List.sum_cons, Int.add_assoc]
      · rw [hd] at hn
        have hn' : ¬ Nums (h.drop (i + 1)) := fun hn' => hn (Nums.cons hw.1 hw.2 hn')
        rw [show k + (d + 1) + 1 = (k + d + 1) + 1 by omega]
        conv => lhs; unfold impl_GoodAgg.l0
        rw [if_pos (by omega), if_pos (by omega), if_pos (by omega), within_ok, decide_eq_true hw, Option.bind_some, if_pos rfl, ew, e1, i2 hn']
    · refine ⟨fun hn => ?_, fun _ => ?_⟩
      · rw [hd] at hn; exact absurd hn.head hw
      · rw [show k + (d + 1) + 1 = (k + d + 1) + 1 by omega]
        conv => lhs; unfold impl_GoodAgg.l0
        rw [if_pos (by omega), if_pos (by omega), if_pos (by omega), within_ok, decide_eq_false hw, Option.bind_some, if_neg (by decide)]

theorem gs_l0 {h : List Int} (hl : h.length ≤ 8) (c s mi ma : Int) (hh : List Int) (f : Bool) (d : Nat) : ∀ (k i : Nat) (x : Int), i + d = h.length → 0 ≤ x → x ≤ 1000000000 * (i : Int) →
    (Nums (h.drop i) → spec_GoodAgg.l0 (k + d) x h (h.length : Int) (i : Int) c s mi ma hh f = spec_GoodAgg.l0 k (x + (h.drop i).sum) h (h.length : Int) (h.length : Int) c s mi ma hh f) ∧
    (¬ Nums (h.drop i) → spec_GoodAgg.l0 (k + d + 1) x h (h.length : Int) (i : Int) c s mi ma hh f = some false) := by
  induction d with
  | zero =>
    intro k i x hi h0 h1
    have hd : h.drop i = [] := List.drop_eq_nil_of_le (by omega)
    have hi' : i = h.length := by omega
    refine ⟨fun _ => ?_, fun hn => ?_⟩
    · rw [hd, List.sum_nil, Int.add_zero, hi']; rfl
    · rw [hd] at hn; exact absurd (fun x hx => by simp at hx) hn
  | succ d ih =>
    intro k i x hi h0 h1
    have hd := rd_at0 (l := h) (i := i) (by omega)
    have e1 : wrap64 ((i : Int) + 1) = ((i + 1 : Nat) : Int) := by rw [w64 (by omega) (by omega)]; omega
    by_cases hw : 0 ≤ rd h (i : Int) ∧ rd h (i : Int) ≤ 1000000000
    · have ew : wrap64 (x + rd h (i : Int)) = x + rd h (i : Int) := w64 (by omega) (by omega)
      obtain ⟨i1, i2⟩ := ih k (i + 1) (x + rd h (i : Int)) (by omega) (by omega) (by omega)
      refine ⟨fun hn => ?_, fun hn => ?_⟩
      · rw [hd] at hn
        rw [show k + (d + 1) = (k + d) + 1 by omega]
        conv => lhs; unfold spec_GoodAgg.l0
        rw [if_pos (by omega), if_pos (by omega), if_pos (by omega), l1In_ok, decide_eq_true hw, Option.bind_some, if_pos rfl, ew, e1, i1 hn.tail, hd, List.sum_cons, Int.add_assoc]
      · rw [hd] at hn
        have hn' : ¬ Nums (h.drop (i + 1)) := fun hn' => hn (Nums.cons hw.1 hw.2 hn')
        rw [show k + (d + 1) + 1 = (k + d + 1) + 1 by omega]
        conv => lhs; unfold spec_GoodAgg.l0
        rw [if_pos (by omega), if_pos (by omega), if_pos (by omega), l1In_ok, decide_eq_true hw, Option.bind_some, if_pos rfl, ew, e1, i2 hn']
    · refine ⟨fun hn => ?_, fun _ => ?_⟩
      · rw [hd] at hn; exact absurd hn.head hw
      · rw [show k + (d + 1) + 1 = (k + d + 1) + 1 by omega]
        conv => lhs; unfold spec_GoodAgg.l0
        rw [if_pos (by omega), if_pos (by omega), if_pos (by omega), l1In_ok, decide_eq_false hw, Option.bind_some, if_neg (by decide)]

/-- The answer of a test. -/
def Tells (p : Prop) (r : Option Bool) : Prop := (p → r = some true) ∧ (¬ p → r = some false)
theorem Tells.yes {p : Prop} (h : p) : Tells p (some true) := ⟨fun _ => rfl, fun h' => absurd h h'⟩
theorem Tells.no {p : Prop} (h : ¬ p) : Tells p (some false) := ⟨fun h' => absurd h' h, fun _ => rfl⟩

theorem impl_goodAll (a : Ag) {k : Nat} (hk : 20 < k) : Tells (Good a) (impl_GoodAgg.f k a.c a.s a.mi a.ma a.h a.f) := by
  obtain ⟨c, s, mi, ma, h, f⟩ := a
  simp only
  obtain ⟨k, rfl⟩ : ∃ m, k = m + 15 := ⟨k - 15, by omega⟩
  unfold impl_GoodAgg.f
  rw [within_ok, Option.bind_some]
  by_cases hc : 0 ≤ c ∧ c ≤ 1000000000
  · rw [decide_eq_true hc, if_pos rfl]
    rw [show k + 15 = (k + 14) + 1 from rfl, impl_GoodAgg.j0]
    by_cases hl : h.length = 8
    · rw [if_neg (by simp [hl])]
      have hs := gi_l0 (h := h) (by omega) c s mi ma h f 8
      by_cases hn : Nums h
      · obtain ⟨i1, _⟩ := hs (k + 6) 0 0 (by omega) (by omega) (by omega)
        have i1' := i1 (by rw [List.drop_zero]; exact hn)
        rw [List.drop_zero, Int.zero_add] at i1'
        have e0 : ((0 : Nat) : Int) = 0 := rfl
        rw [e0] at i1'
        rw [show k + 14 = k + 6 + 8 from rfl, i1']
        have hsum := hn.sum_bound
        conv => arg 2; unfold impl_GoodAgg.l0
        rw [if_neg (by omega)]
        have em : wrap64 (-1000000000 * c) = -1000000000 * c := w64 (by omega) (by omega)
        have ep : wrap64 (1000000000 * c) = 1000000000 * c := w64 (by omega) (by omega)
        have hj3 : ∀ (b : Bool), (b = false → (f = true → s = 0) ∧ (f = false → h.sum = c ∧ -1000000000 * c ≤ s ∧ s ≤ 1000000000 * c)) → (b = true → ¬ Good ⟨c, s, mi, ma, h, f⟩) → Tells (Good ⟨c, s, mi, ma, h, f⟩) (impl_GoodAgg.j3 (k + 4) h.sum b c s mi ma h f) := by
          intro b hb hb'
          rw [show k + 4 = (k + 3) + 1 from rfl, impl_GoodAgg.j3]
          by_cases b0 : b = true
          · rw [if_pos b0]; exact .no (hb' b0)
          obtain ⟨q1, q2⟩ := hb (Bool.eq_false_iff.2 b0)
          rw [if_neg b0]
          by_cases c0 : c = 0
          · rw [if_pos c0]
            by_cases m0 : mi = 0
            · rw [if_pos m0]
              by_cases m1 : ma = 0
              · rw [if_pos m1]
                by_cases s0 : h.sum = 0
                · rw [if_pos s0]
                  cases f
                  · exact .yes ⟨hc.1, hc.2, hl, hn, q1, q2, fun _ => ⟨m0, m1, s0, rfl⟩, fun h' => absurd c0 h'⟩
                  · exact .no (fun g => absurd (g.zero c0).2.2.2 (by simp))
                · rw [if_neg s0]; exact .no (fun g => s0 (g.zero c0).2.2.1)
              · rw [if_neg m1]; exact .no (fun g => m1 (g.zero c0).2.1)
            · rw [if_neg m0]; exact .no (fun g => m0 (g.zero c0).1)
          · rw [if_neg c0, isValue_ok, Option.bind_some]
            by_cases v1 : -1000000000 ≤ mi ∧ mi ≤ 1000000000
            · rw [decide_eq_true v1, if_pos rfl, isValue_ok, Option.bind_some]
              by_cases v2 : -1000000000 ≤ ma ∧ ma ≤ 1000000000
              · rw [decide_eq_true v2, if_pos rfl]
                by_cases v3 : mi ≤ ma
                · rw [decide_eq_true v3]
                  exact .yes ⟨hc.1, hc.2, hl, hn, q1, q2, fun h' => absurd h' c0, fun _ => ⟨v1.1, v3, v2.2⟩⟩
                · rw [decide_eq_false v3]; exact .no (fun g => v3 (g.some c0).2.1)
              · rw [decide_eq_false v2, if_neg (by decide)]
                exact .no (fun g => v2 (by have := g.some c0; simp only at this; omega))
            · rw [decide_eq_false v1, if_neg (by decide)]
              exact .no (fun g => v1 (by have := g.some c0; simp only at this; omega))
        cases f
        · rw [if_neg (by decide), impl_GoodAgg.j2, if_neg (by decide), if_neg (by decide)]
          by_cases hsc : h.sum = c
          · rw [if_pos hsc, within_ok, Option.bind_some, em, ep]
            by_cases hs' : -1000000000 * c ≤ s ∧ s ≤ 1000000000 * c
            · rw [decide_eq_true hs']
              exact hj3 false (fun _ => ⟨fun h' => absurd h' (by decide), fun _ => ⟨hsc, hs'.1, hs'.2⟩⟩) (fun h' => absurd h' (by decide))
            · rw [decide_eq_false hs']
              exact hj3 true (fun h' => absurd h' (by decide)) (fun _ g => hs' (g.notfull rfl).2)
          · rw [if_neg hsc]
            exact hj3 true (fun h' => absurd h' (by decide)) (fun _ g => hsc (g.notfull rfl).1)
        · rw [if_pos rfl, impl_GoodAgg.j2]
          by_cases s0 : s = 0
          · rw [if_neg (by simp [s0]), if_pos rfl]
            exact hj3 false (fun _ => ⟨fun _ => s0, fun h' => absurd h' (by simp)⟩) (fun h' => absurd h' (by decide))
          · rw [if_pos (by simp [s0])]
            exact .no (fun g => s0 (g.full rfl))
      · obtain ⟨_, i2⟩ := hs (k + 5) 0 0 (by omega) (by omega) (by omega)
        have i2' := i2 (by rw [List.drop_zero]; exact hn)
        have e0 : ((0 : Nat) : Int) = 0 := rfl
        rw [e0] at i2'
        rw [show k + 14 = k + 5 + 8 + 1 from rfl, i2']
        exact .no (fun g => hn g.nums)
    · rw [if_pos (by simp only [bne_iff_ne, ne_eq]; omega)]
      exact .no (fun g => hl g.len)
  · rw [decide_eq_false hc, if_neg (by decide)]
    rw [show k + 15 = (k + 14) + 1 from rfl, impl_GoodAgg.j0, if_pos rfl]
    exact .no (fun g => hc ⟨g.c0, g.c1⟩)

theorem impl_good {a : Ag} (_hr : Rg a) {k : Nat} (hk : 20 < k) : Tells (Good a) (impl_GoodAgg.f k a.c a.s a.mi a.ma a.h a.f) := impl_goodAll a hk

theorem spec_goodAll (a : Ag) {k : Nat} (hk : 20 < k) : Tells (Good a) (spec_GoodAgg.f k a.c a.s a.mi a.ma a.h a.f) := by
  obtain ⟨c, s, mi, ma, h, f⟩ := a
  simp only
  obtain ⟨k, rfl⟩ : ∃ m, k = m + 15 := ⟨k - 15, by omega⟩
  unfold spec_GoodAgg.f
  rw [l1In_ok, Option.bind_some]
  by_cases hc : 0 ≤ c ∧ c ≤ 1000000000
  · rw [decide_eq_true hc, if_pos rfl]
    rw [show k + 15 = (k + 14) + 1 from rfl, spec_GoodAgg.j0]
    by_cases hl : h.length = 8
    · rw [if_neg (by simp [hl])]
      have hs := gs_l0 (h := h) (by omega) c s mi ma h f 8
      by_cases hn : Nums h
      · obtain ⟨i1, _⟩ := hs (k + 6) 0 0 (by omega) (by omega) (by omega)
        have i1' := i1 (by rw [List.drop_zero]; exact hn)
        rw [List.drop_zero, Int.zero_add] at i1'
        have e0 : ((0 : Nat) : Int) = 0 := rfl
        rw [e0] at i1'
        rw [show k + 14 = k + 6 + 8 from rfl, i1']
        have hsum := hn.sum_bound
        conv => arg 2; unfold spec_GoodAgg.l0
        rw [if_neg (by omega)]
        have em : wrap64 (-1000000000 * c) = -1000000000 * c := w64 (by omega) (by omega)
        have ep : wrap64 (1000000000 * c) = 1000000000 * c := w64 (by omega) (by omega)
        by_cases c0 : c = 0
        · rw [if_pos c0]
          by_cases s0 : h.sum = 0
          · rw [if_pos s0]
            by_cases m0 : mi = 0
            · rw [if_pos m0]
              by_cases m1 : ma = 0
              · rw [if_pos m1]
                by_cases t0 : s = 0
                · rw [if_pos t0]
                  cases f
                  · exact .yes ⟨hc.1, hc.2, hl, hn, fun _ => t0, fun _ => ⟨by simp only; omega, by simp only; omega, by simp only; omega⟩, fun _ => ⟨m0, m1, s0, rfl⟩, fun h' => absurd c0 h'⟩
                  · exact .no (fun g => absurd (g.zero c0).2.2.2 (by simp))
                · rw [if_neg t0]
                  exact .no (fun g => t0 (by have h1 := g.notfull (g.zero c0).2.2.2; simp only at h1; omega))
              · rw [if_neg m1]; exact .no (fun g => m1 (g.zero c0).2.1)
            · rw [if_neg m0]; exact .no (fun g => m0 (g.zero c0).1)
          · rw [if_neg s0]; exact .no (fun g => s0 (g.zero c0).2.2.1)
        · have hj2 : ∀ (b : Bool), (b = false → -1000000000 ≤ mi ∧ mi ≤ ma ∧ ma ≤ 1000000000) → (b = true → ¬ Good ⟨c, s, mi, ma, h, f⟩) → Tells (Good ⟨c, s, mi, ma, h, f⟩) (spec_GoodAgg.j2 (k + 5) h.sum b c s mi ma h f) := by
            intro b hb hb'
            rw [show k + 5 = (k + 4) + 1 from rfl, spec_GoodAgg.j2]
            by_cases b0 : b = true
            · rw [if_pos b0]; exact .no (hb' b0)
            have hv := hb (Bool.eq_false_iff.2 b0)
            rw [if_neg b0]
            cases f
            · rw [if_neg (by decide)]
              by_cases hsc : h.sum = c
              · rw [if_pos hsc, l1In_ok, Option.bind_some, em, ep]
                by_cases hs' : -1000000000 * c ≤ s ∧ s ≤ 1000000000 * c
                · rw [decide_eq_true hs']
                  exact .yes ⟨hc.1, hc.2, hl, hn, fun h' => absurd h' (by simp), fun _ => ⟨hsc, hs'.1, hs'.2⟩, fun h' => absurd h' c0, fun _ => hv⟩
                · rw [decide_eq_false hs']; exact .no (fun g => hs' (g.notfull rfl).2)
              · rw [if_neg hsc]; exact .no (fun g => hsc (g.notfull rfl).1)
            · rw [if_pos rfl]
              by_cases t0 : s = 0
              · rw [show (s == 0) = true from beq_iff_eq.2 t0]
                exact .yes ⟨hc.1, hc.2, hl, hn, fun _ => t0, fun h' => absurd h' (by simp), fun h' => absurd h' c0, fun _ => hv⟩
              · rw [show (s == 0) = false from beq_eq_false_iff_ne.2 t0]; exact .no (fun g => t0 (g.full rfl))
          rw [if_neg c0, l4Value_ok, Option.bind_some]
          by_cases v1 : -1000000000 ≤ mi ∧ mi ≤ 1000000000
          · rw [decide_eq_true v1, if_pos rfl, l4Value_ok, Option.bind_some]
            by_cases v2 : -1000000000 ≤ ma ∧ ma ≤ 1000000000
            · rw [decide_eq_true v2, if_pos rfl]
              by_cases v3 : mi > ma
              · rw [decide_eq_true v3]
                exact hj2 true (fun h' => absurd h' (by decide)) (fun _ g => by have := g.some c0; simp only at this; omega)
              · rw [decide_eq_false v3]
                exact hj2 false (fun _ => ⟨v1.1, by omega, v2.2⟩) (fun h' => absurd h' (by decide))
            · rw [decide_eq_false v2, if_neg (by decide)]
              exact hj2 true (fun h' => absurd h' (by decide)) (fun _ g => v2 (by have := g.some c0; simp only at this; omega))
          · rw [decide_eq_false v1, if_neg (by decide)]
            exact hj2 true (fun h' => absurd h' (by decide)) (fun _ g => v1 (by have := g.some c0; simp only at this; omega))
      · obtain ⟨_, i2⟩ := hs (k + 5) 0 0 (by omega) (by omega) (by omega)
        have i2' := i2 (by rw [List.drop_zero]; exact hn)
        have e0 : ((0 : Nat) : Int) = 0 := rfl
        rw [e0] at i2'
        rw [show k + 14 = k + 5 + 8 + 1 from rfl, i2']
        exact .no (fun g => hn g.nums)
    · rw [if_pos (by simp only [bne_iff_ne, ne_eq]; omega)]
      exact .no (fun g => hl g.len)
  · rw [decide_eq_false hc, if_neg (by decide)]
    rw [show k + 15 = (k + 14) + 1 from rfl, spec_GoodAgg.j0, if_pos rfl]
    exact .no (fun g => hc ⟨g.c0, g.c1⟩)

theorem spec_good {a : Ag} (_hr : Rg a) {k : Nat} (hk : 20 < k) : Tells (Good a) (spec_GoodAgg.f k a.c a.s a.mi a.ma a.h a.f) := spec_goodAll a hk

end Go.Proofs.YtkgmoajdcibafaaDoor.Lem

/- Boards: the program's GoodBoard and the specification's answer alike at every board. -/
namespace Go.Proofs.YtkgmoajdcibafaaDoor.Lem
open Go Go.RowKit Go.Proofs.YtkgmoajdcibafaaDoor.P Go.Proofs.YtkgmoajdcibafaaDoorW.PrintWords Go.Proofs.YtkgmoajdcibafaaDoorW.PrintLast Go.Proofs.YtkgmoajdcibafaaDoorW.PrintMore

abbrev Wn := S37
theorem rdW_get {l : List Wn} {i : Nat} (h : i < l.length) : rd_T37 l (i : Int) = l[i] := by
  unfold rd_T37
  rw [Int.toNat_natCast, List.getD_eq_getElem?_getD, List.getElem?_eq_getElem h]
  rfl
def keyOf (w : Wn) : Bool := keyB w.f0.f0 w.f0.f1 w.f0.f2
theorem agg_both (w : Wn) {k : Nat} (hk : 20 < k) : ∃ b, spec_GoodAgg.f k w.f1.f0 w.f1.f1 w.f1.f2 w.f1.f3 w.f1.f4 w.f1.f5 = some b ∧ impl_GoodAgg.f k w.f1.f0 w.f1.f1 w.f1.f2 w.f1.f3 w.f1.f4 w.f1.f5 = some b := by
  have h1 := spec_goodAll ⟨w.f1.f0, w.f1.f1, w.f1.f2, w.f1.f3, w.f1.f4, w.f1.f5⟩ hk
  have h2 := impl_goodAll ⟨w.f1.f0, w.f1.f1, w.f1.f2, w.f1.f3, w.f1.f4, w.f1.f5⟩ hk
  by_cases g : Good ⟨w.f1.f0, w.f1.f1, w.f1.f2, w.f1.f3, w.f1.f4, w.f1.f5⟩
  · exact ⟨true, h1.1 g, h2.1 g⟩
  · exact ⟨false, h1.2 g, h2.2 g⟩
theorem board_l0 (sz ho ma : Int) (hs : 1 ≤ sz) (l : List Wn) (hl : l.length ≤ 40) : ∀ (d i k : Nat), i + d = l.length → 2 * d + 40 < k → (0 < i → keyOf (rd_T37 l ((i - 1 : Nat) : Int)) = true) →
    Both (spec_GoodBoard.l0 k l (l.length : Int) (i : Int) sz ho ma l) (impl_GoodBoard.l0 k l (l.length : Int) (i : Int) sz ho ma l) := by
  intro d
  induction d with
  | zero =>
    intro i k hi hk _
    obtain ⟨k, rfl⟩ : ∃ q, k = q + 1 := ⟨k - 1, by omega⟩
    exact .of true (by rw [spec_GoodBoard.l0, if_neg (by omega)]) (by rw [impl_GoodBoard.l0, if_neg (by omega)])
  | succ d ih =>
    intro i k hi hk hprev
    obtain ⟨k, rfl⟩ : ∃ q, k = q + 2 := ⟨k - 2, by omega⟩
    have hlt : i < l.length := by omega
    have e0 : rd_T37 l (i : Int) = l[i] := rdW_get hlt
    have ew : wrap64 ((i : Int) + 1) = ((i + 1 : Nat) : Int) := by rw [w64 (by omega) (by omega)]; omega
    -- what is behind the conditions
    have hj : ∀ (x : Bool), keyOf l[i] = true → Both (spec_GoodBoard.j2 (k + 1) (i : Int) l (l.length : Int) (i : Int) x sz ho ma l l[i].f0.f0 l[i].f0.f1 l[i].f0.f2 l[i].f1.f0 l[i].f1.f1 l[i].f1.f2 l[i].f1.f3 l[i].f1.f4 l[i].f1.f5 l[i].f2 l[i].f3)
        (impl_GoodBoard.j2 (k + 1) (i : Int) l (l.length : Int) (i : Int) x sz ho ma l l[i].f0.f0 l[i].f0.f1 l[i].f0.f2 l[i].f1.f0 l[i].f1.f1 l[i].f1.f2 l[i].f1.f3 l[i].f1.f4 l[i].f1.f5 l[i].f2 l[i].f3) := by
      intro x hx
      have hnext := ih (i + 1) k (by omega) (by omega) (fun _ => by rw [Nat.add_sub_cancel, e0]; exact hx)
      rw [spec_GoodBoard.j2, impl_GoodBoard.j2, ew]
      refine .ite (fun _ => .of false rfl rfl) (fun _ => .ite (fun h0 => ?_) (fun _ => hnext))
      have e3 : wrap64 ((i : Int) - 1) = ((i - 1 : Nat) : Int) := by rw [w64 (by omega) (by omega)]; omega
      have hp : keyOf (rd_T37 l ((i - 1 : Nat) : Int)) = true := hprev (by omega)
      rw [e3]
      exact .yes (by omega) (.yes (by omega) (.bind (specCompare_ok hp hx (by omega)) (implCompare_ok hp hx (by omega)) (.ite (fun _ => .of false rfl rfl) (fun _ => hnext))))
    have hjt : Both (spec_GoodBoard.j2 (k + 1) (i : Int) l (l.length : Int) (i : Int) true sz ho ma l l[i].f0.f0 l[i].f0.f1 l[i].f0.f2 l[i].f1.f0 l[i].f1.f1 l[i].f1.f2 l[i].f1.f3 l[i].f1.f4 l[i].f1.f5 l[i].f2 l[i].f3)
        (impl_GoodBoard.j2 (k + 1) (i : Int) l (l.length : Int) (i : Int) true sz ho ma l l[i].f0.f0 l[i].f0.f1 l[i].f0.f2 l[i].f1.f0 l[i].f1.f1 l[i].f1.f2 l[i].f1.f3 l[i].f1.f4 l[i].f1.f5 l[i].f2 l[i].f3) := .of false (by rw [spec_GoodBoard.j2, if_pos rfl]) (by rw [impl_GoodBoard.j2, if_pos rfl])
    obtain ⟨b, hb1, hb2⟩ := agg_both l[i] (k := k + 1) (by omega)
    rw [spec_GoodBoard.l0, impl_GoodBoard.l0, e0]
    refine .yes (by omega) (.yes (by omega) (.yes (by omega) (.bind (specKey_ok _ _ _ (by omega)) (implKey_ok _ _ _ (by omega)) (.ite (fun hk1 => ?_) (fun _ => hjt)))))
    exact .no (by omega) (.ite (fun _ => .bind hb1 hb2 (.ite (fun _ => .ite (fun _ => hjt) (fun _ => .bind (l1InB_ok _ _ _) (withinB_ok _ _ _) (.ite (fun _ => .ite (fun _ => hj _ hk1) (fun _ => hj _ hk1)) (fun _ => hjt)))) (fun _ => hjt))) (fun _ => hjt))

theorem isSize_ok (n : Int) : impl_isSize.f n = some (decide (1 ≤ n) && decide (n ≤ 100000)) := by unfold impl_isSize.f; rw [withinB_ok]; rfl
theorem isTime_ok (n : Int) : impl_isTime.f n = some (decide (0 ≤ n) && decide (n ≤ 1000000000)) := by unfold impl_isTime.f; rw [withinB_ok]; rfl
theorem l11Time_ok (n : Int) : spec_l11Time.f n = some (decide (0 ≤ n) && decide (n ≤ 1000000000)) := by unfold spec_l11Time.f; rw [l1InB_ok]; rfl
theorem board_both (sz ho ma : Int) (l : List Wn) {k : Nat} (hk : 200 < k) : Both (spec_GoodBoard.f k sz ho ma l) (impl_GoodBoard.f k sz ho ma l) := by
  obtain ⟨k, rfl⟩ : ∃ q, k = q + 1 := ⟨k - 1, by omega⟩
  have hjt : Both (spec_GoodBoard.j0 (k + 1) true sz ho ma l) (impl_GoodBoard.j0 (k + 1) true sz ho ma l) := .of false (by rw [spec_GoodBoard.j0, if_pos rfl]) (by rw [impl_GoodBoard.j0, if_pos rfl])
  unfold spec_GoodBoard.f impl_GoodBoard.f
  refine .bind (l1InB_ok _ _ _) (isSize_ok _) (.ite (fun e1 => .bind (l1InB_ok _ _ _) (withinB_ok _ _ _) (.ite (fun _ => .bind (l11Time_ok _) (isTime_ok _) (.ite (fun _ => ?_) (fun _ => hjt))) (fun _ => hjt))) (fun _ => hjt))
  rw [spec_GoodBoard.j0, impl_GoodBoard.j0]
  refine .ite (fun _ => .of false rfl rfl) (fun h => ?_)
  rw [decide_eq_true_eq] at h
  rw [Bool.and_eq_true] at e1
  exact board_l0 sz ho ma (of_decide_eq_true e1.1) l (by omega) l.length 0 k (by omega) (by omega) (fun h => absurd h (by omega))
end Go.Proofs.YtkgmoajdcibafaaDoor.Lem

/- Keys that come in: their size, their copies, and that a copy equals itself. -/
namespace Go.Proofs.YtkgmoajdcibafaaDoor.Lem
open Go Go.RowKit Go.Proofs.YtkgmoajdcibafaaDoor.P Go.Proofs.YtkgmoajdcibafaaDoorW.PrintWords Go.Proofs.YtkgmoajdcibafaaDoorW.PrintLast Go.Proofs.YtkgmoajdcibafaaDoorW.PrintMore

abbrev Lt := S119
theorem rdL_get {l : List Lt} {i : Nat} (h : i < l.length) : rd_T119 l (i : Int) = l[i] := by
  unfold rd_T119
  rw [Int.toNat_natCast, List.getD_eq_getElem?_getD, List.getElem?_eq_getElem h]
  rfl
/-- Texts that Go can hold. -/
def Held (l : List Lt) : Prop := ∀ t ∈ l, t.f0.size ≤ 9223372036854775807 ∧ t.f1.size ≤ 9223372036854775807

theorem szTag_ok {a b : ByteArray} (ha : a.size ≤ 9223372036854775807) (hb : b.size ≤ 9223372036854775807) {x : Int} (h0 : 0 ≤ x) (h1 : x ≤ 1048576) : ∃ r, laws_szTag.f a b x = some r ∧ (r < 0 ∨ (0 ≤ r ∧ r ≤ x)) := by
  unfold laws_szTag.f
  rw [show wrap64 (x - (a.size : Int)) = x - (a.size : Int) from w64 (by omega) (by omega)]
  by_cases h : x - (a.size : Int) < 0
  · exact ⟨-1, by rw [if_pos h], .inl (by omega)⟩
  · rw [if_neg h, show wrap64 (x - (a.size : Int) - (b.size : Int)) = x - (a.size : Int) - (b.size : Int) from w64 (by omega) (by omega)]
    by_cases h2 : x - (a.size : Int) - (b.size : Int) < 0
    · exact ⟨-1, by rw [if_pos h2], .inl (by omega)⟩
    · exact ⟨_, by rw [if_neg h2], .inr ⟨by omega, by omega⟩⟩
theorem szTagS_l0 (l : List Lt) (hl : l.length ≤ 1048576) (hh : Held l) : ∀ (d i k : Nat) (x : Int), i + d = l.length → d < k → 0 ≤ x → x ≤ 1048576 → ∃ r, laws_szTagS.l0 k l x (i : Int) = some r ∧ (r < 0 ∨ (0 ≤ r ∧ r ≤ x)) := by
  intro d
  induction d with
  | zero =>
    intro i k x hi hk h0 h1
    obtain ⟨k, rfl⟩ : ∃ q, k = q + 1 := ⟨k - 1, by omega⟩
    exact ⟨x, by rw [laws_szTagS.l0, if_neg (by omega)], .inr ⟨h0, Int.le_refl _⟩⟩
  | succ d ih =>
    intro i k x hi hk h0 h1
    obtain ⟨k, rfl⟩ : ∃ q, k = q + 1 := ⟨k - 1, by omega⟩
    have hlt : i < l.length := by omega
    obtain ⟨ha, hb⟩ := hh l[i] (List.getElem_mem hlt)
    obtain ⟨r, hr, hr2⟩ := szTag_ok ha hb h0 h1
    rw [laws_szTagS.l0, if_pos (by omega), if_pos (by omega), rdL_get hlt, hr, Option.bind_some]
    by_cases hn : r < 0
    · exact ⟨-1, by rw [if_pos hn], .inl (by omega)⟩
    · rw [if_neg hn, show wrap64 ((i : Int) + 1) = ((i + 1 : Nat) : Int) from by rw [w64 (by omega) (by omega)]; omega]
      obtain ⟨r2, hq, hq2⟩ := ih (i + 1) k r (by omega) (by omega) (by omega) (by omega)
      exact ⟨r2, hq, by omega⟩
theorem szTagS_ok {l : List Lt} (hl : l.length ≤ 9223372036854775807) (hh : Held l) {x : Int} (h0 : 0 ≤ x) (h1 : x ≤ 1048576) {k : Nat} (hk : l.length < k ∨ 1048576 < k) : ∃ r, laws_szTagS.f k l x = some r ∧ (r < 0 ∨ (0 ≤ r ∧ r ≤ x ∧ l.length ≤ 1048576)) := by
  unfold laws_szTagS.f
  rw [show wrap64 (x - (l.length : Int)) = x - (l.length : Int) from w64 (by omega) (by omega)]
  by_cases h : x - (l.length : Int) < 0
  · exact ⟨-1, by rw [if_pos h], .inl (by omega)⟩
  · rw [if_neg h]
    obtain ⟨r, hr, hr2⟩ := szTagS_l0 l (by omega) hh l.length 0 k (x - (l.length : Int)) (by omega) (by omega) (by omega) (by omega)
    exact ⟨r, hr, by omega⟩
theorem szKey_ok {m : ByteArray} (hm : m.size ≤ 9223372036854775807) {l : List Lt} (hl : l.length ≤ 9223372036854775807) (hh : Held l) (st : Int) {x : Int} (h0 : 0 ≤ x) (h1 : x ≤ 1048576) {k : Nat} (hk : l.length < k ∨ 1048576 < k) : ∃ r, laws_szKey.f k m l st x = some r ∧ (r < 0 ∨ (0 ≤ r ∧ r ≤ x ∧ l.length ≤ 1048576)) := by
  unfold laws_szKey.f
  rw [show wrap64 (x - (m.size : Int)) = x - (m.size : Int) from w64 (by omega) (by omega)]
  by_cases h : x - (m.size : Int) < 0
  · exact ⟨-1, by rw [if_pos h], .inl (by omega)⟩
  · rw [if_neg h]
    obtain ⟨r, hr, hr2⟩ := szTagS_ok hl hh (x := x - (m.size : Int)) (by omega) (by omega) hk
    rw [hr, Option.bind_some]
    by_cases hn : r < 0
    · exact ⟨-1, by rw [if_pos hn], .inl (by omega)⟩
    · exact ⟨r, by rw [if_neg hn], by omega⟩

/-- The tag as the program has it. -/
def cvT (t : Lt) : Tg := ⟨t.f0, t.f1⟩
theorem toTagS_l0 {l : List Lt} (hl : l.length ≤ 1048576) : ∀ (d k i : Nat), i + d = l.length → d < k → laws_toTagS.l0 k l ((l.take i).map cvT ++ List.replicate d z123) (i : Int) = some (l.map cvT) := by
  intro d
  induction d with
  | zero =>
    intro k i hi hk
    obtain ⟨k, rfl⟩ : ∃ q, k = q + 1 := ⟨k - 1, by omega⟩
    rw [laws_toTagS.l0, if_neg (by omega), List.take_of_length_le (by omega), List.replicate_zero, List.append_nil]
  | succ d ih =>
    intro k i hi hk
    obtain ⟨k, rfl⟩ : ∃ q, k = q + 1 := ⟨k - 1, by omega⟩
    have hlt : i < l.length := by omega
    have hnext := ih k (i + 1) (by omega) (by omega)
    rw [laws_toTagS.l0, if_pos (by omega), if_pos (by omega), rdL_get hlt]
    unfold laws_toTag.f
    rw [Option.bind_some, if_pos (by rw [List.length_append, List.length_map, List.length_take, List.length_replicate]; omega), Int.toNat_natCast, show wrap64 ((i : Int) + 1) = ((i + 1 : Nat) : Int) from by rw [w64 (by omega) (by omega)]; omega]
    have e := set_copy cvT z123 (d := d) hlt
    show laws_toTagS.l0 k l (((l.take i).map cvT ++ List.replicate (d + 1) z123).set i (cvT l[i])) _ = _
    rw [e]
    exact hnext
theorem toTagS_ok {l : List Lt} (hl : l.length ≤ 1048576) {k : Nat} (hk : l.length < k) : laws_toTagS.f k l = some (l.map cvT) := by
  unfold laws_toTagS.f
  rw [if_pos (by omega), if_pos (by rw [Int.toNat_natCast]; omega), Int.toNat_natCast]
  have h := toTagS_l0 hl l.length k 0 (by omega) hk
  rw [List.take_zero, List.map_nil, List.nil_append] at h
  exact h
theorem toKey_ok (m : ByteArray) {l : List Lt} (hl : l.length ≤ 1048576) (st : Int) {k : Nat} (hk : l.length < k) : laws_toKey.f k m l st = some (m, l.map cvT, st) := by
  unfold laws_toKey.f
  rw [toTagS_ok hl hk, Option.bind_some]

theorem eqTagS_l0 (l : List Tg) (hl : l.length ≤ 1048576) : ∀ (d i k : Nat), i + d = l.length → d < k → laws_eqTagS.l0 k l l (i : Int) = some true := by
  intro d
  induction d with
  | zero =>
    intro i k hi hk
    obtain ⟨k, rfl⟩ : ∃ q, k = q + 1 := ⟨k - 1, by omega⟩
    rw [laws_eqTagS.l0, if_neg (by omega)]
  | succ d ih =>
    intro i k hi hk
    obtain ⟨k, rfl⟩ : ∃ q, k = q + 1 := ⟨k - 1, by omega⟩
    have hnext := ih (i + 1) k (by omega) (by omega)
    rw [laws_eqTagS.l0, if_pos (by omega), if_pos (by omega), if_pos (by omega)]
    unfold laws_eqTag.f
    rw [if_pos rfl, if_pos rfl, Option.bind_some, if_pos rfl, show wrap64 ((i : Int) + 1) = ((i + 1 : Nat) : Int) from by rw [w64 (by omega) (by omega)]; omega]
    exact hnext
theorem eqTagS_ok {l : List Tg} (hl : l.length ≤ 1048576) {k : Nat} (hk : l.length < k) : laws_eqTagS.f k l l = some true := by
  unfold laws_eqTagS.f
  rw [if_pos rfl]
  exact eqTagS_l0 l hl l.length 0 k (by omega) hk
theorem eqKey_ok (m : ByteArray) {l : List Tg} (hl : l.length ≤ 1048576) (st : Int) {k : Nat} (hk : l.length < k) : laws_eqKey.f k m l st m l st = some true := by
  unfold laws_eqKey.f
  rw [if_pos rfl, eqTagS_ok hl hk, Option.bind_some, if_pos rfl, if_pos rfl]
end Go.Proofs.YtkgmoajdcibafaaDoor.Lem

/- An argument of a row, opened by its type: what reads as a value of the type is of the printed kind, at whatever depth. -/
namespace Go.Proofs.YtkgmoajdcibafaaDoor.Lem
open Go Go.ChangeShapes Go.WideShapes Go.RowKit Go.Proofs.YtkgmoajdcibafaaDoor.P Go.Proofs.YtkgmoajdcibafaaDoorW.PrintWords Go.Proofs.YtkgmoajdcibafaaDoorW.PrintLast Go.Proofs.YtkgmoajdcibafaaDoorW.PrintMore

theorem list_of {α : Type} {p : Nat → α → Prop} : ∀ n, (∀ i, i < n → ∃ z, p i z) → ∃ l : List α, l.length = n ∧ ∀ i z, l[i]? = some z → p i z
  | 0, _ => ⟨[], rfl, fun i z h => by simp at h⟩
  | n + 1, h => by
    obtain ⟨l, hl, hp⟩ := list_of n (fun i hi => h i (by omega))
    obtain ⟨z, hz⟩ := h n (by omega)
    refine ⟨l ++ [z], by rw [List.length_append, hl]; rfl, fun i y hy => ?_⟩
    rcases Nat.lt_or_ge i l.length with hi | hi
    · rw [List.getElem?_append_left hi] at hy
      exact hp i y hy
    · have hi' : i = l.length := by
        have := (List.getElem?_eq_some_iff.1 hy).1
        rw [List.length_append, List.length_singleton] at this
        omega
      subst hi'
      have : z = y := by simpa using hy
      subst this
      rw [hl]
      exact hz

theorem addr_add2 (a : Addr) (x y : Nat) : (a.add x).add y = a.add (x + y) := by
  unfold Addr.add
  by_cases hx : x = 0
  · subst hx
    rw [if_pos rfl, Nat.zero_add]
  · by_cases hy : y = 0
    · subst hy
      rw [if_pos rfl, Nat.add_zero]
    · rw [if_neg hx, if_neg hy, if_neg (by omega)]
      simp only [Nat.add_assoc]
section
variable {H : Type} (enc : TypeId × Value → H) (P : Program) (w : World) (base : Nat) (spare : Nat → Bool) (held : Bool)
/-- What reads as a value of the type is of the kind, and good. -/
def Opens {α : Type} (d : Kd α) (t : TypeId) (g : α → Prop) : Prop :=
  ∀ (fuel : Nat) (cs : List Value) (x : DataW H × List MemPlace), DataW.trod enc P w base spare held fuel t cs = some x → ∃ a, d.K w a cs ∧ g a
/-- .. a struct's fields from a place on. -/
def OpensF {α : Type} (d : Kd α) (fs : List Field) (o : Nat) (g : α → Prop) : Prop :=
  ∀ (n : Nat) (cs : List Value) (xs : List (DataW H × List MemPlace)), xs.length = fs.length → cs.length = o + (fs.map fun f => P.cellsOf f.type).sum →
    (∀ (i : Nat) (f : Field), fs[i]? = some f → DataW.trod enc P w base spare held n f.type ((cs.drop f.offset).take (P.cellsOf f.type)) = xs[i]?) → ∃ a, d.K w a (cs.drop o) ∧ g a
variable {enc P w base spare held}
variable {α β : Type} {t e : TypeId}
theorem opens_int {k : IntKind} (ht : P.underlying t = some (.int k)) : Opens enc P w base spare held (Kd.int k) t (fun n => (Lit.int k n).wf = true) := fun fuel cs x h => by
  obtain ⟨n, rfl, _, hw⟩ := DataW.trod_int ht h
  exact ⟨n, rfl, hw⟩
theorem opens_bool (ht : P.underlying t = some .bool) : Opens enc P w base spare held Kd.bool t (fun _ => True) := fun fuel cs x h => by
  obtain ⟨b, rfl, _⟩ := DataW.trod_bool ht h
  exact ⟨b, rfl, trivial⟩
theorem opens_string (ht : P.underlying t = some .string) : Opens enc P w base spare held Kd.string t (fun s => s.size ≤ maxLen) := fun fuel cs x h => by
  obtain ⟨s, rfl, _, hs⟩ := DataW.trod_string ht h
  exact ⟨s, rfl, hs⟩
theorem opens_slice {d : Kd α} {g : α → Prop} (e' : Nat) (ht : P.underlying t = some (.slice e)) (hd : Opens enc P w base spare held d e g) (hc : P.cellsOf e = d.sz) :
    Opens enc P w base spare held (Kd.slice e' d) t (fun l => l.length ≤ maxLen ∧ ∀ a ∈ l, g a) := fun fuel cs x h => by
  rcases DataW.trod_slice ht h with ⟨rfl, _⟩ | ⟨a, len, cap, elems, rest, n, _, rfl, _, hb, hl, hm, hlen, hel, _, _⟩
  · exact ⟨[], ⟨none, 0, rfl, Nat.le_refl _, rfl, Nat.zero_le _, fun h => absurd h (Nat.lt_irrefl _)⟩, Nat.zero_le _, fun a h => by simp at h⟩
  · have each : ∀ i, i < len → ∃ z, (∃ c, c.length = d.sz ∧ d.K w z c ∧ ∀ j u, c[j]? = some u → w.cell? (a.add (i * d.sz + j)) = some u) ∧ g z := by
      intro i hi
      have h1 := hel i hi
      rw [List.getElem?_eq_getElem (by omega), Option.bind_eq_some_iff] at h1
      obtain ⟨cs', hcs, ht'⟩ := h1
      obtain ⟨z, hz, hg⟩ := hd _ _ _ ht'
      obtain ⟨_, hl', hcell⟩ := World.cells?_some hcs
      refine ⟨z, ⟨cs', by rw [← hc]; exact hl', hz, fun j u hj => ?_⟩, hg⟩
      have hj' : j < P.cellsOf e := by have := (List.getElem?_eq_some_iff.1 hj).1; omega
      have h2 := hcell j hj'
      rw [hj, hc] at h2
      have ea : (a.add (i * d.sz)).add j = a.add (i * d.sz + j) := addr_add2 a _ _
      rw [← ea]
      exact h2
    obtain ⟨l, hll, hp⟩ := list_of len each
    subst hll
    have hml : l.length ≤ maxLen := Nat.le_trans hl hm
    refine ⟨l, ⟨some a, cap, rfl, hl, rfl, Nat.le_trans hml (of_decide_eq_true (by kernel_rfl)), fun _ => ⟨a, rfl, fun j z hz => (hp j z hz).1⟩⟩, hml, fun z hz => ?_⟩
    obtain ⟨i, hi⟩ := List.getElem?_of_mem hz
    exact (hp i z hi).2
theorem opensF_one {d : Kd α} {g : α → Prop} {f : Field} {o : Nat} (ho : f.offset = o) (h : Opens enc P w base spare held d f.type g) : OpensF enc P w base spare held d [f] o g := fun n cs xs hx hl hf => by
  match xs, hx with
  | [y], _ =>
    obtain ⟨a, ha, hg⟩ := h _ _ _ (hf 0 f rfl)
    rw [List.map_cons, List.map_nil, List.sum_cons, List.sum_nil] at hl
    rw [ho, List.take_of_length_le (by rw [List.length_drop]; omega)] at ha
    exact ⟨a, ha, hg⟩
theorem opensF_cons {d : Kd α} {d2 : Kd β} {g : α → Prop} {g2 : β → Prop} {f : Field} {fs : List Field} {o : Nat} (ho : f.offset = o) (h : Opens enc P w base spare held d f.type g) (hr : OpensF enc P w base spare held d2 fs (o + P.cellsOf f.type) g2) :
    OpensF enc P w base spare held (Kd.pair d d2) (f :: fs) o (fun a => g a.1 ∧ g2 a.2) := fun n cs xs hx hl hf => by
  match xs, hx with
  | y :: ys, hx =>
    obtain ⟨a, ha, hg⟩ := h _ _ _ (hf 0 f rfl)
    rw [List.map_cons, List.sum_cons] at hl
    obtain ⟨b, hb, hg2⟩ := hr n cs ys (by simpa using hx) (by omega) (fun i f' hi => hf (i + 1) f' hi)
    rw [ho] at ha
    refine ⟨(a, b), ⟨_, _, ?_, ha, hb⟩, hg, hg2⟩
    rw [← List.drop_drop, List.take_append_drop]
theorem opens_struct {d : Kd α} {g : α → Prop} {fs : Array Field} (ht : P.underlying t = some (.struct fs)) (hc : P.cellsOf t = (fs.toList.map fun f => P.cellsOf f.type).sum) (h : OpensF enc P w base spare held d fs.toList 0 g) : Opens enc P w base spare held d t g := fun fuel cs x hx => by
  obtain ⟨xs, n, _, _, hl, hlen, hf⟩ := DataW.trod_struct ht hx
  have := h n cs xs (by rw [hlen]; simp) (by omega) (fun i f hi => hf i f (by simpa using hi))
  rw [List.drop_zero] at this
  exact this
theorem opens_iso {d : Kd α} {g : α → Prop} (f : β → α) (mk : α → β) (hmk : ∀ a, f (mk a) = a) (h : Opens enc P w base spare held d t g) : Opens enc P w base spare held (Kd.iso d f) t (fun b => g (f b)) := fun fuel cs x hx => by
  obtain ⟨a, ha, hg⟩ := h fuel cs x hx
  exact ⟨mk a, by show d.K w (f (mk a)) cs; rw [hmk]; exact ha, by show g (f (mk a)); rw [hmk]; exact hg⟩
end
end Go.Proofs.YtkgmoajdcibafaaDoor.Lem

/- No row is longer than memory. No conditions. -/
namespace Go.Proofs.YtkgmoajdcibafaaDoor.Lem
open Go Go.RowKit Go.Proofs.YtkgmoajdcibafaaDoor.P

theorem maxLen_le {n : Nat} (h : n ≤ maxLen) : n ≤ 9223372036854775807 := Nat.le_trans h (of_decide_eq_true (by kernel_rfl))
end Go.Proofs.YtkgmoajdcibafaaDoor.Lem

/- What is known of a key that comes in as an argument: its texts and rows are no longer than memory. No conditions. -/
namespace Go.Proofs.YtkgmoajdcibafaaDoor.Lem
open Go Go.RowKit Go.Proofs.YtkgmoajdcibafaaDoor.P
def GTag (t : S119) : Prop := t.f0.size ≤ maxLen ∧ t.f1.size ≤ maxLen
def GKey (k : S27) : Prop := k.f0.size ≤ maxLen ∧ (k.f1.length ≤ maxLen ∧ ∀ t ∈ k.f1, GTag t) ∧ (Lit.int .i64 k.f2).wf = true
end Go.Proofs.YtkgmoajdcibafaaDoor.Lem

/- What is known of an agg that comes in as an argument. No conditions. -/
namespace Go.Proofs.YtkgmoajdcibafaaDoor.Lem
open Go Go.RowKit Go.Proofs.YtkgmoajdcibafaaDoor.P
def GAgg (a : S92) : Prop := (Lit.int .i64 a.f0).wf = true ∧ (Lit.int .i64 a.f1).wf = true ∧ (Lit.int .i64 a.f2).wf = true ∧ (Lit.int .i64 a.f3).wf = true ∧ (a.f4.length ≤ maxLen ∧ ∀ n ∈ a.f4, (Lit.int .i64 n).wf = true) ∧ True
end Go.Proofs.YtkgmoajdcibafaaDoor.Lem

/- What is known of a window that comes in as an argument. No conditions. -/
namespace Go.Proofs.YtkgmoajdcibafaaDoor.Lem
open Go Go.RowKit Go.Proofs.YtkgmoajdcibafaaDoor.P
def GWin (w : S116) : Prop := GKey w.f0 ∧ GAgg w.f1 ∧ (Lit.int .i64 w.f2).wf = true ∧ True
end Go.Proofs.YtkgmoajdcibafaaDoor.Lem

/- Aggs that come in: their copies, and that a copy equals itself. -/
namespace Go.Proofs.YtkgmoajdcibafaaDoor.Lem
open Go Go.RowKit Go.Proofs.YtkgmoajdcibafaaDoor.P Go.Proofs.YtkgmoajdcibafaaDoorW.PrintWords Go.Proofs.YtkgmoajdcibafaaDoorW.PrintLast Go.Proofs.YtkgmoajdcibafaaDoorW.PrintMore

theorem rd_at1 {l : List Int} {i : Nat} (h : i < l.length) : l.drop i = rd l (i : Int) :: l.drop (i + 1) := by
  rw [List.drop_eq_getElem_cons h]
  unfold rd
  rw [Int.toNat_natCast, List.getD_eq_getElem?_getD, List.getElem?_eq_getElem h]
  rfl
/-! ### copies -/
theorem rd_set_copy {l : List Int} {i d : Nat} (hi : i + (d + 1) = l.length) : (l.take i ++ List.replicate (d + 1) 0).set i (rd l (i : Int)) = l.take (i + 1) ++ List.replicate d 0 := by
  have hl : (l.take i).length = i := by rw [List.length_take]; omega
  have hd := rd_at1 (l := l) (i := i) (by omega)
  have ht : l.take (i + 1) = l.take i ++ [rd l (i : Int)] := by
    have h1 := List.take_append_drop i l
    have h2 : l = (l.take i ++ [rd l (i : Int)]) ++ l.drop (i + 1) := by rw [List.append_assoc, List.singleton_append, ← hd, h1]
    have h3 : (l.take i ++ [rd l (i : Int)]).length = i + 1 := by rw [List.length_append, List.length_take, List.length_singleton]; omega
    have h4 := congrArg (List.take (i + 1)) h2
    rw [List.take_left' h3] at h4
    exact h4
  rw [ht, List.set_append_right _ _ (by omega), hl, Nat.sub_self, List.replicate_succ, List.set_cons_zero, List.append_assoc]
  rfl
theorem toInts_l0 {l : List Int} (hl : l.length ≤ 1048576) (d : Nat) : ∀ (k i : Nat), i + d = l.length → d < k → laws_toIntS.l0 k l (l.take i ++ List.replicate d 0) (i : Int) = some l := by
  induction d with
  | zero =>
    intro k i hi hk
    obtain ⟨k, rfl⟩ : ∃ m, k = m + 1 := ⟨k - 1, by omega⟩
    conv => lhs; unfold laws_toIntS.l0
    rw [if_neg (by omega), List.take_of_length_le (by omega), List.replicate_zero, List.append_nil]
  | succ d ih =>
    intro k i hi hk
    obtain ⟨k, rfl⟩ : ∃ m, k = m + 1 := ⟨k - 1, by omega⟩
    have hnext := ih k (i + 1) (by omega) (by omega)
    have ht : (l.take i).length = i := by rw [List.length_take]; omega
    conv => lhs; unfold laws_toIntS.l0
    rw [if_pos (by omega), if_pos (by omega), if_pos (by rw [List.length_append, List.length_replicate, ht]; omega), Int.toNat_natCast, rd_set_copy hi, show wrap64 ((i : Int) + 1) = ((i + 1 : Nat) : Int) from by rw [w64 (by omega) (by omega)]; omega]
    exact hnext
theorem toAgg_ok (c s mi ma : Int) {l : List Int} (hl : l.length ≤ 1048576) (f : Bool) {k : Nat} (hk : 1048576 < k) : laws_toAgg.f k c s mi ma l f = some (c, s, mi, ma, l, f) := by
  have h := toInts_l0 hl l.length k 0 (by omega) (by omega)
  rw [List.take_zero, List.nil_append] at h
  have h' : laws_toIntS.f k l = some l := by
    unfold laws_toIntS.f
    rw [if_pos (by omega), if_pos (by omega), Int.toNat_natCast]
    exact h
  unfold laws_toAgg.f
  rw [h', Option.bind_some]
theorem eqInts_l0 {l : List Int} (hl : l.length ≤ 1048576) (d : Nat) : ∀ (k i : Nat), i + d = l.length → d < k → laws_eqIntS.l0 k l l (i : Int) = some true := by
  induction d with
  | zero =>
    intro k i hi hk
    obtain ⟨k, rfl⟩ : ∃ m, k = m + 1 := ⟨k - 1, by omega⟩
    conv => lhs; unfold laws_eqIntS.l0
    rw [if_neg (by omega)]
  | succ d ih =>
    intro k i hi hk
    obtain ⟨k, rfl⟩ : ∃ m, k = m + 1 := ⟨k - 1, by omega⟩
    have hnext := ih k (i + 1) (by omega) (by omega)
    conv => lhs; unfold laws_eqIntS.l0
    rw [if_pos (by omega), if_pos (by omega), if_pos (by omega), if_pos rfl, show wrap64 ((i : Int) + 1) = ((i + 1 : Nat) : Int) from by rw [w64 (by omega) (by omega)]; omega]
    exact hnext
theorem eqAgg_ok (c s mi ma : Int) {l : List Int} (hl : l.length ≤ 1048576) (f : Bool) {k : Nat} (hk : 1048576 < k) : laws_eqAgg.f k c s mi ma l f c s mi ma l f = some true := by
  have h := eqInts_l0 hl l.length k 0 (by omega) (by omega)
  have h' : laws_eqIntS.f k l l = some true := by
    unfold laws_eqIntS.f
    rw [if_pos rfl]
    exact h
  unfold laws_eqAgg.f
  rw [if_pos rfl, if_pos rfl, if_pos rfl, if_pos rfl, h', Option.bind_some, if_pos rfl, if_neg (by cases f <;> decide)]


theorem szAgg_ok (c s mi ma : Int) {l : List Int} (hl : l.length ≤ 9223372036854775807) (f : Bool) {x : Int} (h0 : 0 ≤ x) (h1 : x ≤ 1048576) : ∃ r, laws_szAgg.f c s mi ma l f x = some r ∧ (r < 0 ∨ (0 ≤ r ∧ r ≤ x ∧ l.length ≤ 1048576)) := by
  unfold laws_szAgg.f laws_szIntS.f
  rw [show wrap64 (x - (l.length : Int)) = x - (l.length : Int) from w64 (by omega) (by omega)]
  by_cases h : x - (l.length : Int) < 0
  · exact ⟨-1, by rw [if_pos h, Option.bind_some, if_pos (by decide)], .inl (by omega)⟩
  · exact ⟨_, by rw [if_neg h, Option.bind_some, if_neg h], .inr ⟨by omega, by omega, by omega⟩⟩
end Go.Proofs.YtkgmoajdcibafaaDoor.Lem

/- Boards that are handed in: their measure, their copy, and that they are equal to themselves. -/
namespace Go.Proofs.YtkgmoajdcibafaaDoor.Lem
open Go Go.RowKit Go.Proofs.YtkgmoajdcibafaaDoor.P Go.Proofs.YtkgmoajdcibafaaDoorW.PrintWords Go.Proofs.YtkgmoajdcibafaaDoorW.PrintLast Go.Proofs.YtkgmoajdcibafaaDoorW.PrintMore

abbrev Lw := S116
theorem rdLw_get {l : List Lw} {i : Nat} (h : i < l.length) : rd_T116 l (i : Int) = l[i] := by
  unfold rd_T116
  rw [Int.toNat_natCast, List.getD_eq_getElem?_getD, List.getElem?_eq_getElem h]
  rfl
/-- A window that Go can hold. -/
def HeldW (w : Lw) : Prop := w.f0.f0.size ≤ 9223372036854775807 ∧ w.f0.f1.length ≤ 9223372036854775807 ∧ Held w.f0.f1 ∧ w.f1.f4.length ≤ 9223372036854775807
/-- A window that is no longer than the bound. -/
def Short (w : Lw) : Prop := w.f0.f1.length ≤ 1048576 ∧ w.f1.f4.length ≤ 1048576

theorem heldW {w : Lw} (h : GWin w) : HeldW w := ⟨maxLen_le h.1.1, maxLen_le h.1.2.1.1, fun t ht => ⟨maxLen_le (h.1.2.1.2 t ht).1, maxLen_le (h.1.2.1.2 t ht).2⟩, maxLen_le h.2.1.2.2.2.2.1.1⟩
theorem szWin_ok {w : Lw} (hw : HeldW w) {x : Int} (h0 : 0 ≤ x) (h1 : x ≤ 1048576) {k : Nat} (hk : 1048577 < k) : ∃ r, laws_szWin.f k w.f0.f0 w.f0.f1 w.f0.f2 w.f1.f0 w.f1.f1 w.f1.f2 w.f1.f3 w.f1.f4 w.f1.f5 w.f2 w.f3 x = some r ∧ (r < 0 ∨ (0 ≤ r ∧ r ≤ x ∧ Short w)) := by
  obtain ⟨hm, hl, hh, ha⟩ := hw
  unfold laws_szWin.f
  obtain ⟨r, hr, hr2⟩ := szKey_ok hm hl hh w.f0.f2 h0 h1 (k := k) (.inr (by omega))
  rw [hr, Option.bind_some]
  by_cases hn : r < 0
  · exact ⟨-1, by rw [if_pos hn], .inl (by omega)⟩
  · obtain ⟨r2, hq, hq2⟩ := szAgg_ok w.f1.f0 w.f1.f1 w.f1.f2 w.f1.f3 ha w.f1.f5 (x := r) (by omega) (by omega)
    rw [if_neg hn, hq, Option.bind_some]
    by_cases hn2 : r2 < 0
    · exact ⟨-1, by rw [if_pos hn2], .inl (by omega)⟩
    · exact ⟨r2, by rw [if_neg hn2], .inr ⟨by omega, by omega, by omega, by omega⟩⟩
theorem szWinS_l0 (l : List Lw) (hl : l.length ≤ 1048576) (hh : ∀ w ∈ l, HeldW w) : ∀ (d i k : Nat) (x : Int), i + d = l.length → d + 1048580 < k → 0 ≤ x → x ≤ 1048576 → ∃ r, laws_szWinS.l0 k l x (i : Int) = some r ∧ (r < 0 ∨ (0 ≤ r ∧ r ≤ x ∧ ∀ w ∈ l.drop i, Short w)) := by
  intro d
  induction d with
  | zero =>
    intro i k x hi hk h0 h1
    obtain ⟨k, rfl⟩ : ∃ q, k = q + 1 := ⟨k - 1, by omega⟩
    exact ⟨x, by rw [laws_szWinS.l0, if_neg (by omega)], .inr ⟨h0, Int.le_refl _, fun w hw => by rw [List.drop_of_length_le (by omega)] at hw; simp at hw⟩⟩
  | succ d ih =>
    intro i k x hi hk h0 h1
    obtain ⟨k, rfl⟩ : ∃ q, k = q + 1 := ⟨k - 1, by omega⟩
    have hlt : i < l.length := by omega
    obtain ⟨r, hr, hr2⟩ := szWin_ok (hh l[i] (List.getElem_mem hlt)) h0 h1 (k := k) (by omega)
    rw [laws_szWinS.l0, if_pos (by omega), if_pos (by omega), rdLw_get hlt, hr, Option.bind_some]
    by_cases hn : r < 0
    · exact ⟨-1, by rw [if_pos hn], .inl (by omega)⟩
    · rw [if_neg hn, show wrap64 ((i : Int) + 1) = ((i + 1 : Nat) : Int) from by rw [w64 (by omega) (by omega)]; omega]
      have hr3 : 0 ≤ r ∧ r ≤ x ∧ Short l[i] := by
        rcases hr2 with h | h
        · exact absurd h hn
        · exact h
      obtain ⟨r2, hq, hq2⟩ := ih (i + 1) k r (by omega) (by omega) (by omega) (by omega)
      refine ⟨r2, hq, ?_⟩
      rcases hq2 with h | ⟨h, h', h''⟩
      · exact .inl h
      · refine .inr ⟨h, by omega, fun w hw => ?_⟩
        rw [drop_get hlt] at hw
        rcases List.mem_cons.1 hw with rfl | hw
        · exact hr3.2.2
        · exact h'' w hw
theorem szBoard_ok (a b c : Int) {l : List Lw} (hl : l.length ≤ 9223372036854775807) (hh : ∀ w ∈ l, HeldW w) {k : Nat} (hk : 2097160 < k) : ∃ r, laws_szBoard.f k a b c l 1048576 = some r ∧ (r < 0 ∨ (0 ≤ r ∧ l.length ≤ 1048576 ∧ ∀ w ∈ l, Short w)) := by
  unfold laws_szBoard.f laws_szWinS.f
  rw [show wrap64 (1048576 - (l.length : Int)) = 1048576 - (l.length : Int) from w64 (by omega) (by omega)]
  by_cases h : 1048576 - (l.length : Int) < 0
  · exact ⟨-1, by rw [if_pos h, Option.bind_some, if_pos (by decide)], .inl (by omega)⟩
  · rw [if_neg h]
    obtain ⟨r, hr, hr2⟩ := szWinS_l0 l (by omega) hh l.length 0 k (1048576 - (l.length : Int)) (by omega) (by omega) (by omega) (by omega)
    rw [List.drop_zero] at hr2
    have hr' : laws_szWinS.l0 k l (1048576 - (l.length : Int)) 0 = some r := hr
    rw [hr', Option.bind_some]
    by_cases hn : r < 0
    · exact ⟨-1, by rw [if_pos hn], .inl (by omega)⟩
    · refine ⟨r, by rw [if_neg hn], ?_⟩
      rcases hr2 with h2 | ⟨h2, _, h3⟩
      · exact .inl h2
      · exact .inr ⟨h2, by omega, h3⟩

/-- The window as the program has it. -/
def cvW (w : Lw) : Wn := ⟨⟨w.f0.f0, w.f0.f1.map cvT, w.f0.f2⟩, ⟨w.f1.f0, w.f1.f1, w.f1.f2, w.f1.f3, w.f1.f4, w.f1.f5⟩, w.f2, w.f3⟩
theorem toWin_ok {w : Lw} (hw : Short w) {k : Nat} (hk : 1048577 < k) : laws_toWin.f k w.f0.f0 w.f0.f1 w.f0.f2 w.f1.f0 w.f1.f1 w.f1.f2 w.f1.f3 w.f1.f4 w.f1.f5 w.f2 w.f3 =
    some (w.f0.f0, w.f0.f1.map cvT, w.f0.f2, w.f1.f0, w.f1.f1, w.f1.f2, w.f1.f3, w.f1.f4, w.f1.f5, w.f2, w.f3) := by
  unfold laws_toWin.f
  rw [toKey_ok w.f0.f0 hw.1 w.f0.f2 (by have := hw.1; omega), Option.bind_some, toAgg_ok w.f1.f0 w.f1.f1 w.f1.f2 w.f1.f3 hw.2 w.f1.f5 (by omega), Option.bind_some]
theorem toWinS_l0 {l : List Lw} (hl : l.length ≤ 1048576) (hh : ∀ w ∈ l, Short w) : ∀ (d k i : Nat), i + d = l.length → d + 1048580 < k → laws_toWinS.l0 k l ((l.take i).map cvW ++ List.replicate d z37) (i : Int) = some (l.map cvW) := by
  intro d
  induction d with
  | zero =>
    intro k i hi hk
    obtain ⟨k, rfl⟩ : ∃ q, k = q + 1 := ⟨k - 1, by omega⟩
    rw [laws_toWinS.l0, if_neg (by omega), List.take_of_length_le (by omega), List.replicate_zero, List.append_nil]
  | succ d ih =>
    intro k i hi hk
    obtain ⟨k, rfl⟩ : ∃ q, k = q + 1 := ⟨k - 1, by omega⟩
    have hlt : i < l.length := by omega
    have hnext := ih k (i + 1) (by omega) (by omega)
    rw [laws_toWinS.l0, if_pos (by omega), if_pos (by omega), rdLw_get hlt, toWin_ok (hh _ (List.getElem_mem hlt)) (by omega)]
    rw [Option.bind_some, if_pos (by rw [List.length_append, List.length_map, List.length_take, List.length_replicate]; omega), Int.toNat_natCast, show wrap64 ((i : Int) + 1) = ((i + 1 : Nat) : Int) from by rw [w64 (by omega) (by omega)]; omega]
    have e := set_copy cvW z37 (d := d) hlt
    show laws_toWinS.l0 k l (((l.take i).map cvW ++ List.replicate (d + 1) z37).set i (cvW l[i])) _ = _
    rw [e]
    exact hnext
theorem toBoard_ok (a b c : Int) {l : List Lw} (hl : l.length ≤ 1048576) (hh : ∀ w ∈ l, Short w) {k : Nat} (hk : 2097160 < k) : laws_toBoard.f k a b c l = some (a, b, c, l.map cvW) := by
  unfold laws_toBoard.f laws_toWinS.f
  rw [if_pos (by omega), if_pos (by rw [Int.toNat_natCast]; omega), Int.toNat_natCast]
  have h := toWinS_l0 hl hh l.length k 0 (by omega) (by omega)
  rw [List.take_zero, List.map_nil, List.nil_append] at h
  have h' : laws_toWinS.l0 k l (List.replicate l.length z37) 0 = some (l.map cvW) := h
  rw [h', Option.bind_some]

theorem eqWin_ok {w : Wn} (h1 : w.f0.f1.length ≤ 1048576) (h2 : w.f1.f4.length ≤ 1048576) {k : Nat} (hk : 1048577 < k) :
    laws_eqWin.f k w.f0.f0 w.f0.f1 w.f0.f2 w.f1.f0 w.f1.f1 w.f1.f2 w.f1.f3 w.f1.f4 w.f1.f5 w.f2 w.f3 w.f0.f0 w.f0.f1 w.f0.f2 w.f1.f0 w.f1.f1 w.f1.f2 w.f1.f3 w.f1.f4 w.f1.f5 w.f2 w.f3 = some true := by
  unfold laws_eqWin.f
  rw [eqKey_ok w.f0.f0 h1 w.f0.f2 (by omega), Option.bind_some, if_pos rfl, eqAgg_ok w.f1.f0 w.f1.f1 w.f1.f2 w.f1.f3 h2 w.f1.f5 (by omega), Option.bind_some, if_pos rfl, if_pos rfl, if_neg (by cases w.f3 <;> decide)]
theorem eqWinS_l0 (l : List Wn) (hl : l.length ≤ 1048576) (hh : ∀ w ∈ l, w.f0.f1.length ≤ 1048576 ∧ w.f1.f4.length ≤ 1048576) : ∀ (d i k : Nat), i + d = l.length → d + 1048580 < k → laws_eqWinS.l0 k l l (i : Int) = some true := by
  intro d
  induction d with
  | zero =>
    intro i k hi hk
    obtain ⟨k, rfl⟩ : ∃ q, k = q + 1 := ⟨k - 1, by omega⟩
    rw [laws_eqWinS.l0, if_neg (by omega)]
  | succ d ih =>
    intro i k hi hk
    obtain ⟨k, rfl⟩ : ∃ q, k = q + 1 := ⟨k - 1, by omega⟩
    have hlt : i < l.length := by omega
    have hnext := ih (i + 1) k (by omega) (by omega)
    obtain ⟨q1, q2⟩ := hh l[i] (List.getElem_mem hlt)
    rw [laws_eqWinS.l0, if_pos (by omega), if_pos (by omega), if_pos (by omega), rdW_get hlt, eqWin_ok q1 q2 (by omega), Option.bind_some, if_pos rfl, show wrap64 ((i : Int) + 1) = ((i + 1 : Nat) : Int) from by rw [w64 (by omega) (by omega)]; omega]
    exact hnext
theorem eqBoard_ok (a b c : Int) {l : List Wn} (hl : l.length ≤ 1048576) (hh : ∀ w ∈ l, w.f0.f1.length ≤ 1048576 ∧ w.f1.f4.length ≤ 1048576) {k : Nat} (hk : 2097160 < k) : laws_eqBoard.f k a b c l a b c l = some true := by
  unfold laws_eqBoard.f laws_eqWinS.f
  have h : laws_eqWinS.l0 k l l 0 = some true := eqWinS_l0 l hl hh l.length 0 k (by omega) (by omega)
  rw [if_pos rfl, if_pos rfl, if_pos rfl, if_pos rfl, h, Option.bind_some, if_pos rfl]

end Go.Proofs.YtkgmoajdcibafaaDoor.Lem
