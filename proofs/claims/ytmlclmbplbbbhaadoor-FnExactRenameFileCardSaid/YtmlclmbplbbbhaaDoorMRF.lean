/- The statement's own text and the last of the walks that it uses. -/
import Derived.Deep.RegionHeld3
import Derived.Laws.BitsAllLaws
import Derived.ChangeArms
import Derived.ChangeSlices
import Derived.DataReads
import Derived.Lib.SlTrimSet
import Derived.Lib.Bytealg
import Derived.Test.YtmlclmbplbbbhaaDoorRows
import Derived.Test.YtmlclmbplbbbhaaDoorTie
import Derived.Test.YtmlclmbplbbbhaaDoorCards
import Derived.WalkKit
import Derived.ProofKit
import Derived.OpenShut
import Derived.ChangeOld
import Derived.Below
import Derived.Handed
import Derived.Lay
import Derived.MakeChecks
import Derived.LaidHandle
import Derived.Lib.LaidTab
import Derived.Stop.LaidErr
import Derived.JoinedOf
import Derived.SevenTiedAt
import Derived.RowKit
import Derived.Test.YtmlclmbplbbbhaaDoorMRF3

-- written by a program of this session's (wip/pp)
namespace Go.Proofs.YtmlclmbplbbbhaaDoor.P
open Go.RowKit Go.Proofs.YtmlclmbplbbbhaaDoorW.PrintWords Go.Proofs.YtmlclmbplbbbhaaDoorW.PrintLast Go.Proofs.YtmlclmbplbbbhaaDoorW.PrintMore
attribute [local go_sem] max2_int min2_int max_two min_two max_three min_three max_four min_four str_geq str_gtr str_leq   -- for this text's walks alone
set_option linter.unusedVariables false
set_option linter.unusedSimpArgs false

/-! ### laws_eqFiles: function 14 -/
def laws_eqFiles.f (k : Nat) (a0_0 : Int) (l0_1 : List (S53)) (a1_0 : Int) (l1_1 : List (S53)) : Option (Bool) := if a0_0 = a1_0 then ((laws_eqFileS.f k l0_1 l1_1).bind fun t103 => (if t103 = true then (some true) else (none))) else (none)
theorem laws_eqFiles.mono : ∀ a0 a1 a2 a3 k, LeO (laws_eqFiles.f k a0 a1 a2 a3) (laws_eqFiles.f (k + 1) a0 a1 a2 a3) := by
 intro a0 a1 a2 a3 k
 have m0 := @laws_eqFileS.mono
 unfold laws_eqFiles.f
 exact moZ
set_option maxHeartbeats 8000000 in
set_option maxRecDepth 100000 in
theorem laws_eqFiles.calls (k : Nat) (a0_0 : Int) (A0_1 : Option Addr) (c0_1 : Nat) (l0_1 : List (S53)) (a1_0 : Int) (A1_1 : Option Addr) (c1_1 : Nat) (l1_1 : List (S53)) (r : Bool) (w : World) (hr0_1 : Kd.C k53 w A0_1 l0_1.length l0_1) (hc0_1 : l0_1.length ≤ c0_1) (hr1_1 : Kd.C k53 w A1_1 l1_1.length l1_1) (hc1_1 : l1_1.length ≤ c1_1) (h : laws_eqFiles.f k a0_0 l0_1 a1_0 l1_1 = some r) :
 Calls Tryd.prog 14 #[.agg #[.int .i64 a0_0, .slice A0_1 l0_1.length c0_1], .agg #[.int .i64 a1_0, .slice A1_1 l1_1.length c1_1]] w fun e w' => e = .returned (.bool r) ∧ Below w.heap.size w w' := by
 have hu29 := Tryd.underlying29
 have HR0_1 := aM hr0_1
 have HC0_1 := aM hc0_1
 clear hr0_1 hc0_1
 have HR1_1 := aM hr1_1
 have HC1_1 := aM hc1_1
 clear hr1_1 hc1_1
 have HB := aM (Below.refl w.heap.size w)
 have H : (if a0_0 = a1_0 then ((laws_eqFileS.f k l0_1 l1_1).bind fun t103 => (if t103 = true then (some true) else (none))) else (none)) = some r := h
 clear h
 replace H := ifS H; obtain ⟨c3, H⟩ := H
 have c3b0 := eqE c3
 clear c3
 obtain ⟨t103, A4, H⟩ := bS H; try dsimp only at H
 by_cases c5 : t103 = true
 · subst c5
   rw [if_pos rfl] at H
   obtain rfl := Option.some.inj H
   go_enter Tryd.func14, Tryd.ntmps14
   go_wp2_with (first | ((with_reducible refine gate_dst (N := 2) rfl ?_); refine bX 2 29 #[.int .i64 a0_0, .slice A0_1 l0_1.length c0_1] ?_; intro gb101 hg w6 hbox hb; have _ := aM (below_step hbZ hb); have _ := aM hbox; have _ := szZ hg; have _ := szZ hg; clear HB; rename_i HB BK101 GW101 GE101; clear hb hbox hg) | ((with_reducible refine gate_dst (N := 3) rfl ?_); refine bX 3 29 #[.int .i64 a1_0, .slice A1_1 l1_1.length c1_1] ?_; intro gb102 hg w7 hbox hb; have _ := bB gb101 hb; have _ := aM (below_step hbZ hb); have _ := aM hbox; have _ := szZ hg; have _ := szZ hg; have ⟨_, _⟩ := nbB gb101 hg; clear BK101 HB; rename_i BK101 HB BK102 GW102 GE102 NB101_102 NB102_101; clear hb hbox hg; have hnb8 := NB101_102.out; have hnc8 := NB102_101.out; have hz9 := cellsZ2 BK101.out; have hz10 := cellsZ2 BK102.out) | ((with_reducible refine gate_callee (f := 42) rfl ?_); refine gL 14 Tryd.func42 #[.slice A0_1 l0_1.length c0_1, .slice A1_1 l1_1.length c1_1] ?_; (with_reducible refine (laws_eqFileS.calls k _ _ l0_1 _ _ l1_1 true _ ?side1 ?side2 ?side3 ?side4 A4.out).mono ?_); (case side1 => exact (cZ (Kd.C_below HR0_1.out HB.out))); (case side2 => exact HC0_1.out); (case side3 => exact (cZ (Kd.C_below HR1_1.out HB.out))); (case side4 => exact HC1_1.out); rintro e w11 ⟨rfl, hb⟩; refine ⟨_, rfl, ?_⟩; have _ := bB gb101 hb; have _ := bB gb102 hb; have _ := aM (below_step hbZ hb); clear BK101 BK102 HB; rename_i BK101 BK102 HB; (try clear hb)))
   go_ret
   exact ⟨z674d, zcb41⟩
 · replace c5 := Bool.eq_false_iff.mpr c5
   subst c5
   rw [if_neg (show ¬ (false = true) by decide)] at H
   exact absurd H (by simp)
end Go.Proofs.YtmlclmbplbbbhaaDoor.P

-- written by a program of this session's (wip/pp)
namespace Go.Proofs.YtmlclmbplbbbhaaDoor.P
open Go.RowKit Go.Proofs.YtmlclmbplbbbhaaDoorW.PrintWords Go.Proofs.YtmlclmbplbbbhaaDoorW.PrintLast Go.Proofs.YtmlclmbplbbbhaaDoorW.PrintMore
attribute [local go_sem] max2_int min2_int max_two min_two max_three min_three max_four min_four str_geq str_gtr str_leq   -- for this text's walks alone
set_option linter.unusedVariables false
set_option linter.unusedSimpArgs false

/-! ### laws_heldByteS: function 74 -/
def laws_heldByteS.l0 : Nat → List Int → Int → Int → Option (Int)
 | 0, _, _, _ => none
 | k + 1, x0, x1, x5 => if x5 < (x0.length : Int) then (if 0 ≤ x5 then (if (rd x0 x5) = ((x1) % 256) then (laws_heldByteS.l0 k x0 (wrap64 (x1 + 1)) (wrap64 (x5 + 1))) else (none)) else (none)) else (some x1)
def laws_heldByteS.f (k : Nat) (l0 : List Int) (a1 : Int) : Option (Int) := laws_heldByteS.l0 k l0 a1 0
theorem laws_heldByteS.mono_l : ∀ k, (∀ y0 y1 y2, LeO (laws_heldByteS.l0 k y0 y1 y2) (laws_heldByteS.l0 (k + 1) y0 y1 y2))
 | 0 => fun _ _ _ r h => by simp [laws_heldByteS.l0] at h
 | k + 1 => by
  have ih0 := laws_heldByteS.mono_l k
  · intro y0 y1 y2
    unfold laws_heldByteS.l0
    exact moZ
theorem laws_heldByteS.mono : ∀ a0 a1 k, LeO (laws_heldByteS.f k a0 a1) (laws_heldByteS.f (k + 1) a0 a1) := by
 intro a0 a1 k
 have ih0 := laws_heldByteS.mono_l k
 unfold laws_heldByteS.f
 exact moZ
set_option maxHeartbeats 8000000 in
set_option maxRecDepth 100000 in
theorem laws_heldByteS.calls (k : Nat) (A0 : Option Addr) (c0 : Nat) (l0 : List Int) (a1 : Int) (r : Int) (w : World) (hr0 : Kd.C (Kd.int .u8) w A0 l0.length l0) (hc0 : l0.length ≤ c0) (h : laws_heldByteS.f k l0 a1 = some r) :
 Calls Tryd.prog 74 #[.slice A0 l0.length c0, .int .i64 a1] w fun e w' => e = .returned (.int .i64 r) ∧ Drawn0 w w' := by
 have HR0 := aM hr0
 have HC0 := aM hc0
 clear hr0 hc0
 have H : (laws_heldByteS.l0 k l0 a1 0) = some r := h
 clear h
 have H' := aM H
 clear H
 go_enter Tryd.func74, Tryd.ntmps74
 go_wp2
 go_loopg [1, 5] k (fun kq v1 v5 w' => ∃ (x1_1 : Int) (x5_1 : Int), v1 = .int .i64 x1_1 ∧ v5 = .int .i64 x5_1 ∧ Aside0 (laws_heldByteS.l0 kq l0 x1_1 x5_1 = some r) ∧ Aside0 (kq ≤ k) ∧ Drawn0 w w')
 case atStart => exact ⟨(a1), (0), z4458, z4458, H', ⟨Nat.le_refl _⟩, za9de⟩
 case round =>
  clear H'
  obtain ⟨x1_1, x5_1, rfl, rfl, HA, HK1, ⟨m1, rfl⟩⟩ := hrel
  cases gk with
  | zero => exact absurd HA.out (by simp [laws_heldByteS.l0])
  | succ k1 =>
   have H := HA.out
   clear HA
   simp only [laws_heldByteS.l0] at H
   by_cases c3 : x5_1 < (l0.length : Int)
   · rw [if_pos c3] at H
     have c3b0 := dL c3
     clear c3
     obtain ⟨c4b0, H⟩ := sE H
     replace H := ifS H; obtain ⟨c5, H⟩ := H
     have c5b0 := eqE c5
     clear c5
     have H' := aM H
     clear H
     have p101 : 0 ≤ (x5_1 : Int) := of_decide_eq_true z1200
     have q101 : x5_1 < (l0.length : Int) := of_decide_eq_true z1200
     obtain ⟨ad101, e101, hx101_0⟩ := Kd.at_int HR0.out x5_1 p101 q101
     cases e101
     replace p101 := eq_true p101
     replace q101 := eq_true q101
     go_wp2
     go_roundg k1
     case measure => have := HK1.out; omega
     case rel => exact ⟨(wrap64 (x1_1 + 1)), (wrap64 (x5_1 + 1)), z4458, z4458, H', ⟨zfb39⟩, za9de⟩
   · rw [if_neg c3] at H
     have c3b0 := nL c3
     clear c3
     obtain rfl := Option.some.inj H
     go_wp2
     go_ret
     exact ⟨z4458, za9de⟩

end Go.Proofs.YtmlclmbplbbbhaaDoor.P

-- written by a program of this session's (wip/pp)
namespace Go.Proofs.YtmlclmbplbbbhaaDoor.P
open Go.RowKit Go.Proofs.YtmlclmbplbbbhaaDoorW.PrintWords Go.Proofs.YtmlclmbplbbbhaaDoorW.PrintLast Go.Proofs.YtmlclmbplbbbhaaDoorW.PrintMore
attribute [local go_sem] max2_int min2_int max_two min_two max_three min_three max_four min_four str_geq str_gtr str_leq   -- for this text's walks alone
set_option linter.unusedVariables false
set_option linter.unusedSimpArgs false

/-! ### laws_heldFileS: function 44 -/
def laws_heldFileS.l0 : Nat → List (S53) → Int → Int → Option (Int)
 | 0, _, _, _ => none
 | k + 1, x0, x1, x5 => if x5 < (x0.length : Int) then (if 0 ≤ x5 then ((laws_markText.f k x1).bind fun t102 => (if ((rd_T53 x0 x5).f0).toList = t102.toList then ((laws_heldByteS.f k ((rd_T53 x0 x5).f1) (wrap64 (x1 + 1))).bind fun t104 => (if t104 < 0 then (none) else (if ((rd_T53 x0 x5).f2) = t104 then (laws_heldFileS.l0 k x0 (wrap64 (t104 + 1)) (wrap64 (x5 + 1))) else (none)))) else (none))) else (none)) else (some x1)
def laws_heldFileS.f (k : Nat) (l0 : List (S53)) (a1 : Int) : Option (Int) := laws_heldFileS.l0 k l0 a1 0
theorem laws_heldFileS.mono_l : ∀ k, (∀ y0 y1 y2, LeO (laws_heldFileS.l0 k y0 y1 y2) (laws_heldFileS.l0 (k + 1) y0 y1 y2))
 | 0 => fun _ _ _ r h => by simp [laws_heldFileS.l0] at h
 | k + 1 => by
  have ih0 := laws_heldFileS.mono_l k; have m0 := @laws_heldByteS.mono; have m1 := @laws_markText.mono
  · intro y0 y1 y2
    unfold laws_heldFileS.l0
    exact moZ
theorem laws_heldFileS.mono : ∀ a0 a1 k, LeO (laws_heldFileS.f k a0 a1) (laws_heldFileS.f (k + 1) a0 a1) := by
 intro a0 a1 k
 have ih0 := laws_heldFileS.mono_l k
 have m0 := @laws_heldByteS.mono; have m1 := @laws_markText.mono
 unfold laws_heldFileS.f
 exact moZ
def laws_heldFileS.T4 : Bool × List (List Nat × List Nat) := (true, [([], []), ([], []), ([0, 1], [0, 1]), ([2], [2]), ([3], [3]), ([], []), ([5], [5]), ([4, 6], [4, 6])])
def laws_heldFileS.B4 : List Nat := [0, 0, 3, 7, 15, 0, 32, 127]
theorem laws_heldFileS.tab4 : rtab .any (opsOf Tryd.f44 4) = laws_heldFileS.T4 := by kernel_rfl
theorem laws_heldFileS.bits4 : waitsOk laws_heldFileS.T4.2 laws_heldFileS.B4 = true := by kernel_rfl
set_option maxHeartbeats 8000000 in
set_option maxRecDepth 100000 in
theorem laws_heldFileS.calls (k : Nat) (A0 : Option Addr) (c0 : Nat) (l0 : List (S53)) (a1 : Int) (r : Int) (w : World) (hr0 : Kd.C k53 w A0 l0.length l0) (hc0 : l0.length ≤ c0) (h : laws_heldFileS.f k l0 a1 = some r) :
 Calls Tryd.prog 44 #[.slice A0 l0.length c0, .int .i64 a1] w fun e w' => e = .returned (.int .i64 r) ∧ Below w.heap.size w w' := by
 have HR0 := aM hr0
 have HC0 := aM hc0
 clear hr0 hc0
 have HB := aM (Below.refl w.heap.size w)
 have H : (laws_heldFileS.l0 k l0 a1 0) = some r := h
 clear h
 have H' := aM H
 clear H
 go_enter Tryd.func44, Tryd.ntmps44
 go_wp2
 go_loopg [1, 5] k (fun kq v1 v5 w' => ∃ (x1_1 : Int) (x5_1 : Int), v1 = .int .i64 x1_1 ∧ v5 = .int .i64 x5_1 ∧ Aside0 (laws_heldFileS.l0 kq l0 x1_1 x5_1 = some r) ∧ Aside0 (kq ≤ k) ∧ Aside0 (Below w.heap.size w w'))
 case atStart => exact ⟨(a1), (0), z4458, z4458, H', ⟨Nat.le_refl _⟩, ⟨z5acd⟩⟩
 case round =>
  clear H'
  obtain ⟨x1_1, x5_1, rfl, rfl, HA, HK1, HB⟩ := hrel
  cases gk with
  | zero => exact absurd HA.out (by simp [laws_heldFileS.l0])
  | succ k1 =>
   have H := HA.out
   clear HA
   simp only [laws_heldFileS.l0] at H
   by_cases c3 : x5_1 < (l0.length : Int)
   · rw [if_pos c3] at H
     have c3b0 := dL c3
     clear c3
     obtain ⟨c4b0, H⟩ := sE H
     obtain ⟨t102, A5, H⟩ := bS H; try dsimp only at H
     replace H := ifS H; obtain ⟨c6, H⟩ := H
     have c6b0 := eqE c6
     clear c6
     obtain ⟨t104, A7, H⟩ := bS H; try dsimp only at H
     replace H := ifN H; obtain ⟨c8, H⟩ := H
     have c8b0 := nL c8
     clear c8
     replace H := ifS H; obtain ⟨c9, H⟩ := H
     have c9b0 := eqE c9
     clear c9
     have H' := aM H
     clear H
     try go_wp2
     have _ := aM (below_drew1 HB.out)
     clear HB
     rename_i HB
     have p101 : 0 ≤ (x5_1 : Int) := of_decide_eq_true z1200
     have q101 : x5_1 < (l0.length : Int) := of_decide_eq_true z1200
     obtain ⟨ad101, A101_1, c101_1, e101, hx101_0, hx101_1, hx101_2, hl101_1, hi101_1⟩ := at_T53 HR0.out x5_1 p101 q101
     have hw101_2 := hx101_2
     have hw101_1 := hx101_1
     have hw101_0 := hx101_0
     cases e101
     have TW101_1 := aM hx101_1
     replace hx101_0 := (HB.out.cell (World.block_lt_of_cell? w _ hx101_0)).trans hx101_0
     replace hx101_1 := (HB.out.cell (World.block_lt_of_cell? w _ hx101_1)).trans hx101_1
     replace hx101_2 := (HB.out.cell (World.block_lt_of_cell? w _ hx101_2)).trans hx101_2
     have HR101_1 := aM hi101_1
     have HC101_1 := aM hl101_1
     clear hi101_1 hl101_1
     replace p101 := eq_true p101
     replace q101 := eq_true q101
     refine sA 8 laws_heldFileS.tab4 laws_heldFileS.bits4 (fun w' => w'.cell? (ad101.add ((x5_1).toNat * 3)) = some (.string ((rd_T53 l0 x5_1).f0)) ∧ w'.cell? ⟨(ad101.add ((x5_1).toNat * 3)).block, (ad101.add ((x5_1).toNat * 3)).off + 1, none⟩ = some (.slice A101_1 ((rd_T53 l0 x5_1).f1).length c101_1) ∧ w'.cell? ⟨(ad101.add ((x5_1).toNat * 3)).block, (ad101.add ((x5_1).toNat * 3)).off + 2, none⟩ = some (.int .i64 ((rd_T53 l0 x5_1).f2))) [] (fun hHeld HT_ HW_ => ?_)
     generalize wr.drew = w10 at HB HR101_1 hx101_0 hx101_1 hx101_2 hHeld ⊢
     refine pA 0 12 HT_ ?_; refine pA 1 13 HT_ ?_; refine pA 2 14 HT_ ?_; refine pA 3 15 HT_ ?_; refine pA 5 17 HT_ ?_; refine tA 4 16 HT_ HW_ hHeld ?_; refine oA 6 18 HT_ (fun K hK => ?_)
     refine goes_ Tryd.func73 (by kernel_rfl) rfl #[.int .i64 x1_1] (by rfl) rfl rfl zee81 ?_
     with_reducible refine (laws_markText.calls k1 x1_1 t102 _ A5.out).mono ?_
     rintro e w11 ⟨rfl, hb⟩
     refine ⟨_, rfl, ?_⟩
     have _ := aM (below_step hbZ hb)
     clear HB
     rename_i HB
     (try clear hb)
     refine hK.out _ _ sZ (fun hHeld => ?_)
     clear hK K
     refine nA 18 ?_; refine pA 7 19 HT_ ?_
     refine done_ (done_of HT_.out (by kernel_rfl)) ?_
     have p103 : 0 ≤ (x5_1 : Int) := of_decide_eq_true z1200
     have q103 : x5_1 < (l0.length : Int) := of_decide_eq_true z1200
     obtain ⟨ad103, A103_1, c103_1, e103, hx103_0, hx103_1, hx103_2, hl103_1, hi103_1⟩ := at_T53 HR0.out x5_1 p103 q103
     obtain rfl : ad101 = ad103 := (by injection e103)
     (try (have ez_ := hx103_1.symm.trans TW101_1.out; simp only [Option.some.injEq, Value.slice.injEq, true_and] at ez_; obtain ⟨ez1_, ez2_⟩ := ez_; subst ez1_ ez2_))
     have TW103_1 := aM hx103_1
     replace hx103_0 := (HB.out.cell (World.block_lt_of_cell? w _ hx103_0)).trans hx103_0
     replace hx103_1 := (HB.out.cell (World.block_lt_of_cell? w _ hx103_1)).trans hx103_1
     replace hx103_2 := (HB.out.cell (World.block_lt_of_cell? w _ hx103_2)).trans hx103_2
     have HR103_1 := aM hi103_1
     have HC103_1 := aM hl103_1
     clear hi103_1 hl103_1
     replace p103 := eq_true p103
     replace q103 := eq_true q103
     try go_wp2_with (first | ((with_reducible refine gate_callee (f := 74) rfl ?_); refine gL 28 Tryd.func74 #[.slice A103_1 ((rd_T53 l0 x5_1).f1).length c103_1, .int .i64 (wrap64 (x1_1 + 1))] ?_; (with_reducible refine (laws_heldByteS.calls k1 _ _ ((rd_T53 l0 x5_1).f1) (wrap64 (x1_1 + 1)) t104 _ ?side1 ?side2 A7.out).mono ?_); (case side1 => exact (cZ (Kd.C_below HR103_1.out HB.out))); (case side2 => exact HC103_1.out); rintro e w' ⟨rfl, ⟨nd, rfl⟩⟩; refine ⟨_, rfl, ?_⟩; have p105 : 0 ≤ (x5_1 : Int) := of_decide_eq_true z1200; have q105 : x5_1 < (l0.length : Int) := of_decide_eq_true z1200; obtain ⟨ad105, A105_1, c105_1, e105, hx105_0, hx105_1, hx105_2, hl105_1, hi105_1⟩ := at_T53 HR0.out x5_1 p105 q105; obtain rfl : ad101 = ad105 := (by injection e105); replace hx105_0 := (HB.out.cell (World.block_lt_of_cell? w _ hx105_0)).trans hx105_0; replace hx105_1 := (HB.out.cell (World.block_lt_of_cell? w _ hx105_1)).trans hx105_1; replace hx105_2 := (HB.out.cell (World.block_lt_of_cell? w _ hx105_2)).trans hx105_2; have HR105_1 := aM hi105_1; have HC105_1 := aM hl105_1; clear hi105_1 hl105_1; replace p105 := eq_true p105; replace q105 := eq_true q105; have ea_ := Option.some.inj (hx103_1.symm.trans hx105_1); injection ea_ with ea_ en_ ec_; subst ea_; subst ec_; clear en_))
     go_roundg k1
     case measure => have := HK1.out; omega
     case rel => exact ⟨(wrap64 (t104 + 1)), (wrap64 (x5_1 + 1)), z4458, z4458, H', ⟨zfb39⟩, ⟨z5acd⟩⟩
   · rw [if_neg c3] at H
     have c3b0 := nL c3
     clear c3
     obtain rfl := Option.some.inj H
     go_wp2
     go_ret
     exact ⟨z674d, z5acd⟩

end Go.Proofs.YtmlclmbplbbbhaaDoor.P

-- written by a program of this session's (wip/pp)
namespace Go.Proofs.YtmlclmbplbbbhaaDoor.P
open Go.RowKit Go.Proofs.YtmlclmbplbbbhaaDoorW.PrintWords Go.Proofs.YtmlclmbplbbbhaaDoorW.PrintLast Go.Proofs.YtmlclmbplbbbhaaDoorW.PrintMore
attribute [local go_sem] max2_int min2_int max_two min_two max_three min_three max_four min_four str_geq str_gtr str_leq   -- for this text's walks alone
set_option linter.unusedVariables false
set_option linter.unusedSimpArgs false

/-! ### laws_heldFiles: function 18 -/
def laws_heldFiles.f (k : Nat) (a0_0 : Int) (l0_1 : List (S53)) (a1 : Int) : Option (Int) := (laws_heldFileS.f k l0_1 a1).bind fun t102 => (if t102 < 0 then (none) else (some t102))
theorem laws_heldFiles.mono : ∀ a0 a1 a2 k, LeO (laws_heldFiles.f k a0 a1 a2) (laws_heldFiles.f (k + 1) a0 a1 a2) := by
 intro a0 a1 a2 k
 have m0 := @laws_heldFileS.mono
 unfold laws_heldFiles.f
 exact moZ
set_option maxHeartbeats 8000000 in
set_option maxRecDepth 100000 in
theorem laws_heldFiles.calls (k : Nat) (a0_0 : Int) (A0_1 : Option Addr) (c0_1 : Nat) (l0_1 : List (S53)) (a1 : Int) (r : Int) (w : World) (hr0_1 : Kd.C k53 w A0_1 l0_1.length l0_1) (hc0_1 : l0_1.length ≤ c0_1) (h : laws_heldFiles.f k a0_0 l0_1 a1 = some r) :
 Calls Tryd.prog 18 #[.agg #[.int .i64 a0_0, .slice A0_1 l0_1.length c0_1], .int .i64 a1] w fun e w' => e = .returned (.int .i64 r) ∧ Below w.heap.size w w' := by
 have hu29 := Tryd.underlying29
 have HR0_1 := aM hr0_1
 have HC0_1 := aM hc0_1
 clear hr0_1 hc0_1
 have HB := aM (Below.refl w.heap.size w)
 have H : ((laws_heldFileS.f k l0_1 a1).bind fun t102 => (if t102 < 0 then (none) else (some t102))) = some r := h
 clear h
 obtain ⟨t102, A3, H⟩ := bS H; try dsimp only at H
 replace H := ifN H; obtain ⟨c4, H⟩ := H
 have c4b0 := nL c4
 clear c4
 obtain rfl := Option.some.inj H
 go_enter Tryd.func18, Tryd.ntmps18
 go_wp2_with (first | ((with_reducible refine gate_dst (N := 2) rfl ?_); refine bX 2 29 #[.int .i64 a0_0, .slice A0_1 l0_1.length c0_1] ?_; intro gb101 hg w5 hbox hb; have _ := aM (below_step hbZ hb); have _ := aM hbox; have _ := szZ hg; have _ := szZ hg; clear HB; rename_i HB BK101 GW101 GE101; clear hb hbox hg; have hz6 := cellsZ2 BK101.out) | ((with_reducible refine gate_callee (f := 44) rfl ?_); refine gL 8 Tryd.func44 #[.slice A0_1 l0_1.length c0_1, .int .i64 a1] ?_; (with_reducible refine (laws_heldFileS.calls k _ _ l0_1 a1 t102 _ ?side1 ?side2 A3.out).mono ?_); (case side1 => exact (cZ (Kd.C_below HR0_1.out HB.out))); (case side2 => exact HC0_1.out); rintro e w7 ⟨rfl, hb⟩; refine ⟨_, rfl, ?_⟩; have _ := bB gb101 hb; have _ := aM (below_step hbZ hb); clear BK101 HB; rename_i BK101 HB; (try clear hb)))
 go_ret
 exact ⟨z674d, zcb41⟩

end Go.Proofs.YtmlclmbplbbbhaaDoor.P

-- written by a program of this session's (wip/pp)
namespace Go.Proofs.YtmlclmbplbbbhaaDoor.P
open Go.RowKit Go.Proofs.YtmlclmbplbbbhaaDoorW.PrintWords Go.Proofs.YtmlclmbplbbbhaaDoorW.PrintLast Go.Proofs.YtmlclmbplbbbhaaDoorW.PrintMore
attribute [local go_sem] max2_int min2_int max_two min_two max_three min_three max_four min_four str_geq str_gtr str_leq   -- for this text's walks alone
set_option linter.unusedVariables false
set_option linter.unusedSimpArgs false

/-! ### laws_szByteS: function 89 -/
def laws_szByteS.f (l0 : List Int) (a1 : Int) : Option (Int) := if (wrap64 (a1 - (l0.length : Int))) < 0 then (some (-1)) else (some (wrap64 (a1 - (l0.length : Int))))
set_option maxHeartbeats 8000000 in
set_option maxRecDepth 100000 in
theorem laws_szByteS.calls (A0 : Option Addr) (c0 : Nat) (l0 : List Int) (a1 : Int) (r : Int) (w : World) (hr0 : Kd.C (Kd.int .u8) w A0 l0.length l0) (hc0 : l0.length ≤ c0) (h : laws_szByteS.f l0 a1 = some r) :
 Calls Tryd.prog 89 #[.slice A0 l0.length c0, .int .i64 a1] w fun e w' => e = .returned (.int .i64 r) ∧ Drawn0 w w' := by
 have HR0 := aM hr0
 have HC0 := aM hc0
 clear hr0 hc0
 have H : (if (wrap64 (a1 - (l0.length : Int))) < 0 then (some (-1)) else (some (wrap64 (a1 - (l0.length : Int))))) = some r := h
 clear h
 by_cases c3 : (wrap64 (a1 - (l0.length : Int))) < 0
 · rw [if_pos c3] at H
   have c3b0 := dL c3
   clear c3
   obtain rfl := Option.some.inj H
   go_enter Tryd.func89, Tryd.ntmps89
   go_wp2
   go_ret
   exact ⟨z4458, za9de⟩
 · rw [if_neg c3] at H
   have c3b0 := nL c3
   clear c3
   obtain rfl := Option.some.inj H
   go_enter Tryd.func89, Tryd.ntmps89
   go_wp2
   go_ret
   exact ⟨z4458, za9de⟩

end Go.Proofs.YtmlclmbplbbbhaaDoor.P

-- written by a program of this session's (wip/pp)
namespace Go.Proofs.YtmlclmbplbbbhaaDoor.P
open Go.RowKit Go.Proofs.YtmlclmbplbbbhaaDoorW.PrintWords Go.Proofs.YtmlclmbplbbbhaaDoorW.PrintLast Go.Proofs.YtmlclmbplbbbhaaDoorW.PrintMore
attribute [local go_sem] max2_int min2_int max_two min_two max_three min_three max_four min_four str_geq str_gtr str_leq   -- for this text's walks alone
set_option linter.unusedVariables false
set_option linter.unusedSimpArgs false

/-! ### laws_szFile: function 64 -/
def laws_szFile.f (a0_0 : ByteArray) (l0_1 : List Int) (a0_2 : Int) (a1 : Int) : Option (Int) := if (wrap64 (a1 - (a0_0.size : Int))) < 0 then (some (-1)) else ((laws_szByteS.f l0_1 (wrap64 (a1 - (a0_0.size : Int)))).bind fun t102 => (if t102 < 0 then (some (-1)) else (some t102)))
set_option maxHeartbeats 8000000 in
set_option maxRecDepth 100000 in
theorem laws_szFile.calls (a0_0 : ByteArray) (A0_1 : Option Addr) (c0_1 : Nat) (l0_1 : List Int) (a0_2 : Int) (a1 : Int) (r : Int) (w : World) (hr0_1 : Kd.C (Kd.int .u8) w A0_1 l0_1.length l0_1) (hc0_1 : l0_1.length ≤ c0_1) (h : laws_szFile.f a0_0 l0_1 a0_2 a1 = some r) :
 Calls Tryd.prog 64 #[.agg #[.string a0_0, .slice A0_1 l0_1.length c0_1, .int .i64 a0_2], .int .i64 a1] w fun e w' => e = .returned (.int .i64 r) ∧ Below w.heap.size w w' := by
 have hu84 := Tryd.underlying84
 have HR0_1 := aM hr0_1
 have HC0_1 := aM hc0_1
 clear hr0_1 hc0_1
 have HB := aM (Below.refl w.heap.size w)
 have H : (if (wrap64 (a1 - (a0_0.size : Int))) < 0 then (some (-1)) else ((laws_szByteS.f l0_1 (wrap64 (a1 - (a0_0.size : Int)))).bind fun t102 => (if t102 < 0 then (some (-1)) else (some t102)))) = some r := h
 clear h
 by_cases c3 : (wrap64 (a1 - (a0_0.size : Int))) < 0
 · rw [if_pos c3] at H
   have c3b0 := dL c3
   clear c3
   obtain rfl := Option.some.inj H
   go_enter Tryd.func64, Tryd.ntmps64
   go_wp2_with (first | ((with_reducible refine gate_dst (N := 2) rfl ?_); refine bX 2 84 #[.string a0_0, .slice A0_1 l0_1.length c0_1, .int .i64 a0_2] ?_; intro gb101 hg w4 hbox hb; have _ := aM (below_step hbZ hb); have _ := aM hbox; have _ := szZ hg; have _ := szZ hg; clear HB; rename_i HB BK101 GW101 GE101; clear hb hbox hg; have hz5 := cellsZ3 BK101.out))
   go_ret
   exact ⟨z674d, zcb41⟩
 · rw [if_neg c3] at H
   have c3b0 := nL c3
   clear c3
   obtain ⟨t102, A6, H⟩ := bS H; try dsimp only at H
   by_cases c7 : t102 < 0
   · rw [if_pos c7] at H
     have c7b0 := dL c7
     clear c7
     obtain rfl := Option.some.inj H
     go_enter Tryd.func64, Tryd.ntmps64
     go_wp2_with (first | ((with_reducible refine gate_dst (N := 2) rfl ?_); refine bX 2 84 #[.string a0_0, .slice A0_1 l0_1.length c0_1, .int .i64 a0_2] ?_; intro gb101 hg w8 hbox hb; have _ := aM (below_step hbZ hb); have _ := aM hbox; have _ := szZ hg; have _ := szZ hg; clear HB; rename_i HB BK101 GW101 GE101; clear hb hbox hg; have hz9 := cellsZ3 BK101.out) | ((with_reducible refine gate_callee (f := 89) rfl ?_); refine gL 15 Tryd.func89 #[.slice A0_1 l0_1.length c0_1, .int .i64 (wrap64 (a1 - (a0_0.size : Int)))] ?_; (with_reducible refine (laws_szByteS.calls _ _ l0_1 (wrap64 (a1 - (a0_0.size : Int))) t102 _ ?side1 ?side2 A6.out).mono ?_); (case side1 => exact (cZ (Kd.C_below HR0_1.out HB.out))); (case side2 => exact HC0_1.out); rintro e w' ⟨rfl, ⟨nd, rfl⟩⟩; refine ⟨_, rfl, ?_⟩))
     go_ret
     exact ⟨z674d, zcb41⟩
   · rw [if_neg c7] at H
     have c7b0 := nL c7
     clear c7
     obtain rfl := Option.some.inj H
     go_enter Tryd.func64, Tryd.ntmps64
     go_wp2_with (first | ((with_reducible refine gate_dst (N := 2) rfl ?_); refine bX 2 84 #[.string a0_0, .slice A0_1 l0_1.length c0_1, .int .i64 a0_2] ?_; intro gb101 hg w10 hbox hb; have _ := aM (below_step hbZ hb); have _ := aM hbox; have _ := szZ hg; have _ := szZ hg; clear HB; rename_i HB BK101 GW101 GE101; clear hb hbox hg; have hz11 := cellsZ3 BK101.out) | ((with_reducible refine gate_callee (f := 89) rfl ?_); refine gL 15 Tryd.func89 #[.slice A0_1 l0_1.length c0_1, .int .i64 (wrap64 (a1 - (a0_0.size : Int)))] ?_; (with_reducible refine (laws_szByteS.calls _ _ l0_1 (wrap64 (a1 - (a0_0.size : Int))) t102 _ ?side1 ?side2 A6.out).mono ?_); (case side1 => exact (cZ (Kd.C_below HR0_1.out HB.out))); (case side2 => exact HC0_1.out); rintro e w' ⟨rfl, ⟨nd, rfl⟩⟩; refine ⟨_, rfl, ?_⟩))
     go_ret
     exact ⟨z674d, zcb41⟩

end Go.Proofs.YtmlclmbplbbbhaaDoor.P

-- written by a program of this session's (wip/pp)
namespace Go.Proofs.YtmlclmbplbbbhaaDoor.P
open Go.RowKit Go.Proofs.YtmlclmbplbbbhaaDoorW.PrintWords Go.Proofs.YtmlclmbplbbbhaaDoorW.PrintLast Go.Proofs.YtmlclmbplbbbhaaDoorW.PrintMore
attribute [local go_sem] max2_int min2_int max_two min_two max_three min_three max_four min_four str_geq str_gtr str_leq   -- for this text's walks alone
set_option linter.unusedVariables false
set_option linter.unusedSimpArgs false

/-! ### laws_szFileS: function 33 -/
def laws_szFileS.l0 : Nat → List (S84) → Int → Int → Option (Int)
 | 0, _, _, _ => none
 | k + 1, x0, x1, x5 => if x5 < (x0.length : Int) then (if 0 ≤ x5 then ((laws_szFile.f ((rd_T84 x0 x5).f0) ((rd_T84 x0 x5).f1) ((rd_T84 x0 x5).f2) x1).bind fun t102 => (if t102 < 0 then (some (-1)) else (laws_szFileS.l0 k x0 t102 (wrap64 (x5 + 1))))) else (none)) else (some x1)
def laws_szFileS.f (k : Nat) (l0 : List (S84)) (a1 : Int) : Option (Int) := if (wrap64 (a1 - (l0.length : Int))) < 0 then (some (-1)) else (laws_szFileS.l0 k l0 (wrap64 (a1 - (l0.length : Int))) 0)
theorem laws_szFileS.mono_l : ∀ k, (∀ y0 y1 y2, LeO (laws_szFileS.l0 k y0 y1 y2) (laws_szFileS.l0 (k + 1) y0 y1 y2))
 | 0 => fun _ _ _ r h => by simp [laws_szFileS.l0] at h
 | k + 1 => by
  have ih0 := laws_szFileS.mono_l k
  · intro y0 y1 y2
    unfold laws_szFileS.l0
    exact moZ
theorem laws_szFileS.mono : ∀ a0 a1 k, LeO (laws_szFileS.f k a0 a1) (laws_szFileS.f (k + 1) a0 a1) := by
 intro a0 a1 k
 have ih0 := laws_szFileS.mono_l k
 unfold laws_szFileS.f
 exact moZ
set_option maxHeartbeats 8000000 in
set_option maxRecDepth 100000 in
theorem laws_szFileS.calls (k : Nat) (A0 : Option Addr) (c0 : Nat) (l0 : List (S84)) (a1 : Int) (r : Int) (w : World) (hr0 : Kd.C k84 w A0 l0.length l0) (hc0 : l0.length ≤ c0) (h : laws_szFileS.f k l0 a1 = some r) :
 Calls Tryd.prog 33 #[.slice A0 l0.length c0, .int .i64 a1] w fun e w' => e = .returned (.int .i64 r) ∧ Below w.heap.size w w' := by
 have hu84 := Tryd.underlying84
 have HR0 := aM hr0
 have HC0 := aM hc0
 clear hr0 hc0
 have HB := aM (Below.refl w.heap.size w)
 have H : (if (wrap64 (a1 - (l0.length : Int))) < 0 then (some (-1)) else (laws_szFileS.l0 k l0 (wrap64 (a1 - (l0.length : Int))) 0)) = some r := h
 clear h
 by_cases c3 : (wrap64 (a1 - (l0.length : Int))) < 0
 · rw [if_pos c3] at H
   have c3b0 := dL c3
   clear c3
   obtain rfl := Option.some.inj H
   go_enter Tryd.func33, Tryd.ntmps33
   go_wp2
   go_ret
   exact ⟨z674d, z5acd⟩
 · rw [if_neg c3] at H
   have c3b0 := nL c3
   clear c3
   have H' := aM H
   clear H
   go_enter Tryd.func33, Tryd.ntmps33
   go_wp2
   go_loopg [1, 5] k (fun kq v1 v5 w' => ∃ (x1_1 : Int) (x5_1 : Int), v1 = .int .i64 x1_1 ∧ v5 = .int .i64 x5_1 ∧ Aside0 (laws_szFileS.l0 kq l0 x1_1 x5_1 = some r) ∧ Aside0 (kq ≤ k) ∧ Aside0 (Below w.heap.size w w'))
   case atStart => exact ⟨(wrap64 (a1 - (l0.length : Int))), (0), z4458, z4458, H', ⟨Nat.le_refl _⟩, ⟨z5acd⟩⟩
   case round =>
    clear H'
    (try clear c3b0)
    obtain ⟨x1_1, x5_1, rfl, rfl, HA, HK1, HB⟩ := hrel
    cases gk with
    | zero => exact absurd HA.out (by simp [laws_szFileS.l0])
    | succ k1 =>
     have H := HA.out
     clear HA
     simp only [laws_szFileS.l0] at H
     by_cases c4 : x5_1 < (l0.length : Int)
     · rw [if_pos c4] at H
       have c4b0 := dL c4
       clear c4
       obtain ⟨c5b0, H⟩ := sE H
       obtain ⟨t102, A6, H⟩ := bS H; try dsimp only at H
       by_cases c7 : t102 < 0
       · rw [if_pos c7] at H
         have c7b0 := dL c7
         clear c7
         obtain rfl := Option.some.inj H
         have p101 : 0 ≤ (x5_1 : Int) := of_decide_eq_true z1200
         have q101 : x5_1 < (l0.length : Int) := of_decide_eq_true z1200
         obtain ⟨ad101, A101_1, c101_1, e101, hx101_0, hx101_1, hx101_2, hl101_1, hi101_1⟩ := at_T84 HR0.out x5_1 p101 q101
         cases e101
         have TW101_1 := aM hx101_1
         replace hx101_0 := (HB.out.cell (World.block_lt_of_cell? w _ hx101_0)).trans hx101_0
         replace hx101_1 := (HB.out.cell (World.block_lt_of_cell? w _ hx101_1)).trans hx101_1
         replace hx101_2 := (HB.out.cell (World.block_lt_of_cell? w _ hx101_2)).trans hx101_2
         have HR101_1 := aM hi101_1
         have HC101_1 := aM hl101_1
         clear hi101_1 hl101_1
         replace p101 := eq_true p101
         replace q101 := eq_true q101
         go_wp2_with (first | ((with_reducible refine gate_callee (f := 64) rfl ?_); refine gL 23 Tryd.func64 #[.agg #[.string ((rd_T84 l0 x5_1).f0), .slice A101_1 ((rd_T84 l0 x5_1).f1).length c101_1, .int .i64 ((rd_T84 l0 x5_1).f2)], .int .i64 x1_1] ?_; (with_reducible refine (laws_szFile.calls ((rd_T84 l0 x5_1).f0) _ _ ((rd_T84 l0 x5_1).f1) ((rd_T84 l0 x5_1).f2) x1_1 t102 _ ?side1 ?side2 A6.out).mono ?_); (case side1 => exact (cZ (Kd.C_below HR101_1.out HB.out))); (case side2 => exact HC101_1.out); rintro e w8 ⟨rfl, hb⟩; refine ⟨_, rfl, ?_⟩; have _ := aM (below_step hbZ hb); clear HB; rename_i HB; (try clear hb)))
         go_ret
         exact ⟨z674d, z5acd⟩
       · rw [if_neg c7] at H
         have c7b0 := nL c7
         clear c7
         have H' := aM H
         clear H
         have p101 : 0 ≤ (x5_1 : Int) := of_decide_eq_true z1200
         have q101 : x5_1 < (l0.length : Int) := of_decide_eq_true z1200
         obtain ⟨ad101, A101_1, c101_1, e101, hx101_0, hx101_1, hx101_2, hl101_1, hi101_1⟩ := at_T84 HR0.out x5_1 p101 q101
         cases e101
         have TW101_1 := aM hx101_1
         replace hx101_0 := (HB.out.cell (World.block_lt_of_cell? w _ hx101_0)).trans hx101_0
         replace hx101_1 := (HB.out.cell (World.block_lt_of_cell? w _ hx101_1)).trans hx101_1
         replace hx101_2 := (HB.out.cell (World.block_lt_of_cell? w _ hx101_2)).trans hx101_2
         have HR101_1 := aM hi101_1
         have HC101_1 := aM hl101_1
         clear hi101_1 hl101_1
         replace p101 := eq_true p101
         replace q101 := eq_true q101
         go_wp2_with (first | ((with_reducible refine gate_callee (f := 64) rfl ?_); refine gL 23 Tryd.func64 #[.agg #[.string ((rd_T84 l0 x5_1).f0), .slice A101_1 ((rd_T84 l0 x5_1).f1).length c101_1, .int .i64 ((rd_T84 l0 x5_1).f2)], .int .i64 x1_1] ?_; (with_reducible refine (laws_szFile.calls ((rd_T84 l0 x5_1).f0) _ _ ((rd_T84 l0 x5_1).f1) ((rd_T84 l0 x5_1).f2) x1_1 t102 _ ?side1 ?side2 A6.out).mono ?_); (case side1 => exact (cZ (Kd.C_below HR101_1.out HB.out))); (case side2 => exact HC101_1.out); rintro e w9 ⟨rfl, hb⟩; refine ⟨_, rfl, ?_⟩; have _ := aM (below_step hbZ hb); clear HB; rename_i HB; (try clear hb)))
         go_roundg k1
         case measure => have := HK1.out; omega
         case rel => exact ⟨(t102), (wrap64 (x5_1 + 1)), z4458, z4458, H', ⟨zfb39⟩, ⟨z5acd⟩⟩
     · rw [if_neg c4] at H
       have c4b0 := nL c4
       clear c4
       obtain rfl := Option.some.inj H
       go_wp2
       go_ret
       exact ⟨z674d, z5acd⟩

end Go.Proofs.YtmlclmbplbbbhaaDoor.P

-- written by a program of this session's (wip/pp)
namespace Go.Proofs.YtmlclmbplbbbhaaDoor.P
open Go.RowKit Go.Proofs.YtmlclmbplbbbhaaDoorW.PrintWords Go.Proofs.YtmlclmbplbbbhaaDoorW.PrintLast Go.Proofs.YtmlclmbplbbbhaaDoorW.PrintMore
attribute [local go_sem] max2_int min2_int max_two min_two max_three min_three max_four min_four str_geq str_gtr str_leq   -- for this text's walks alone
set_option linter.unusedVariables false
set_option linter.unusedSimpArgs false

/-! ### laws_szFiles: function 9 -/
def laws_szFiles.f (k : Nat) (a0_0 : Int) (l0_1 : List (S84)) (a1 : Int) : Option (Int) := (laws_szFileS.f k l0_1 a1).bind fun t102 => (if t102 < 0 then (some (-1)) else (some t102))
theorem laws_szFiles.mono : ∀ a0 a1 a2 k, LeO (laws_szFiles.f k a0 a1 a2) (laws_szFiles.f (k + 1) a0 a1 a2) := by
 intro a0 a1 a2 k
 have m0 := @laws_szFileS.mono
 unfold laws_szFiles.f
 exact moZ
set_option maxHeartbeats 8000000 in
set_option maxRecDepth 100000 in
theorem laws_szFiles.calls (k : Nat) (a0_0 : Int) (A0_1 : Option Addr) (c0_1 : Nat) (l0_1 : List (S84)) (a1 : Int) (r : Int) (w : World) (hr0_1 : Kd.C k84 w A0_1 l0_1.length l0_1) (hc0_1 : l0_1.length ≤ c0_1) (h : laws_szFiles.f k a0_0 l0_1 a1 = some r) :
 Calls Tryd.prog 9 #[.agg #[.int .i64 a0_0, .slice A0_1 l0_1.length c0_1], .int .i64 a1] w fun e w' => e = .returned (.int .i64 r) ∧ Below w.heap.size w w' := by
 have hu24 := Tryd.underlying24
 have HR0_1 := aM hr0_1
 have HC0_1 := aM hc0_1
 clear hr0_1 hc0_1
 have HB := aM (Below.refl w.heap.size w)
 have H : ((laws_szFileS.f k l0_1 a1).bind fun t102 => (if t102 < 0 then (some (-1)) else (some t102))) = some r := h
 clear h
 obtain ⟨t102, A3, H⟩ := bS H; try dsimp only at H
 by_cases c4 : t102 < 0
 · rw [if_pos c4] at H
   have c4b0 := dL c4
   clear c4
   obtain rfl := Option.some.inj H
   go_enter Tryd.func9, Tryd.ntmps9
   go_wp2_with (first | ((with_reducible refine gate_dst (N := 2) rfl ?_); refine bX 2 24 #[.int .i64 a0_0, .slice A0_1 l0_1.length c0_1] ?_; intro gb101 hg w5 hbox hb; have _ := aM (below_step hbZ hb); have _ := aM hbox; have _ := szZ hg; have _ := szZ hg; clear HB; rename_i HB BK101 GW101 GE101; clear hb hbox hg; have hz6 := cellsZ2 BK101.out) | ((with_reducible refine gate_callee (f := 33) rfl ?_); refine gL 8 Tryd.func33 #[.slice A0_1 l0_1.length c0_1, .int .i64 a1] ?_; (with_reducible refine (laws_szFileS.calls k _ _ l0_1 a1 t102 _ ?side1 ?side2 A3.out).mono ?_); (case side1 => exact (cZ (Kd.C_below HR0_1.out HB.out))); (case side2 => exact HC0_1.out); rintro e w7 ⟨rfl, hb⟩; refine ⟨_, rfl, ?_⟩; have _ := bB gb101 hb; have _ := aM (below_step hbZ hb); clear BK101 HB; rename_i BK101 HB; (try clear hb)))
   go_ret
   exact ⟨z674d, zcb41⟩
 · rw [if_neg c4] at H
   have c4b0 := nL c4
   clear c4
   obtain rfl := Option.some.inj H
   go_enter Tryd.func9, Tryd.ntmps9
   go_wp2_with (first | ((with_reducible refine gate_dst (N := 2) rfl ?_); refine bX 2 24 #[.int .i64 a0_0, .slice A0_1 l0_1.length c0_1] ?_; intro gb101 hg w8 hbox hb; have _ := aM (below_step hbZ hb); have _ := aM hbox; have _ := szZ hg; have _ := szZ hg; clear HB; rename_i HB BK101 GW101 GE101; clear hb hbox hg; have hz9 := cellsZ2 BK101.out) | ((with_reducible refine gate_callee (f := 33) rfl ?_); refine gL 8 Tryd.func33 #[.slice A0_1 l0_1.length c0_1, .int .i64 a1] ?_; (with_reducible refine (laws_szFileS.calls k _ _ l0_1 a1 t102 _ ?side1 ?side2 A3.out).mono ?_); (case side1 => exact (cZ (Kd.C_below HR0_1.out HB.out))); (case side2 => exact HC0_1.out); rintro e w10 ⟨rfl, hb⟩; refine ⟨_, rfl, ?_⟩; have _ := bB gb101 hb; have _ := aM (below_step hbZ hb); clear BK101 HB; rename_i BK101 HB; (try clear hb)))
   go_ret
   exact ⟨z674d, zcb41⟩

end Go.Proofs.YtmlclmbplbbbhaaDoor.P

/- laws.FnExactRenameFile: its walk, over what its callees answer. No conditions of its own. -/
namespace Go.Proofs.YtmlclmbplbbbhaaDoor.P
open Go.RowKit Go.Proofs.YtmlclmbplbbbhaaDoorW.PrintWords Go.Proofs.YtmlclmbplbbbhaaDoorW.PrintLast Go.Proofs.YtmlclmbplbbbhaaDoorW.PrintMore
set_option linter.unusedVariables false
set_option linter.unusedSimpArgs false
/-- What the callees answer. -/
def laws_FnExactRenameFile.Ok (k : Nat) (a0_0 : Int) (l0_1 : List S84) (a1 : ByteArray) (a2 : ByteArray) : Prop := ((a1.size : Int) > 1048576 ∨ ((a1.size : Int) ≤ 1048576 ∧ ((a2.size : Int) > 1048576 ∨ ((a2.size : Int) ≤ 1048576 ∧ ∃ q1 : Int, laws_szFiles.f k a0_0 l0_1 1048576 = some q1 ∧ (q1 < 0 ∨ (0 ≤ q1 ∧ ∃ (q2 : Int) (q3 : List (S53)) (q4 : Int) (q5 : List (S53)) (q6 : Int) (q7 : Int) (q8 : List S53) (q9 : Int) (q10 : List S53), laws_toFiles.f k a0_0 l0_1 = some (q2, q3) ∧ spec_RenameFile.f k q2 q3 a1 a2 = some (q4, q5, q6) ∧ impl_RenameFile.f k q2 q3 a1 a2 = some (q4, q5, q6) ∧ laws_eqFiles.f k q4 q5 q4 q5 = some true ∧ laws_eqFiles.f k q2 q3 q2 q3 = some true ∧ laws_markFileS.f k q3 1 = some (q7, q8) ∧ laws_markFileS.f k q5 1 = some (q9, q10) ∧ laws_heldFiles.f k q4 q10 1 = some q9 ∧ 0 ≤ q7 ∧ 0 ≤ q9))))))
set_option maxHeartbeats 8000000 in
set_option maxRecDepth 100000 in
theorem laws_FnExactRenameFile.calls (k : Nat) (a0_0 : Int) (A0_1 : Option Addr) (c0_1 : Nat) (l0_1 : List S84) (a1 : ByteArray) (a2 : ByteArray) (w : World) (hr0_1 : Kd.C k84 w A0_1 l0_1.length l0_1) (hc0_1 : l0_1.length ≤ c0_1) (h : laws_FnExactRenameFile.Ok k a0_0 l0_1 a1 a2) :
 Calls Tryd.prog 8 #[.agg #[.int .i64 a0_0, .slice A0_1 l0_1.length c0_1], .string a1, .string a2] w fun e w' => e = .returned (.bool true) ∧ Below w.heap.size w w' := by
 unfold laws_FnExactRenameFile.Ok at h
 have HB := aM (Below.refl w.heap.size w)
 have HR0_1 := aM hr0_1
 have HC0_1 := aM hc0_1
 clear hr0_1 hc0_1
 rcases h with h | ⟨h0, h⟩
 · have c0_ : decide ((a1.size : Int) > 1048576) = true := decide_eq_true h
   clear h
   go_enter Tryd.func8, Tryd.ntmps8
   go_wp2_with (first | ((with_reducible refine gate_dst (N := 3) rfl ?_); refine box_event ?hg (N := 3) ?hd (cs := #[.int .i64 a0_0, .slice A0_1 l0_1.length c0_1]) (t := 24) ?hr ?_; (case hd => rfl); (case hg => rfl); (case hr => first | (go_simp; done) | (go_simp; rfl)); intro b1_ hg wv1 hbox hb; have LO1 := aM (Loc.box hbox); have el_ := hg; have ORLO1 := aM (show w.heap.size ≤ b1_ from (by first | (rw [el_]; exact HB.out.size))); have OQLO1 := aM (show b1_ ≤ (b1_ + 1) from Nat.le_succ _); have HWLO1 := aM (show w.heap.size ≤ b1_ from (by rw [hg]; exact HB.out.size)); replace HB := aM (below_after HB.out hb); clear hg hbox hb el_))
   go_ret
   exact ⟨rfl, HB.out⟩
 have c0_ : decide ((a1.size : Int) > 1048576) = false := decide_eq_false (by omega)
 clear h0
 rcases h with h | ⟨h1, h⟩
 · have c1_ : decide ((a2.size : Int) > 1048576) = true := decide_eq_true h
   clear h
   go_enter Tryd.func8, Tryd.ntmps8
   go_wp2_with (first | ((with_reducible refine gate_dst (N := 3) rfl ?_); refine box_event ?hg (N := 3) ?hd (cs := #[.int .i64 a0_0, .slice A0_1 l0_1.length c0_1]) (t := 24) ?hr ?_; (case hd => rfl); (case hg => rfl); (case hr => first | (go_simp; done) | (go_simp; rfl)); intro b1_ hg wv1 hbox hb; have LO1 := aM (Loc.box hbox); have el_ := hg; have ORLO1 := aM (show w.heap.size ≤ b1_ from (by first | (rw [el_]; exact HB.out.size))); have OQLO1 := aM (show b1_ ≤ (b1_ + 1) from Nat.le_succ _); have HWLO1 := aM (show w.heap.size ≤ b1_ from (by rw [hg]; exact HB.out.size)); replace HB := aM (below_after HB.out hb); clear hg hbox hb el_))
   go_ret
   exact ⟨rfl, HB.out⟩
 have c1_ : decide ((a2.size : Int) > 1048576) = false := decide_eq_false (by omega)
 clear h1
 obtain ⟨q1, e2_, h⟩ := h
 have HE1 := aM e2_
 clear e2_
 rcases h with h | ⟨h2, h⟩
 · have c2_ : decide (q1 < 0) = true := decide_eq_true h
   clear h
   go_enter Tryd.func8, Tryd.ntmps8
   go_wp2_with (first | ((with_reducible refine gate_dst (N := 3) rfl ?_); refine box_event ?hg (N := 3) ?hd (cs := #[.int .i64 a0_0, .slice A0_1 l0_1.length c0_1]) (t := 24) ?hr ?_; (case hd => rfl); (case hg => rfl); (case hr => first | (go_simp; done) | (go_simp; rfl)); intro b1_ hg wv1 hbox hb; have LO1 := aM (Loc.box hbox); have el_ := hg; have ORLO1 := aM (show w.heap.size ≤ b1_ from (by first | (rw [el_]; exact HB.out.size))); have OQLO1 := aM (show b1_ ≤ (b1_ + 1) from Nat.le_succ _); have HWLO1 := aM (show w.heap.size ≤ b1_ from (by rw [hg]; exact HB.out.size)); replace HB := aM (below_after HB.out hb); clear hg hbox hb el_; obtain ⟨hcLO1_0, hcLO1_1, hfLO1_0, hfLO1_1⟩ := cellsZ2 LO1.out.now) | ((with_reducible refine gate_callee (f := 9) rfl ?_); refine goesL_ (some 26) rfl rfl Tryd.func9 (by kernel_rfl) rfl #[.agg #[.int .i64 a0_0, .slice A0_1 l0_1.length c0_1], .int .i64 1048576] rfl zee81 ?_; (with_reducible refine (laws_szFiles.calls k a0_0 _ _ l0_1 1048576 q1 _ ?s1 ?s2 HE1.out).mono ?_); (case s1 => exact Kd.C_below HR0_1.out HB.out); (case s2 => exact HC0_1.out); rintro e wv2 ⟨he_, hb⟩; subst he_; refine ⟨_, rfl, ?_⟩; (try clear hcLO1_0 hcLO1_1 hfLO1_0 hfLO1_1); replace LO1 := aM (LO1.out.below hb); replace HB := aM (below_after HB.out hb); clear hb))
   go_ret
   exact ⟨rfl, HB.out⟩
 have c2_ : decide (q1 < 0) = false := decide_eq_false (by omega)
 clear h2
 obtain ⟨q2, q3, q4, q5, q6, q7, q8, q9, q10, e0_, e1_, e2_, e3_, e4_, e5_, e6_, e7_, f0_, f1_⟩ := h
 have HE2 := aM e0_
 have HE3 := aM e1_
 have HE4 := aM e2_
 have HE5 := aM e3_
 have HE6 := aM e4_
 have HE7 := aM e5_
 have HE8 := aM e6_
 have HE9 := aM e7_
 clear e0_ e1_ e2_ e3_ e4_ e5_ e6_ e7_
 have g0_ : decide (q7 < 0) = false := decide_eq_false (by omega)
 clear f0_
 have g1_ : decide (q9 < 0) = false := decide_eq_false (by omega)
 clear f1_
 go_enter Tryd.func8, Tryd.ntmps8
 go_wp2_with (first | ((with_reducible refine gate_dst (N := 3) rfl ?_); refine box_event ?hg (N := 3) ?hd (cs := #[.int .i64 a0_0, .slice A0_1 l0_1.length c0_1]) (t := 24) ?hr ?_; (case hd => rfl); (case hg => rfl); (case hr => first | (go_simp; done) | (go_simp; rfl)); intro b1_ hg wv1 hbox hb; have LO1 := aM (Loc.box hbox); have el_ := hg; have ORLO1 := aM (show w.heap.size ≤ b1_ from (by first | (rw [el_]; exact HB.out.size))); have OQLO1 := aM (show b1_ ≤ (b1_ + 1) from Nat.le_succ _); have HWLO1 := aM (show w.heap.size ≤ b1_ from (by rw [hg]; exact HB.out.size)); replace HB := aM (below_after HB.out hb); clear hg hbox hb el_; obtain ⟨hcLO1_0, hcLO1_1, hfLO1_0, hfLO1_1⟩ := cellsZ2 LO1.out.now) | ((with_reducible refine gate_callee (f := 9) rfl ?_); refine goesL_ (some 26) rfl rfl Tryd.func9 (by kernel_rfl) rfl #[.agg #[.int .i64 a0_0, .slice A0_1 l0_1.length c0_1], .int .i64 1048576] rfl zee81 ?_; (with_reducible refine (laws_szFiles.calls k a0_0 _ _ l0_1 1048576 q1 _ ?s1 ?s2 HE1.out).mono ?_); (case s1 => exact Kd.C_below HR0_1.out HB.out); (case s2 => exact HC0_1.out); rintro e wv2 ⟨he_, hb⟩; subst he_; refine ⟨_, rfl, ?_⟩; (try clear hcLO1_0 hcLO1_1 hfLO1_0 hfLO1_1); replace LO1 := aM (LO1.out.below hb); replace HB := aM (below_after HB.out hb); clear hb; obtain ⟨hcLO1_0, hcLO1_1, hfLO1_0, hfLO1_1⟩ := cellsZ2 LO1.out.now) | ((with_reducible refine gate_callee (f := 11) rfl ?_); refine goesL_ (some 31) rfl rfl Tryd.func11 (by kernel_rfl) rfl #[.agg #[.int .i64 a0_0, .slice A0_1 l0_1.length c0_1]] rfl zee81 ?_; (with_reducible refine (laws_toFiles.calls k a0_0 _ _ l0_1 q2 q3 _ ?s1 ?s2 HE2.out).mono ?_); (case s1 => exact Kd.C_below HR0_1.out HB.out); (case s2 => exact HC0_1.out); rintro e wv3 ⟨v1_, he_, ho_v1_, hb⟩; subst he_; refine ⟨_, rfl, ?_⟩; (try clear hcLO1_0 hcLO1_1 hfLO1_0 hfLO1_1); obtain ⟨lo2_, hi2_, el_, hL_, eh_⟩ := Loc.newS (Kd.S_mono ho_v1_ (fun _ _ => trivial)) HB.out; have LO2 := aM hL_; have ORLO2 := aM (show (b1_ + 1) ≤ lo2_ from (by rw [el_]; exact LO1.out.size)); have OQLO2 := aM (show lo2_ ≤ hi2_ from (by rw [el_, eh_]; exact hb.size)); obtain ⟨ALO2, cLO2, ev_⟩ := Kd.S_slice ho_v1_; subst ev_; clear el_ hL_ eh_ ho_v1_; replace LO1 := aM (LO1.out.below hb); replace HB := aM (below_after HB.out hb); clear hb) | ((with_reducible refine gate_callee (f := 31) rfl ?_); refine goesL_ (some 34) rfl rfl Tryd.func31 (by kernel_rfl) rfl #[.agg #[.int .i64 q2, .slice ALO2 q3.length cLO2], .string a1, .string a2] rfl zee81 ?_; (with_reducible refine (spec_RenameFile.calls k q2 _ _ q3 a1 a2 q4 q5 q6 _ ?s1 ?s2 HE3.out).mono ?_); (case s1 => exact LO2.out.readsS.2.2); (case s2 => exact LO2.out.readsS.2.1); rintro e wv4 ⟨v1_, he_, ho_v1_, hb⟩; subst he_; refine ⟨_, rfl, ?_⟩; obtain ⟨lo3_, hi3_, el_, hL_, eh_⟩ := Loc.newS (Kd.S_mono ho_v1_ (fun _ _ => trivial)) HB.out; have LO3 := aM hL_; have ORLO3 := aM (show hi2_ ≤ lo3_ from (by rw [el_]; exact LO2.out.size)); have OQLO3 := aM (show lo3_ ≤ hi3_ from (by rw [el_, eh_]; exact hb.size)); obtain ⟨ALO3, cLO3, ev_⟩ := Kd.S_slice ho_v1_; subst ev_; clear el_ hL_ eh_ ho_v1_; replace LO1 := aM (LO1.out.below hb); replace LO2 := aM (LO2.out.below hb); replace HB := aM (below_after HB.out hb); clear hb) | ((with_reducible refine gate_dst (N := 8) rfl ?_); refine box_event ?hg (N := 8) ?hd (cs := #[.int .i64 0, .slice none 0 0]) (t := 29) ?hr ?_; (case hd => rfl); (case hg => rfl); (case hr => first | (go_simp; done) | (go_simp; rfl)); intro b2_ hg wv5 hbox hb; have LO4 := aM (Loc.box hbox); have el_ := hg; have ORLO4 := aM (show hi3_ ≤ b2_ from (by rw [el_]; exact LO3.out.size)); have OQLO4 := aM (show b2_ ≤ (b2_ + 1) from Nat.le_succ _); have HWLO4 := aM (show w.heap.size ≤ b2_ from (by rw [hg]; exact HB.out.size)); replace LO1 := aM (LO1.out.below hb); replace LO2 := aM (LO2.out.below hb); replace LO3 := aM (LO3.out.below hb); replace HB := aM (below_after HB.out hb); clear hg hbox hb el_; obtain ⟨hcLO4_0, hcLO4_1, hfLO4_0, hfLO4_1⟩ := cellsZ2 LO4.out.now) | ((with_reducible refine gate_store (t := 29) (p := 8) rfl ?_); refine store_event (t := 29) (p := 8) (v := ?vo_wv6) (w1 := ((wv5.setCell ⟨b2_, 0, none⟩ (.int .i64 q4)).setCell ⟨b2_, 1, none⟩ (.slice ALO3 q5.length cLO3))) ?hg ?ho ?hn ?hr ?_; (case ho => rfl); (case hg => rfl); (case hn => rfl); (case hr => first | (go_simp; done) | (go_simp; rfl)); intro wv6 hw; (try clear hcLO4_0 hcLO4_1 hfLO4_0 hfLO4_1); have ho_ : Only wv5 wv6 b2_ := (by rw [hw]; repeat (first | (with_reducible apply Only.set) | exact Only.refl _ _)); have := ORLO1.out; have := OQLO1.out; have := ORLO2.out; have := OQLO2.out; have := ORLO3.out; have := OQLO3.out; have := ORLO4.out; have := OQLO4.out; replace LO1 := aM (LO1.out.only ho_ (by omega)); replace LO2 := aM (LO2.out.only ho_ (by omega)); replace LO3 := aM (LO3.out.only ho_ (by omega)); have hbx_ : wv6.heap[b2_]? = some (.cells #[.int .i64 q4, .slice ALO3 q5.length cLO3] 29 (0, 0)) := (by have BK_ := LO4.out.now; rw [hw]; first | (with_reducible exact blk_put9 BK_) | (with_reducible exact blk_put6 BK_) | (with_reducible exact blk_put4 BK_) | (apply blk_eqZ; (repeat (first | (with_reducible apply blk_put0) | exact BK_)); first | (simp only [List.setIfInBounds_toArray, List.set_cons_zero, List.set_cons_succ] <;> rfl) | rfl)); replace LO4 := aM (Loc.box hbx_); replace HB := aM (below_only HB.out HWLO4.out ho_); clear ho_ hbx_ hw; obtain ⟨hcLO1_0, hcLO1_1, hfLO1_0, hfLO1_1⟩ := cellsZ2 LO1.out.now) | ((with_reducible refine gate_callee (f := 11) rfl ?_); refine goesL_ (some 38) rfl rfl Tryd.func11 (by kernel_rfl) rfl #[.agg #[.int .i64 a0_0, .slice A0_1 l0_1.length c0_1]] rfl zee81 ?_; (with_reducible refine (laws_toFiles.calls k a0_0 _ _ l0_1 q2 q3 _ ?s1 ?s2 HE2.out).mono ?_); (case s1 => exact Kd.C_below HR0_1.out HB.out); (case s2 => exact HC0_1.out); rintro e wv7 ⟨v1_, he_, ho_v1_, hb⟩; subst he_; refine ⟨_, rfl, ?_⟩; (try clear hcLO1_0 hcLO1_1 hfLO1_0 hfLO1_1); obtain ⟨lo5_, hi5_, el_, hL_, eh_⟩ := Loc.newS (Kd.S_mono ho_v1_ (fun _ _ => trivial)) HB.out; have LO5 := aM hL_; have ORLO5 := aM (show (b2_ + 1) ≤ lo5_ from (by rw [el_]; exact LO4.out.size)); have OQLO5 := aM (show lo5_ ≤ hi5_ from (by rw [el_, eh_]; exact hb.size)); obtain ⟨ALO5, cLO5, ev_⟩ := Kd.S_slice ho_v1_; subst ev_; clear el_ hL_ eh_ ho_v1_; replace LO1 := aM (LO1.out.below hb); replace LO2 := aM (LO2.out.below hb); replace LO3 := aM (LO3.out.below hb); replace LO4 := aM (LO4.out.below hb); replace HB := aM (below_after HB.out hb); clear hb) | ((with_reducible refine gate_dst (N := 10) rfl ?_); refine box_event ?hg (N := 10) ?hd (cs := #[.int .i64 0, .slice none 0 0]) (t := 29) ?hr ?_; (case hd => rfl); (case hg => rfl); (case hr => first | (go_simp; done) | (go_simp; rfl)); intro b3_ hg wv8 hbox hb; have LO6 := aM (Loc.box hbox); have el_ := hg; have ORLO6 := aM (show hi5_ ≤ b3_ from (by rw [el_]; exact LO5.out.size)); have OQLO6 := aM (show b3_ ≤ (b3_ + 1) from Nat.le_succ _); have HWLO6 := aM (show w.heap.size ≤ b3_ from (by rw [hg]; exact HB.out.size)); replace LO1 := aM (LO1.out.below hb); replace LO2 := aM (LO2.out.below hb); replace LO3 := aM (LO3.out.below hb); replace LO4 := aM (LO4.out.below hb); replace LO5 := aM (LO5.out.below hb); replace HB := aM (below_after HB.out hb); clear hg hbox hb el_; obtain ⟨hcLO6_0, hcLO6_1, hfLO6_0, hfLO6_1⟩ := cellsZ2 LO6.out.now) | ((with_reducible refine gate_store (t := 29) (p := 10) rfl ?_); refine store_event (t := 29) (p := 10) (v := ?vo_wv9) (w1 := ((wv8.setCell ⟨b3_, 0, none⟩ (.int .i64 q2)).setCell ⟨b3_, 1, none⟩ (.slice ALO5 q3.length cLO5))) ?hg ?ho ?hn ?hr ?_; (case ho => rfl); (case hg => rfl); (case hn => rfl); (case hr => first | (go_simp; done) | (go_simp; rfl)); intro wv9 hw; (try clear hcLO6_0 hcLO6_1 hfLO6_0 hfLO6_1); have ho_ : Only wv8 wv9 b3_ := (by rw [hw]; repeat (first | (with_reducible apply Only.set) | exact Only.refl _ _)); have := ORLO1.out; have := OQLO1.out; have := ORLO2.out; have := OQLO2.out; have := ORLO3.out; have := OQLO3.out; have := ORLO4.out; have := OQLO4.out; have := ORLO5.out; have := OQLO5.out; have := ORLO6.out; have := OQLO6.out; replace LO1 := aM (LO1.out.only ho_ (by omega)); replace LO2 := aM (LO2.out.only ho_ (by omega)); replace LO3 := aM (LO3.out.only ho_ (by omega)); replace LO4 := aM (LO4.out.only ho_ (by omega)); replace LO5 := aM (LO5.out.only ho_ (by omega)); have hbx_ : wv9.heap[b3_]? = some (.cells #[.int .i64 q2, .slice ALO5 q3.length cLO5] 29 (0, 0)) := (by have BK_ := LO6.out.now; rw [hw]; first | (with_reducible exact blk_put9 BK_) | (with_reducible exact blk_put6 BK_) | (with_reducible exact blk_put4 BK_) | (apply blk_eqZ; (repeat (first | (with_reducible apply blk_put0) | exact BK_)); first | (simp only [List.setIfInBounds_toArray, List.set_cons_zero, List.set_cons_succ] <;> rfl) | rfl)); replace LO6 := aM (Loc.box hbx_); replace HB := aM (below_only HB.out HWLO6.out ho_); clear ho_ hbx_ hw; obtain ⟨hcLO6_0, hcLO6_1, hfLO6_0, hfLO6_1⟩ := cellsZ2 LO6.out.now) | ((with_reducible refine gate_callee (f := 32) rfl ?_); refine goesL_ (some 43) rfl rfl Tryd.func32 (by kernel_rfl) rfl #[.agg #[.int .i64 q2, .slice ALO5 q3.length cLO5], .string a1, .string a2] rfl zee81 ?_; (with_reducible refine (impl_RenameFile.calls k q2 _ _ q3 a1 a2 q4 q5 q6 _ ?s1 ?s2 HE4.out).mono ?_); (case s1 => exact LO5.out.readsS.2.2); (case s2 => exact LO5.out.readsS.2.1); rintro e wv10 ⟨v1_, he_, ho_v1_, hb⟩; subst he_; refine ⟨_, rfl, ?_⟩; (try clear hcLO6_0 hcLO6_1 hfLO6_0 hfLO6_1); obtain ⟨lo7_, hi7_, el_, hL_, eh_⟩ := Loc.newS (Kd.S_mono ho_v1_ (fun _ _ => trivial)) HB.out; have LO7 := aM hL_; have ORLO7 := aM (show (b3_ + 1) ≤ lo7_ from (by rw [el_]; exact LO6.out.size)); have OQLO7 := aM (show lo7_ ≤ hi7_ from (by rw [el_, eh_]; exact hb.size)); obtain ⟨ALO7, cLO7, ev_⟩ := Kd.S_slice ho_v1_; subst ev_; clear el_ hL_ eh_ ho_v1_; replace LO1 := aM (LO1.out.below hb); replace LO2 := aM (LO2.out.below hb); replace LO3 := aM (LO3.out.below hb); replace LO4 := aM (LO4.out.below hb); replace LO5 := aM (LO5.out.below hb); replace LO6 := aM (LO6.out.below hb); replace HB := aM (below_after HB.out hb); clear hb) | ((with_reducible refine gate_dst (N := 11) rfl ?_); refine box_event ?hg (N := 11) ?hd (cs := #[.int .i64 0, .slice none 0 0]) (t := 29) ?hr ?_; (case hd => rfl); (case hg => rfl); (case hr => first | (go_simp; done) | (go_simp; rfl)); intro b4_ hg wv11 hbox hb; have LO8 := aM (Loc.box hbox); have el_ := hg; have ORLO8 := aM (show hi7_ ≤ b4_ from (by rw [el_]; exact LO7.out.size)); have OQLO8 := aM (show b4_ ≤ (b4_ + 1) from Nat.le_succ _); have HWLO8 := aM (show w.heap.size ≤ b4_ from (by rw [hg]; exact HB.out.size)); replace LO1 := aM (LO1.out.below hb); replace LO2 := aM (LO2.out.below hb); replace LO3 := aM (LO3.out.below hb); replace LO4 := aM (LO4.out.below hb); replace LO5 := aM (LO5.out.below hb); replace LO6 := aM (LO6.out.below hb); replace LO7 := aM (LO7.out.below hb); replace HB := aM (below_after HB.out hb); clear hg hbox hb el_; obtain ⟨hcLO8_0, hcLO8_1, hfLO8_0, hfLO8_1⟩ := cellsZ2 LO8.out.now) | ((with_reducible refine gate_store (t := 29) (p := 11) rfl ?_); refine store_event (t := 29) (p := 11) (v := ?vo_wv12) (w1 := ((wv11.setCell ⟨b4_, 0, none⟩ (.int .i64 q4)).setCell ⟨b4_, 1, none⟩ (.slice ALO7 q5.length cLO7))) ?hg ?ho ?hn ?hr ?_; (case ho => rfl); (case hg => rfl); (case hn => rfl); (case hr => first | (go_simp; done) | (go_simp; rfl)); intro wv12 hw; (try clear hcLO8_0 hcLO8_1 hfLO8_0 hfLO8_1); have ho_ : Only wv11 wv12 b4_ := (by rw [hw]; repeat (first | (with_reducible apply Only.set) | exact Only.refl _ _)); have := ORLO1.out; have := OQLO1.out; have := ORLO2.out; have := OQLO2.out; have := ORLO3.out; have := OQLO3.out; have := ORLO4.out; have := OQLO4.out; have := ORLO5.out; have := OQLO5.out; have := ORLO6.out; have := OQLO6.out; have := ORLO7.out; have := OQLO7.out; have := ORLO8.out; have := OQLO8.out; replace LO1 := aM (LO1.out.only ho_ (by omega)); replace LO2 := aM (LO2.out.only ho_ (by omega)); replace LO3 := aM (LO3.out.only ho_ (by omega)); replace LO4 := aM (LO4.out.only ho_ (by omega)); replace LO5 := aM (LO5.out.only ho_ (by omega)); replace LO6 := aM (LO6.out.only ho_ (by omega)); replace LO7 := aM (LO7.out.only ho_ (by omega)); have hbx_ : wv12.heap[b4_]? = some (.cells #[.int .i64 q4, .slice ALO7 q5.length cLO7] 29 (0, 0)) := (by have BK_ := LO8.out.now; rw [hw]; first | (with_reducible exact blk_put9 BK_) | (with_reducible exact blk_put6 BK_) | (with_reducible exact blk_put4 BK_) | (apply blk_eqZ; (repeat (first | (with_reducible apply blk_put0) | exact BK_)); first | (simp only [List.setIfInBounds_toArray, List.set_cons_zero, List.set_cons_succ] <;> rfl) | rfl)); replace LO8 := aM (Loc.box hbx_); replace HB := aM (below_only HB.out HWLO8.out ho_); clear ho_ hbx_ hw; obtain ⟨hcLO8_0, hcLO8_1, hfLO8_0, hfLO8_1⟩ := cellsZ2 LO8.out.now; obtain ⟨hcLO4_0, hcLO4_1, hfLO4_0, hfLO4_1⟩ := cellsZ2 LO4.out.now) | ((with_reducible refine gate_callee (f := 14) rfl ?_); refine goesL_ (some 48) rfl rfl Tryd.func14 (by kernel_rfl) rfl #[.agg #[.int .i64 q4, .slice ALO7 q5.length cLO7], .agg #[.int .i64 q4, .slice ALO3 q5.length cLO3]] rfl zee81 ?_; (with_reducible refine (laws_eqFiles.calls k q4 _ _ q5 q4 _ _ q5 true _ ?s1 ?s2 ?s3 ?s4 HE5.out).mono ?_); (case s1 => exact LO7.out.readsS.2.2); (case s2 => exact LO7.out.readsS.2.1); (case s3 => exact LO3.out.readsS.2.2); (case s4 => exact LO3.out.readsS.2.1); rintro e wv13 ⟨he_, hb⟩; subst he_; refine ⟨_, rfl, ?_⟩; (try clear hcLO8_0 hcLO8_1 hfLO8_0 hfLO8_1 hcLO4_0 hcLO4_1 hfLO4_0 hfLO4_1); replace LO1 := aM (LO1.out.below hb); replace LO2 := aM (LO2.out.below hb); replace LO3 := aM (LO3.out.below hb); replace LO4 := aM (LO4.out.below hb); replace LO5 := aM (LO5.out.below hb); replace LO6 := aM (LO6.out.below hb); replace LO7 := aM (LO7.out.below hb); replace LO8 := aM (LO8.out.below hb); replace HB := aM (below_after HB.out hb); clear hb))
 obtain ⟨hcLO6_0, hcLO6_1, hfLO6_0, hfLO6_1⟩ := cellsZ2 LO6.out.now
 obtain ⟨hcLO1_0, hcLO1_1, hfLO1_0, hfLO1_1⟩ := cellsZ2 LO1.out.now
 go_region_held3 (fun W_ => W_.cell? ⟨b3_, 0, none⟩ = some (.int .i64 q2) ∧ W_.cell? ⟨b3_, 1, none⟩ = some (.slice ALO5 q3.length cLO5) ∧ W_.cell? ⟨b1_, 0, none⟩ = some (.int .i64 a0_0) ∧ W_.cell? ⟨b1_, 1, none⟩ = some (.slice A0_1 l0_1.length c0_1)) (exact ⟨hcLO6_0, hcLO6_1, hcLO1_0, hcLO1_1⟩) (first | (go_at_call 11; have hb := (below_drew (Below.refl _ _) : Below wv13.heap.size wv13 wv13.drew); replace LO1 := aM (LO1.out.below hb); replace LO2 := aM (LO2.out.below hb); replace LO3 := aM (LO3.out.below hb); replace LO4 := aM (LO4.out.below hb); replace LO5 := aM (LO5.out.below hb); replace LO6 := aM (LO6.out.below hb); replace LO7 := aM (LO7.out.below hb); replace LO8 := aM (LO8.out.below hb); replace HB := aM (below_after HB.out hb); clear hb; (with_reducible refine (laws_toFiles.calls k a0_0 _ _ l0_1 q2 q3 _ ?s1 ?s2 HE2.out).mono ?_); (case s1 => exact Kd.C_below HR0_1.out HB.out); (case s2 => exact HC0_1.out); rintro e wv14 ⟨v1_, he_, ho_v1_, hb⟩; subst he_; clear hcLO6_0 hcLO6_1 hfLO6_0 hfLO6_1 hcLO1_0 hcLO1_1 hfLO1_0 hfLO1_1; obtain ⟨lo9_, hi9_, el_, hL_, eh_⟩ := Loc.newS (Kd.S_mono ho_v1_ (fun _ _ => trivial)) HB.out; have LO9 := aM hL_; have ORLO9 := aM (show (b4_ + 1) ≤ lo9_ from (by rw [el_]; exact LO8.out.size)); have OQLO9 := aM (show lo9_ ≤ hi9_ from (by rw [el_, eh_]; exact hb.size)); obtain ⟨ALO9, cLO9, ev_⟩ := Kd.S_slice ho_v1_; subst ev_; clear el_ hL_ eh_ ho_v1_; replace LO1 := aM (LO1.out.below hb); replace LO2 := aM (LO2.out.below hb); replace LO3 := aM (LO3.out.below hb); replace LO4 := aM (LO4.out.below hb); replace LO5 := aM (LO5.out.below hb); replace LO6 := aM (LO6.out.below hb); replace LO7 := aM (LO7.out.below hb); replace LO8 := aM (LO8.out.below hb); replace HB := aM (below_after HB.out hb); clear hb; obtain ⟨hcLO6_0, hcLO6_1, hfLO6_0, hfLO6_1⟩ := cellsZ2 LO6.out.now; obtain ⟨hcLO1_0, hcLO1_1, hfLO1_0, hfLO1_1⟩ := cellsZ2 LO1.out.now) | (go_at_call 14; (with_reducible refine (laws_eqFiles.calls k q2 _ _ q3 q2 _ _ q3 true _ ?s1 ?s2 ?s3 ?s4 HE6.out).mono ?_); (case s1 => exact LO5.out.readsS.2.2); (case s2 => exact LO5.out.readsS.2.1); (case s3 => exact LO9.out.readsS.2.2); (case s4 => exact LO9.out.readsS.2.1); rintro e wv15 ⟨he_, hb⟩; subst he_; clear hcLO6_0 hcLO6_1 hfLO6_0 hfLO6_1 hcLO1_0 hcLO1_1 hfLO1_0 hfLO1_1; replace LO1 := aM (LO1.out.below hb); replace LO2 := aM (LO2.out.below hb); replace LO3 := aM (LO3.out.below hb); replace LO4 := aM (LO4.out.below hb); replace LO5 := aM (LO5.out.below hb); replace LO6 := aM (LO6.out.below hb); replace LO7 := aM (LO7.out.below hb); replace LO8 := aM (LO8.out.below hb); replace LO9 := aM (LO9.out.below hb); replace HB := aM (below_after HB.out hb); clear hb; obtain ⟨hcLO6_0, hcLO6_1, hfLO6_0, hfLO6_1⟩ := cellsZ2 LO6.out.now; obtain ⟨hcLO1_0, hcLO1_1, hfLO1_0, hfLO1_1⟩ := cellsZ2 LO1.out.now))
 go_wp2_with (first | ((with_reducible refine gate_callee (f := 16) rfl ?_); refine goesL_ (some 62) rfl rfl Tryd.func16 (by kernel_rfl) rfl #[.agg #[.int .i64 q2, .slice ALO5 q3.length cLO5], .int .i64 1] rfl zee81 ?_; (with_reducible refine (laws_markFiles.calls k (fun k => lo5_ ≤ k ∧ k < hi5_) q2 (.slice ALO5 q3.length cLO5) q3 1 q7 q8 w _ ?s1 ?s2 HE7.out).mono ?_); (case s1 => exact HB.out); (case s2 => exact LO5.out.now); rintro e wv16 ⟨he_, hs, hB2, hk⟩; subst he_; refine ⟨_, rfl, ?_⟩; (try clear hcLO6_0 hcLO6_1 hfLO6_0 hfLO6_1 hcLO1_0 hcLO1_1 hfLO1_0 hfLO1_1); have hi_ := LO5.out.size; have := ORLO1.out; have := OQLO1.out; have := ORLO2.out; have := OQLO2.out; have := ORLO3.out; have := OQLO3.out; have := ORLO4.out; have := OQLO4.out; have := ORLO5.out; have := OQLO5.out; have := ORLO6.out; have := OQLO6.out; have := ORLO7.out; have := OQLO7.out; have := ORLO8.out; have := OQLO8.out; have := ORLO9.out; have := OQLO9.out; replace LO1 := aM (LO1.out.apart hk (by omega)); replace LO2 := aM (LO2.out.apart hk (by omega)); replace LO3 := aM (LO3.out.apart hk (by omega)); replace LO4 := aM (LO4.out.apart hk (by omega)); replace LO6 := aM (LO6.out.apart hk (by omega)); replace LO7 := aM (LO7.out.apart hk (by omega)); replace LO8 := aM (LO8.out.apart hk (by omega)); replace LO9 := aM (LO9.out.apart hk (by omega)); replace LO5 := aM (Loc.ofS (Nat.le_trans hi_ hk.1) hs); replace HB := aM hB2; have HN16 := aM ((LO5.out.readsS).1 : q3.length = q8.length); clear hs hB2 hk hi_; rw [HN16.out] at LO6; obtain ⟨hcLO8_0, hcLO8_1, hfLO8_0, hfLO8_1⟩ := cellsZ2 LO8.out.now; obtain ⟨hcLO4_0, hcLO4_1, hfLO4_0, hfLO4_1⟩ := cellsZ2 LO4.out.now) | (go_at_call 14; (with_reducible refine (laws_eqFiles.calls k q4 _ _ q5 q4 _ _ q5 true _ ?s1 ?s2 ?s3 ?s4 HE5.out).mono ?_); (case s1 => exact LO7.out.readsS.2.2); (case s2 => exact LO7.out.readsS.2.1); (case s3 => exact LO3.out.readsS.2.2); (case s4 => exact LO3.out.readsS.2.1); rintro e wv17 ⟨he_, hb⟩; subst he_; (try clear hcLO8_0 hcLO8_1 hfLO8_0 hfLO8_1 hcLO4_0 hcLO4_1 hfLO4_0 hfLO4_1); replace LO1 := aM (LO1.out.below hb); replace LO2 := aM (LO2.out.below hb); replace LO3 := aM (LO3.out.below hb); replace LO4 := aM (LO4.out.below hb); replace LO5 := aM (LO5.out.below hb); replace LO6 := aM (LO6.out.below hb); replace LO7 := aM (LO7.out.below hb); replace LO8 := aM (LO8.out.below hb); replace LO9 := aM (LO9.out.below hb); replace HB := aM (below_after HB.out hb); clear hb; obtain ⟨hcLO8_0, hcLO8_1, hfLO8_0, hfLO8_1⟩ := cellsZ2 LO8.out.now) | ((with_reducible refine gate_callee (f := 16) rfl ?_); refine goesL_ (some 78) rfl rfl Tryd.func16 (by kernel_rfl) rfl #[.agg #[.int .i64 q4, .slice ALO7 q5.length cLO7], .int .i64 1] rfl zee81 ?_; (with_reducible refine (laws_markFiles.calls k (fun k => lo7_ ≤ k ∧ k < hi7_) q4 (.slice ALO7 q5.length cLO7) q5 1 q9 q10 w _ ?s1 ?s2 HE8.out).mono ?_); (case s1 => exact HB.out); (case s2 => exact LO7.out.now); rintro e wv18 ⟨he_, hs, hB2, hk⟩; subst he_; refine ⟨_, rfl, ?_⟩; (try clear hcLO8_0 hcLO8_1 hfLO8_0 hfLO8_1); have hi_ := LO7.out.size; have := ORLO1.out; have := OQLO1.out; have := ORLO2.out; have := OQLO2.out; have := ORLO3.out; have := OQLO3.out; have := ORLO4.out; have := OQLO4.out; have := ORLO5.out; have := OQLO5.out; have := ORLO6.out; have := OQLO6.out; have := ORLO7.out; have := OQLO7.out; have := ORLO8.out; have := OQLO8.out; have := ORLO9.out; have := OQLO9.out; replace LO1 := aM (LO1.out.apart hk (by omega)); replace LO2 := aM (LO2.out.apart hk (by omega)); replace LO3 := aM (LO3.out.apart hk (by omega)); replace LO4 := aM (LO4.out.apart hk (by omega)); replace LO5 := aM (LO5.out.apart hk (by omega)); replace LO6 := aM (LO6.out.apart hk (by omega)); replace LO8 := aM (LO8.out.apart hk (by omega)); replace LO9 := aM (LO9.out.apart hk (by omega)); replace LO7 := aM (Loc.ofS (Nat.le_trans hi_ hk.1) hs); replace HB := aM hB2; have HN18 := aM ((LO7.out.readsS).1 : q5.length = q10.length); clear hs hB2 hk hi_; rw [HN18.out] at LO8; obtain ⟨hcLO8_0, hcLO8_1, hfLO8_0, hfLO8_1⟩ := cellsZ2 LO8.out.now) | ((with_reducible refine gate_callee (f := 18) rfl ?_); refine goesL_ (some 81) rfl rfl Tryd.func18 (by kernel_rfl) rfl #[.agg #[.int .i64 q4, .slice ALO7 q10.length cLO7], .int .i64 1] rfl zee81 ?_; (with_reducible refine (laws_heldFiles.calls k q4 _ _ q10 1 q9 _ ?s1 ?s2 HE9.out).mono ?_); (case s1 => exact LO7.out.readsS.2.2); (case s2 => exact LO7.out.readsS.2.1); rintro e wv19 ⟨he_, hb⟩; subst he_; refine ⟨_, rfl, ?_⟩; (try clear hcLO8_0 hcLO8_1 hfLO8_0 hfLO8_1); replace LO1 := aM (LO1.out.below hb); replace LO2 := aM (LO2.out.below hb); replace LO3 := aM (LO3.out.below hb); replace LO4 := aM (LO4.out.below hb); replace LO5 := aM (LO5.out.below hb); replace LO6 := aM (LO6.out.below hb); replace LO7 := aM (LO7.out.below hb); replace LO8 := aM (LO8.out.below hb); replace LO9 := aM (LO9.out.below hb); replace HB := aM (below_after HB.out hb); clear hb; obtain ⟨hcLO1_0, hcLO1_1, hfLO1_0, hfLO1_1⟩ := cellsZ2 LO1.out.now) | ((with_reducible refine gate_callee (f := 11) rfl ?_); refine goesL_ (some 89) rfl rfl Tryd.func11 (by kernel_rfl) rfl #[.agg #[.int .i64 a0_0, .slice A0_1 l0_1.length c0_1]] rfl zee81 ?_; (with_reducible refine (laws_toFiles.calls k a0_0 _ _ l0_1 q2 q3 _ ?s1 ?s2 HE2.out).mono ?_); (case s1 => exact Kd.C_below HR0_1.out HB.out); (case s2 => exact HC0_1.out); rintro e wv20 ⟨v1_, he_, ho_v1_, hb⟩; subst he_; refine ⟨_, rfl, ?_⟩; (try clear hcLO1_0 hcLO1_1 hfLO1_0 hfLO1_1); obtain ⟨lo10_, hi10_, el_, hL_, eh_⟩ := Loc.newS (Kd.S_mono ho_v1_ (fun _ _ => trivial)) HB.out; have LO10 := aM hL_; have ORLO10 := aM (show hi9_ ≤ lo10_ from (by rw [el_]; exact LO9.out.size)); have OQLO10 := aM (show lo10_ ≤ hi10_ from (by rw [el_, eh_]; exact hb.size)); obtain ⟨ALO10, cLO10, ev_⟩ := Kd.S_slice ho_v1_; subst ev_; clear el_ hL_ eh_ ho_v1_; replace LO1 := aM (LO1.out.below hb); replace LO2 := aM (LO2.out.below hb); replace LO3 := aM (LO3.out.below hb); replace LO4 := aM (LO4.out.below hb); replace LO5 := aM (LO5.out.below hb); replace LO6 := aM (LO6.out.below hb); replace LO7 := aM (LO7.out.below hb); replace LO8 := aM (LO8.out.below hb); replace LO9 := aM (LO9.out.below hb); replace HB := aM (below_after HB.out hb); clear hb) | ((with_reducible refine gate_callee (f := 32) rfl ?_); refine goesL_ (some 92) rfl rfl Tryd.func32 (by kernel_rfl) rfl #[.agg #[.int .i64 q2, .slice ALO10 q3.length cLO10], .string a1, .string a2] rfl zee81 ?_; (with_reducible refine (impl_RenameFile.calls k q2 _ _ q3 a1 a2 q4 q5 q6 _ ?s1 ?s2 HE4.out).mono ?_); (case s1 => exact LO10.out.readsS.2.2); (case s2 => exact LO10.out.readsS.2.1); rintro e wv21 ⟨v1_, he_, ho_v1_, hb⟩; subst he_; refine ⟨_, rfl, ?_⟩; obtain ⟨lo11_, hi11_, el_, hL_, eh_⟩ := Loc.newS (Kd.S_mono ho_v1_ (fun _ _ => trivial)) HB.out; have LO11 := aM hL_; have ORLO11 := aM (show hi10_ ≤ lo11_ from (by rw [el_]; exact LO10.out.size)); have OQLO11 := aM (show lo11_ ≤ hi11_ from (by rw [el_, eh_]; exact hb.size)); obtain ⟨ALO11, cLO11, ev_⟩ := Kd.S_slice ho_v1_; subst ev_; clear el_ hL_ eh_ ho_v1_; replace LO1 := aM (LO1.out.below hb); replace LO2 := aM (LO2.out.below hb); replace LO3 := aM (LO3.out.below hb); replace LO4 := aM (LO4.out.below hb); replace LO5 := aM (LO5.out.below hb); replace LO6 := aM (LO6.out.below hb); replace LO7 := aM (LO7.out.below hb); replace LO8 := aM (LO8.out.below hb); replace LO9 := aM (LO9.out.below hb); replace LO10 := aM (LO10.out.below hb); replace HB := aM (below_after HB.out hb); clear hb) | ((with_reducible refine gate_dst (N := 16) rfl ?_); refine box_event ?hg (N := 16) ?hd (cs := #[.int .i64 0, .slice none 0 0]) (t := 29) ?hr ?_; (case hd => rfl); (case hg => rfl); (case hr => first | (go_simp; done) | (go_simp; rfl)); intro b5_ hg wv22 hbox hb; have LO12 := aM (Loc.box hbox); have el_ := hg; have ORLO12 := aM (show hi11_ ≤ b5_ from (by rw [el_]; exact LO11.out.size)); have OQLO12 := aM (show b5_ ≤ (b5_ + 1) from Nat.le_succ _); have HWLO12 := aM (show w.heap.size ≤ b5_ from (by rw [hg]; exact HB.out.size)); replace LO1 := aM (LO1.out.below hb); replace LO2 := aM (LO2.out.below hb); replace LO3 := aM (LO3.out.below hb); replace LO4 := aM (LO4.out.below hb); replace LO5 := aM (LO5.out.below hb); replace LO6 := aM (LO6.out.below hb); replace LO7 := aM (LO7.out.below hb); replace LO8 := aM (LO8.out.below hb); replace LO9 := aM (LO9.out.below hb); replace LO10 := aM (LO10.out.below hb); replace LO11 := aM (LO11.out.below hb); replace HB := aM (below_after HB.out hb); clear hg hbox hb el_; obtain ⟨hcLO12_0, hcLO12_1, hfLO12_0, hfLO12_1⟩ := cellsZ2 LO12.out.now) | ((with_reducible refine gate_store (t := 29) (p := 16) rfl ?_); refine store_event (t := 29) (p := 16) (v := ?vo_wv23) (w1 := ((wv22.setCell ⟨b5_, 0, none⟩ (.int .i64 q4)).setCell ⟨b5_, 1, none⟩ (.slice ALO11 q5.length cLO11))) ?hg ?ho ?hn ?hr ?_; (case ho => rfl); (case hg => rfl); (case hn => rfl); (case hr => first | (go_simp; done) | (go_simp; rfl)); intro wv23 hw; (try clear hcLO12_0 hcLO12_1 hfLO12_0 hfLO12_1); have ho_ : Only wv22 wv23 b5_ := (by rw [hw]; repeat (first | (with_reducible apply Only.set) | exact Only.refl _ _)); have := ORLO1.out; have := OQLO1.out; have := ORLO2.out; have := OQLO2.out; have := ORLO3.out; have := OQLO3.out; have := ORLO4.out; have := OQLO4.out; have := ORLO5.out; have := OQLO5.out; have := ORLO6.out; have := OQLO6.out; have := ORLO7.out; have := OQLO7.out; have := ORLO8.out; have := OQLO8.out; have := ORLO9.out; have := OQLO9.out; have := ORLO10.out; have := OQLO10.out; have := ORLO11.out; have := OQLO11.out; have := ORLO12.out; have := OQLO12.out; replace LO1 := aM (LO1.out.only ho_ (by omega)); replace LO2 := aM (LO2.out.only ho_ (by omega)); replace LO3 := aM (LO3.out.only ho_ (by omega)); replace LO4 := aM (LO4.out.only ho_ (by omega)); replace LO5 := aM (LO5.out.only ho_ (by omega)); replace LO6 := aM (LO6.out.only ho_ (by omega)); replace LO7 := aM (LO7.out.only ho_ (by omega)); replace LO8 := aM (LO8.out.only ho_ (by omega)); replace LO9 := aM (LO9.out.only ho_ (by omega)); replace LO10 := aM (LO10.out.only ho_ (by omega)); replace LO11 := aM (LO11.out.only ho_ (by omega)); have hbx_ : wv23.heap[b5_]? = some (.cells #[.int .i64 q4, .slice ALO11 q5.length cLO11] 29 (0, 0)) := (by have BK_ := LO12.out.now; rw [hw]; first | (with_reducible exact blk_put9 BK_) | (with_reducible exact blk_put6 BK_) | (with_reducible exact blk_put4 BK_) | (apply blk_eqZ; (repeat (first | (with_reducible apply blk_put0) | exact BK_)); first | (simp only [List.setIfInBounds_toArray, List.set_cons_zero, List.set_cons_succ] <;> rfl) | rfl)); replace LO12 := aM (Loc.box hbx_); replace HB := aM (below_only HB.out HWLO12.out ho_); clear ho_ hbx_ hw; obtain ⟨hcLO12_0, hcLO12_1, hfLO12_0, hfLO12_1⟩ := cellsZ2 LO12.out.now; obtain ⟨hcLO4_0, hcLO4_1, hfLO4_0, hfLO4_1⟩ := cellsZ2 LO4.out.now) | ((with_reducible refine gate_callee (f := 14) rfl ?_); refine goesL_ (some 97) rfl rfl Tryd.func14 (by kernel_rfl) rfl #[.agg #[.int .i64 q4, .slice ALO11 q5.length cLO11], .agg #[.int .i64 q4, .slice ALO3 q5.length cLO3]] rfl zee81 ?_; (with_reducible refine (laws_eqFiles.calls k q4 _ _ q5 q4 _ _ q5 true _ ?s1 ?s2 ?s3 ?s4 HE5.out).mono ?_); (case s1 => exact LO11.out.readsS.2.2); (case s2 => exact LO11.out.readsS.2.1); (case s3 => exact LO3.out.readsS.2.2); (case s4 => exact LO3.out.readsS.2.1); rintro e wv24 ⟨he_, hb⟩; subst he_; refine ⟨_, rfl, ?_⟩; (try clear hcLO12_0 hcLO12_1 hfLO12_0 hfLO12_1 hcLO4_0 hcLO4_1 hfLO4_0 hfLO4_1); replace LO1 := aM (LO1.out.below hb); replace LO2 := aM (LO2.out.below hb); replace LO3 := aM (LO3.out.below hb); replace LO4 := aM (LO4.out.below hb); replace LO5 := aM (LO5.out.below hb); replace LO6 := aM (LO6.out.below hb); replace LO7 := aM (LO7.out.below hb); replace LO8 := aM (LO8.out.below hb); replace LO9 := aM (LO9.out.below hb); replace LO10 := aM (LO10.out.below hb); replace LO11 := aM (LO11.out.below hb); replace LO12 := aM (LO12.out.below hb); replace HB := aM (below_after HB.out hb); clear hb; obtain ⟨hcLO8_0, hcLO8_1, hfLO8_0, hfLO8_1⟩ := cellsZ2 LO8.out.now) | ((with_reducible refine gate_callee (f := 18) rfl ?_); refine goesL_ (some 106) rfl rfl Tryd.func18 (by kernel_rfl) rfl #[.agg #[.int .i64 q4, .slice ALO7 q10.length cLO7], .int .i64 1] rfl zee81 ?_; (with_reducible refine (laws_heldFiles.calls k q4 _ _ q10 1 q9 _ ?s1 ?s2 HE9.out).mono ?_); (case s1 => exact LO7.out.readsS.2.2); (case s2 => exact LO7.out.readsS.2.1); rintro e wv25 ⟨he_, hb⟩; subst he_; refine ⟨_, rfl, ?_⟩; (try clear hcLO8_0 hcLO8_1 hfLO8_0 hfLO8_1); replace LO1 := aM (LO1.out.below hb); replace LO2 := aM (LO2.out.below hb); replace LO3 := aM (LO3.out.below hb); replace LO4 := aM (LO4.out.below hb); replace LO5 := aM (LO5.out.below hb); replace LO6 := aM (LO6.out.below hb); replace LO7 := aM (LO7.out.below hb); replace LO8 := aM (LO8.out.below hb); replace LO9 := aM (LO9.out.below hb); replace LO10 := aM (LO10.out.below hb); replace LO11 := aM (LO11.out.below hb); replace LO12 := aM (LO12.out.below hb); replace HB := aM (below_after HB.out hb); clear hb))
 go_ret
 exact ⟨rfl, HB.out⟩
end Go.Proofs.YtmlclmbplbbbhaaDoor.P

namespace Go.Proofs.YtmlclmbplbbbhaaDoor.Lem
open Go.RowKit Go.Proofs.YtmlclmbplbbbhaaDoorW.PrintWords Go.Proofs.YtmlclmbplbbbhaaDoorW.PrintLast Go.Proofs.YtmlclmbplbbbhaaDoorW.PrintMore

theorem w64 {x : Int} (h0 : -9223372036854775808 ≤ x) (h1 : x < 9223372036854775808) : wrap64 x = x := by
  unfold wrap64; omega
theorem wu64 {x : Int} (h0 : 0 ≤ x) (h1 : x < 18446744073709551616) : IntKind.u64.wrap x = x := by
  rw [IntKind.wrap_u64]; omega
theorem wu64_lo (x : Int) : 0 ≤ IntKind.u64.wrap x := by rw [IntKind.wrap_u64]; omega
theorem wu64_hi (x : Int) : IntKind.u64.wrap x < 18446744073709551616 := by rw [IntKind.wrap_u64]; omega

/-- A list of bytes. -/
def Bytes (l : List Int) : Prop := ∀ x ∈ l, 0 ≤ x ∧ x < 256

theorem Bytes.of_wf {l : List Int} (h : ∀ x ∈ l, (Lit.int .u8 x).wf = true) : Bytes l := by
  intro x hx
  have := h x hx
  simp [Lit.wf, IntKind.min, IntKind.max, IntKind.signed, IntKind.bits] at this
  omega
theorem Bytes.append {a b : List Int} (ha : Bytes a) (hb : Bytes b) : Bytes (a ++ b) := by
  intro x hx
  rcases List.mem_append.1 hx with h | h
  · exact ha x h
  · exact hb x h
theorem Bytes.nil : Bytes [] := fun x hx => by simp at hx
theorem Bytes.cons {x : Int} {l : List Int} (h0 : 0 ≤ x) (h1 : x < 256) (hl : Bytes l) : Bytes (x :: l) := by
  intro y hy
  rcases List.mem_cons.1 hy with rfl | h
  · exact ⟨h0, h1⟩
  · exact hl y h
theorem Bytes.rd {l : List Int} (h : Bytes l) (i : Int) : 0 ≤ rd l i ∧ rd l i < 256 := by
  unfold Go.Proofs.YtmlclmbplbbbhaaDoorW.PrintWords.rd
  rcases Nat.lt_or_ge i.toNat l.length with hl | hl
  · rw [List.getD_eq_getElem?_getD, List.getElem?_eq_getElem hl]
    exact h _ (List.getElem_mem hl)
  · rw [List.getD_eq_getElem?_getD, List.getElem?_eq_none hl]
    simp
theorem Bytes.take {l : List Int} (h : Bytes l) (n : Nat) : Bytes (l.take n) := fun x hx => h x (List.mem_of_mem_take hx)
theorem Bytes.drop {l : List Int} (h : Bytes l) (n : Nat) : Bytes (l.drop n) := fun x hx => h x (List.mem_of_mem_drop hx)

theorem and255 {x : Int} (h0 : 0 ≤ x) (h1 : x < 18446744073709551616) : 0 ≤ Go.bits .and .u64 x 255 ∧ Go.bits .and .u64 x 255 < 256 := by
  rw [u64_and x 255 h0 h1 (by decide) (by decide)]
  have : x.toNat &&& (255 : Int).toNat ≤ (255 : Int).toNat := Nat.and_le_right
  have e : (255 : Int).toNat = 255 := rfl
  omega

theorem shr_lo {k : IntKind} {x y : Int} (h : 0 ≤ x) : 0 ≤ shr k x y := by
  unfold shr
  exact Int.ediv_nonneg h (Int.le_of_lt (Int.pow_pos (by decide)))
theorem shr_hi {k : IntKind} {x y B : Int} (h : 0 ≤ x) (h1 : x < B) : shr k x y < B := by
  unfold shr
  have : x / 2 ^ min y.toNat k.bits ≤ x := Int.ediv_le_self _ h
  omega

end Go.Proofs.YtmlclmbplbbbhaaDoor.Lem

/- Words on lists: a place of a row, and what stands behind it. No conditions. -/
namespace Go.Proofs.YtmlclmbplbbbhaaDoor.Lem
open Go Go.RowKit Go.Proofs.YtmlclmbplbbbhaaDoor.P Go.Proofs.YtmlclmbplbbbhaaDoorW.PrintWords Go.Proofs.YtmlclmbplbbbhaaDoorW.PrintLast Go.Proofs.YtmlclmbplbbbhaaDoorW.PrintMore

theorem drop_get {α : Type} {l : List α} {i : Nat} (h : i < l.length) : l.drop i = l[i] :: l.drop (i + 1) := (List.drop_eq_getElem_cons h)
theorem set_copy {α β : Type} (f : α → β) (z : β) {l : List α} {i d : Nat} (h : i < l.length) : ((l.take i).map f ++ List.replicate (d + 1) z).set i (f l[i]) = (l.take (i + 1)).map f ++ List.replicate d z := by
  have hl : ((l.take i).map f).length = i := by rw [List.length_map, List.length_take]; omega
  rw [List.set_append_right _ _ (by omega), hl, Nat.sub_self, List.replicate_succ, List.set_cons_zero, List.take_succ_eq_append_getElem h, List.map_append, List.append_assoc]
  rfl
theorem set_mid {α : Type} (pre : List α) (a v : α) (rest : List α) {i : Nat} (h : i = pre.length) : (pre ++ a :: rest).set i v = pre ++ v :: rest := by
  subst h
  rw [List.set_append_right _ _ (Nat.le_refl _), Nat.sub_self, List.set_cons_zero]
theorem getD_mid {α : Type} (pre : List α) (a : α) (rest : List α) (d : α) {i : Nat} (h : i = pre.length) : (pre ++ a :: rest).getD i d = a := by
  subst h
  rw [List.getD_eq_getElem?_getD, List.getElem?_append_right (Nat.le_refl _), Nat.sub_self]
  rfl
end Go.Proofs.YtmlclmbplbbbhaaDoor.Lem

/- An argument of a row, opened by its type: what reads as a value of the type is of the printed kind, at whatever depth. -/
namespace Go.Proofs.YtmlclmbplbbbhaaDoor.Lem
open Go Go.ChangeShapes Go.WideShapes Go.RowKit Go.Proofs.YtmlclmbplbbbhaaDoor.P Go.Proofs.YtmlclmbplbbbhaaDoorW.PrintWords Go.Proofs.YtmlclmbplbbbhaaDoorW.PrintLast Go.Proofs.YtmlclmbplbbbhaaDoorW.PrintMore

theorem list_of {α : Type} {p : Nat → α → Prop} : ∀ n, (∀ i, i < n → ∃ z, p i z) → ∃ l : List α, l.length = n ∧ ∀ i z, l[i]? = some z → p i z
  | 0, _ => ⟨[], rfl, fun i z h => by simp at h⟩
  | n + 1, h => by
    obtain ⟨l, hl, hp⟩ := list_of n (fun i hi => h i (by omega))
    obtain ⟨z, hz⟩ := h n (by omega)
    refine ⟨l ++ [z], by rw [List.length_append, hl]; rfl, fun i y hy => ?_⟩
    rcases Nat.lt_or_ge i l.length with hi | hi
    · rw [List.getElem?_append_left hi] at hy
      exact hp i y hy
    · have hi' : i = l.length := by
        have := (List.getElem?_eq_some_iff.1 hy).1
        rw [List.length_append, List.length_singleton] at this
        omega
      subst hi'
      have : z = y := by simpa using hy
      subst this
      rw [hl]
      exact hz

theorem addr_add2 (a : Addr) (x y : Nat) : (a.add x).add y = a.add (x + y) := by
  unfold Addr.add
  by_cases hx : x = 0
  · subst hx
    rw [if_pos rfl, Nat.zero_add]
  · by_cases hy : y = 0
    · subst hy
      rw [if_pos rfl, Nat.add_zero]
    · rw [if_neg hx, if_neg hy, if_neg (by omega)]
      simp only [Nat.add_assoc]
section
variable {H : Type} (enc : TypeId × Value → H) (P : Program) (w : World) (base : Nat) (spare : Nat → Bool) (held : Bool)
/-- What reads as a value of the type is of the kind, and good. -/
def Opens {α : Type} (d : Kd α) (t : TypeId) (g : α → Prop) : Prop :=
  ∀ (fuel : Nat) (cs : List Value) (x : DataW H × List MemPlace), DataW.trod enc P w base spare held fuel t cs = some x → ∃ a, d.K w a cs ∧ g a
/-- .. a struct's fields from a place on. -/
def OpensF {α : Type} (d : Kd α) (fs : List Field) (o : Nat) (g : α → Prop) : Prop :=
  ∀ (n : Nat) (cs : List Value) (xs : List (DataW H × List MemPlace)), xs.length = fs.length → cs.length = o + (fs.map fun f => P.cellsOf f.type).sum →
    (∀ (i : Nat) (f : Field), fs[i]? = some f → DataW.trod enc P w base spare held n f.type ((cs.drop f.offset).take (P.cellsOf f.type)) = xs[i]?) → ∃ a, d.K w a (cs.drop o) ∧ g a
variable {enc P w base spare held}
variable {α β : Type} {t e : TypeId}
theorem opens_int {k : IntKind} (ht : P.underlying t = some (.int k)) : Opens enc P w base spare held (Kd.int k) t (fun n => (Lit.int k n).wf = true) := fun fuel cs x h => by
  obtain ⟨n, rfl, _, hw⟩ := DataW.trod_int ht h
  exact ⟨n, rfl, hw⟩
theorem opens_bool (ht : P.underlying t = some .bool) : Opens enc P w base spare held Kd.bool t (fun _ => True) := fun fuel cs x h => by
  obtain ⟨b, rfl, _⟩ := DataW.trod_bool ht h
  exact ⟨b, rfl, trivial⟩
theorem opens_string (ht : P.underlying t = some .string) : Opens enc P w base spare held Kd.string t (fun s => s.size ≤ maxLen) := fun fuel cs x h => by
  obtain ⟨s, rfl, _, hs⟩ := DataW.trod_string ht h
  exact ⟨s, rfl, hs⟩
theorem opens_slice {d : Kd α} {g : α → Prop} (e' : Nat) (ht : P.underlying t = some (.slice e)) (hd : Opens enc P w base spare held d e g) (hc : P.cellsOf e = d.sz) :
    Opens enc P w base spare held (Kd.slice e' d) t (fun l => l.length ≤ maxLen ∧ ∀ a ∈ l, g a) := fun fuel cs x h => by
  rcases DataW.trod_slice ht h with ⟨rfl, _⟩ | ⟨a, len, cap, elems, rest, n, _, rfl, _, hb, hl, hm, hlen, hel, _, _⟩
  · exact ⟨[], ⟨none, 0, rfl, Nat.le_refl _, rfl, Nat.zero_le _, fun h => absurd h (Nat.lt_irrefl _)⟩, Nat.zero_le _, fun a h => by simp at h⟩
  · have each : ∀ i, i < len → ∃ z, (∃ c, c.length = d.sz ∧ d.K w z c ∧ ∀ j u, c[j]? = some u → w.cell? (a.add (i * d.sz + j)) = some u) ∧ g z := by
      intro i hi
      have h1 := hel i hi
      rw [List.getElem?_eq_getElem (by omega), Option.bind_eq_some_iff] at h1
      obtain ⟨cs', hcs, ht'⟩ := h1
      obtain ⟨z, hz, hg⟩ := hd _ _ _ ht'
      obtain ⟨_, hl', hcell⟩ := World.cells?_some hcs
      refine ⟨z, ⟨cs', by rw [← hc]; exact hl', hz, fun j u hj => ?_⟩, hg⟩
      have hj' : j < P.cellsOf e := by have := (List.getElem?_eq_some_iff.1 hj).1; omega
      have h2 := hcell j hj'
      rw [hj, hc] at h2
      have ea : (a.add (i * d.sz)).add j = a.add (i * d.sz + j) := addr_add2 a _ _
      rw [← ea]
      exact h2
    obtain ⟨l, hll, hp⟩ := list_of len each
    subst hll
    have hml : l.length ≤ maxLen := Nat.le_trans hl hm
    refine ⟨l, ⟨some a, cap, rfl, hl, rfl, Nat.le_trans hml (of_decide_eq_true (by kernel_rfl)), fun _ => ⟨a, rfl, fun j z hz => (hp j z hz).1⟩⟩, hml, fun z hz => ?_⟩
    obtain ⟨i, hi⟩ := List.getElem?_of_mem hz
    exact (hp i z hi).2
theorem opensF_one {d : Kd α} {g : α → Prop} {f : Field} {o : Nat} (ho : f.offset = o) (h : Opens enc P w base spare held d f.type g) : OpensF enc P w base spare held d [f] o g := fun n cs xs hx hl hf => by
  match xs, hx with
  | [y], _ =>
    obtain ⟨a, ha, hg⟩ := h _ _ _ (hf 0 f rfl)
    rw [List.map_cons, List.map_nil, List.sum_cons, List.sum_nil] at hl
    rw [ho, List.take_of_length_le (by rw [List.length_drop]; omega)] at ha
    exact ⟨a, ha, hg⟩
theorem opensF_cons {d : Kd α} {d2 : Kd β} {g : α → Prop} {g2 : β → Prop} {f : Field} {fs : List Field} {o : Nat} (ho : f.offset = o) (h : Opens enc P w base spare held d f.type g) (hr : OpensF enc P w base spare held d2 fs (o + P.cellsOf f.type) g2) :
    OpensF enc P w base spare held (Kd.pair d d2) (f :: fs) o (fun a => g a.1 ∧ g2 a.2) := fun n cs xs hx hl hf => by
  match xs, hx with
  | y :: ys, hx =>
    obtain ⟨a, ha, hg⟩ := h _ _ _ (hf 0 f rfl)
    rw [List.map_cons, List.sum_cons] at hl
    obtain ⟨b, hb, hg2⟩ := hr n cs ys (by simpa using hx) (by omega) (fun i f' hi => hf (i + 1) f' hi)
    rw [ho] at ha
    refine ⟨(a, b), ⟨_, _, ?_, ha, hb⟩, hg, hg2⟩
    rw [← List.drop_drop, List.take_append_drop]
theorem opens_struct {d : Kd α} {g : α → Prop} {fs : Array Field} (ht : P.underlying t = some (.struct fs)) (hc : P.cellsOf t = (fs.toList.map fun f => P.cellsOf f.type).sum) (h : OpensF enc P w base spare held d fs.toList 0 g) : Opens enc P w base spare held d t g := fun fuel cs x hx => by
  obtain ⟨xs, n, _, _, hl, hlen, hf⟩ := DataW.trod_struct ht hx
  have := h n cs xs (by rw [hlen]; simp) (by omega) (fun i f hi => hf i f (by simpa using hi))
  rw [List.drop_zero] at this
  exact this
theorem opens_iso {d : Kd α} {g : α → Prop} (f : β → α) (mk : α → β) (hmk : ∀ a, f (mk a) = a) (h : Opens enc P w base spare held d t g) : Opens enc P w base spare held (Kd.iso d f) t (fun b => g (f b)) := fun fuel cs x hx => by
  obtain ⟨a, ha, hg⟩ := h fuel cs x hx
  exact ⟨mk a, by show d.K w (f (mk a)) cs; rw [hmk]; exact ha, by show g (f (mk a)); rw [hmk]; exact hg⟩
end
end Go.Proofs.YtmlclmbplbbbhaaDoor.Lem

/- No row is longer than memory. No conditions. -/
namespace Go.Proofs.YtmlclmbplbbbhaaDoor.Lem
open Go Go.RowKit Go.Proofs.YtmlclmbplbbbhaaDoor.P

theorem maxLen_le {n : Nat} (h : n ≤ maxLen) : n ≤ 9223372036854775807 := Nat.le_trans h (of_decide_eq_true (by kernel_rfl))
end Go.Proofs.YtmlclmbplbbbhaaDoor.Lem

/- Marks as texts. No conditions. -/
namespace Go.Proofs.YtmlclmbplbbbhaaDoor.Lem
open Go Go.RowKit Go.Proofs.YtmlclmbplbbbhaaDoor.P Go.Proofs.YtmlclmbplbbbhaaDoorW.PrintWords Go.Proofs.YtmlclmbplbbbhaaDoorW.PrintLast Go.Proofs.YtmlclmbplbbbhaaDoorW.PrintMore

def markTl : Nat → Int → ByteArray → ByteArray
  | 0, _, acc => (⟨#[109]⟩ : ByteArray) ++ acc
  | d + 1, x, acc => if x > 0 then markTl d (Int.tdiv x 10) ((strOfNums [(wrap64 (48 + (Int.tmod x 10))) % 256]) ++ acc) else (⟨#[109]⟩ : ByteArray) ++ acc
theorem markText_l0 : ∀ (d k : Nat) (x : Int) (acc : ByteArray), 0 ≤ x → x < 10 ^ d → x ≤ 9223372036854775807 → d < k → acc.size + d ≤ 1000 → laws_markText.l0 k x acc = some (markTl d x acc)
  | 0, k, x, acc, h0, h1, _, hk, ha => by
    obtain ⟨k, rfl⟩ : ∃ q, k = q + 1 := ⟨k - 1, by omega⟩
    have hx : ¬ x > 0 := by simp at h1; omega
    rw [laws_markText.l0, if_neg hx, if_pos (by omega)]
    rfl
  | d + 1, k, x, acc, h0, h1, hb, hk, ha => by
    obtain ⟨k, rfl⟩ : ∃ q, k = q + 1 := ⟨k - 1, by omega⟩
    rw [laws_markText.l0, markTl]
    by_cases hx : x > 0
    · have hz : (strOfNums [(wrap64 (48 + (Int.tmod x 10))) % 256]).size = 1 := rfl
      have e : Int.tdiv x 10 = x / 10 := Int.tdiv_eq_ediv_of_nonneg h0
      have hp : (10 : Int) ^ (d + 1) = 10 ^ d * 10 := Int.pow_succ 10 d
      have hlt : x / 10 < 10 ^ d := by omega
      have ih := markText_l0 d k (x / 10) ((strOfNums [(wrap64 (48 + (Int.tmod x 10))) % 256]) ++ acc) (by omega) hlt (by omega) (by omega) (by rw [ByteArray.size_append, hz]; omega)
      rw [if_pos hx, if_pos hx, Option.bind_some, hz, if_pos (by omega), e, w64 (by omega) (by omega)]
      exact ih
    · rw [if_neg hx, if_neg hx, if_pos (by omega)]
def markT (x : Int) : ByteArray := if x ≤ 0 then ⟨#[109, 48]⟩ else markTl 18 x ⟨#[]⟩
theorem markText_ok {x : Int} (h0 : 0 ≤ x) (h1 : x < 1000000000000000000) {k : Nat} (hk : 20 < k) : laws_markText.f k x = some (markT x) := by
  unfold laws_markText.f markT
  split
  · rfl
  · exact markText_l0 18 k x _ h0 (by simpa using h1) (by omega) (by omega) (by decide)
end Go.Proofs.YtmlclmbplbbbhaaDoor.Lem

/- Files that come in: their measure, their copies, that a copy equals itself; marks written into them and told again. -/
namespace Go.Proofs.YtmlclmbplbbbhaaDoor.Lem
open Go Go.RowKit Go.Proofs.YtmlclmbplbbbhaaDoor.P Go.Proofs.YtmlclmbplbbbhaaDoorW.PrintWords Go.Proofs.YtmlclmbplbbbhaaDoorW.PrintLast Go.Proofs.YtmlclmbplbbbhaaDoorW.PrintMore

abbrev Lf := S84
abbrev Fi := S53
def GFile (e : Lf) : Prop := e.f0.size ≤ maxLen ∧ (e.f1.length ≤ maxLen ∧ ∀ n ∈ e.f1, (Lit.int .u8 n).wf = true) ∧ (Lit.int .i64 e.f2).wf = true
theorem rdLf_get {l : List Lf} {i : Nat} (h : i < l.length) : rd_T84 l (i : Int) = l[i] := by
  unfold rd_T84
  rw [Int.toNat_natCast, List.getD_eq_getElem?_getD, List.getElem?_eq_getElem h]
  rfl
theorem rdF_get {l : List Fi} {i : Nat} (h : i < l.length) : rd_T53 l (i : Int) = l[i] := by
  unfold rd_T53
  rw [Int.toNat_natCast, List.getD_eq_getElem?_getD, List.getElem?_eq_getElem h]
  rfl
/-- The place behind i. -/
theorem wrapS {i n : Nat} (h : i < n) (hn : n ≤ 1000000000000) : wrap64 ((i : Int) + 1) = ((i + 1 : Nat) : Int) := by rw [w64 (by omega) (by omega)]; omega
/-! ### bytes -/
theorem rd_at1 {l : List Int} {i : Nat} (h : i < l.length) : rd l (i : Int) = l[i] := by
  unfold rd
  rw [Int.toNat_natCast, List.getD_eq_getElem?_getD, List.getElem?_eq_getElem h]
  rfl
theorem toBytes_l0 {l : List Int} (hl : l.length ≤ 1048576) (d : Nat) : ∀ (k i : Nat), i + d = l.length → d < k → laws_toByteS.l0 k l ((l.take i).map id ++ List.replicate d 0) (i : Int) = some l := by
  induction d with
  | zero =>
    intro k i hi hk
    obtain ⟨k, rfl⟩ : ∃ m, k = m + 1 := ⟨k - 1, by omega⟩
    rw [laws_toByteS.l0, if_neg (by omega), List.take_of_length_le (by omega), List.replicate_zero, List.append_nil, List.map_id]
  | succ d ih =>
    intro k i hi hk
    obtain ⟨k, rfl⟩ : ∃ m, k = m + 1 := ⟨k - 1, by omega⟩
    have hlt : i < l.length := by omega
    rw [laws_toByteS.l0, if_pos (by omega), if_pos (by omega), if_pos (by rw [List.length_append, List.length_map, List.length_take, List.length_replicate]; omega), Int.toNat_natCast, rd_at1 hlt, show l[i] = id l[i] from rfl, set_copy id 0 hlt, wrapS hlt (by omega)]
    exact ih k (i + 1) (by omega) (by omega)
theorem toBytes_ok {l : List Int} (hl : l.length ≤ 1048576) {k : Nat} (hk : 1048576 < k) : laws_toByteS.f k l = some l := by
  unfold laws_toByteS.f
  rw [if_pos (by omega), if_pos (by rw [Int.toNat_natCast]; omega), Int.toNat_natCast]
  have h := toBytes_l0 hl l.length k 0 (by omega) (by omega)
  rw [List.take_zero, List.map_nil, List.nil_append] at h
  exact h
theorem eqBytes_l0 {l : List Int} (hl : l.length ≤ 1048576) (d : Nat) : ∀ (k i : Nat), i + d = l.length → d < k → laws_eqByteS.l0 k l l (i : Int) = some true := by
  induction d with
  | zero =>
    intro k i hi hk
    obtain ⟨k, rfl⟩ : ∃ m, k = m + 1 := ⟨k - 1, by omega⟩
    rw [laws_eqByteS.l0, if_neg (by omega)]
  | succ d ih =>
    intro k i hi hk
    obtain ⟨k, rfl⟩ : ∃ m, k = m + 1 := ⟨k - 1, by omega⟩
    rw [laws_eqByteS.l0, if_pos (by omega), if_pos (by omega), if_pos (by omega), if_pos rfl, wrapS (n := l.length) (by omega) (by omega)]
    exact ih k (i + 1) (by omega) (by omega)
theorem eqBytes_ok {l : List Int} (hl : l.length ≤ 1048576) {k : Nat} (hk : 1048576 < k) : laws_eqByteS.f k l l = some true := by
  unfold laws_eqByteS.f
  rw [if_pos rfl]
  exact eqBytes_l0 hl l.length k 0 (by omega) (by omega)
def markBs : List Int → Int → List Int
  | [], _ => []
  | _ :: r, x => x % 256 :: markBs r (x + 1)
theorem markBs_length : ∀ (l : List Int) (x : Int), (markBs l x).length = l.length
  | [], _ => rfl
  | _ :: r, x => by rw [markBs, List.length_cons, List.length_cons, markBs_length r]
theorem markByteS_l0 : ∀ (rest pre : List Int) (k : Nat) (x : Int), 0 ≤ x → x + rest.length < 1000000000000000000 → pre.length + rest.length ≤ 1000000000 → rest.length < k →
    laws_markByteS.l0 k (pre ++ rest) x (pre.length : Int) = some (x + rest.length, pre ++ markBs rest x)
  | [], pre, k, x, h0, h1, h2, hk => by
    obtain ⟨k, rfl⟩ : ∃ q, k = q + 1 := ⟨k - 1, by omega⟩
    rw [laws_markByteS.l0, if_neg (by rw [List.append_nil]; omega), List.append_nil, markBs, List.append_nil]
    simp
  | a :: rest, pre, k, x, h0, h1, h2, hk => by
    obtain ⟨k, rfl⟩ : ∃ q, k = q + 1 := ⟨k - 1, by omega⟩
    rw [List.length_cons] at h1 h2 hk
    have ih := markByteS_l0 rest (pre ++ [x % 256]) k (x + 1) (by omega) (by omega) (by rw [List.length_append, List.length_singleton]; omega) (by omega)
    rw [laws_markByteS.l0, if_pos (by rw [List.length_append, List.length_cons]; omega), if_pos (by omega), Int.toNat_natCast, set_mid _ _ _ _ rfl, w64 (by omega) (by omega),
      show wrap64 ((pre.length : Int) + 1) = ((pre ++ [x % 256]).length : Int) from by rw [w64 (by omega) (by omega), List.length_append, List.length_singleton]; omega]
    rw [List.append_assoc, List.singleton_append] at ih
    rw [ih, markBs, List.length_cons, List.append_assoc, List.singleton_append]
    congr 2
    omega
theorem markByteS_ok (l : List Int) {k : Nat} {x : Int} (h0 : 0 ≤ x) (h1 : x + l.length < 1000000000000000000) (h2 : l.length ≤ 1000000000) (hk : l.length < k) : laws_markByteS.f k l x = some (x + l.length, markBs l x) := markByteS_l0 l [] k x h0 h1 (by simpa using h2) hk
theorem heldByteS_l0 : ∀ (rest pre : List Int) (k : Nat) (x : Int), 0 ≤ x → x + rest.length < 1000000000000000000 → pre.length + rest.length ≤ 1000000000 → rest.length < k →
    laws_heldByteS.l0 k (pre ++ markBs rest x) x (pre.length : Int) = some (x + rest.length)
  | [], pre, k, x, h0, h1, h2, hk => by
    obtain ⟨k, rfl⟩ : ∃ q, k = q + 1 := ⟨k - 1, by omega⟩
    rw [laws_heldByteS.l0, markBs, List.append_nil, if_neg (by omega)]
    simp
  | a :: rest, pre, k, x, h0, h1, h2, hk => by
    obtain ⟨k, rfl⟩ : ∃ q, k = q + 1 := ⟨k - 1, by omega⟩
    rw [List.length_cons] at h1 h2 hk
    have ih := heldByteS_l0 rest (pre ++ [x % 256]) k (x + 1) (by omega) (by omega) (by rw [List.length_append, List.length_singleton]; omega) (by omega)
    rw [List.append_assoc, List.singleton_append] at ih
    rw [laws_heldByteS.l0, markBs, if_pos (by rw [List.length_append, List.length_cons]; omega), if_pos (by omega), show rd (pre ++ x % 256 :: markBs rest (x + 1)) (pre.length : Int) = x % 256 from getD_mid _ _ _ _ rfl, if_pos rfl, w64 (by omega) (by omega),
      show wrap64 ((pre.length : Int) + 1) = ((pre ++ [x % 256]).length : Int) from by rw [w64 (by omega) (by omega), List.length_append, List.length_singleton]; omega, ih, List.length_cons]
    congr 1
    omega
theorem heldByteS_ok (l : List Int) {k : Nat} {x : Int} (h0 : 0 ≤ x) (h1 : x + l.length < 1000000000000000000) (h2 : l.length ≤ 1000000000) (hk : l.length < k) : laws_heldByteS.f k (markBs l x) x = some (x + l.length) := heldByteS_l0 l [] k x h0 h1 (by simpa using h2) hk
/-! ### the measure -/
def HeldF (e : Lf) : Prop := e.f0.size ≤ 9223372036854775807 ∧ e.f1.length ≤ 9223372036854775807
def ShortF (e : Lf) : Prop := e.f0.size ≤ 1048576 ∧ e.f1.length ≤ 1048576
theorem heldF {e : Lf} (h : GFile e) : HeldF e := ⟨maxLen_le h.1, maxLen_le h.2.1.1⟩
theorem szFile_ok {e : Lf} (he : HeldF e) {x : Int} (h0 : 0 ≤ x) (h1 : x ≤ 1048576) : ∃ r, laws_szFile.f e.f0 e.f1 e.f2 x = some r ∧ (r < 0 ∨ (0 ≤ r ∧ r ≤ x ∧ ShortF e)) := by
  obtain ⟨hm, hl⟩ := he
  unfold laws_szFile.f laws_szByteS.f
  rw [show wrap64 (x - (e.f0.size : Int)) = x - (e.f0.size : Int) from w64 (by omega) (by omega)]
  by_cases h : x - (e.f0.size : Int) < 0
  · exact ⟨-1, by rw [if_pos h], .inl (by omega)⟩
  · rw [if_neg h, show wrap64 (x - (e.f0.size : Int) - (e.f1.length : Int)) = x - (e.f0.size : Int) - (e.f1.length : Int) from w64 (by omega) (by omega)]
    by_cases hn : x - (e.f0.size : Int) - (e.f1.length : Int) < 0
    · exact ⟨-1, by rw [if_pos hn, Option.bind_some, if_pos (by decide)], .inl (by omega)⟩
    · exact ⟨_, by rw [if_neg hn, Option.bind_some, if_neg hn], .inr ⟨by omega, by omega, by omega, by omega⟩⟩
theorem szFileS_l0 (l : List Lf) (hl : l.length ≤ 1048576) (hh : ∀ w ∈ l, HeldF w) : ∀ (d i k : Nat) (x : Int), i + d = l.length → d < k → 0 ≤ x → x ≤ 1048576 → ∃ r, laws_szFileS.l0 k l x (i : Int) = some r ∧ (r < 0 ∨ (0 ≤ r ∧ r ≤ x ∧ ∀ w ∈ l.drop i, ShortF w)) := by
  intro d
  induction d with
  | zero =>
    intro i k x hi hk h0 h1
    obtain ⟨k, rfl⟩ : ∃ q, k = q + 1 := ⟨k - 1, by omega⟩
    exact ⟨x, by rw [laws_szFileS.l0, if_neg (by omega)], .inr ⟨h0, Int.le_refl _, fun w hw => by rw [List.drop_of_length_le (by omega)] at hw; simp at hw⟩⟩
  | succ d ih =>
    intro i k x hi hk h0 h1
    obtain ⟨k, rfl⟩ : ∃ q, k = q + 1 := ⟨k - 1, by omega⟩
    have hlt : i < l.length := by omega
    obtain ⟨r, hr, hr2⟩ := szFile_ok (hh l[i] (List.getElem_mem hlt)) h0 h1
    rw [laws_szFileS.l0, if_pos (by omega), if_pos (by omega), rdLf_get hlt, hr, Option.bind_some]
    by_cases hn : r < 0
    · exact ⟨-1, by rw [if_pos hn], .inl (by omega)⟩
    · rw [if_neg hn, wrapS hlt (by omega)]
      have hr3 : 0 ≤ r ∧ r ≤ x ∧ ShortF l[i] := by
        rcases hr2 with h | h
        · exact absurd h hn
        · exact h
      obtain ⟨r2, hq, hq2⟩ := ih (i + 1) k r (by omega) (by omega) (by omega) (by omega)
      refine ⟨r2, hq, ?_⟩
      rcases hq2 with h | ⟨h, h', h''⟩
      · exact .inl h
      · refine .inr ⟨h, by omega, fun w hw => ?_⟩
        rw [drop_get hlt] at hw
        rcases List.mem_cons.1 hw with rfl | hw
        · exact hr3.2.2
        · exact h'' w hw
theorem szFiles_ok {l : List Lf} (q : Int) (hl : l.length ≤ 9223372036854775807) (hh : ∀ w ∈ l, HeldF w) {x : Int} (h0 : 0 ≤ x) (h1 : x ≤ 1048576) {k : Nat} (hk : 1048577 < k) : ∃ r, laws_szFiles.f k q l x = some r ∧ (r < 0 ∨ (0 ≤ r ∧ r ≤ x ∧ l.length ≤ 1048576 ∧ ∀ w ∈ l, ShortF w)) := by
  unfold laws_szFiles.f laws_szFileS.f
  rw [show wrap64 (x - (l.length : Int)) = x - (l.length : Int) from w64 (by omega) (by omega)]
  by_cases h : x - (l.length : Int) < 0
  · exact ⟨-1, by rw [if_pos h, Option.bind_some, if_pos (by decide)], .inl (by omega)⟩
  · rw [if_neg h]
    obtain ⟨r, hr, hr2⟩ := szFileS_l0 l (by omega) hh l.length 0 k (x - (l.length : Int)) (by omega) (by omega) (by omega) (by omega)
    rw [List.drop_zero] at hr2
    rw [show ((0 : Nat) : Int) = 0 from rfl] at hr
    rw [hr, Option.bind_some]
    rcases hr2 with h2 | ⟨h2, h3, h4⟩
    · exact ⟨-1, by rw [if_pos h2], .inl (by omega)⟩
    · exact ⟨r, by rw [if_neg (by omega)], .inr ⟨h2, by omega, by omega, h4⟩⟩
/-! ### copies -/
def cvF (e : Lf) : Fi := ⟨e.f0, e.f1, e.f2⟩
theorem toFileS_l0 {l : List Lf} (hl : l.length ≤ 1048576) (hh : ∀ w ∈ l, ShortF w) : ∀ (d k i : Nat), i + d = l.length → d + 1048580 < k → laws_toFileS.l0 k l ((l.take i).map cvF ++ List.replicate d z53) (i : Int) = some (l.map cvF) := by
  intro d
  induction d with
  | zero =>
    intro k i hi hk
    obtain ⟨k, rfl⟩ : ∃ q, k = q + 1 := ⟨k - 1, by omega⟩
    rw [laws_toFileS.l0, if_neg (by omega), List.take_of_length_le (by omega), List.replicate_zero, List.append_nil]
  | succ d ih =>
    intro k i hi hk
    obtain ⟨k, rfl⟩ : ∃ q, k = q + 1 := ⟨k - 1, by omega⟩
    have hlt : i < l.length := by omega
    have hnext := ih k (i + 1) (by omega) (by omega)
    have he : laws_toFile.f k l[i].f0 l[i].f1 l[i].f2 = some (l[i].f0, l[i].f1, l[i].f2) := by
      unfold laws_toFile.f
      rw [toBytes_ok (hh _ (List.getElem_mem hlt)).2 (by omega), Option.bind_some]
    rw [laws_toFileS.l0, if_pos (by omega), if_pos (by omega), rdLf_get hlt, he, Option.bind_some, if_pos (by rw [List.length_append, List.length_map, List.length_take, List.length_replicate]; omega), Int.toNat_natCast, wrapS hlt (by omega)]
    have e := set_copy cvF z53 (d := d) hlt
    show laws_toFileS.l0 k l (((l.take i).map cvF ++ List.replicate (d + 1) z53).set i (cvF l[i])) _ = _
    rw [e]
    exact hnext
theorem toFiles_ok {l : List Lf} (q : Int) (hl : l.length ≤ 1048576) (hh : ∀ w ∈ l, ShortF w) {k : Nat} (hk : 2097160 < k) : laws_toFiles.f k q l = some (q, l.map cvF) := by
  unfold laws_toFiles.f laws_toFileS.f
  rw [if_pos (by omega), if_pos (by rw [Int.toNat_natCast]; omega), Int.toNat_natCast]
  have h := toFileS_l0 hl hh l.length k 0 (by omega) (by omega)
  rw [List.take_zero, List.map_nil, List.nil_append, show ((0 : Nat) : Int) = 0 from rfl] at h
  rw [h, Option.bind_some]
/-- Files whose rows are within the bound. -/
def RowsF (l : List Fi) : Prop := ∀ e ∈ l, e.f1.length ≤ 1048576
theorem rowsF_map {l : List Lf} (h : ∀ w ∈ l, ShortF w) : RowsF (l.map cvF) := by
  intro e he
  obtain ⟨v, hv, rfl⟩ := List.mem_map.1 he
  exact (h v hv).2
theorem eqFileS_l0 (l : List Fi) (hl : l.length ≤ 1048576) (hh : RowsF l) : ∀ (d i k : Nat), i + d = l.length → d + 1048580 < k → laws_eqFileS.l0 k l l (i : Int) = some true := by
  intro d
  induction d with
  | zero =>
    intro i k hi hk
    obtain ⟨k, rfl⟩ : ∃ q, k = q + 1 := ⟨k - 1, by omega⟩
    rw [laws_eqFileS.l0, if_neg (by omega)]
  | succ d ih =>
    intro i k hi hk
    obtain ⟨k, rfl⟩ : ∃ q, k = q + 1 := ⟨k - 1, by omega⟩
    have hlt : i < l.length := by omega
    have q1 := hh l[i] (List.getElem_mem hlt)
    have q2 : laws_eqFile.f k l[i].f0 l[i].f1 l[i].f2 l[i].f0 l[i].f1 l[i].f2 = some true := by
      unfold laws_eqFile.f
      rw [if_pos rfl, eqBytes_ok q1 (by omega), Option.bind_some, if_pos rfl, if_pos rfl]
    rw [laws_eqFileS.l0, if_pos (by omega), if_pos (by omega), if_pos (by omega), rdF_get hlt, q2, Option.bind_some, if_pos rfl, wrapS hlt (by omega)]
    exact ih (i + 1) k (by omega) (by omega)
theorem eqFiles_ok {l : List Fi} (q : Int) (hl : l.length ≤ 1048576) (hh : RowsF l) {k : Nat} (hk : 2097160 < k) : laws_eqFiles.f k q l q l = some true := by
  unfold laws_eqFiles.f laws_eqFileS.f
  have h := eqFileS_l0 l hl hh l.length 0 k (by omega) (by omega)
  rw [show ((0 : Nat) : Int) = 0 from rfl] at h
  rw [if_pos rfl, if_pos rfl, h, Option.bind_some, if_pos rfl]
/-! ### marks -/
def zF (e : Fi) (x : Int) : Int := x + 1 + (e.f1.length : Int)
def markF (e : Fi) (x : Int) : Fi := ⟨markT x, markBs e.f1 (x + 1), zF e x⟩
def markFs : List Fi → Int → List Fi
  | [], _ => []
  | e :: r, x => markF e x :: markFs r (zF e x + 1)
def endF : List Fi → Int → Int
  | [], x => x
  | e :: r, x => endF r (zF e x + 1)
theorem endF_le : ∀ (l : List Fi) (x : Int), RowsF l → x ≤ endF l x ∧ endF l x ≤ x + 4194304 * (l.length : Int)
  | [], x, _ => by simp [endF]
  | w :: r, x, h => by
    have ih := endF_le r (zF w x + 1) (fun v hv => h v (List.mem_cons_of_mem _ hv))
    have hw := h w List.mem_cons_self
    have hz : zF w x = x + 1 + (w.f1.length : Int) := rfl
    rw [endF, List.length_cons]
    omega
theorem rdF_mid (pre : List Fi) (a : Fi) (rest : List Fi) : rd_T53 (pre ++ a :: rest) (pre.length : Int) = a := getD_mid _ _ _ _ rfl
theorem wrapP (pre : List Fi) (a : Fi) (h : pre.length ≤ 1000000000) : wrap64 ((pre.length : Int) + 1) = ((pre ++ [a]).length : Int) := by rw [w64 (by omega) (by omega), List.length_append, List.length_singleton]; omega
theorem markFileS_l0 : ∀ (rest pre : List Fi) (k : Nat) (x : Int), 0 ≤ x → x + 4194304 * (rest.length : Int) < 1000000000000000000 → pre.length + rest.length ≤ 1000000000 → RowsF rest → rest.length + 1048600 < k →
    laws_markFileS.l0 k (pre ++ rest) x (pre.length : Int) = some (endF rest x, pre ++ markFs rest x)
  | [], pre, k, x, h0, h1, h2, h3, hk => by
    obtain ⟨k, rfl⟩ : ∃ q, k = q + 1 := ⟨k - 1, by omega⟩
    rw [laws_markFileS.l0, if_neg (by rw [List.append_nil]; omega), List.append_nil, markFs, List.append_nil]
    rfl
  | a :: rest, pre, k, x, h0, h1, h2, h3, hk => by
    obtain ⟨k, rfl⟩ : ∃ q, k = q + 1 := ⟨k - 1, by omega⟩
    rw [List.length_cons] at h1 h2 hk
    have t1 := h3 a List.mem_cons_self
    have hz : zF a x = x + 1 + (a.f1.length : Int) := rfl
    have ih := markFileS_l0 rest (pre ++ [markF a x]) k (zF a x + 1) (by omega) (by omega) (by rw [List.length_append, List.length_singleton]; omega) (fun v hv => h3 v (List.mem_cons_of_mem _ hv)) (by omega)
    rw [List.append_assoc, List.singleton_append] at ih
    rw [laws_markFileS.l0, if_pos (by rw [List.length_append, List.length_cons]; omega), if_pos (by omega), markText_ok h0 (by omega) (by omega), Option.bind_some, rdF_mid, w64 (x := x + 1) (by omega) (by omega), markByteS_ok _ (by omega) (by omega) (by omega) (by omega), Option.bind_some]
    dsimp only
    rw [show x + 1 + (a.f1.length : Int) = zF a x from rfl, w64 (x := zF a x + 1) (by omega) (by omega), Int.toNat_natCast, set_mid _ _ _ _ rfl, wrapP pre (markF a x) (by omega), endF, markFs]
    refine Eq.trans ?_ (ih.trans ?_)
    · rfl
    · rw [List.append_assoc, List.singleton_append]
theorem markFileS_ok (l : List Fi) {k : Nat} {x : Int} (h0 : 0 ≤ x) (h1 : x ≤ 10000000000000) (h2 : l.length ≤ 1048576) (h3 : RowsF l) (hk : 2097180 < k) : laws_markFileS.f k l x = some (endF l x, markFs l x) := markFileS_l0 l [] k x h0 (by omega) (by simpa using (by omega : l.length ≤ 1000000000)) h3 (by omega)
theorem heldFileS_l0 : ∀ (rest pre : List Fi) (k : Nat) (x : Int), 0 ≤ x → x + 4194304 * (rest.length : Int) < 1000000000000000000 → pre.length + rest.length ≤ 1000000000 → RowsF rest → rest.length + 1048600 < k →
    laws_heldFileS.l0 k (pre ++ markFs rest x) x (pre.length : Int) = some (endF rest x)
  | [], pre, k, x, h0, h1, h2, h3, hk => by
    obtain ⟨k, rfl⟩ : ∃ q, k = q + 1 := ⟨k - 1, by omega⟩
    rw [laws_heldFileS.l0, markFs, List.append_nil, if_neg (by omega)]
    rfl
  | a :: rest, pre, k, x, h0, h1, h2, h3, hk => by
    obtain ⟨k, rfl⟩ : ∃ q, k = q + 1 := ⟨k - 1, by omega⟩
    rw [List.length_cons] at h1 h2 hk
    have t1 := h3 a List.mem_cons_self
    have hz : zF a x = x + 1 + (a.f1.length : Int) := rfl
    have ih := heldFileS_l0 rest (pre ++ [markF a x]) k (zF a x + 1) (by omega) (by omega) (by rw [List.length_append, List.length_singleton]; omega) (fun v hv => h3 v (List.mem_cons_of_mem _ hv)) (by omega)
    rw [List.append_assoc, List.singleton_append] at ih
    rw [laws_heldFileS.l0, markFs, if_pos (by rw [List.length_append, List.length_cons]; omega), if_pos (by omega), markText_ok h0 (by omega) (by omega), Option.bind_some, rdF_mid, if_pos (show (markF a x).f0.toList = (markT x).toList from rfl), w64 (x := x + 1) (by omega) (by omega),
      show (markF a x).f1 = markBs a.f1 (x + 1) from rfl, heldByteS_ok _ (by omega) (by omega) (by omega) (by omega), Option.bind_some, show x + 1 + (a.f1.length : Int) = zF a x from rfl, if_neg (by omega), if_pos (show (markF a x).f2 = zF a x from rfl), w64 (x := zF a x + 1) (by omega) (by omega), wrapP pre (markF a x) (by omega), ih, endF]
theorem heldFiles_ok (q : Int) (l : List Fi) {k : Nat} {x : Int} (h0 : 0 ≤ x) (h1 : x ≤ 10000000000000) (h2 : l.length ≤ 1048576) (h3 : RowsF l) (hk : 2097180 < k) : laws_heldFiles.f k q (markFs l x) x = some (endF l x) := by
  unfold laws_heldFiles.f laws_heldFileS.f
  have h := heldFileS_l0 l [] k x h0 (by omega) (by simpa using (by omega : l.length ≤ 1000000000)) h3 (by omega)
  rw [List.nil_append, show ((([] : List Fi).length : Nat) : Int) = 0 from rfl] at h
  rw [h, Option.bind_some, if_neg (by have := endF_le l x h3; omega)]
end Go.Proofs.YtmlclmbplbbbhaaDoor.Lem

/- The order of texts: words with ends that are less than every letter are in the order of their letters. -/
namespace Go.Proofs.YtmlclmbplbbbhaaDoor.Lem
open Go

theorem less_irrefl : ∀ x : List UInt8, Op.bytesLess x x = false
  | [] => rfl
  | a :: x => by
    rw [Op.bytesLess, less_irrefl x, Bool.and_false, Bool.or_false]
    exact decide_eq_false (by rw [UInt8.lt_iff_toNat_lt]; omega)

theorem less_cons (a b : UInt8) (x y : List UInt8) : Op.bytesLess (a :: x) (b :: y) = if a = b then Op.bytesLess x y else decide (a < b) := by
  rw [Op.bytesLess]
  by_cases h : a = b
  · subst h
    rw [if_pos rfl, beq_self_eq_true, Bool.true_and, decide_eq_false (by rw [UInt8.lt_iff_toNat_lt]; omega), Bool.false_or]
  · rw [if_neg h, beq_eq_false_iff_ne.2 h, Bool.false_and, Bool.or_false]

/-- The order of two texts as a number. -/
def ord (x y : List UInt8) : Int := if Op.bytesLess x y = true then -1 else if Op.bytesLess y x = true then 1 else 0
theorem ord_self (x : List UInt8) : ord x x = 0 := by
  unfold ord
  rw [less_irrefl, if_neg (by decide), if_neg (by decide)]
theorem ord_cons (a b : UInt8) (x y : List UInt8) : ord (a :: x) (b :: y) = if a = b then ord x y else if a < b then -1 else 1 := by
  unfold ord
  rw [less_cons, less_cons]
  by_cases h : a = b
  · subst h
    rw [if_pos rfl, if_pos rfl, if_pos rfl]
  · rw [if_neg h, if_neg (Ne.symm h), if_neg h]
    have hn : a.toNat ≠ b.toNat := fun e => h (UInt8.toNat_inj.1 e)
    by_cases hl : a < b
    · rw [if_pos (decide_eq_true hl), if_pos hl]
    · rw [if_neg (by simpa using hl), if_neg hl]
      rw [UInt8.lt_iff_toNat_lt] at hl
      rw [if_pos (decide_eq_true (by rw [UInt8.lt_iff_toNat_lt]; omega))]
theorem ord_nil_cons (b : UInt8) (y : List UInt8) : ord [] (b :: y) = -1 := rfl
theorem ord_cons_nil (b : UInt8) (y : List UInt8) : ord (b :: y) [] = 1 := rfl

/-- Words whose ends are less than each letter. -/
theorem ord_ends : ∀ (a b : List UInt8) (c d : UInt8) (x y : List UInt8), (∀ h ∈ a, d < h) → (∀ h ∈ b, c < h) →
    ord (a ++ c :: x) (b ++ d :: y) = if a = b then ord (c :: x) (d :: y) else ord a b
  | [], [], c, d, x, y, _, _ => by rw [if_pos rfl]; rfl
  | [], g :: b, c, d, x, y, _, hb => by
    have h1 : c < g := hb g (List.mem_cons_self ..)
    have hne : c ≠ g := fun e => by subst e; rw [UInt8.lt_iff_toNat_lt] at h1; omega
    rw [if_neg (by simp), ord_nil_cons, List.nil_append, List.cons_append, ord_cons, if_neg hne, if_pos h1]
  | h :: a, [], c, d, x, y, ha, _ => by
    have h1 : d < h := ha h (List.mem_cons_self ..)
    have h2 : ¬ h < d := by rw [UInt8.lt_iff_toNat_lt] at h1 ⊢; omega
    have hne : h ≠ d := fun e => by subst e; exact h2 h1
    rw [if_neg (by simp), ord_cons_nil, List.nil_append, List.cons_append, ord_cons, if_neg hne, if_neg h2]
  | h :: a, g :: b, c, d, x, y, ha, hb => by
    have ih := ord_ends a b c d x y (fun q hq => ha q (List.mem_cons_of_mem _ hq)) (fun q hq => hb q (List.mem_cons_of_mem _ hq))
    rw [List.cons_append, List.cons_append, ord_cons h g (a ++ c :: x) (b ++ d :: y), ord_cons h g a b, ih]
    by_cases e : h = g
    · subst e
      rw [if_pos rfl, if_pos rfl]
      by_cases e2 : a = b
      · rw [if_pos e2, if_pos (by rw [e2])]
      · rw [if_neg e2, if_neg (by simpa using e2)]
    · rw [if_neg e, if_neg e, if_neg (show ¬ (h :: a = g :: b) from fun q => e (by injection q))]

theorem ord_eq_zero : ∀ {a b : List UInt8}, ord a b = 0 → a = b
  | [], [], _ => rfl
  | [], g :: b, h => by rw [ord_nil_cons] at h; exact absurd h (by decide)
  | x :: a, [], h => by rw [ord_cons_nil] at h; exact absurd h (by decide)
  | x :: a, g :: b, h => by
    rw [ord_cons] at h
    by_cases e : x = g
    · subst e
      rw [if_pos rfl] at h
      rw [ord_eq_zero h]
    · rw [if_neg e] at h
      split at h <;> exact absurd h (by decide)
end Go.Proofs.YtmlclmbplbbbhaaDoor.Lem

section
/- Good files: what both programs say of names and of files; the place of a name. -/
namespace Go.Proofs.YtmlclmbplbbbhaaDoor.Lem
open Go Go.RowKit Go.Proofs.YtmlclmbplbbbhaaDoor.P Go.Proofs.YtmlclmbplbbbhaaDoorW.PrintWords Go.Proofs.YtmlclmbplbbbhaaDoorW.PrintLast Go.Proofs.YtmlclmbplbbbhaaDoorW.PrintMore

/-! ### the order of texts -/
theorem lessT : ∀ {x y z : List UInt8}, Op.bytesLess x y = true → Op.bytesLess y z = true → Op.bytesLess x z = true
  | [], [], _, h, _ => by exact absurd h (by unfold Op.bytesLess; decide)
  | [], _ :: _, [], _, h => by exact absurd h (by unfold Op.bytesLess; decide)
  | [], _ :: _, _ :: _, _, _ => rfl
  | _ :: _, [], _, h, _ => by exact absurd h (by unfold Op.bytesLess; decide)
  | _ :: _, _ :: _, [], _, h => by exact absurd h (by unfold Op.bytesLess; decide)
  | a :: x, b :: y, c :: z, h1, h2 => by
    rw [less_cons] at h1 h2 ⊢
    by_cases e1 : a = b
    · subst e1
      rw [if_pos rfl] at h1
      by_cases e2 : a = c
      · rw [if_pos e2] at h2 ⊢; exact lessT h1 h2
      · rw [if_neg e2] at h2 ⊢; exact h2
    · rw [if_neg e1] at h1
      have l1 := of_decide_eq_true h1
      by_cases e2 : b = c
      · subst e2; rw [if_neg e1]; exact h1
      · rw [if_neg e2] at h2
        have l2 := of_decide_eq_true h2
        rw [UInt8.lt_iff_toNat_lt] at l1 l2
        rw [if_neg (fun q => by subst q; omega)]
        exact decide_eq_true (by rw [UInt8.lt_iff_toNat_lt]; omega)
theorem lessTot : ∀ {x y : List UInt8}, Op.bytesLess x y = false → x ≠ y → Op.bytesLess y x = true
  | [], [], _, h => absurd rfl h
  | [], _ :: _, h, _ => by exact absurd h (by unfold Op.bytesLess; decide)
  | _ :: _, [], _, _ => rfl
  | a :: x, b :: y, h, hn => by
    rw [less_cons] at h ⊢
    by_cases e : a = b
    · subst e
      rw [if_pos rfl] at h ⊢
      exact lessTot h (fun q => hn (by rw [q]))
    · rw [if_neg e] at h
      have h1 := of_decide_eq_false h
      rw [if_neg (Ne.symm e)]
      have hne : a.toNat ≠ b.toNat := fun q => e (UInt8.toNat_inj.1 q)
      rw [UInt8.lt_iff_toNat_lt] at h1
      exact decide_eq_true (by rw [UInt8.lt_iff_toNat_lt]; omega)
theorem cmpB_eq : ∀ (x y : List UInt8), Go.Lib.compareBytes x y = if Op.bytesLess x y = true then -1 else if x = y then 0 else 1
  | [], [] => rfl
  | [], _ :: _ => rfl
  | _ :: _, [] => rfl
  | a :: x, b :: y => by
    rw [Go.Lib.compareBytes, less_cons, cmpB_eq x y]
    by_cases e : a = b
    · subst e
      have hn : ¬ a < a := by rw [UInt8.lt_iff_toNat_lt]; omega
      rw [if_neg hn, if_neg hn, if_pos rfl]
      simp
    · have hne : a.toNat ≠ b.toNat := fun q => e (UInt8.toNat_inj.1 q)
      rw [if_neg e]
      by_cases h : a < b
      · rw [if_pos h, if_pos (decide_eq_true h)]
      · have h' := h
        rw [UInt8.lt_iff_toNat_lt] at h'
        rw [if_neg h, if_pos (by rw [UInt8.lt_iff_toNat_lt]; omega), if_neg (by simp [h]), if_neg (fun q => e (by injection q))]
/-! ### names -/
theorem dropWhile_head {α : Type} (p : α → Bool) : ∀ (l : List α) (x : α) (r : List α), l.dropWhile p = x :: r → p x = false
  | [], x, r, h => by simp at h
  | a :: l, x, r, h => by
    rw [List.dropWhile_cons] at h
    cases e : p a with
    | true => rw [e, if_pos rfl] at h; exact dropWhile_head p l x r h
    | false =>
      rw [e, if_neg (by decide)] at h
      injection h with h _
      rw [← h]; exact e
theorem dropWhile_all {α : Type} (p : α → Bool) : ∀ l : List α, l.all p = true → l.dropWhile p = []
  | [], _ => rfl
  | a :: l, h => by
    rw [List.all_cons, Bool.and_eq_true] at h
    rw [List.dropWhile_cons, h.1, if_pos rfl]
    exact dropWhile_all p l h.2
theorem dropWhile_nil {α : Type} (p : α → Bool) : ∀ l : List α, l.dropWhile p = [] → l.all p = true
  | [], _ => rfl
  | a :: l, h => by
    rw [List.dropWhile_cons] at h
    cases e : p a with
    | true => rw [e, if_pos rfl] at h; rw [List.all_cons, e, dropWhile_nil p l h]; rfl
    | false => rw [e, if_neg (by decide)] at h; exact absurd h (by simp)
theorem trim_nil (l cs : List UInt8) : (Go.Lib.trimS l cs == []) = l.all (cs.contains ·) := by
  unfold Go.Lib.trimS Go.Lib.trimLeftS Go.Lib.trimRightS
  cases e : l.all (cs.contains ·) with
  | true =>
    have h1 : l.reverse.all (cs.contains ·) = true := by rw [List.all_reverse]; exact e
    rw [dropWhile_all _ _ h1, List.reverse_nil, List.dropWhile_nil]
    rfl
  | false =>
    rw [beq_eq_false_iff_ne]
    intro h
    have h1 := dropWhile_nil _ _ h
    rw [List.all_reverse] at h1
    cases e2 : l.reverse.dropWhile (cs.contains ·) with
    | nil =>
      have h3 := dropWhile_nil _ _ e2
      rw [List.all_reverse, e] at h3
      exact absurd h3 (by decide)
    | cons x r =>
      have h3 := dropWhile_head _ _ x r e2
      rw [e2, List.all_cons, h3, Bool.false_and] at h1
      exact absurd h1 (by decide)
/-- A byte of a file's name. -/
def letterF (b : UInt8) : Bool := (decide (97 ≤ b.toNat) && decide (b.toNat ≤ 122)) || ((decide (48 ≤ b.toNat) && decide (b.toNat ≤ 57)) || decide (b.toNat = 45))
def alphabetF : List UInt8 := [97, 98, 99, 100, 101, 102, 103, 104, 105, 106, 107, 108, 109, 110, 111, 112, 113, 114, 115, 116, 117, 118, 119, 120, 121, 122, 48, 49, 50, 51, 52, 53, 54, 55, 56, 57, 45]
theorem alphabetF_all : ∀ n, n < 256 → (alphabetF.contains (UInt8.ofNat n) == letterF (UInt8.ofNat n)) = true := of_decide_eq_true (by kernel_rfl)
theorem alphabetF_letter (b : UInt8) : alphabetF.contains b = letterF b := by
  have h := alphabetF_all b.toNat b.toNat_lt
  rw [UInt8.ofNat_toNat] at h
  exact eq_of_beq h
def nameF (s : ByteArray) : Bool := decide (1 ≤ s.size) && decide (s.size ≤ 20) && s.data.toList.all letterF
theorem withinB_ok (n a b : Int) : impl_within.f n a b = some (decide (a ≤ n) && decide (n ≤ b)) := by
  unfold impl_within.f
  by_cases h : n ≥ a
  · rw [if_pos h, decide_eq_true h, Bool.true_and]
  · rw [if_neg h, decide_eq_false h, Bool.false_and]
theorem l1InB_ok (n a b : Int) : spec_l1In.f n a b = some (decide (a ≤ n) && decide (n ≤ b)) := by
  unfold spec_l1In.f
  by_cases h : n ≥ a
  · rw [if_pos h, decide_eq_true h, Bool.true_and]
  · rw [if_neg h, decide_eq_false h, Bool.false_and]
theorem size_b (s : ByteArray) : (decide ((1 : Int) ≤ (s.size : Int)) && decide ((s.size : Int) ≤ 20)) = (decide (1 ≤ s.size) && decide (s.size ≤ 20)) := by
  have e1 : ((1 : Int) ≤ (s.size : Int)) ↔ 1 ≤ s.size := by omega
  have e2 : ((s.size : Int) ≤ 20) ↔ s.size ≤ 20 := by omega
  rw [decide_eq_decide.2 e1, decide_eq_decide.2 e2]
theorem isFileName_ok (s : ByteArray) : impl_isFileName.f s = some (nameF s) := by
  unfold impl_isFileName.f nameF
  rw [withinB_ok, Option.bind_some, size_b]
  cases e : (decide (1 ≤ s.size) && decide (s.size ≤ 20)) with
  | false => rw [if_neg (by decide), Bool.false_and]
  | true =>
    rw [Bool.and_eq_true] at e
    have h1 := of_decide_eq_true e.2
    rw [if_pos rfl, Bool.true_and]
    unfold strings_Trim.f
    rw [if_pos ⟨by omega, of_decide_eq_true (by kernel_rfl), by kernel_rfl⟩, Option.bind_some, Go.Lib.toList_data]
    have e3 : s.data.toList.all (alphabetF.contains ·) = s.data.toList.all letterF := by
      congr 1
      funext b
      exact alphabetF_letter b
    rw [← e3, ← trim_nil]
    rfl
theorem bt_get {s : ByteArray} {i : Nat} (h : i < s.size) : bt s (i : Int) = ((s.data.toList[i]'(by rw [← Go.Lib.size_eq]; exact h)).toNat : Int) := by
  rw [← bt_at s (i : Int) (by rw [Int.toNat_natCast]; exact h)]
  simp only [Int.toNat_natCast]
  rfl
theorem l2Name_l0 (s : ByteArray) (hs : s.size ≤ 20) : ∀ (d i k : Nat), i + d = s.size → d < k → spec_l2Name.l0 k s (i : Int) = some ((s.data.toList.drop i).all letterF) := by
  intro d
  induction d with
  | zero =>
    intro i k hi hk
    obtain ⟨k, rfl⟩ : ∃ m, k = m + 1 := ⟨k - 1, by omega⟩
    rw [spec_l2Name.l0, if_neg (by omega), List.drop_of_length_le (by rw [← Go.Lib.size_eq]; omega)]
    rfl
  | succ d ih =>
    intro i k hi hk
    obtain ⟨k, rfl⟩ : ∃ m, k = m + 1 := ⟨k - 1, by omega⟩
    have hn := ih (i + 1) k (by omega) (by omega)
    have hlt : i < s.data.toList.length := by rw [← Go.Lib.size_eq]; omega
    rw [spec_l2Name.l0, if_pos (by omega), if_pos (by omega), bt_get (by omega), wrapS (n := s.size) (by omega) (by omega), hn, drop_get hlt, List.all_cons]
    generalize s.data.toList[i] = b
    generalize (List.drop (i + 1) s.data.toList).all letterF = v
    have h45 : ((b.toNat : Int) = 45) ↔ b.toNat = 45 := by omega
    unfold letterF
    by_cases h1 : 97 ≤ b.toNat
    · rw [if_pos (by omega), decide_eq_true h1, Bool.true_and]
      by_cases h2 : b.toNat ≤ 122
      · rw [if_pos (by omega), decide_eq_true h2, Bool.true_or, Bool.true_and]
      · rw [if_neg (by omega), if_pos (by omega), if_neg (by omega), if_neg (by omega), decide_eq_false h2, decide_eq_false (show ¬ b.toNat ≤ 57 by omega), decide_eq_false (show ¬ b.toNat = 45 by omega), Bool.and_false, Bool.false_or, Bool.false_or, Bool.false_and]
    · rw [if_neg (by omega), decide_eq_false h1, Bool.false_and, Bool.false_or]
      by_cases h2 : 48 ≤ b.toNat
      · rw [if_pos (by omega), decide_eq_true h2, Bool.true_and]
        by_cases h3 : b.toNat ≤ 57
        · rw [if_pos (by omega), decide_eq_true h3, Bool.true_or, Bool.true_and]
        · rw [if_neg (by omega), if_neg (by omega), decide_eq_false h3, decide_eq_false (show ¬ b.toNat = 45 by omega), Bool.false_or, Bool.false_and]
      · rw [if_neg (by omega), decide_eq_false h2, Bool.false_and, Bool.false_or]
        by_cases h3 : b.toNat = 45
        · rw [if_pos (by omega), decide_eq_true h3, Bool.true_and]
        · rw [if_neg (by omega), decide_eq_false h3, Bool.false_and]
theorem l2Name_ok (s : ByteArray) {k : Nat} (hk : 20 < k) : spec_l2Name.f k s = some (nameF s) := by
  unfold spec_l2Name.f nameF
  rw [l1InB_ok, Option.bind_some, size_b]
  cases e : (decide (1 ≤ s.size) && decide (s.size ≤ 20)) with
  | false => rw [if_neg (by decide), Bool.false_and]
  | true =>
    rw [Bool.and_eq_true] at e
    have h1 := of_decide_eq_true e.2
    rw [if_pos rfl, Bool.true_and]
    have h := l2Name_l0 s h1 s.size 0 k (by omega) (by omega)
    rw [List.drop_zero] at h
    exact h
/-! ### files -/
def aftF : Option ByteArray → ByteArray → Bool
  | none, _ => true
  | some q, x => Op.bytesLess q.toList x.toList
/-- Files in their order: behind a name, or at the beginning. -/
def goodFs : Option ByteArray → List Fi → Bool
  | _, [] => true
  | p, f :: l => nameF f.f0 && ((decide ((0 : Int) ≤ f.f2) && decide (f.f2 ≤ (f.f1.length : Int))) && (aftF p f.f0 && goodFs (some f.f0) l))
def usedF : List Fi → Nat
  | [] => 0
  | f :: l => f.f1.length + usedF l
theorem usedF_le : ∀ (l : List Fi), RowsF l → usedF l ≤ 1048576 * l.length
  | [], _ => Nat.le_refl _
  | f :: l, h => by
    have h1 := h f List.mem_cons_self
    have h2 := usedF_le l (fun x hx => h x (List.mem_cons_of_mem _ hx))
    rw [usedF, List.length_cons]
    omega
def prevF (l : List Fi) (i : Nat) : Option ByteArray := if i = 0 then none else some (rd_T53 l ((i - 1 : Nat) : Int)).f0
def goodQ (q : Int) (l : List Fi) : Bool := (decide (0 ≤ q) && decide (q ≤ 60000)) && (decide (l.length ≤ 40) && (decide ((usedF l : Int) ≤ q) && goodFs none l))
section
set_option linter.unusedSectionVars false
variable {l : List Fi} (hl : l.length ≤ 1048576) (hh : RowsF l)
include hl hh
theorem used_l0 (g : Nat → Int → List Fi → Int → Int → Option Int) (hg : ∀ k x y z i, g (k + 1) x y z i = if i < z then (if 0 ≤ i then (if i < (y.length : Int) then (g k (wrap64 (x + ((rd_T53 y i).f1.length : Int))) y z (wrap64 (i + 1))) else none) else none) else some x) :
    ∀ (d i k a : Nat), i + d = l.length → d < k → a ≤ 1048576 * i → g k (a : Int) l (l.length : Int) (i : Int) = some (((a + usedF (l.drop i) : Nat)) : Int) := by
  intro d
  induction d with
  | zero =>
    intro i k a hi hk _
    obtain ⟨k, rfl⟩ : ∃ m, k = m + 1 := ⟨k - 1, by omega⟩
    rw [hg, if_neg (by omega), List.drop_of_length_le (by omega), usedF, Nat.add_zero]
  | succ d ih =>
    intro i k a hi hk ha
    obtain ⟨k, rfl⟩ : ∃ m, k = m + 1 := ⟨k - 1, by omega⟩
    have hlt : i < l.length := by omega
    have h1 := hh l[i] (List.getElem_mem hlt)
    rw [hg, if_pos (by omega), if_pos (by omega), if_pos (by omega), rdF_get hlt, wrapS hlt (by omega), w64 (by omega) (by omega), show (a : Int) + (l[i].f1.length : Int) = ((a + l[i].f1.length : Nat) : Int) by omega, ih (i + 1) k _ (by omega) (by omega) (by omega), drop_get hlt, usedF, Nat.add_assoc]
theorem implUsed_ok (q : Int) {k : Nat} (hk : 1048577 < k) : impl_Files_used.f k q l = some ((usedF l : Nat) : Int) := by
  have h := used_l0 hl hh impl_Files_used.l0 (fun k x y z i => by rw [impl_Files_used.l0]) l.length 0 k 0 (by omega) (by omega) (by omega)
  rw [List.drop_zero, Nat.zero_add] at h
  exact h
theorem specUsed_ok (q : Int) {k : Nat} (hk : 1048577 < k) : spec_l2Used.f k q l = some ((usedF l : Nat) : Int) := by
  have h := used_l0 hl hh spec_l2Used.l0 (fun k x y z i => by rw [spec_l2Used.l0]) l.length 0 k 0 (by omega) (by omega) (by omega)
  rw [List.drop_zero, Nat.zero_add] at h
  exact h
theorem implGood_l0 (q : Int) : ∀ (d i k : Nat), i + d = l.length → d < k → impl_GoodFiles.l0 k l (l.length : Int) (i : Int) q l = some (goodFs (prevF l i) (l.drop i)) := by
  intro d
  induction d with
  | zero =>
    intro i k hi hk
    obtain ⟨k, rfl⟩ : ∃ m, k = m + 1 := ⟨k - 1, by omega⟩
    rw [impl_GoodFiles.l0, if_neg (by omega), List.drop_of_length_le (by omega), goodFs]
  | succ d ih =>
    intro i k hi hk
    obtain ⟨k, rfl⟩ : ∃ m, k = m + 1 := ⟨k - 1, by omega⟩
    have hlt : i < l.length := by omega
    have hn := ih (i + 1) k (by omega) (by omega)
    have hp : prevF l (i + 1) = some l[i].f0 := by unfold prevF; rw [if_neg (by omega), Nat.add_sub_cancel, rdF_get hlt]
    rw [hp] at hn
    rw [impl_GoodFiles.l0, if_pos (by omega), if_pos (by omega), if_pos (by omega), rdF_get hlt, isFileName_ok, Option.bind_some, wrapS hlt (by omega), hn, drop_get hlt, goodFs, withinB_ok]
    cases e1 : nameF l[i].f0 with
    | false => rw [if_neg (by decide), Bool.false_and]
    | true =>
      rw [if_pos rfl, Option.bind_some, Bool.true_and]
      cases e2 : (decide ((0 : Int) ≤ l[i].f2) && decide (l[i].f2 ≤ (l[i].f1.length : Int))) with
      | false => rw [if_neg (by decide), Bool.false_and]
      | true =>
        rw [if_pos rfl, Bool.true_and]
        by_cases h0 : i = 0
        · rw [if_neg (by omega)]
          unfold prevF
          rw [if_pos h0, aftF, Bool.true_and]
        · have e3 : wrap64 ((i : Int) - 1) = ((i - 1 : Nat) : Int) := by rw [w64 (by omega) (by omega)]; omega
          rw [if_pos (by omega), e3, if_pos (by omega), if_pos (by omega)]
          unfold prevF
          rw [if_neg h0, aftF]
          cases Op.bytesLess (rd_T53 l ((i - 1 : Nat) : Int)).f0.toList l[i].f0.toList with
          | true => rw [if_pos rfl, Bool.true_and]
          | false => rw [if_neg (by decide), Bool.false_and]
theorem specGood_l0 (q : Int) : ∀ (d i k : Nat), i + d = l.length → d + 1048580 < k → spec_GoodFiles.l0 k l (l.length : Int) (i : Int) q l = some (goodFs (prevF l i) (l.drop i) && decide ((usedF l : Int) ≤ q)) := by
  intro d
  induction d with
  | zero =>
    intro i k hi hk
    obtain ⟨k, rfl⟩ : ∃ m, k = m + 1 := ⟨k - 1, by omega⟩
    rw [spec_GoodFiles.l0, if_neg (by omega), List.drop_of_length_le (by omega), goodFs, specUsed_ok hl hh q (by omega), Option.bind_some, Bool.true_and]
  | succ d ih =>
    intro i k hi hk
    obtain ⟨k, rfl⟩ : ∃ m, k = m + 1 := ⟨k - 1, by omega⟩
    have hlt : i < l.length := by omega
    have hn := ih (i + 1) k (by omega) (by omega)
    have hp : prevF l (i + 1) = some l[i].f0 := by unfold prevF; rw [if_neg (by omega), Nat.add_sub_cancel, rdF_get hlt]
    rw [hp] at hn
    rw [spec_GoodFiles.l0, if_pos (by omega), if_pos (by omega), if_pos (by omega), rdF_get hlt, l2Name_ok _ (by omega), Option.bind_some, wrapS hlt (by omega), hn, drop_get hlt, goodFs, l1InB_ok]
    cases e1 : nameF l[i].f0 with
    | false => rw [if_neg (by decide), Bool.false_and, Bool.false_and]
    | true =>
      rw [if_pos rfl, Option.bind_some, Bool.true_and]
      by_cases h0 : i = 0
      · rw [if_neg (by omega)]
        unfold prevF
        rw [if_pos h0, aftF, Bool.true_and]
        cases (decide ((0 : Int) ≤ l[i].f2) && decide (l[i].f2 ≤ (l[i].f1.length : Int))) with
        | false => rw [if_neg (by decide), Bool.false_and, Bool.false_and]
        | true => rw [if_pos rfl, Bool.true_and]
      · have e3 : wrap64 ((i : Int) - 1) = ((i - 1 : Nat) : Int) := by rw [w64 (by omega) (by omega)]; omega
        rw [if_pos (by omega), e3, if_pos (by omega), if_pos (by omega)]
        unfold prevF
        rw [if_neg h0, aftF]
        cases Op.bytesLess (rd_T53 l ((i - 1 : Nat) : Int)).f0.toList l[i].f0.toList with
        | false => rw [if_neg (by decide), Bool.false_and, Bool.and_false, Bool.false_and]
        | true =>
          rw [if_pos rfl, Bool.true_and]
          cases (decide ((0 : Int) ≤ l[i].f2) && decide (l[i].f2 ≤ (l[i].f1.length : Int))) with
          | false => rw [if_neg (by decide), Bool.false_and, Bool.false_and]
          | true => rw [if_pos rfl, Bool.true_and]
theorem implGood_ok (q : Int) {k : Nat} (hk : 2097200 < k) : impl_GoodFiles.f k q l = some (goodQ q l) := by
  obtain ⟨k, rfl⟩ : ∃ m, k = m + 1 := ⟨k - 1, by omega⟩
  unfold impl_GoodFiles.f goodQ
  rw [withinB_ok, Option.bind_some]
  cases (decide ((0 : Int) ≤ q) && decide (q ≤ 60000)) with
  | false => rw [if_neg (by decide), impl_GoodFiles.j0, if_pos rfl, Bool.false_and]
  | true =>
    rw [if_pos rfl, Bool.true_and]
    by_cases h : l.length ≤ 40
    · rw [if_neg (by omega), implUsed_ok hl hh q (by omega), Option.bind_some, impl_GoodFiles.j0, decide_eq_true h, Bool.true_and]
      by_cases h2 : (usedF l : Int) ≤ q
      · have h3 := implGood_l0 hl hh q l.length 0 k (by omega) (by omega)
        rw [List.drop_zero] at h3
        rw [if_neg (by simpa using h2), decide_eq_true h2, Bool.true_and]
        exact h3
      · rw [if_pos (by simpa using h2), decide_eq_false h2, Bool.false_and]
    · rw [if_pos (by omega), impl_GoodFiles.j0, if_pos rfl, decide_eq_false h, Bool.false_and]
theorem specGood_ok (q : Int) {k : Nat} (hk : 2097200 < k) : spec_GoodFiles.f k q l = some (goodQ q l) := by
  obtain ⟨k, rfl⟩ : ∃ m, k = m + 1 := ⟨k - 1, by omega⟩
  unfold spec_GoodFiles.f goodQ
  rw [l1InB_ok, Option.bind_some]
  cases (decide ((0 : Int) ≤ q) && decide (q ≤ 60000)) with
  | false => rw [if_neg (by decide), spec_GoodFiles.j0, if_pos rfl, Bool.false_and]
  | true =>
    rw [if_pos rfl, Bool.true_and, spec_GoodFiles.j0]
    by_cases h : l.length ≤ 40
    · have h3 := specGood_l0 hl hh q l.length 0 k (by omega) (by omega)
      rw [List.drop_zero] at h3
      rw [if_neg (fun q => by have := of_decide_eq_true q; omega), decide_eq_true h, Bool.true_and, Bool.and_comm]
      exact h3
    · rw [if_pos (decide_eq_true (by omega)), decide_eq_false h, Bool.false_and]
/-! ### copies of their own -/
theorem own_l0 (q : Int) : ∀ (d i k : Nat) (acc : List Fi), i + d = l.length → d < k → acc.length ≤ i → spec_l2Own.l0 k acc l (l.length : Int) (i : Int) q l = some (q, acc ++ l.drop i) := by
  intro d
  induction d with
  | zero =>
    intro i k acc hi hk _
    obtain ⟨k, rfl⟩ : ∃ m, k = m + 1 := ⟨k - 1, by omega⟩
    rw [spec_l2Own.l0, if_neg (by omega), List.drop_of_length_le (by omega), List.append_nil]
  | succ d ih =>
    intro i k acc hi hk ha
    obtain ⟨k, rfl⟩ : ∃ m, k = m + 1 := ⟨k - 1, by omega⟩
    have hlt : i < l.length := by omega
    have h1 := hh l[i] (List.getElem_mem hlt)
    rw [spec_l2Own.l0, if_pos (by omega), if_pos (by omega), if_pos (by omega), rdF_get hlt, Option.bind_some, if_pos (by rw [List.length_nil]; omega), if_pos (by omega), wrapS hlt (by omega), ih (i + 1) k _ (by omega) (by omega) (by rw [List.length_append, List.length_singleton]; omega), drop_get hlt, List.append_assoc, List.nil_append]
    rfl
theorem own_ok (q : Int) {k : Nat} (hk : 1048577 < k) : spec_l2Own.f k q l = some (q, l) := own_l0 hl hh q l.length 0 k [] (by omega) (by omega) (Nat.le_refl _)
theorem cloned_l0 (q : Int) : ∀ (d i k : Nat) (acc : List Fi), i + d = l.length → d < k → acc.length ≤ i → impl_Files_cloned.l0 k l (l.length : Int) (i : Int) q acc = some (q, acc ++ l.drop i) := by
  intro d
  induction d with
  | zero =>
    intro i k acc hi hk _
    obtain ⟨k, rfl⟩ : ∃ m, k = m + 1 := ⟨k - 1, by omega⟩
    rw [impl_Files_cloned.l0, if_neg (by omega), List.drop_of_length_le (by omega), List.append_nil]
  | succ d ih =>
    intro i k acc hi hk ha
    obtain ⟨k, rfl⟩ : ∃ m, k = m + 1 := ⟨k - 1, by omega⟩
    have hlt : i < l.length := by omega
    have h1 := hh l[i] (List.getElem_mem hlt)
    rw [impl_Files_cloned.l0, if_pos (by omega), if_pos (by omega), if_pos (by omega), rdF_get hlt]
    unfold slices_Clone_byte_byte.f
    rw [Option.bind_some, if_pos (by rw [List.length_nil]; omega), Option.bind_some, if_pos (by omega), wrapS hlt (by omega), ih (i + 1) k _ (by omega) (by omega) (by rw [List.length_append, List.length_singleton]; omega), drop_get hlt, List.append_assoc, List.nil_append]
    rfl
theorem cloned_ok (q : Int) {k : Nat} (hk : 1048577 < k) : impl_Files_cloned.f k q l = some (q, l) := cloned_l0 hl hh q l.length 0 k [] (by omega) (by omega) (Nat.le_refl _)
end
/-! ### the place of a name -/
abbrev fi (l : List Fi) (n : Nat) : Fi := rd_T53 l (n : Int)
theorem fi_cons (e : Fi) (r : List Fi) (n : Nat) : fi (e :: r) (n + 1) = fi r n := by
  unfold fi rd_T53
  rw [Int.toNat_natCast, Int.toNat_natCast, List.getD_cons_succ]
def posF (n : ByteArray) : List Fi → Nat
  | [] => 0
  | f :: r => if Op.bytesLess f.f0.toList n.toList = true then posF n r + 1 else 0
theorem posF_le (n : ByteArray) : ∀ l : List Fi, posF n l ≤ l.length
  | [] => Nat.le_refl _
  | a :: r => by rw [posF]; split; exact Nat.succ_le_succ (posF_le n r); exact Nat.zero_le _
theorem posF_lt (n : ByteArray) : ∀ (l : List Fi) (j : Nat), j < posF n l → Op.bytesLess (fi l j).f0.toList n.toList = true
  | [], j, h => absurd h (Nat.not_lt_zero j)
  | a :: r, j, h => by
    rw [posF] at h
    split at h
    · rename_i c
      cases j with
      | zero => exact c
      | succ j => rw [fi_cons]; exact posF_lt n r j (by omega)
    · exact absurd h (Nat.not_lt_zero j)
theorem goodFs_head {p : Option ByteArray} {f : Fi} {r : List Fi} (h : goodFs p (f :: r) = true) : aftF p f.f0 = true ∧ goodFs (some f.f0) r = true := by
  rw [goodFs, Bool.and_eq_true, Bool.and_eq_true, Bool.and_eq_true, Bool.and_eq_true] at h
  exact h.2.2
/-- Behind the name m, all names are greater. -/
theorem goodFs_all : ∀ (l : List Fi) (m : ByteArray), goodFs (some m) l = true → ∀ j, j < l.length → Op.bytesLess m.toList (fi l j).f0.toList = true
  | [], _, _, j, hj => absurd hj (Nat.not_lt_zero j)
  | a :: r, m, h, j, hj => by
    obtain ⟨h1, h2⟩ := goodFs_head h
    cases j with
    | zero => exact h1
    | succ j => rw [fi_cons]; exact lessT h1 (goodFs_all r a.f0 h2 j (by simpa using hj))
theorem posF_ge (n : ByteArray) : ∀ (l : List Fi) (p : Option ByteArray), goodFs p l = true → ∀ j, posF n l ≤ j → j < l.length → Op.bytesLess (fi l j).f0.toList n.toList = false
  | [], _, _, j, _, hj => absurd hj (Nat.not_lt_zero j)
  | a :: r, p, h, j, h1, hj => by
    obtain ⟨_, h2⟩ := goodFs_head h
    rw [posF] at h1
    split at h1
    · cases j with
      | zero => omega
      | succ j => rw [fi_cons]; exact posF_ge n r _ h2 j (by omega) (by simpa using hj)
    · rename_i c
      cases j with
      | zero => exact (by simpa using c : Op.bytesLess a.f0.toList n.toList = false)
      | succ j =>
        rw [fi_cons]
        cases q : Op.bytesLess (fi r j).f0.toList n.toList with
        | false => rfl
        | true => exact absurd (lessT (goodFs_all r a.f0 h2 j (by simpa using hj)) q) c
/-- The name stands there. -/
def hasF (n : ByteArray) (l : List Fi) : Bool := decide (posF n l < l.length) && decide ((fi l (posF n l)).f0.toList = n.toList)
theorem hasF_none {n : ByteArray} {l : List Fi} (hg : goodFs none l = true) (h : hasF n l = false) : ∀ j, j < l.length → (fi l j).f0.toList ≠ n.toList := by
  intro j hj he
  by_cases h1 : j < posF n l
  · have := posF_lt n l j h1
    rw [he, less_irrefl] at this
    exact absurd this (by decide)
  · have hp : posF n l < l.length := by omega
    rw [hasF, decide_eq_true hp, Bool.true_and] at h
    have hne := of_decide_eq_false h
    have h2 := posF_ge n l none hg (posF n l) (Nat.le_refl _) hp
    have h3 := lessTot h2 hne
    by_cases h4 : j = posF n l
    · rw [← h4] at hne; exact hne he
    · -- behind the place all are greater
      have h5 : ∀ (l : List Fi) (p : Option ByteArray), goodFs p l = true → ∀ i j, i < j → j < l.length → Op.bytesLess (fi l i).f0.toList (fi l j).f0.toList = true := by
        intro l
        induction l with
        | nil => intro p _ i j _ hj; exact absurd hj (Nat.not_lt_zero j)
        | cons a r ih =>
          intro p hp i j hij hj
          obtain ⟨_, q2⟩ := goodFs_head hp
          obtain ⟨j, rfl⟩ : ∃ m, j = m + 1 := ⟨j - 1, by omega⟩
          rw [fi_cons]
          cases i with
          | zero => exact goodFs_all r a.f0 q2 j (by simpa using hj)
          | succ i => rw [fi_cons]; exact ih _ q2 i j (by omega) (by simpa using hj)
      have h6 := h5 l none hg (posF n l) j (by omega) hj
      have h7 := lessT h3 h6
      rw [he, less_irrefl] at h7
      exact absurd h7 (by decide)
theorem find1_ok (f : Fi) (n : ByteArray) : impl_Files_find_1.f f.f0 f.f1 f.f2 n = some (if Op.bytesLess f.f0.toList n.toList = true then -1 else if f.f0.toList = n.toList then 0 else 1) := by
  unfold impl_Files_find_1.f strings_Compare.f
  rw [Option.bind_some, cmpB_eq, Go.Lib.toList_data, Go.Lib.toList_data]
section
set_option linter.unusedSectionVars false
variable {l : List Fi} {n : ByteArray} (hl : l.length ≤ 1048576) (hg : goodFs none l = true)
include hl hg
theorem find_l0 : ∀ (d i j k : Nat), j - i ≤ d → i ≤ posF n l → posF n l ≤ j → j ≤ l.length → d + 10 < k →
    impl_File_string_with_impl_Files_find_1.l0 k l n (l.length : Int) (i : Int) (j : Int) = some ((posF n l : Int), hasF n l) := by
  intro d
  induction d with
  | zero =>
    intro i j k hd h1 h2 h3 hk
    obtain ⟨k, rfl⟩ : ∃ q, k = q + 1 := ⟨k - 1, by omega⟩
    obtain rfl : i = posF n l := by omega
    rw [impl_File_string_with_impl_Files_find_1.l0, if_neg (by omega)]
    by_cases c : posF n l < l.length
    · have hge := posF_ge n l none hg (posF n l) (Nat.le_refl _) c
      rw [if_pos (by omega), if_pos (by omega), if_pos (by omega), find1_ok (rd_T53 l (posF n l : Int)) n, Option.bind_some, if_neg (by rw [show (rd_T53 l (posF n l : Int)) = fi l (posF n l) from rfl, hge]; decide), hasF, decide_eq_true c, Bool.true_and]
      by_cases e : (fi l (posF n l)).f0.toList = n.toList
      · rw [if_pos e, decide_eq_true e]; rfl
      · rw [if_neg e, decide_eq_false e]; rfl
    · rw [if_neg (by omega), hasF, decide_eq_false c, Bool.false_and]
  | succ d ih =>
    intro i j k hd h1 h2 h3 hk
    obtain ⟨k, rfl⟩ : ∃ q, k = q + 1 := ⟨k - 1, by omega⟩
    by_cases hij : i < j
    · have hm : wrap64 ((IntKind.u64.wrap (wrap64 ((i : Int) + (j : Int)))) / 2) = (((i + j) / 2 : Nat) : Int) := by
        rw [w64 (x := (i : Int) + (j : Int)) (by omega) (by omega), wu64 (by omega) (by omega), w64 (by omega) (by omega)]; omega
      obtain ⟨m, hme⟩ : ∃ m, m = (i + j) / 2 := ⟨_, rfl⟩
      rw [impl_File_string_with_impl_Files_find_1.l0, if_pos (by omega), hm, ← hme, if_pos (by omega), if_pos (by omega), find1_ok (rd_T53 l (m : Int)) n, Option.bind_some]
      by_cases cb : Op.bytesLess (fi l m).f0.toList n.toList = true
      · rw [if_pos cb, if_pos (by decide), wrapS (n := l.length) (by omega) (by omega)]
        exact ih (m + 1) j k (by omega) (by
          rcases Nat.lt_or_ge m (posF n l) with q | q
          · omega
          · exact absurd cb (by rw [posF_ge n l none hg m q (by omega)]; decide)) h2 h3 (by omega)
      · rw [if_neg cb, if_neg (by split <;> decide)]
        exact ih i m k (by omega) h1 (by
          rcases Nat.lt_or_ge m (posF n l) with q | q
          · exact absurd (posF_lt n l m q) cb
          · exact q) (by omega) (by omega)
    · exact ih i j (k + 1) (by omega) h1 h2 h3 (by omega)
theorem find_ok (q : Int) {k : Nat} (hk : 2000000 < k) : impl_Files_find.f k q l n = some ((posF n l : Int), hasF n l) := by
  have h := find_l0 (n := n) hl hg l.length 0 l.length k (by omega) (Nat.zero_le _) (posF_le n l) (Nat.le_refl _) (by omega)
  rw [show ((0 : Nat) : Int) = 0 from rfl] at h
  unfold impl_Files_find.f impl_File_string_with_impl_Files_find_1.f
  rw [h, Option.bind_some]
theorem at_l0 : ∀ (d i k : Nat), i + d = l.length → d < k → (∀ j, j < i → (fi l j).f0.toList ≠ n.toList) → spec_l2At.l0 k n l (l.length : Int) (i : Int) = some (if hasF n l = true then (posF n l : Int) else -1) := by
  intro d
  induction d with
  | zero =>
    intro i k hi hk hn
    obtain ⟨k, rfl⟩ : ∃ q, k = q + 1 := ⟨k - 1, by omega⟩
    rw [spec_l2At.l0, if_neg (by omega)]
    cases e : hasF n l with
    | false => rw [if_neg (by decide)]
    | true =>
      rw [hasF, Bool.and_eq_true] at e
      exact absurd (of_decide_eq_true e.2) (hn _ (by have := of_decide_eq_true e.1; omega))
  | succ d ih =>
    intro i k hi hk hn
    obtain ⟨k, rfl⟩ : ∃ q, k = q + 1 := ⟨k - 1, by omega⟩
    rw [spec_l2At.l0, if_pos (by omega), if_pos (by omega), if_pos (by omega)]
    by_cases c : (fi l i).f0.toList = n.toList
    · rw [if_pos (show (rd_T53 l (i : Int)).f0.toList = n.toList from c)]
      cases e : hasF n l with
      | false => exact absurd c (hasF_none hg e i (by omega))
      | true =>
        rw [hasF, Bool.and_eq_true] at e
        have e1 := of_decide_eq_true e.1
        have e2 := of_decide_eq_true e.2
        have h1 : ¬ i < posF n l := fun q => by
          have := posF_lt n l i q
          rw [c, less_irrefl] at this
          exact absurd this (by decide)
        have h2 : ¬ posF n l < i := fun q => hn _ q e2
        rw [if_pos rfl, show i = posF n l by omega]
    · rw [if_neg (show ¬ (rd_T53 l (i : Int)).f0.toList = n.toList from c), wrapS (n := l.length) (by omega) (by omega)]
      exact ih (i + 1) k (by omega) (by omega) (fun j hj => by
        by_cases q : j = i
        · subst q; exact c
        · exact hn j (by omega))
theorem at_ok (q : Int) {k : Nat} (hk : 1048577 < k) : spec_l2At.f k q l n = some (if hasF n l = true then (posF n l : Int) else -1) := at_l0 hl hg l.length 0 k (by omega) (by omega) (fun j hj => absurd hj (Nat.not_lt_zero j))
end
theorem goodQ_parts {q : Int} {l : List Fi} (h : goodQ q l = true) : l.length ≤ 40 ∧ goodFs none l = true ∧ (usedF l : Int) ≤ q ∧ 0 ≤ q ∧ q ≤ 60000 := by
  unfold goodQ at h
  simp only [Bool.and_eq_true] at h
  exact ⟨of_decide_eq_true h.2.1, h.2.2.2, of_decide_eq_true h.2.2.1, of_decide_eq_true h.1.1, of_decide_eq_true h.1.2⟩
end Go.Proofs.YtmlclmbplbbbhaaDoor.Lem
end

/- What impl.changed asks of names. No conditions of its own. -/
namespace Go.Proofs.YtmlclmbplbbbhaaDoor.Lem
open Go Go.RowKit Go.Proofs.YtmlclmbplbbbhaaDoor.P Go.Proofs.YtmlclmbplbbbhaaDoorW.PrintWords Go.Proofs.YtmlclmbplbbbhaaDoorW.PrintLast Go.Proofs.YtmlclmbplbbbhaaDoorW.PrintMore
theorem changed1_ok (n : ByteArray) : impl_changed_1.f n = some (!nameF n) := by
  unfold impl_changed_1.f
  rw [isFileName_ok, Option.bind_some]
theorem names0_ok {k : Nat} (hk : 4 < k) : slices_ContainsFunc_string_string_with_impl_changed_1.f k [] = some false := by
  obtain ⟨k, rfl⟩ : ∃ q, k = q + 4 := ⟨k - 4, by omega⟩
  rfl
theorem names1_ok (n : ByteArray) {k : Nat} (hk : 4 < k) : slices_ContainsFunc_string_string_with_impl_changed_1.f k [n] = some (!nameF n) := by
  obtain ⟨k, rfl⟩ : ∃ q, k = q + 4 := ⟨k - 4, by omega⟩
  unfold slices_ContainsFunc_string_string_with_impl_changed_1.f slices_IndexFunc_string_string_with_impl_changed_1.f
  show (slices_IndexFunc_string_string_with_impl_changed_1.l0 (k + 4) [n] 1 0).bind _ = _
  rw [slices_IndexFunc_string_string_with_impl_changed_1.l0, if_pos (by decide), if_pos (by decide), if_pos (show (0 : Int) < (([n].length : Nat) : Int) by simp), show rdOf ByteArray.empty [n] 0 = n from rfl, changed1_ok, Option.bind_some]
  cases nameF n with
  | true =>
    rw [if_neg (by decide), show wrap64 (0 + 1) = 1 from w64 (by decide) (by decide), slices_IndexFunc_string_string_with_impl_changed_1.l0, if_neg (by decide), Option.bind_some]
    rfl
  | false => rw [if_pos (by rfl), Option.bind_some]; rfl
theorem names2_ok (n m : ByteArray) {k : Nat} (hk : 4 < k) : slices_ContainsFunc_string_string_with_impl_changed_1.f k [n, m] = some (!nameF n || !nameF m) := by
  obtain ⟨k, rfl⟩ : ∃ q, k = q + 4 := ⟨k - 4, by omega⟩
  unfold slices_ContainsFunc_string_string_with_impl_changed_1.f slices_IndexFunc_string_string_with_impl_changed_1.f
  show (slices_IndexFunc_string_string_with_impl_changed_1.l0 (k + 4) [n, m] 2 0).bind _ = _
  rw [slices_IndexFunc_string_string_with_impl_changed_1.l0, if_pos (by decide), if_pos (by decide), if_pos (show (0 : Int) < (([n, m].length : Nat) : Int) by simp), show rdOf ByteArray.empty [n, m] 0 = n from rfl, changed1_ok, Option.bind_some]
  cases nameF n with
  | true =>
    rw [if_neg (by decide), show wrap64 (0 + 1) = 1 from w64 (by decide) (by decide), slices_IndexFunc_string_string_with_impl_changed_1.l0, if_pos (by decide), if_pos (by decide), if_pos (show (1 : Int) < (([n, m].length : Nat) : Int) by simp), show rdOf ByteArray.empty [n, m] 1 = m from rfl, changed1_ok, Option.bind_some]
    cases nameF m with
    | true =>
      rw [if_neg (by decide), show wrap64 (1 + 1) = 2 from w64 (by decide) (by decide), slices_IndexFunc_string_string_with_impl_changed_1.l0, if_neg (by decide), Option.bind_some]
      rfl
    | false => rw [if_pos (by rfl), Option.bind_some]; rfl
  | false => rw [if_pos (by rfl), Option.bind_some]; rfl
end Go.Proofs.YtmlclmbplbbbhaaDoor.Lem

section
/- The program's RenameFile returns what the reference's returns: what FnExactRenameFile's callees answer, at all files that Go can hold. -/
set_option linter.unusedVariables false
namespace Go.Proofs.YtmlclmbplbbbhaaDoor.Pure
open Go Go.RowKit Go.Proofs.YtmlclmbplbbbhaaDoor.P Go.Proofs.YtmlclmbplbbbhaaDoorW.PrintWords Go.Proofs.YtmlclmbplbbbhaaDoorW.PrintLast Go.Proofs.YtmlclmbplbbbhaaDoorW.PrintMore Go.Proofs.YtmlclmbplbbbhaaDoor.Lem

theorem insPos_l0 (n : ByteArray) : ∀ (l r : List Fi) (k i : Nat), l.drop i = r → r.length < k → i ≤ l.length → spec_l2Insert.l0 k l n i = some (i + posF n r)
  | l, [], k, i, h, hk, hi => by
    obtain ⟨k, rfl⟩ : ∃ q, k = q + 1 := ⟨k - 1, by omega⟩
    have : l.length ≤ i := by simpa using h
    rw [spec_l2Insert.l0, if_neg (by omega)]
    rfl
  | l, a :: r, k, i, h, hk, hi => by
    obtain ⟨k, rfl⟩ : ∃ q, k = q + 1 := ⟨k - 1, by omega⟩
    have hlt : i < l.length := by
      rcases Nat.lt_or_ge i l.length with q | q
      · exact q
      · rw [List.drop_of_length_le q] at h; cases h
    rw [drop_get hlt] at h
    injection h with h1 h2
    rw [spec_l2Insert.l0, if_pos hlt, rdF_get hlt, h1, posF]
    by_cases c : Op.bytesLess a.f0.toList n.toList = true
    · rw [if_pos c, if_pos c, insPos_l0 n l r k (i + 1) h2 (by simpa using hk) (by omega)]
      congr 1
      omega
    · rw [if_neg c, if_neg c]
      rfl
theorem insPos_ok {l : List Fi} {n : ByteArray} (hl : l.length ≤ 1048576) (k : Nat) (hk : 1048577 < k) : spec_l2Insert.l0 k l n 0 = some (posF n l) := by
  rw [insPos_l0 n l l k 0 rfl (by omega) (Nat.zero_le _), Nat.zero_add]
theorem asc_lt : ∀ (l : List Fi) (p : Option ByteArray), goodFs p l = true → ∀ i j, i < j → j < l.length → Op.bytesLess (fi l i).f0.toList (fi l j).f0.toList = true
  | [], _, _, i, j, _, hj => absurd hj (Nat.not_lt_zero j)
  | a :: r, p, hp, i, j, hij, hj => by
    obtain ⟨_, q2⟩ := goodFs_head hp
    obtain ⟨j, rfl⟩ : ∃ m, j = m + 1 := ⟨j - 1, by omega⟩
    rw [fi_cons]
    cases i with
    | zero => exact goodFs_all r a.f0 q2 j (by simpa using hj)
    | succ i => rw [fi_cons]; exact asc_lt r _ q2 i j (by omega) (by simpa using hj)
theorem take_erase {α : Type} {l : List α} {n : Nat} (h : n ≤ l.length) : (l.eraseIdx n).take n = l.take n := by
  rw [List.eraseIdx_eq_take_drop_succ, List.take_left' (by rw [List.length_take]; omega)]
theorem drop_erase {α : Type} {l : List α} {n : Nat} (h : n ≤ l.length) : (l.eraseIdx n).drop n = l.drop (n + 1) := by
  rw [List.eraseIdx_eq_take_drop_succ, List.drop_left' (by rw [List.length_take]; omega)]
theorem ba_ext {a b : ByteArray} (h : a.toList = b.toList) : a = b := by
  rw [Go.Lib.toList_data, Go.Lib.toList_data] at h
  exact ByteArray.ext (Array.toList_inj.1 h)
theorem goodFs_weak {p : Option ByteArray} {a : Fi} {r : List Fi} (h1 : aftF p a.f0 = true) (h : goodFs (some a.f0) r = true) : goodFs p r = true := by
  cases r with
  | nil => rfl
  | cons b r =>
    simp only [goodFs, Bool.and_eq_true] at h ⊢
    refine ⟨h.1, h.2.1, ?_, h.2.2.2⟩
    cases p with
    | none => rfl
    | some m => exact lessT h1 h.2.2.1
theorem goodFs_erase : ∀ (l : List Fi) (p : Option ByteArray) (i : Nat), goodFs p l = true → goodFs p (l.eraseIdx i) = true
  | [], _, _, _ => rfl
  | a :: r, p, 0, h => goodFs_weak (goodFs_head h).1 (goodFs_head h).2
  | a :: r, p, i + 1, h => by
    show goodFs p (a :: r.eraseIdx i) = true
    have h2 := goodFs_erase r (some a.f0) i (goodFs_head h).2
    simp only [goodFs, Bool.and_eq_true] at h ⊢
    exact ⟨h.1, h.2.1, h.2.2.1, h2⟩
theorem posF_erase (n : ByteArray) : ∀ (l : List Fi) (p : Option ByteArray), goodFs p l = true → posF n (l.eraseIdx (posF n l)) = posF n l
  | [], _, _ => rfl
  | a :: r, p, h => by
    have h2 := (goodFs_head h).2
    by_cases c : Op.bytesLess a.f0.toList n.toList = true
    · rw [posF, if_pos c, List.eraseIdx_cons_succ, posF, if_pos c, posF_erase n r _ h2]
    · rw [posF, if_neg c, List.eraseIdx_cons_zero]
      cases r with
      | nil => rfl
      | cons b r =>
        have h3 := posF_ge n (a :: b :: r) p h 1 (by rw [posF, if_neg c]; omega) (by simp)
        have h4 : Op.bytesLess b.f0.toList n.toList = false := h3
        rw [posF, if_neg (by rw [h4]; decide)]
theorem hasF_erase {n : ByteArray} {l : List Fi} (hg : goodFs none l = true) (h : hasF n l = true) : hasF n (l.eraseIdx (posF n l)) = false := by
  rw [hasF, Bool.and_eq_true] at h
  have h1 := of_decide_eq_true h.1
  have h2 := of_decide_eq_true h.2
  cases e : hasF n (l.eraseIdx (posF n l)) with
  | false => rfl
  | true =>
    exfalso
    rw [hasF, Bool.and_eq_true, posF_erase n l none hg] at e
    have e1 := of_decide_eq_true e.1
    have e2 := of_decide_eq_true e.2
    rw [List.length_eraseIdx, if_pos h1] at e1
    have e3 : fi (l.eraseIdx (posF n l)) (posF n l) = fi l (posF n l + 1) := by
      rw [show fi (l.eraseIdx (posF n l)) (posF n l) = (l.eraseIdx (posF n l))[posF n l]'(by rw [List.length_eraseIdx, if_pos h1]; omega) from rdF_get _, show fi l (posF n l + 1) = l[posF n l + 1]'(by omega) from rdF_get _, List.getElem_eraseIdx]
      rw [dif_neg (by omega)]
    rw [e3] at e2
    exact absurd (asc_lt l none hg (posF n l) (posF n l + 1) (by omega) (by omega)) (by rw [h2, e2, less_irrefl]; decide)
theorem rename_both (q : Int) (l : List Fi) (a b : ByteArray) (hl : l.length ≤ 1048576) (hh : RowsF l) {k : Nat} (hk : 3000000 < k) :
    ∃ (q' : Int) (l' : List Fi) (c : Int), spec_RenameFile.f k q l a b = some (q', l', c) ∧ impl_RenameFile.f k q l a b = some (q', l', c) ∧ l'.length ≤ 1048576 ∧ RowsF l' := by
  unfold spec_RenameFile.f impl_RenameFile.f impl_changed.g
  rw [specGood_ok hl hh q (by omega), implGood_ok hl hh q (by omega), Option.bind_some, Option.bind_some]
  cases hg : goodQ q l with
  | false => exact ⟨0, [], 1, by rw [if_neg (by decide)], by rw [if_neg (by decide)], by simp, fun x hx => by simp at hx⟩
  | true =>
    obtain ⟨h40, hs, _⟩ := goodQ_parts hg
    rw [if_pos rfl, if_pos rfl, l2Name_ok a (by omega), names2_ok a b (by omega), Option.bind_some, Option.bind_some]
    cases hn : nameF a with
    | false => exact ⟨0, [], 1, by rw [if_neg (by decide)], by rw [if_pos (by rfl)], by simp, fun x hx => by simp at hx⟩
    | true =>
      rw [if_pos rfl, l2Name_ok b (by omega), Option.bind_some]
      cases hnb : nameF b with
      | false => exact ⟨0, [], 1, by rw [if_neg (by decide)], by rw [if_pos (by rfl)], by simp, fun x hx => by simp at hx⟩
      | true =>
        rw [if_pos rfl, if_neg (by decide), own_ok hl hh q (by omega), cloned_ok hl hh q (by omega), Option.bind_some, Option.bind_some]
        unfold impl_Files_rename.f
        dsimp only
        rw [at_ok hl hs q (by omega), find_ok hl hs q (by omega), Option.bind_some, Option.bind_some]
        cases hf : hasF a l with
        | false => exact ⟨q, l, 2, by simp, by simp, hl, hh⟩
        | true =>
          have hp2 : posF a l < l.length := by have h := hf; rw [hasF, Bool.and_eq_true] at h; exact of_decide_eq_true h.1
          have hnm : (fi l (posF a l)).f0.toList = a.toList := by have h := hf; rw [hasF, Bool.and_eq_true] at h; exact of_decide_eq_true h.2
          obtain ⟨n, hnn⟩ : ∃ n, n = posF a l := ⟨_, rfl⟩
          obtain ⟨l1, hl1⟩ : ∃ l1, l1 = l.eraseIdx n := ⟨_, rfl⟩
          have hl1n : l1.length = l.length - 1 := by rw [hl1, List.length_eraseIdx, if_pos (by omega)]
          have hs1 : goodFs none l1 = true := by rw [hl1]; exact goodFs_erase l none n hs
          have hh1 : RowsF l1 := fun x hx => hh x (List.mem_of_mem_eraseIdx (by rw [hl1] at hx; exact hx))
          have hxr : ∀ nm, RowsF [(⟨nm, (fi l n).f1, (fi l n).f2⟩ : Fi)] := fun nm x hx => by
            rw [List.mem_singleton.1 hx]
            have h := hh (fi l n) (by rw [show fi l n = l[n]'(by omega) from rdF_get _]; exact List.getElem_mem _)
            exact h
          rw [← hnn] at hp2 hnm
          have E : (spec_l2Remove.f k q l1 b).bind (fun d => (spec_l2Insert.f k d.2.2 ⟨b, (fi l n).f1, (fi l n).f2⟩).bind fun r => some (d.2.1, r, (0 : Int))) = some (q, (if hasF b l1 = true then l1.set (posF b l1) ⟨b, (fi l n).f1, (fi l n).f2⟩ else l1.take (posF b l1) ++ [⟨b, (fi l n).f1, (fi l n).f2⟩] ++ l1.drop (posF b l1)), 0) := by
            unfold spec_l2Remove.f
            rw [at_ok (by omega) hs1 q (by omega), Option.bind_some]
            cases hb : hasF b l1 with
            | false =>
              simp only [Bool.false_eq_true, if_false]
              rw [if_pos (by decide), Option.bind_some]
              unfold spec_l2Insert.f
              dsimp only
              rw [insPos_ok (by omega) k (by omega), Option.bind_some, if_pos (by omega), Option.bind_some]
            | true =>
              have hp3 : posF b l1 < l1.length := by have h := hb; rw [hasF, Bool.and_eq_true] at h; exact of_decide_eq_true h.1
              simp only [if_true]
              rw [if_neg (by omega), if_pos ⟨by omega, by omega⟩, Option.bind_some, Int.toNat_natCast]
              unfold spec_l2Insert.f
              dsimp only
              have hle : (l1.eraseIdx (posF b l1)).length = l1.length - 1 := by rw [List.length_eraseIdx, if_pos hp3]
              rw [insPos_ok (by omega) k (by omega), Option.bind_some, if_pos (by omega), Option.bind_some, posF_erase b l1 none hs1]
              congr 3
              rw [List.set_eq_take_append_cons_drop, if_pos hp3, take_erase (by omega), List.append_assoc]
              congr 1
              rw [List.singleton_append]
              congr 1
              rw [drop_erase (by omega)]
          have hlen : ∀ x : Fi, (if hasF b l1 = true then l1.set (posF b l1) x else l1.take (posF b l1) ++ [x] ++ l1.drop (posF b l1)).length ≤ 1048576 := fun x => by
            split
            · rw [List.length_set]; omega
            · simp only [List.length_append, List.length_take, List.length_drop, List.length_singleton]; omega
          have hrow : ∀ x : Fi, RowsF [x] → RowsF (if hasF b l1 = true then l1.set (posF b l1) x else l1.take (posF b l1) ++ [x] ++ l1.drop (posF b l1)) := fun x h1 y hy => by
            split at hy
            · rcases List.mem_or_eq_of_mem_set hy with hy | hy
              · exact hh1 y hy
              · exact h1 y (by rw [hy]; exact List.mem_singleton.2 rfl)
            · rcases List.mem_append.1 hy with hy | hy
              · rcases List.mem_append.1 hy with hy | hy
                · exact hh1 y (List.mem_of_mem_take hy)
                · exact h1 y hy
              · exact hh1 y (List.mem_of_mem_drop hy)
          refine ⟨q, _, 0, ?_, ?_, hlen _, hrow _ (hxr b)⟩
          · rw [if_pos rfl, ← hnn, if_neg (by omega), if_pos ⟨by omega, by omega⟩, Int.toNat_natCast, ← hl1]
            exact E
          · rw [if_pos rfl, ← hnn]
            by_cases hab : a.toList = b.toList
            · have e : a = b := ba_ext hab
              subst e
              rw [if_pos rfl, Option.bind_some]
              have hno : hasF a l1 = false := by rw [hl1, hnn]; exact hasF_erase hs hf
              have hpo : posF a l1 = n := by rw [hl1, hnn]; exact posF_erase a l none hs
              congr 3
              rw [if_neg (by rw [hno]; decide), hpo, hl1, take_erase (by omega), drop_erase (by omega)]
              have hx : (⟨a, (fi l n).f1, (fi l n).f2⟩ : Fi) = l[n] := by
                rw [← show fi l n = l[n] from rdF_get hp2, ← ba_ext hnm]
              rw [hx, List.append_assoc, List.singleton_append, ← drop_get hp2, List.take_append_drop]
            · rw [if_neg hab, if_pos ⟨by omega, by omega⟩, Int.toNat_natCast, ← hl1, find_ok (by omega) hs1 q (by omega), Option.bind_some]
              have hp := posF_le b l1
              cases hb : hasF b l1 with
              | true =>
                have hp3 : posF b l1 < l1.length := by have h := hb; rw [hasF, Bool.and_eq_true] at h; exact of_decide_eq_true h.1
                simp only [if_true]
                rw [if_pos ⟨by omega, by omega⟩, Option.bind_some, Int.toNat_natCast]
              | false =>
                simp only [Bool.false_eq_true, if_false]
                rw [if_pos ⟨⟨by omega, by omega⟩, by omega⟩, Option.bind_some, Int.toNat_natCast]
theorem FnExactRenameFile (q : Int) (l : List Lf) (n m : ByteArray) (hg : (Lit.int .i64 q).wf = true ∧ l.length ≤ maxLen ∧ ∀ e ∈ l, GFile e) (hg1 : n.size ≤ maxLen) (hg2 : m.size ≤ maxLen) : ∃ k, laws_FnExactRenameFile.Ok k q l n m := by
  have hl : l.length ≤ 9223372036854775807 := maxLen_le hg.2.1
  have hh : ∀ e ∈ l, HeldF e := fun e he => heldF (hg.2.2 e he)
  obtain ⟨k, hk⟩ : ∃ k, 2000000000100 < k := ⟨2000000000101, by omega⟩
  refine ⟨k, ?_⟩
  unfold laws_FnExactRenameFile.Ok
  by_cases hs : (n.size : Int) > 1048576
  · exact .inl hs
  refine .inr ⟨by omega, ?_⟩
  by_cases hs2 : (m.size : Int) > 1048576
  · exact .inl hs2
  refine .inr ⟨by omega, ?_⟩
  obtain ⟨r, hr, hr2⟩ := szFiles_ok q hl hh (x := 1048576) (by decide) (by decide) (k := k) (by omega)
  refine ⟨r, hr, ?_⟩
  rcases hr2 with hn | ⟨hn, hn1, hl', hs'⟩
  · exact .inl hn
  refine .inr ⟨hn, ?_⟩
  have hlm : (l.map cvF).length ≤ 1048576 := by rw [List.length_map]; exact hl'
  have hsm := rowsF_map hs'
  obtain ⟨q2, l2, c, h1, h2, hl2, hs2⟩ := rename_both q (l.map cvF) n m hlm hsm (k := k) (by omega)
  have e1 := endF_le (l.map cvF) 1 hsm
  have e2 := endF_le l2 1 hs2
  exact ⟨q, l.map cvF, q2, l2, c, _, _, _, _, toFiles_ok q hl' hs' (by omega), h1, h2, eqFiles_ok q2 hl2 hs2 (by omega), eqFiles_ok q hlm hsm (by omega), markFileS_ok _ (by decide) (by decide) hlm hsm (by omega), markFileS_ok _ (by decide) (by decide) hl2 hs2 (by omega), heldFiles_ok q2 l2 (by decide) (by decide) hl2 hs2 (by omega), by omega, by omega⟩
end Go.Proofs.YtmlclmbplbbbhaaDoor.Pure
end

/- The row of laws.FnExactRenameFile: its arguments opened, the walk, and the tied card. -/
namespace Go.Proofs.YtmlclmbplbbbhaaDoor.fnExactRenameFile
open Go Go.ChangeShapes Go.WideShapes Go.ChangeAt Go.RowKit Go.Proofs.YtmlclmbplbbbhaaDoor.P Go.Proofs.YtmlclmbplbbbhaaDoorW.PrintWords Go.Proofs.YtmlclmbplbbbhaaDoorW.PrintLast Go.Proofs.YtmlclmbplbbbhaaDoorW.PrintMore Go.Proofs.YtmlclmbplbbbhaaDoor.Lem
set_option linter.unusedVariables false
theorem own : ownKnob Tryd.prog.godebug = none := by kernel_rfl
theorem laidOut : laidOutB Tryd.prog = true := by kernel_rfl
noncomputable def laidWorld (os : Os) : World := World.laidAll Tryd.prog os Rows.fnExactRenameFileRow.laid
theorem laidWorld_met (os : Os) (args : Array Value) : laidMetH Tryd.prog Rows.fnExactRenameFileRow.laid ((laidWorld os).forCall (fun _ _ => 0) ⟨#[], args, []⟩).memory := by
  rw [Go.MakeChecks.laidMetH_plain _ _ _ (by kernel_rfl)]
  exact laidMet_laidAll args (by kernel_rfl) (by kernel_rfl)

set_option maxRecDepth 100000 in
theorem lifted (os : Os) (started : os.Started) (H : Type) (enc : TypeId × Value → H) :
    ReturnsInHanded {} Tryd.checked os 8 .any (fun w args => (Rows.fnExactRenameFileSpec.pre enc Tryd.prog Tryd.f8 [] false w args ∧ laidMetH Tryd.prog Rows.fnExactRenameFileRow.laid w) ∧ sizedMet enc Tryd.prog Tryd.f8 (OpenSpec.ofChange Rows.fnExactRenameFileSpec) false w args)
      (Rows.fnExactRenameFileSpec.post enc Tryd.prog Tryd.f8 false true false false) := by
  refine returnsInHanded_of_change_and (C := Tryd.checked) (X := fun w _ => laidMetH Tryd.prog Rows.fnExactRenameFileRow.laid w) (fun _ _ _ hh h => h.of_heap hh) own started (by kernel_rfl) Tryd.func8
    (ChangeSpec.witness_at (enc := enc) (C := Tryd.checked) (os := os) (X := fun w _ => laidMetH Tryd.prog Rows.fnExactRenameFileRow.laid w) false (laidWorld os) #[.agg #[.int .i64 0, .slice none 0 0], .string ⟨#[]⟩, .string ⟨#[]⟩] 8 rfl (by kernel_rfl) (by kernel_rfl) (by kernel_rfl) (by kernel_rfl) (by kernel_rfl) (laidWorld_met os _)) ?_
  intro W base args ds gs before hval0 hW _ _ hL _
  have hval : ∀ (j : Nat) t v, Tryd.f8.params[j]? = some t → args[j]? = some v → Value.okWide Tryd.prog W .any base t v := hval0
  have hW' := hW
  obtain ⟨p, q, hA0, hV, rfl, hfz, hnd⟩ := hW
  have hA : DataW.TrodAll enc Tryd.prog W 0 (fun _ => true) true Tryd.f8.params.toList args.toList ds p := hA0
  rw [Tryd.params8] at hA hval
  obtain ⟨v0, vs0, d0, ds0, p0, q0, hargs, rfl, rfl, h0, r0⟩ := trodAll_cons hA
  obtain ⟨v1, vs1, d1, ds1, p1, q1, rfl, rfl, rfl, h1, r1⟩ := trodAll_cons r0
  obtain ⟨v2, vs2, d2, ds2, p2, q2, rfl, rfl, rfl, h2, r2⟩ := trodAll_cons r1
  obtain ⟨rfl, rfl, rfl⟩ := trodAll_nil r2
  obtain rfl : args = #[v0, v1, v2] := by cases args; simp_all
  obtain ⟨rfl, rfl⟩ := trodVars_none hV
  have k0 := h0
  have lt0 : ∀ x ∈ p0, x.block < W.heap.size := by obtain ⟨m, hm⟩ := k0; exact DataW.trod_lt m _ _ _ hm
  have k1 := h1
  have lt1 : ∀ x ∈ p1, x.block < W.heap.size := by obtain ⟨m, hm⟩ := k1; exact DataW.trod_lt m _ _ _ hm
  have k2 := h2
  have lt2 : ∀ x ∈ p2, x.block < W.heap.size := by obtain ⟨m, hm⟩ := k2; exact DataW.trod_lt m _ _ _ hm
  have hO0 : Opens enc Tryd.prog W 0 (fun _ => true) true (Kd.pair (Kd.int .i64) (Kd.slice 84 k84)) 24 _ := (opens_struct Tryd.underlying24 (by kernel_rfl) (opensF_cons (by kernel_rfl) (opens_int Tryd.underlying3) (opensF_one (by kernel_rfl) (opens_slice 84 Tryd.underlying22 (opens_iso (fun x : S84 => (x.f0, x.f1, x.f2)) (fun a => ⟨a.1, a.2.1, a.2.2⟩) (fun _ => rfl) (opens_struct Tryd.underlying84 (by kernel_rfl) (opensF_cons (by kernel_rfl) (opens_string Tryd.underlying9) (opensF_cons (by kernel_rfl) (opens_slice 5 Tryd.underlying25 (opens_int Tryd.underlying5) (by kernel_rfl)) (opensF_one (by kernel_rfl) (opens_int Tryd.underlying3)))))) (by kernel_rfl)))))
  obtain ⟨cs0, rfl, hsz0⟩ := okWide_struct Tryd.underlying24 (hval 0 24 v0 rfl rfl)
  obtain ⟨⟨a0_0, l0_1⟩, ⟨_, _, e0, rfl, ⟨A0_1, c0_1, rfl, hc0_1, hC0_1⟩⟩, hg0⟩ := hO0 _ _ _ h0.choose_spec
  obtain rfl : cs0 = #[.int .i64 a0_0, .slice A0_1 l0_1.length c0_1] := by
    have e1 : (Value.agg cs0).cells.toList = [.int .i64 a0_0, .slice A0_1 l0_1.length c0_1] := e0
    cases cs0
    simpa [Value.cells] using e1
  have hO1 : Opens enc Tryd.prog W 0 (fun _ => true) true Kd.string 9 _ := (opens_string Tryd.underlying9)
  obtain ⟨b1, rfl⟩ := okWide_string Tryd.underlying9 (hval 1 9 v1 rfl rfl)
  obtain ⟨a1, e1, hg1⟩ := hO1 _ _ _ h1.choose_spec
  obtain rfl : a1 = b1 := by
    have e1 : (Value.string b1).cells.toList = [.string a1] := e1
    simpa [Value.cells] using e1.symm
  have hO2 : Opens enc Tryd.prog W 0 (fun _ => true) true Kd.string 9 _ := (opens_string Tryd.underlying9)
  obtain ⟨b2, rfl⟩ := okWide_string Tryd.underlying9 (hval 2 9 v2 rfl rfl)
  obtain ⟨a2, e2, hg2⟩ := hO2 _ _ _ h2.choose_spec
  obtain rfl : a2 = b2 := by
    have e1 : (Value.string b2).cells.toList = [.string a2] := e2
    simpa [Value.cells] using e1.symm
  clear hA0 hval0
  obtain ⟨k, hk⟩ := Pure.FnExactRenameFile a0_0 l0_1 a1 a2 hg0 hg1 hg2
  refine (laws_FnExactRenameFile.calls (k := k) (a0_0 := a0_0) (l0_1 := l0_1) (A0_1 := A0_1) (c0_1 := c0_1) (hr0_1 := hC0_1) (hc0_1 := hc0_1) (a1 := a1) (a2 := a2) (w := W) (h := hk)).mono fun e W' ⟨he, bel⟩ => ?_
  subst he
  exact ⟨_, rfl, _, _, _, [], _, [], hW', trodAll_mk1 (shut_bool Tryd.underlying4 _), (trodAll_cons_mk (Below.trod laidOut (by kernel_rfl) (of_decide_eq_true (by kernel_rfl)) k0 bel lt0) (trodAll_cons_mk (Below.trod laidOut (by kernel_rfl) (of_decide_eq_true (by kernel_rfl)) k1 bel lt1) (trodAll_cons_mk (Below.trod laidOut (by kernel_rfl) (of_decide_eq_true (by kernel_rfl)) k2 bel lt2) trodAll_mk0))), rfl, bel.frame _, fun h => by cases h⟩

theorem said : Rows.FnExactRenameFileSaid :=
  OpenClaim.holds_of_wide 8 Tryd.f8 rfl rfl rfl rfl rfl rfl rfl ⟨rfl, rfl, rfl, rfl, rfl⟩ rfl rfl rfl rfl rfl (by kernel_rfl) Tryd.func8 (by kernel_rfl)
    (of_decide_eq_true (by kernel_rfl)) (by unfold Func.isWrapper; first | (rw [if_pos (by decide +kernel)]; kernel_rfl) | (rw [if_neg (of_decide_eq_false (by kernel_rfl))]; exact ⟨rfl, rfl⟩))
    (fun os started H enc _ => lifted os started H enc)
theorem proved : Rows.FnExactRenameFileCardSaid :=
  Claim7.holds_tied_plain_at .later [] [.data, .pinned] true (true, "f17f0eca07c51690a4619ded57bb7d3894f853b06b03bd7acb8b0fc1f86a8723") false
    said (fun _ h => by cases h) (by kernel_rfl) (fun _ h => by cases h) fnExactRenameFile_row_tie rfl ⟨rfl, rfl⟩ (by kernel_rfl) rfl
    (fun f fn hf hfn => by
      obtain rfl : f = 8 := Option.some.inj ((show Tryd.prog.funcNamed "loop.example/g00150/laws.FnExactRenameFile" = some 8 by kernel_rfl).symm.trans hf) |>.symm
      obtain rfl : fn = Tryd.f8 := (Option.some.inj (Tryd.func8.symm.trans hfn)).symm
      exact ⟨by kernel_rfl, fun j t ht => by
        rw [Tryd.params8] at ht
        have h3 : t = 24 ∨ t = 9 ∨ t = 9 := by
          rcases j with _ | j
          · exact (.inl (by simpa using ht.symm))
          · rcases j with _ | j
            · exact .inr ((.inl (by simpa using ht.symm)))
            · rcases j with _ | j
              · exact .inr (.inr (((by simpa using ht.symm))))
              · simp at ht
        rcases h3 with rfl | rfl | rfl
        · exact (show Tryd.prog.wantsStandIn 24 = false by kernel_rfl)
        · exact (show Tryd.prog.wantsStandIn 9 = false by kernel_rfl)
        · exact (show Tryd.prog.wantsStandIn 9 = false by kernel_rfl)⟩)
    (by kernel_rfl)
#print axioms proved
end Go.Proofs.YtmlclmbplbbbhaaDoor.fnExactRenameFile
namespace Go.Proofs.YtmlclmbplbbbhaaDoor
/-- The tied card, under a short name, for the claim. -/
theorem fnExactRenameFile_holds : Rows.FnExactRenameFileCardSaid := fnExactRenameFile.proved
end Go.Proofs.YtmlclmbplbbbhaaDoor
