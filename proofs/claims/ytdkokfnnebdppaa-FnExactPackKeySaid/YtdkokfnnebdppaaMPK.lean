/- The statement's own text and the last of the walks that it uses. -/
import Derived.Deep.RegionHeld3
import Derived.Laws.BitsAllLaws
import Derived.Lib.SlTrimSet
import Derived.ChangeArms
import Derived.ChangeSlices
import Derived.DataReads
import Derived.Lib.SlicesCompact
import Derived.Test.YtdkokfnnebdppaaRows
import Derived.WalkKit
import Derived.ProofKit
import Derived.OpenShut
import Derived.ChangeOld
import Derived.Below
import Derived.Handed
import Derived.SizedLaws
import Derived.RowKit
import Derived.Test.YtdkokfnnebdppaaMPK5

-- written by a program of this session's (wip/pp)
namespace Go.Proofs.Ytdkokfnnebdppaa.P
open Go.RowKit Go.Proofs.YtdkokfnnebdppaaW.PrintWords Go.Proofs.YtdkokfnnebdppaaW.PrintLast Go.Proofs.YtdkokfnnebdppaaW.PrintMore
attribute [local go_sem] max2_int min2_int max_two min_two max_three min_three max_four min_four str_geq str_gtr str_leq   -- for this text's walks alone
set_option linter.unusedVariables false
set_option linter.unusedSimpArgs false

/-! ### laws_heldEntryS: function 18 -/
def laws_heldEntryS.l0 : Nat → List (S45) → Int → Int → Option (Int)
 | 0, _, _, _ => none
 | k + 1, x0, x1, x5 => if x5 < (x0.length : Int) then (if 0 ≤ x5 then ((laws_markText.f k x1).bind fun t102 => (if ((rd_T45 x0 x5).f0).toList = t102.toList then (if ((rd_T45 x0 x5).f1) = (wrap64 (x1 + 1)) then (if ((rd_T45 x0 x5).f2) = (wrap64 ((wrap64 (x1 + 1)) + 1)) then (if ((rd_T45 x0 x5).f3.f0) = (wrap64 ((wrap64 ((wrap64 (x1 + 1)) + 1)) + 1)) then (if ((rd_T45 x0 x5).f3.f1) = (wrap64 ((wrap64 ((wrap64 ((wrap64 (x1 + 1)) + 1)) + 1)) + 1)) then (if ((rd_T45 x0 x5).f3.f2) = (wrap64 ((wrap64 ((wrap64 ((wrap64 ((wrap64 (x1 + 1)) + 1)) + 1)) + 1)) + 1)) then (if ((rd_T45 x0 x5).f3.f3) = (wrap64 ((wrap64 ((wrap64 ((wrap64 ((wrap64 ((wrap64 (x1 + 1)) + 1)) + 1)) + 1)) + 1)) + 1)) then ((laws_heldIntS.f k ((rd_T45 x0 x5).f3.f4) (wrap64 ((wrap64 ((wrap64 ((wrap64 ((wrap64 ((wrap64 ((wrap64 (x1 + 1)) + 1)) + 1)) + 1)) + 1)) + 1)) + 1))).bind fun t110 => (if t110 < 0 then (none) else (if (((rd_T45 x0 x5).f3.f5) != ((Int.tmod t110 3) == 0)) = true then (none) else (laws_heldEntryS.l0 k x0 (wrap64 (t110 + 1)) (wrap64 (x5 + 1)))))) else (none)) else (none)) else (none)) else (none)) else (none)) else (none)) else (none))) else (none)) else (some x1)
def laws_heldEntryS.f (k : Nat) (l0 : List (S45)) (a1 : Int) : Option (Int) := laws_heldEntryS.l0 k l0 a1 0
theorem laws_heldEntryS.mono_l : ∀ k, (∀ y0 y1 y2, LeO (laws_heldEntryS.l0 k y0 y1 y2) (laws_heldEntryS.l0 (k + 1) y0 y1 y2))
 | 0 => fun _ _ _ r h => by simp [laws_heldEntryS.l0] at h
 | k + 1 => by
  have ih0 := laws_heldEntryS.mono_l k
  · intro y0 y1 y2
    unfold laws_heldEntryS.l0
    repeat' first
     | (with_reducible first | exact ih0 .. | exact laws_heldIntS.mono .. | exact laws_markText.mono .. | exact LeO.refl _ | exact LeO.none _ | refine LeO.ite ?_ ?_ | refine LeO.bind ?_ (fun _ => ?_))
     | exact LeO.none _
     | refine LeO.ite ?_ ?_
     | refine LeO.bind ?_ (fun _ => ?_)
theorem laws_heldEntryS.mono : ∀ a0 a1 k, LeO (laws_heldEntryS.f k a0 a1) (laws_heldEntryS.f (k + 1) a0 a1) := by
 intro a0 a1 k
 have ih0 := laws_heldEntryS.mono_l k
 unfold laws_heldEntryS.f
 repeat' first
  | (with_reducible first | exact ih0 .. | exact laws_heldIntS.mono .. | exact laws_markText.mono .. | exact LeO.refl _ | exact LeO.none _ | refine LeO.ite ?_ ?_ | refine LeO.bind ?_ (fun _ => ?_))
  | exact LeO.none _
  | refine LeO.ite ?_ ?_
  | refine LeO.bind ?_ (fun _ => ?_)
def laws_heldEntryS.T4 : Bool × List (List Nat × List Nat) := (true, [([], []), ([], []), ([0, 1], [0, 1]), ([2], [2]), ([3], [3]), ([], []), ([5], [5]), ([4, 6], [4, 6])])
def laws_heldEntryS.B4 : List Nat := [0, 0, 3, 7, 15, 0, 32, 127]
theorem laws_heldEntryS.tab4 : rtab .any (opsOf Try.f18 4) = laws_heldEntryS.T4 := by kernel_rfl
theorem laws_heldEntryS.bits4 : waitsOk laws_heldEntryS.T4.2 laws_heldEntryS.B4 = true := by kernel_rfl
set_option maxHeartbeats 8000000 in
set_option maxRecDepth 100000 in
theorem laws_heldEntryS.calls (k : Nat) (A0 : Option Addr) (c0 : Nat) (l0 : List (S45)) (a1 : Int) (r : Int) (w : World) (hr0 : Kd.C k45 w A0 l0.length l0) (hc0 : l0.length ≤ c0) (h : laws_heldEntryS.f k l0 a1 = some r) :
 Calls Try.prog 18 #[.slice A0 l0.length c0, .int .i64 a1] w fun e w' => e = .returned (.int .i64 r) ∧ Below w.heap.size w w' := by
 have HR0 := aM hr0
 have HC0 := aM hc0
 clear hr0 hc0
 have HB := aM (Below.refl w.heap.size w)
 have H : (laws_heldEntryS.l0 k l0 a1 0) = some r := h
 clear h
 have H' := aM H
 clear H
 go_enter Try.func18, Try.ntmps18
 go_wp2
 go_loopg [1, 5] k (fun kq v1 v5 w' => ∃ (x1_1 : Int) (x5_1 : Int), v1 = .int .i64 x1_1 ∧ v5 = .int .i64 x5_1 ∧ Aside0 (laws_heldEntryS.l0 kq l0 x1_1 x5_1 = some r) ∧ Aside0 (kq ≤ k) ∧ Aside0 (Below w.heap.size w w'))
 case atStart => exact ⟨(a1), (0), z4458, z4458, H', ⟨Nat.le_refl _⟩, ⟨z5acd⟩⟩
 case round =>
  clear H'
  try clear c1
  try clear p2
  obtain ⟨x1_1, x5_1, rfl, rfl, HA, HK1, HB⟩ := hrel
  cases gk with
  | zero => exact absurd HA.out (by simp [laws_heldEntryS.l0])
  | succ k1 =>
   have H := HA.out
   clear HA
   simp only [laws_heldEntryS.l0] at H
   by_cases c3 : x5_1 < (l0.length : Int)
   · rw [if_pos c3] at H
     have c3b0 : decide (x5_1 < (l0.length : Int)) = true := decide_eq_true c3
     clear c3
     replace H := ifS H; obtain ⟨c4, H⟩ := H
     have c4b0 : decide (0 ≤ x5_1) = true := decide_eq_true c4
     clear c4
     replace H := Option.bind_eq_some_iff.mp H
     obtain ⟨t102, A50, H⟩ := H
     try dsimp only at H
     have A5 := aM A50
     clear A50
     replace H := ifS H; obtain ⟨c6, H⟩ := H
     have c6b0 : (((rd_T45 l0 x5_1).f0).toList == t102.toList) = true := beq_iff_eq.mpr c6
     have c6b1 : (((rd_T45 l0 x5_1).f0).toList != t102.toList) = false := bne_eq_false_iff_eq.mpr c6
     clear c6
     replace H := ifS H; obtain ⟨c7, H⟩ := H
     have c7b0 : (((rd_T45 l0 x5_1).f1) == (wrap64 (x1_1 + 1))) = true := beq_iff_eq.mpr c7
     have c7b1 : (((rd_T45 l0 x5_1).f1) != (wrap64 (x1_1 + 1))) = false := bne_eq_false_iff_eq.mpr c7
     clear c7
     replace H := ifS H; obtain ⟨c8, H⟩ := H
     have c8b0 : (((rd_T45 l0 x5_1).f2) == (wrap64 ((wrap64 (x1_1 + 1)) + 1))) = true := beq_iff_eq.mpr c8
     have c8b1 : (((rd_T45 l0 x5_1).f2) != (wrap64 ((wrap64 (x1_1 + 1)) + 1))) = false := bne_eq_false_iff_eq.mpr c8
     clear c8
     replace H := ifS H; obtain ⟨c9, H⟩ := H
     have c9b0 : (((rd_T45 l0 x5_1).f3.f0) == (wrap64 ((wrap64 ((wrap64 (x1_1 + 1)) + 1)) + 1))) = true := beq_iff_eq.mpr c9
     have c9b1 : (((rd_T45 l0 x5_1).f3.f0) != (wrap64 ((wrap64 ((wrap64 (x1_1 + 1)) + 1)) + 1))) = false := bne_eq_false_iff_eq.mpr c9
     clear c9
     replace H := ifS H; obtain ⟨c10, H⟩ := H
     have c10b0 : (((rd_T45 l0 x5_1).f3.f1) == (wrap64 ((wrap64 ((wrap64 ((wrap64 (x1_1 + 1)) + 1)) + 1)) + 1))) = true := beq_iff_eq.mpr c10
     have c10b1 : (((rd_T45 l0 x5_1).f3.f1) != (wrap64 ((wrap64 ((wrap64 ((wrap64 (x1_1 + 1)) + 1)) + 1)) + 1))) = false := bne_eq_false_iff_eq.mpr c10
     clear c10
     replace H := ifS H; obtain ⟨c11, H⟩ := H
     have c11b0 : (((rd_T45 l0 x5_1).f3.f2) == (wrap64 ((wrap64 ((wrap64 ((wrap64 ((wrap64 (x1_1 + 1)) + 1)) + 1)) + 1)) + 1))) = true := beq_iff_eq.mpr c11
     have c11b1 : (((rd_T45 l0 x5_1).f3.f2) != (wrap64 ((wrap64 ((wrap64 ((wrap64 ((wrap64 (x1_1 + 1)) + 1)) + 1)) + 1)) + 1))) = false := bne_eq_false_iff_eq.mpr c11
     clear c11
     replace H := ifS H; obtain ⟨c12, H⟩ := H
     have c12b0 : (((rd_T45 l0 x5_1).f3.f3) == (wrap64 ((wrap64 ((wrap64 ((wrap64 ((wrap64 ((wrap64 (x1_1 + 1)) + 1)) + 1)) + 1)) + 1)) + 1))) = true := beq_iff_eq.mpr c12
     have c12b1 : (((rd_T45 l0 x5_1).f3.f3) != (wrap64 ((wrap64 ((wrap64 ((wrap64 ((wrap64 ((wrap64 (x1_1 + 1)) + 1)) + 1)) + 1)) + 1)) + 1))) = false := bne_eq_false_iff_eq.mpr c12
     clear c12
     replace H := Option.bind_eq_some_iff.mp H
     obtain ⟨t110, A130, H⟩ := H
     try dsimp only at H
     have A13 := aM A130
     clear A130
     replace H := ifN H; obtain ⟨c14, H⟩ := H
     have c14b0 : decide (t110 < 0) = false := decide_eq_false c14
     clear c14
     replace H := ifN H; obtain ⟨c15, H⟩ := H
     have c15b0 : (((rd_T45 l0 x5_1).f3.f5) != ((Int.tmod t110 3) == 0)) = false := by simpa using c15
     (try (have c15b1 : decide (((rd_T45 l0 x5_1).f3.f5) = ((Int.tmod t110 3) == 0)) = true := by simpa using c15))
     (try (have c15b2 : (((rd_T45 l0 x5_1).f3.f5) == ((Int.tmod t110 3) == 0)) = true := by simpa using c15))
     clear c15
     have H' := aM H
     clear H
     try go_wp2
     have _ := aM (below_drew1 HB.out)
     clear HB
     rename_i HB
     have p101 : 0 ≤ (x5_1 : Int) := of_decide_eq_true z1200
     have q101 : x5_1 < (l0.length : Int) := of_decide_eq_true z1200
     obtain ⟨ad101, A101_7, c101_7, e101, hx101_0, hx101_1, hx101_2, hx101_3, hx101_4, hx101_5, hx101_6, hx101_7, hx101_8, hl101_7, hi101_7⟩ := at_T45 HR0.out x5_1 p101 q101
     have hw101_8 := hx101_8
     have hw101_7 := hx101_7
     have hw101_6 := hx101_6
     have hw101_5 := hx101_5
     have hw101_4 := hx101_4
     have hw101_3 := hx101_3
     have hw101_2 := hx101_2
     have hw101_1 := hx101_1
     have hw101_0 := hx101_0
     cases e101
     have TW101_7 := aM hx101_7
     replace hx101_0 := (HB.out.cell (World.block_lt_of_cell? w _ hx101_0)).trans hx101_0
     replace hx101_1 := (HB.out.cell (World.block_lt_of_cell? w _ hx101_1)).trans hx101_1
     replace hx101_2 := (HB.out.cell (World.block_lt_of_cell? w _ hx101_2)).trans hx101_2
     replace hx101_3 := (HB.out.cell (World.block_lt_of_cell? w _ hx101_3)).trans hx101_3
     replace hx101_4 := (HB.out.cell (World.block_lt_of_cell? w _ hx101_4)).trans hx101_4
     replace hx101_5 := (HB.out.cell (World.block_lt_of_cell? w _ hx101_5)).trans hx101_5
     replace hx101_6 := (HB.out.cell (World.block_lt_of_cell? w _ hx101_6)).trans hx101_6
     replace hx101_7 := (HB.out.cell (World.block_lt_of_cell? w _ hx101_7)).trans hx101_7
     replace hx101_8 := (HB.out.cell (World.block_lt_of_cell? w _ hx101_8)).trans hx101_8
     have HR101_7 := aM hi101_7
     have HC101_7 := aM hl101_7
     clear hi101_7 hl101_7
     replace p101 := eq_true p101
     replace q101 := eq_true q101
     refine sA 8 laws_heldEntryS.tab4 laws_heldEntryS.bits4 (fun w' => w'.cell? (ad101.add ((x5_1).toNat * 9)) = some (.string ((rd_T45 l0 x5_1).f0)) ∧ w'.cell? ⟨(ad101.add ((x5_1).toNat * 9)).block, (ad101.add ((x5_1).toNat * 9)).off + 1, none⟩ = some (.int .i64 ((rd_T45 l0 x5_1).f1)) ∧ w'.cell? ⟨(ad101.add ((x5_1).toNat * 9)).block, (ad101.add ((x5_1).toNat * 9)).off + 2, none⟩ = some (.int .i64 ((rd_T45 l0 x5_1).f2)) ∧ w'.cell? ⟨(ad101.add ((x5_1).toNat * 9)).block, (ad101.add ((x5_1).toNat * 9)).off + 3, none⟩ = some (.int .i64 ((rd_T45 l0 x5_1).f3.f0)) ∧ w'.cell? ⟨(ad101.add ((x5_1).toNat * 9)).block, (ad101.add ((x5_1).toNat * 9)).off + 4, none⟩ = some (.int .i64 ((rd_T45 l0 x5_1).f3.f1)) ∧ w'.cell? ⟨(ad101.add ((x5_1).toNat * 9)).block, (ad101.add ((x5_1).toNat * 9)).off + 5, none⟩ = some (.int .i64 ((rd_T45 l0 x5_1).f3.f2)) ∧ w'.cell? ⟨(ad101.add ((x5_1).toNat * 9)).block, (ad101.add ((x5_1).toNat * 9)).off + 6, none⟩ = some (.int .i64 ((rd_T45 l0 x5_1).f3.f3)) ∧ w'.cell? ⟨(ad101.add ((x5_1).toNat * 9)).block, (ad101.add ((x5_1).toNat * 9)).off + 7, none⟩ = some (.slice A101_7 ((rd_T45 l0 x5_1).f3.f4).length c101_7) ∧ w'.cell? ⟨(ad101.add ((x5_1).toNat * 9)).block, (ad101.add ((x5_1).toNat * 9)).off + 8, none⟩ = some (.bool ((rd_T45 l0 x5_1).f3.f5))) [] (fun hHeld HT_ HW_ => ?_)
     generalize wr.drew = w16 at HB HR101_7 hx101_0 hx101_1 hx101_2 hx101_3 hx101_4 hx101_5 hx101_6 hx101_7 hx101_8 hHeld ⊢
     refine pA 0 12 HT_ ?_; refine pA 1 13 HT_ ?_; refine pA 2 14 HT_ ?_; refine pA 3 15 HT_ ?_; refine pA 5 17 HT_ ?_; refine tA 4 16 HT_ HW_ hHeld ?_; refine oA 6 18 HT_ (fun K hK => ?_)
     refine goes_ Try.func37 (by kernel_rfl) rfl #[.int .i64 x1_1] (by rfl) rfl rfl zee81 ?_
     with_reducible refine (laws_markText.calls k1 x1_1 t102 _ A5.out).mono ?_
     rintro e w17 ⟨rfl, hb⟩
     refine ⟨_, rfl, ?_⟩
     have _ := aM (below_step hbZ hb)
     clear HB
     rename_i HB
     (try clear hb)
     (try clear hb2)
     (try clear hk)
     (try clear hi)
     refine hK.out _ _ sZ (fun hHeld => ?_)
     clear hK K
     refine nA 18 ?_; refine pA 7 19 HT_ ?_
     refine done_ (done_of HT_.out (by kernel_rfl)) ?_
     have p103 : 0 ≤ (x5_1 : Int) := of_decide_eq_true z1200
     have q103 : x5_1 < (l0.length : Int) := of_decide_eq_true z1200
     obtain ⟨ad103, A103_7, c103_7, e103, hx103_0, hx103_1, hx103_2, hx103_3, hx103_4, hx103_5, hx103_6, hx103_7, hx103_8, hl103_7, hi103_7⟩ := at_T45 HR0.out x5_1 p103 q103
     obtain rfl : ad101 = ad103 := (by injection e103)
     (try (have ez_ := hx103_7.symm.trans TW101_7.out; simp only [Option.some.injEq, Value.slice.injEq, true_and] at ez_; obtain ⟨ez1_, ez2_⟩ := ez_; subst ez1_ ez2_))
     have TW103_7 := aM hx103_7
     replace hx103_0 := (HB.out.cell (World.block_lt_of_cell? w _ hx103_0)).trans hx103_0
     replace hx103_1 := (HB.out.cell (World.block_lt_of_cell? w _ hx103_1)).trans hx103_1
     replace hx103_2 := (HB.out.cell (World.block_lt_of_cell? w _ hx103_2)).trans hx103_2
     replace hx103_3 := (HB.out.cell (World.block_lt_of_cell? w _ hx103_3)).trans hx103_3
     replace hx103_4 := (HB.out.cell (World.block_lt_of_cell? w _ hx103_4)).trans hx103_4
     replace hx103_5 := (HB.out.cell (World.block_lt_of_cell? w _ hx103_5)).trans hx103_5
     replace hx103_6 := (HB.out.cell (World.block_lt_of_cell? w _ hx103_6)).trans hx103_6
     replace hx103_7 := (HB.out.cell (World.block_lt_of_cell? w _ hx103_7)).trans hx103_7
     replace hx103_8 := (HB.out.cell (World.block_lt_of_cell? w _ hx103_8)).trans hx103_8
     have HR103_7 := aM hi103_7
     have HC103_7 := aM hl103_7
     clear hi103_7 hl103_7
     replace p103 := eq_true p103
     replace q103 := eq_true q103
     have p104 : 0 ≤ (x5_1 : Int) := of_decide_eq_true z1200
     have q104 : x5_1 < (l0.length : Int) := of_decide_eq_true z1200
     obtain ⟨ad104, A104_7, c104_7, e104, hx104_0, hx104_1, hx104_2, hx104_3, hx104_4, hx104_5, hx104_6, hx104_7, hx104_8, hl104_7, hi104_7⟩ := at_T45 HR0.out x5_1 p104 q104
     obtain rfl : ad101 = ad104 := (by injection e104)
     replace hx104_0 := (HB.out.cell (World.block_lt_of_cell? w _ hx104_0)).trans hx104_0
     replace hx104_1 := (HB.out.cell (World.block_lt_of_cell? w _ hx104_1)).trans hx104_1
     replace hx104_2 := (HB.out.cell (World.block_lt_of_cell? w _ hx104_2)).trans hx104_2
     replace hx104_3 := (HB.out.cell (World.block_lt_of_cell? w _ hx104_3)).trans hx104_3
     replace hx104_4 := (HB.out.cell (World.block_lt_of_cell? w _ hx104_4)).trans hx104_4
     replace hx104_5 := (HB.out.cell (World.block_lt_of_cell? w _ hx104_5)).trans hx104_5
     replace hx104_6 := (HB.out.cell (World.block_lt_of_cell? w _ hx104_6)).trans hx104_6
     replace hx104_7 := (HB.out.cell (World.block_lt_of_cell? w _ hx104_7)).trans hx104_7
     replace hx104_8 := (HB.out.cell (World.block_lt_of_cell? w _ hx104_8)).trans hx104_8
     have HR104_7 := aM hi104_7
     have HC104_7 := aM hl104_7
     clear hi104_7 hl104_7
     replace p104 := eq_true p104
     replace q104 := eq_true q104
     have ea_ := Option.some.inj (hx103_7.symm.trans hx104_7)
     injection ea_ with ea_ en_ ec_
     subst ea_
     subst ec_
     clear en_
     have p105 : 0 ≤ (x5_1 : Int) := of_decide_eq_true z1200
     have q105 : x5_1 < (l0.length : Int) := of_decide_eq_true z1200
     obtain ⟨ad105, A105_7, c105_7, e105, hx105_0, hx105_1, hx105_2, hx105_3, hx105_4, hx105_5, hx105_6, hx105_7, hx105_8, hl105_7, hi105_7⟩ := at_T45 HR0.out x5_1 p105 q105
     obtain rfl : ad101 = ad105 := (by injection e105)
     replace hx105_0 := (HB.out.cell (World.block_lt_of_cell? w _ hx105_0)).trans hx105_0
     replace hx105_1 := (HB.out.cell (World.block_lt_of_cell? w _ hx105_1)).trans hx105_1
     replace hx105_2 := (HB.out.cell (World.block_lt_of_cell? w _ hx105_2)).trans hx105_2
     replace hx105_3 := (HB.out.cell (World.block_lt_of_cell? w _ hx105_3)).trans hx105_3
     replace hx105_4 := (HB.out.cell (World.block_lt_of_cell? w _ hx105_4)).trans hx105_4
     replace hx105_5 := (HB.out.cell (World.block_lt_of_cell? w _ hx105_5)).trans hx105_5
     replace hx105_6 := (HB.out.cell (World.block_lt_of_cell? w _ hx105_6)).trans hx105_6
     replace hx105_7 := (HB.out.cell (World.block_lt_of_cell? w _ hx105_7)).trans hx105_7
     replace hx105_8 := (HB.out.cell (World.block_lt_of_cell? w _ hx105_8)).trans hx105_8
     have HR105_7 := aM hi105_7
     have HC105_7 := aM hl105_7
     clear hi105_7 hl105_7
     replace p105 := eq_true p105
     replace q105 := eq_true q105
     have ea_ := Option.some.inj (hx103_7.symm.trans hx105_7)
     injection ea_ with ea_ en_ ec_
     subst ea_
     subst ec_
     clear en_
     have p106 : 0 ≤ (x5_1 : Int) := of_decide_eq_true z1200
     have q106 : x5_1 < (l0.length : Int) := of_decide_eq_true z1200
     obtain ⟨ad106, A106_7, c106_7, e106, hx106_0, hx106_1, hx106_2, hx106_3, hx106_4, hx106_5, hx106_6, hx106_7, hx106_8, hl106_7, hi106_7⟩ := at_T45 HR0.out x5_1 p106 q106
     obtain rfl : ad101 = ad106 := (by injection e106)
     replace hx106_0 := (HB.out.cell (World.block_lt_of_cell? w _ hx106_0)).trans hx106_0
     replace hx106_1 := (HB.out.cell (World.block_lt_of_cell? w _ hx106_1)).trans hx106_1
     replace hx106_2 := (HB.out.cell (World.block_lt_of_cell? w _ hx106_2)).trans hx106_2
     replace hx106_3 := (HB.out.cell (World.block_lt_of_cell? w _ hx106_3)).trans hx106_3
     replace hx106_4 := (HB.out.cell (World.block_lt_of_cell? w _ hx106_4)).trans hx106_4
     replace hx106_5 := (HB.out.cell (World.block_lt_of_cell? w _ hx106_5)).trans hx106_5
     replace hx106_6 := (HB.out.cell (World.block_lt_of_cell? w _ hx106_6)).trans hx106_6
     replace hx106_7 := (HB.out.cell (World.block_lt_of_cell? w _ hx106_7)).trans hx106_7
     replace hx106_8 := (HB.out.cell (World.block_lt_of_cell? w _ hx106_8)).trans hx106_8
     have HR106_7 := aM hi106_7
     have HC106_7 := aM hl106_7
     clear hi106_7 hl106_7
     replace p106 := eq_true p106
     replace q106 := eq_true q106
     have ea_ := Option.some.inj (hx103_7.symm.trans hx106_7)
     injection ea_ with ea_ en_ ec_
     subst ea_
     subst ec_
     clear en_
     have p107 : 0 ≤ (x5_1 : Int) := of_decide_eq_true z1200
     have q107 : x5_1 < (l0.length : Int) := of_decide_eq_true z1200
     obtain ⟨ad107, A107_7, c107_7, e107, hx107_0, hx107_1, hx107_2, hx107_3, hx107_4, hx107_5, hx107_6, hx107_7, hx107_8, hl107_7, hi107_7⟩ := at_T45 HR0.out x5_1 p107 q107
     obtain rfl : ad101 = ad107 := (by injection e107)
     replace hx107_0 := (HB.out.cell (World.block_lt_of_cell? w _ hx107_0)).trans hx107_0
     replace hx107_1 := (HB.out.cell (World.block_lt_of_cell? w _ hx107_1)).trans hx107_1
     replace hx107_2 := (HB.out.cell (World.block_lt_of_cell? w _ hx107_2)).trans hx107_2
     replace hx107_3 := (HB.out.cell (World.block_lt_of_cell? w _ hx107_3)).trans hx107_3
     replace hx107_4 := (HB.out.cell (World.block_lt_of_cell? w _ hx107_4)).trans hx107_4
     replace hx107_5 := (HB.out.cell (World.block_lt_of_cell? w _ hx107_5)).trans hx107_5
     replace hx107_6 := (HB.out.cell (World.block_lt_of_cell? w _ hx107_6)).trans hx107_6
     replace hx107_7 := (HB.out.cell (World.block_lt_of_cell? w _ hx107_7)).trans hx107_7
     replace hx107_8 := (HB.out.cell (World.block_lt_of_cell? w _ hx107_8)).trans hx107_8
     have HR107_7 := aM hi107_7
     have HC107_7 := aM hl107_7
     clear hi107_7 hl107_7
     replace p107 := eq_true p107
     replace q107 := eq_true q107
     have ea_ := Option.some.inj (hx103_7.symm.trans hx107_7)
     injection ea_ with ea_ en_ ec_
     subst ea_
     subst ec_
     clear en_
     have p108 : 0 ≤ (x5_1 : Int) := of_decide_eq_true z1200
     have q108 : x5_1 < (l0.length : Int) := of_decide_eq_true z1200
     obtain ⟨ad108, A108_7, c108_7, e108, hx108_0, hx108_1, hx108_2, hx108_3, hx108_4, hx108_5, hx108_6, hx108_7, hx108_8, hl108_7, hi108_7⟩ := at_T45 HR0.out x5_1 p108 q108
     obtain rfl : ad101 = ad108 := (by injection e108)
     replace hx108_0 := (HB.out.cell (World.block_lt_of_cell? w _ hx108_0)).trans hx108_0
     replace hx108_1 := (HB.out.cell (World.block_lt_of_cell? w _ hx108_1)).trans hx108_1
     replace hx108_2 := (HB.out.cell (World.block_lt_of_cell? w _ hx108_2)).trans hx108_2
     replace hx108_3 := (HB.out.cell (World.block_lt_of_cell? w _ hx108_3)).trans hx108_3
     replace hx108_4 := (HB.out.cell (World.block_lt_of_cell? w _ hx108_4)).trans hx108_4
     replace hx108_5 := (HB.out.cell (World.block_lt_of_cell? w _ hx108_5)).trans hx108_5
     replace hx108_6 := (HB.out.cell (World.block_lt_of_cell? w _ hx108_6)).trans hx108_6
     replace hx108_7 := (HB.out.cell (World.block_lt_of_cell? w _ hx108_7)).trans hx108_7
     replace hx108_8 := (HB.out.cell (World.block_lt_of_cell? w _ hx108_8)).trans hx108_8
     have HR108_7 := aM hi108_7
     have HC108_7 := aM hl108_7
     clear hi108_7 hl108_7
     replace p108 := eq_true p108
     replace q108 := eq_true q108
     have ea_ := Option.some.inj (hx103_7.symm.trans hx108_7)
     injection ea_ with ea_ en_ ec_
     subst ea_
     subst ec_
     clear en_
     have p109 : 0 ≤ (x5_1 : Int) := of_decide_eq_true z1200
     have q109 : x5_1 < (l0.length : Int) := of_decide_eq_true z1200
     obtain ⟨ad109, A109_7, c109_7, e109, hx109_0, hx109_1, hx109_2, hx109_3, hx109_4, hx109_5, hx109_6, hx109_7, hx109_8, hl109_7, hi109_7⟩ := at_T45 HR0.out x5_1 p109 q109
     obtain rfl : ad101 = ad109 := (by injection e109)
     replace hx109_0 := (HB.out.cell (World.block_lt_of_cell? w _ hx109_0)).trans hx109_0
     replace hx109_1 := (HB.out.cell (World.block_lt_of_cell? w _ hx109_1)).trans hx109_1
     replace hx109_2 := (HB.out.cell (World.block_lt_of_cell? w _ hx109_2)).trans hx109_2
     replace hx109_3 := (HB.out.cell (World.block_lt_of_cell? w _ hx109_3)).trans hx109_3
     replace hx109_4 := (HB.out.cell (World.block_lt_of_cell? w _ hx109_4)).trans hx109_4
     replace hx109_5 := (HB.out.cell (World.block_lt_of_cell? w _ hx109_5)).trans hx109_5
     replace hx109_6 := (HB.out.cell (World.block_lt_of_cell? w _ hx109_6)).trans hx109_6
     replace hx109_7 := (HB.out.cell (World.block_lt_of_cell? w _ hx109_7)).trans hx109_7
     replace hx109_8 := (HB.out.cell (World.block_lt_of_cell? w _ hx109_8)).trans hx109_8
     have HR109_7 := aM hi109_7
     have HC109_7 := aM hl109_7
     clear hi109_7 hl109_7
     replace p109 := eq_true p109
     replace q109 := eq_true q109
     have ea_ := Option.some.inj (hx103_7.symm.trans hx109_7)
     injection ea_ with ea_ en_ ec_
     subst ea_
     subst ec_
     clear en_
     try go_wp2_with (first | ((with_reducible refine gate_callee (f := 39) rfl ?_); refine goesL_ (some 87) rfl rfl Try.func39 (by kernel_rfl) rfl #[.slice A103_7 ((rd_T45 l0 x5_1).f3.f4).length c103_7, .int .i64 (wrap64 ((wrap64 ((wrap64 ((wrap64 ((wrap64 ((wrap64 ((wrap64 (x1_1 + 1)) + 1)) + 1)) + 1)) + 1)) + 1)) + 1))] rfl zee81 ?_; (with_reducible refine (laws_heldIntS.calls k1 _ _ ((rd_T45 l0 x5_1).f3.f4) (wrap64 ((wrap64 ((wrap64 ((wrap64 ((wrap64 ((wrap64 ((wrap64 (x1_1 + 1)) + 1)) + 1)) + 1)) + 1)) + 1)) + 1)) t110 _ ?side1 ?side2 A13.out).mono ?_); (case side1 => exact (cZ (Kd.C_below HR109_7.out HB.out))); (case side2 => exact HC109_7.out); rintro e w' ⟨rfl, ⟨nd, rfl⟩⟩; refine ⟨_, rfl, ?_⟩; have p111 : 0 ≤ (x5_1 : Int) := of_decide_eq_true z1200; have q111 : x5_1 < (l0.length : Int) := of_decide_eq_true z1200; obtain ⟨ad111, A111_7, c111_7, e111, hx111_0, hx111_1, hx111_2, hx111_3, hx111_4, hx111_5, hx111_6, hx111_7, hx111_8, hl111_7, hi111_7⟩ := at_T45 HR0.out x5_1 p111 q111; obtain rfl : ad101 = ad111 := (by injection e111); replace hx111_0 := (HB.out.cell (World.block_lt_of_cell? w _ hx111_0)).trans hx111_0; replace hx111_1 := (HB.out.cell (World.block_lt_of_cell? w _ hx111_1)).trans hx111_1; replace hx111_2 := (HB.out.cell (World.block_lt_of_cell? w _ hx111_2)).trans hx111_2; replace hx111_3 := (HB.out.cell (World.block_lt_of_cell? w _ hx111_3)).trans hx111_3; replace hx111_4 := (HB.out.cell (World.block_lt_of_cell? w _ hx111_4)).trans hx111_4; replace hx111_5 := (HB.out.cell (World.block_lt_of_cell? w _ hx111_5)).trans hx111_5; replace hx111_6 := (HB.out.cell (World.block_lt_of_cell? w _ hx111_6)).trans hx111_6; replace hx111_7 := (HB.out.cell (World.block_lt_of_cell? w _ hx111_7)).trans hx111_7; replace hx111_8 := (HB.out.cell (World.block_lt_of_cell? w _ hx111_8)).trans hx111_8; have HR111_7 := aM hi111_7; have HC111_7 := aM hl111_7; clear hi111_7 hl111_7; replace p111 := eq_true p111; replace q111 := eq_true q111; have ea_ := Option.some.inj (hx103_7.symm.trans hx111_7); injection ea_ with ea_ en_ ec_; subst ea_; subst ec_; clear en_))
     go_roundg k1
     case measure => have := HK1.out; omega
     case rel => exact ⟨(wrap64 (t110 + 1)), (wrap64 (x5_1 + 1)), z4458, z4458, H', ⟨zfb39⟩, ⟨z5acd⟩⟩
   · rw [if_neg c3] at H
     have c3b0 : decide (x5_1 < (l0.length : Int)) = false := decide_eq_false c3
     clear c3
     obtain rfl := Option.some.inj H
     go_wp2
     go_ret
     exact ⟨z674d, z5acd⟩

end Go.Proofs.Ytdkokfnnebdppaa.P

-- written by a program of this session's (wip/pp)
namespace Go.Proofs.Ytdkokfnnebdppaa.P
open Go.RowKit Go.Proofs.YtdkokfnnebdppaaW.PrintWords Go.Proofs.YtdkokfnnebdppaaW.PrintLast Go.Proofs.YtdkokfnnebdppaaW.PrintMore
attribute [local go_sem] max2_int min2_int max_two min_two max_three min_three max_four min_four str_geq str_gtr str_leq   -- for this text's walks alone
set_option linter.unusedVariables false
set_option linter.unusedSimpArgs false

/-! ### laws_szIntS: function 75 -/
def laws_szIntS.f (l0 : List Int) (a1 : Int) : Option (Int) := if (wrap64 (a1 - (l0.length : Int))) < 0 then (some (-1)) else (some (wrap64 (a1 - (l0.length : Int))))
set_option maxHeartbeats 8000000 in
set_option maxRecDepth 100000 in
theorem laws_szIntS.calls (A0 : Option Addr) (c0 : Nat) (l0 : List Int) (a1 : Int) (r : Int) (w : World) (hr0 : Kd.C (Kd.int .i64) w A0 l0.length l0) (hc0 : l0.length ≤ c0) (h : laws_szIntS.f l0 a1 = some r) :
 Calls Try.prog 75 #[.slice A0 l0.length c0, .int .i64 a1] w fun e w' => e = .returned (.int .i64 r) ∧ Drawn0 w w' := by
 have HR0 := aM hr0
 have HC0 := aM hc0
 clear hr0 hc0
 have H : (if (wrap64 (a1 - (l0.length : Int))) < 0 then (some (-1)) else (some (wrap64 (a1 - (l0.length : Int))))) = some r := h
 clear h
 by_cases c3 : (wrap64 (a1 - (l0.length : Int))) < 0
 · rw [if_pos c3] at H
   have c3b0 : decide ((wrap64 (a1 - (l0.length : Int))) < 0) = true := decide_eq_true c3
   clear c3
   obtain rfl := Option.some.inj H
   go_enter Try.func75, Try.ntmps75
   go_wp2
   go_ret
   exact ⟨z4458, za9de⟩
 · rw [if_neg c3] at H
   have c3b0 : decide ((wrap64 (a1 - (l0.length : Int))) < 0) = false := decide_eq_false c3
   clear c3
   obtain rfl := Option.some.inj H
   go_enter Try.func75, Try.ntmps75
   go_wp2
   go_ret
   exact ⟨z4458, za9de⟩

end Go.Proofs.Ytdkokfnnebdppaa.P

-- written by a program of this session's (wip/pp)
namespace Go.Proofs.Ytdkokfnnebdppaa.P
open Go.RowKit Go.Proofs.YtdkokfnnebdppaaW.PrintWords Go.Proofs.YtdkokfnnebdppaaW.PrintLast Go.Proofs.YtdkokfnnebdppaaW.PrintMore
attribute [local go_sem] max2_int min2_int max_two min_two max_three min_three max_four min_four str_geq str_gtr str_leq   -- for this text's walks alone
set_option linter.unusedVariables false
set_option linter.unusedSimpArgs false

/-! ### laws_szAgg: function 42 -/
def laws_szAgg.f (a0_0 : Int) (a0_1 : Int) (a0_2 : Int) (a0_3 : Int) (l0_4 : List Int) (a0_5 : Bool) (a1 : Int) : Option (Int) := (laws_szIntS.f l0_4 a1).bind fun t102 => (if t102 < 0 then (some (-1)) else (some t102))
set_option maxHeartbeats 8000000 in
set_option maxRecDepth 100000 in
theorem laws_szAgg.calls (a0_0 : Int) (a0_1 : Int) (a0_2 : Int) (a0_3 : Int) (A0_4 : Option Addr) (c0_4 : Nat) (l0_4 : List Int) (a0_5 : Bool) (a1 : Int) (r : Int) (w : World) (hr0_4 : Kd.C (Kd.int .i64) w A0_4 l0_4.length l0_4) (hc0_4 : l0_4.length ≤ c0_4) (h : laws_szAgg.f a0_0 a0_1 a0_2 a0_3 l0_4 a0_5 a1 = some r) :
 Calls Try.prog 42 #[.agg #[.int .i64 a0_0, .int .i64 a0_1, .int .i64 a0_2, .int .i64 a0_3, .slice A0_4 l0_4.length c0_4, .bool a0_5], .int .i64 a1] w fun e w' => e = .returned (.int .i64 r) ∧ Below w.heap.size w w' := by
 have hu39 := Try.underlying39
 have HR0_4 := aM hr0_4
 have HC0_4 := aM hc0_4
 clear hr0_4 hc0_4
 have HB := aM (Below.refl w.heap.size w)
 have H : ((laws_szIntS.f l0_4 a1).bind fun t102 => (if t102 < 0 then (some (-1)) else (some t102))) = some r := h
 clear h
 replace H := Option.bind_eq_some_iff.mp H
 obtain ⟨t102, A30, H⟩ := H
 try dsimp only at H
 have A3 := aM A30
 clear A30
 by_cases c4 : t102 < 0
 · rw [if_pos c4] at H
   have c4b0 : decide (t102 < 0) = true := decide_eq_true c4
   clear c4
   obtain rfl := Option.some.inj H
   go_enter Try.func42, Try.ntmps42
   go_wp2_with (first | ((with_reducible refine gate_dst (N := 2) rfl ?_); refine box_event ?hg (N := 2) ?hd (cs := #[.int .i64 a0_0, .int .i64 a0_1, .int .i64 a0_2, .int .i64 a0_3, .slice A0_4 l0_4.length c0_4, .bool a0_5]) (t := 39) ?hr ?_; (case hd => rfl); (case hg => rfl); (case hr => first | (go_simp; done) | (go_simp; rfl)); intro gb101 hg w5 hbox hb; have _ := aM (below_step hbZ hb); have _ := aM hbox; have _ := szZ hg; have _ := szZ hg; clear HB; rename_i HB BK101 GW101 GE101; clear hb hbox hg; obtain ⟨hcz6_0, hcz6_1, hcz6_2, hcz6_3, hcz6_4, hcz6_5, hfz6_0, hfz6_1, hfz6_2, hfz6_3, hfz6_4, hfz6_5⟩ := cellsZ6 BK101.out) | ((with_reducible refine gate_callee (f := 75) rfl ?_); refine goesL_ (some 8) rfl rfl Try.func75 (by kernel_rfl) rfl #[.slice A0_4 l0_4.length c0_4, .int .i64 a1] rfl zee81 ?_; (with_reducible refine (laws_szIntS.calls _ _ l0_4 a1 t102 _ ?side1 ?side2 A3.out).mono ?_); (case side1 => exact (cZ (Kd.C_below HR0_4.out HB.out))); (case side2 => exact HC0_4.out); rintro e w' ⟨rfl, ⟨nd, rfl⟩⟩; refine ⟨_, rfl, ?_⟩))
   go_ret
   exact ⟨z674d, zcb41⟩
 · rw [if_neg c4] at H
   have c4b0 : decide (t102 < 0) = false := decide_eq_false c4
   clear c4
   obtain rfl := Option.some.inj H
   go_enter Try.func42, Try.ntmps42
   go_wp2_with (first | ((with_reducible refine gate_dst (N := 2) rfl ?_); refine box_event ?hg (N := 2) ?hd (cs := #[.int .i64 a0_0, .int .i64 a0_1, .int .i64 a0_2, .int .i64 a0_3, .slice A0_4 l0_4.length c0_4, .bool a0_5]) (t := 39) ?hr ?_; (case hd => rfl); (case hg => rfl); (case hr => first | (go_simp; done) | (go_simp; rfl)); intro gb101 hg w7 hbox hb; have _ := aM (below_step hbZ hb); have _ := aM hbox; have _ := szZ hg; have _ := szZ hg; clear HB; rename_i HB BK101 GW101 GE101; clear hb hbox hg; obtain ⟨hcz8_0, hcz8_1, hcz8_2, hcz8_3, hcz8_4, hcz8_5, hfz8_0, hfz8_1, hfz8_2, hfz8_3, hfz8_4, hfz8_5⟩ := cellsZ6 BK101.out) | ((with_reducible refine gate_callee (f := 75) rfl ?_); refine goesL_ (some 8) rfl rfl Try.func75 (by kernel_rfl) rfl #[.slice A0_4 l0_4.length c0_4, .int .i64 a1] rfl zee81 ?_; (with_reducible refine (laws_szIntS.calls _ _ l0_4 a1 t102 _ ?side1 ?side2 A3.out).mono ?_); (case side1 => exact (cZ (Kd.C_below HR0_4.out HB.out))); (case side2 => exact HC0_4.out); rintro e w' ⟨rfl, ⟨nd, rfl⟩⟩; refine ⟨_, rfl, ?_⟩))
   go_ret
   exact ⟨z674d, zcb41⟩

end Go.Proofs.Ytdkokfnnebdppaa.P

-- written by a program of this session's (wip/pp)
namespace Go.Proofs.Ytdkokfnnebdppaa.P
open Go.RowKit Go.Proofs.YtdkokfnnebdppaaW.PrintWords Go.Proofs.YtdkokfnnebdppaaW.PrintLast Go.Proofs.YtdkokfnnebdppaaW.PrintMore
attribute [local go_sem] max2_int min2_int max_two min_two max_three min_three max_four min_four str_geq str_gtr str_leq   -- for this text's walks alone
set_option linter.unusedVariables false
set_option linter.unusedSimpArgs false

/-! ### laws_szEntry: function 19 -/
def laws_szEntry.f (a0_0 : ByteArray) (a0_1 : Int) (a0_2 : Int) (a0_3 : Int) (a0_4 : Int) (a0_5 : Int) (a0_6 : Int) (l0_7 : List Int) (a0_8 : Bool) (a1 : Int) : Option (Int) := if (wrap64 (a1 - (a0_0.size : Int))) < 0 then (some (-1)) else ((laws_szAgg.f a0_3 a0_4 a0_5 a0_6 l0_7 a0_8 (wrap64 (a1 - (a0_0.size : Int)))).bind fun t102 => (if t102 < 0 then (some (-1)) else (some t102)))
set_option maxHeartbeats 8000000 in
set_option maxRecDepth 100000 in
theorem laws_szEntry.calls (a0_0 : ByteArray) (a0_1 : Int) (a0_2 : Int) (a0_3 : Int) (a0_4 : Int) (a0_5 : Int) (a0_6 : Int) (A0_7 : Option Addr) (c0_7 : Nat) (l0_7 : List Int) (a0_8 : Bool) (a1 : Int) (r : Int) (w : World) (hr0_7 : Kd.C (Kd.int .i64) w A0_7 l0_7.length l0_7) (hc0_7 : l0_7.length ≤ c0_7) (h : laws_szEntry.f a0_0 a0_1 a0_2 a0_3 a0_4 a0_5 a0_6 l0_7 a0_8 a1 = some r) :
 Calls Try.prog 19 #[.agg #[.string a0_0, .int .i64 a0_1, .int .i64 a0_2, .int .i64 a0_3, .int .i64 a0_4, .int .i64 a0_5, .int .i64 a0_6, .slice A0_7 l0_7.length c0_7, .bool a0_8], .int .i64 a1] w fun e w' => e = .returned (.int .i64 r) ∧ Below w.heap.size w w' := by
 have hu41 := Try.underlying41
 have hu39 := Try.underlying39
 have HR0_7 := aM hr0_7
 have HC0_7 := aM hc0_7
 clear hr0_7 hc0_7
 have HB := aM (Below.refl w.heap.size w)
 have H : (if (wrap64 (a1 - (a0_0.size : Int))) < 0 then (some (-1)) else ((laws_szAgg.f a0_3 a0_4 a0_5 a0_6 l0_7 a0_8 (wrap64 (a1 - (a0_0.size : Int)))).bind fun t102 => (if t102 < 0 then (some (-1)) else (some t102)))) = some r := h
 clear h
 by_cases c3 : (wrap64 (a1 - (a0_0.size : Int))) < 0
 · rw [if_pos c3] at H
   have c3b0 : decide ((wrap64 (a1 - (a0_0.size : Int))) < 0) = true := decide_eq_true c3
   clear c3
   obtain rfl := Option.some.inj H
   go_enter Try.func19, Try.ntmps19
   go_wp2_with (first | ((with_reducible refine gate_dst (N := 2) rfl ?_); refine box_event ?hg (N := 2) ?hd (cs := #[.string a0_0, .int .i64 a0_1, .int .i64 a0_2, .int .i64 a0_3, .int .i64 a0_4, .int .i64 a0_5, .int .i64 a0_6, .slice A0_7 l0_7.length c0_7, .bool a0_8]) (t := 41) ?hr ?_; (case hd => rfl); (case hg => rfl); (case hr => first | (go_simp; done) | (go_simp; rfl)); intro gb101 hg w4 hbox hb; have _ := aM (below_step hbZ hb); have _ := aM hbox; have _ := szZ hg; have _ := szZ hg; clear HB; rename_i HB BK101 GW101 GE101; clear hb hbox hg; obtain ⟨hcz5_0, hcz5_1, hcz5_2, hcz5_3, hcz5_4, hcz5_5, hcz5_6, hcz5_7, hcz5_8, hfz5_0, hfz5_1, hfz5_2, hfz5_3, hfz5_4, hfz5_5, hfz5_6, hfz5_7, hfz5_8⟩ := cellsZ9 BK101.out))
   go_ret
   exact ⟨z674d, zcb41⟩
 · rw [if_neg c3] at H
   have c3b0 : decide ((wrap64 (a1 - (a0_0.size : Int))) < 0) = false := decide_eq_false c3
   clear c3
   replace H := Option.bind_eq_some_iff.mp H
   obtain ⟨t102, A60, H⟩ := H
   try dsimp only at H
   have A6 := aM A60
   clear A60
   by_cases c7 : t102 < 0
   · rw [if_pos c7] at H
     have c7b0 : decide (t102 < 0) = true := decide_eq_true c7
     clear c7
     obtain rfl := Option.some.inj H
     go_enter Try.func19, Try.ntmps19
     go_wp2_with (first | ((with_reducible refine gate_dst (N := 2) rfl ?_); refine box_event ?hg (N := 2) ?hd (cs := #[.string a0_0, .int .i64 a0_1, .int .i64 a0_2, .int .i64 a0_3, .int .i64 a0_4, .int .i64 a0_5, .int .i64 a0_6, .slice A0_7 l0_7.length c0_7, .bool a0_8]) (t := 41) ?hr ?_; (case hd => rfl); (case hg => rfl); (case hr => first | (go_simp; done) | (go_simp; rfl)); intro gb101 hg w8 hbox hb; have _ := aM (below_step hbZ hb); have _ := aM hbox; have _ := szZ hg; have _ := szZ hg; clear HB; rename_i HB BK101 GW101 GE101; clear hb hbox hg; obtain ⟨hcz9_0, hcz9_1, hcz9_2, hcz9_3, hcz9_4, hcz9_5, hcz9_6, hcz9_7, hcz9_8, hfz9_0, hfz9_1, hfz9_2, hfz9_3, hfz9_4, hfz9_5, hfz9_6, hfz9_7, hfz9_8⟩ := cellsZ9 BK101.out) | ((with_reducible refine gate_callee (f := 42) rfl ?_); refine goesL_ (some 15) rfl rfl Try.func42 (by kernel_rfl) rfl #[.agg #[.int .i64 a0_3, .int .i64 a0_4, .int .i64 a0_5, .int .i64 a0_6, .slice A0_7 l0_7.length c0_7, .bool a0_8], .int .i64 (wrap64 (a1 - (a0_0.size : Int)))] rfl zee81 ?_; (with_reducible refine (laws_szAgg.calls a0_3 a0_4 a0_5 a0_6 _ _ l0_7 a0_8 (wrap64 (a1 - (a0_0.size : Int))) t102 _ ?side1 ?side2 A6.out).mono ?_); (case side1 => exact (cZ (Kd.C_below HR0_7.out HB.out))); (case side2 => exact HC0_7.out); rintro e w10 ⟨rfl, hb⟩; refine ⟨_, rfl, ?_⟩; have _ := bB gb101 hb; have _ := aM (below_step hbZ hb); clear BK101 HB; rename_i BK101 HB; (try clear hb)))
     go_ret
     exact ⟨z674d, zcb41⟩
   · rw [if_neg c7] at H
     have c7b0 : decide (t102 < 0) = false := decide_eq_false c7
     clear c7
     obtain rfl := Option.some.inj H
     go_enter Try.func19, Try.ntmps19
     go_wp2_with (first | ((with_reducible refine gate_dst (N := 2) rfl ?_); refine box_event ?hg (N := 2) ?hd (cs := #[.string a0_0, .int .i64 a0_1, .int .i64 a0_2, .int .i64 a0_3, .int .i64 a0_4, .int .i64 a0_5, .int .i64 a0_6, .slice A0_7 l0_7.length c0_7, .bool a0_8]) (t := 41) ?hr ?_; (case hd => rfl); (case hg => rfl); (case hr => first | (go_simp; done) | (go_simp; rfl)); intro gb101 hg w11 hbox hb; have _ := aM (below_step hbZ hb); have _ := aM hbox; have _ := szZ hg; have _ := szZ hg; clear HB; rename_i HB BK101 GW101 GE101; clear hb hbox hg; obtain ⟨hcz12_0, hcz12_1, hcz12_2, hcz12_3, hcz12_4, hcz12_5, hcz12_6, hcz12_7, hcz12_8, hfz12_0, hfz12_1, hfz12_2, hfz12_3, hfz12_4, hfz12_5, hfz12_6, hfz12_7, hfz12_8⟩ := cellsZ9 BK101.out) | ((with_reducible refine gate_callee (f := 42) rfl ?_); refine goesL_ (some 15) rfl rfl Try.func42 (by kernel_rfl) rfl #[.agg #[.int .i64 a0_3, .int .i64 a0_4, .int .i64 a0_5, .int .i64 a0_6, .slice A0_7 l0_7.length c0_7, .bool a0_8], .int .i64 (wrap64 (a1 - (a0_0.size : Int)))] rfl zee81 ?_; (with_reducible refine (laws_szAgg.calls a0_3 a0_4 a0_5 a0_6 _ _ l0_7 a0_8 (wrap64 (a1 - (a0_0.size : Int))) t102 _ ?side1 ?side2 A6.out).mono ?_); (case side1 => exact (cZ (Kd.C_below HR0_7.out HB.out))); (case side2 => exact HC0_7.out); rintro e w13 ⟨rfl, hb⟩; refine ⟨_, rfl, ?_⟩; have _ := bB gb101 hb; have _ := aM (below_step hbZ hb); clear BK101 HB; rename_i BK101 HB; (try clear hb)))
     go_ret
     exact ⟨z674d, zcb41⟩

end Go.Proofs.Ytdkokfnnebdppaa.P

-- written by a program of this session's (wip/pp)
namespace Go.Proofs.Ytdkokfnnebdppaa.P
open Go.RowKit Go.Proofs.YtdkokfnnebdppaaW.PrintWords Go.Proofs.YtdkokfnnebdppaaW.PrintLast Go.Proofs.YtdkokfnnebdppaaW.PrintMore
attribute [local go_sem] max2_int min2_int max_two min_two max_three min_three max_four min_four str_geq str_gtr str_leq   -- for this text's walks alone
set_option linter.unusedVariables false
set_option linter.unusedSimpArgs false

/-! ### laws_szEntryS: function 7 -/
def laws_szEntryS.l0 : Nat → List (S41) → Int → Int → Option (Int)
 | 0, _, _, _ => none
 | k + 1, x0, x1, x5 => if x5 < (x0.length : Int) then (if 0 ≤ x5 then ((laws_szEntry.f ((rd_T41 x0 x5).f0) ((rd_T41 x0 x5).f1) ((rd_T41 x0 x5).f2) ((rd_T41 x0 x5).f3.f0) ((rd_T41 x0 x5).f3.f1) ((rd_T41 x0 x5).f3.f2) ((rd_T41 x0 x5).f3.f3) ((rd_T41 x0 x5).f3.f4) ((rd_T41 x0 x5).f3.f5) x1).bind fun t102 => (if t102 < 0 then (some (-1)) else (laws_szEntryS.l0 k x0 t102 (wrap64 (x5 + 1))))) else (none)) else (some x1)
def laws_szEntryS.f (k : Nat) (l0 : List (S41)) (a1 : Int) : Option (Int) := if (wrap64 (a1 - (l0.length : Int))) < 0 then (some (-1)) else (laws_szEntryS.l0 k l0 (wrap64 (a1 - (l0.length : Int))) 0)
theorem laws_szEntryS.mono_l : ∀ k, (∀ y0 y1 y2, LeO (laws_szEntryS.l0 k y0 y1 y2) (laws_szEntryS.l0 (k + 1) y0 y1 y2))
 | 0 => fun _ _ _ r h => by simp [laws_szEntryS.l0] at h
 | k + 1 => by
  have ih0 := laws_szEntryS.mono_l k
  · intro y0 y1 y2
    unfold laws_szEntryS.l0
    repeat' first
     | (with_reducible first | exact ih0 .. | exact LeO.refl _ | exact LeO.none _ | refine LeO.ite ?_ ?_ | refine LeO.bind ?_ (fun _ => ?_))
     | exact LeO.none _
     | refine LeO.ite ?_ ?_
     | refine LeO.bind ?_ (fun _ => ?_)
theorem laws_szEntryS.mono : ∀ a0 a1 k, LeO (laws_szEntryS.f k a0 a1) (laws_szEntryS.f (k + 1) a0 a1) := by
 intro a0 a1 k
 have ih0 := laws_szEntryS.mono_l k
 unfold laws_szEntryS.f
 repeat' first
  | (with_reducible first | exact ih0 .. | exact LeO.refl _ | exact LeO.none _ | refine LeO.ite ?_ ?_ | refine LeO.bind ?_ (fun _ => ?_))
  | exact LeO.none _
  | refine LeO.ite ?_ ?_
  | refine LeO.bind ?_ (fun _ => ?_)
set_option maxHeartbeats 8000000 in
set_option maxRecDepth 100000 in
theorem laws_szEntryS.calls (k : Nat) (A0 : Option Addr) (c0 : Nat) (l0 : List (S41)) (a1 : Int) (r : Int) (w : World) (hr0 : Kd.C k41 w A0 l0.length l0) (hc0 : l0.length ≤ c0) (h : laws_szEntryS.f k l0 a1 = some r) :
 Calls Try.prog 7 #[.slice A0 l0.length c0, .int .i64 a1] w fun e w' => e = .returned (.int .i64 r) ∧ Below w.heap.size w w' := by
 have hu41 := Try.underlying41
 have HR0 := aM hr0
 have HC0 := aM hc0
 clear hr0 hc0
 have HB := aM (Below.refl w.heap.size w)
 have H : (if (wrap64 (a1 - (l0.length : Int))) < 0 then (some (-1)) else (laws_szEntryS.l0 k l0 (wrap64 (a1 - (l0.length : Int))) 0)) = some r := h
 clear h
 by_cases c3 : (wrap64 (a1 - (l0.length : Int))) < 0
 · rw [if_pos c3] at H
   have c3b0 : decide ((wrap64 (a1 - (l0.length : Int))) < 0) = true := decide_eq_true c3
   clear c3
   obtain rfl := Option.some.inj H
   go_enter Try.func7, Try.ntmps7
   go_wp2
   go_ret
   exact ⟨z674d, z5acd⟩
 · rw [if_neg c3] at H
   have c3b0 : decide ((wrap64 (a1 - (l0.length : Int))) < 0) = false := decide_eq_false c3
   clear c3
   have H' := aM H
   clear H
   go_enter Try.func7, Try.ntmps7
   go_wp2
   go_loopg [1, 5] k (fun kq v1 v5 w' => ∃ (x1_1 : Int) (x5_1 : Int), v1 = .int .i64 x1_1 ∧ v5 = .int .i64 x5_1 ∧ Aside0 (laws_szEntryS.l0 kq l0 x1_1 x5_1 = some r) ∧ Aside0 (kq ≤ k) ∧ Aside0 (Below w.heap.size w w'))
   case atStart => exact ⟨(wrap64 (a1 - (l0.length : Int))), (0), z4458, z4458, H', ⟨Nat.le_refl _⟩, ⟨z5acd⟩⟩
   case round =>
    clear H'
    try clear p2
    try clear c3
    try clear c3b0
    obtain ⟨x1_1, x5_1, rfl, rfl, HA, HK1, HB⟩ := hrel
    cases gk with
    | zero => exact absurd HA.out (by simp [laws_szEntryS.l0])
    | succ k1 =>
     have H := HA.out
     clear HA
     simp only [laws_szEntryS.l0] at H
     by_cases c4 : x5_1 < (l0.length : Int)
     · rw [if_pos c4] at H
       have c4b0 : decide (x5_1 < (l0.length : Int)) = true := decide_eq_true c4
       clear c4
       replace H := ifS H; obtain ⟨c5, H⟩ := H
       have c5b0 : decide (0 ≤ x5_1) = true := decide_eq_true c5
       clear c5
       replace H := Option.bind_eq_some_iff.mp H
       obtain ⟨t102, A60, H⟩ := H
       try dsimp only at H
       have A6 := aM A60
       clear A60
       by_cases c7 : t102 < 0
       · rw [if_pos c7] at H
         have c7b0 : decide (t102 < 0) = true := decide_eq_true c7
         clear c7
         obtain rfl := Option.some.inj H
         have p101 : 0 ≤ (x5_1 : Int) := of_decide_eq_true z1200
         have q101 : x5_1 < (l0.length : Int) := of_decide_eq_true z1200
         obtain ⟨ad101, A101_7, c101_7, e101, hx101_0, hx101_1, hx101_2, hx101_3, hx101_4, hx101_5, hx101_6, hx101_7, hx101_8, hl101_7, hi101_7⟩ := at_T41 HR0.out x5_1 p101 q101
         cases e101
         have TW101_7 := aM hx101_7
         replace hx101_0 := (HB.out.cell (World.block_lt_of_cell? w _ hx101_0)).trans hx101_0
         replace hx101_1 := (HB.out.cell (World.block_lt_of_cell? w _ hx101_1)).trans hx101_1
         replace hx101_2 := (HB.out.cell (World.block_lt_of_cell? w _ hx101_2)).trans hx101_2
         replace hx101_3 := (HB.out.cell (World.block_lt_of_cell? w _ hx101_3)).trans hx101_3
         replace hx101_4 := (HB.out.cell (World.block_lt_of_cell? w _ hx101_4)).trans hx101_4
         replace hx101_5 := (HB.out.cell (World.block_lt_of_cell? w _ hx101_5)).trans hx101_5
         replace hx101_6 := (HB.out.cell (World.block_lt_of_cell? w _ hx101_6)).trans hx101_6
         replace hx101_7 := (HB.out.cell (World.block_lt_of_cell? w _ hx101_7)).trans hx101_7
         replace hx101_8 := (HB.out.cell (World.block_lt_of_cell? w _ hx101_8)).trans hx101_8
         have HR101_7 := aM hi101_7
         have HC101_7 := aM hl101_7
         clear hi101_7 hl101_7
         replace p101 := eq_true p101
         replace q101 := eq_true q101
         go_wp2_with (first | ((with_reducible refine gate_callee (f := 19) rfl ?_); refine goesL_ (some 23) rfl rfl Try.func19 (by kernel_rfl) rfl #[.agg #[.string ((rd_T41 l0 x5_1).f0), .int .i64 ((rd_T41 l0 x5_1).f1), .int .i64 ((rd_T41 l0 x5_1).f2), .int .i64 ((rd_T41 l0 x5_1).f3.f0), .int .i64 ((rd_T41 l0 x5_1).f3.f1), .int .i64 ((rd_T41 l0 x5_1).f3.f2), .int .i64 ((rd_T41 l0 x5_1).f3.f3), .slice A101_7 ((rd_T41 l0 x5_1).f3.f4).length c101_7, .bool ((rd_T41 l0 x5_1).f3.f5)], .int .i64 x1_1] rfl zee81 ?_; (with_reducible refine (laws_szEntry.calls ((rd_T41 l0 x5_1).f0) ((rd_T41 l0 x5_1).f1) ((rd_T41 l0 x5_1).f2) ((rd_T41 l0 x5_1).f3.f0) ((rd_T41 l0 x5_1).f3.f1) ((rd_T41 l0 x5_1).f3.f2) ((rd_T41 l0 x5_1).f3.f3) _ _ ((rd_T41 l0 x5_1).f3.f4) ((rd_T41 l0 x5_1).f3.f5) x1_1 t102 _ ?side1 ?side2 A6.out).mono ?_); (case side1 => exact (cZ (Kd.C_below HR101_7.out HB.out))); (case side2 => exact HC101_7.out); rintro e w8 ⟨rfl, hb⟩; refine ⟨_, rfl, ?_⟩; have _ := aM (below_step hbZ hb); clear HB; rename_i HB; (try clear hb)))
         go_ret
         exact ⟨z674d, z5acd⟩
       · rw [if_neg c7] at H
         have c7b0 : decide (t102 < 0) = false := decide_eq_false c7
         clear c7
         have H' := aM H
         clear H
         have p101 : 0 ≤ (x5_1 : Int) := of_decide_eq_true z1200
         have q101 : x5_1 < (l0.length : Int) := of_decide_eq_true z1200
         obtain ⟨ad101, A101_7, c101_7, e101, hx101_0, hx101_1, hx101_2, hx101_3, hx101_4, hx101_5, hx101_6, hx101_7, hx101_8, hl101_7, hi101_7⟩ := at_T41 HR0.out x5_1 p101 q101
         cases e101
         have TW101_7 := aM hx101_7
         replace hx101_0 := (HB.out.cell (World.block_lt_of_cell? w _ hx101_0)).trans hx101_0
         replace hx101_1 := (HB.out.cell (World.block_lt_of_cell? w _ hx101_1)).trans hx101_1
         replace hx101_2 := (HB.out.cell (World.block_lt_of_cell? w _ hx101_2)).trans hx101_2
         replace hx101_3 := (HB.out.cell (World.block_lt_of_cell? w _ hx101_3)).trans hx101_3
         replace hx101_4 := (HB.out.cell (World.block_lt_of_cell? w _ hx101_4)).trans hx101_4
         replace hx101_5 := (HB.out.cell (World.block_lt_of_cell? w _ hx101_5)).trans hx101_5
         replace hx101_6 := (HB.out.cell (World.block_lt_of_cell? w _ hx101_6)).trans hx101_6
         replace hx101_7 := (HB.out.cell (World.block_lt_of_cell? w _ hx101_7)).trans hx101_7
         replace hx101_8 := (HB.out.cell (World.block_lt_of_cell? w _ hx101_8)).trans hx101_8
         have HR101_7 := aM hi101_7
         have HC101_7 := aM hl101_7
         clear hi101_7 hl101_7
         replace p101 := eq_true p101
         replace q101 := eq_true q101
         go_wp2_with (first | ((with_reducible refine gate_callee (f := 19) rfl ?_); refine goesL_ (some 23) rfl rfl Try.func19 (by kernel_rfl) rfl #[.agg #[.string ((rd_T41 l0 x5_1).f0), .int .i64 ((rd_T41 l0 x5_1).f1), .int .i64 ((rd_T41 l0 x5_1).f2), .int .i64 ((rd_T41 l0 x5_1).f3.f0), .int .i64 ((rd_T41 l0 x5_1).f3.f1), .int .i64 ((rd_T41 l0 x5_1).f3.f2), .int .i64 ((rd_T41 l0 x5_1).f3.f3), .slice A101_7 ((rd_T41 l0 x5_1).f3.f4).length c101_7, .bool ((rd_T41 l0 x5_1).f3.f5)], .int .i64 x1_1] rfl zee81 ?_; (with_reducible refine (laws_szEntry.calls ((rd_T41 l0 x5_1).f0) ((rd_T41 l0 x5_1).f1) ((rd_T41 l0 x5_1).f2) ((rd_T41 l0 x5_1).f3.f0) ((rd_T41 l0 x5_1).f3.f1) ((rd_T41 l0 x5_1).f3.f2) ((rd_T41 l0 x5_1).f3.f3) _ _ ((rd_T41 l0 x5_1).f3.f4) ((rd_T41 l0 x5_1).f3.f5) x1_1 t102 _ ?side1 ?side2 A6.out).mono ?_); (case side1 => exact (cZ (Kd.C_below HR101_7.out HB.out))); (case side2 => exact HC101_7.out); rintro e w9 ⟨rfl, hb⟩; refine ⟨_, rfl, ?_⟩; have _ := aM (below_step hbZ hb); clear HB; rename_i HB; (try clear hb)))
         go_roundg k1
         case measure => have := HK1.out; omega
         case rel => exact ⟨(t102), (wrap64 (x5_1 + 1)), z4458, z4458, H', ⟨zfb39⟩, ⟨z5acd⟩⟩
     · rw [if_neg c4] at H
       have c4b0 : decide (x5_1 < (l0.length : Int)) = false := decide_eq_false c4
       clear c4
       obtain rfl := Option.some.inj H
       go_wp2
       go_ret
       exact ⟨z674d, z5acd⟩

end Go.Proofs.Ytdkokfnnebdppaa.P

-- written by a program of this session's (wip/pp)
namespace Go.Proofs.Ytdkokfnnebdppaa.P
open Go.RowKit Go.Proofs.YtdkokfnnebdppaaW.PrintWords Go.Proofs.YtdkokfnnebdppaaW.PrintLast Go.Proofs.YtdkokfnnebdppaaW.PrintMore
attribute [local go_sem] max2_int min2_int max_two min_two max_three min_three max_four min_four str_geq str_gtr str_leq   -- for this text's walks alone
set_option linter.unusedVariables false
set_option linter.unusedSimpArgs false

/-! ### laws_toIntS: function 78 -/
def laws_toIntS.l0 : Nat → List Int → List Int → Int → Option (List Int)
 | 0, _, _, _ => none
 | k + 1, x0, x3, x4 => if x4 < (x0.length : Int) then (if 0 ≤ x4 then (if x4 < (x3.length : Int) then (laws_toIntS.l0 k x0 (x3.set (x4 : Int).toNat (rd x0 x4)) (wrap64 (x4 + 1))) else (none)) else (none)) else (some x3)
def laws_toIntS.f (k : Nat) (l0 : List Int) : Option (List Int) := if 0 ≤ (l0.length : Int) then (if ((l0.length : Int) : Int).toNat ≤ 35184372088832 then (laws_toIntS.l0 k l0 (List.replicate ((l0.length : Int) : Int).toNat 0) 0) else (none)) else (none)
theorem laws_toIntS.mono_l : ∀ k, (∀ y0 y1 y2, LeO (laws_toIntS.l0 k y0 y1 y2) (laws_toIntS.l0 (k + 1) y0 y1 y2))
 | 0 => fun _ _ _ r h => by simp [laws_toIntS.l0] at h
 | k + 1 => by
  have ih0 := laws_toIntS.mono_l k
  · intro y0 y1 y2
    unfold laws_toIntS.l0
    repeat' first
     | (with_reducible first | exact ih0 .. | exact LeO.refl _ | exact LeO.none _ | refine LeO.ite ?_ ?_ | refine LeO.bind ?_ (fun _ => ?_))
     | exact LeO.none _
     | refine LeO.ite ?_ ?_
     | refine LeO.bind ?_ (fun _ => ?_)
theorem laws_toIntS.mono : ∀ a0 k, LeO (laws_toIntS.f k a0) (laws_toIntS.f (k + 1) a0) := by
 intro a0 k
 have ih0 := laws_toIntS.mono_l k
 unfold laws_toIntS.f
 repeat' first
  | (with_reducible first | exact ih0 .. | exact LeO.refl _ | exact LeO.none _ | refine LeO.ite ?_ ?_ | refine LeO.bind ?_ (fun _ => ?_))
  | exact LeO.none _
  | refine LeO.ite ?_ ?_
  | refine LeO.bind ?_ (fun _ => ?_)
set_option maxHeartbeats 8000000 in
set_option maxRecDepth 100000 in
theorem laws_toIntS.calls (k : Nat) (A0 : Option Addr) (c0 : Nat) (l0 : List Int) (r : List Int) (w : World) (hr0 : Kd.C (Kd.int .i64) w A0 l0.length l0) (hc0 : l0.length ≤ c0) (h : laws_toIntS.f k l0 = some r) :
 Calls Try.prog 78 #[.slice A0 l0.length c0] w fun e w' => ∃ v0_ : Value, e = .returned (v0_) ∧ Kd.R (Kd.int .i64) 3 w' w.heap.size (fun _ => True) v0_ r ∧ Below w.heap.size w w' := by
 have HR0 := aM hr0
 have HC0 := aM hc0
 clear hr0 hc0
 have HB := aM (Below.refl w.heap.size w)
 have H : (if 0 ≤ (l0.length : Int) then (if ((l0.length : Int) : Int).toNat ≤ 35184372088832 then (laws_toIntS.l0 k l0 (List.replicate ((l0.length : Int) : Int).toNat 0) 0) else (none)) else (none)) = some r := h
 clear h
 replace H := ifS H; obtain ⟨c2, H⟩ := H
 have c2b0 := eq_true c2
 have c2b1 : decide (0 ≤ (l0.length : Int)) = true := decide_eq_true c2
 clear c2
 replace H := ifS H; obtain ⟨c3, H⟩ := H
 have c3b0 := eq_true c3
 have c3b1 : decide (((l0.length : Int) : Int).toNat ≤ 35184372088832) = true := decide_eq_true c3
 clear c3
 obtain ⟨y101, hy101⟩ : ∃ y_ : List Int, y_ = (List.replicate ((l0.length : Int) : Int).toNat 0) := ⟨_, rfl⟩
 first | (replace H := bindS H; rw [← hy101] at H; try dsimp only at H) | rw [← hy101] at H
 have Ny101 := aM hy101
 clear hy101
 have H' := aM H
 clear H
 go_enter Try.func78, Try.ntmps78
 go_wp2_with (first | ((with_reducible refine gate_dst (N := 7) rfl ?_); refine Kd.R_make (Kd.int .i64) _ 3 rfl (N := 7) rfl 24 _ _ rfl (l0.length : Int) rfl rfl Try.underlying24 (.int .i64 0) 8 info3 rfl (by decide) (by omega) 0 (ok := fun _ => True) (okp := fun _ => True) rfl (fun _ hk => hk) trivial (of_decide_eq_true z1200) (Nat.le_trans (Nat.mul_le_mul_right _ (of_decide_eq_true z1200 : (l0.length : Int).toNat ≤ 35184372088832)) (by omega)) (Below.refl _ _) (Nat.le_refl _) ?_; intro v102 w4 ho5 hb hg_ hnew_; clear hg_ hnew_; (first | rw [← Ny101.out] at ho5 | (simp only [Int.reduceToNat] at ho5; rw [← Ny101.out] at ho5)); have _ := aM (Kd.R_lower ho5 (below_size hbZ)); have _ := aM (below_step hbZ hb); clear HB; rename_i HO103 HB; clear hb ho5))
 go_loopg [4] k (fun kq v4 w' => ∃ (x3_1 : List Int) (x4_1 : Int), v4 = .int .i64 x4_1 ∧ Aside0 (laws_toIntS.l0 kq l0 x3_1 x4_1 = some r) ∧ Aside0 (kq ≤ k) ∧ Aside0 (Kd.R (Kd.int .i64) 3 w' w.heap.size (fun _ => True) v102 x3_1) ∧ Aside0 (Below w.heap.size w w'))
 case atStart => exact ⟨(y101), (0), z4458, H', ⟨Nat.le_refl _⟩, ⟨rZ HO103.out⟩, ⟨z5acd⟩⟩
 case round =>
  clear H'
  try clear c2
  try clear c2b0
  try clear c2b1
  try clear p2
  try clear c3
  try clear c3b0
  try clear c3b1
  obtain ⟨x3_1, x4_1, rfl, HA, HK1, HO_3, HB⟩ := hrel
  cases gk with
  | zero => exact absurd HA.out (by simp [laws_toIntS.l0])
  | succ k1 =>
   have H := HA.out
   clear HA
   simp only [laws_toIntS.l0] at H
   by_cases c6 : x4_1 < (l0.length : Int)
   · rw [if_pos c6] at H
     have c6b0 : decide (x4_1 < (l0.length : Int)) = true := decide_eq_true c6
     clear c6
     replace H := ifS H; obtain ⟨c7, H⟩ := H
     have c7b0 : decide (0 ≤ x4_1) = true := decide_eq_true c7
     clear c7
     replace H := ifS H; obtain ⟨c8, H⟩ := H
     have c8b0 : decide (x4_1 < (x3_1.length : Int)) = true := decide_eq_true c8
     clear c8
     obtain ⟨y105, hy105⟩ : ∃ y_ : List Int, y_ = (x3_1.set (x4_1 : Int).toNat (rd l0 x4_1)) := ⟨_, rfl⟩
     first | (replace H := bindS H; rw [← hy105] at H; try dsimp only at H) | rw [← hy105] at H
     have Ny105 := aM hy105
     clear hy105
     have H' := aM H
     clear H
     have p104 : 0 ≤ (x4_1 : Int) := of_decide_eq_true z1200
     have q104 : x4_1 < (l0.length : Int) := of_decide_eq_true z1200
     obtain ⟨ad104, e104, hx104_0⟩ := Kd.at_int HR0.out x4_1 p104 q104
     cases e104
     replace hx104_0 := (HB.out.cell (World.block_lt_of_cell? w _ hx104_0)).trans hx104_0
     replace p104 := eq_true p104
     replace q104 := eq_true q104
     have p9 : 0 ≤ (x4_1 : Int) := of_decide_eq_true z1200
     have q9 : (x4_1 : Int) < ((x3_1.length : Int) : Int) := of_decide_eq_true z1200
     obtain ⟨go9, co9, eo9, gb9, gl9, cl9, HG9⟩ := Kd.R_form HO_3.out (by omega)
     (first | cases eo9 | (injection eo9 with ea_ en_ ec_; (first | subst ea_ | (injection ea_ with ea_; subst ea_)); subst ec_; clear en_))
     have GB9 := aM gb9
     have GG9 := aM HG9
     clear gb9 gl9 HG9
     obtain ⟨hx9_0, hf9_0⟩ := Kd.R_celln 0 HO_3.out (x4_1 : Int) p9 q9
     replace p9 := eq_true p9
     replace q9 := eq_true q9
     have HP10 := Kd.R_putg HO_3.out (x4_1 : Int) (rd l0 x4_1)
     go_wp2_with (first | ((with_reducible refine gate_store (t := 3) (p := 20) rfl ?_); refine store_event (t := 3) (p := 20) (v := ?vo_w11) (w1 := (wr.setCell ⟨go9, (x4_1 : Int).toNat, none⟩ (.int .i64 (rd l0 x4_1)))) ?hg ?ho ?hn ?hr ?_; (case ho => rfl); (case hg => rfl); (case hn => rfl); (case hr => first | (go_simp; done) | (go_simp; rfl)); intro w11 hw; have hg : wr.grownBy w11 (some go9) := (by rw [hw]; exact HP10.2); have hp_ : Kd.R (Kd.int .i64) 3 w11 w.heap.size (fun _ => True) (.slice (some ⟨go9, 0, none⟩) x3_1.length co9) y105 := (by rw [hw, Ny105.out]; exact HP10.1); clear HP10; have _ := aM hp_; have _ := aM ((by rw [hw]; exact below_set (HB.out) GB9.out : Below w.heap.size w w11)); clear HO_3 HB; rename_i HO_3 HB; clear hg hw hp_))
     go_roundg k1
     case measure => have := HK1.out; omega
     case rel => exact ⟨(y105), (wrap64 (x4_1 + 1)), z4458, H', ⟨zfb39⟩, ⟨rZ HO_3.out⟩, ⟨z5acd⟩⟩
   · rw [if_neg c6] at H
     have c6b0 : decide (x4_1 < (l0.length : Int)) = false := decide_eq_false c6
     clear c6
     obtain rfl := Option.some.inj H
     go_wp2
     go_ret
     exact ⟨_, z674d, rZ HO_3.out, z5acd⟩
end Go.Proofs.Ytdkokfnnebdppaa.P

-- written by a program of this session's (wip/pp)
namespace Go.Proofs.Ytdkokfnnebdppaa.P
open Go.RowKit Go.Proofs.YtdkokfnnebdppaaW.PrintWords Go.Proofs.YtdkokfnnebdppaaW.PrintLast Go.Proofs.YtdkokfnnebdppaaW.PrintMore
attribute [local go_sem] max2_int min2_int max_two min_two max_three min_three max_four min_four str_geq str_gtr str_leq   -- for this text's walks alone
set_option linter.unusedVariables false
set_option linter.unusedSimpArgs false

/-! ### laws_toAgg: function 46 -/
def laws_toAgg.f (k : Nat) (a0_0 : Int) (a0_1 : Int) (a0_2 : Int) (a0_3 : Int) (l0_4 : List Int) (a0_5 : Bool) : Option (Int × Int × Int × Int × List Int × Bool) := (laws_toIntS.f k l0_4).bind fun t104 => (some (a0_0, a0_1, a0_2, a0_3, t104, a0_5))
theorem laws_toAgg.mono : ∀ a0 a1 a2 a3 a4 a5 k, LeO (laws_toAgg.f k a0 a1 a2 a3 a4 a5) (laws_toAgg.f (k + 1) a0 a1 a2 a3 a4 a5) := by
 intro a0 a1 a2 a3 a4 a5 k
 unfold laws_toAgg.f
 repeat' first
  | (with_reducible first | exact laws_toIntS.mono .. | exact LeO.refl _ | exact LeO.none _ | refine LeO.ite ?_ ?_ | refine LeO.bind ?_ (fun _ => ?_))
  | exact LeO.none _
  | refine LeO.ite ?_ ?_
  | refine LeO.bind ?_ (fun _ => ?_)
set_option maxHeartbeats 8000000 in
set_option maxRecDepth 100000 in
theorem laws_toAgg.calls (k : Nat) (a0_0 : Int) (a0_1 : Int) (a0_2 : Int) (a0_3 : Int) (A0_4 : Option Addr) (c0_4 : Nat) (l0_4 : List Int) (a0_5 : Bool) (r1 : Int) (r2 : Int) (r3 : Int) (r4 : Int) (r5 : List Int) (r6 : Bool) (w : World) (hr0_4 : Kd.C (Kd.int .i64) w A0_4 l0_4.length l0_4) (hc0_4 : l0_4.length ≤ c0_4) (h : laws_toAgg.f k a0_0 a0_1 a0_2 a0_3 l0_4 a0_5 = some (r1, r2, r3, r4, r5, r6)) :
 Calls Try.prog 46 #[.agg #[.int .i64 a0_0, .int .i64 a0_1, .int .i64 a0_2, .int .i64 a0_3, .slice A0_4 l0_4.length c0_4, .bool a0_5]] w fun e w' => ∃ v4_ : Value, e = .returned (.agg #[.int .i64 r1, .int .i64 r2, .int .i64 r3, .int .i64 r4, v4_, .bool r6]) ∧ Kd.R (Kd.int .i64) 3 w' w.heap.size (fun _ => True) v4_ r5 ∧ Below w.heap.size w w' := by
 have hu39 := Try.underlying39
 have hu26 := Try.underlying26
 have HR0_4 := aM hr0_4
 have HC0_4 := aM hc0_4
 clear hr0_4 hc0_4
 have HB := aM (Below.refl w.heap.size w)
 have H : ((laws_toIntS.f k l0_4).bind fun t104 => (some (a0_0, a0_1, a0_2, a0_3, t104, a0_5))) = some (r1, r2, r3, r4, r5, r6) := h
 clear h
 replace H := Option.bind_eq_some_iff.mp H
 obtain ⟨t104, A20, H⟩ := H
 try dsimp only at H
 have A2 := aM A20
 clear A20
 simp only [Option.some.injEq, Prod.mk.injEq] at H
 obtain ⟨rfl, rfl, rfl, rfl, rfl, rfl⟩ := H
 go_enter Try.func46, Try.ntmps46
 go_wp2_with (first | ((with_reducible refine gate_dst (N := 1) rfl ?_); refine box_event ?hg (N := 1) ?hd (cs := #[.int .i64 a0_0, .int .i64 a0_1, .int .i64 a0_2, .int .i64 a0_3, .slice A0_4 l0_4.length c0_4, .bool a0_5]) (t := 39) ?hr ?_; (case hd => rfl); (case hg => rfl); (case hr => first | (go_simp; done) | (go_simp; rfl)); intro gb101 hg w3 hbox hb; have _ := aM (below_step hbZ hb); have _ := aM hbox; have _ := szZ hg; have _ := szZ hg; clear HB; rename_i HB BK101 GW101 GE101; clear hb hbox hg) | ((with_reducible refine gate_dst (N := 2) rfl ?_); refine box_event ?hg (N := 2) ?hd (cs := #[.int .i64 0, .int .i64 0, .int .i64 0, .int .i64 0, .slice none 0 0, .bool false]) (t := 26) ?hr ?_; (case hd => rfl); (case hg => rfl); (case hr => first | (go_simp; done) | (go_simp; rfl)); intro gb102 hg w4 hbox hb; have _ := bB gb101 hb; have _ := aM (below_step hbZ hb); have _ := aM hbox; have _ := szZ hg; have _ := szZ hg; have ⟨_, _⟩ := nbB gb101 hg; clear BK101 HB; rename_i BK101 HB BK102 GW102 GE102 NB101_102 NB102_101; clear hb hbox hg) | ((with_reducible refine gate_dst (N := 3) rfl ?_); refine box_event ?hg (N := 3) ?hd (cs := #[.int .i64 0, .int .i64 0, .int .i64 0, .int .i64 0, .slice none 0 0, .bool false]) (t := 26) ?hr ?_; (case hd => rfl); (case hg => rfl); (case hr => first | (go_simp; done) | (go_simp; rfl)); intro gb103 hg w5 hbox hb; have _ := bB gb101 hb; have _ := bB gb102 hb; have _ := aM (below_step hbZ hb); have _ := aM hbox; have _ := szZ hg; have _ := szZ hg; have ⟨_, _⟩ := nbB gb101 hg; have ⟨_, _⟩ := nbB gb102 hg; clear BK101 BK102 HB; rename_i BK101 BK102 HB BK103 GW103 GE103 NB101_103 NB103_101 NB102_103 NB103_102; clear hb hbox hg; have hnb6 := NB101_102.out; have hnc6 := NB102_101.out; have hnb7 := NB101_103.out; have hnc7 := NB103_101.out; obtain ⟨hcz8_0, hcz8_1, hcz8_2, hcz8_3, hcz8_4, hcz8_5, hfz8_0, hfz8_1, hfz8_2, hfz8_3, hfz8_4, hfz8_5⟩ := cellsZ6 BK101.out; have hnb9 := NB103_102.out; have hnc9 := NB102_103.out; obtain ⟨hcz10_0, hcz10_1, hcz10_2, hcz10_3, hcz10_4, hcz10_5, hfz10_0, hfz10_1, hfz10_2, hfz10_3, hfz10_4, hfz10_5⟩ := cellsZ6 BK103.out) | ((with_reducible refine gate_callee (f := 78) rfl ?_); refine goesL_ (some 18) rfl rfl Try.func78 (by kernel_rfl) rfl #[.slice A0_4 l0_4.length c0_4] rfl zee81 ?_; (with_reducible refine (laws_toIntS.calls k _ _ l0_4 t104 _ ?side1 ?side2 A2.out).mono ?_); (case side1 => exact Kd.C_below HR0_4.out hbZ); (case side2 => exact HC0_4.out); rintro e w11 ⟨v105, rfl, ho0, hb⟩; refine ⟨_, rfl, ?_⟩; have _ := aM (Kd.R_lower ho0 (below_size hbZ)); have _ := bB gb101 hb; have _ := bB gb102 hb; have _ := aM (blk_below (g := gb103) (o := .cells #[.int .i64 a0_0, .int .i64 a0_1, .int .i64 a0_2, .int .i64 a0_3, .slice none 0 0, .bool false] 26 (0, 0)) bkZ hb); have _ := aM (below_step hbZ hb); clear BK101 BK102 BK103 HB; rename_i HO106 BK101 BK102 BK103 HB; (try clear hb); (try clear ho0); obtain ⟨Ao12, co12, eo12⟩ := Kd.R_slice HO106.out; subst eo12; obtain ⟨hcz13_0, hcz13_1, hcz13_2, hcz13_3, hcz13_4, hcz13_5, hfz13_0, hfz13_1, hfz13_2, hfz13_3, hfz13_4, hfz13_5⟩ := cellsZ6 BK103.out; obtain ⟨hcz14_0, hcz14_1, hcz14_2, hcz14_3, hcz14_4, hcz14_5, hfz14_0, hfz14_1, hfz14_2, hfz14_3, hfz14_4, hfz14_5⟩ := cellsZ6 BK101.out; obtain ⟨hcz15_0, hcz15_1, hcz15_2, hcz15_3, hcz15_4, hcz15_5, hfz15_0, hfz15_1, hfz15_2, hfz15_3, hfz15_4, hfz15_5⟩ := cellsZ6 BK102.out))
 refine bodyPost_ret (results_cell_row rfl _ _ gb102 26 #[.int .i64 a0_0, .int .i64 a0_1, .int .i64 a0_2, .int .i64 a0_3, .slice Ao12 t104.length co12, .bool a0_5] (0, 0) _ rfl bkZ Try.underlying26 rfl (by kernel_rfl)) rfl ?_
 exact ⟨_, z674d, by (with_reducible repeat (first | apply Kd.R_alloc | apply Kd.R_drewN | apply Kd.R_drew)); exact Kd.R_mono (Kd.R_far (p := ⟨gb102, 5, none⟩) (Kd.R_far (p := ⟨gb102, 4, none⟩) (Kd.R_far (p := ⟨gb102, 3, none⟩) (Kd.R_far (p := ⟨gb102, 2, none⟩) (Kd.R_far (p := ⟨gb102, 1, none⟩) (Kd.R_far (p := ⟨gb102, 0, none⟩) (Kd.R_far (p := ⟨gb103, 5, none⟩) (Kd.R_far (p := ⟨gb103, 4, none⟩) (Kd.R_types (Kd.R_types HO106.out BK103.out (by decide)) BK102.out (by decide)) (fun _ hk => hk.1.2) (.slice Ao12 t104.length co12)) (fun _ hk => hk.1.2) (.bool a0_5)) (fun _ hk => hk.2) (.int .i64 a0_0)) (fun _ hk => hk.2) (.int .i64 a0_1)) (fun _ hk => hk.2) (.int .i64 a0_2)) (fun _ hk => hk.2) (.int .i64 a0_3)) (fun _ hk => hk.2) (.slice Ao12 t104.length co12)) (fun _ hk => hk.2) (.bool a0_5)) (fun _ hk => trivial), zcb41⟩

end Go.Proofs.Ytdkokfnnebdppaa.P

-- written by a program of this session's (wip/pp)
namespace Go.Proofs.Ytdkokfnnebdppaa.P
open Go.RowKit Go.Proofs.YtdkokfnnebdppaaW.PrintWords Go.Proofs.YtdkokfnnebdppaaW.PrintLast Go.Proofs.YtdkokfnnebdppaaW.PrintMore
attribute [local go_sem] max2_int min2_int max_two min_two max_three min_three max_four min_four str_geq str_gtr str_leq   -- for this text's walks alone
set_option linter.unusedVariables false
set_option linter.unusedSimpArgs false

/-! ### laws_toEntry: function 21 -/
def laws_toEntry.f (k : Nat) (a0_0 : ByteArray) (a0_1 : Int) (a0_2 : Int) (a0_3 : Int) (a0_4 : Int) (a0_5 : Int) (a0_6 : Int) (l0_7 : List Int) (a0_8 : Bool) : Option (ByteArray × Int × Int × Int × Int × Int × Int × List Int × Bool) := (laws_toAgg.f k a0_3 a0_4 a0_5 a0_6 l0_7 a0_8).bind fun bt104 => (some (a0_0, a0_1, a0_2, bt104.1, bt104.2.1, bt104.2.2.1, bt104.2.2.2.1, bt104.2.2.2.2.1, bt104.2.2.2.2.2))
theorem laws_toEntry.mono : ∀ a0 a1 a2 a3 a4 a5 a6 a7 a8 k, LeO (laws_toEntry.f k a0 a1 a2 a3 a4 a5 a6 a7 a8) (laws_toEntry.f (k + 1) a0 a1 a2 a3 a4 a5 a6 a7 a8) := by
 intro a0 a1 a2 a3 a4 a5 a6 a7 a8 k
 unfold laws_toEntry.f
 repeat' first
  | (with_reducible first | exact laws_toAgg.mono .. | exact LeO.refl _ | exact LeO.none _ | refine LeO.ite ?_ ?_ | refine LeO.bind ?_ (fun _ => ?_))
  | exact LeO.none _
  | refine LeO.ite ?_ ?_
  | refine LeO.bind ?_ (fun _ => ?_)
set_option maxHeartbeats 8000000 in
set_option maxRecDepth 100000 in
theorem laws_toEntry.calls (k : Nat) (a0_0 : ByteArray) (a0_1 : Int) (a0_2 : Int) (a0_3 : Int) (a0_4 : Int) (a0_5 : Int) (a0_6 : Int) (A0_7 : Option Addr) (c0_7 : Nat) (l0_7 : List Int) (a0_8 : Bool) (r1 : ByteArray) (r2 : Int) (r3 : Int) (r4 : Int) (r5 : Int) (r6 : Int) (r7 : Int) (r8 : List Int) (r9 : Bool) (w : World) (hr0_7 : Kd.C (Kd.int .i64) w A0_7 l0_7.length l0_7) (hc0_7 : l0_7.length ≤ c0_7) (h : laws_toEntry.f k a0_0 a0_1 a0_2 a0_3 a0_4 a0_5 a0_6 l0_7 a0_8 = some (r1, r2, r3, r4, r5, r6, r7, r8, r9)) :
 Calls Try.prog 21 #[.agg #[.string a0_0, .int .i64 a0_1, .int .i64 a0_2, .int .i64 a0_3, .int .i64 a0_4, .int .i64 a0_5, .int .i64 a0_6, .slice A0_7 l0_7.length c0_7, .bool a0_8]] w fun e w' => ∃ v7_ : Value, e = .returned (.agg #[.string r1, .int .i64 r2, .int .i64 r3, .int .i64 r4, .int .i64 r5, .int .i64 r6, .int .i64 r7, v7_, .bool r9]) ∧ Kd.R (Kd.int .i64) 3 w' w.heap.size (fun _ => True) v7_ r8 ∧ Below w.heap.size w w' := by
 have hu41 := Try.underlying41
 have hu45 := Try.underlying45
 have hu39 := Try.underlying39
 have hu26 := Try.underlying26
 have HR0_7 := aM hr0_7
 have HC0_7 := aM hc0_7
 clear hr0_7 hc0_7
 have HB := aM (Below.refl w.heap.size w)
 have H : ((laws_toAgg.f k a0_3 a0_4 a0_5 a0_6 l0_7 a0_8).bind fun bt104 => (some (a0_0, a0_1, a0_2, bt104.1, bt104.2.1, bt104.2.2.1, bt104.2.2.2.1, bt104.2.2.2.2.1, bt104.2.2.2.2.2))) = some (r1, r2, r3, r4, r5, r6, r7, r8, r9) := h
 clear h
 replace H := Option.bind_eq_some_iff.mp H
 obtain ⟨⟨t104, t105, t106, t107, t108, t111⟩, A20, H⟩ := H
 try dsimp only at H
 have A2 := aM A20
 clear A20
 simp only [Option.some.injEq, Prod.mk.injEq] at H
 obtain ⟨rfl, rfl, rfl, rfl, rfl, rfl, rfl, rfl, rfl⟩ := H
 go_enter Try.func21, Try.ntmps21
 go_wp2_with (first | ((with_reducible refine gate_dst (N := 1) rfl ?_); refine box_event ?hg (N := 1) ?hd (cs := #[.string a0_0, .int .i64 a0_1, .int .i64 a0_2, .int .i64 a0_3, .int .i64 a0_4, .int .i64 a0_5, .int .i64 a0_6, .slice A0_7 l0_7.length c0_7, .bool a0_8]) (t := 41) ?hr ?_; (case hd => rfl); (case hg => rfl); (case hr => first | (go_simp; done) | (go_simp; rfl)); intro gb101 hg w3 hbox hb; have _ := aM (below_step hbZ hb); have _ := aM hbox; have _ := szZ hg; have _ := szZ hg; clear HB; rename_i HB BK101 GW101 GE101; clear hb hbox hg) | ((with_reducible refine gate_dst (N := 2) rfl ?_); refine box_event ?hg (N := 2) ?hd (cs := #[.string (⟨#[]⟩ : ByteArray), .int .i64 0, .int .i64 0, .int .i64 0, .int .i64 0, .int .i64 0, .int .i64 0, .slice none 0 0, .bool false]) (t := 45) ?hr ?_; (case hd => rfl); (case hg => rfl); (case hr => first | (go_simp; done) | (go_simp; rfl)); intro gb102 hg w4 hbox hb; have _ := bB gb101 hb; have _ := aM (below_step hbZ hb); have _ := aM hbox; have _ := szZ hg; have _ := szZ hg; have ⟨_, _⟩ := nbB gb101 hg; clear BK101 HB; rename_i BK101 HB BK102 GW102 GE102 NB101_102 NB102_101; clear hb hbox hg) | ((with_reducible refine gate_dst (N := 3) rfl ?_); refine box_event ?hg (N := 3) ?hd (cs := #[.string (⟨#[]⟩ : ByteArray), .int .i64 0, .int .i64 0, .int .i64 0, .int .i64 0, .int .i64 0, .int .i64 0, .slice none 0 0, .bool false]) (t := 45) ?hr ?_; (case hd => rfl); (case hg => rfl); (case hr => first | (go_simp; done) | (go_simp; rfl)); intro gb103 hg w5 hbox hb; have _ := bB gb101 hb; have _ := bB gb102 hb; have _ := aM (below_step hbZ hb); have _ := aM hbox; have _ := szZ hg; have _ := szZ hg; have ⟨_, _⟩ := nbB gb101 hg; have ⟨_, _⟩ := nbB gb102 hg; clear BK101 BK102 HB; rename_i BK101 BK102 HB BK103 GW103 GE103 NB101_103 NB103_101 NB102_103 NB103_102; clear hb hbox hg; have hnb6 := NB101_102.out; have hnc6 := NB102_101.out; have hnb7 := NB101_103.out; have hnc7 := NB103_101.out; obtain ⟨hcz8_0, hcz8_1, hcz8_2, hcz8_3, hcz8_4, hcz8_5, hcz8_6, hcz8_7, hcz8_8, hfz8_0, hfz8_1, hfz8_2, hfz8_3, hfz8_4, hfz8_5, hfz8_6, hfz8_7, hfz8_8⟩ := cellsZ9 BK101.out; have hnb9 := NB103_102.out; have hnc9 := NB102_103.out; obtain ⟨hcz10_0, hcz10_1, hcz10_2, hcz10_3, hcz10_4, hcz10_5, hcz10_6, hcz10_7, hcz10_8, hfz10_0, hfz10_1, hfz10_2, hfz10_3, hfz10_4, hfz10_5, hfz10_6, hfz10_7, hfz10_8⟩ := cellsZ9 BK103.out) | ((with_reducible refine gate_callee (f := 46) rfl ?_); refine goesL_ (some 15) rfl rfl Try.func46 (by kernel_rfl) rfl #[.agg #[.int .i64 a0_3, .int .i64 a0_4, .int .i64 a0_5, .int .i64 a0_6, .slice A0_7 l0_7.length c0_7, .bool a0_8]] rfl zee81 ?_; (with_reducible refine (laws_toAgg.calls k a0_3 a0_4 a0_5 a0_6 _ _ l0_7 a0_8 t104 t105 t106 t107 t108 t111 _ ?side1 ?side2 A2.out).mono ?_); (case side1 => exact Kd.C_below HR0_7.out hbZ); (case side2 => exact HC0_7.out); rintro e w11 ⟨v109, rfl, ho0, hb⟩; refine ⟨_, rfl, ?_⟩; have _ := aM (Kd.R_lower ho0 (below_size hbZ)); have _ := bB gb101 hb; have _ := bB gb102 hb; have _ := aM (blk_below (g := gb103) (o := .cells #[.string a0_0, .int .i64 a0_1, .int .i64 a0_2, .int .i64 0, .int .i64 0, .int .i64 0, .int .i64 0, .slice none 0 0, .bool false] 45 (0, 0)) bkZ hb); have _ := aM (below_step hbZ hb); clear BK101 BK102 BK103 HB; rename_i HO110 BK101 BK102 BK103 HB; (try clear hb); (try clear ho0); obtain ⟨hcz12_0, hcz12_1, hcz12_2, hcz12_3, hcz12_4, hcz12_5, hcz12_6, hcz12_7, hcz12_8, hfz12_0, hfz12_1, hfz12_2, hfz12_3, hfz12_4, hfz12_5, hfz12_6, hfz12_7, hfz12_8⟩ := cellsZ9 BK103.out; obtain ⟨Ao13, co13, eo13⟩ := Kd.R_slice HO110.out; subst eo13; obtain ⟨hcz14_0, hcz14_1, hcz14_2, hcz14_3, hcz14_4, hcz14_5, hcz14_6, hcz14_7, hcz14_8, hfz14_0, hfz14_1, hfz14_2, hfz14_3, hfz14_4, hfz14_5, hfz14_6, hfz14_7, hfz14_8⟩ := cellsZ9 BK102.out))
 refine bodyPost_ret (results_cell_row rfl _ _ gb102 45 #[.string a0_0, .int .i64 a0_1, .int .i64 a0_2, .int .i64 t104, .int .i64 t105, .int .i64 t106, .int .i64 t107, .slice Ao13 t108.length co13, .bool t111] (0, 0) _ rfl bkZ Try.underlying45 rfl (by kernel_rfl)) rfl ?_
 exact ⟨_, z674d, by (with_reducible repeat (first | apply Kd.R_alloc | apply Kd.R_drewN | apply Kd.R_drew)); exact Kd.R_mono (Kd.R_far (p := ⟨gb102, 8, none⟩) (Kd.R_far (p := ⟨gb102, 7, none⟩) (Kd.R_far (p := ⟨gb102, 6, none⟩) (Kd.R_far (p := ⟨gb102, 5, none⟩) (Kd.R_far (p := ⟨gb102, 4, none⟩) (Kd.R_far (p := ⟨gb102, 3, none⟩) (Kd.R_far (p := ⟨gb102, 2, none⟩) (Kd.R_far (p := ⟨gb102, 1, none⟩) (Kd.R_far (p := ⟨gb102, 0, none⟩) (Kd.R_far (p := ⟨gb103, 8, none⟩) (Kd.R_far (p := ⟨gb103, 7, none⟩) (Kd.R_far (p := ⟨gb103, 6, none⟩) (Kd.R_far (p := ⟨gb103, 5, none⟩) (Kd.R_far (p := ⟨gb103, 4, none⟩) (Kd.R_far (p := ⟨gb103, 3, none⟩) (Kd.R_types (Kd.R_types HO110.out BK103.out (by decide)) BK102.out (by decide)) (fun _ hk => hk.1.2) (.int .i64 t104)) (fun _ hk => hk.1.2) (.int .i64 t105)) (fun _ hk => hk.1.2) (.int .i64 t106)) (fun _ hk => hk.1.2) (.int .i64 t107)) (fun _ hk => hk.1.2) (.slice Ao13 t108.length co13)) (fun _ hk => hk.1.2) (.bool t111)) (fun _ hk => hk.2) (.string a0_0)) (fun _ hk => hk.2) (.int .i64 a0_1)) (fun _ hk => hk.2) (.int .i64 a0_2)) (fun _ hk => hk.2) (.int .i64 t104)) (fun _ hk => hk.2) (.int .i64 t105)) (fun _ hk => hk.2) (.int .i64 t106)) (fun _ hk => hk.2) (.int .i64 t107)) (fun _ hk => hk.2) (.slice Ao13 t108.length co13)) (fun _ hk => hk.2) (.bool t111)) (fun _ hk => trivial), zcb41⟩

end Go.Proofs.Ytdkokfnnebdppaa.P

-- written by a program of this session's (wip/pp)
namespace Go.Proofs.Ytdkokfnnebdppaa.P
open Go.RowKit Go.Proofs.YtdkokfnnebdppaaW.PrintWords Go.Proofs.YtdkokfnnebdppaaW.PrintLast Go.Proofs.YtdkokfnnebdppaaW.PrintMore
attribute [local go_sem] max2_int min2_int max_two min_two max_three min_three max_four min_four str_geq str_gtr str_leq   -- for this text's walks alone
set_option linter.unusedVariables false
set_option linter.unusedSimpArgs false

/-! ### laws_toEntryS: function 9 -/
def laws_toEntryS.l0 : Nat → List (S41) → List (S45) → Int → Option ((List (S45)))
 | 0, _, _, _ => none
 | k + 1, x0, x3, x4 => if x4 < (x0.length : Int) then (if 0 ≤ x4 then ((laws_toEntry.f k ((rd_T41 x0 x4).f0) ((rd_T41 x0 x4).f1) ((rd_T41 x0 x4).f2) ((rd_T41 x0 x4).f3.f0) ((rd_T41 x0 x4).f3.f1) ((rd_T41 x0 x4).f3.f2) ((rd_T41 x0 x4).f3.f3) ((rd_T41 x0 x4).f3.f4) ((rd_T41 x0 x4).f3.f5)).bind fun bt105 => (if x4 < (x3.length : Int) then (laws_toEntryS.l0 k x0 (x3.set (x4 : Int).toNat (⟨bt105.1, bt105.2.1, bt105.2.2.1, (⟨bt105.2.2.2.1, bt105.2.2.2.2.1, bt105.2.2.2.2.2.1, bt105.2.2.2.2.2.2.1, bt105.2.2.2.2.2.2.2.1, bt105.2.2.2.2.2.2.2.2⟩ : S26)⟩ : S45)) (wrap64 (x4 + 1))) else (none))) else (none)) else (some x3)
def laws_toEntryS.f (k : Nat) (l0 : List (S41)) : Option ((List (S45))) := if 0 ≤ (l0.length : Int) then (if ((l0.length : Int) : Int).toNat ≤ 2932031007402 then (laws_toEntryS.l0 k l0 (List.replicate ((l0.length : Int) : Int).toNat z45) 0) else (none)) else (none)
theorem laws_toEntryS.mono_l : ∀ k, (∀ y0 y1 y2, LeO (laws_toEntryS.l0 k y0 y1 y2) (laws_toEntryS.l0 (k + 1) y0 y1 y2))
 | 0 => fun _ _ _ r h => by simp [laws_toEntryS.l0] at h
 | k + 1 => by
  have ih0 := laws_toEntryS.mono_l k
  · intro y0 y1 y2
    unfold laws_toEntryS.l0
    repeat' first
     | (with_reducible first | exact ih0 .. | exact laws_toEntry.mono .. | exact LeO.refl _ | exact LeO.none _ | refine LeO.ite ?_ ?_ | refine LeO.bind ?_ (fun _ => ?_))
     | exact LeO.none _
     | refine LeO.ite ?_ ?_
     | refine LeO.bind ?_ (fun _ => ?_)
theorem laws_toEntryS.mono : ∀ a0 k, LeO (laws_toEntryS.f k a0) (laws_toEntryS.f (k + 1) a0) := by
 intro a0 k
 have ih0 := laws_toEntryS.mono_l k
 unfold laws_toEntryS.f
 repeat' first
  | (with_reducible first | exact ih0 .. | exact laws_toEntry.mono .. | exact LeO.refl _ | exact LeO.none _ | refine LeO.ite ?_ ?_ | refine LeO.bind ?_ (fun _ => ?_))
  | exact LeO.none _
  | refine LeO.ite ?_ ?_
  | refine LeO.bind ?_ (fun _ => ?_)
set_option maxHeartbeats 8000000 in
set_option maxRecDepth 100000 in
theorem laws_toEntryS.calls (k : Nat) (A0 : Option Addr) (c0 : Nat) (l0 : List (S41)) (r : List (S45)) (w : World) (hr0 : Kd.C k41 w A0 l0.length l0) (hc0 : l0.length ≤ c0) (h : laws_toEntryS.f k l0 = some r) :
 Calls Try.prog 9 #[.slice A0 l0.length c0] w fun e w' => ∃ v0_ : Value, e = .returned (v0_) ∧ Kd.S k45 45 w' w.heap.size (fun _ => True) v0_ r ∧ Below w.heap.size w w' := by
 have hu41 := Try.underlying41
 have hu45 := Try.underlying45
 have HR0 := aM hr0
 have HC0 := aM hc0
 clear hr0 hc0
 have HB := aM (Below.refl w.heap.size w)
 have H : (if 0 ≤ (l0.length : Int) then (if ((l0.length : Int) : Int).toNat ≤ 2932031007402 then (laws_toEntryS.l0 k l0 (List.replicate ((l0.length : Int) : Int).toNat z45) 0) else (none)) else (none)) = some r := h
 clear h
 replace H := ifS H; obtain ⟨c2, H⟩ := H
 have c2b0 := eq_true c2
 have c2b1 : decide (0 ≤ (l0.length : Int)) = true := decide_eq_true c2
 clear c2
 replace H := ifS H; obtain ⟨c3, H⟩ := H
 have c3b0 := eq_true c3
 have c3b1 : decide (((l0.length : Int) : Int).toNat ≤ 2932031007402) = true := decide_eq_true c3
 clear c3
 obtain ⟨y101, hy101⟩ : ∃ y_ : List (S45), y_ = (List.replicate ((l0.length : Int) : Int).toNat z45) := ⟨_, rfl⟩
 first | (replace H := bindS H; rw [← hy101] at H; try dsimp only at H) | rw [← hy101] at H
 have Ny101 := aM hy101
 clear hy101
 have H' := aM H
 clear H
 go_enter Try.func9, Try.ntmps9
 go_wp2_with (first | ((with_reducible refine gate_dst (N := 7) rfl ?_); refine Kd.S_make k45 _ 45 rfl (N := 7) rfl 29 _ _ rfl (l0.length : Int) rfl rfl Try.underlying29 (.agg #[(.string ⟨#[]⟩), (.int .i64 0), (.int .i64 0), (.int .i64 0), (.int .i64 0), (.int .i64 0), (.int .i64 0), (.slice none 0 0), (.bool false)]) 96 info45 rfl (by decide) (by omega) z45 (ok := fun _ => True) (okp := fun _ => True) (k45_mkM _ _ _ z45 (Kd.R_nil _ _ _ _ _)) (fun _ hk => hk) trivial (of_decide_eq_true z1200) (Nat.le_trans (Nat.mul_le_mul_right _ (of_decide_eq_true z1200 : (l0.length : Int).toNat ≤ 2932031007402)) (by omega)) (Below.refl _ _) (Nat.le_refl _) ?_; intro v102 w4 ho5 hb hg_ hnew_; clear hg_ hnew_; (first | rw [← Ny101.out] at ho5 | (simp only [Int.reduceToNat] at ho5; rw [← Ny101.out] at ho5)); have _ := aM (Kd.S_lower ho5 (below_size hbZ)); have _ := aM (below_step hbZ hb); clear HB; rename_i HO103 HB; clear hb ho5))
 go_loopg [4] k (fun kq v4 w' => ∃ (x3_1 : List (S45)) (x4_1 : Int), v4 = .int .i64 x4_1 ∧ Aside0 (laws_toEntryS.l0 kq l0 x3_1 x4_1 = some r) ∧ Aside0 (kq ≤ k) ∧ Aside0 (Kd.S k45 45 w' w.heap.size (fun _ => True) v102 x3_1) ∧ Aside0 (Below w.heap.size w w'))
 case atStart => exact ⟨(y101), (0), z4458, H', ⟨Nat.le_refl _⟩, ⟨z1bd3⟩, ⟨z5acd⟩⟩
 case round =>
  clear H'
  try clear c2
  try clear c2b0
  try clear c2b1
  try clear p2
  try clear c3
  try clear c3b0
  try clear c3b1
  obtain ⟨x3_1, x4_1, rfl, HA, HK1, HO_3, HB⟩ := hrel
  cases gk with
  | zero => exact absurd HA.out (by simp [laws_toEntryS.l0])
  | succ k1 =>
   have H := HA.out
   clear HA
   simp only [laws_toEntryS.l0] at H
   by_cases c6 : x4_1 < (l0.length : Int)
   · rw [if_pos c6] at H
     have c6b0 : decide (x4_1 < (l0.length : Int)) = true := decide_eq_true c6
     clear c6
     replace H := ifS H; obtain ⟨c7, H⟩ := H
     have c7b0 : decide (0 ≤ x4_1) = true := decide_eq_true c7
     clear c7
     replace H := Option.bind_eq_some_iff.mp H
     obtain ⟨⟨t105, t106, t107, t108, t109, t110, t111, t112, t115⟩, A80, H⟩ := H
     try dsimp only at H
     have A8 := aM A80
     clear A80
     replace H := ifS H; obtain ⟨c9, H⟩ := H
     have c9b0 : decide (x4_1 < (x3_1.length : Int)) = true := decide_eq_true c9
     clear c9
     obtain ⟨y116, hy116⟩ : ∃ y_ : List (S45), y_ = (x3_1.set (x4_1 : Int).toNat (⟨t105, t106, t107, (⟨t108, t109, t110, t111, t112, t115⟩ : S26)⟩ : S45)) := ⟨_, rfl⟩
     first | (replace H := bindS H; rw [← hy116] at H; try dsimp only at H) | rw [← hy116] at H
     have Ny116 := aM hy116
     clear hy116
     have H' := aM H
     clear H
     have p104 : 0 ≤ (x4_1 : Int) := of_decide_eq_true z1200
     have q104 : x4_1 < (l0.length : Int) := of_decide_eq_true z1200
     obtain ⟨ad104, A104_7, c104_7, e104, hx104_0, hx104_1, hx104_2, hx104_3, hx104_4, hx104_5, hx104_6, hx104_7, hx104_8, hl104_7, hi104_7⟩ := at_T41 HR0.out x4_1 p104 q104
     cases e104
     have TW104_7 := aM hx104_7
     replace hx104_0 := (HB.out.cell (World.block_lt_of_cell? w _ hx104_0)).trans hx104_0
     replace hx104_1 := (HB.out.cell (World.block_lt_of_cell? w _ hx104_1)).trans hx104_1
     replace hx104_2 := (HB.out.cell (World.block_lt_of_cell? w _ hx104_2)).trans hx104_2
     replace hx104_3 := (HB.out.cell (World.block_lt_of_cell? w _ hx104_3)).trans hx104_3
     replace hx104_4 := (HB.out.cell (World.block_lt_of_cell? w _ hx104_4)).trans hx104_4
     replace hx104_5 := (HB.out.cell (World.block_lt_of_cell? w _ hx104_5)).trans hx104_5
     replace hx104_6 := (HB.out.cell (World.block_lt_of_cell? w _ hx104_6)).trans hx104_6
     replace hx104_7 := (HB.out.cell (World.block_lt_of_cell? w _ hx104_7)).trans hx104_7
     replace hx104_8 := (HB.out.cell (World.block_lt_of_cell? w _ hx104_8)).trans hx104_8
     have HR104_7 := aM hi104_7
     have HC104_7 := aM hl104_7
     clear hi104_7 hl104_7
     replace p104 := eq_true p104
     replace q104 := eq_true q104
     go_wp2_with (first | ((with_reducible refine gate_callee (f := 21) rfl ?_); refine goesL_ (some 20) rfl rfl Try.func21 (by kernel_rfl) rfl #[.agg #[.string ((rd_T41 l0 x4_1).f0), .int .i64 ((rd_T41 l0 x4_1).f1), .int .i64 ((rd_T41 l0 x4_1).f2), .int .i64 ((rd_T41 l0 x4_1).f3.f0), .int .i64 ((rd_T41 l0 x4_1).f3.f1), .int .i64 ((rd_T41 l0 x4_1).f3.f2), .int .i64 ((rd_T41 l0 x4_1).f3.f3), .slice A104_7 ((rd_T41 l0 x4_1).f3.f4).length c104_7, .bool ((rd_T41 l0 x4_1).f3.f5)]] rfl zee81 ?_; (with_reducible refine (laws_toEntry.calls k1 ((rd_T41 l0 x4_1).f0) ((rd_T41 l0 x4_1).f1) ((rd_T41 l0 x4_1).f2) ((rd_T41 l0 x4_1).f3.f0) ((rd_T41 l0 x4_1).f3.f1) ((rd_T41 l0 x4_1).f3.f2) ((rd_T41 l0 x4_1).f3.f3) _ _ ((rd_T41 l0 x4_1).f3.f4) ((rd_T41 l0 x4_1).f3.f5) t105 t106 t107 t108 t109 t110 t111 t112 t115 _ ?side1 ?side2 A8.out).mono ?_); (case side1 => exact (cZ (Kd.C_below HR104_7.out HB.out))); (case side2 => exact HC104_7.out); rintro e w11 ⟨v113, rfl, ho0, hb⟩; refine ⟨_, rfl, ?_⟩; have _ := aM (Kd.S_elder' (by (with_reducible repeat (first | apply Kd.S_alloc | apply Kd.S_drewN | apply Kd.S_drew)); exact HO_3.out) (Kd.R_base ho0) hb); have _ := aM (Kd.R_lower ho0 (below_size hbZ)); have _ := aM (below_step hbZ hb); clear HO_3 HB; rename_i HO_3 HO114 HB; (try clear hb); (try clear ho0); have p10 : 0 ≤ (x4_1 : Int) := of_decide_eq_true z1200; have q10 : (x4_1 : Int) < ((x3_1.length : Int) : Int) := of_decide_eq_true z1200; obtain ⟨go10, co10, eo10, gb10, gl10, cl10, HG10⟩ := Kd.S_form HO_3.out (by omega); (first | cases eo10 | (injection eo10 with ea_ en_ ec_; (first | subst ea_ | (injection ea_ with ea_; subst ea_)); subst ec_; clear en_)); have GB10 := aM gb10; have GG10 := aM HG10; clear gb10 gl10 HG10; obtain ⟨_, ce10, hcl10, hM10, hcc10, hfr10, _, _⟩ := Kd.S_elem HO_3.out z45 (x4_1 : Int) p10 q10; obtain ⟨ve10_7, rfl, ge10_7⟩ := k45_openM hM10; have hx10_0 : w11.cell? ⟨go10, (x4_1 : Int).toNat * 9, none⟩ = some (.string ((rd_T45 x3_1 x4_1).f0)) := hcc10 0 _ rfl; have hx10_1 : w11.cell? ⟨go10, (x4_1 : Int).toNat * 9 + 1, none⟩ = some (.int .i64 ((rd_T45 x3_1 x4_1).f1)) := hcc10 1 _ rfl; have hx10_2 : w11.cell? ⟨go10, (x4_1 : Int).toNat * 9 + 2, none⟩ = some (.int .i64 ((rd_T45 x3_1 x4_1).f2)) := hcc10 2 _ rfl; have hx10_3 : w11.cell? ⟨go10, (x4_1 : Int).toNat * 9 + 3, none⟩ = some (.int .i64 ((rd_T45 x3_1 x4_1).f3.f0)) := hcc10 3 _ rfl; have hx10_4 : w11.cell? ⟨go10, (x4_1 : Int).toNat * 9 + 4, none⟩ = some (.int .i64 ((rd_T45 x3_1 x4_1).f3.f1)) := hcc10 4 _ rfl; have hx10_5 : w11.cell? ⟨go10, (x4_1 : Int).toNat * 9 + 5, none⟩ = some (.int .i64 ((rd_T45 x3_1 x4_1).f3.f2)) := hcc10 5 _ rfl; have hx10_6 : w11.cell? ⟨go10, (x4_1 : Int).toNat * 9 + 6, none⟩ = some (.int .i64 ((rd_T45 x3_1 x4_1).f3.f3)) := hcc10 6 _ rfl; have hx10_7 : w11.cell? ⟨go10, (x4_1 : Int).toNat * 9 + 7, none⟩ = some (ve10_7) := hcc10 7 _ rfl; have hx10_8 : w11.cell? ⟨go10, (x4_1 : Int).toNat * 9 + 8, none⟩ = some (.bool ((rd_T45 x3_1 x4_1).f3.f5)) := hcc10 8 _ rfl; have hf10_0 : w11.frozen? ⟨go10, (x4_1 : Int).toNat * 9, none⟩ = false := hfr10 0; have hf10_1 : w11.frozen? ⟨go10, (x4_1 : Int).toNat * 9 + 1, none⟩ = false := hfr10 1; have hf10_2 : w11.frozen? ⟨go10, (x4_1 : Int).toNat * 9 + 2, none⟩ = false := hfr10 2; have hf10_3 : w11.frozen? ⟨go10, (x4_1 : Int).toNat * 9 + 3, none⟩ = false := hfr10 3; have hf10_4 : w11.frozen? ⟨go10, (x4_1 : Int).toNat * 9 + 4, none⟩ = false := hfr10 4; have hf10_5 : w11.frozen? ⟨go10, (x4_1 : Int).toNat * 9 + 5, none⟩ = false := hfr10 5; have hf10_6 : w11.frozen? ⟨go10, (x4_1 : Int).toNat * 9 + 6, none⟩ = false := hfr10 6; have hf10_7 : w11.frozen? ⟨go10, (x4_1 : Int).toNat * 9 + 7, none⟩ = false := hfr10 7; have hf10_8 : w11.frozen? ⟨go10, (x4_1 : Int).toNat * 9 + 8, none⟩ = false := hfr10 8; clear hcl10 hcc10 hfr10 hM10; replace p10 := eq_true p10; replace q10 := eq_true q10; obtain ⟨Ao14, co14, eo14⟩ := Kd.R_slice HO114.out; subst eo14; have n_ := aM (Kd.S_mono (ok' := (fun k_ => some k_ ≠ (.slice Ao14 t112.length co14 : Value).ownBlock)) HO_3.out (fun k_ hk => hk.2)); clear HO_3; have HO_3 := n_; clear n_; have HX12 := aM (show Kd.S k45 45 w11 w.heap.size (fun k_ => ((fun _ => True)) k_ ∧ ¬ ((fun k_ => some k_ = (.slice Ao14 t112.length co14 : Value).ownBlock)) k_) (.slice (some ⟨go10, 0, none⟩) x3_1.length co10) x3_1 from (by (with_reducible repeat (first | apply Kd.S_alloc | apply Kd.S_drewN | apply Kd.S_drew)); exact Kd.S_mono HO_3.out (fun k_ hk => ⟨trivial, fun e_ => hk e_⟩))); obtain ⟨oki12, ce12, hcl12, hM12, hcc12, hfr12, hoki12, hH12⟩ := Kd.S_elem HX12.out z45 (x4_1 : Int) (of_decide_eq_true z1200) (by have h_ : (x4_1 : Int) < ((x3_1.length : Int) : Int) := of_decide_eq_true z1200; first | exact h_ | (have e_ := (Kd.S_reads' HO_3.out).1; omega) | simpa using h_); obtain ⟨ve12_7, rfl, ge12_7⟩ := k45_openM hM12; have HP12 := Kd.S_seg hH12 (of_decide_eq_true z1200) (by have h_ : (x4_1 : Int) < ((x3_1.length : Int) : Int) := of_decide_eq_true z1200; first | exact h_ | (have e_ := (Kd.S_reads' HO_3.out).1; omega) | simpa using h_) (seg := [.string t105, .int .i64 t106, .int .i64 t107, .int .i64 t108, .int .i64 t109, .int .i64 t110, .int .i64 t111, .slice Ao14 t112.length co14, .bool t115]) (j := 0) (show 9 ≤ 9 from by decide) (x' := (⟨t105, t106, t107, (⟨t108, t109, t110, t111, t112, t115⟩ : S26)⟩ : S45)) (k45_mkM _ _ _ (⟨t105, t106, t107, (⟨t108, t109, t110, t111, t112, t115⟩ : S26)⟩ : S45) (Kd.R_mono (Kd.R_tight rfl (Kd.R_mono (ok' := fun k_ => ((fun _ => True)) k_ ∧ k_ ≠ go10) (Kd.R_apart' (HO114.out) (Kd.S_typed HO_3.out) (by decide)) (fun k_ hk => ⟨trivial, fun e_ => (hk.2) (by rw [e_]; rfl)⟩))) (fun _ h_ => Or.inr (h_)))) (fun _ hk => hk) (fun k_ hk_ => ((Kd.R_mono (ok' := fun k_ => ((fun _ => True)) k_ ∧ k_ ≠ go10) (Kd.R_apart' (HO114.out) (Kd.S_typed HO_3.out) (by decide)) (fun k_ hk => ⟨trivial, fun e_ => (hk.2) (by rw [e_]; rfl)⟩))).1 k_ hk_.symm); have hx12_0 := hcc12 0 _ rfl; (try simp only [show (k45).sz = 9 from rfl, Nat.mul_one, Nat.add_zero] at hx12_0); have hf12_0 := hfr12 0; (try simp only [show (k45).sz = 9 from rfl, Nat.mul_one, Nat.add_zero] at hf12_0); have hx12_1 := hcc12 1 _ rfl; (try simp only [show (k45).sz = 9 from rfl, Nat.mul_one, Nat.add_zero] at hx12_1); have hf12_1 := hfr12 1; (try simp only [show (k45).sz = 9 from rfl, Nat.mul_one, Nat.add_zero] at hf12_1); have hx12_2 := hcc12 2 _ rfl; (try simp only [show (k45).sz = 9 from rfl, Nat.mul_one, Nat.add_zero] at hx12_2); have hf12_2 := hfr12 2; (try simp only [show (k45).sz = 9 from rfl, Nat.mul_one, Nat.add_zero] at hf12_2); have hx12_3 := hcc12 3 _ rfl; (try simp only [show (k45).sz = 9 from rfl, Nat.mul_one, Nat.add_zero] at hx12_3); have hf12_3 := hfr12 3; (try simp only [show (k45).sz = 9 from rfl, Nat.mul_one, Nat.add_zero] at hf12_3); have hx12_4 := hcc12 4 _ rfl; (try simp only [show (k45).sz = 9 from rfl, Nat.mul_one, Nat.add_zero] at hx12_4); have hf12_4 := hfr12 4; (try simp only [show (k45).sz = 9 from rfl, Nat.mul_one, Nat.add_zero] at hf12_4); have hx12_5 := hcc12 5 _ rfl; (try simp only [show (k45).sz = 9 from rfl, Nat.mul_one, Nat.add_zero] at hx12_5); have hf12_5 := hfr12 5; (try simp only [show (k45).sz = 9 from rfl, Nat.mul_one, Nat.add_zero] at hf12_5); have hx12_6 := hcc12 6 _ rfl; (try simp only [show (k45).sz = 9 from rfl, Nat.mul_one, Nat.add_zero] at hx12_6); have hf12_6 := hfr12 6; (try simp only [show (k45).sz = 9 from rfl, Nat.mul_one, Nat.add_zero] at hf12_6); have hx12_7 := hcc12 7 _ rfl; (try simp only [show (k45).sz = 9 from rfl, Nat.mul_one, Nat.add_zero] at hx12_7); have hf12_7 := hfr12 7; (try simp only [show (k45).sz = 9 from rfl, Nat.mul_one, Nat.add_zero] at hf12_7); have hx12_8 := hcc12 8 _ rfl; (try simp only [show (k45).sz = 9 from rfl, Nat.mul_one, Nat.add_zero] at hx12_8); have hf12_8 := hfr12 8; (try simp only [show (k45).sz = 9 from rfl, Nat.mul_one, Nat.add_zero] at hf12_8); clear hcl12 hcc12 hfr12 hM12 hoki12 hH12) | ((with_reducible refine gate_store (t := 45) (p := 21) rfl ?_); refine store_event (t := 45) (p := 21) (v := ?vo_w13) (w1 := (((((((((w11.setCell ⟨go10, (x4_1 : Int).toNat * 9, none⟩ (.string t105)).setCell ⟨go10, (x4_1 : Int).toNat * 9 + 1, none⟩ (.int .i64 t106)).setCell ⟨go10, (x4_1 : Int).toNat * 9 + 2, none⟩ (.int .i64 t107)).setCell ⟨go10, (x4_1 : Int).toNat * 9 + 3, none⟩ (.int .i64 t108)).setCell ⟨go10, (x4_1 : Int).toNat * 9 + 4, none⟩ (.int .i64 t109)).setCell ⟨go10, (x4_1 : Int).toNat * 9 + 5, none⟩ (.int .i64 t110)).setCell ⟨go10, (x4_1 : Int).toNat * 9 + 6, none⟩ (.int .i64 t111)).setCell ⟨go10, (x4_1 : Int).toNat * 9 + 7, none⟩ (.slice Ao14 t112.length co14)).setCell ⟨go10, (x4_1 : Int).toNat * 9 + 8, none⟩ (.bool t115))) ?hg ?ho ?hn ?hr ?_; (case ho => rfl); (case hg => rfl); (case hn => rfl); (case hr => first | (go_simp; done) | (go_simp; rfl)); intro w13 hw; have hg : w11.grownBy w13 (some go10) := (by rw [hw]; exact HP12.2); have hp_ : Kd.S k45 45 w13 w.heap.size (fun _ => True) (.slice (some ⟨go10, 0, none⟩) x3_1.length co10) y116 := (by rw [hw, Ny116.out]; exact HP12.1); clear HP12; have _ := aM hp_; have _ := aM ((by rw [hw]; exact below_set (below_set (below_set (below_set (below_set (below_set (below_set (below_set (below_set (HB.out) GB10.out) GB10.out) GB10.out) GB10.out) GB10.out) GB10.out) GB10.out) GB10.out) GB10.out : Below w.heap.size w w13)); clear HO_3 HB HO114; rename_i HO_3 HB; clear hg hw hp_))
     go_roundg k1
     case measure => have := HK1.out; omega
     case rel => exact ⟨(y116), (wrap64 (x4_1 + 1)), z4458, H', ⟨zfb39⟩, ⟨by (with_reducible repeat (first | apply Kd.S_alloc | apply Kd.S_drewN | apply Kd.S_drew)); exact HO_3.out⟩, ⟨z5acd⟩⟩
   · rw [if_neg c6] at H
     have c6b0 : decide (x4_1 < (l0.length : Int)) = false := decide_eq_false c6
     clear c6
     obtain rfl := Option.some.inj H
     go_wp2
     go_ret
     exact ⟨_, z674d, by (with_reducible repeat (first | apply Kd.S_alloc | apply Kd.S_drewN | apply Kd.S_drew)); exact HO_3.out, z5acd⟩
end Go.Proofs.Ytdkokfnnebdppaa.P

/- laws.FnExactPackKey: its walk, over what its callees answer. No conditions of its own. -/
namespace Go.Proofs.Ytdkokfnnebdppaa.P
open Go.RowKit Go.Proofs.YtdkokfnnebdppaaW.PrintWords Go.Proofs.YtdkokfnnebdppaaW.PrintLast Go.Proofs.YtdkokfnnebdppaaW.PrintMore
set_option linter.unusedVariables false
set_option linter.unusedSimpArgs false
/-- What the callees answer. -/
def laws_FnExactPackKey.Ok (k : Nat) (l0 : List S41) (a1 : Bool) : Prop := ∃ q1 : Int, laws_szEntryS.f k l0 1048576 = some q1 ∧ (q1 < 0 ∨ (0 ≤ q1 ∧ ∃ (q2 : List (S45)) (q3 : List (S45)) (q4 : Bool) (q5 : Int) (q6 : List S45) (q7 : Int) (q8 : List S45), laws_toEntryS.f k l0 = some q2 ∧ spec_PackKey.f k q2 a1 = some (q3, q4) ∧ impl_PackKey.f k q2 a1 = some (q3, q4) ∧ laws_eqEntryS.f k q3 q3 = some true ∧ laws_eqEntryS.f k q2 q2 = some true ∧ laws_markEntryS.f k q2 1 = some (q5, q6) ∧ laws_markEntryS.f k q3 1 = some (q7, q8) ∧ laws_heldEntryS.f k q8 1 = some q7 ∧ 0 ≤ q5 ∧ 0 ≤ q7))
set_option maxHeartbeats 8000000 in
set_option maxRecDepth 100000 in
theorem laws_FnExactPackKey.calls (k : Nat) (A0 : Option Addr) (c0 : Nat) (l0 : List S41) (a1 : Bool) (w : World) (hr0 : Kd.C k41 w A0 l0.length l0) (hc0 : l0.length ≤ c0) (h : laws_FnExactPackKey.Ok k l0 a1) :
 Calls Try.prog 4 #[.slice A0 l0.length c0, .bool a1] w fun e w' => e = .returned (.bool true) ∧ Below w.heap.size w w' := by
 unfold laws_FnExactPackKey.Ok at h
 have HB := aM (Below.refl w.heap.size w)
 have HR0 := aM hr0
 have HC0 := aM hc0
 clear hr0 hc0
 obtain ⟨q1, e0_, h⟩ := h
 have HE1 := aM e0_
 clear e0_
 rcases h with h | ⟨h0, h⟩
 · have c0_ : decide (q1 < 0) = true := decide_eq_true h
   clear h
   go_enter Try.func4, Try.ntmps4
   go_wp2_with (first | ((with_reducible refine gate_callee (f := 7) rfl ?_); refine goesL_ (some 18) rfl rfl Try.func7 (by kernel_rfl) rfl #[.slice A0 l0.length c0, .int .i64 1048576] rfl zee81 ?_; (with_reducible refine (laws_szEntryS.calls k _ _ l0 1048576 q1 _ ?s1 ?s2 HE1.out).mono ?_); (case s1 => exact Kd.C_below HR0.out HB.out); (case s2 => exact HC0.out); rintro e wv1 ⟨he_, hb⟩; subst he_; refine ⟨_, rfl, ?_⟩; replace HB := aM (below_after HB.out hb); clear hb))
   go_ret
   exact ⟨rfl, HB.out⟩
 have c0_ : decide (q1 < 0) = false := decide_eq_false (by omega)
 clear h0
 obtain ⟨q2, q3, q4, q5, q6, q7, q8, e0_, e1_, e2_, e3_, e4_, e5_, e6_, e7_, f0_, f1_⟩ := h
 have HE2 := aM e0_
 have HE3 := aM e1_
 have HE4 := aM e2_
 have HE5 := aM e3_
 have HE6 := aM e4_
 have HE7 := aM e5_
 have HE8 := aM e6_
 have HE9 := aM e7_
 clear e0_ e1_ e2_ e3_ e4_ e5_ e6_ e7_
 have g0_ : decide (q5 < 0) = false := decide_eq_false (by omega)
 clear f0_
 have g1_ : decide (q7 < 0) = false := decide_eq_false (by omega)
 clear f1_
 go_enter Try.func4, Try.ntmps4
 go_wp2_with (first | ((with_reducible refine gate_callee (f := 7) rfl ?_); refine goesL_ (some 18) rfl rfl Try.func7 (by kernel_rfl) rfl #[.slice A0 l0.length c0, .int .i64 1048576] rfl zee81 ?_; (with_reducible refine (laws_szEntryS.calls k _ _ l0 1048576 q1 _ ?s1 ?s2 HE1.out).mono ?_); (case s1 => exact Kd.C_below HR0.out HB.out); (case s2 => exact HC0.out); rintro e wv1 ⟨he_, hb⟩; subst he_; refine ⟨_, rfl, ?_⟩; replace HB := aM (below_after HB.out hb); clear hb) | ((with_reducible refine gate_callee (f := 9) rfl ?_); refine goesL_ (some 23) rfl rfl Try.func9 (by kernel_rfl) rfl #[.slice A0 l0.length c0] rfl zee81 ?_; (with_reducible refine (laws_toEntryS.calls k _ _ l0 q2 _ ?s1 ?s2 HE2.out).mono ?_); (case s1 => exact Kd.C_below HR0.out HB.out); (case s2 => exact HC0.out); rintro e wv2 ⟨v0_, he_, ho_v0_, hb⟩; subst he_; refine ⟨_, rfl, ?_⟩; obtain ⟨lo1_, hi1_, el_, hL_, eh_⟩ := Loc.newS (Kd.S_mono ho_v0_ (fun _ _ => trivial)) HB.out; have LO1 := aM hL_; have ORLO1 := aM (show w.heap.size ≤ lo1_ from (by first | (rw [el_]; exact HB.out.size))); have OQLO1 := aM (show lo1_ ≤ hi1_ from (by rw [el_, eh_]; exact hb.size)); obtain ⟨ALO1, cLO1, ev_⟩ := Kd.S_slice ho_v0_; subst ev_; clear el_ hL_ eh_ ho_v0_; replace HB := aM (below_after HB.out hb); clear hb) | ((with_reducible refine gate_callee (f := 16) rfl ?_); refine goesL_ (some 25) rfl rfl Try.func16 (by kernel_rfl) rfl #[.slice ALO1 q2.length cLO1, .bool a1] rfl zee81 ?_; (with_reducible refine (spec_PackKey.calls k _ _ q2 a1 q3 q4 _ ?s1 ?s2 HE3.out).mono ?_); (case s1 => exact LO1.out.readsS.2.2); (case s2 => exact LO1.out.readsS.2.1); rintro e wv3 ⟨v0_, he_, ho_v0_, hb⟩; subst he_; refine ⟨_, rfl, ?_⟩; obtain ⟨lo2_, hi2_, el_, hL_, eh_⟩ := Loc.newS (Kd.S_mono ho_v0_ (fun _ _ => trivial)) HB.out; have LO2 := aM hL_; have ORLO2 := aM (show hi1_ ≤ lo2_ from (by rw [el_]; exact LO1.out.size)); have OQLO2 := aM (show lo2_ ≤ hi2_ from (by rw [el_, eh_]; exact hb.size)); obtain ⟨ALO2, cLO2, ev_⟩ := Kd.S_slice ho_v0_; subst ev_; clear el_ hL_ eh_ ho_v0_; replace LO1 := aM (LO1.out.below hb); replace HB := aM (below_after HB.out hb); clear hb) | ((with_reducible refine gate_callee (f := 9) rfl ?_); refine goesL_ (some 29) rfl rfl Try.func9 (by kernel_rfl) rfl #[.slice A0 l0.length c0] rfl zee81 ?_; (with_reducible refine (laws_toEntryS.calls k _ _ l0 q2 _ ?s1 ?s2 HE2.out).mono ?_); (case s1 => exact Kd.C_below HR0.out HB.out); (case s2 => exact HC0.out); rintro e wv4 ⟨v0_, he_, ho_v0_, hb⟩; subst he_; refine ⟨_, rfl, ?_⟩; obtain ⟨lo3_, hi3_, el_, hL_, eh_⟩ := Loc.newS (Kd.S_mono ho_v0_ (fun _ _ => trivial)) HB.out; have LO3 := aM hL_; have ORLO3 := aM (show hi2_ ≤ lo3_ from (by rw [el_]; exact LO2.out.size)); have OQLO3 := aM (show lo3_ ≤ hi3_ from (by rw [el_, eh_]; exact hb.size)); obtain ⟨ALO3, cLO3, ev_⟩ := Kd.S_slice ho_v0_; subst ev_; clear el_ hL_ eh_ ho_v0_; replace LO1 := aM (LO1.out.below hb); replace LO2 := aM (LO2.out.below hb); replace HB := aM (below_after HB.out hb); clear hb) | ((with_reducible refine gate_callee (f := 17) rfl ?_); refine goesL_ (some 33) rfl rfl Try.func17 (by kernel_rfl) rfl #[.slice ALO3 q2.length cLO3, .bool a1] rfl zee81 ?_; (with_reducible refine (impl_PackKey.calls k _ _ q2 a1 q3 q4 _ ?s1 ?s2 HE4.out).mono ?_); (case s1 => exact LO3.out.readsS.2.2); (case s2 => exact LO3.out.readsS.2.1); rintro e wv5 ⟨v0_, he_, ho_v0_, hb⟩; subst he_; refine ⟨_, rfl, ?_⟩; obtain ⟨lo4_, hi4_, el_, hL_, eh_⟩ := Loc.newS (Kd.S_mono ho_v0_ (fun _ _ => trivial)) HB.out; have LO4 := aM hL_; have ORLO4 := aM (show hi3_ ≤ lo4_ from (by rw [el_]; exact LO3.out.size)); have OQLO4 := aM (show lo4_ ≤ hi4_ from (by rw [el_, eh_]; exact hb.size)); obtain ⟨ALO4, cLO4, ev_⟩ := Kd.S_slice ho_v0_; subst ev_; clear el_ hL_ eh_ ho_v0_; replace LO1 := aM (LO1.out.below hb); replace LO2 := aM (LO2.out.below hb); replace LO3 := aM (LO3.out.below hb); replace HB := aM (below_after HB.out hb); clear hb) | ((with_reducible refine gate_callee (f := 12) rfl ?_); refine goesL_ (some 38) rfl rfl Try.func12 (by kernel_rfl) rfl #[.slice ALO4 q3.length cLO4, .slice ALO2 q3.length cLO2] rfl zee81 ?_; (with_reducible refine (laws_eqEntryS.calls k _ _ q3 _ _ q3 true _ ?s1 ?s2 ?s3 ?s4 HE5.out).mono ?_); (case s1 => exact LO4.out.readsS.2.2); (case s2 => exact LO4.out.readsS.2.1); (case s3 => exact LO2.out.readsS.2.2); (case s4 => exact LO2.out.readsS.2.1); rintro e wv6 ⟨he_, hb⟩; subst he_; refine ⟨_, rfl, ?_⟩; replace LO1 := aM (LO1.out.below hb); replace LO2 := aM (LO2.out.below hb); replace LO3 := aM (LO3.out.below hb); replace LO4 := aM (LO4.out.below hb); replace HB := aM (below_after HB.out hb); clear hb) | ((with_reducible refine gate_callee (f := 9) rfl ?_); refine goesL_ (some 47) rfl rfl Try.func9 (by kernel_rfl) rfl #[.slice A0 l0.length c0] rfl zee81 ?_; (with_reducible refine (laws_toEntryS.calls k _ _ l0 q2 _ ?s1 ?s2 HE2.out).mono ?_); (case s1 => exact Kd.C_below HR0.out HB.out); (case s2 => exact HC0.out); rintro e wv7 ⟨v0_, he_, ho_v0_, hb⟩; subst he_; refine ⟨_, rfl, ?_⟩; obtain ⟨lo5_, hi5_, el_, hL_, eh_⟩ := Loc.newS (Kd.S_mono ho_v0_ (fun _ _ => trivial)) HB.out; have LO5 := aM hL_; have ORLO5 := aM (show hi4_ ≤ lo5_ from (by rw [el_]; exact LO4.out.size)); have OQLO5 := aM (show lo5_ ≤ hi5_ from (by rw [el_, eh_]; exact hb.size)); obtain ⟨ALO5, cLO5, ev_⟩ := Kd.S_slice ho_v0_; subst ev_; clear el_ hL_ eh_ ho_v0_; replace LO1 := aM (LO1.out.below hb); replace LO2 := aM (LO2.out.below hb); replace LO3 := aM (LO3.out.below hb); replace LO4 := aM (LO4.out.below hb); replace HB := aM (below_after HB.out hb); clear hb) | ((with_reducible refine gate_callee (f := 12) rfl ?_); refine goesL_ (some 48) rfl rfl Try.func12 (by kernel_rfl) rfl #[.slice ALO3 q2.length cLO3, .slice ALO5 q2.length cLO5] rfl zee81 ?_; (with_reducible refine (laws_eqEntryS.calls k _ _ q2 _ _ q2 true _ ?s1 ?s2 ?s3 ?s4 HE6.out).mono ?_); (case s1 => exact LO3.out.readsS.2.2); (case s2 => exact LO3.out.readsS.2.1); (case s3 => exact LO5.out.readsS.2.2); (case s4 => exact LO5.out.readsS.2.1); rintro e wv8 ⟨he_, hb⟩; subst he_; refine ⟨_, rfl, ?_⟩; replace LO1 := aM (LO1.out.below hb); replace LO2 := aM (LO2.out.below hb); replace LO3 := aM (LO3.out.below hb); replace LO4 := aM (LO4.out.below hb); replace LO5 := aM (LO5.out.below hb); replace HB := aM (below_after HB.out hb); clear hb) | ((with_reducible refine gate_callee (f := 13) rfl ?_); refine goesL_ (some 52) rfl rfl Try.func13 (by kernel_rfl) rfl #[.slice ALO3 q2.length cLO3, .int .i64 1] rfl zee81 ?_; (with_reducible refine (laws_markEntryS.calls k (fun k => lo3_ ≤ k ∧ k < hi3_) (.slice ALO3 q2.length cLO3) q2 1 q5 q6 w _ ?s1 ?s2 HE7.out).mono ?_); (case s1 => exact HB.out); (case s2 => exact LO3.out.now); rintro e wv9 ⟨he_, hs, hB2, hk⟩; subst he_; refine ⟨_, rfl, ?_⟩; have hi_ := LO3.out.size; have := ORLO1.out; have := OQLO1.out; have := ORLO2.out; have := OQLO2.out; have := ORLO3.out; have := OQLO3.out; have := ORLO4.out; have := OQLO4.out; have := ORLO5.out; have := OQLO5.out; replace LO1 := aM (LO1.out.apart hk (by omega)); replace LO2 := aM (LO2.out.apart hk (by omega)); replace LO4 := aM (LO4.out.apart hk (by omega)); replace LO5 := aM (LO5.out.apart hk (by omega)); replace LO3 := aM (Loc.ofS (Nat.le_trans hi_ hk.1) hs); replace HB := aM hB2; have HN9 := aM ((LO3.out.readsS).1 : q2.length = q6.length); clear hs hB2 hk hi_) | (go_at_call 12; (with_reducible refine (laws_eqEntryS.calls k _ _ q3 _ _ q3 true _ ?s1 ?s2 ?s3 ?s4 HE5.out).mono ?_); (case s1 => exact LO4.out.readsS.2.2); (case s2 => exact LO4.out.readsS.2.1); (case s3 => exact LO2.out.readsS.2.2); (case s4 => exact LO2.out.readsS.2.1); rintro e wv10 ⟨he_, hb⟩; subst he_; replace LO1 := aM (LO1.out.below hb); replace LO2 := aM (LO2.out.below hb); replace LO3 := aM (LO3.out.below hb); replace LO4 := aM (LO4.out.below hb); replace LO5 := aM (LO5.out.below hb); replace HB := aM (below_after HB.out hb); clear hb) | ((with_reducible refine gate_callee (f := 13) rfl ?_); refine goesL_ (some 68) rfl rfl Try.func13 (by kernel_rfl) rfl #[.slice ALO4 q3.length cLO4, .int .i64 1] rfl zee81 ?_; (with_reducible refine (laws_markEntryS.calls k (fun k => lo4_ ≤ k ∧ k < hi4_) (.slice ALO4 q3.length cLO4) q3 1 q7 q8 w _ ?s1 ?s2 HE8.out).mono ?_); (case s1 => exact HB.out); (case s2 => exact LO4.out.now); rintro e wv11 ⟨he_, hs, hB2, hk⟩; subst he_; refine ⟨_, rfl, ?_⟩; have hi_ := LO4.out.size; have := ORLO1.out; have := OQLO1.out; have := ORLO2.out; have := OQLO2.out; have := ORLO3.out; have := OQLO3.out; have := ORLO4.out; have := OQLO4.out; have := ORLO5.out; have := OQLO5.out; replace LO1 := aM (LO1.out.apart hk (by omega)); replace LO2 := aM (LO2.out.apart hk (by omega)); replace LO3 := aM (LO3.out.apart hk (by omega)); replace LO5 := aM (LO5.out.apart hk (by omega)); replace LO4 := aM (Loc.ofS (Nat.le_trans hi_ hk.1) hs); replace HB := aM hB2; have HN11 := aM ((LO4.out.readsS).1 : q3.length = q8.length); clear hs hB2 hk hi_) | ((with_reducible refine gate_callee (f := 18) rfl ?_); refine goesL_ (some 71) rfl rfl Try.func18 (by kernel_rfl) rfl #[.slice ALO4 q3.length cLO4, .int .i64 1] rfl zee81 ?_; rw [show (#[.slice ALO4 q3.length cLO4, .int .i64 1] : Array Value) = #[.slice ALO4 q8.length cLO4, .int .i64 1] from congrArg (fun n_ : Nat => (#[.slice ALO4 n_ cLO4, .int .i64 1] : Array Value)) HN11.out]; (with_reducible refine (laws_heldEntryS.calls k _ _ q8 1 q7 _ ?s1 ?s2 HE9.out).mono ?_); (case s1 => exact LO4.out.readsS.2.2); (case s2 => exact LO4.out.readsS.2.1); rintro e wv12 ⟨he_, hb⟩; subst he_; refine ⟨_, rfl, ?_⟩; replace LO1 := aM (LO1.out.below hb); replace LO2 := aM (LO2.out.below hb); replace LO3 := aM (LO3.out.below hb); replace LO4 := aM (LO4.out.below hb); replace LO5 := aM (LO5.out.below hb); replace HB := aM (below_after HB.out hb); clear hb) | ((with_reducible refine gate_callee (f := 9) rfl ?_); refine goesL_ (some 79) rfl rfl Try.func9 (by kernel_rfl) rfl #[.slice A0 l0.length c0] rfl zee81 ?_; (with_reducible refine (laws_toEntryS.calls k _ _ l0 q2 _ ?s1 ?s2 HE2.out).mono ?_); (case s1 => exact Kd.C_below HR0.out HB.out); (case s2 => exact HC0.out); rintro e wv13 ⟨v0_, he_, ho_v0_, hb⟩; subst he_; refine ⟨_, rfl, ?_⟩; obtain ⟨lo6_, hi6_, el_, hL_, eh_⟩ := Loc.newS (Kd.S_mono ho_v0_ (fun _ _ => trivial)) HB.out; have LO6 := aM hL_; have ORLO6 := aM (show hi5_ ≤ lo6_ from (by rw [el_]; exact LO5.out.size)); have OQLO6 := aM (show lo6_ ≤ hi6_ from (by rw [el_, eh_]; exact hb.size)); obtain ⟨ALO6, cLO6, ev_⟩ := Kd.S_slice ho_v0_; subst ev_; clear el_ hL_ eh_ ho_v0_; replace LO1 := aM (LO1.out.below hb); replace LO2 := aM (LO2.out.below hb); replace LO3 := aM (LO3.out.below hb); replace LO4 := aM (LO4.out.below hb); replace LO5 := aM (LO5.out.below hb); replace HB := aM (below_after HB.out hb); clear hb) | ((with_reducible refine gate_callee (f := 17) rfl ?_); refine goesL_ (some 81) rfl rfl Try.func17 (by kernel_rfl) rfl #[.slice ALO6 q2.length cLO6, .bool a1] rfl zee81 ?_; (with_reducible refine (impl_PackKey.calls k _ _ q2 a1 q3 q4 _ ?s1 ?s2 HE4.out).mono ?_); (case s1 => exact LO6.out.readsS.2.2); (case s2 => exact LO6.out.readsS.2.1); rintro e wv14 ⟨v0_, he_, ho_v0_, hb⟩; subst he_; refine ⟨_, rfl, ?_⟩; obtain ⟨lo7_, hi7_, el_, hL_, eh_⟩ := Loc.newS (Kd.S_mono ho_v0_ (fun _ _ => trivial)) HB.out; have LO7 := aM hL_; have ORLO7 := aM (show hi6_ ≤ lo7_ from (by rw [el_]; exact LO6.out.size)); have OQLO7 := aM (show lo7_ ≤ hi7_ from (by rw [el_, eh_]; exact hb.size)); obtain ⟨ALO7, cLO7, ev_⟩ := Kd.S_slice ho_v0_; subst ev_; clear el_ hL_ eh_ ho_v0_; replace LO1 := aM (LO1.out.below hb); replace LO2 := aM (LO2.out.below hb); replace LO3 := aM (LO3.out.below hb); replace LO4 := aM (LO4.out.below hb); replace LO5 := aM (LO5.out.below hb); replace LO6 := aM (LO6.out.below hb); replace HB := aM (below_after HB.out hb); clear hb) | ((with_reducible refine gate_callee (f := 12) rfl ?_); refine goesL_ (some 86) rfl rfl Try.func12 (by kernel_rfl) rfl #[.slice ALO7 q3.length cLO7, .slice ALO2 q3.length cLO2] rfl zee81 ?_; (with_reducible refine (laws_eqEntryS.calls k _ _ q3 _ _ q3 true _ ?s1 ?s2 ?s3 ?s4 HE5.out).mono ?_); (case s1 => exact LO7.out.readsS.2.2); (case s2 => exact LO7.out.readsS.2.1); (case s3 => exact LO2.out.readsS.2.2); (case s4 => exact LO2.out.readsS.2.1); rintro e wv15 ⟨he_, hb⟩; subst he_; refine ⟨_, rfl, ?_⟩; replace LO1 := aM (LO1.out.below hb); replace LO2 := aM (LO2.out.below hb); replace LO3 := aM (LO3.out.below hb); replace LO4 := aM (LO4.out.below hb); replace LO5 := aM (LO5.out.below hb); replace LO6 := aM (LO6.out.below hb); replace LO7 := aM (LO7.out.below hb); replace HB := aM (below_after HB.out hb); clear hb) | ((with_reducible refine gate_callee (f := 18) rfl ?_); refine goesL_ (some 95) rfl rfl Try.func18 (by kernel_rfl) rfl #[.slice ALO4 q3.length cLO4, .int .i64 1] rfl zee81 ?_; rw [show (#[.slice ALO4 q3.length cLO4, .int .i64 1] : Array Value) = #[.slice ALO4 q8.length cLO4, .int .i64 1] from congrArg (fun n_ : Nat => (#[.slice ALO4 n_ cLO4, .int .i64 1] : Array Value)) HN11.out]; (with_reducible refine (laws_heldEntryS.calls k _ _ q8 1 q7 _ ?s1 ?s2 HE9.out).mono ?_); (case s1 => exact LO4.out.readsS.2.2); (case s2 => exact LO4.out.readsS.2.1); rintro e wv16 ⟨he_, hb⟩; subst he_; refine ⟨_, rfl, ?_⟩; replace LO1 := aM (LO1.out.below hb); replace LO2 := aM (LO2.out.below hb); replace LO3 := aM (LO3.out.below hb); replace LO4 := aM (LO4.out.below hb); replace LO5 := aM (LO5.out.below hb); replace LO6 := aM (LO6.out.below hb); replace LO7 := aM (LO7.out.below hb); replace HB := aM (below_after HB.out hb); clear hb))
 go_ret
 exact ⟨rfl, HB.out⟩
end Go.Proofs.Ytdkokfnnebdppaa.P

namespace Go.Proofs.Ytdkokfnnebdppaa.Lem
open Go.RowKit Go.Proofs.YtdkokfnnebdppaaW.PrintWords Go.Proofs.YtdkokfnnebdppaaW.PrintLast Go.Proofs.YtdkokfnnebdppaaW.PrintMore

theorem w64 {x : Int} (h0 : -9223372036854775808 ≤ x) (h1 : x < 9223372036854775808) : wrap64 x = x := by
  unfold wrap64; omega
theorem wu64 {x : Int} (h0 : 0 ≤ x) (h1 : x < 18446744073709551616) : IntKind.u64.wrap x = x := by
  rw [IntKind.wrap_u64]; omega
theorem wu64_lo (x : Int) : 0 ≤ IntKind.u64.wrap x := by rw [IntKind.wrap_u64]; omega
theorem wu64_hi (x : Int) : IntKind.u64.wrap x < 18446744073709551616 := by rw [IntKind.wrap_u64]; omega

/-- A list of bytes. -/
def Bytes (l : List Int) : Prop := ∀ x ∈ l, 0 ≤ x ∧ x < 256

theorem Bytes.of_wf {l : List Int} (h : ∀ x ∈ l, (Lit.int .u8 x).wf = true) : Bytes l := by
  intro x hx
  have := h x hx
  simp [Lit.wf, IntKind.min, IntKind.max, IntKind.signed, IntKind.bits] at this
  omega
theorem Bytes.append {a b : List Int} (ha : Bytes a) (hb : Bytes b) : Bytes (a ++ b) := by
  intro x hx
  rcases List.mem_append.1 hx with h | h
  · exact ha x h
  · exact hb x h
theorem Bytes.nil : Bytes [] := fun x hx => by simp at hx
theorem Bytes.cons {x : Int} {l : List Int} (h0 : 0 ≤ x) (h1 : x < 256) (hl : Bytes l) : Bytes (x :: l) := by
  intro y hy
  rcases List.mem_cons.1 hy with rfl | h
  · exact ⟨h0, h1⟩
  · exact hl y h
theorem Bytes.rd {l : List Int} (h : Bytes l) (i : Int) : 0 ≤ rd l i ∧ rd l i < 256 := by
  unfold Go.Proofs.YtdkokfnnebdppaaW.PrintWords.rd
  rcases Nat.lt_or_ge i.toNat l.length with hl | hl
  · rw [List.getD_eq_getElem?_getD, List.getElem?_eq_getElem hl]
    exact h _ (List.getElem_mem hl)
  · rw [List.getD_eq_getElem?_getD, List.getElem?_eq_none hl]
    simp
theorem Bytes.take {l : List Int} (h : Bytes l) (n : Nat) : Bytes (l.take n) := fun x hx => h x (List.mem_of_mem_take hx)
theorem Bytes.drop {l : List Int} (h : Bytes l) (n : Nat) : Bytes (l.drop n) := fun x hx => h x (List.mem_of_mem_drop hx)

theorem and255 {x : Int} (h0 : 0 ≤ x) (h1 : x < 18446744073709551616) : 0 ≤ Go.bits .and .u64 x 255 ∧ Go.bits .and .u64 x 255 < 256 := by
  rw [u64_and x 255 h0 h1 (by decide) (by decide)]
  have : x.toNat &&& (255 : Int).toNat ≤ (255 : Int).toNat := Nat.and_le_right
  have e : (255 : Int).toNat = 255 := rfl
  omega

theorem shr_lo {k : IntKind} {x y : Int} (h : 0 ≤ x) : 0 ≤ shr k x y := by
  unfold shr
  exact Int.ediv_nonneg h (Int.le_of_lt (Int.pow_pos (by decide)))
theorem shr_hi {k : IntKind} {x y B : Int} (h : 0 ≤ x) (h1 : x < B) : shr k x y < B := by
  unfold shr
  have : x / 2 ^ min y.toNat k.bits ≤ x := Int.ediv_le_self _ h
  omega

end Go.Proofs.Ytdkokfnnebdppaa.Lem

/- Aggs: when one is good, and how two are joined; joining is the same in any order and any brackets. No program in sight. -/
namespace Go.Proofs.Ytdkokfnnebdppaa.Lem
open Go.RowKit Go.Proofs.YtdkokfnnebdppaaW.PrintWords Go.Proofs.YtdkokfnnebdppaaW.PrintLast Go.Proofs.YtdkokfnnebdppaaW.PrintMore

/-- An agg. -/
structure Ag where
  c : Int
  s : Int
  mi : Int
  ma : Int
  h : List Int
  f : Bool

/-- A number, capped. -/
def cap (x : Int) : Int := if x > 1000000000 then 1000000000 else x
theorem cap_le (x : Int) : cap x ≤ 1000000000 := by unfold cap; split <;> omega
theorem cap_of {x : Int} (h : x ≤ 1000000000) : cap x = x := by unfold cap; rw [if_neg (by omega)]
theorem cap_nonneg {x : Int} (h : 0 ≤ x) : 0 ≤ cap x := by unfold cap; split <;> omega
theorem cap_cap (x y : Int) (h0 : 0 ≤ y) : cap (cap x + y) = cap (x + y) := by unfold cap; split <;> split <;> omega
theorem cap_cap' (x y : Int) (h0 : 0 ≤ x) : cap (x + cap y) = cap (x + y) := by unfold cap; split <;> split <;> omega
theorem cap_over (x y : Int) (h0 : 0 ≤ y) : (decide (x > 1000000000) || decide (cap x + y > 1000000000)) = decide (x + y > 1000000000) := by
  unfold cap
  by_cases h : x > 1000000000
  · rw [decide_eq_true h, Bool.true_or, decide_eq_true (by omega)]
  · rw [decide_eq_false h, Bool.false_or, if_neg h]
theorem cap_over' (x y : Int) (h0 : 0 ≤ x) : (decide (y > 1000000000) || decide (x + cap y > 1000000000)) = decide (x + y > 1000000000) := by
  rw [Int.add_comm x (cap y), Int.add_comm x y]
  exact cap_over y x h0

/-- Two lists' sums, capped; whether one is over. -/
def addH : List Int → List Int → List Int
  | x :: xs, y :: ys => cap (x + y) :: addH xs ys
  | _, _ => []
def overH : List Int → List Int → Bool
  | x :: xs, y :: ys => decide (x + y > 1000000000) || overH xs ys
  | _, _ => false

/-- Numbers of a histogram. -/
def Nums (l : List Int) : Prop := ∀ x ∈ l, 0 ≤ x ∧ x ≤ 1000000000
theorem Nums.tail {x : Int} {l : List Int} (h : Nums (x :: l)) : Nums l := fun y hy => h y (List.mem_cons_of_mem _ hy)
theorem Nums.head {x : Int} {l : List Int} (h : Nums (x :: l)) : 0 ≤ x ∧ x ≤ 1000000000 := h x (List.mem_cons_self ..)
theorem Nums.cons {x : Int} {l : List Int} (h0 : 0 ≤ x) (h1 : x ≤ 1000000000) (h : Nums l) : Nums (x :: l) := by
  intro y hy
  rcases List.mem_cons.1 hy with rfl | h'
  · exact ⟨h0, h1⟩
  · exact h y h'

theorem addH_comm : ∀ a b, addH a b = addH b a
  | [], [] => rfl
  | [], _ :: _ => rfl
  | _ :: _, [] => rfl
  | x :: xs, y :: ys => by simp only [addH]; rw [addH_comm xs ys, Int.add_comm]
theorem overH_comm : ∀ a b, overH a b = overH b a
  | [], [] => rfl
  | [], _ :: _ => rfl
  | _ :: _, [] => rfl
  | x :: xs, y :: ys => by simp only [overH]; rw [overH_comm xs ys, Int.add_comm]
theorem addH_length : ∀ {a b : List Int}, a.length = b.length → (addH a b).length = a.length
  | [], [], _ => rfl
  | [], _ :: _, h => by simp at h
  | _ :: _, [], h => by simp at h
  | x :: xs, y :: ys, h => by simp only [addH, List.length_cons]; rw [addH_length (by simpa using h)]
theorem addH_nums : ∀ {a b : List Int}, Nums a → Nums b → Nums (addH a b)
  | [], _, _, _ => fun _ h => by simp [addH] at h
  | _ :: _, [], _, _ => fun _ h => by simp [addH] at h
  | x :: xs, y :: ys, ha, hb => Nums.cons (cap_nonneg (by have := ha.head; have := hb.head; omega)) (cap_le _) (addH_nums ha.tail hb.tail)
theorem addH_assoc : ∀ {a b c : List Int}, Nums a → Nums b → Nums c → addH (addH a b) c = addH a (addH b c)
  | [], _, _, _, _, _ => by simp [addH]
  | _ :: _, [], _, _, _, _ => by simp [addH]
  | _ :: _, _ :: _, [], _, _, _ => by simp [addH]
  | x :: xs, y :: ys, z :: zs, ha, hb, hc => by
    have := ha.head; have := hb.head; have := hc.head
    simp only [addH]
    rw [addH_assoc ha.tail hb.tail hc.tail, cap_cap _ _ (by omega), cap_cap' _ _ (by omega), Int.add_assoc]
theorem overH_assoc : ∀ {a b c : List Int}, a.length = b.length → b.length = c.length → Nums a → Nums b → Nums c → (overH a b || overH (addH a b) c) = (overH b c || overH a (addH b c))
  | [], [], [], _, _, _, _, _ => by simp [addH, overH]
  | [], _ :: _, _, h, _, _, _, _ => by simp at h
  | _ :: _, [], _, h, _, _, _, _ => by simp at h
  | _, [], _ :: _, _, h, _, _, _ => by simp at h
  | _, _ :: _, [], _, h, _, _, _ => by simp at h
  | x :: xs, y :: ys, z :: zs, h1, h2, ha, hb, hc => by
    have := ha.head; have := hb.head; have := hc.head
    simp only [addH, overH]
    have ih := overH_assoc (by simpa using h1) (by simpa using h2) ha.tail hb.tail hc.tail
    have e1 := cap_over (x + y) z (by omega)
    have e2 := cap_over' x (y + z) (by omega)
    rw [← Int.add_assoc] at e2
    generalize decide (x + y > 1000000000) = p at *
    generalize decide (cap (x + y) + z > 1000000000) = q at *
    generalize decide (y + z > 1000000000) = r at *
    generalize decide (x + cap (y + z) > 1000000000) = t at *
    generalize overH xs ys = u at *
    generalize overH (addH xs ys) zs = v at *
    generalize overH ys zs = m at *
    generalize overH xs (addH ys zs) = n at *
    rw [← e2] at e1
    revert e1 ih
    cases p <;> cases q <;> cases r <;> cases t <;> cases u <;> cases v <;> cases m <;> cases n <;> decide
theorem addH_zero : ∀ {a b : List Int}, a.length = b.length → (∀ x ∈ a, x = 0) → Nums b → addH a b = b ∧ overH a b = false
  | [], [], _, _, _ => ⟨rfl, rfl⟩
  | [], _ :: _, h, _, _ => by simp at h
  | _ :: _, [], h, _, _ => by simp at h
  | x :: xs, y :: ys, h, h0, hb => by
    have hx : x = 0 := h0 x (List.mem_cons_self ..)
    have := hb.head
    obtain ⟨i1, i2⟩ := addH_zero (by simpa using h) (fun z hz => h0 z (List.mem_cons_of_mem _ hz)) hb.tail
    simp only [addH, overH]
    rw [i1, i2, hx, Int.zero_add, cap_of (by omega), decide_eq_false (by omega)]
    exact ⟨rfl, rfl⟩
theorem sum_addH : ∀ {a b : List Int}, a.length = b.length → overH a b = false → (addH a b).sum = a.sum + b.sum
  | [], [], _, _ => by simp [addH]
  | [], _ :: _, h, _ => by simp at h
  | _ :: _, [], h, _ => by simp at h
  | x :: xs, y :: ys, h, ho => by
    simp only [overH, Bool.or_eq_false_iff, decide_eq_false_iff_not] at ho
    have ih := sum_addH (a := xs) (b := ys) (by simpa using h) ho.2
    simp only [addH, List.sum_cons]
    rw [ih, cap_of (by omega)]
    omega
theorem Nums.sum_bound : ∀ {a : List Int}, Nums a → 0 ≤ a.sum ∧ a.sum ≤ 1000000000 * (a.length : Int)
  | [], _ => by simp
  | x :: xs, h => by
    have := h.head
    have ih := Nums.sum_bound h.tail
    simp only [List.sum_cons, List.length_cons]
    omega
theorem Nums.sum_zero : ∀ {a : List Int}, Nums a → a.sum = 0 → ∀ x ∈ a, x = 0
  | [], _, _ => by simp
  | x :: xs, h, hs => by
    have := h.head
    have ih := Nums.sum_bound h.tail
    simp only [List.sum_cons] at hs
    intro y hy
    rcases List.mem_cons.1 hy with rfl | h'
    · omega
    · exact Nums.sum_zero h.tail (by omega) y h'

/-- When an agg is good. -/
structure Good (a : Ag) : Prop where
  c0 : 0 ≤ a.c
  c1 : a.c ≤ 1000000000
  len : a.h.length = 8
  nums : Nums a.h
  full : a.f = true → a.s = 0
  notfull : a.f = false → a.h.sum = a.c ∧ -1000000000 * a.c ≤ a.s ∧ a.s ≤ 1000000000 * a.c
  zero : a.c = 0 → a.mi = 0 ∧ a.ma = 0 ∧ a.h.sum = 0 ∧ a.f = false
  some : a.c ≠ 0 → -1000000000 ≤ a.mi ∧ a.mi ≤ a.ma ∧ a.ma ≤ 1000000000

/-- Two aggs in one. -/
def join (a b : Ag) : Ag :=
  let f := a.f || b.f || decide (a.c + b.c > 1000000000) || overH a.h b.h
  { c := cap (a.c + b.c), s := if f then 0 else a.s + b.s,
    mi := if a.c = 0 then b.mi else if b.c = 0 then a.mi else mn a.mi b.mi,
    ma := if a.c = 0 then b.ma else if b.c = 0 then a.ma else mx a.ma b.ma,
    h := addH a.h b.h, f := f }

theorem Ag.ext' {a b : Ag} (h1 : a.c = b.c) (h2 : a.s = b.s) (h3 : a.mi = b.mi) (h4 : a.ma = b.ma) (h5 : a.h = b.h) (h6 : a.f = b.f) : a = b := by
  cases a; cases b; simp_all
theorem mn_comm (a b : Int) : mn a b = mn b a := by unfold mn; split <;> split <;> omega
theorem mx_comm (a b : Int) : mx a b = mx b a := by unfold mx; split <;> split <;> omega

theorem mn_assoc (a b c : Int) : mn (mn a b) c = mn a (mn b c) := by unfold mn; (repeat' split) <;> omega
theorem mx_assoc (a b c : Int) : mx (mx a b) c = mx a (mx b c) := by unfold mx; (repeat' split) <;> omega

theorem join_comm {a b : Ag} (ha : Good a) (hb : Good b) : join a b = join b a := by
  have hf : (a.f || b.f || decide (a.c + b.c > 1000000000) || overH a.h b.h) = (b.f || a.f || decide (b.c + a.c > 1000000000) || overH b.h a.h) := by
    rw [overH_comm, Int.add_comm, Bool.or_comm a.f b.f]
  unfold join
  apply Ag.ext'
  · show cap (a.c + b.c) = cap (b.c + a.c)
    rw [Int.add_comm]
  · simp only [hf, Int.add_comm]
  · simp only
    by_cases h1 : a.c = 0
    · by_cases h2 : b.c = 0
      · rw [if_pos h1, if_pos h2, (ha.zero h1).1, (hb.zero h2).1]
      · rw [if_pos h1, if_neg h2, if_pos h1]
    · by_cases h2 : b.c = 0
      · rw [if_neg h1, if_pos h2, if_pos h2]
      · rw [if_neg h1, if_neg h2, if_neg h2, if_neg h1, mn_comm]
  · simp only
    by_cases h1 : a.c = 0
    · by_cases h2 : b.c = 0
      · rw [if_pos h1, if_pos h2, (ha.zero h1).2.1, (hb.zero h2).2.1]
      · rw [if_pos h1, if_neg h2, if_pos h1]
    · by_cases h2 : b.c = 0
      · rw [if_neg h1, if_pos h2, if_pos h2]
      · rw [if_neg h1, if_neg h2, if_neg h2, if_neg h1, mx_comm]
  · exact addH_comm _ _
  · exact hf

theorem join_zero {a b : Ag} (ha : Good a) (hb : Good b) (h : a.c = 0) : join a b = b := by
  obtain ⟨_, _, z3, z4⟩ := ha.zero h
  obtain ⟨e1, e2⟩ := addH_zero (a := a.h) (b := b.h) (by rw [ha.len, hb.len]) (ha.nums.sum_zero z3) hb.nums
  have hc := hb.c1
  have hs : a.s = 0 := by
    have := ha.notfull z4
    rw [h] at this
    omega
  have hf : (a.f || b.f || decide (a.c + b.c > 1000000000) || overH a.h b.h) = b.f := by
    rw [z4, e2, h, Int.zero_add, decide_eq_false (by omega), Bool.false_or, Bool.or_false, Bool.or_false]
  unfold join
  apply Ag.ext'
  · show cap (a.c + b.c) = b.c
    rw [h, Int.zero_add, cap_of hc]
  · simp only [hf]
    by_cases hb' : b.f = true
    · rw [if_pos hb', hb.full hb']
    · rw [if_neg hb', hs, Int.zero_add]
  · simp only; rw [if_pos h]
  · simp only; rw [if_pos h]
  · exact e1
  · exact hf

theorem join_good {a b : Ag} (ha : Good a) (hb : Good b) : Good (join a b) := by
  have a0 := ha.c0; have a1 := ha.c1; have b0 := hb.c0; have b1 := hb.c1
  by_cases h1 : a.c = 0
  · rw [join_zero ha hb h1]; exact hb
  by_cases h2 : b.c = 0
  · rw [join_comm ha hb, join_zero hb ha h2]; exact ha
  have hcc : cap (a.c + b.c) ≠ 0 := by unfold cap; split <;> omega
  obtain ⟨am1, am2, am3⟩ := ha.some h1
  obtain ⟨bm1, bm2, bm3⟩ := hb.some h2
  have hlen : a.h.length = b.h.length := by rw [ha.len, hb.len]
  refine ⟨cap_nonneg (by omega), cap_le _, (addH_length hlen).trans ha.len, addH_nums ha.nums hb.nums, ?_, ?_, fun h => absurd h hcc, fun _ => ?_⟩
  · intro hf
    show (if (join a b).f = true then (0 : Int) else a.s + b.s) = 0
    rw [if_pos hf]
  · intro hf
    have hf' : (a.f || b.f || decide (a.c + b.c > 1000000000) || overH a.h b.h) = false := hf
    simp only [Bool.or_eq_false_iff, decide_eq_false_iff_not] at hf'
    obtain ⟨⟨⟨f1, f2⟩, f3⟩, f4⟩ := hf'
    obtain ⟨x1, x2, x3⟩ := ha.notfull f1
    obtain ⟨y1, y2, y3⟩ := hb.notfull f2
    have hc : (join a b).c = a.c + b.c := cap_of (by omega)
    have hs : (join a b).s = a.s + b.s := by
      show (if (join a b).f = true then (0 : Int) else a.s + b.s) = _
      rw [if_neg (by rw [hf]; decide)]
    rw [hc, hs]
    refine ⟨?_, by omega, by omega⟩
    show (addH a.h b.h).sum = _
    rw [sum_addH hlen f4, x1, y1]
  · show -1000000000 ≤ (if a.c = 0 then b.mi else if b.c = 0 then a.mi else mn a.mi b.mi) ∧ (if a.c = 0 then b.mi else if b.c = 0 then a.mi else mn a.mi b.mi) ≤ (if a.c = 0 then b.ma else if b.c = 0 then a.ma else mx a.ma b.ma) ∧ (if a.c = 0 then b.ma else if b.c = 0 then a.ma else mx a.ma b.ma) ≤ 1000000000
    rw [if_neg h1, if_neg h2, if_neg h1, if_neg h2]
    unfold mn mx
    split <;> split <;> omega

theorem join_assoc {a b c : Ag} (ha : Good a) (hb : Good b) (hc : Good c) : join (join a b) c = join a (join b c) := by
  have a0 := ha.c0; have a1 := ha.c1; have b0 := hb.c0; have b1 := hb.c1; have d0 := hc.c0; have d1 := hc.c1
  by_cases h1 : a.c = 0
  · rw [join_zero ha hb h1, join_zero ha (join_good hb hc) h1]
  by_cases h2 : b.c = 0
  · rw [join_comm ha hb, join_zero hb ha h2, join_zero hb hc h2]
  by_cases h3 : c.c = 0
  · rw [join_comm (join_good ha hb) hc, join_zero hc (join_good ha hb) h3, join_comm hb hc, join_zero hc hb h3]
  have n1 : cap (a.c + b.c) ≠ 0 := by unfold cap; split <;> omega
  have n2 : cap (b.c + c.c) ≠ 0 := by unfold cap; split <;> omega
  have l1 : a.h.length = b.h.length := by rw [ha.len, hb.len]
  have l2 : b.h.length = c.h.length := by rw [hb.len, hc.len]
  have hover := overH_assoc l1 l2 ha.nums hb.nums hc.nums
  have o1 := cap_over (a.c + b.c) c.c d0
  have o2 := cap_over' a.c (b.c + c.c) a0
  rw [← Int.add_assoc, ← o1] at o2
  have hf : (join (join a b) c).f = (join a (join b c)).f := by
    show ((a.f || b.f || decide (a.c + b.c > 1000000000) || overH a.h b.h) || c.f || decide (cap (a.c + b.c) + c.c > 1000000000) || overH (addH a.h b.h) c.h) = (a.f || (b.f || c.f || decide (b.c + c.c > 1000000000) || overH b.h c.h) || decide (a.c + cap (b.c + c.c) > 1000000000) || overH a.h (addH b.h c.h))
    generalize decide (a.c + b.c > 1000000000) = p at *
    generalize decide (cap (a.c + b.c) + c.c > 1000000000) = q at *
    generalize decide (b.c + c.c > 1000000000) = r at *
    generalize decide (a.c + cap (b.c + c.c) > 1000000000) = t at *
    generalize overH a.h b.h = u at *
    generalize overH (addH a.h b.h) c.h = v at *
    generalize overH b.h c.h = m at *
    generalize overH a.h (addH b.h c.h) = n at *
    generalize a.f = x
    generalize b.f = y
    generalize c.f = z
    clear ha hb hc a0 a1 b0 b1 d0 d1 h1 h2 h3 n1 n2 l1 l2 o1
    revert o2 hover
    cases p <;> cases q <;> cases r <;> cases t <;> cases u <;> cases v <;> cases m <;> cases n <;> simp <;> cases x <;> cases y <;> cases z <;> decide
  have hs : (join (join a b) c).s = (join a (join b c)).s := by
    by_cases hF : (join (join a b) c).f = true
    · have hG := hf ▸ hF
      show (if (join (join a b) c).f = true then (0 : Int) else (join a b).s + c.s) = (if (join a (join b c)).f = true then (0 : Int) else a.s + (join b c).s)
      rw [if_pos hF, if_pos hG]
    · have hG : ¬ (join a (join b c)).f = true := hf ▸ hF
      have e1 : (join a b).f = false := by
        have : ((join a b).f || c.f || decide (cap (a.c + b.c) + c.c > 1000000000) || overH (addH a.h b.h) c.h) = false := Bool.eq_false_iff.2 hF
        simp only [Bool.or_eq_false_iff] at this
        exact this.1.1.1
      have e2 : (join b c).f = false := by
        have : (a.f || (join b c).f || decide (a.c + cap (b.c + c.c) > 1000000000) || overH a.h (addH b.h c.h)) = false := Bool.eq_false_iff.2 hG
        simp only [Bool.or_eq_false_iff] at this
        exact this.1.1.2
      show (if (join (join a b) c).f = true then (0 : Int) else (if (join a b).f = true then (0 : Int) else a.s + b.s) + c.s) = (if (join a (join b c)).f = true then (0 : Int) else a.s + (if (join b c).f = true then (0 : Int) else b.s + c.s))
      rw [if_neg hF, if_neg hG, if_neg (by rw [e1]; decide), if_neg (by rw [e2]; decide), Int.add_assoc]
  apply Ag.ext'
  · show cap (cap (a.c + b.c) + c.c) = cap (a.c + cap (b.c + c.c))
    rw [cap_cap _ _ d0, cap_cap' _ _ a0, Int.add_assoc]
  · exact hs
  · show (if cap (a.c + b.c) = 0 then c.mi else if c.c = 0 then (join a b).mi else mn (if a.c = 0 then b.mi else if b.c = 0 then a.mi else mn a.mi b.mi) c.mi) = (if a.c = 0 then (join b c).mi else if cap (b.c + c.c) = 0 then a.mi else mn a.mi (if b.c = 0 then c.mi else if c.c = 0 then b.mi else mn b.mi c.mi))
    rw [if_neg n1, if_neg h3, if_neg h1, if_neg h2, if_neg h1, if_neg n2, if_neg h2, if_neg h3]
    exact mn_assoc _ _ _
  · show (if cap (a.c + b.c) = 0 then c.ma else if c.c = 0 then (join a b).ma else mx (if a.c = 0 then b.ma else if b.c = 0 then a.ma else mx a.ma b.ma) c.ma) = (if a.c = 0 then (join b c).ma else if cap (b.c + c.c) = 0 then a.ma else mx a.ma (if b.c = 0 then c.ma else if c.c = 0 then b.ma else mx b.ma c.ma))
    rw [if_neg n1, if_neg h3, if_neg h1, if_neg h2, if_neg h1, if_neg n2, if_neg h2, if_neg h3]
    exact mx_assoc _ _ _
  · exact addH_assoc ha.nums hb.nums hc.nums
  · exact hf

end Go.Proofs.Ytdkokfnnebdppaa.Lem

namespace Go.Proofs.Ytdkokfnnebdppaa.Lem
open Go.RowKit Go.Proofs.Ytdkokfnnebdppaa.P Go.Proofs.YtdkokfnnebdppaaW.PrintWords Go.Proofs.YtdkokfnnebdppaaW.PrintLast Go.Proofs.YtdkokfnnebdppaaW.PrintMore

theorem within_ok (a b c : Int) : impl_within.f a b c = some (decide (b ≤ a ∧ a ≤ c)) := by
  unfold impl_within.f
  by_cases h : a ≥ b
  · rw [if_pos h]
    congr 1
    simp [show b ≤ a from h]
  · rw [if_neg h]
    congr 1
    simp [show ¬ b ≤ a from h]

end Go.Proofs.Ytdkokfnnebdppaa.Lem

/- Both programs tell whether an agg is good, and tell it alike, for aggs in bounds. -/
namespace Go.Proofs.Ytdkokfnnebdppaa.Lem
open Go.RowKit Go.Proofs.Ytdkokfnnebdppaa.P Go.Proofs.YtdkokfnnebdppaaW.PrintWords Go.Proofs.YtdkokfnnebdppaaW.PrintLast Go.Proofs.YtdkokfnnebdppaaW.PrintMore

theorem l1In_ok (a b c : Int) : spec_l1In.f a b c = some (decide (b ≤ a ∧ a ≤ c)) := by
  unfold spec_l1In.f
  by_cases h : a ≥ b
  · rw [if_pos h]
    congr 1
    exact decide_eq_decide.2 ⟨fun h' => ⟨h, h'⟩, fun h' => h'.2⟩
  · rw [if_neg h]
    congr 1
    exact (decide_eq_false (fun h' => h h'.1)).symm
theorem isValue_ok (v : Int) : impl_isValue.f v = some (decide (-1000000000 ≤ v ∧ v ≤ 1000000000)) := by
  unfold impl_isValue.f
  rw [within_ok, Option.bind_some]
theorem l4Value_ok (v : Int) : spec_l4Value.f v = some (decide (-1000000000 ≤ v ∧ v ≤ 1000000000)) := by
  unfold spec_l4Value.f
  rw [l1In_ok, Option.bind_some]

/-- An agg in bounds. -/
structure Rg (a : Ag) : Prop where
  c : -4000000000 ≤ a.c ∧ a.c ≤ 4000000000
  s : -4000000000000000000 ≤ a.s ∧ a.s ≤ 4000000000000000000
  mi : -4000000000 ≤ a.mi ∧ a.mi ≤ 4000000000
  ma : -4000000000 ≤ a.ma ∧ a.ma ≤ 4000000000
  len : a.h.length ≤ 8
  nums : ∀ x ∈ a.h, -4000000000 ≤ x ∧ x ≤ 4000000000

theorem Good.rg {a : Ag} (h : Good a) : Rg a := by
  have h0 := h.c0; have h1 := h.c1
  refine ⟨by omega, ?_, ?_, ?_, by rw [h.len]; decide, fun x hx => by have := h.nums x hx; omega⟩
  · by_cases hf : a.f = true
    · rw [h.full hf]; decide
    · have := h.notfull (Bool.eq_false_iff.2 hf)
      omega
  · by_cases hc : a.c = 0
    · have := h.zero hc; omega
    · have := h.some hc; omega
  · by_cases hc : a.c = 0
    · have := h.zero hc; omega
    · have := h.some hc; omega

theorem rd_at0 {l : List Int} {i : Nat} (h : i < l.length) : l.drop i = rd l (i : Int) :: l.drop (i + 1) := by
  rw [List.drop_eq_getElem_cons h]
  unfold Go.Proofs.YtdkokfnnebdppaaW.PrintWords.rd
  rw [Int.toNat_natCast, List.getD_eq_getElem?_getD, List.getElem?_eq_getElem h]
  rfl

theorem gi_l0 {h : List Int} (hl : h.length ≤ 8) (c s mi ma : Int) (hh : List Int) (f : Bool) (d : Nat) : ∀ (k i : Nat) (x : Int), i + d = h.length → 0 ≤ x → x ≤ 1000000000 * (i : Int) →
    (Nums (h.drop i) → impl_GoodAgg.l0 (k + d) x h (h.length : Int) (i : Int) c s mi ma hh f = impl_GoodAgg.l0 k (x + (h.drop i).sum) h (h.length : Int) (h.length : Int) c s mi ma hh f) ∧
    (¬ Nums (h.drop i) → impl_GoodAgg.l0 (k + d + 1) x h (h.length : Int) (i : Int) c s mi ma hh f = some false) := by
  induction d with
  | zero =>
    intro k i x hi h0 h1
    have hd : h.drop i = [] := List.drop_eq_nil_of_le (by omega)
    have hi' : i = h.length := by omega
    refine ⟨fun _ => ?_, fun hn => ?_⟩
    · rw [hd, List.sum_nil, Int.add_zero, hi']; rfl
    · rw [hd] at hn; exact absurd (fun x hx => by simp at hx) hn
  | succ d ih =>
    intro k i x hi h0 h1
    have hd := rd_at0 (l := h) (i := i) (by omega)
    have e1 : wrap64 ((i : Int) + 1) = ((i + 1 : Nat) : Int) := by rw [w64 (by omega) (by omega)]; omega
    by_cases hw : 0 ≤ rd h (i : Int) ∧ rd h (i : Int) ≤ 1000000000
    · have ew : wrap64 (x + rd h (i : Int)) = x + rd h (i : Int) := w64 (by omega) (by omega)
      obtain ⟨i1, i2⟩ := ih k (i + 1) (x + rd h (i : Int)) (by omega) (by omega) (by omega)
      refine ⟨fun hn => ?_, fun hn => ?_⟩
      · rw [hd] at hn
        rw [show k + (d + 1) = (k + d) + 1 by omega]
        conv => lhs; unfold impl_GoodAgg.l0
        rw [if_pos (by omega), if_pos (by omega), if_pos (by omega), within_ok, decide_eq_true hw, Option.bind_some, if_pos rfl, ew, e1, i1 hn.tail, hd, List.sum_cons, Int.add_assoc]
      · rw [hd] at hn
        have hn' : ¬ Nums (h.drop (i + 1)) := fun hn' => hn (Nums.cons hw.1 hw.2 hn')
        rw [show k + (d + 1) + 1 = (k + d + 1) + 1 by omega]
        conv => lhs; unfold impl_GoodAgg.l0
        rw [if_pos (by omega), if_pos (by omega), if_pos (by omega), within_ok, decide_eq_true hw, Option.bind_some, if_pos rfl, ew, e1, i2 hn']
    · refine ⟨fun hn => ?_, fun _ => ?_⟩
      · rw [hd] at hn; exact absurd hn.head hw
      · rw [show k + (d + 1) + 1 = (k + d + 1) + 1 by omega]
        conv => lhs; unfold impl_GoodAgg.l0
        rw [if_pos (by omega), if_pos (by omega), if_pos (by omega), within_ok, decide_eq_false hw, Option.bind_some, if_neg (by decide)]

theorem gs_l0 {h : List Int} (hl : h.length ≤ 8) (c s mi ma : Int) (hh : List Int) (f : Bool) (d : Nat) : ∀ (k i : Nat) (x : Int), i + d = h.length → 0 ≤ x → x ≤ 1000000000 * (i : Int) →
    (Nums (h.drop i) → spec_GoodAgg.l0 (k + d) x h (h.length : Int) (i : Int) c s mi ma hh f = spec_GoodAgg.l0 k (x + (h.drop i).sum) h (h.length : Int) (h.length : Int) c s mi ma hh f) ∧
    (¬ Nums (h.drop i) → spec_GoodAgg.l0 (k + d + 1) x h (h.length : Int) (i : Int) c s mi ma hh f = some false) := by
  induction d with
  | zero =>
    intro k i x hi h0 h1
    have hd : h.drop i = [] := List.drop_eq_nil_of_le (by omega)
    have hi' : i = h.length := by omega
    refine ⟨fun _ => ?_, fun hn => ?_⟩
    · rw [hd, List.sum_nil, Int.add_zero, hi']; rfl
    · rw [hd] at hn; exact absurd (fun x hx => by simp at hx) hn
  | succ d ih =>
    intro k i x hi h0 h1
    have hd := rd_at0 (l := h) (i := i) (by omega)
    have e1 : wrap64 ((i : Int) + 1) = ((i + 1 : Nat) : Int) := by rw [w64 (by omega) (by omega)]; omega
    by_cases hw : 0 ≤ rd h (i : Int) ∧ rd h (i : Int) ≤ 1000000000
    · have ew : wrap64 (x + rd h (i : Int)) = x + rd h (i : Int) := w64 (by omega) (by omega)
      obtain ⟨i1, i2⟩ := ih k (i + 1) (x + rd h (i : Int)) (by omega) (by omega) (by omega)
      refine ⟨fun hn => ?_, fun hn => ?_⟩
      · rw [hd] at hn
        rw [show k + (d + 1) = (k + d) + 1 by omega]
        conv => lhs; unfold spec_GoodAgg.l0
        rw [if_pos (by omega), if_pos (by omega), if_pos (by omega), l1In_ok, decide_eq_true hw, Option.bind_some, if_pos rfl, ew, e1, i1 hn.tail, hd, List.sum_cons, Int.add_assoc]
      · rw [hd] at hn
        have hn' : ¬ Nums (h.drop (i + 1)) := fun hn' => hn (Nums.cons hw.1 hw.2 hn')
        rw [show k + (d + 1) + 1 = (k + d + 1) + 1 by omega]
        conv => lhs; unfold spec_GoodAgg.l0
        rw [if_pos (by omega), if_pos (by omega), if_pos (by omega), l1In_ok, decide_eq_true hw, Option.bind_some, if_pos rfl, ew, e1, i2 hn']
    · refine ⟨fun hn => ?_, fun _ => ?_⟩
      · rw [hd] at hn; exact absurd hn.head hw
      · rw [show k + (d + 1) + 1 = (k + d + 1) + 1 by omega]
        conv => lhs; unfold spec_GoodAgg.l0
        rw [if_pos (by omega), if_pos (by omega), if_pos (by omega), l1In_ok, decide_eq_false hw, Option.bind_some, if_neg (by decide)]

/-- The answer of a test. -/
def Tells (p : Prop) (r : Option Bool) : Prop := (p → r = some true) ∧ (¬ p → r = some false)
theorem Tells.yes {p : Prop} (h : p) : Tells p (some true) := ⟨fun _ => rfl, fun h' => absurd h h'⟩
theorem Tells.no {p : Prop} (h : ¬ p) : Tells p (some false) := ⟨fun h' => absurd h' h, fun _ => rfl⟩

theorem impl_goodAll (a : Ag) {k : Nat} (hk : 20 < k) : Tells (Good a) (impl_GoodAgg.f k a.c a.s a.mi a.ma a.h a.f) := by
  obtain ⟨c, s, mi, ma, h, f⟩ := a
  simp only
  obtain ⟨k, rfl⟩ : ∃ m, k = m + 15 := ⟨k - 15, by omega⟩
  unfold impl_GoodAgg.f
  rw [within_ok, Option.bind_some]
  by_cases hc : 0 ≤ c ∧ c ≤ 1000000000
  · rw [decide_eq_true hc, if_pos rfl]
    rw [show k + 15 = (k + 14) + 1 from rfl, impl_GoodAgg.j0]
    by_cases hl : h.length = 8
    · rw [if_neg (by simp [hl])]
      have hs := gi_l0 (h := h) (by omega) c s mi ma h f 8
      by_cases hn : Nums h
      · obtain ⟨i1, _⟩ := hs (k + 6) 0 0 (by omega) (by omega) (by omega)
        have i1' := i1 (by rw [List.drop_zero]; exact hn)
        rw [List.drop_zero, Int.zero_add] at i1'
        have e0 : ((0 : Nat) : Int) = 0 := rfl
        rw [e0] at i1'
        rw [show k + 14 = k + 6 + 8 from rfl, i1']
        have hsum := hn.sum_bound
        conv => arg 2; unfold impl_GoodAgg.l0
        rw [if_neg (by omega)]
        have em : wrap64 (-1000000000 * c) = -1000000000 * c := w64 (by omega) (by omega)
        have ep : wrap64 (1000000000 * c) = 1000000000 * c := w64 (by omega) (by omega)
        have hj3 : ∀ (b : Bool), (b = false → (f = true → s = 0) ∧ (f = false → h.sum = c ∧ -1000000000 * c ≤ s ∧ s ≤ 1000000000 * c)) → (b = true → ¬ Good ⟨c, s, mi, ma, h, f⟩) → Tells (Good ⟨c, s, mi, ma, h, f⟩) (impl_GoodAgg.j3 (k + 4) h.sum b c s mi ma h f) := by
          intro b hb hb'
          rw [show k + 4 = (k + 3) + 1 from rfl, impl_GoodAgg.j3]
          by_cases b0 : b = true
          · rw [if_pos b0]; exact .no (hb' b0)
          obtain ⟨q1, q2⟩ := hb (Bool.eq_false_iff.2 b0)
          rw [if_neg b0]
          by_cases c0 : c = 0
          · rw [if_pos c0]
            by_cases m0 : mi = 0
            · rw [if_pos m0]
              by_cases m1 : ma = 0
              · rw [if_pos m1]
                by_cases s0 : h.sum = 0
                · rw [if_pos s0]
                  cases f
                  · exact .yes ⟨hc.1, hc.2, hl, hn, q1, q2, fun _ => ⟨m0, m1, s0, rfl⟩, fun h' => absurd c0 h'⟩
                  · exact .no (fun g => absurd (g.zero c0).2.2.2 (by simp))
                · rw [if_neg s0]; exact .no (fun g => s0 (g.zero c0).2.2.1)
              · rw [if_neg m1]; exact .no (fun g => m1 (g.zero c0).2.1)
            · rw [if_neg m0]; exact .no (fun g => m0 (g.zero c0).1)
          · rw [if_neg c0, isValue_ok, Option.bind_some]
            by_cases v1 : -1000000000 ≤ mi ∧ mi ≤ 1000000000
            · rw [decide_eq_true v1, if_pos rfl, isValue_ok, Option.bind_some]
              by_cases v2 : -1000000000 ≤ ma ∧ ma ≤ 1000000000
              · rw [decide_eq_true v2, if_pos rfl]
                by_cases v3 : mi ≤ ma
                · rw [decide_eq_true v3]
                  exact .yes ⟨hc.1, hc.2, hl, hn, q1, q2, fun h' => absurd h' c0, fun _ => ⟨v1.1, v3, v2.2⟩⟩
                · rw [decide_eq_false v3]; exact .no (fun g => v3 (g.some c0).2.1)
              · rw [decide_eq_false v2, if_neg (by decide)]
                exact .no (fun g => v2 (by have := g.some c0; simp only at this; omega))
            · rw [decide_eq_false v1, if_neg (by decide)]
              exact .no (fun g => v1 (by have := g.some c0; simp only at this; omega))
        cases f
        · rw [if_neg (by decide), impl_GoodAgg.j2, if_neg (by decide), if_neg (by decide)]
          by_cases hsc : h.sum = c
          · rw [if_pos hsc, within_ok, Option.bind_some, em, ep]
            by_cases hs' : -1000000000 * c ≤ s ∧ s ≤ 1000000000 * c
            · rw [decide_eq_true hs']
              exact hj3 false (fun _ => ⟨fun h' => absurd h' (by decide), fun _ => ⟨hsc, hs'.1, hs'.2⟩⟩) (fun h' => absurd h' (by decide))
            · rw [decide_eq_false hs']
              exact hj3 true (fun h' => absurd h' (by decide)) (fun _ g => hs' (g.notfull rfl).2)
          · rw [if_neg hsc]
            exact hj3 true (fun h' => absurd h' (by decide)) (fun _ g => hsc (g.notfull rfl).1)
        · rw [if_pos rfl, impl_GoodAgg.j2]
          by_cases s0 : s = 0
          · rw [if_neg (by simp [s0]), if_pos rfl]
            exact hj3 false (fun _ => ⟨fun _ => s0, fun h' => absurd h' (by simp)⟩) (fun h' => absurd h' (by decide))
          · rw [if_pos (by simp [s0])]
            exact .no (fun g => s0 (g.full rfl))
      · obtain ⟨_, i2⟩ := hs (k + 5) 0 0 (by omega) (by omega) (by omega)
        have i2' := i2 (by rw [List.drop_zero]; exact hn)
        have e0 : ((0 : Nat) : Int) = 0 := rfl
        rw [e0] at i2'
        rw [show k + 14 = k + 5 + 8 + 1 from rfl, i2']
        exact .no (fun g => hn g.nums)
    · rw [if_pos (by simp only [bne_iff_ne, ne_eq]; omega)]
      exact .no (fun g => hl g.len)
  · rw [decide_eq_false hc, if_neg (by decide)]
    rw [show k + 15 = (k + 14) + 1 from rfl, impl_GoodAgg.j0, if_pos rfl]
    exact .no (fun g => hc ⟨g.c0, g.c1⟩)

theorem impl_good {a : Ag} (_hr : Rg a) {k : Nat} (hk : 20 < k) : Tells (Good a) (impl_GoodAgg.f k a.c a.s a.mi a.ma a.h a.f) := impl_goodAll a hk

theorem spec_goodAll (a : Ag) {k : Nat} (hk : 20 < k) : Tells (Good a) (spec_GoodAgg.f k a.c a.s a.mi a.ma a.h a.f) := by
  obtain ⟨c, s, mi, ma, h, f⟩ := a
  simp only
  obtain ⟨k, rfl⟩ : ∃ m, k = m + 15 := ⟨k - 15, by omega⟩
  unfold spec_GoodAgg.f
  rw [l1In_ok, Option.bind_some]
  by_cases hc : 0 ≤ c ∧ c ≤ 1000000000
  · rw [decide_eq_true hc, if_pos rfl]
    rw [show k + 15 = (k + 14) + 1 from rfl, spec_GoodAgg.j0]
    by_cases hl : h.length = 8
    · rw [if_neg (by simp [hl])]
      have hs := gs_l0 (h := h) (by omega) c s mi ma h f 8
      by_cases hn : Nums h
      · obtain ⟨i1, _⟩ := hs (k + 6) 0 0 (by omega) (by omega) (by omega)
        have i1' := i1 (by rw [List.drop_zero]; exact hn)
        rw [List.drop_zero, Int.zero_add] at i1'
        have e0 : ((0 : Nat) : Int) = 0 := rfl
        rw [e0] at i1'
        rw [show k + 14 = k + 6 + 8 from rfl, i1']
        have hsum := hn.sum_bound
        conv => arg 2; unfold spec_GoodAgg.l0
        rw [if_neg (by omega)]
        have em : wrap64 (-1000000000 * c) = -1000000000 * c := w64 (by omega) (by omega)
        have ep : wrap64 (1000000000 * c) = 1000000000 * c := w64 (by omega) (by omega)
        by_cases c0 : c = 0
        · rw [if_pos c0]
          by_cases s0 : h.sum = 0
          · rw [if_pos s0]
            by_cases m0 : mi = 0
            · rw [if_pos m0]
              by_cases m1 : ma = 0
              · rw [if_pos m1]
                by_cases t0 : s = 0
                · rw [if_pos t0]
                  cases f
                  · exact .yes ⟨hc.1, hc.2, hl, hn, fun _ => t0, fun _ => ⟨by simp only; omega, by simp only; omega, by simp only; omega⟩, fun _ => ⟨m0, m1, s0, rfl⟩, fun h' => absurd c0 h'⟩
                  · exact .no (fun g => absurd (g.zero c0).2.2.2 (by simp))
                · rw [if_neg t0]
                  exact .no (fun g => t0 (by have h1 := g.notfull (g.zero c0).2.2.2; simp only at h1; omega))
              · rw [if_neg m1]; exact .no (fun g => m1 (g.zero c0).2.1)
            · rw [if_neg m0]; exact .no (fun g => m0 (g.zero c0).1)
          · rw [if_neg s0]; exact .no (fun g => s0 (g.zero c0).2.2.1)
        · have hj2 : ∀ (b : Bool), (b = false → -1000000000 ≤ mi ∧ mi ≤ ma ∧ ma ≤ 1000000000) → (b = true → ¬ Good ⟨c, s, mi, ma, h, f⟩) → Tells (Good ⟨c, s, mi, ma, h, f⟩) (spec_GoodAgg.j2 (k + 5) h.sum b c s mi ma h f) := by
            intro b hb hb'
            rw [show k + 5 = (k + 4) + 1 from rfl, spec_GoodAgg.j2]
            by_cases b0 : b = true
            · rw [if_pos b0]; exact .no (hb' b0)
            have hv := hb (Bool.eq_false_iff.2 b0)
            rw [if_neg b0]
            cases f
            · rw [if_neg (by decide)]
              by_cases hsc : h.sum = c
              · rw [if_pos hsc, l1In_ok, Option.bind_some, em, ep]
                by_cases hs' : -1000000000 * c ≤ s ∧ s ≤ 1000000000 * c
                · rw [decide_eq_true hs']
                  exact .yes ⟨hc.1, hc.2, hl, hn, fun h' => absurd h' (by simp), fun _ => ⟨hsc, hs'.1, hs'.2⟩, fun h' => absurd h' c0, fun _ => hv⟩
                · rw [decide_eq_false hs']; exact .no (fun g => hs' (g.notfull rfl).2)
              · rw [if_neg hsc]; exact .no (fun g => hsc (g.notfull rfl).1)
            · rw [if_pos rfl]
              by_cases t0 : s = 0
              · rw [show (s == 0) = true from beq_iff_eq.2 t0]
                exact .yes ⟨hc.1, hc.2, hl, hn, fun _ => t0, fun h' => absurd h' (by simp), fun h' => absurd h' c0, fun _ => hv⟩
              · rw [show (s == 0) = false from beq_eq_false_iff_ne.2 t0]; exact .no (fun g => t0 (g.full rfl))
          rw [if_neg c0, l4Value_ok, Option.bind_some]
          by_cases v1 : -1000000000 ≤ mi ∧ mi ≤ 1000000000
          · rw [decide_eq_true v1, if_pos rfl, l4Value_ok, Option.bind_some]
            by_cases v2 : -1000000000 ≤ ma ∧ ma ≤ 1000000000
            · rw [decide_eq_true v2, if_pos rfl]
              by_cases v3 : mi > ma
              · rw [decide_eq_true v3]
                exact hj2 true (fun h' => absurd h' (by decide)) (fun _ g => by have := g.some c0; simp only at this; omega)
              · rw [decide_eq_false v3]
                exact hj2 false (fun _ => ⟨v1.1, by omega, v2.2⟩) (fun h' => absurd h' (by decide))
            · rw [decide_eq_false v2, if_neg (by decide)]
              exact hj2 true (fun h' => absurd h' (by decide)) (fun _ g => v2 (by have := g.some c0; simp only at this; omega))
          · rw [decide_eq_false v1, if_neg (by decide)]
            exact hj2 true (fun h' => absurd h' (by decide)) (fun _ g => v1 (by have := g.some c0; simp only at this; omega))
      · obtain ⟨_, i2⟩ := hs (k + 5) 0 0 (by omega) (by omega) (by omega)
        have i2' := i2 (by rw [List.drop_zero]; exact hn)
        have e0 : ((0 : Nat) : Int) = 0 := rfl
        rw [e0] at i2'
        rw [show k + 14 = k + 5 + 8 + 1 from rfl, i2']
        exact .no (fun g => hn g.nums)
    · rw [if_pos (by simp only [bne_iff_ne, ne_eq]; omega)]
      exact .no (fun g => hl g.len)
  · rw [decide_eq_false hc, if_neg (by decide)]
    rw [show k + 15 = (k + 14) + 1 from rfl, spec_GoodAgg.j0, if_pos rfl]
    exact .no (fun g => hc ⟨g.c0, g.c1⟩)

theorem spec_good {a : Ag} (_hr : Rg a) {k : Nat} (hk : 20 < k) : Tells (Good a) (spec_GoodAgg.f k a.c a.s a.mi a.ma a.h a.f) := spec_goodAll a hk

end Go.Proofs.Ytdkokfnnebdppaa.Lem

/- Two good aggs joined: both programs' joins give what the law's join gives. -/
namespace Go.Proofs.Ytdkokfnnebdppaa.Lem
open Go.RowKit Go.Proofs.Ytdkokfnnebdppaa.P Go.Proofs.YtdkokfnnebdppaaW.PrintWords Go.Proofs.YtdkokfnnebdppaaW.PrintLast Go.Proofs.YtdkokfnnebdppaaW.PrintMore
theorem mn_cap (x : Int) : mn x 1000000000 = cap x := by unfold mn cap; (repeat' split) <;> omega

theorem addH_snoc : ∀ {a b : List Int} (x y : Int), a.length = b.length → addH (a ++ [x]) (b ++ [y]) = addH a b ++ [cap (x + y)] ∧ overH (a ++ [x]) (b ++ [y]) = (overH a b || decide (x + y > 1000000000))
  | [], [], x, y, _ => by simp [addH, overH]
  | [], _ :: _, _, _, h => by simp at h
  | _ :: _, [], _, _, h => by simp at h
  | p :: ps, q :: qs, x, y, h => by
    obtain ⟨i1, i2⟩ := addH_snoc (a := ps) (b := qs) x y (by simpa using h)
    simp only [List.cons_append, addH, overH, i1, i2, Bool.or_assoc]
    exact ⟨trivial, trivial⟩

/-- The first numbers of two histograms, one more of each. -/
theorem add_take {a b : List Int} (h : a.length = b.length) {i : Nat} (hi : i < a.length) :
    addH (a.take (i + 1)) (b.take (i + 1)) = addH (a.take i) (b.take i) ++ [cap (rd a (i : Int) + rd b (i : Int))] ∧ overH (a.take (i + 1)) (b.take (i + 1)) = (overH (a.take i) (b.take i) || decide (rd a (i : Int) + rd b (i : Int) > 1000000000)) := by
  have ea : a.take (i + 1) = a.take i ++ [rd a (i : Int)] := by
    rw [List.take_add_one, List.getElem?_eq_getElem hi]
    unfold Go.Proofs.YtdkokfnnebdppaaW.PrintWords.rd
    rw [Int.toNat_natCast, List.getD_eq_getElem?_getD, List.getElem?_eq_getElem hi]
    rfl
  have eb : b.take (i + 1) = b.take i ++ [rd b (i : Int)] := by
    rw [List.take_add_one, List.getElem?_eq_getElem (by omega)]
    unfold Go.Proofs.YtdkokfnnebdppaaW.PrintWords.rd
    rw [Int.toNat_natCast, List.getD_eq_getElem?_getD, List.getElem?_eq_getElem (by omega)]
    rfl
  rw [ea, eb]
  exact addH_snoc _ _ (by rw [List.length_take, List.length_take, h])

theorem nums_rd {l : List Int} (h : Nums l) (i : Int) : 0 ≤ rd l i ∧ rd l i ≤ 1000000000 := by
  unfold Go.Proofs.YtdkokfnnebdppaaW.PrintWords.rd
  rcases Nat.lt_or_ge i.toNat l.length with hl | hl
  · rw [List.getD_eq_getElem?_getD, List.getElem?_eq_getElem hl]
    exact h _ (List.getElem_mem hl)
  · rw [List.getD_eq_getElem?_getD, List.getElem?_eq_none hl]
    simp

/-- The end of the program's join. -/
def endJ (a b : Ag) (c : Int) (h : List Int) (f : Bool) : Int × Int × Int × Int × List Int × Bool :=
  (c, if f then 0 else a.s + b.s, if a.c = 0 then b.mi else if b.c = 0 then a.mi else mn a.mi b.mi, if a.c = 0 then b.ma else if b.c = 0 then a.ma else mx a.ma b.ma, h, f)

theorem joined1_ok (x : Int) (f : Bool) : impl_joined_1.f x f = some (cap x, f || decide (x > 1000000000)) := by
  unfold impl_joined_1.f
  rw [mn_cap]

theorem joined_l0 {a b : Ag} (ha : Good a) (hb : Good b) (c : Int) (d : Nat) : ∀ (k i : Nat) (h : List Int) (f : Bool), i + d = 8 → h = addH (a.h.take i) (b.h.take i) ++ List.replicate d 0 → d < k →
    impl_joined.l0 k 8 (i : Int) a.c a.s a.mi a.ma a.h a.f b.c b.s b.mi b.ma b.h b.f c 0 0 0 h (f || overH (a.h.take i) (b.h.take i)) = some (endJ a b c (addH a.h b.h) (f || overH a.h b.h)) := by
  have la := ha.len
  have lb := hb.len
  induction d with
  | zero =>
    intro k i h f hi hh hk
    obtain ⟨k, rfl⟩ : ∃ m, k = m + 1 := ⟨k - 1, by omega⟩
    have ta : a.h.take i = a.h := List.take_of_length_le (by omega)
    have tb : b.h.take i = b.h := List.take_of_length_le (by omega)
    rw [ta, tb, List.replicate_zero, List.append_nil] at hh
    rw [ta, tb, hh]
    have ew : wrap64 (a.s + b.s) = a.s + b.s := by
      have := ha.rg.s
      have := hb.rg.s
      exact w64 (by omega) (by omega)
    conv => lhs; unfold impl_joined.l0
    rw [if_neg (by omega), ew]
    generalize (f || overH a.h b.h) = F
    unfold endJ
    cases F <;> (by_cases h1 : a.c = 0) <;> (by_cases h2 : b.c = 0) <;> simp [h1, h2]
  | succ d ih =>
    intro k i h f hi hh hk
    obtain ⟨k, rfl⟩ : ∃ m, k = m + 1 := ⟨k - 1, by omega⟩
    obtain ⟨e1, e2⟩ := add_take (a := a.h) (b := b.h) (by omega) (i := i) (by omega)
    have ra := nums_rd ha.nums (i : Int)
    have rb := nums_rd hb.nums (i : Int)
    have hl : (addH (a.h.take i) (b.h.take i)).length = i := by rw [addH_length (by rw [List.length_take, List.length_take, la, lb]), List.length_take]; omega
    have hhl : h.length = 8 := by rw [hh, List.length_append, List.length_replicate, hl]; omega
    have hset : h.set i (cap (rd a.h (i : Int) + rd b.h (i : Int))) = addH (a.h.take (i + 1)) (b.h.take (i + 1)) ++ List.replicate d 0 := by
      rw [hh, e1, List.set_append_right _ _ (by omega), hl, Nat.sub_self, List.replicate_succ, List.set_cons_zero, List.append_assoc]
      rfl
    have hnext := ih k (i + 1) _ f (by omega) hset (by omega)
    conv => lhs; unfold impl_joined.l0
    rw [if_pos (by omega), if_pos (by omega), if_pos (by omega), if_pos (by omega), w64 (x := rd a.h (i : Int) + rd b.h (i : Int)) (by omega) (by omega), joined1_ok, Option.bind_some]
    try dsimp only
    rw [if_pos (by omega), Int.toNat_natCast, show wrap64 ((i : Int) + 1) = ((i + 1 : Nat) : Int) from by rw [w64 (by omega) (by omega)]; omega, Bool.or_assoc, ← e2]
    exact hnext

/-- The cells of an agg. -/
def Ag.t (a : Ag) : Int × Int × Int × Int × List Int × Bool := (a.c, a.s, a.mi, a.ma, a.h, a.f)

theorem joined_ok {a b : Ag} (ha : Good a) (hb : Good b) {k : Nat} (hk : 20 < k) : impl_joined.f k a.c a.s a.mi a.ma a.h a.f b.c b.s b.mi b.ma b.h b.f = some (join a b).t := by
  obtain ⟨k, rfl⟩ : ∃ m, k = m + 1 := ⟨k - 1, by omega⟩
  have a0 := ha.c0; have a1 := ha.c1; have b0 := hb.c0; have b1 := hb.c1
  have main : ∀ F : Bool, impl_joined.j0 (k + 1) a.c a.s a.mi a.ma a.h a.f b.c b.s b.mi b.ma b.h b.f 0 0 0 0 (List.replicate 8 0) F = some (endJ a b (cap (a.c + b.c)) (addH a.h b.h) ((F || decide (a.c + b.c > 1000000000)) || overH a.h b.h)) := by
    intro F
    rw [impl_joined.j0, w64 (x := a.c + b.c) (by omega) (by omega), joined1_ok, Option.bind_some]
    try dsimp only
    have := joined_l0 ha hb (cap (a.c + b.c)) 8 k 0 (List.replicate 8 0) (F || decide (a.c + b.c > 1000000000)) (by omega) (by simp [addH]) (by omega)
    rw [List.take_zero, List.take_zero, show overH ([] : List Int) [] = false from rfl, Bool.or_false] at this
    exact this
  have hn : impl_noAgg.f = some (0, 0, 0, 0, List.replicate 8 0, false) := by
    unfold impl_noAgg.f
    rw [if_pos (by decide)]
  unfold impl_joined.f
  rw [hn, Option.bind_some]
  try dsimp only
  have he : some (join a b).t = some (endJ a b (cap (a.c + b.c)) (addH a.h b.h) ((a.f || b.f || decide (a.c + b.c > 1000000000)) || overH a.h b.h)) := rfl
  rw [he]
  by_cases hf : a.f = true
  · rw [if_pos hf, main, hf]
    simp only [Bool.true_or]
  · rw [if_neg hf, main, Bool.eq_false_iff.2 hf]
    simp only [Bool.false_or]

theorem l4Own_ok {a : Ag} (ha : Good a) : spec_l4Own.f a.c a.s a.mi a.ma a.h a.f = some a.t := by
  unfold spec_l4Own.f
  rw [Option.bind_some, if_pos (by rw [ha.len]; decide), List.nil_append]
  rfl

theorem l4Join_l0 {a b : Ag} (ha : Good a) (hb : Good b) (c s mi ma : Int) (d : Nat) : ∀ (k i : Nat) (f : Bool), i + d = 8 → d < k →
    spec_l4Join.l0 k a.h (a.h.length : Int) (i : Int) b.c b.s b.mi b.ma b.h b.f c s mi ma (addH (a.h.take i) (b.h.take i)) (f || overH (a.h.take i) (b.h.take i)) = some (c, if f || overH a.h b.h then 0 else s, mi, ma, addH a.h b.h, f || overH a.h b.h) := by
  have la := ha.len
  have lb := hb.len
  induction d with
  | zero =>
    intro k i f hi hk
    obtain ⟨k, rfl⟩ : ∃ m, k = m + 1 := ⟨k - 1, by omega⟩
    have ta : a.h.take i = a.h := List.take_of_length_le (by omega)
    have tb : b.h.take i = b.h := List.take_of_length_le (by omega)
    rw [ta, tb]
    conv => lhs; unfold spec_l4Join.l0
    rw [if_neg (by omega)]
    generalize (f || overH a.h b.h) = F
    cases F <;> rfl
  | succ d ih =>
    intro k i f hi hk
    obtain ⟨k, rfl⟩ : ∃ m, k = m + 1 := ⟨k - 1, by omega⟩
    obtain ⟨e1, e2⟩ := add_take (a := a.h) (b := b.h) (by omega) (i := i) (by omega)
    have ra := nums_rd ha.nums (i : Int)
    have rb := nums_rd hb.nums (i : Int)
    have hl : (addH (a.h.take i) (b.h.take i)).length = i := by rw [addH_length (by rw [List.length_take, List.length_take, la, lb]), List.length_take]; omega
    have hnext := ih k (i + 1) f (by omega) (by omega)
    rw [e1, e2, ← Bool.or_assoc] at hnext
    have ei : wrap64 ((i : Int) + 1) = ((i + 1 : Nat) : Int) := by rw [w64 (by omega) (by omega)]; omega
    conv => lhs; unfold spec_l4Join.l0
    rw [if_pos (by omega), if_pos (by omega), if_pos (by omega), if_pos (by omega), w64 (x := rd a.h (i : Int) + rd b.h (i : Int)) (by omega) (by omega), ei]
    by_cases hc : rd a.h (i : Int) + rd b.h (i : Int) > 1000000000
    · rw [if_pos hc, if_pos (by rw [hl]; omega)]
      rw [decide_eq_true hc, Bool.or_true, show cap (rd a.h (i : Int) + rd b.h (i : Int)) = 1000000000 from by unfold cap; rw [if_pos hc]] at hnext
      exact hnext
    · rw [if_neg hc, if_pos (by rw [hl]; omega)]
      rw [decide_eq_false hc, Bool.or_false, show cap (rd a.h (i : Int) + rd b.h (i : Int)) = rd a.h (i : Int) + rd b.h (i : Int) from by unfold cap; rw [if_neg hc]] at hnext
      exact hnext

theorem l4Join_ok {a b : Ag} (ha : Good a) (hb : Good b) {k : Nat} (hk : 20 < k) : spec_l4Join.f k a.c a.s a.mi a.ma a.h a.f b.c b.s b.mi b.ma b.h b.f = some (join a b).t := by
  obtain ⟨k, rfl⟩ : ∃ m, k = m + 3 := ⟨k - 3, by omega⟩
  have a0 := ha.c0; have a1 := ha.c1; have b0 := hb.c0; have b1 := hb.c1
  unfold spec_l4Join.f
  by_cases h1 : a.c = 0
  · rw [if_pos h1, l4Own_ok hb, Option.bind_some, join_zero ha hb h1]
  rw [if_neg h1]
  by_cases h2 : b.c = 0
  · rw [if_pos h2, l4Own_ok ha, Option.bind_some, join_comm ha hb, join_zero hb ha h2]
  rw [if_neg h2]
  have ew : wrap64 (a.s + b.s) = a.s + b.s := by
    have := ha.rg.s
    have := hb.rg.s
    exact w64 (by omega) (by omega)
  rw [w64 (x := a.c + b.c) (by omega) (by omega), ew]
  have hmn : mn a.mi b.mi = if b.mi < a.mi then b.mi else a.mi := rfl
  have hmx : mx a.ma b.ma = if b.ma > a.ma then b.ma else a.ma := by unfold mx; (repeat' split) <;> omega
  have fin : ∀ (c : Int) (F : Bool), spec_l4Join.l0 k a.h (a.h.length : Int) 0 b.c b.s b.mi b.ma b.h b.f c (a.s + b.s) (mn a.mi b.mi) (mx a.ma b.ma) [] F = some (c, if F || overH a.h b.h then 0 else a.s + b.s, mn a.mi b.mi, mx a.ma b.ma, addH a.h b.h, F || overH a.h b.h) := by
    intro c F
    have := l4Join_l0 ha hb c (a.s + b.s) (mn a.mi b.mi) (mx a.ma b.ma) 8 k 0 F (by omega) (by omega)
    rw [List.take_zero, List.take_zero, show overH ([] : List Int) [] = false from rfl, Bool.or_false] at this
    exact this
  have viaJ0 : ∀ (c : Int) (F : Bool), spec_l4Join.j0 (k + 3) a.c a.s a.mi a.ma a.h a.f b.c b.s b.mi b.ma b.h b.f c (a.s + b.s) a.mi a.ma F = some (c, if F || overH a.h b.h then 0 else a.s + b.s, mn a.mi b.mi, mx a.ma b.ma, addH a.h b.h, F || overH a.h b.h) := by
    intro c F
    rw [← fin c F]
    rw [show k + 3 = (k + 2) + 1 from rfl, spec_l4Join.j0]
    have j1 : ∀ m : Int, spec_l4Join.j1 (k + 2) a.c a.s a.mi a.ma a.h a.f b.c b.s b.mi b.ma b.h b.f c (a.s + b.s) m a.ma F = spec_l4Join.l0 k a.h (a.h.length : Int) 0 b.c b.s b.mi b.ma b.h b.f c (a.s + b.s) m (mx a.ma b.ma) [] F := by
      intro m
      rw [show k + 2 = (k + 1) + 1 from rfl, spec_l4Join.j1, hmx]
      split
      · rw [spec_l4Join.j2]
      · rw [spec_l4Join.j2]
    rw [hmn]
    split
    · exact j1 _
    · exact j1 _
  have viaJ4 : ∀ (c : Int) (F : Bool), spec_l4Join.j4 (k + 3) a.c a.s a.mi a.ma a.h a.f b.c b.s b.mi b.ma b.h b.f c (a.s + b.s) a.mi a.ma F = some (c, if F || overH a.h b.h then 0 else a.s + b.s, mn a.mi b.mi, mx a.ma b.ma, addH a.h b.h, F || overH a.h b.h) := by
    intro c F
    rw [← fin c F]
    rw [show k + 3 = (k + 2) + 1 from rfl, spec_l4Join.j4]
    have j1 : ∀ m : Int, spec_l4Join.j5 (k + 2) a.c a.s a.mi a.ma a.h a.f b.c b.s b.mi b.ma b.h b.f c (a.s + b.s) m a.ma F = spec_l4Join.l0 k a.h (a.h.length : Int) 0 b.c b.s b.mi b.ma b.h b.f c (a.s + b.s) m (mx a.ma b.ma) [] F := by
      intro m
      rw [show k + 2 = (k + 1) + 1 from rfl, spec_l4Join.j5, hmx]
      split
      · rw [spec_l4Join.j6]
      · rw [spec_l4Join.j6]
    rw [hmn]
    split
    · exact j1 _
    · exact j1 _
  have he : ∀ F : Bool, F = (a.f || b.f || decide (a.c + b.c > 1000000000)) → some (join a b).t = some (cap (a.c + b.c), if F || overH a.h b.h then 0 else a.s + b.s, mn a.mi b.mi, mx a.ma b.ma, addH a.h b.h, F || overH a.h b.h) := by
    intro F hF
    subst hF
    unfold Ag.t join
    rw [if_neg h1, if_neg h2, if_neg h1, if_neg h2]
  by_cases hf : a.f = true
  · rw [if_pos hf, he true (by rw [hf, Bool.true_or, Bool.true_or])]
    by_cases hc : a.c + b.c > 1000000000
    · rw [if_pos hc, viaJ0, show cap (a.c + b.c) = 1000000000 from by unfold cap; rw [if_pos hc]]
    · rw [if_neg hc, viaJ0, show cap (a.c + b.c) = a.c + b.c from by unfold cap; rw [if_neg hc]]
  · rw [if_neg hf]
    have hf' := Bool.eq_false_iff.2 hf
    by_cases hc : a.c + b.c > 1000000000
    · rw [if_pos hc, viaJ4, he true (by rw [decide_eq_true hc, Bool.or_true]), show cap (a.c + b.c) = 1000000000 from by unfold cap; rw [if_pos hc]]
    · rw [if_neg hc, viaJ4, he b.f (by rw [hf', decide_eq_false hc, Bool.false_or, Bool.or_false]), show cap (a.c + b.c) = a.c + b.c from by unfold cap; rw [if_neg hc]]

end Go.Proofs.Ytdkokfnnebdppaa.Lem

/- The order of texts: words with ends that are less than every letter are in the order of their letters. -/
namespace Go.Proofs.Ytdkokfnnebdppaa.Lem
open Go

theorem less_irrefl : ∀ x : List UInt8, Op.bytesLess x x = false
  | [] => rfl
  | a :: x => by
    rw [Op.bytesLess, less_irrefl x, Bool.and_false, Bool.or_false]
    exact decide_eq_false (by rw [UInt8.lt_iff_toNat_lt]; omega)

theorem less_cons (a b : UInt8) (x y : List UInt8) : Op.bytesLess (a :: x) (b :: y) = if a = b then Op.bytesLess x y else decide (a < b) := by
  rw [Op.bytesLess]
  by_cases h : a = b
  · subst h
    rw [if_pos rfl, beq_self_eq_true, Bool.true_and, decide_eq_false (by rw [UInt8.lt_iff_toNat_lt]; omega), Bool.false_or]
  · rw [if_neg h, beq_eq_false_iff_ne.2 h, Bool.false_and, Bool.or_false]

/-- The order of two texts as a number. -/
def ord (x y : List UInt8) : Int := if Op.bytesLess x y = true then -1 else if Op.bytesLess y x = true then 1 else 0
theorem ord_self (x : List UInt8) : ord x x = 0 := by
  unfold ord
  rw [less_irrefl, if_neg (by decide), if_neg (by decide)]
theorem ord_cons (a b : UInt8) (x y : List UInt8) : ord (a :: x) (b :: y) = if a = b then ord x y else if a < b then -1 else 1 := by
  unfold ord
  rw [less_cons, less_cons]
  by_cases h : a = b
  · subst h
    rw [if_pos rfl, if_pos rfl, if_pos rfl]
  · rw [if_neg h, if_neg (Ne.symm h), if_neg h]
    have hn : a.toNat ≠ b.toNat := fun e => h (UInt8.toNat_inj.1 e)
    by_cases hl : a < b
    · rw [if_pos (decide_eq_true hl), if_pos hl]
    · rw [if_neg (by simpa using hl), if_neg hl]
      rw [UInt8.lt_iff_toNat_lt] at hl
      rw [if_pos (decide_eq_true (by rw [UInt8.lt_iff_toNat_lt]; omega))]
theorem ord_nil_cons (b : UInt8) (y : List UInt8) : ord [] (b :: y) = -1 := rfl
theorem ord_cons_nil (b : UInt8) (y : List UInt8) : ord (b :: y) [] = 1 := rfl

/-- Words whose ends are less than each letter. -/
theorem ord_ends : ∀ (a b : List UInt8) (c d : UInt8) (x y : List UInt8), (∀ h ∈ a, d < h) → (∀ h ∈ b, c < h) →
    ord (a ++ c :: x) (b ++ d :: y) = if a = b then ord (c :: x) (d :: y) else ord a b
  | [], [], c, d, x, y, _, _ => by rw [if_pos rfl]; rfl
  | [], g :: b, c, d, x, y, _, hb => by
    have h1 : c < g := hb g (List.mem_cons_self ..)
    have hne : c ≠ g := fun e => by subst e; rw [UInt8.lt_iff_toNat_lt] at h1; omega
    rw [if_neg (by simp), ord_nil_cons, List.nil_append, List.cons_append, ord_cons, if_neg hne, if_pos h1]
  | h :: a, [], c, d, x, y, ha, _ => by
    have h1 : d < h := ha h (List.mem_cons_self ..)
    have h2 : ¬ h < d := by rw [UInt8.lt_iff_toNat_lt] at h1 ⊢; omega
    have hne : h ≠ d := fun e => by subst e; exact h2 h1
    rw [if_neg (by simp), ord_cons_nil, List.nil_append, List.cons_append, ord_cons, if_neg hne, if_neg h2]
  | h :: a, g :: b, c, d, x, y, ha, hb => by
    have ih := ord_ends a b c d x y (fun q hq => ha q (List.mem_cons_of_mem _ hq)) (fun q hq => hb q (List.mem_cons_of_mem _ hq))
    rw [List.cons_append, List.cons_append, ord_cons h g (a ++ c :: x) (b ++ d :: y), ord_cons h g a b, ih]
    by_cases e : h = g
    · subst e
      rw [if_pos rfl, if_pos rfl]
      by_cases e2 : a = b
      · rw [if_pos e2, if_pos (by rw [e2])]
      · rw [if_neg e2, if_neg (by simpa using e2)]
    · rw [if_neg e, if_neg e, if_neg (show ¬ (h :: a = g :: b) from fun q => e (by injection q))]

theorem ord_eq_zero : ∀ {a b : List UInt8}, ord a b = 0 → a = b
  | [], [], _ => rfl
  | [], g :: b, h => by rw [ord_nil_cons] at h; exact absurd h (by decide)
  | x :: a, [], h => by rw [ord_cons_nil] at h; exact absurd h (by decide)
  | x :: a, g :: b, h => by
    rw [ord_cons] at h
    by_cases e : x = g
    · subst e
      rw [if_pos rfl] at h
      rw [ord_eq_zero h]
    · rw [if_neg e] at h
      split at h <;> exact absurd h (by decide)
end Go.Proofs.Ytdkokfnnebdppaa.Lem

/- Two texts and two numbers compared, and the first of numbers that is not nought. No conditions. -/
namespace Go.Proofs.Ytdkokfnnebdppaa.Lem
open Go Go.RowKit Go.Proofs.Ytdkokfnnebdppaa.P Go.Proofs.YtdkokfnnebdppaaW.PrintWords Go.Proofs.YtdkokfnnebdppaaW.PrintLast Go.Proofs.YtdkokfnnebdppaaW.PrintMore

def ordB (a b : ByteArray) : Int := ord a.data.toList b.data.toList
def sgnI (a b : Int) : Int := if a < b then -1 else if a > b then 1 else 0
theorem cmpS_ok (a b : ByteArray) : cmp_Compare_string.f a b = some (ordB a b) := by
  unfold cmp_Compare_string.f cmp_isNaN_string.f
  rw [bne_self_eq_false, bne_self_eq_false, Option.bind_some, Option.bind_some, if_neg (by decide), if_neg (by decide)]
  unfold ordB ord
  rw [Go.Lib.toList_data, Go.Lib.toList_data]
  split
  · rfl
  · split <;> rfl
theorem cmpI_ok (a b : Int) : cmp_Compare_int.f a b = some (sgnI a b) := by
  unfold cmp_Compare_int.f cmp_isNaN_int.f
  rw [bne_self_eq_false, bne_self_eq_false, Option.bind_some, Option.bind_some, if_neg (by decide), if_neg (by decide)]
  unfold sgnI
  split
  · rfl
  · split <;> rfl
theorem or2_ok (x y : Int) (k : Nat) : cmp_Or_int.f (k + 3) [x, y] = some (if x = 0 then y else x) := by
  unfold cmp_Or_int.f
  show cmp_Or_int.l0 (k + 3) 0 [x, y] 2 0 = _
  rw [cmp_Or_int.l0, if_pos (by decide), if_pos (by decide), if_pos (show (0 : Int) < ([x, y].length : Int) from (by decide : (0 : Int) < ((2 : Nat) : Int))), show rd [x, y] 0 = x from rfl]
  by_cases h : x = 0
  · rw [if_pos h, if_pos h, show wrap64 (0 + 1) = 1 from w64 (by decide) (by decide), cmp_Or_int.l0, if_pos (by decide), if_pos (by decide), if_pos (show (1 : Int) < ([x, y].length : Int) from (by decide : (1 : Int) < ((2 : Nat) : Int))), show rd [x, y] 1 = y from rfl]
    by_cases h2 : y = 0
    · rw [if_pos h2, show wrap64 (1 + 1) = 2 from w64 (by decide) (by decide), cmp_Or_int.l0, if_neg (by decide), h2]
    · rw [if_neg h2]
  · rw [if_neg h, if_neg h]
theorem or3_ok (x y z : Int) (k : Nat) : cmp_Or_int.f (k + 4) [x, y, z] = some (if x = 0 then (if y = 0 then z else y) else x) := by
  unfold cmp_Or_int.f
  show cmp_Or_int.l0 (k + 4) 0 [x, y, z] 3 0 = _
  rw [cmp_Or_int.l0, if_pos (by decide), if_pos (by decide), if_pos (show (0 : Int) < ([x, y, z].length : Int) from (by decide : (0 : Int) < ((3 : Nat) : Int))), show rd [x, y, z] 0 = x from rfl]
  by_cases h : x = 0
  · rw [if_pos h, if_pos h, show wrap64 (0 + 1) = 1 from w64 (by decide) (by decide), cmp_Or_int.l0, if_pos (by decide), if_pos (by decide), if_pos (show (1 : Int) < ([x, y, z].length : Int) from (by decide : (1 : Int) < ((3 : Nat) : Int))), show rd [x, y, z] 1 = y from rfl]
    by_cases h2 : y = 0
    · rw [if_pos h2, if_pos h2, show wrap64 (1 + 1) = 2 from w64 (by decide) (by decide), cmp_Or_int.l0, if_pos (by decide), if_pos (by decide), if_pos (show (2 : Int) < ([x, y, z].length : Int) from (by decide : (2 : Int) < ((3 : Nat) : Int))), show rd [x, y, z] 2 = z from rfl]
      by_cases h3 : z = 0
      · rw [if_pos h3, show wrap64 (2 + 1) = 3 from w64 (by decide) (by decide), cmp_Or_int.l0, if_neg (by decide), h3]
      · rw [if_neg h3]
    · rw [if_neg h2, if_neg h2]
  · rw [if_neg h, if_neg h]
end Go.Proofs.Ytdkokfnnebdppaa.Lem

/- Words on lists: a place of a row, and what stands behind it. No conditions. -/
namespace Go.Proofs.Ytdkokfnnebdppaa.Lem
open Go Go.RowKit Go.Proofs.Ytdkokfnnebdppaa.P Go.Proofs.YtdkokfnnebdppaaW.PrintWords Go.Proofs.YtdkokfnnebdppaaW.PrintLast Go.Proofs.YtdkokfnnebdppaaW.PrintMore

theorem drop_get {α : Type} {l : List α} {i : Nat} (h : i < l.length) : l.drop i = l[i] :: l.drop (i + 1) := (List.drop_eq_getElem_cons h)
theorem set_copy {α β : Type} (f : α → β) (z : β) {l : List α} {i d : Nat} (h : i < l.length) : ((l.take i).map f ++ List.replicate (d + 1) z).set i (f l[i]) = (l.take (i + 1)).map f ++ List.replicate d z := by
  have hl : ((l.take i).map f).length = i := by rw [List.length_map, List.length_take]; omega
  rw [List.set_append_right _ _ (by omega), hl, Nat.sub_self, List.replicate_succ, List.set_cons_zero, List.take_succ_eq_append_getElem h, List.map_append, List.append_assoc]
  rfl
theorem set_mid {α : Type} (pre : List α) (a v : α) (rest : List α) {i : Nat} (h : i = pre.length) : (pre ++ a :: rest).set i v = pre ++ v :: rest := by
  subst h
  rw [List.set_append_right _ _ (Nat.le_refl _), Nat.sub_self, List.set_cons_zero]
theorem getD_mid {α : Type} (pre : List α) (a : α) (rest : List α) (d : α) {i : Nat} (h : i = pre.length) : (pre ++ a :: rest).getD i d = a := by
  subst h
  rw [List.getD_eq_getElem?_getD, List.getElem?_append_right (Nat.le_refl _), Nat.sub_self]
  rfl
end Go.Proofs.Ytdkokfnnebdppaa.Lem

/- Aggs that come in: their copies, and that a copy equals itself. -/
namespace Go.Proofs.Ytdkokfnnebdppaa.Lem
open Go Go.RowKit Go.Proofs.Ytdkokfnnebdppaa.P Go.Proofs.YtdkokfnnebdppaaW.PrintWords Go.Proofs.YtdkokfnnebdppaaW.PrintLast Go.Proofs.YtdkokfnnebdppaaW.PrintMore

theorem rd_at1 {l : List Int} {i : Nat} (h : i < l.length) : l.drop i = rd l (i : Int) :: l.drop (i + 1) := by
  rw [List.drop_eq_getElem_cons h]
  unfold rd
  rw [Int.toNat_natCast, List.getD_eq_getElem?_getD, List.getElem?_eq_getElem h]
  rfl
/-! ### copies -/
theorem rd_set_copy {l : List Int} {i d : Nat} (hi : i + (d + 1) = l.length) : (l.take i ++ List.replicate (d + 1) 0).set i (rd l (i : Int)) = l.take (i + 1) ++ List.replicate d 0 := by
  have hl : (l.take i).length = i := by rw [List.length_take]; omega
  have hd := rd_at1 (l := l) (i := i) (by omega)
  have ht : l.take (i + 1) = l.take i ++ [rd l (i : Int)] := by
    have h1 := List.take_append_drop i l
    have h2 : l = (l.take i ++ [rd l (i : Int)]) ++ l.drop (i + 1) := by rw [List.append_assoc, List.singleton_append, ← hd, h1]
    have h3 : (l.take i ++ [rd l (i : Int)]).length = i + 1 := by rw [List.length_append, List.length_take, List.length_singleton]; omega
    have h4 := congrArg (List.take (i + 1)) h2
    rw [List.take_left' h3] at h4
    exact h4
  rw [ht, List.set_append_right _ _ (by omega), hl, Nat.sub_self, List.replicate_succ, List.set_cons_zero, List.append_assoc]
  rfl
theorem toInts_l0 {l : List Int} (hl : l.length ≤ 1048576) (d : Nat) : ∀ (k i : Nat), i + d = l.length → d < k → laws_toIntS.l0 k l (l.take i ++ List.replicate d 0) (i : Int) = some l := by
  induction d with
  | zero =>
    intro k i hi hk
    obtain ⟨k, rfl⟩ : ∃ m, k = m + 1 := ⟨k - 1, by omega⟩
    conv => lhs; unfold laws_toIntS.l0
    rw [if_neg (by omega), List.take_of_length_le (by omega), List.replicate_zero, List.append_nil]
  | succ d ih =>
    intro k i hi hk
    obtain ⟨k, rfl⟩ : ∃ m, k = m + 1 := ⟨k - 1, by omega⟩
    have hnext := ih k (i + 1) (by omega) (by omega)
    have ht : (l.take i).length = i := by rw [List.length_take]; omega
    conv => lhs; unfold laws_toIntS.l0
    rw [if_pos (by omega), if_pos (by omega), if_pos (by rw [List.length_append, List.length_replicate, ht]; omega), Int.toNat_natCast, rd_set_copy hi, show wrap64 ((i : Int) + 1) = ((i + 1 : Nat) : Int) from by rw [w64 (by omega) (by omega)]; omega]
    exact hnext
theorem toAgg_ok (c s mi ma : Int) {l : List Int} (hl : l.length ≤ 1048576) (f : Bool) {k : Nat} (hk : 1048576 < k) : laws_toAgg.f k c s mi ma l f = some (c, s, mi, ma, l, f) := by
  have h := toInts_l0 hl l.length k 0 (by omega) (by omega)
  rw [List.take_zero, List.nil_append] at h
  have h' : laws_toIntS.f k l = some l := by
    unfold laws_toIntS.f
    rw [if_pos (by omega), if_pos (by omega), Int.toNat_natCast]
    exact h
  unfold laws_toAgg.f
  rw [h', Option.bind_some]
theorem eqInts_l0 {l : List Int} (hl : l.length ≤ 1048576) (d : Nat) : ∀ (k i : Nat), i + d = l.length → d < k → laws_eqIntS.l0 k l l (i : Int) = some true := by
  induction d with
  | zero =>
    intro k i hi hk
    obtain ⟨k, rfl⟩ : ∃ m, k = m + 1 := ⟨k - 1, by omega⟩
    conv => lhs; unfold laws_eqIntS.l0
    rw [if_neg (by omega)]
  | succ d ih =>
    intro k i hi hk
    obtain ⟨k, rfl⟩ : ∃ m, k = m + 1 := ⟨k - 1, by omega⟩
    have hnext := ih k (i + 1) (by omega) (by omega)
    conv => lhs; unfold laws_eqIntS.l0
    rw [if_pos (by omega), if_pos (by omega), if_pos (by omega), if_pos rfl, show wrap64 ((i : Int) + 1) = ((i + 1 : Nat) : Int) from by rw [w64 (by omega) (by omega)]; omega]
    exact hnext
theorem eqAgg_ok (c s mi ma : Int) {l : List Int} (hl : l.length ≤ 1048576) (f : Bool) {k : Nat} (hk : 1048576 < k) : laws_eqAgg.f k c s mi ma l f c s mi ma l f = some true := by
  have h := eqInts_l0 hl l.length k 0 (by omega) (by omega)
  have h' : laws_eqIntS.f k l l = some true := by
    unfold laws_eqIntS.f
    rw [if_pos rfl]
    exact h
  unfold laws_eqAgg.f
  rw [if_pos rfl, if_pos rfl, if_pos rfl, if_pos rfl, h', Option.bind_some, if_pos rfl, if_neg (by cases f <;> decide)]


theorem szAgg_ok (c s mi ma : Int) {l : List Int} (hl : l.length ≤ 9223372036854775807) (f : Bool) {x : Int} (h0 : 0 ≤ x) (h1 : x ≤ 1048576) : ∃ r, laws_szAgg.f c s mi ma l f x = some r ∧ (r < 0 ∨ (0 ≤ r ∧ r ≤ x ∧ l.length ≤ 1048576)) := by
  unfold laws_szAgg.f laws_szIntS.f
  rw [show wrap64 (x - (l.length : Int)) = x - (l.length : Int) from w64 (by omega) (by omega)]
  by_cases h : x - (l.length : Int) < 0
  · exact ⟨-1, by rw [if_pos h, Option.bind_some, if_pos (by decide)], .inl (by omega)⟩
  · exact ⟨_, by rw [if_neg h, Option.bind_some, if_neg h], .inr ⟨by omega, by omega, by omega⟩⟩
end Go.Proofs.Ytdkokfnnebdppaa.Lem

/- An argument of a row, opened by its type: what reads as a value of the type is of the printed kind, at whatever depth. -/
namespace Go.Proofs.Ytdkokfnnebdppaa.Lem
open Go Go.ChangeShapes Go.WideShapes Go.RowKit Go.Proofs.Ytdkokfnnebdppaa.P Go.Proofs.YtdkokfnnebdppaaW.PrintWords Go.Proofs.YtdkokfnnebdppaaW.PrintLast Go.Proofs.YtdkokfnnebdppaaW.PrintMore

theorem list_of {α : Type} {p : Nat → α → Prop} : ∀ n, (∀ i, i < n → ∃ z, p i z) → ∃ l : List α, l.length = n ∧ ∀ i z, l[i]? = some z → p i z
  | 0, _ => ⟨[], rfl, fun i z h => by simp at h⟩
  | n + 1, h => by
    obtain ⟨l, hl, hp⟩ := list_of n (fun i hi => h i (by omega))
    obtain ⟨z, hz⟩ := h n (by omega)
    refine ⟨l ++ [z], by rw [List.length_append, hl]; rfl, fun i y hy => ?_⟩
    rcases Nat.lt_or_ge i l.length with hi | hi
    · rw [List.getElem?_append_left hi] at hy
      exact hp i y hy
    · have hi' : i = l.length := by
        have := (List.getElem?_eq_some_iff.1 hy).1
        rw [List.length_append, List.length_singleton] at this
        omega
      subst hi'
      have : z = y := by simpa using hy
      subst this
      rw [hl]
      exact hz

theorem addr_add2 (a : Addr) (x y : Nat) : (a.add x).add y = a.add (x + y) := by
  unfold Addr.add
  by_cases hx : x = 0
  · subst hx
    rw [if_pos rfl, Nat.zero_add]
  · by_cases hy : y = 0
    · subst hy
      rw [if_pos rfl, Nat.add_zero]
    · rw [if_neg hx, if_neg hy, if_neg (by omega)]
      simp only [Nat.add_assoc]
section
variable {H : Type} (enc : TypeId × Value → H) (P : Program) (w : World) (base : Nat) (spare : Nat → Bool) (held : Bool)
/-- What reads as a value of the type is of the kind, and good. -/
def Opens {α : Type} (d : Kd α) (t : TypeId) (g : α → Prop) : Prop :=
  ∀ (fuel : Nat) (cs : List Value) (x : DataW H × List MemPlace), DataW.trod enc P w base spare held fuel t cs = some x → ∃ a, d.K w a cs ∧ g a
/-- .. a struct's fields from a place on. -/
def OpensF {α : Type} (d : Kd α) (fs : List Field) (o : Nat) (g : α → Prop) : Prop :=
  ∀ (n : Nat) (cs : List Value) (xs : List (DataW H × List MemPlace)), xs.length = fs.length → cs.length = o + (fs.map fun f => P.cellsOf f.type).sum →
    (∀ (i : Nat) (f : Field), fs[i]? = some f → DataW.trod enc P w base spare held n f.type ((cs.drop f.offset).take (P.cellsOf f.type)) = xs[i]?) → ∃ a, d.K w a (cs.drop o) ∧ g a
variable {enc P w base spare held}
variable {α β : Type} {t e : TypeId}
theorem opens_int {k : IntKind} (ht : P.underlying t = some (.int k)) : Opens enc P w base spare held (Kd.int k) t (fun n => (Lit.int k n).wf = true) := fun fuel cs x h => by
  obtain ⟨n, rfl, _, hw⟩ := DataW.trod_int ht h
  exact ⟨n, rfl, hw⟩
theorem opens_bool (ht : P.underlying t = some .bool) : Opens enc P w base spare held Kd.bool t (fun _ => True) := fun fuel cs x h => by
  obtain ⟨b, rfl, _⟩ := DataW.trod_bool ht h
  exact ⟨b, rfl, trivial⟩
theorem opens_string (ht : P.underlying t = some .string) : Opens enc P w base spare held Kd.string t (fun s => s.size ≤ maxLen) := fun fuel cs x h => by
  obtain ⟨s, rfl, _, hs⟩ := DataW.trod_string ht h
  exact ⟨s, rfl, hs⟩
theorem opens_slice {d : Kd α} {g : α → Prop} (e' : Nat) (ht : P.underlying t = some (.slice e)) (hd : Opens enc P w base spare held d e g) (hc : P.cellsOf e = d.sz) :
    Opens enc P w base spare held (Kd.slice e' d) t (fun l => l.length ≤ maxLen ∧ ∀ a ∈ l, g a) := fun fuel cs x h => by
  rcases DataW.trod_slice ht h with ⟨rfl, _⟩ | ⟨a, len, cap, elems, rest, n, _, rfl, _, hb, hl, hm, hlen, hel, _, _⟩
  · exact ⟨[], ⟨none, 0, rfl, Nat.le_refl _, rfl, Nat.zero_le _, fun h => absurd h (Nat.lt_irrefl _)⟩, Nat.zero_le _, fun a h => by simp at h⟩
  · have each : ∀ i, i < len → ∃ z, (∃ c, c.length = d.sz ∧ d.K w z c ∧ ∀ j u, c[j]? = some u → w.cell? (a.add (i * d.sz + j)) = some u) ∧ g z := by
      intro i hi
      have h1 := hel i hi
      rw [List.getElem?_eq_getElem (by omega), Option.bind_eq_some_iff] at h1
      obtain ⟨cs', hcs, ht'⟩ := h1
      obtain ⟨z, hz, hg⟩ := hd _ _ _ ht'
      obtain ⟨_, hl', hcell⟩ := World.cells?_some hcs
      refine ⟨z, ⟨cs', by rw [← hc]; exact hl', hz, fun j u hj => ?_⟩, hg⟩
      have hj' : j < P.cellsOf e := by have := (List.getElem?_eq_some_iff.1 hj).1; omega
      have h2 := hcell j hj'
      rw [hj, hc] at h2
      have ea : (a.add (i * d.sz)).add j = a.add (i * d.sz + j) := addr_add2 a _ _
      rw [← ea]
      exact h2
    obtain ⟨l, hll, hp⟩ := list_of len each
    subst hll
    have hml : l.length ≤ maxLen := Nat.le_trans hl hm
    refine ⟨l, ⟨some a, cap, rfl, hl, rfl, Nat.le_trans hml (of_decide_eq_true (by kernel_rfl)), fun _ => ⟨a, rfl, fun j z hz => (hp j z hz).1⟩⟩, hml, fun z hz => ?_⟩
    obtain ⟨i, hi⟩ := List.getElem?_of_mem hz
    exact (hp i z hi).2
theorem opensF_one {d : Kd α} {g : α → Prop} {f : Field} {o : Nat} (ho : f.offset = o) (h : Opens enc P w base spare held d f.type g) : OpensF enc P w base spare held d [f] o g := fun n cs xs hx hl hf => by
  match xs, hx with
  | [y], _ =>
    obtain ⟨a, ha, hg⟩ := h _ _ _ (hf 0 f rfl)
    rw [List.map_cons, List.map_nil, List.sum_cons, List.sum_nil] at hl
    rw [ho, List.take_of_length_le (by rw [List.length_drop]; omega)] at ha
    exact ⟨a, ha, hg⟩
theorem opensF_cons {d : Kd α} {d2 : Kd β} {g : α → Prop} {g2 : β → Prop} {f : Field} {fs : List Field} {o : Nat} (ho : f.offset = o) (h : Opens enc P w base spare held d f.type g) (hr : OpensF enc P w base spare held d2 fs (o + P.cellsOf f.type) g2) :
    OpensF enc P w base spare held (Kd.pair d d2) (f :: fs) o (fun a => g a.1 ∧ g2 a.2) := fun n cs xs hx hl hf => by
  match xs, hx with
  | y :: ys, hx =>
    obtain ⟨a, ha, hg⟩ := h _ _ _ (hf 0 f rfl)
    rw [List.map_cons, List.sum_cons] at hl
    obtain ⟨b, hb, hg2⟩ := hr n cs ys (by simpa using hx) (by omega) (fun i f' hi => hf (i + 1) f' hi)
    rw [ho] at ha
    refine ⟨(a, b), ⟨_, _, ?_, ha, hb⟩, hg, hg2⟩
    rw [← List.drop_drop, List.take_append_drop]
theorem opens_struct {d : Kd α} {g : α → Prop} {fs : Array Field} (ht : P.underlying t = some (.struct fs)) (hc : P.cellsOf t = (fs.toList.map fun f => P.cellsOf f.type).sum) (h : OpensF enc P w base spare held d fs.toList 0 g) : Opens enc P w base spare held d t g := fun fuel cs x hx => by
  obtain ⟨xs, n, _, _, hl, hlen, hf⟩ := DataW.trod_struct ht hx
  have := h n cs xs (by rw [hlen]; simp) (by omega) (fun i f hi => hf i f (by simpa using hi))
  rw [List.drop_zero] at this
  exact this
theorem opens_iso {d : Kd α} {g : α → Prop} (f : β → α) (mk : α → β) (hmk : ∀ a, f (mk a) = a) (h : Opens enc P w base spare held d t g) : Opens enc P w base spare held (Kd.iso d f) t (fun b => g (f b)) := fun fuel cs x hx => by
  obtain ⟨a, ha, hg⟩ := h fuel cs x hx
  exact ⟨mk a, by show d.K w (f (mk a)) cs; rw [hmk]; exact ha, by show g (f (mk a)); rw [hmk]; exact hg⟩
end
end Go.Proofs.Ytdkokfnnebdppaa.Lem

/- No row is longer than memory. No conditions. -/
namespace Go.Proofs.Ytdkokfnnebdppaa.Lem
open Go Go.RowKit Go.Proofs.Ytdkokfnnebdppaa.P

theorem maxLen_le {n : Nat} (h : n ≤ maxLen) : n ≤ 9223372036854775807 := Nat.le_trans h (of_decide_eq_true (by kernel_rfl))
end Go.Proofs.Ytdkokfnnebdppaa.Lem

/- What is known of an agg that comes in as an argument. No conditions. -/
namespace Go.Proofs.Ytdkokfnnebdppaa.Lem
open Go Go.RowKit Go.Proofs.Ytdkokfnnebdppaa.P
def GAgg (a : S39) : Prop := (Lit.int .i64 a.f0).wf = true ∧ (Lit.int .i64 a.f1).wf = true ∧ (Lit.int .i64 a.f2).wf = true ∧ (Lit.int .i64 a.f3).wf = true ∧ (a.f4.length ≤ maxLen ∧ ∀ n ∈ a.f4, (Lit.int .i64 n).wf = true) ∧ True
end Go.Proofs.Ytdkokfnnebdppaa.Lem

/- What is known of an entry that comes in as an argument. No conditions. -/
namespace Go.Proofs.Ytdkokfnnebdppaa.Lem
open Go Go.RowKit Go.Proofs.Ytdkokfnnebdppaa.P
def GEntry (e : S41) : Prop := e.f0.size ≤ maxLen ∧ (Lit.int .i64 e.f1).wf = true ∧ (Lit.int .i64 e.f2).wf = true ∧ GAgg e.f3
end Go.Proofs.Ytdkokfnnebdppaa.Lem

/- Entries that come in: their measure, their copies, and that a copy equals itself. -/
namespace Go.Proofs.Ytdkokfnnebdppaa.Lem
open Go Go.RowKit Go.Proofs.Ytdkokfnnebdppaa.P Go.Proofs.YtdkokfnnebdppaaW.PrintWords Go.Proofs.YtdkokfnnebdppaaW.PrintLast Go.Proofs.YtdkokfnnebdppaaW.PrintMore

abbrev Le := S41
abbrev En := S45
theorem rdLe_get {l : List Le} {i : Nat} (h : i < l.length) : rd_T41 l (i : Int) = l[i] := by
  unfold rd_T41
  rw [Int.toNat_natCast, List.getD_eq_getElem?_getD, List.getElem?_eq_getElem h]
  rfl
theorem rdE_get {l : List En} {i : Nat} (h : i < l.length) : rd_T45 l (i : Int) = l[i] := by
  unfold rd_T45
  rw [Int.toNat_natCast, List.getD_eq_getElem?_getD, List.getElem?_eq_getElem h]
  rfl
/-- The place behind i. -/
theorem wrapS {i n : Nat} (h : i < n) (hn : n ≤ 1000000000000) : wrap64 ((i : Int) + 1) = ((i + 1 : Nat) : Int) := by rw [w64 (by omega) (by omega)]; omega
/-- An entry that Go can hold. -/
def HeldE (e : Le) : Prop := e.f0.size ≤ 9223372036854775807 ∧ e.f3.f4.length ≤ 9223372036854775807
/-- An entry that is no longer than the bound. -/
def ShortE (e : Le) : Prop := e.f0.size ≤ 1048576 ∧ e.f3.f4.length ≤ 1048576
theorem heldE {e : Le} (h : GEntry e) : HeldE e := ⟨maxLen_le h.1, maxLen_le h.2.2.2.2.2.2.2.1.1⟩
theorem szEntry_ok {e : Le} (he : HeldE e) {x : Int} (h0 : 0 ≤ x) (h1 : x ≤ 1048576) : ∃ r, laws_szEntry.f e.f0 e.f1 e.f2 e.f3.f0 e.f3.f1 e.f3.f2 e.f3.f3 e.f3.f4 e.f3.f5 x = some r ∧ (r < 0 ∨ (0 ≤ r ∧ r ≤ x ∧ ShortE e)) := by
  obtain ⟨hm, hl⟩ := he
  unfold laws_szEntry.f
  rw [show wrap64 (x - (e.f0.size : Int)) = x - (e.f0.size : Int) from w64 (by omega) (by omega)]
  by_cases h : x - (e.f0.size : Int) < 0
  · exact ⟨-1, by rw [if_pos h], .inl (by omega)⟩
  · obtain ⟨r, hr, hr2⟩ := szAgg_ok e.f3.f0 e.f3.f1 e.f3.f2 e.f3.f3 hl e.f3.f5 (x := x - (e.f0.size : Int)) (by omega) (by omega)
    rw [if_neg h, hr, Option.bind_some]
    by_cases hn : r < 0
    · exact ⟨-1, by rw [if_pos hn], .inl (by omega)⟩
    · exact ⟨r, by rw [if_neg hn], .inr ⟨by omega, by omega, by omega, by omega⟩⟩
theorem szEntryS_l0 (l : List Le) (hl : l.length ≤ 1048576) (hh : ∀ w ∈ l, HeldE w) : ∀ (d i k : Nat) (x : Int), i + d = l.length → d < k → 0 ≤ x → x ≤ 1048576 → ∃ r, laws_szEntryS.l0 k l x (i : Int) = some r ∧ (r < 0 ∨ (0 ≤ r ∧ r ≤ x ∧ ∀ w ∈ l.drop i, ShortE w)) := by
  intro d
  induction d with
  | zero =>
    intro i k x hi hk h0 h1
    obtain ⟨k, rfl⟩ : ∃ q, k = q + 1 := ⟨k - 1, by omega⟩
    exact ⟨x, by rw [laws_szEntryS.l0, if_neg (by omega)], .inr ⟨h0, Int.le_refl _, fun w hw => by rw [List.drop_of_length_le (by omega)] at hw; simp at hw⟩⟩
  | succ d ih =>
    intro i k x hi hk h0 h1
    obtain ⟨k, rfl⟩ : ∃ q, k = q + 1 := ⟨k - 1, by omega⟩
    have hlt : i < l.length := by omega
    obtain ⟨r, hr, hr2⟩ := szEntry_ok (hh l[i] (List.getElem_mem hlt)) h0 h1
    rw [laws_szEntryS.l0, if_pos (by omega), if_pos (by omega), rdLe_get hlt, hr, Option.bind_some]
    by_cases hn : r < 0
    · exact ⟨-1, by rw [if_pos hn], .inl (by omega)⟩
    · rw [if_neg hn, wrapS hlt (by omega)]
      have hr3 : 0 ≤ r ∧ r ≤ x ∧ ShortE l[i] := by
        rcases hr2 with h | h
        · exact absurd h hn
        · exact h
      obtain ⟨r2, hq, hq2⟩ := ih (i + 1) k r (by omega) (by omega) (by omega) (by omega)
      refine ⟨r2, hq, ?_⟩
      rcases hq2 with h | ⟨h, h', h''⟩
      · exact .inl h
      · refine .inr ⟨h, by omega, fun w hw => ?_⟩
        rw [drop_get hlt] at hw
        rcases List.mem_cons.1 hw with rfl | hw
        · exact hr3.2.2
        · exact h'' w hw
theorem szEntryS_ok {l : List Le} (hl : l.length ≤ 9223372036854775807) (hh : ∀ w ∈ l, HeldE w) {x : Int} (h0 : 0 ≤ x) (h1 : x ≤ 1048576) {k : Nat} (hk : 1048577 < k) : ∃ r, laws_szEntryS.f k l x = some r ∧ (r < 0 ∨ (0 ≤ r ∧ r ≤ x ∧ l.length ≤ 1048576 ∧ ∀ w ∈ l, ShortE w)) := by
  unfold laws_szEntryS.f
  rw [show wrap64 (x - (l.length : Int)) = x - (l.length : Int) from w64 (by omega) (by omega)]
  by_cases h : x - (l.length : Int) < 0
  · exact ⟨-1, by rw [if_pos h], .inl (by omega)⟩
  · rw [if_neg h]
    obtain ⟨r, hr, hr2⟩ := szEntryS_l0 l (by omega) hh l.length 0 k (x - (l.length : Int)) (by omega) (by omega) (by omega) (by omega)
    rw [List.drop_zero] at hr2
    refine ⟨r, hr, ?_⟩
    rcases hr2 with h2 | ⟨h2, h3, h4⟩
    · exact .inl h2
    · exact .inr ⟨h2, by omega, by omega, h4⟩

/-- The entry as the program has it. -/
def cvE (e : Le) : En := ⟨e.f0, e.f1, e.f2, ⟨e.f3.f0, e.f3.f1, e.f3.f2, e.f3.f3, e.f3.f4, e.f3.f5⟩⟩
theorem toEntryS_l0 {l : List Le} (hl : l.length ≤ 1048576) (hh : ∀ w ∈ l, ShortE w) : ∀ (d k i : Nat), i + d = l.length → d + 1048580 < k → laws_toEntryS.l0 k l ((l.take i).map cvE ++ List.replicate d z45) (i : Int) = some (l.map cvE) := by
  intro d
  induction d with
  | zero =>
    intro k i hi hk
    obtain ⟨k, rfl⟩ : ∃ q, k = q + 1 := ⟨k - 1, by omega⟩
    rw [laws_toEntryS.l0, if_neg (by omega), List.take_of_length_le (by omega), List.replicate_zero, List.append_nil]
  | succ d ih =>
    intro k i hi hk
    obtain ⟨k, rfl⟩ : ∃ q, k = q + 1 := ⟨k - 1, by omega⟩
    have hlt : i < l.length := by omega
    have hnext := ih k (i + 1) (by omega) (by omega)
    have he : laws_toEntry.f k l[i].f0 l[i].f1 l[i].f2 l[i].f3.f0 l[i].f3.f1 l[i].f3.f2 l[i].f3.f3 l[i].f3.f4 l[i].f3.f5 = some (l[i].f0, l[i].f1, l[i].f2, l[i].f3.f0, l[i].f3.f1, l[i].f3.f2, l[i].f3.f3, l[i].f3.f4, l[i].f3.f5) := by
      unfold laws_toEntry.f
      rw [toAgg_ok _ _ _ _ (hh _ (List.getElem_mem hlt)).2 _ (by omega), Option.bind_some]
    rw [laws_toEntryS.l0, if_pos (by omega), if_pos (by omega), rdLe_get hlt, he]
    rw [Option.bind_some, if_pos (by rw [List.length_append, List.length_map, List.length_take, List.length_replicate]; omega), Int.toNat_natCast, wrapS hlt (by omega)]
    have e := set_copy cvE z45 (d := d) hlt
    show laws_toEntryS.l0 k l (((l.take i).map cvE ++ List.replicate (d + 1) z45).set i (cvE l[i])) _ = _
    rw [e]
    exact hnext
theorem toEntryS_ok {l : List Le} (hl : l.length ≤ 1048576) (hh : ∀ w ∈ l, ShortE w) {k : Nat} (hk : 2097160 < k) : laws_toEntryS.f k l = some (l.map cvE) := by
  unfold laws_toEntryS.f
  rw [if_pos (by omega), if_pos (by rw [Int.toNat_natCast]; omega), Int.toNat_natCast]
  have h := toEntryS_l0 hl hh l.length k 0 (by omega) (by omega)
  rw [List.take_zero, List.map_nil, List.nil_append] at h
  exact h

/-- Entries whose rows are within the bound. -/
def RowsE (l : List En) : Prop := ∀ e ∈ l, e.f3.f4.length ≤ 1048576
theorem rowsE_map {l : List Le} (h : ∀ w ∈ l, ShortE w) : RowsE (l.map cvE) := by
  intro e he
  obtain ⟨v, hv, rfl⟩ := List.mem_map.1 he
  exact (h v hv).2
theorem eqEntry_ok {e : En} (h : e.f3.f4.length ≤ 1048576) {k : Nat} (hk : 1048577 < k) :
    laws_eqEntry.f k e.f0 e.f1 e.f2 e.f3.f0 e.f3.f1 e.f3.f2 e.f3.f3 e.f3.f4 e.f3.f5 e.f0 e.f1 e.f2 e.f3.f0 e.f3.f1 e.f3.f2 e.f3.f3 e.f3.f4 e.f3.f5 = some true := by
  unfold laws_eqEntry.f
  rw [if_pos rfl, if_pos rfl, if_pos rfl, eqAgg_ok e.f3.f0 e.f3.f1 e.f3.f2 e.f3.f3 h e.f3.f5 (by omega), Option.bind_some, if_pos rfl]
theorem eqEntryS_l0 (l : List En) (hl : l.length ≤ 1048576) (hh : RowsE l) : ∀ (d i k : Nat), i + d = l.length → d + 1048580 < k → laws_eqEntryS.l0 k l l (i : Int) = some true := by
  intro d
  induction d with
  | zero =>
    intro i k hi hk
    obtain ⟨k, rfl⟩ : ∃ q, k = q + 1 := ⟨k - 1, by omega⟩
    rw [laws_eqEntryS.l0, if_neg (by omega)]
  | succ d ih =>
    intro i k hi hk
    obtain ⟨k, rfl⟩ : ∃ q, k = q + 1 := ⟨k - 1, by omega⟩
    have hlt : i < l.length := by omega
    have hnext := ih (i + 1) k (by omega) (by omega)
    have q1 := hh l[i] (List.getElem_mem hlt)
    rw [laws_eqEntryS.l0, if_pos (by omega), if_pos (by omega), if_pos (by omega), rdE_get hlt, eqEntry_ok q1 (by omega), Option.bind_some, if_pos rfl, wrapS hlt (by omega)]
    exact hnext
theorem eqEntryS_ok {l : List En} (hl : l.length ≤ 1048576) (hh : RowsE l) {k : Nat} (hk : 2097160 < k) : laws_eqEntryS.f k l l = some true := by
  unfold laws_eqEntryS.f
  rw [if_pos rfl]
  exact eqEntryS_l0 l hl hh l.length 0 k (by omega) (by omega)
end Go.Proofs.Ytdkokfnnebdppaa.Lem

/- Both programs tell whether an entry is good, and whether entries are, and tell it alike. -/
namespace Go.Proofs.Ytdkokfnnebdppaa.Lem
open Go Go.RowKit Go.Proofs.Ytdkokfnnebdppaa.P Go.Proofs.YtdkokfnnebdppaaW.PrintWords Go.Proofs.YtdkokfnnebdppaaW.PrintLast Go.Proofs.YtdkokfnnebdppaaW.PrintMore

abbrev Ga := S26
def aggOf (a : Ga) : Ag := ⟨a.f0, a.f1, a.f2, a.f3, a.f4, a.f5⟩
def ZeroA (a : Ga) : Prop := a.f0 = 0 ∧ a.f1 = 0 ∧ a.f2 = 0 ∧ a.f3 = 0 ∧ a.f4.length = 0 ∧ a.f5 = false
/-- A good entry. -/
def GoodE (e : En) : Prop := (1 ≤ (e.f0.size : Int) ∧ (e.f0.size : Int) ≤ 140) ∧ (1 ≤ e.f1 ∧ e.f1 ≤ 1000000000) ∧ (((e.f2 = 1 ∨ e.f2 = 3) ∧ Good (aggOf e.f3)) ∨ (e.f2 = 2 ∧ ZeroA e.f3))
theorem Tells.bind_id {p : Prop} {r : Option Bool} (h : Tells p r) : Tells p (r.bind fun t => some t) := by
  have e : (r.bind fun t => some t) = r := by cases r <;> rfl
  rw [e]; exact h
theorem Tells.iff {p q : Prop} {r : Option Bool} (h : Tells p r) (e : p ↔ q) : Tells q r := ⟨fun hq => h.1 (e.2 hq), fun hq => h.2 (fun hp => hq (e.1 hp))⟩
theorem Tells.both {p : Prop} {r s : Option Bool} (h : Tells p r) (h' : Tells p s) : ∃ b : Bool, r = some b ∧ s = some b ∧ (b = true ↔ p) := by
  by_cases c : p
  · exact ⟨true, h.1 c, h'.1 c, by simp [c]⟩
  · exact ⟨false, h.2 c, h'.2 c, by simp [c]⟩
theorem l5Zero_ok (a : Ga) : Tells (ZeroA a) (spec_l5Zero.f a.f0 a.f1 a.f2 a.f3 a.f4 a.f5) := by
  unfold spec_l5Zero.f ZeroA
  by_cases h0 : a.f0 = 0
  · rw [if_pos h0]
    by_cases h1 : a.f1 = 0
    · rw [if_pos h1]
      by_cases h2 : a.f2 = 0
      · rw [if_pos h2]
        by_cases h3 : a.f3 = 0
        · rw [if_pos h3]
          by_cases h4 : a.f4.length = 0
          · rw [if_pos (by omega)]
            cases h5 : a.f5
            · exact .yes ⟨h0, h1, h2, h3, h4, rfl⟩
            · exact .no (fun h => by have := h.2.2.2.2.2; simp at this)
          · rw [if_neg (by omega)]; exact .no (fun h => h4 h.2.2.2.2.1)
        · rw [if_neg h3]; exact .no (fun h => h3 h.2.2.2.1)
      · rw [if_neg h2]; exact .no (fun h => h2 h.2.2.1)
    · rw [if_neg h1]; exact .no (fun h => h1 h.2.1)
  · rw [if_neg h0]; exact .no (fun h => h0 h.1)
theorem isZero_ok (a : Ga) : Tells (ZeroA a) (impl_Agg_isZero.f a.f0 a.f1 a.f2 a.f3 a.f4 a.f5) := l5Zero_ok a
theorem spec_goodE (e : En) {k : Nat} (hk : 30 < k) : Tells (GoodE e) (spec_GoodEntry.f k e.f0 e.f1 e.f2 e.f3.f0 e.f3.f1 e.f3.f2 e.f3.f3 e.f3.f4 e.f3.f5) := by
  obtain ⟨k, rfl⟩ : ∃ q, k = q + 1 + 1 := ⟨k - 2, by omega⟩
  unfold spec_GoodEntry.f
  rw [l1In_ok, Option.bind_some]
  by_cases h0 : 1 ≤ (e.f0.size : Int) ∧ (e.f0.size : Int) ≤ 140
  · rw [decide_eq_true h0, if_pos rfl, l1In_ok, Option.bind_some]
    by_cases h1 : 1 ≤ e.f1 ∧ e.f1 ≤ 1000000000
    · rw [decide_eq_true h1, spec_GoodEntry.j0, if_neg (by decide)]
      have g := spec_goodAll (aggOf e.f3) (k := k) (by omega)
      by_cases h2 : e.f2 = 1
      · rw [if_pos h2, spec_GoodEntry.j1, if_pos (by rw [h2]; rfl)]
        exact g.bind_id.iff ⟨fun q => ⟨h0, h1, .inl ⟨.inl h2, q⟩⟩, fun q => by rcases q.2.2 with q | q; exact q.2; have := q.1; omega⟩
      · rw [if_neg h2, spec_GoodEntry.j1]
        by_cases h3 : e.f2 = 3
        · rw [if_pos (by rw [h3]; rfl)]
          exact g.bind_id.iff ⟨fun q => ⟨h0, h1, .inl ⟨.inr h3, q⟩⟩, fun q => by rcases q.2.2 with q | q; exact q.2; have := q.1; omega⟩
        · rw [if_neg (by simpa using h3)]
          by_cases h4 : e.f2 = 2
          · rw [if_pos h4]
            exact (l5Zero_ok e.f3).bind_id.iff ⟨fun q => ⟨h0, h1, .inr ⟨h4, q⟩⟩, fun q => by rcases q.2.2 with q | q; have := q.1; omega; exact q.2⟩
          · rw [if_neg h4]
            exact .no (fun q => by rcases q.2.2 with q | q; have := q.1; omega; exact h4 q.1)
    · rw [decide_eq_false h1, spec_GoodEntry.j0, if_pos (by decide)]
      exact .no (fun q => h1 q.2.1)
  · rw [decide_eq_false h0, if_neg (by decide), spec_GoodEntry.j0, if_pos rfl]
    exact .no (fun q => h0 q.1)
theorem impl_goodE (e : En) {k : Nat} (hk : 30 < k) : Tells (GoodE e) (impl_GoodEntry.f k e.f0 e.f1 e.f2 e.f3.f0 e.f3.f1 e.f3.f2 e.f3.f3 e.f3.f4 e.f3.f5) := by
  obtain ⟨k, rfl⟩ : ∃ q, k = q + 1 := ⟨k - 1, by omega⟩
  unfold impl_GoodEntry.f impl_isKeyText.f
  rw [within_ok, Option.bind_some, Option.bind_some]
  by_cases h0 : 1 ≤ (e.f0.size : Int) ∧ (e.f0.size : Int) ≤ 140
  · rw [decide_eq_true h0, if_pos rfl, within_ok, Option.bind_some]
    by_cases h1 : 1 ≤ e.f1 ∧ e.f1 ≤ 1000000000
    · rw [decide_eq_true h1, impl_GoodEntry.j0, if_neg (by decide)]
      have g := impl_goodAll (aggOf e.f3) (k := k) (by omega)
      by_cases h4 : e.f2 = 2
      · rw [if_pos h4]
        exact (isZero_ok e.f3).bind_id.iff ⟨fun q => ⟨h0, h1, .inr ⟨h4, q⟩⟩, fun q => by rcases q.2.2 with q | q; have := q.1; omega; exact q.2⟩
      · rw [if_neg h4]
        by_cases h2 : e.f2 = 1
        · rw [if_pos h2]
          exact g.bind_id.iff ⟨fun q => ⟨h0, h1, .inl ⟨.inl h2, q⟩⟩, fun q => by rcases q.2.2 with q | q; exact q.2; have := q.1; omega⟩
        · rw [if_neg h2]
          by_cases h3 : e.f2 = 3
          · rw [if_pos h3]
            exact g.bind_id.iff ⟨fun q => ⟨h0, h1, .inl ⟨.inr h3, q⟩⟩, fun q => by rcases q.2.2 with q | q; exact q.2; have := q.1; omega⟩
          · rw [if_neg h3]
            exact .no (fun q => by rcases q.2.2 with q | q; have := q.1; omega; exact h4 q.1)
    · rw [decide_eq_false h1, impl_GoodEntry.j0, if_pos (by decide)]
      exact .no (fun q => h1 q.2.1)
  · rw [decide_eq_false h0, if_neg (by decide), impl_GoodEntry.j0, if_pos rfl]
    exact .no (fun q => h0 q.1)

/-- Whether an entry stands ahead of another. -/
def Before (a b : En) : Prop := ordB a.f0 b.f0 = -1 ∨ (ordB a.f0 b.f0 = 0 ∧ a.f1 > b.f1)
theorem ordB_three (a b : ByteArray) : ordB a b = -1 ∨ ordB a b = 0 ∨ ordB a b = 1 := by
  unfold ordB ord
  split
  · exact .inl rfl
  · split
    · exact .inr (.inr rfl)
    · exact .inr (.inl rfl)
theorem ordB_zero {a b : ByteArray} : ordB a b = 0 ↔ a.toList = b.toList := by
  rw [Go.Lib.toList_data, Go.Lib.toList_data]
  exact ⟨ord_eq_zero, fun h => by unfold ordB; rw [h, ord_self]⟩
theorem ordB_lt {a b : ByteArray} : ordB a b = -1 ↔ Op.bytesLess a.toList b.toList = true := by
  rw [Go.Lib.toList_data, Go.Lib.toList_data]
  unfold ordB ord
  by_cases h : Op.bytesLess a.data.toList b.data.toList = true
  · rw [if_pos h]; exact ⟨fun _ => h, fun _ => rfl⟩
  · rw [if_neg h]
    refine ⟨fun q => ?_, fun q => absurd q h⟩
    split at q <;> simp at q
theorem l5Before_ok (a b : En) : Tells (Before a b) (spec_l5Before.f a.f0 a.f1 a.f2 a.f3.f0 a.f3.f1 a.f3.f2 a.f3.f3 a.f3.f4 a.f3.f5 b.f0 b.f1 b.f2 b.f3.f0 b.f3.f1 b.f3.f2 b.f3.f3 b.f3.f4 b.f3.f5) := by
  unfold spec_l5Before.f Before
  by_cases h : ordB a.f0 b.f0 = -1
  · rw [if_pos (ordB_lt.1 h)]; exact .yes (.inl h)
  · rw [if_neg (fun q => h (ordB_lt.2 q))]
    by_cases h0 : ordB a.f0 b.f0 = 0
    · rw [if_pos (ordB_zero.1 h0)]
      by_cases h1 : a.f1 > b.f1
      · rw [decide_eq_true h1]; exact .yes (.inr ⟨h0, h1⟩)
      · rw [decide_eq_false h1]; exact .no (fun q => by rcases q with q | q; exact h q; exact h1 q.2)
    · rw [if_neg (fun q => h0 (ordB_zero.2 q))]
      exact .no (fun q => by rcases q with q | q; exact h q; exact h0 q.1)
def cmpE (a b : En) : Int := if ordB a.f0 b.f0 = 0 then sgnI b.f1 a.f1 else ordB a.f0 b.f0
theorem compareEntries_ok (a b : En) {k : Nat} (hk : 3 < k) : impl_compareEntries.f k a.f0 a.f1 a.f2 a.f3.f0 a.f3.f1 a.f3.f2 a.f3.f3 a.f3.f4 a.f3.f5 b.f0 b.f1 b.f2 b.f3.f0 b.f3.f1 b.f3.f2 b.f3.f3 b.f3.f4 b.f3.f5 = some (cmpE a b) := by
  obtain ⟨k, rfl⟩ : ∃ q, k = q + 3 := ⟨k - 3, by omega⟩
  unfold impl_compareEntries.f
  rw [cmpS_ok, cmpI_ok, Option.bind_some, Option.bind_some, or2_ok, Option.bind_some]
  rfl
theorem cmpE_neg (a b : En) : cmpE a b < 0 ↔ Before a b := by
  unfold cmpE Before sgnI
  rcases ordB_three a.f0 b.f0 with h | h | h
  · rw [if_neg (by omega)]; exact ⟨fun _ => .inl h, fun _ => by omega⟩
  · rw [if_pos h]
    by_cases h1 : b.f1 < a.f1
    · rw [if_pos h1]; exact ⟨fun _ => .inr ⟨h, h1⟩, fun _ => by decide⟩
    · rw [if_neg h1]
      refine ⟨fun q => ?_, fun q => ?_⟩
      · split at q <;> exact absurd q (by decide)
      · rcases q with q | q
        · omega
        · exact absurd q.2 h1
  · rw [if_neg (by omega)]
    exact ⟨fun q => by omega, fun q => by rcases q with q | q <;> omega⟩
end Go.Proofs.Ytdkokfnnebdppaa.Lem

/- Numbers without repetition: sorted and compacted they are as many as before, and only then. No program in sight. -/
namespace Go.Proofs.Ytdkokfnnebdppaa.Lem
open Go

/-- From place i on each number stands nowhere ahead of itself. -/
def FreshFrom (s : List Int) (i : Nat) : Prop := ∀ j (h : j < s.length), i ≤ j → s[j] ∉ s.take j
theorem fresh_nodup (s : List Int) : FreshFrom s 0 ↔ s.Nodup := by
  unfold List.Nodup
  rw [List.pairwise_iff_getElem]
  constructor
  · intro h i j hi hj hij he
    exact h j hj (Nat.zero_le _) (List.mem_take_iff_getElem.2 ⟨i, by omega, he⟩)
  · intro h j hj _ hm
    obtain ⟨i, hi, he⟩ := List.mem_take_iff_getElem.1 hm
    exact h i j (by omega) hj (by omega) he
theorem keeps_len (zs : List Int) : (Lib.compact zs).length = zs.length ↔ ∀ j, j < zs.length → Lib.keeps zs.toArray j = true := by
  unfold Lib.compact Lib.compactUpTo
  rw [List.length_map]
  constructor
  · intro h
    have h2 : ((List.range zs.length).filter (Lib.keeps zs.toArray)).length = (List.range zs.length).length := by rw [h, List.length_range]
    have h3 := List.length_filter_eq_length_iff.1 h2
    exact fun j hj => h3 j (List.mem_range.2 hj)
  · intro h
    rw [List.filter_eq_self.2 (fun j hj => h j (List.mem_range.1 hj)), List.length_range]
theorem compact_sort_len (s : List Int) : (Lib.compact (s.mergeSort fun x y => decide (x ≤ y))).length = s.length ↔ s.Nodup := by
  have hp := List.mergeSort_perm s (fun x y => decide (x ≤ y))
  have hs := List.pairwise_mergeSort (le := fun x y : Int => decide (x ≤ y)) (fun a b c h1 h2 => by simp at *; omega) (fun a b => by simp; omega) s
  rw [← hp.nodup_iff, ← hp.length_eq, keeps_len]
  generalize (s.mergeSort fun x y => decide (x ≤ y)) = zs at hs
  clear hp
  unfold List.Nodup
  rw [List.pairwise_iff_getElem] at hs ⊢
  constructor
  · intro h i j hi hj hij
    have hk := h j hj
    unfold Lib.keeps at hk
    simp only [decide_eq_true_eq] at hk
    rcases hk with hk | hk
    · omega
    · have e1 : zs.toArray[j]! = zs[j] := by simp [getElem!_pos, hj]
      have e2 : zs.toArray[j - 1]! = zs[j - 1] := by simp [getElem!_pos, show j - 1 < zs.length by omega]
      rw [e1, e2] at hk
      have h1 : zs[j - 1] ≤ zs[j] := by
        have := hs (j - 1) j (by omega) hj (by omega)
        simpa using this
      have h2 : zs[i] ≤ zs[j - 1] := by
        by_cases c : i = j - 1
        · subst c; exact Int.le_refl _
        · have := hs i (j - 1) hi (by omega) (by omega)
          simpa using this
      omega
  · intro h j hj
    unfold Lib.keeps
    simp only [decide_eq_true_eq]
    by_cases c : j = 0
    · exact .inl c
    · refine .inr ?_
      have e1 : zs.toArray[j]! = zs[j] := by simp [getElem!_pos, hj]
      have e2 : zs.toArray[j - 1]! = zs[j - 1] := by simp [getElem!_pos, show j - 1 < zs.length by omega]
      rw [e1, e2]
      exact fun q => h (j - 1) j (by omega) hj (by omega) q.symm
end Go.Proofs.Ytdkokfnnebdppaa.Lem

/- Both programs tell whether entries are good, and tell it alike. -/
namespace Go.Proofs.Ytdkokfnnebdppaa.Lem
open Go Go.RowKit Go.Proofs.Ytdkokfnnebdppaa.P Go.Proofs.YtdkokfnnebdppaaW.PrintWords Go.Proofs.YtdkokfnnebdppaaW.PrintLast Go.Proofs.YtdkokfnnebdppaaW.PrintMore

/-- Place j is good: its entry is, and the one ahead stands ahead. -/
def OkAt (l : List En) (j : Nat) : Prop := ∀ (h : j < l.length), GoodE l[j] ∧ (∀ (_ : 0 < j), Before l[j - 1] l[j])
def OkFrom (l : List En) (i : Nat) : Prop := ∀ j, i ≤ j → OkAt l j
theorem okFrom_step {l : List En} {i : Nat} : OkFrom l i ↔ OkAt l i ∧ OkFrom l (i + 1) := by
  constructor
  · exact fun h => ⟨h i (Nat.le_refl _), fun j hj => h j (by omega)⟩
  · intro ⟨h1, h2⟩ j hj
    by_cases c : i = j
    · exact c ▸ h1
    · exact h2 j (by omega)
/-- Good entries. -/
def GoodEs (l : List En) : Prop := OkFrom l 0 ∧ (l.map (·.f1)).Nodup

/-- The search among those ahead. -/
theorem spec_l2 (s : List Int) (v : Int) (i : Nat) (y : List Int) (hy : y.length ≤ 1048576) : ∀ (d m k : Nat), m + d = y.length →
    (v ∈ y.drop m → spec_GoodEntries.l2 (k + d + 1) s v s (s.length : Int) (i : Int) y (y.length : Int) (m : Int) = some false) ∧
    (v ∉ y.drop m → spec_GoodEntries.l2 (k + d + 1) s v s (s.length : Int) (i : Int) y (y.length : Int) (m : Int) = spec_GoodEntries.l1 k s s (s.length : Int) (wrap64 ((i : Int) + 1))) := by
  intro d
  induction d with
  | zero =>
    intro m k hm
    refine ⟨fun h => ?_, fun h => ?_⟩
    · rw [List.drop_of_length_le (by omega)] at h; simp at h
    · rw [spec_GoodEntries.l2, if_neg (by omega)]
  | succ d ih =>
    intro m k hm
    have hlt : m < y.length := by omega
    obtain ⟨i1, i2⟩ := ih (m + 1) k (by omega)
    rw [drop_get hlt]
    have e0 : rd y (m : Int) = y[m] := by unfold rd; rw [Int.toNat_natCast, List.getD_eq_getElem?_getD, List.getElem?_eq_getElem hlt]; rfl
    refine ⟨fun h => ?_, fun h => ?_⟩
    · rw [spec_GoodEntries.l2, if_pos (by omega), if_pos (by omega), if_pos (by omega), e0]
      by_cases c : y[m] = v
      · rw [if_pos c]
      · rw [if_neg c, wrapS hlt (by omega)]
        rcases List.mem_cons.1 h with q | q
        · exact absurd q.symm c
        · exact i1 q
    · rw [spec_GoodEntries.l2, if_pos (by omega), if_pos (by omega), if_pos (by omega), e0]
      rw [if_neg (fun q => h (List.mem_cons.2 (.inl q.symm))), wrapS hlt (by omega)]
      exact i2 (fun q => h (List.mem_cons_of_mem _ q))
theorem fresh_step {s : List Int} {i : Nat} (hi : i < s.length) : FreshFrom s i ↔ s[i] ∉ s.take i ∧ FreshFrom s (i + 1) := by
  constructor
  · exact fun h => ⟨h i hi (Nat.le_refl _), fun j hj hij => h j hj (by omega)⟩
  · intro ⟨h1, h2⟩ j hj hij
    by_cases c : i = j
    · subst c; exact h1
    · exact h2 j hj (by omega)
theorem spec_l1 (s : List Int) (hs : s.length ≤ 1048576) {N : Nat} (hN : s.length + 4 ≤ N) : ∀ (d i k : Nat), i + d = s.length → d * N < k → Tells (FreshFrom s i) (spec_GoodEntries.l1 k s s (s.length : Int) (i : Int)) := by
  intro d
  induction d with
  | zero =>
    intro i k hi hk
    obtain ⟨k, rfl⟩ : ∃ q, k = q + 1 := ⟨k - 1, by omega⟩
    rw [spec_GoodEntries.l1, if_neg (by omega)]
    exact .yes (fun j hj hij => by omega)
  | succ d ih =>
    intro i k hi hk
    have hlt : i < s.length := by omega
    have ht : (s.take i).length = i := by rw [List.length_take]; omega
    have e0 : rd s (i : Int) = s[i] := by unfold rd; rw [Int.toNat_natCast, List.getD_eq_getElem?_getD, List.getElem?_eq_getElem hlt]; rfl
    rw [Nat.succ_mul] at hk
    obtain ⟨k, rfl⟩ : ∃ q, k = q + i + 1 + 1 := ⟨k - i - 2, by omega⟩
    obtain ⟨i1, i2⟩ := spec_l2 s s[i] i (s.take i) (by omega) i 0 k (by omega)
    rw [List.drop_zero] at i1 i2
    have e1 : spec_GoodEntries.l1 (k + i + 1 + 1) s s (s.length : Int) (i : Int) = spec_GoodEntries.l2 (k + i + 1) s s[i] s (s.length : Int) (i : Int) (s.take i) ((s.take i).length : Int) ((0 : Nat) : Int) := by
      rw [spec_GoodEntries.l1, if_pos (by omega), if_pos (by omega), if_pos (by omega), if_pos (by omega), Option.bind_some, e0]
      rfl
    rw [e1]
    by_cases c : s[i] ∈ s.take i
    · rw [i1 c]
      exact .no (fun q => ((fresh_step hlt).1 q).1 c)
    · rw [i2 c, wrapS hlt (by omega)]
      exact (ih (i + 1) k (by omega) (by omega)).iff ⟨fun q => (fresh_step hlt).2 ⟨c, q⟩, fun q => ((fresh_step hlt).1 q).2⟩

theorem map_step {l : List En} {i : Nat} (h : i < l.length) : (l.take i).map (·.f1) ++ [l[i].f1] = (l.take (i + 1)).map (·.f1) := by
  rw [List.take_succ_eq_append_getElem h, List.map_append]
  rfl
theorem spec_l0 (l : List En) (hl : l.length ≤ 1048576) : ∀ (d i k : Nat), i + d = l.length → 1099515822080 + d + 100 < k → Tells (OkFrom l i ∧ (l.map (·.f1)).Nodup) (spec_GoodEntries.l0 k l ((l.take i).map (·.f1)) l (l.length : Int) (i : Int)) := by
  intro d
  induction d with
  | zero =>
    intro i k hi hk
    obtain ⟨k, rfl⟩ : ∃ q, k = q + 1 := ⟨k - 1, by omega⟩
    have hm : (l.map (·.f1)).length = l.length := List.length_map ..
    have h := spec_l1 (l.map (·.f1)) (by omega) (N := 1048580) (by omega) l.length 0 k (by omega) (by omega)
    rw [spec_GoodEntries.l0, if_neg (by omega), List.take_of_length_le (by omega)]
    refine h.iff ?_
    rw [fresh_nodup]
    exact ⟨fun q => ⟨fun j hj hj2 => by omega, q⟩, fun q => q.2⟩
  | succ d ih =>
    intro i k hi hk
    obtain ⟨k, rfl⟩ : ∃ q, k = q + 1 := ⟨k - 1, by omega⟩
    have hlt : i < l.length := by omega
    have ht : ((l.take i).map (·.f1)).length = i := by rw [List.length_map, List.length_take]; omega
    have hnext := ih (i + 1) k (by omega) (by omega)
    rw [← map_step hlt] at hnext
    obtain ⟨g1, g2⟩ := spec_goodE l[i] (k := k) (by omega)
    rw [spec_GoodEntries.l0, if_pos (by omega), if_pos (by omega), if_pos (by omega), rdE_get hlt]
    by_cases c : GoodE l[i]
    · rw [g1 c, Option.bind_some, if_pos rfl]
      by_cases c0 : 0 < i
      · have e1 : wrap64 ((i : Int) - 1) = ((i - 1 : Nat) : Int) := by rw [w64 (by omega) (by omega)]; omega
        obtain ⟨b1, b2⟩ := l5Before_ok l[i - 1] l[i]
        rw [if_pos (by omega), e1, if_pos (by omega), if_pos (by omega), rdE_get (show i - 1 < l.length by omega)]
        by_cases cb : Before l[i - 1] l[i]
        · rw [b1 cb, Option.bind_some, if_pos rfl, if_pos (by omega), wrapS hlt (by omega)]
          exact hnext.iff ⟨fun q => ⟨okFrom_step.2 ⟨fun _ => ⟨c, fun _ => cb⟩, q.1⟩, q.2⟩, fun q => ⟨(okFrom_step.1 q.1).2, q.2⟩⟩
        · rw [b2 cb, Option.bind_some, if_neg (by decide)]
          exact .no (fun q => cb (((okFrom_step.1 q.1).1 hlt).2 c0))
      · rw [if_neg (by omega), if_pos (by omega), wrapS hlt (by omega)]
        exact hnext.iff ⟨fun q => ⟨okFrom_step.2 ⟨fun _ => ⟨c, fun h => absurd h c0⟩, q.1⟩, q.2⟩, fun q => ⟨(okFrom_step.1 q.1).2, q.2⟩⟩
    · rw [g2 c, Option.bind_some, if_neg (by decide)]
      exact .no (fun q => c ((okFrom_step.1 q.1).1 hlt).1)
theorem spec_goodEs (l : List En) (hl : l.length ≤ 1048576) {k : Nat} (hk : 2000000000000 < k) : Tells (GoodEs l) (spec_GoodEntries.f k l) := spec_l0 l hl l.length 0 k (by omega) (by omega)

theorem impl_l0 (l : List En) (hl : l.length ≤ 1048576) : ∀ (d i k : Nat), i + d = l.length → d + 100 < k → Tells (OkFrom l i ∧ (l.map (·.f1)).Nodup) (impl_GoodEntries.l0 k l ((l.take i).map (·.f1)) l (l.length : Int) (i : Int)) := by
  intro d
  induction d with
  | zero =>
    intro i k hi hk
    obtain ⟨k, rfl⟩ : ∃ q, k = q + 1 := ⟨k - 1, by omega⟩
    have hm : (l.map (·.f1)).length = l.length := List.length_map ..
    have hc := compact_sort_len (l.map (·.f1))
    have hle : ((l.map (·.f1)).mergeSort fun x y => decide (x ≤ y)).length = l.length := by rw [List.length_mergeSort, hm]
    rw [impl_GoodEntries.l0, if_neg (by omega), List.take_of_length_le (by omega)]
    unfold slices_Sort_int_int.f slices_Compact_int_int.f
    rw [if_pos (by omega), Option.bind_some, if_pos (by omega), Option.bind_some]
    by_cases c : (l.map (·.f1)).Nodup
    · have h := hc.2 c
      rw [h, hm, beq_self_eq_true]
      exact .yes ⟨fun j hj hj2 => by omega, c⟩
    · rw [beq_eq_false_iff_ne.2 (fun q => c (hc.1 (by rw [hm]; omega)))]
      exact .no (fun q => c q.2)
  | succ d ih =>
    intro i k hi hk
    obtain ⟨k, rfl⟩ : ∃ q, k = q + 1 := ⟨k - 1, by omega⟩
    have hlt : i < l.length := by omega
    have ht : ((l.take i).map (·.f1)).length = i := by rw [List.length_map, List.length_take]; omega
    have hnext := ih (i + 1) k (by omega) (by omega)
    rw [← map_step hlt] at hnext
    obtain ⟨g1, g2⟩ := impl_goodE l[i] (k := k) (by omega)
    rw [impl_GoodEntries.l0, if_pos (by omega), if_pos (by omega), if_pos (by omega), rdE_get hlt]
    by_cases c : GoodE l[i]
    · rw [g1 c, Option.bind_some, if_pos rfl]
      by_cases c0 : 0 < i
      · have e1 : wrap64 ((i : Int) - 1) = ((i - 1 : Nat) : Int) := by rw [w64 (by omega) (by omega)]; omega
        rw [if_pos (by omega), e1, if_pos (by omega), if_pos (by omega), rdE_get (show i - 1 < l.length by omega), compareEntries_ok _ _ (by omega), Option.bind_some]
        by_cases cb : Before l[i - 1] l[i]
        · have cb' := (cmpE_neg _ _).2 cb
          rw [if_neg (by omega), if_pos (by omega), wrapS hlt (by omega)]
          exact hnext.iff ⟨fun q => ⟨okFrom_step.2 ⟨fun _ => ⟨c, fun _ => cb⟩, q.1⟩, q.2⟩, fun q => ⟨(okFrom_step.1 q.1).2, q.2⟩⟩
        · have cb' : ¬ cmpE l[i - 1] l[i] < 0 := fun q => cb ((cmpE_neg _ _).1 q)
          rw [if_pos (by omega)]
          exact .no (fun q => cb (((okFrom_step.1 q.1).1 hlt).2 c0))
      · rw [if_neg (by omega), if_pos (by omega), wrapS hlt (by omega)]
        exact hnext.iff ⟨fun q => ⟨okFrom_step.2 ⟨fun _ => ⟨c, fun h => absurd h c0⟩, q.1⟩, q.2⟩, fun q => ⟨(okFrom_step.1 q.1).2, q.2⟩⟩
    · rw [g2 c, Option.bind_some, if_neg (by decide)]
      exact .no (fun q => c ((okFrom_step.1 q.1).1 hlt).1)
theorem impl_goodEs (l : List En) (hl : l.length ≤ 1048576) {k : Nat} (hk : 1050000 < k) : Tells (GoodEs l) (impl_GoodEntries.f k l) := impl_l0 l hl l.length 0 k (by omega) (by omega)
end Go.Proofs.Ytdkokfnnebdppaa.Lem

/- Entries that share no memory with others. -/
namespace Go.Proofs.Ytdkokfnnebdppaa.Lem
open Go Go.RowKit Go.Proofs.Ytdkokfnnebdppaa.P Go.Proofs.YtdkokfnnebdppaaW.PrintWords Go.Proofs.YtdkokfnnebdppaaW.PrintLast Go.Proofs.YtdkokfnnebdppaaW.PrintMore

theorem cloneI_ok {l : List Int} (h : l.length ≤ 1048576) : slices_Clone_int_int.f l = some l := by
  unfold slices_Clone_int_int.f
  rw [Option.bind_some, if_pos (by rw [List.length_nil]; omega), List.nil_append]
theorem ownA_ok (c s mi ma : Int) {l : List Int} (h : l.length ≤ 1048576) (f : Bool) : spec_l4Own.f c s mi ma l f = some (c, s, mi, ma, l, f) := by
  unfold spec_l4Own.f
  rw [Option.bind_some, if_pos (by rw [List.length_nil]; omega), List.nil_append]
theorem entryCloned_ok (e : En) (h : e.f3.f4.length ≤ 1048576) : impl_Entry_cloned.f e.f0 e.f1 e.f2 e.f3.f0 e.f3.f1 e.f3.f2 e.f3.f3 e.f3.f4 e.f3.f5 = some (e.f0, e.f1, e.f2, e.f3.f0, e.f3.f1, e.f3.f2, e.f3.f3, e.f3.f4, e.f3.f5) := by
  unfold impl_Entry_cloned.f
  rw [cloneI_ok h, Option.bind_some]
theorem l5Own_l0 {l : List En} (hl : l.length ≤ 1048576) (hh : RowsE l) : ∀ (d i k : Nat) (acc : List En), i + d = l.length → d < k → acc.length ≤ i → spec_l5Own.l0 k acc l (l.length : Int) (i : Int) = some (acc ++ l.drop i) := by
  intro d
  induction d with
  | zero =>
    intro i k acc hi hk _
    obtain ⟨k, rfl⟩ : ∃ q, k = q + 1 := ⟨k - 1, by omega⟩
    rw [spec_l5Own.l0, if_neg (by omega), List.drop_of_length_le (by omega), List.append_nil]
  | succ d ih =>
    intro i k acc hi hk ha
    obtain ⟨k, rfl⟩ : ∃ q, k = q + 1 := ⟨k - 1, by omega⟩
    have hlt : i < l.length := by omega
    have hw := hh l[i] (List.getElem_mem hlt)
    rw [spec_l5Own.l0, if_pos (by omega), if_pos (by omega), if_pos (by omega), rdE_get hlt, ownA_ok _ _ _ _ hw, Option.bind_some]
    dsimp only
    rw [if_pos (by omega), wrapS hlt (by omega), ih (i + 1) k _ (by omega) (by omega) (by rw [List.length_append, List.length_singleton]; omega), drop_get hlt, List.append_assoc]
    rfl
theorem l5Own_ok {l : List En} (hl : l.length ≤ 1048576) (hh : RowsE l) {k : Nat} (hk : 1048577 < k) : spec_l5Own.f k l = some l := l5Own_l0 hl hh l.length 0 k [] (by omega) (by omega) (Nat.le_refl _)
end Go.Proofs.Ytdkokfnnebdppaa.Lem

/- Entries of one key folded: both programs' folds give one agg. -/
namespace Go.Proofs.Ytdkokfnnebdppaa.Lem
open Go Go.RowKit Go.Proofs.Ytdkokfnnebdppaa.P Go.Proofs.YtdkokfnnebdppaaW.PrintWords Go.Proofs.YtdkokfnnebdppaaW.PrintLast Go.Proofs.YtdkokfnnebdppaaW.PrintMore

def Ag.t7 (a : Ag) (b : Bool) : Int × Int × Int × Int × List Int × Bool × Bool := (a.c, a.s, a.mi, a.ma, a.h, a.f, b)
def zero8 : Ag := ⟨0, 0, 0, 0, List.replicate 8 0, false⟩
def noneA : Ag := ⟨0, 0, 0, 0, [], false⟩
theorem zero8_good : Good zero8 := by
  refine ⟨by decide, by decide, rfl, ?_, fun h => absurd h (by decide), fun _ => by decide, fun _ => by decide, fun h => absurd rfl h⟩
  intro x hx
  have := List.eq_of_mem_replicate hx
  omega
/-- Entry n. -/
abbrev en (l : List En) (n : Nat) : En := rd_T45 l (n : Int)
theorem en_mem {l : List En} {n : Nat} (h : n < l.length) : en l n ∈ l := by rw [show en l n = l[n] from rdE_get h]; exact List.getElem_mem h
def foldFrom (l : List En) : Nat → Ag → Ag
  | 0, a => a
  | n + 1, a => foldFrom l n (join a (aggOf (en l n).f3))
/-- How many entries stand ahead of the first that is no join. -/
def ends : List En → Nat
  | [] => 0
  | e :: r => if e.f2 = 3 then ends r + 1 else 0
theorem ends_le : ∀ l : List En, ends l ≤ l.length
  | [] => Nat.le_refl _
  | e :: r => by rw [ends]; split; exact Nat.succ_le_succ (ends_le r); exact Nat.zero_le _
theorem en_cons (e : En) (r : List En) (n : Nat) : en (e :: r) (n + 1) = en r n := by
  unfold en rd_T45
  rw [Int.toNat_natCast, Int.toNat_natCast, List.getD_cons_succ]
theorem ends_join : ∀ (l : List En) (n : Nat), n < ends l → (en l n).f2 = 3
  | [], n, h => absurd h (Nat.not_lt_zero n)
  | e :: r, n, h => by
    rw [ends] at h
    split at h
    · rename_i c
      cases n with
      | zero => exact c
      | succ n => rw [en_cons]; exact ends_join r n (by omega)
    · exact absurd h (Nat.not_lt_zero n)
theorem ends_stop : ∀ (l : List En), ends l < l.length → (en l (ends l)).f2 ≠ 3
  | [], h => absurd h (Nat.lt_irrefl 0)
  | e :: r, h => by
    rw [ends] at h ⊢
    split at h
    · rename_i c
      rw [if_pos c, en_cons]
      exact ends_stop r (by simpa using h)
    · rename_i c
      rw [if_neg c]
      exact c
theorem foldI (l : List En) (hl : l.length ≤ 1048576) : ∀ (n k : Nat) (a : Ag), n ≤ l.length → (∀ j, j < n → Good (aggOf (en l j).f3)) → Good a → n + 30 < k →
    impl_fold.l0 k l ((n : Int) - 1) a.c a.s a.mi a.ma a.h a.f = some ((foldFrom l n a).t7 true) ∧ Good (foldFrom l n a) := by
  intro n
  induction n with
  | zero =>
    intro k a hn hg ha hk
    obtain ⟨k, rfl⟩ : ∃ q, k = q + 1 := ⟨k - 1, by omega⟩
    rw [impl_fold.l0, if_neg (by omega)]
    exact ⟨rfl, ha⟩
  | succ n ih =>
    intro k a hn hg ha hk
    obtain ⟨k, rfl⟩ : ∃ q, k = q + 1 := ⟨k - 1, by omega⟩
    have hb := hg n (Nat.lt_succ_self n)
    have h := joined_ok ha hb (k := k) (by omega)
    have e0 : ((n + 1 : Nat) : Int) - 1 = (n : Int) := by omega
    obtain ⟨i1, i2⟩ := ih k (join a (aggOf (en l n).f3)) (by omega) (fun j hj => hg j (by omega)) (join_good ha hb) (by omega)
    have h' : impl_joined.f k a.c a.s a.mi a.ma a.h a.f (en l n).f3.f0 (en l n).f3.f1 (en l n).f3.f2 (en l n).f3.f3 (en l n).f3.f4 (en l n).f3.f5 = some (join a (aggOf (en l n).f3)).t := h
    rw [e0, impl_fold.l0, if_pos (by omega), if_pos (by omega), if_pos (by omega), h', Option.bind_some, show wrap64 ((n : Int) - 1) = (n : Int) - 1 from w64 (by omega) (by omega)]
    exact ⟨i1, i2⟩
theorem foldS (l : List En) (hl : l.length ≤ 1048576) : ∀ (n k : Nat) (a : Ag), n ≤ l.length → (∀ j, j < n → Good (aggOf (en l j).f3)) → Good a → n + 30 < k →
    spec_l5Fold.l1 k l ((n : Int) - 1) a.c a.s a.mi a.ma a.h a.f = some ((foldFrom l n a).t7 true) := by
  intro n
  induction n with
  | zero =>
    intro k a hn hg ha hk
    obtain ⟨k, rfl⟩ : ∃ q, k = q + 1 := ⟨k - 1, by omega⟩
    rw [spec_l5Fold.l1, if_neg (by omega)]
    rfl
  | succ n ih =>
    intro k a hn hg ha hk
    obtain ⟨k, rfl⟩ : ∃ q, k = q + 1 := ⟨k - 1, by omega⟩
    have hb := hg n (Nat.lt_succ_self n)
    have h := l4Join_ok ha hb (k := k) (by omega)
    have e0 : ((n + 1 : Nat) : Int) - 1 = (n : Int) := by omega
    have i1 := ih k (join a (aggOf (en l n).f3)) (by omega) (fun j hj => hg j (by omega)) (join_good ha hb) (by omega)
    have h' : spec_l4Join.f k a.c a.s a.mi a.ma a.h a.f (en l n).f3.f0 (en l n).f3.f1 (en l n).f3.f2 (en l n).f3.f3 (en l n).f3.f4 (en l n).f3.f5 = some (join a (aggOf (en l n).f3)).t := h
    rw [e0, spec_l5Fold.l1, if_pos (by omega), if_pos (by omega), if_pos (by omega), h', Option.bind_some, show wrap64 ((n : Int) - 1) = (n : Int) - 1 from w64 (by omega) (by omega)]
    exact i1
/-- What is folded, and whether there is something. -/
def baseA (l : List En) : Ag := if ends l < l.length ∧ (en l (ends l)).f2 = 1 then aggOf (en l (ends l)).f3 else zero8
def isN (l : List En) : Prop := l.length = 0 ∨ (en l 0).f2 = 2
theorem good_join {e : En} (h : GoodE e) (hk : e.f2 ≠ 2) : Good (aggOf e.f3) := by
  rcases h.2.2 with q | q
  · exact q.2
  · exact absurd q.1 hk
theorem good_kind {e : En} (h : GoodE e) : e.f2 = 1 ∨ e.f2 = 2 ∨ e.f2 = 3 := by
  rcases h.2.2 with q | q
  · rcases q.1 with q | q
    · exact .inl q
    · exact .inr (.inr q)
  · exact .inr (.inl q.1)
theorem good_len {e : En} (h : GoodE e) : e.f3.f4.length ≤ 8 := by
  rcases h.2.2 with q | q
  · have : e.f3.f4.length = 8 := q.2.len
    omega
  · have := q.2.2.2.2.2.1; omega
set_option linter.unusedSectionVars false
section
variable {l : List En} (hl : l.length ≤ 1048576) (hg : ∀ e ∈ l, GoodE e)
include hl hg
theorem joins_good (j : Nat) (hj : j < ends l) : Good (aggOf (en l j).f3) := by
  have hle := ends_le l
  exact good_join (hg _ (en_mem (by omega))) (by rw [ends_join l j hj]; decide)
theorem base_good : Good (baseA l) := by
  unfold baseA
  split
  · rename_i h
    exact good_join (hg _ (en_mem h.1)) (by rw [h.2]; decide)
  · exact zero8_good
theorem idx_l0 : ∀ (d i k : Nat), i + d = ends l → d + 1 < k → impl_Entry_with_impl_fold_1.l0 k l (l.length : Int) (i : Int) = some (if ends l < l.length then (ends l : Int) else -1) := by
  have hle := ends_le l
  intro d
  induction d with
  | zero =>
    intro i k hi hk
    obtain ⟨k, rfl⟩ : ∃ q, k = q + 1 := ⟨k - 1, by omega⟩
    obtain rfl : i = ends l := by omega
    rw [impl_Entry_with_impl_fold_1.l0]
    by_cases c : ends l < l.length
    · have hs := ends_stop l c
      rw [if_pos (by omega), if_pos (by omega), if_pos (by omega)]
      unfold impl_fold_1.f
      rw [Option.bind_some, if_pos (by simpa using hs), if_pos c]
    · rw [if_neg (by omega), if_neg c]
  | succ d ih =>
    intro i k hi hk
    obtain ⟨k, rfl⟩ : ∃ q, k = q + 1 := ⟨k - 1, by omega⟩
    have hs := ends_join l i (by omega)
    have hnext := ih (i + 1) k (by omega) (by omega)
    rw [impl_Entry_with_impl_fold_1.l0, if_pos (by omega), if_pos (by omega), if_pos (by omega)]
    unfold impl_fold_1.f
    rw [Option.bind_some, if_neg (by simpa using hs), wrapS (n := l.length) (by omega) (by omega)]
    exact hnext
theorem impl_fold_ok {k : Nat} (hk : 2000000 < k) : (isN l → impl_fold.f k l = some (noneA.t7 false)) ∧ (¬ isN l → impl_fold.f k l = some ((foldFrom l (ends l) (baseA l)).t7 true)) := by
  have hle := ends_le l
  have hidx := idx_l0 hl hg (ends l) 0 k (by omega) (by omega)
  obtain ⟨k, rfl⟩ : ∃ q, k = q + 1 + 1 + 1 := ⟨k - 3, by omega⟩
  have hidx' : impl_Entry_with_impl_fold_1.f (k + 1 + 1 + 1) l = some (if ends l < l.length then (ends l : Int) else -1) := hidx
  have hno : impl_noAgg.f = some zero8.t := by unfold impl_noAgg.f; rw [if_pos (by decide)]; rfl
  obtain ⟨hf, _⟩ := foldI l hl (ends l) k (baseA l) hle (joins_good hl hg) (base_good hl hg) (by omega)
  unfold impl_fold.f
  rw [hidx', Option.bind_some]
  by_cases c : ends l < l.length
  · have hs := ends_stop l c
    have hk1 := good_kind (hg _ (en_mem c))
    rw [if_pos c, if_neg (by omega), impl_fold.j0, hno, Option.bind_some, if_pos (by omega), if_pos (by omega), impl_fold.j1]
    by_cases c1 : (en l (ends l)).f2 = 1
    · have hb : baseA l = aggOf (en l (ends l)).f3 := by unfold baseA; rw [if_pos ⟨c, c1⟩]
      rw [if_pos (by simpa using c1), if_pos (by omega), if_pos (by omega), entryCloned_ok (en l (ends l)) (by have := good_len (hg _ (en_mem c)); omega), Option.bind_some, impl_fold.j2, show wrap64 ((ends l : Int) - 1) = (ends l : Int) - 1 from w64 (by omega) (by omega)]
      rw [hb] at hf ⊢
      refine ⟨fun hn => ?_, fun _ => hf⟩
      exfalso
      rcases hn with hn | hn
      · omega
      · by_cases c0 : ends l = 0
        · rw [c0] at c1; rw [hn] at c1; exact absurd c1 (by decide)
        · rw [ends_join l 0 (by omega)] at hn; exact absurd hn (by decide)
    · have hb : baseA l = zero8 := by unfold baseA; rw [if_neg (fun q => c1 q.2)]
      rw [if_neg (by simpa using c1)]
      by_cases c0 : ends l = 0
      · rw [if_pos (by omega)]
        refine ⟨fun _ => rfl, fun hn => ?_⟩
        exfalso
        apply hn
        refine .inr ?_
        rw [c0] at c1 hs hk1
        rcases hk1 with q | q | q
        · exact absurd q c1
        · exact q
        · exact absurd q hs
      · rw [if_neg (by omega), impl_fold.j2, show wrap64 ((ends l : Int) - 1) = (ends l : Int) - 1 from w64 (by omega) (by omega)]
        rw [hb] at hf ⊢
        refine ⟨fun hn => ?_, fun _ => hf⟩
        exfalso
        rcases hn with hn | hn
        · omega
        · rw [ends_join l 0 (by omega)] at hn; exact absurd hn (by decide)
  · have hb : baseA l = zero8 := by unfold baseA; rw [if_neg (fun q => c q.1)]
    rw [if_neg c, if_pos (by decide), impl_fold.j0, hno, Option.bind_some, if_neg (by omega), impl_fold.j1, if_neg (by decide)]
    by_cases c0 : l.length = 0
    · rw [if_pos (by omega)]
      exact ⟨fun _ => rfl, fun hn => absurd (.inl c0) hn⟩
    · rw [if_neg (by omega), impl_fold.j2, show wrap64 ((l.length : Int) - 1) = (ends l : Int) - 1 from by rw [w64 (by omega) (by omega)]; omega]
      rw [hb] at hf ⊢
      refine ⟨fun hn => ?_, fun _ => hf⟩
      exfalso
      rcases hn with hn | hn
      · omega
      · rw [ends_join l 0 (by omega)] at hn; exact absurd hn (by decide)
theorem spec_idx : ∀ (d i k : Nat), i + d = ends l → spec_l5Fold.l0 (k + d + 1) l (i : Int) = spec_l5Fold.j2 k l (ends l : Int) := by
  have hle := ends_le l
  intro d
  induction d with
  | zero =>
    intro i k hi
    obtain rfl : i = ends l := by omega
    rw [spec_l5Fold.l0]
    by_cases c : ends l < l.length
    · have hs := ends_stop l c
      rw [if_pos (by omega), if_pos (by omega), if_neg hs]
    · rw [if_neg (by omega)]
  | succ d ih =>
    intro i k hi
    have hs := ends_join l i (by omega)
    have hnext := ih (i + 1) k (by omega)
    rw [spec_l5Fold.l0, if_pos (by omega), if_pos (by omega), if_pos hs, wrapS (n := l.length) (by omega) (by omega)]
    exact hnext
theorem spec_fold_ok {k : Nat} (hk : 3000000 < k) : (isN l → spec_l5Fold.f k l = some (noneA.t7 false)) ∧ (¬ isN l → spec_l5Fold.f k l = some ((foldFrom l (ends l) (baseA l)).t7 true)) := by
  have hle := ends_le l
  obtain ⟨k, rfl⟩ : ∃ q, k = q + 1 := ⟨k - 1, by omega⟩
  unfold spec_l5Fold.f
  by_cases c0 : l.length = 0
  · rw [if_pos (by omega), spec_l5Fold.j0, if_pos rfl]
    exact ⟨fun _ => rfl, fun hn => absurd (.inl c0) hn⟩
  · rw [if_neg (by omega), if_pos (by omega), spec_l5Fold.j0]
    by_cases c2 : (en l 0).f2 = 2
    · have c2' : (rd_T45 l 0).f2 = 2 := c2
      rw [if_pos (beq_iff_eq.2 c2')]
      exact ⟨fun _ => rfl, fun hn => absurd (.inr c2) hn⟩
    · have c2' : ¬ (rd_T45 l 0).f2 = 2 := c2
      rw [if_neg (fun q => c2' (beq_iff_eq.1 q))]
      refine ⟨fun hn => by rcases hn with q | q; exact absurd q c0; exact absurd q c2, fun _ => ?_⟩
      obtain ⟨k, rfl⟩ : ∃ q, k = (q + 1 + 1 + 1) + ends l + 1 := ⟨k - ends l - 4, by omega⟩
      have e1 := spec_idx hl hg (ends l) 0 (k + 1 + 1 + 1) (by omega)
      have e1' : spec_l5Fold.l0 (k + 1 + 1 + 1 + ends l + 1) l 0 = spec_l5Fold.j2 (k + 1 + 1 + 1) l (ends l : Int) := e1
      have hz : spec_l4Zero.f = some zero8.t := by unfold spec_l4Zero.f; rw [if_pos (by decide)]; rfl
      have hf := foldS l hl (ends l) k (baseA l) hle (joins_good hl hg) (base_good hl hg) (by omega)
      rw [e1', spec_l5Fold.j2, hz, Option.bind_some]
      by_cases c : ends l < l.length
      · rw [if_pos (by omega), if_pos (by omega), spec_l5Fold.j3]
        by_cases c1 : (en l (ends l)).f2 = 1
        · have hb : baseA l = aggOf (en l (ends l)).f3 := by unfold baseA; rw [if_pos ⟨c, c1⟩]
          rw [if_pos (by simpa using c1), if_pos (by omega), if_pos (by omega), ownA_ok _ _ _ _ (l := (en l (ends l)).f3.f4) (by have := good_len (hg _ (en_mem c)); omega), Option.bind_some, spec_l5Fold.j4, show wrap64 ((ends l : Int) - 1) = (ends l : Int) - 1 from w64 (by omega) (by omega)]
          rw [hb] at hf ⊢
          exact hf
        · have hb : baseA l = zero8 := by unfold baseA; rw [if_neg (fun q => c1 q.2)]
          rw [if_neg (by simpa using c1), spec_l5Fold.j4, show wrap64 ((ends l : Int) - 1) = (ends l : Int) - 1 from w64 (by omega) (by omega)]
          rw [hb] at hf ⊢
          exact hf
      · have hb : baseA l = zero8 := by unfold baseA; rw [if_neg (fun q => c q.1)]
        rw [if_neg (by omega), spec_l5Fold.j3, if_neg (by decide), spec_l5Fold.j4, show wrap64 ((ends l : Int) - 1) = (ends l : Int) - 1 from w64 (by omega) (by omega)]
        rw [hb] at hf ⊢
        exact hf
end
end Go.Proofs.Ytdkokfnnebdppaa.Lem

/- Good entries of one key: the first and the last have it if all have. -/
namespace Go.Proofs.Ytdkokfnnebdppaa.Lem
open Go Go.RowKit Go.Proofs.Ytdkokfnnebdppaa.P Go.Proofs.YtdkokfnnebdppaaW.PrintWords Go.Proofs.YtdkokfnnebdppaaW.PrintLast Go.Proofs.YtdkokfnnebdppaaW.PrintMore

/-- From place i on each entry has the first one's key. -/
def SameFrom (l : List En) (i : Nat) : Prop := ∀ j, j < l.length → i ≤ j → (en l j).f0.toList = (en l 0).f0.toList
theorem goodEs_all {l : List En} (h : GoodEs l) : ∀ e ∈ l, GoodE e := by
  intro e he
  obtain ⟨j, hj, rfl⟩ := List.getElem_of_mem he
  exact (h.1 j (Nat.zero_le _) hj).1
theorem foldFrom_good {l : List En} (hl : l.length ≤ 1048576) (hg : ∀ e ∈ l, GoodE e) : Good (foldFrom l (ends l) (baseA l)) :=
  (foldI l hl (ends l) (ends l + 31) (baseA l) (ends_le l) (joins_good hl hg) (base_good hl hg) (by omega)).2
/-- x does not stand behind y. -/
def LeU (x y : List UInt8) : Prop := Op.bytesLess y x = false
theorem LeU.trans : ∀ {x y z : List UInt8}, LeU x y → LeU y z → LeU x z
  | [], [], z, _, h => h
  | [], _ :: _, [], _, h => by exact absurd h (by unfold LeU Op.bytesLess; decide)
  | [], _ :: _, _ :: _, _, _ => rfl
  | _ :: _, [], _, h, _ => by exact absurd h (by unfold LeU Op.bytesLess; decide)
  | _ :: _, _ :: _, [], _, h => by exact absurd h (by unfold LeU Op.bytesLess; decide)
  | a :: x, b :: y, c :: z, h1, h2 => by
    unfold LeU at h1 h2 ⊢
    rw [less_cons] at h1 h2 ⊢
    have n1 : b ≠ a → ¬ b.toNat < a.toNat := fun e => by rw [if_neg e] at h1; simpa [UInt8.lt_iff_toNat_lt] using h1
    have n2 : c ≠ b → ¬ c.toNat < b.toNat := fun e => by rw [if_neg e] at h2; simpa [UInt8.lt_iff_toNat_lt] using h2
    by_cases e1 : b = a
    · by_cases e2 : c = b
      · rw [if_pos e1] at h1
        rw [if_pos e2] at h2
        rw [if_pos (e2.trans e1)]
        exact LeU.trans h1 h2
      · subst e1
        rw [if_neg e2]
        exact decide_eq_false (by rw [UInt8.lt_iff_toNat_lt]; exact n2 e2)
    · have e1' : b.toNat ≠ a.toNat := fun q => e1 (UInt8.toNat_inj.1 q)
      have m1 := n1 e1
      by_cases e2 : c = b
      · subst e2
        rw [if_neg e1]
        exact decide_eq_false (by rw [UInt8.lt_iff_toNat_lt]; exact m1)
      · have m2 := n2 e2
        rw [if_neg (fun q => by subst q; omega)]
        exact decide_eq_false (by rw [UInt8.lt_iff_toNat_lt]; omega)
theorem LeU.anti {x y : List UInt8} (h1 : LeU x y) (h2 : LeU y x) : x = y := by
  unfold LeU at h1 h2
  have h := less_tri x y
  rw [h1, h2] at h
  simpa using h
theorem LeU.of_before {a b : En} (h : Before a b) : LeU a.f0.toList b.f0.toList := by
  unfold LeU
  rcases h with h | h
  · rw [less_tri a.f0.toList b.f0.toList, ordB_lt.1 h, Bool.true_or]; rfl
  · rw [ordB_zero.1 h.1, less_irrefl]
theorem keys_le {l : List En} (h : GoodEs l) : ∀ (d i : Nat), i + d < l.length → LeU (en l i).f0.toList (en l (i + d)).f0.toList := by
  intro d
  induction d with
  | zero => intro i _; exact less_irrefl _
  | succ d ih =>
    intro i hi
    refine (ih i (by omega)).trans ?_
    have hb := (h.1 (i + d + 1) (Nat.zero_le _) (by omega)).2 (Nat.succ_pos _)
    have e1 : en l (i + d + 1) = l[i + d + 1] := rdE_get (by omega)
    have e2 : en l (i + d) = l[i + d + 1 - 1] := rdE_get (l := l) (i := i + d) (by omega)
    rw [show i + (d + 1) = i + d + 1 from rfl, e1, e2]
    exact LeU.of_before hb
theorem same_last {l : List En} (_hl : l.length ≤ 1048576) (h : GoodEs l) (h0 : 0 < l.length) : (en l 0).f0.toList = (en l (l.length - 1)).f0.toList ↔ SameFrom l 0 := by
  constructor
  · intro e j hj _
    have h1 := keys_le h j 0 (by omega)
    have h2 := keys_le h (l.length - 1 - j) j (by omega)
    rw [show j + (l.length - 1 - j) = l.length - 1 by omega, ← e] at h2
    rw [Nat.zero_add] at h1
    exact LeU.anti h2 h1
  · intro hs
    exact (hs (l.length - 1) (by omega) (Nat.zero_le _)).symm
end Go.Proofs.Ytdkokfnnebdppaa.Lem

/- Marks as texts. No conditions. -/
namespace Go.Proofs.Ytdkokfnnebdppaa.Lem
open Go Go.RowKit Go.Proofs.Ytdkokfnnebdppaa.P Go.Proofs.YtdkokfnnebdppaaW.PrintWords Go.Proofs.YtdkokfnnebdppaaW.PrintLast Go.Proofs.YtdkokfnnebdppaaW.PrintMore

def markTl : Nat → Int → ByteArray → ByteArray
  | 0, _, acc => (⟨#[109]⟩ : ByteArray) ++ acc
  | d + 1, x, acc => if x > 0 then markTl d (Int.tdiv x 10) ((strOfNums [(wrap64 (48 + (Int.tmod x 10))) % 256]) ++ acc) else (⟨#[109]⟩ : ByteArray) ++ acc
theorem markText_l0 : ∀ (d k : Nat) (x : Int) (acc : ByteArray), 0 ≤ x → x < 10 ^ d → x ≤ 9223372036854775807 → d < k → acc.size + d ≤ 1000 → laws_markText.l0 k x acc = some (markTl d x acc)
  | 0, k, x, acc, h0, h1, _, hk, ha => by
    obtain ⟨k, rfl⟩ : ∃ q, k = q + 1 := ⟨k - 1, by omega⟩
    have hx : ¬ x > 0 := by simp at h1; omega
    rw [laws_markText.l0, if_neg hx, if_pos (by omega)]
    rfl
  | d + 1, k, x, acc, h0, h1, hb, hk, ha => by
    obtain ⟨k, rfl⟩ : ∃ q, k = q + 1 := ⟨k - 1, by omega⟩
    rw [laws_markText.l0, markTl]
    by_cases hx : x > 0
    · have hz : (strOfNums [(wrap64 (48 + (Int.tmod x 10))) % 256]).size = 1 := rfl
      have e : Int.tdiv x 10 = x / 10 := Int.tdiv_eq_ediv_of_nonneg h0
      have hp : (10 : Int) ^ (d + 1) = 10 ^ d * 10 := Int.pow_succ 10 d
      have hlt : x / 10 < 10 ^ d := by omega
      have ih := markText_l0 d k (x / 10) ((strOfNums [(wrap64 (48 + (Int.tmod x 10))) % 256]) ++ acc) (by omega) hlt (by omega) (by omega) (by rw [ByteArray.size_append, hz]; omega)
      rw [if_pos hx, if_pos hx, Option.bind_some, hz, if_pos (by omega), e, w64 (by omega) (by omega)]
      exact ih
    · rw [if_neg hx, if_neg hx, if_pos (by omega)]
def markT (x : Int) : ByteArray := if x ≤ 0 then ⟨#[109, 48]⟩ else markTl 18 x ⟨#[]⟩
theorem markText_ok {x : Int} (h0 : 0 ≤ x) (h1 : x < 1000000000000000000) {k : Nat} (hk : 20 < k) : laws_markText.f k x = some (markT x) := by
  unfold laws_markText.f markT
  split
  · rfl
  · exact markText_l0 18 k x _ h0 (by simpa using h1) (by omega) (by omega) (by decide)
end Go.Proofs.Ytdkokfnnebdppaa.Lem

/- Marks in rows of numbers, written and told again. No conditions. -/
namespace Go.Proofs.Ytdkokfnnebdppaa.Lem
open Go Go.RowKit Go.Proofs.Ytdkokfnnebdppaa.P Go.Proofs.YtdkokfnnebdppaaW.PrintWords Go.Proofs.YtdkokfnnebdppaaW.PrintLast Go.Proofs.YtdkokfnnebdppaaW.PrintMore

def markInts : List Int → Int → List Int
  | [], _ => []
  | _ :: r, x => x :: markInts r (x + 1)
theorem markInts_length : ∀ (l : List Int) (x : Int), (markInts l x).length = l.length
  | [], _ => rfl
  | _ :: r, x => by rw [markInts, List.length_cons, List.length_cons, markInts_length r]
theorem markIntS_l0 : ∀ (rest pre : List Int) (k : Nat) (x : Int), 0 ≤ x → x + rest.length < 1000000000000000000 → pre.length + rest.length ≤ 1000000000 → rest.length < k →
    laws_markIntS.l0 k (pre ++ rest) x (pre.length : Int) = some (x + rest.length, pre ++ markInts rest x)
  | [], pre, k, x, h0, h1, h2, hk => by
    obtain ⟨k, rfl⟩ : ∃ q, k = q + 1 := ⟨k - 1, by omega⟩
    rw [laws_markIntS.l0, if_neg (by rw [List.append_nil]; omega), List.append_nil, markInts, List.append_nil]
    simp
  | a :: rest, pre, k, x, h0, h1, h2, hk => by
    obtain ⟨k, rfl⟩ : ∃ q, k = q + 1 := ⟨k - 1, by omega⟩
    rw [List.length_cons] at h1 h2 hk
    have ih := markIntS_l0 rest (pre ++ [x]) k (x + 1) (by omega) (by omega) (by rw [List.length_append, List.length_singleton]; omega) (by omega)
    rw [laws_markIntS.l0, if_pos (by rw [List.length_append, List.length_cons]; omega), if_pos (by omega), Int.toNat_natCast, set_mid _ _ _ _ rfl, w64 (by omega) (by omega),
      show wrap64 ((pre.length : Int) + 1) = ((pre ++ [x]).length : Int) from by rw [w64 (by omega) (by omega), List.length_append, List.length_singleton]; omega]
    rw [List.append_assoc, List.singleton_append] at ih
    rw [ih, markInts, List.length_cons, List.append_assoc, List.singleton_append]
    congr 2
    omega
theorem markIntS_ok (l : List Int) {k : Nat} {x : Int} (h0 : 0 ≤ x) (h1 : x + l.length < 1000000000000000000) (h2 : l.length ≤ 1000000000) (hk : l.length < k) : laws_markIntS.f k l x = some (x + l.length, markInts l x) := markIntS_l0 l [] k x h0 h1 (by simpa using h2) hk
theorem heldIntS_l0 : ∀ (rest pre : List Int) (k : Nat) (x : Int), 0 ≤ x → x + rest.length < 1000000000000000000 → pre.length + rest.length ≤ 1000000000 → rest.length < k →
    laws_heldIntS.l0 k (pre ++ markInts rest x) x (pre.length : Int) = some (x + rest.length)
  | [], pre, k, x, h0, h1, h2, hk => by
    obtain ⟨k, rfl⟩ : ∃ q, k = q + 1 := ⟨k - 1, by omega⟩
    rw [laws_heldIntS.l0, markInts, List.append_nil, if_neg (by omega)]
    simp
  | a :: rest, pre, k, x, h0, h1, h2, hk => by
    obtain ⟨k, rfl⟩ : ∃ q, k = q + 1 := ⟨k - 1, by omega⟩
    rw [List.length_cons] at h1 h2 hk
    have ih := heldIntS_l0 rest (pre ++ [x]) k (x + 1) (by omega) (by omega) (by rw [List.length_append, List.length_singleton]; omega) (by omega)
    rw [List.append_assoc, List.singleton_append] at ih
    rw [laws_heldIntS.l0, markInts, if_pos (by rw [List.length_append, List.length_cons]; omega), if_pos (by omega), show rd (pre ++ x :: markInts rest (x + 1)) (pre.length : Int) = x from getD_mid _ _ _ _ rfl, if_pos rfl, w64 (by omega) (by omega),
      show wrap64 ((pre.length : Int) + 1) = ((pre ++ [x]).length : Int) from by rw [w64 (by omega) (by omega), List.length_append, List.length_singleton]; omega, ih, List.length_cons]
    congr 1
    omega
theorem heldIntS_ok (l : List Int) {k : Nat} {x : Int} (h0 : 0 ≤ x) (h1 : x + l.length < 1000000000000000000) (h2 : l.length ≤ 1000000000) (hk : l.length < k) : laws_heldIntS.f k (markInts l x) x = some (x + l.length) := heldIntS_l0 l [] k x h0 h1 (by simpa using h2) hk
end Go.Proofs.Ytdkokfnnebdppaa.Lem

/- Marks that are written into entries, and told again. No conditions. -/
namespace Go.Proofs.Ytdkokfnnebdppaa.Lem
open Go Go.RowKit Go.Proofs.Ytdkokfnnebdppaa.P Go.Proofs.YtdkokfnnebdppaaW.PrintWords Go.Proofs.YtdkokfnnebdppaaW.PrintLast Go.Proofs.YtdkokfnnebdppaaW.PrintMore

def zE (e : En) (x : Int) : Int := x + 1 + 1 + 1 + 1 + 1 + 1 + 1 + (e.f3.f4.length : Int)
def markE (e : En) (x : Int) : En := ⟨markT x, x + 1, x + 1 + 1, ⟨x + 1 + 1 + 1, x + 1 + 1 + 1 + 1, x + 1 + 1 + 1 + 1 + 1, x + 1 + 1 + 1 + 1 + 1 + 1, markInts e.f3.f4 (x + 1 + 1 + 1 + 1 + 1 + 1 + 1), Int.tmod (zE e x) 3 == 0⟩⟩
def markEs : List En → Int → List En
  | [], _ => []
  | e :: r, x => markE e x :: markEs r (zE e x + 1)
def endE : List En → Int → Int
  | [], x => x
  | e :: r, x => endE r (zE e x + 1)
theorem markEs_length : ∀ (l : List En) (x : Int), (markEs l x).length = l.length
  | [], _ => rfl
  | _ :: r, x => by rw [markEs, List.length_cons, List.length_cons, markEs_length r]
theorem endE_le : ∀ (l : List En) (x : Int), RowsE l → x ≤ endE l x ∧ endE l x ≤ x + 4194304 * (l.length : Int)
  | [], x, _ => by simp [endE]
  | w :: r, x, h => by
    have ih := endE_le r (zE w x + 1) (fun v hv => h v (List.mem_cons_of_mem _ hv))
    have hw := h w List.mem_cons_self
    have hz : zE w x = x + 1 + 1 + 1 + 1 + 1 + 1 + 1 + (w.f3.f4.length : Int) := rfl
    rw [endE, List.length_cons]
    omega
theorem rdE_mid (pre : List En) (a : En) (rest : List En) : rd_T45 (pre ++ a :: rest) (pre.length : Int) = a := getD_mid _ _ _ _ rfl
theorem wrapP (pre : List En) (a : En) (h : pre.length ≤ 1000000000) : wrap64 ((pre.length : Int) + 1) = ((pre ++ [a]).length : Int) := by rw [w64 (by omega) (by omega), List.length_append, List.length_singleton]; omega
theorem markEntryS_l0 : ∀ (rest pre : List En) (k : Nat) (x : Int), 0 ≤ x → x + 4194304 * (rest.length : Int) < 1000000000000000000 → pre.length + rest.length ≤ 1000000000 → RowsE rest → rest.length + 1048600 < k →
    laws_markEntryS.l0 k (pre ++ rest) x (pre.length : Int) = some (endE rest x, pre ++ markEs rest x)
  | [], pre, k, x, h0, h1, h2, h3, hk => by
    obtain ⟨k, rfl⟩ : ∃ q, k = q + 1 := ⟨k - 1, by omega⟩
    rw [laws_markEntryS.l0, if_neg (by rw [List.append_nil]; omega), List.append_nil, markEs, List.append_nil]
    rfl
  | a :: rest, pre, k, x, h0, h1, h2, h3, hk => by
    obtain ⟨k, rfl⟩ : ∃ q, k = q + 1 := ⟨k - 1, by omega⟩
    rw [List.length_cons] at h1 h2 hk
    have t1 := h3 a List.mem_cons_self
    have hz : zE a x = x + 1 + 1 + 1 + 1 + 1 + 1 + 1 + (a.f3.f4.length : Int) := rfl
    have ih := markEntryS_l0 rest (pre ++ [markE a x]) k (zE a x + 1) (by omega) (by omega) (by rw [List.length_append, List.length_singleton]; omega) (fun v hv => h3 v (List.mem_cons_of_mem _ hv)) (by omega)
    rw [List.append_assoc, List.singleton_append] at ih
    rw [laws_markEntryS.l0, if_pos (by rw [List.length_append, List.length_cons]; omega), if_pos (by omega), markText_ok h0 (by omega) (by omega), Option.bind_some, rdE_mid,
      w64 (x := x + 1) (by omega) (by omega), w64 (x := x + 1 + 1) (by omega) (by omega), w64 (x := x + 1 + 1 + 1) (by omega) (by omega), w64 (x := x + 1 + 1 + 1 + 1) (by omega) (by omega), w64 (x := x + 1 + 1 + 1 + 1 + 1) (by omega) (by omega), w64 (x := x + 1 + 1 + 1 + 1 + 1 + 1) (by omega) (by omega), w64 (x := x + 1 + 1 + 1 + 1 + 1 + 1 + 1) (by omega) (by omega),
      markIntS_ok _ (by omega) (by omega) (by omega) (by omega), Option.bind_some]
    dsimp only
    rw [show x + 1 + 1 + 1 + 1 + 1 + 1 + 1 + (a.f3.f4.length : Int) = zE a x from rfl, w64 (x := zE a x + 1) (by omega) (by omega), Int.toNat_natCast, set_mid _ _ _ _ rfl, wrapP pre (markE a x) (by omega)]
    rw [endE, markEs]
    refine Eq.trans ?_ (ih.trans ?_)
    · rfl
    · rw [List.append_assoc, List.singleton_append]
theorem markEntryS_ok (l : List En) {k : Nat} {x : Int} (h0 : 0 ≤ x) (h1 : x ≤ 10000000000000) (h2 : l.length ≤ 1048576) (h3 : RowsE l) (hk : 2097180 < k) : laws_markEntryS.f k l x = some (endE l x, markEs l x) := markEntryS_l0 l [] k x h0 (by omega) (by simpa using (by omega : l.length ≤ 1000000000)) h3 (by omega)
theorem heldEntryS_l0 : ∀ (rest pre : List En) (k : Nat) (x : Int), 0 ≤ x → x + 4194304 * (rest.length : Int) < 1000000000000000000 → pre.length + rest.length ≤ 1000000000 → RowsE rest → rest.length + 1048600 < k →
    laws_heldEntryS.l0 k (pre ++ markEs rest x) x (pre.length : Int) = some (endE rest x)
  | [], pre, k, x, h0, h1, h2, h3, hk => by
    obtain ⟨k, rfl⟩ : ∃ q, k = q + 1 := ⟨k - 1, by omega⟩
    rw [laws_heldEntryS.l0, markEs, List.append_nil, if_neg (by omega)]
    rfl
  | a :: rest, pre, k, x, h0, h1, h2, h3, hk => by
    obtain ⟨k, rfl⟩ : ∃ q, k = q + 1 := ⟨k - 1, by omega⟩
    rw [List.length_cons] at h1 h2 hk
    have t1 := h3 a List.mem_cons_self
    have hz : zE a x = x + 1 + 1 + 1 + 1 + 1 + 1 + 1 + (a.f3.f4.length : Int) := rfl
    have ih := heldEntryS_l0 rest (pre ++ [markE a x]) k (zE a x + 1) (by omega) (by omega) (by rw [List.length_append, List.length_singleton]; omega) (fun v hv => h3 v (List.mem_cons_of_mem _ hv)) (by omega)
    rw [List.append_assoc, List.singleton_append] at ih
    rw [laws_heldEntryS.l0, markEs, if_pos (by rw [List.length_append, List.length_cons]; omega), if_pos (by omega), markText_ok h0 (by omega) (by omega), Option.bind_some, rdE_mid, if_pos (show (markE a x).f0.toList = (markT x).toList from rfl),
      w64 (x := x + 1) (by omega) (by omega), if_pos (show (markE a x).f1 = x + 1 from rfl), w64 (x := x + 1 + 1) (by omega) (by omega), if_pos (show (markE a x).f2 = x + 1 + 1 from rfl), w64 (x := x + 1 + 1 + 1) (by omega) (by omega), if_pos (show (markE a x).f3.f0 = x + 1 + 1 + 1 from rfl),
      w64 (x := x + 1 + 1 + 1 + 1) (by omega) (by omega), if_pos (show (markE a x).f3.f1 = x + 1 + 1 + 1 + 1 from rfl), w64 (x := x + 1 + 1 + 1 + 1 + 1) (by omega) (by omega), if_pos (show (markE a x).f3.f2 = x + 1 + 1 + 1 + 1 + 1 from rfl), w64 (x := x + 1 + 1 + 1 + 1 + 1 + 1) (by omega) (by omega), if_pos (show (markE a x).f3.f3 = x + 1 + 1 + 1 + 1 + 1 + 1 from rfl),
      w64 (x := x + 1 + 1 + 1 + 1 + 1 + 1 + 1) (by omega) (by omega), show (markE a x).f3.f4 = markInts a.f3.f4 (x + 1 + 1 + 1 + 1 + 1 + 1 + 1) from rfl, heldIntS_ok _ (by omega) (by omega) (by omega) (by omega), Option.bind_some, show x + 1 + 1 + 1 + 1 + 1 + 1 + 1 + (a.f3.f4.length : Int) = zE a x from rfl,
      if_neg (by omega), show (markE a x).f3.f5 = (Int.tmod (zE a x) 3 == 0) from rfl, bne_self_eq_false, if_neg (by decide), w64 (x := zE a x + 1) (by omega) (by omega), wrapP pre (markE a x) (by omega), ih, endE]
theorem heldEntryS_ok (l : List En) {k : Nat} {x : Int} (h0 : 0 ≤ x) (h1 : x ≤ 10000000000000) (h2 : l.length ≤ 1048576) (h3 : RowsE l) (hk : 2097180 < k) : laws_heldEntryS.f k (markEs l x) x = some (endE l x) := heldEntryS_l0 l [] k x h0 (by omega) (by simpa using (by omega : l.length ≤ 1000000000)) h3 (by omega)
end Go.Proofs.Ytdkokfnnebdppaa.Lem

/- The program's PackKey returns what the reference's returns: what FnExactPackKey's callees answer, at all entries that Go can hold. -/
namespace Go.Proofs.Ytdkokfnnebdppaa.Pure
open Go Go.RowKit Go.Proofs.Ytdkokfnnebdppaa.P Go.Proofs.YtdkokfnnebdppaaW.PrintWords Go.Proofs.YtdkokfnnebdppaaW.PrintLast Go.Proofs.YtdkokfnnebdppaaW.PrintMore Go.Proofs.Ytdkokfnnebdppaa.Lem

def pA (a : Ag) : Ga := ⟨a.c, a.s, a.mi, a.ma, a.h, a.f⟩
/-- What is needed of entries of one key. -/
noncomputable def packL (l : List En) (b : Bool) : List En := by
  classical
  exact if l.length = 0 then [] else if (en l 0).f2 = 2 then (if b = true then [] else [en l 0])
    else [⟨(en l 0).f0, (en l 0).f1, if ends l < l.length ∨ b = true then 1 else 3, pA (foldFrom l (ends l) (baseA l))⟩]
set_option linter.unusedSectionVars false
section
variable {l : List En} (hl : l.length ≤ 1048576) (hG : GoodEs l)
include hl hG
theorem not_isN (h0 : l.length ≠ 0) (h2 : (en l 0).f2 ≠ 2) : ¬ isN l := fun h => by rcases h with q | q; exact h0 q; exact h2 q
theorem packI_idx : ∀ (d i k : Nat), i + d = ends l → d + 1 < k → impl_Entry_with_impl_packKey_1.l0 k l (l.length : Int) (i : Int) = some (if ends l < l.length then (ends l : Int) else -1) := by
  have hle := ends_le l
  intro d
  induction d with
  | zero =>
    intro i k hi hk
    obtain ⟨k, rfl⟩ : ∃ q, k = q + 1 := ⟨k - 1, by omega⟩
    obtain rfl : i = ends l := by omega
    rw [impl_Entry_with_impl_packKey_1.l0]
    by_cases c : ends l < l.length
    · have hs := ends_stop l c
      rw [if_pos (by omega), if_pos (by omega), if_pos (by omega)]
      unfold impl_packKey_1.f
      rw [Option.bind_some, if_pos (by simpa using hs), if_pos c]
    · rw [if_neg (by omega), if_neg c]
  | succ d ih =>
    intro i k hi hk
    obtain ⟨k, rfl⟩ : ∃ q, k = q + 1 := ⟨k - 1, by omega⟩
    have hs := ends_join l i (by omega)
    have hnext := ih (i + 1) k (by omega) (by omega)
    rw [impl_Entry_with_impl_packKey_1.l0, if_pos (by omega), if_pos (by omega), if_pos (by omega)]
    unfold impl_packKey_1.f
    rw [Option.bind_some, if_neg (by simpa using hs), wrapS (n := l.length) (by omega) (by omega)]
    exact hnext
theorem ends_zero (h0 : l.length ≠ 0) : ends l = 0 ↔ (en l 0).f2 ≠ 3 := by
  have hle := ends_le l
  constructor
  · intro e
    have := ends_stop l (by omega)
    rw [e] at this
    exact this
  · intro h
    by_cases c : ends l = 0
    · exact c
    · exact absurd (ends_join l 0 (by omega)) h
theorem packI {b : Bool} {k : Nat} (hk : 4000000 < k) : impl_packKey.f k l b = some (packL l b) := by
  have hall := goodEs_all hG
  have hle := ends_le l
  have hidx := packI_idx hl hG (ends l) 0 k (by omega) (by omega)
  have hidx' : impl_Entry_with_impl_packKey_1.f k l = some (if ends l < l.length then (ends l : Int) else -1) := hidx
  obtain ⟨k, rfl⟩ : ∃ q, k = q + 1 := ⟨k - 1, by omega⟩
  obtain ⟨_, fi2⟩ := impl_fold_ok hl hall (k := k) (by omega)
  unfold impl_packKey.f packL
  by_cases c0 : l.length = 0
  · rw [if_pos (by omega), if_pos c0]
  have ez := ends_zero hl hG c0
  have hk0 := good_kind (hall _ (en_mem (l := l) (n := 0) (by omega)))
  rw [if_neg (by omega), if_neg c0, hidx', Option.bind_some]
  have hrest : (en l 0).f2 ≠ 2 → impl_packKey.j0 (k + 1) l b (if ends l < l.length then (ends l : Int) else -1) false = some [⟨(en l 0).f0, (en l 0).f1, if ends l < l.length ∨ b = true then 1 else 3, pA (foldFrom l (ends l) (baseA l))⟩] := by
    intro c2
    rw [impl_packKey.j0, if_neg (by decide), fi2 (not_isN hl hG c0 c2), Option.bind_some]
    by_cases c : ends l < l.length
    · rw [if_pos c, if_neg (by omega), if_pos (by omega), if_pos (.inl c)]
      rfl
    · rw [if_neg c, if_pos (by decide)]
      cases b
      · rw [if_neg (by decide), if_pos (by omega), if_neg (by simp [c])]
        rfl
      · rw [if_pos rfl, if_pos (by omega), if_pos (.inr rfl)]
        rfl
  by_cases c2 : (en l 0).f2 = 2
  · have e0 : ends l = 0 := ez.2 (by rw [c2]; decide)
    have c2' : (rd_T45 l 0).f2 = 2 := c2
    rw [if_pos (show (if ends l < l.length then (ends l : Int) else -1) = 0 from by rw [if_pos (by omega), e0]; rfl), if_pos (by omega), impl_packKey.j0, if_pos (beq_iff_eq.2 c2'), if_pos c2]
    cases b
    · rw [if_neg (by decide), if_pos (by omega), if_neg (by decide), entryCloned_ok (rd_T45 l 0) (by have h8 : (rd_T45 l 0).f3.f4.length ≤ 8 := good_len (hall _ (en_mem (l := l) (n := 0) (by omega))); omega), Option.bind_some]
      rfl
    · rw [if_pos rfl, if_pos rfl]
  · have c2' : ¬ (rd_T45 l 0).f2 = 2 := c2
    have hr := hrest c2
    rw [if_neg c2]
    by_cases cz : (if ends l < l.length then (ends l : Int) else -1) = 0
    · rw [if_pos cz, if_pos (by omega), beq_eq_false_iff_ne.2 c2']
      exact hr
    · rw [if_neg cz]
      exact hr
theorem packS_l0 (b : Bool) (h0 : l.length ≠ 0) (h2 : (en l 0).f2 ≠ 2) : ∀ (d i k : Nat) (e : Bool), i + d = l.length → (e = true ↔ ends l < i) → d + 3000001 < k →
    spec_l8Pack.l0 k l b 1 e l (l.length : Int) (i : Int) = some [⟨(en l 0).f0, (en l 0).f1, if ends l < l.length ∨ b = true then 1 else 3, pA (foldFrom l (ends l) (baseA l))⟩] := by
  have hle := ends_le l
  have hall := goodEs_all hG
  intro d
  induction d with
  | zero =>
    intro i k e hi he hk
    obtain ⟨k, rfl⟩ : ∃ q, k = q + 1 := ⟨k - 1, by omega⟩
    obtain ⟨_, fs2⟩ := spec_fold_ok hl hall (k := k) (by omega)
    rw [spec_l8Pack.l0, if_neg (by omega), fs2 (not_isN hl hG h0 h2), Option.bind_some]
    by_cases c : ends l < l.length
    · rw [if_pos (he.2 (by omega)), if_pos (by omega), if_pos (.inl c)]
      rfl
    · rw [if_neg (fun q => by have := he.1 q; omega)]
      cases b
      · rw [if_neg (by decide), Option.bind_some, if_pos (by omega), if_neg (by simp [c])]
        rfl
      · rw [if_pos rfl, if_pos (by omega), if_pos (.inr rfl)]
        rfl
  | succ d ih =>
    intro i k e hi he hk
    obtain ⟨k, rfl⟩ : ∃ q, k = q + 1 := ⟨k - 1, by omega⟩
    rw [spec_l8Pack.l0, if_pos (by omega), if_pos (by omega), if_pos (by omega), wrapS (n := l.length) (by omega) (by omega)]
    by_cases c : e = true
    · rw [if_pos c]
      exact ih (i + 1) k true (by omega) (by have := he.1 c; exact ⟨fun _ => by omega, fun _ => rfl⟩) (by omega)
    · rw [if_neg c]
      have hn : ¬ ends l < i := fun q => c (he.2 q)
      refine ih (i + 1) k _ (by omega) ?_ (by omega)
      by_cases ce : i = ends l
      · have hs := ends_stop l (by omega)
        rw [← ce] at hs
        have hs' : ¬ (rd_T45 l (i : Int)).f2 = 3 := hs
        exact ⟨fun _ => by omega, fun _ => by rw [bne_iff_ne]; exact hs'⟩
      · have hs : (rd_T45 l (i : Int)).f2 = 3 := ends_join l i (by omega)
        rw [hs]
        exact ⟨fun q => by simp at q, fun q => by omega⟩
theorem packS {b : Bool} {k : Nat} (hk : 8000000 < k) : spec_l8Pack.f k l b = some (packL l b) := by
  have hall := goodEs_all hG
  unfold spec_l8Pack.f packL
  by_cases c0 : l.length = 0
  · rw [if_pos (by omega), if_pos c0]
  rw [if_neg (by omega), if_neg c0, if_pos (by omega)]
  by_cases c2 : (en l 0).f2 = 2
  · have c2' : (rd_T45 l 0).f2 = 2 := c2
    rw [if_pos c2', if_pos c2]
    cases b
    · have ht : l.take 1 = [en l 0] := by
        rw [List.take_succ_eq_append_getElem (show 0 < l.length by omega), List.take_zero, List.nil_append, show en l 0 = l[0] from rdE_get (by omega)]
      rw [if_neg (by decide), if_pos (by omega), if_neg (by decide), ht, l5Own_ok (l := [en l 0]) (show 1 ≤ 1048576 by decide) (fun e he => by rw [List.mem_singleton.1 he]; have := good_len (hall _ (en_mem (l := l) (n := 0) (by omega))); omega) (k := k) (by omega), Option.bind_some]
    · rw [if_pos rfl, if_pos rfl]
  · have c2' : ¬ (rd_T45 l 0).f2 = 2 := c2
    rw [if_neg c2', if_neg c2]
    exact packS_l0 hl hG b c0 c2 l.length 0 k false (by omega) ⟨fun q => by simp at q, fun q => by omega⟩ (by omega)
theorem packL_rows (b : Bool) : (packL l b).length ≤ 1048576 ∧ RowsE (packL l b) := by
  have hall := goodEs_all hG
  have one : ∀ e : En, e.f3.f4.length ≤ 1048576 → [e].length ≤ 1048576 ∧ RowsE [e] := fun e he => ⟨(show 1 ≤ 1048576 by decide), fun x hx => by rw [List.mem_singleton.1 hx]; exact he⟩
  unfold packL
  split
  · exact ⟨by decide, fun x hx => by simp at hx⟩
  · split
    · split
      · exact ⟨by decide, fun x hx => by simp at hx⟩
      · exact one _ (by have := good_len (hall _ (en_mem (l := l) (n := 0) (by omega))); omega)
    · refine one _ ?_
      show (foldFrom l (ends l) (baseA l)).h.length ≤ 1048576
      rw [(foldFrom_good hl hall).len]
      decide
theorem specKey_l0 (b : Bool) : ∀ (d i k : Nat), i + d = l.length → 1 ≤ i + d →
    (SameFrom l i → spec_PackKey.l0 (k + d + 1) l b l (l.length : Int) (i : Int) = ((spec_l8Pack.f k l b).bind fun t => some (t, true))) ∧
    (¬ SameFrom l i → spec_PackKey.l0 (k + d + 1) l b l (l.length : Int) (i : Int) = some ([], false)) := by
  intro d
  induction d with
  | zero =>
    intro i k hi h1
    rw [spec_PackKey.l0, if_neg (by omega)]
    exact ⟨fun _ => rfl, fun h => absurd (fun j hj hj2 => absurd hj (by omega)) h⟩
  | succ d ih =>
    intro i k hi h1
    obtain ⟨i1, i2⟩ := ih (i + 1) k (by omega) (by omega)
    rw [spec_PackKey.l0, if_pos (by omega), if_pos (by omega), if_pos (by omega), if_pos (by omega), wrapS (n := l.length) (by omega) (by omega)]
    by_cases c : (en l i).f0.toList = (en l 0).f0.toList
    · rw [if_pos (show (rd_T45 l (i : Int)).f0.toList = (rd_T45 l 0).f0.toList from c)]
      exact ⟨fun h => i1 (fun j hj hj2 => h j hj (by omega)), fun h => i2 (fun h' => h (fun j hj hj2 => by
        by_cases e : j = i
        · subst e; exact c
        · exact h' j hj (by omega)))⟩
    · rw [if_neg (show ¬ (rd_T45 l (i : Int)).f0.toList = (rd_T45 l 0).f0.toList from c)]
      exact ⟨fun h => absurd (h i (by omega) (Nat.le_refl _)) c, fun _ => rfl⟩
end
theorem pack_both (l : List En) (b : Bool) (hl : l.length ≤ 1048576) {k : Nat} (hk : 2000000000100 < k) :
    ∃ (l' : List En) (c : Bool), spec_PackKey.f k l b = some (l', c) ∧ impl_PackKey.f k l b = some (l', c) ∧ l'.length ≤ 1048576 ∧ RowsE l' := by
  have nil : ([] : List En).length ≤ 1048576 ∧ RowsE [] := ⟨by decide, fun x hx => by simp at hx⟩
  obtain ⟨k, rfl⟩ : ∃ q, k = q + 1 := ⟨k - 1, by omega⟩
  unfold spec_PackKey.f impl_PackKey.f
  by_cases c3 : (l.length : Int) > 300
  · rw [if_pos c3, if_pos c3, spec_PackKey.j0, if_pos rfl]
    exact ⟨[], false, rfl, rfl, nil⟩
  rw [if_neg c3, if_neg c3]
  obtain ⟨g, hg1, hg2, hgg⟩ := (spec_goodEs l hl (k := k + 1) (by omega)).both (impl_goodEs l hl (k := k + 1) (by omega))
  rw [hg1, hg2, Option.bind_some, Option.bind_some, spec_PackKey.j0]
  by_cases hg : g = true
  · have hG := hgg.1 hg
    have hi := packI hl hG (b := b) (k := k + 1) (by omega)
    have hr := packL_rows hl hG b
    rw [if_pos hg, if_neg (by rw [hg]; decide)]
    by_cases c0 : l.length = 0
    · obtain ⟨k, rfl⟩ : ∃ q, k = q + 1 := ⟨k - 1, by omega⟩
      rw [if_neg (by omega), spec_PackKey.l0, if_neg (by omega), packS hl hG (by omega), hi, Option.bind_some]
      exact ⟨_, _, rfl, rfl, hr⟩
    · obtain ⟨q, rfl⟩ : ∃ q, k = q + l.length + 1 := ⟨k - l.length - 1, by omega⟩
      obtain ⟨s1, s2⟩ := specKey_l0 hl hG b l.length 0 q (by omega) (by omega)
      have e1 : wrap64 ((l.length : Int) - 1) = ((l.length - 1 : Nat) : Int) := by rw [w64 (by omega) (by omega)]; omega
      have hs := same_last hl hG (by omega)
      rw [if_pos (by omega), if_pos (by omega), e1, if_pos (by omega), if_pos (by omega), hi]
      by_cases c : (en l 0).f0.toList = (en l (l.length - 1)).f0.toList
      · have s1' : spec_PackKey.l0 (q + l.length + 1) l b l (l.length : Int) 0 = _ := s1 (hs.1 c)
        rw [if_pos (show (rd_T45 l 0).f0.toList = (rd_T45 l ((l.length - 1 : Nat) : Int)).f0.toList from c), s1', packS hl hG (by omega), Option.bind_some]
        exact ⟨_, _, rfl, rfl, hr⟩
      · have s2' : spec_PackKey.l0 (q + l.length + 1) l b l (l.length : Int) 0 = _ := s2 (fun h => c (hs.2 h))
        rw [if_neg (show ¬ (rd_T45 l 0).f0.toList = (rd_T45 l ((l.length - 1 : Nat) : Int)).f0.toList from c), s2']
        exact ⟨[], false, rfl, rfl, nil⟩
  · rw [if_neg hg, if_pos (by simp [hg])]
    exact ⟨[], false, rfl, rfl, nil⟩
theorem FnExactPackKey (l : List Le) (b : Bool) (hg : l.length ≤ maxLen ∧ ∀ e ∈ l, GEntry e) {p : Prop} (_ : p) : ∃ k, laws_FnExactPackKey.Ok k l b := by
  have hl : l.length ≤ 9223372036854775807 := maxLen_le hg.1
  have hh : ∀ e ∈ l, HeldE e := fun e he => heldE (hg.2 e he)
  obtain ⟨k, hk⟩ : ∃ k, 2000000000100 < k := ⟨2000000000101, by omega⟩
  refine ⟨k, ?_⟩
  unfold laws_FnExactPackKey.Ok
  obtain ⟨r, hr, hr2⟩ := szEntryS_ok hl hh (x := 1048576) (by decide) (by decide) (k := k) (by omega)
  refine ⟨r, hr, ?_⟩
  rcases hr2 with hn | ⟨hn, _, hl', hs'⟩
  · exact Or.inl hn
  · refine Or.inr ⟨hn, ?_⟩
    have hlm : (l.map cvE).length ≤ 1048576 := by rw [List.length_map]; exact hl'
    have hsm := rowsE_map hs'
    have ht := toEntryS_ok hl' hs' (k := k) (by omega)
    obtain ⟨l2, c, h1, h2, hl2, hs2⟩ := pack_both (l.map cvE) b hlm hk
    have e1 := endE_le (l.map cvE) 1 hsm
    have e2 := endE_le l2 1 hs2
    exact ⟨l.map cvE, l2, c, _, _, _, _, ht, h1, h2, eqEntryS_ok hl2 hs2 (by omega), eqEntryS_ok hlm hsm (by omega), markEntryS_ok _ (by decide) (by decide) hlm hsm (by omega), markEntryS_ok _ (by decide) (by decide) hl2 hs2 (by omega), heldEntryS_ok _ (by decide) (by decide) hl2 hs2 (by omega), by omega, by omega⟩
end Go.Proofs.Ytdkokfnnebdppaa.Pure

/- The row of laws.FnExactPackKey: its arguments opened, the walk, and the row. -/
namespace Go.Proofs.Ytdkokfnnebdppaa.fnExactPackKey
open Go Go.ChangeShapes Go.WideShapes Go.ChangeAt Go.RowKit Go.Proofs.Ytdkokfnnebdppaa.P Go.Proofs.YtdkokfnnebdppaaW.PrintWords Go.Proofs.YtdkokfnnebdppaaW.PrintLast Go.Proofs.YtdkokfnnebdppaaW.PrintMore Go.Proofs.Ytdkokfnnebdppaa.Lem
set_option linter.unusedVariables false
theorem own : ownKnob Try.prog.godebug = none := by kernel_rfl
theorem laidOut : laidOutB Try.prog = true := by kernel_rfl
set_option maxRecDepth 100000 in
theorem lifted (os : Os) (started : os.Started) (H : Type) (enc : TypeId × Value → H) :
    ReturnsInHanded {} Try.checked os 4 .any (Rows.fnExactPackKeySpec.pre6 enc Try.prog Try.f4 Rows.fnExactPackKeyRow.domain false) (Rows.fnExactPackKeySpec.post enc Try.prog Try.f4 false true false false) := by
  refine returnsInHanded_of_change_sized (C := Try.checked) own started (by kernel_rfl) Try.func4
    (ChangeSpec.witness6 (enc := enc) (C := Try.checked) false ⟨#[], #[.slice none 0 0, .bool false], []⟩ 8 (by kernel_rfl) (by kernel_rfl) (by kernel_rfl) (by kernel_rfl)) ?_
  intro W base args ds gs before hval0 hW hcnd hsz0 _
  have hval : ∀ (j : Nat) t v, Try.f4.params[j]? = some t → args[j]? = some v → Value.okWide Try.prog W .any base t v := hval0
  have hW' := hW
  obtain ⟨p, q, hA0, hV, rfl, hfz, hnd⟩ := hW
  have hA : DataW.TrodAll enc Try.prog W 0 (fun _ => true) true Try.f4.params.toList args.toList ds p := hA0
  rw [Try.params4] at hA hval
  obtain ⟨v0, vs0, d0, ds0, p0, q0, hargs, rfl, rfl, h0, r0⟩ := trodAll_cons hA
  obtain ⟨v1, vs1, d1, ds1, p1, q1, rfl, rfl, rfl, h1, r1⟩ := trodAll_cons r0
  obtain ⟨rfl, rfl, rfl⟩ := trodAll_nil r1
  obtain rfl : args = #[v0, v1] := by cases args; simp_all
  obtain ⟨rfl, rfl⟩ := trodVars_none hV
  have k0 := h0
  have lt0 : ∀ x ∈ p0, x.block < W.heap.size := by obtain ⟨m, hm⟩ := k0; exact DataW.trod_lt m _ _ _ hm
  have k1 := h1
  have lt1 : ∀ x ∈ p1, x.block < W.heap.size := by obtain ⟨m, hm⟩ := k1; exact DataW.trod_lt m _ _ _ hm
  have hO0 : Opens enc Try.prog W 0 (fun _ => true) true (Kd.slice 41 k41) 22 _ := (opens_slice 41 Try.underlying22 (opens_iso (fun x : S41 => (x.f0, x.f1, x.f2, x.f3)) (fun a => ⟨a.1, a.2.1, a.2.2.1, a.2.2.2⟩) (fun _ => rfl) (opens_struct Try.underlying41 (by kernel_rfl) (opensF_cons (by kernel_rfl) (opens_string Try.underlying9) (opensF_cons (by kernel_rfl) (opens_int Try.underlying3) (opensF_cons (by kernel_rfl) (opens_int Try.underlying3) (opensF_one (by kernel_rfl) (opens_iso (fun x : S39 => (x.f0, x.f1, x.f2, x.f3, x.f4, x.f5)) (fun a => ⟨a.1, a.2.1, a.2.2.1, a.2.2.2.1, a.2.2.2.2.1, a.2.2.2.2.2⟩) (fun _ => rfl) (opens_struct Try.underlying39 (by kernel_rfl) (opensF_cons (by kernel_rfl) (opens_int Try.underlying3) (opensF_cons (by kernel_rfl) (opens_int Try.underlying3) (opensF_cons (by kernel_rfl) (opens_int Try.underlying3) (opensF_cons (by kernel_rfl) (opens_int Try.underlying3) (opensF_cons (by kernel_rfl) (opens_slice 3 Try.underlying24 (opens_int Try.underlying3) (by kernel_rfl)) (opensF_one (by kernel_rfl) (opens_bool Try.underlying4))))))))))))))) (by kernel_rfl))
  obtain ⟨A0, n0, c0, rfl⟩ := okWide_slice Try.underlying22 (hval 0 22 v0 rfl rfl)
  obtain ⟨l0, ⟨A0', c0', e0, hc0, hC0⟩, hg0⟩ := hO0 _ _ _ h0.choose_spec
  obtain ⟨rfl, rfl, rfl⟩ : A0 = A0' ∧ n0 = l0.length ∧ c0 = c0' := by
    have e1 : (Value.slice A0 n0 c0).cells.toList = [.slice A0' l0.length c0'] := e0
    simpa [Value.cells] using e1
  have hO1 : Opens enc Try.prog W 0 (fun _ => true) true Kd.bool 4 _ := (opens_bool Try.underlying4)
  obtain ⟨b1, rfl⟩ := okWide_bool Try.underlying4 (hval 1 4 v1 rfl rfl)
  obtain ⟨a1, e1, hg1⟩ := hO1 _ _ _ h1.choose_spec
  obtain rfl : a1 = b1 := by
    have e1 : (Value.bool b1).cells.toList = [.bool a1] := e1
    simpa [Value.cells] using e1.symm
  clear hA0 hval0
  obtain ⟨k, hk⟩ := Pure.FnExactPackKey l0 a1 hg0 hg1
  refine (laws_FnExactPackKey.calls (k := k) (l0 := l0) (A0 := A0) (c0 := c0) (hr0 := hC0) (hc0 := hc0) (a1 := a1) (w := W) (h := hk)).mono fun e W' ⟨he, bel⟩ => ?_
  subst he
  exact ⟨_, rfl, _, _, _, [], _, [], hW', trodAll_mk1 (shut_bool Try.underlying4 _), (trodAll_cons_mk (Below.trod laidOut (by kernel_rfl) (of_decide_eq_true (by kernel_rfl)) k0 bel lt0) (trodAll_cons_mk (Below.trod laidOut (by kernel_rfl) (of_decide_eq_true (by kernel_rfl)) k1 bel lt1) trodAll_mk0)), rfl, bel.frame _, fun h => by cases h⟩

theorem said : Rows.FnExactPackKeySaid :=
  OpenClaim.holds_of_wide 4 Try.f4 rfl rfl rfl rfl rfl rfl rfl ⟨rfl, rfl, rfl, rfl, rfl⟩ rfl rfl rfl rfl rfl (by kernel_rfl) Try.func4 (by kernel_rfl)
    (of_decide_eq_true (by kernel_rfl)) (by unfold Func.isWrapper; first | (rw [if_pos (by decide +kernel)]; kernel_rfl) | (rw [if_neg (of_decide_eq_false (by kernel_rfl))]; exact ⟨rfl, rfl⟩))
    (fun os started H enc _ => lifted os started H enc)
theorem proved : Rows.FnExactPackKeySaid := said
#print axioms proved
end Go.Proofs.Ytdkokfnnebdppaa.fnExactPackKey
namespace Go.Proofs.Ytdkokfnnebdppaa
/-- The tied card, under a short name, for the claim. -/
theorem fnExactPackKey_holds : Rows.FnExactPackKeySaid := fnExactPackKey.proved
end Go.Proofs.Ytdkokfnnebdppaa
