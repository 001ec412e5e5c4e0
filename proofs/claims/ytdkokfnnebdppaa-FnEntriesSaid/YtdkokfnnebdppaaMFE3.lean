/- Part 3 of the walks and words that FE uses. No conditions of its own. -/
import Derived.Shelf.RegionOpenPlain
import Derived.Lib.AppendZeros
import Derived.Lib.AppendZerosOnto
import Derived.Lib.Overlaps
import Derived.Laws.Externs
import Derived.Laws.IdiomCopy
import Derived.Laws.CopyRow
import Derived.Test.YtdkokfnnebdppaaMFE2
set_option maxHeartbeats 8000000
set_option maxRecDepth 100000
namespace Go.Proofs.Ytdkokfnnebdppaa.P
open Go.RowKit Go.Proofs.YtdkokfnnebdppaaW.PrintWords Go.Proofs.YtdkokfnnebdppaaW.PrintLast Go.Proofs.YtdkokfnnebdppaaW.PrintMore
attribute [local go_sem] max2_int min2_int max_two min_two max_three min_three max_four min_four str_geq str_gtr str_leq
set_option linter.unusedVariables false
set_option linter.unusedSimpArgs false
mutual
def spec_GoodEntries.l0 : Nat → List (S45) → List Int → List (S45) → Int → Int → Option (Bool)
 | 0, _, _, _, _, _ => none
 | k + 1, x0, x3, x10, x11, x12 => if x12 < x11 then (if 0 ≤ x12 then (if x12 < (x10.length : Int) then ((spec_GoodEntry.f k ((rd_T45 x10 x12).f0) ((rd_T45 x10 x12).f1) ((rd_T45 x10 x12).f2) ((rd_T45 x10 x12).f3.f0) ((rd_T45 x10 x12).f3.f1) ((rd_T45 x10 x12).f3.f2) ((rd_T45 x10 x12).f3.f3) ((rd_T45 x10 x12).f3.f4) ((rd_T45 x10 x12).f3.f5)).bind fun t103 => (if t103 = true then (if x12 > 0 then (if 0 ≤ (wrap64 (x12 - 1)) then (if (wrap64 (x12 - 1)) < (x0.length : Int) then ((spec_l5Before.f ((rd_T45 x0 (wrap64 (x12 - 1))).f0) ((rd_T45 x0 (wrap64 (x12 - 1))).f1) ((rd_T45 x0 (wrap64 (x12 - 1))).f2) ((rd_T45 x0 (wrap64 (x12 - 1))).f3.f0) ((rd_T45 x0 (wrap64 (x12 - 1))).f3.f1) ((rd_T45 x0 (wrap64 (x12 - 1))).f3.f2) ((rd_T45 x0 (wrap64 (x12 - 1))).f3.f3) ((rd_T45 x0 (wrap64 (x12 - 1))).f3.f4) ((rd_T45 x0 (wrap64 (x12 - 1))).f3.f5) ((rd_T45 x10 x12).f0) ((rd_T45 x10 x12).f1) ((rd_T45 x10 x12).f2) ((rd_T45 x10 x12).f3.f0) ((rd_T45 x10 x12).f3.f1) ((rd_T45 x10 x12).f3.f2) ((rd_T45 x10 x12).f3.f3) ((rd_T45 x10 x12).f3.f4) ((rd_T45 x10 x12).f3.f5)).bind fun t105 => (if t105 = true then (if x3.length < 17592186044416 then (spec_GoodEntries.l0 k x0 (x3 ++ [(rd_T45 x10 x12).f1]) x10 x11 (wrap64 (x12 + 1))) else (none)) else (some false))) else (none)) else (none)) else (if x3.length < 17592186044416 then (spec_GoodEntries.l0 k x0 (x3 ++ [(rd_T45 x10 x12).f1]) x10 x11 (wrap64 (x12 + 1))) else (none))) else (some false))) else (none)) else (none)) else (spec_GoodEntries.l1 k x3 x3 (x3.length : Int) 0)
def spec_GoodEntries.l1 : Nat → List Int → List Int → Int → Int → Option (Bool)
 | 0, _, _, _, _ => none
 | k + 1, x3, x40, x41, x42 => if x42 < x41 then (if 0 ≤ x42 then (if x42 < (x40.length : Int) then (if x42 ≤ (x3.length : Int) then ((some (x3.take (x42 : Int).toNat : List Int)).bind fun y113 => (spec_GoodEntries.l2 k x3 (rd x40 x42) x40 x41 x42 y113 (y113.length : Int) 0)) else (none)) else (none)) else (none)) else (some true)
def spec_GoodEntries.l2 : Nat → List Int → Int → List Int → Int → Int → List Int → Int → Int → Option (Bool)
 | 0, _, _, _, _, _, _, _, _ => none
 | k + 1, x3, x7, x40, x41, x42, x49, x50, x51 => if x51 < x50 then (if 0 ≤ x51 then (if x51 < (x49.length : Int) then (if (rd x49 x51) = x7 then (some false) else (spec_GoodEntries.l2 k x3 x7 x40 x41 x42 x49 x50 (wrap64 (x51 + 1)))) else (none)) else (none)) else (spec_GoodEntries.l1 k x3 x40 x41 (wrap64 (x42 + 1)))
end
def spec_GoodEntries.f (k : Nat) (l0 : List (S45)) : Option (Bool) := spec_GoodEntries.l0 k l0 ([] : List Int) l0 (l0.length : Int) 0
theorem spec_GoodEntries.mono_l : ∀ k, (∀ y0 y1 y2 y3 y4, LeO (spec_GoodEntries.l0 k y0 y1 y2 y3 y4) (spec_GoodEntries.l0 (k + 1) y0 y1 y2 y3 y4)) ∧ (∀ y0 y1 y2 y3, LeO (spec_GoodEntries.l1 k y0 y1 y2 y3) (spec_GoodEntries.l1 (k + 1) y0 y1 y2 y3)) ∧ (∀ y0 y1 y2 y3 y4 y5 y6 y7, LeO (spec_GoodEntries.l2 k y0 y1 y2 y3 y4 y5 y6 y7) (spec_GoodEntries.l2 (k + 1) y0 y1 y2 y3 y4 y5 y6 y7))
 | 0 => ⟨fun _ _ _ _ _ r h => by simp [spec_GoodEntries.l0] at h, fun _ _ _ _ r h => by simp [spec_GoodEntries.l1] at h, fun _ _ _ _ _ _ _ _ r h => by simp [spec_GoodEntries.l2] at h⟩
 | k + 1 => by
  obtain ⟨ih0, ih1, ih2⟩ := spec_GoodEntries.mono_l k; have m0 := @spec_GoodEntry.mono
  refine ⟨?_, ?_, ?_⟩
  · intro y0 y1 y2 y3 y4
    unfold spec_GoodEntries.l0
    exact moZ
  · intro y0 y1 y2 y3
    unfold spec_GoodEntries.l1
    exact moZ
  · intro y0 y1 y2 y3 y4 y5 y6 y7
    unfold spec_GoodEntries.l2
    exact moZ
theorem spec_GoodEntries.mono : ∀ a0 k, LeO (spec_GoodEntries.f k a0) (spec_GoodEntries.f (k + 1) a0) := by
 intro a0 k
 obtain ⟨ih0, ih1, ih2⟩ := spec_GoodEntries.mono_l k
 have m0 := @spec_GoodEntry.mono
 unfold spec_GoodEntries.f
 exact moZ
def spec_GoodEntries.T5 : Bool × List (List Nat × List Nat) := (true, [([], []), ([0], [0]), ([1], [1]), ([2, 1], [2]), ([3], [3]), ([4, 3], [3, 4]), ([5, 3, 3], [3, 5]), ([6], [6]), ([6], [6]), ([8, 6], [6, 8]), ([7, 9, 6], [6, 7, 9]), ([10, 6], [6, 10]), ([6], [6]), ([11, 12, 6, 6], [6, 11, 12]), ([13, 6], [6, 13]), ([6, 14, 3], [3, 6, 14]), ([3, 15], [3, 15])])
def spec_GoodEntries.B5 : List Nat := [0, 1, 3, 7, 15, 31, 63, 127, 127, 383, 1023, 2047, 127, 8191, 16383, 32767, 65535]
theorem spec_GoodEntries.tab5 : rtab .any (opsOf Try.f33 5) = spec_GoodEntries.T5 := by kernel_rfl
theorem spec_GoodEntries.bits5 : waitsOk spec_GoodEntries.T5.2 spec_GoodEntries.B5 = true := by kernel_rfl
theorem spec_GoodEntries.calls (k : Nat) (A0 : Option Addr) (c0 : Nat) (l0 : List (S45)) (r : Bool) (w : World) (hr0 : Kd.C k45 w A0 l0.length l0) (hc0 : l0.length ≤ c0) (h : spec_GoodEntries.f k l0 = some r) :
 Calls Try.prog 33 #[.slice A0 l0.length c0] w fun e w' => e = .returned (.bool r) ∧ Below w.heap.size w w' := by
 have hu45 := Try.underlying45
 have HR0 := aM hr0
 have HC0 := aM hc0
 clear hr0 hc0
 have HB := aM (Below.refl w.heap.size w)
 have H : (spec_GoodEntries.l0 k l0 ([] : List Int) l0 (l0.length : Int) 0) = some r := h
 clear h
 have H' := aM H
 clear H
 go_enter Try.func33, Try.ntmps33
 go_wp2
 go_loopg [3, 12] k (fun kq v3 v12 w' => ∃ (x3_1 : List Int) (x12_1 : Int), v12 = .int .i64 x12_1 ∧ Aside0 (spec_GoodEntries.l0 kq l0 x3_1 l0 (l0.length : Int) x12_1 = some r) ∧ Aside0 (kq ≤ k) ∧ Aside0 (Kd.R (Kd.int .i64) 3 w' w.heap.size (fun _ => True) v3 x3_1) ∧ Aside0 (Below w.heap.size w w'))
 case atStart => exact ⟨(([] : List Int)), (0), z4458, H', ⟨Nat.le_refl _⟩, ⟨z02fa⟩, ⟨z5acd⟩⟩
 case round =>
  clear H'
  obtain ⟨x3_1, x12_1, rfl, HA, HK1, HO_3, HB⟩ := hrel
  cases gk with
  | zero => exact absurd HA.out (by simp [spec_GoodEntries.l0])
  | succ k1 =>
   have H := HA.out
   clear HA
   simp only [spec_GoodEntries.l0] at H
   by_cases c2 : x12_1 < (l0.length : Int)
   · rw [if_pos c2] at H
     have c2b0 := dL c2
     clear c2
     obtain ⟨c3b0, H⟩ := sE H
     obtain ⟨c4b0, H⟩ := sL H
     obtain ⟨t103, A5, H⟩ := bS H; try dsimp only at H
     by_cases c6 : t103 = true
     · subst c6
       rw [if_pos rfl] at H
       by_cases c7 : x12_1 > 0
       · rw [if_pos c7] at H
         have c7b0 := dL c7
         clear c7
         obtain ⟨ji8, hji8⟩ : ∃ j_ : Int, (wrap64 (x12_1 - 1)) = j_ := ⟨_, rfl⟩
         replace H : (if 0 ≤ (ji8) then (if (ji8) < (l0.length : Int) then ((spec_l5Before.f ((rd_T45 l0 (ji8)).f0) ((rd_T45 l0 (ji8)).f1) ((rd_T45 l0 (ji8)).f2) ((rd_T45 l0 (ji8)).f3.f0) ((rd_T45 l0 (ji8)).f3.f1) ((rd_T45 l0 (ji8)).f3.f2) ((rd_T45 l0 (ji8)).f3.f3) ((rd_T45 l0 (ji8)).f3.f4) ((rd_T45 l0 (ji8)).f3.f5) ((rd_T45 l0 x12_1).f0) ((rd_T45 l0 x12_1).f1) ((rd_T45 l0 x12_1).f2) ((rd_T45 l0 x12_1).f3.f0) ((rd_T45 l0 x12_1).f3.f1) ((rd_T45 l0 x12_1).f3.f2) ((rd_T45 l0 x12_1).f3.f3) ((rd_T45 l0 x12_1).f3.f4) ((rd_T45 l0 x12_1).f3.f5)).bind fun t105 => (if t105 = true then (if x3_1.length < 17592186044416 then (spec_GoodEntries.l0 k1 l0 (x3_1 ++ [(rd_T45 l0 x12_1).f1]) l0 (l0.length : Int) (wrap64 (x12_1 + 1))) else (none)) else (some false))) else (none)) else (none)) = some r := by first | (rw [hji8] at H; exact H) | (simp only [hji8] at H ⊢; exact H)
         (try rw [hji8] at A5)
         have hji8w : (IntKind.i64.wrap (x12_1 - 1)) = ji8 := (i64_w _).trans hji8
         obtain ⟨c9b0, H⟩ := sE H
         obtain ⟨c10b0, H⟩ := sL H
         obtain ⟨t105, A11, H⟩ := bS H; try dsimp only at H
         by_cases c12 : t105 = true
         · subst c12
           rw [if_pos rfl] at H
           obtain ⟨LMc13, H⟩ := sM H
           obtain ⟨y106, hy106⟩ : ∃ y_ : List Int, y_ = (x3_1 ++ [(rd_T45 l0 x12_1).f1]) := ⟨_, rfl⟩
           first | (replace H := bindS H; rw [← hy106] at H; try dsimp only at H) | rw [← hy106] at H
           have Ny106 := aM hy106
           clear hy106
           have H' := aM H
           clear H
           have p101 : 0 ≤ (x12_1 : Int) := of_decide_eq_true z1200
           have q101 : x12_1 < (l0.length : Int) := of_decide_eq_true z1200
           obtain ⟨ad101, A101_7, c101_7, e101, hx101_0, hx101_1, hx101_2, hx101_3, hx101_4, hx101_5, hx101_6, hx101_7, hx101_8, hl101_7, hi101_7⟩ := at_T45 HR0.out x12_1 p101 q101
           cases e101
           have TW101_7 := aM hx101_7
           try replace hx101_0 := (HB.out.cell (World.block_lt_of_cell? w _ hx101_0)).trans hx101_0
           replace hx101_1 := (HB.out.cell (World.block_lt_of_cell? w _ hx101_1)).trans hx101_1
           replace hx101_2 := (HB.out.cell (World.block_lt_of_cell? w _ hx101_2)).trans hx101_2
           replace hx101_3 := (HB.out.cell (World.block_lt_of_cell? w _ hx101_3)).trans hx101_3
           replace hx101_4 := (HB.out.cell (World.block_lt_of_cell? w _ hx101_4)).trans hx101_4
           replace hx101_5 := (HB.out.cell (World.block_lt_of_cell? w _ hx101_5)).trans hx101_5
           replace hx101_6 := (HB.out.cell (World.block_lt_of_cell? w _ hx101_6)).trans hx101_6
           replace hx101_7 := (HB.out.cell (World.block_lt_of_cell? w _ hx101_7)).trans hx101_7
           replace hx101_8 := (HB.out.cell (World.block_lt_of_cell? w _ hx101_8)).trans hx101_8
           have HR101_7 := aM hi101_7
           have HC101_7 := aM hl101_7
           clear hi101_7 hl101_7
           replace p101 := eq_true p101
           replace q101 := eq_true q101
           try go_wp2_with (first | ((with_reducible refine gate_dst (N := 5) rfl ?_); refine bX 5 45 #[.string (⟨#[]⟩ : ByteArray), .int .i64 0, .int .i64 0, .int .i64 0, .int .i64 0, .int .i64 0, .int .i64 0, .slice none 0 0, .bool false] ?_; intro gb102 hg w14 hbox hb; have _ := aM (Kd.R_below (rZ HO_3.out) hb); have _ := aM (below_step hbZ hb); have _ := aM hbox; have _ := szZ hg; have _ := szZ hg; clear HO_3 HB; rename_i HO_3 HB BK102 GW102 GE102; clear hb hbox hg; have hz15 := cellsZ9 BK102.out))
           have n0_ : Aside0 (Kd.R (Kd.int .i64) 3 (((((((((w14.setCell ⟨gb102, 0, none⟩ (.string ((rd_T45 l0 x12_1).f0))).setCell ⟨gb102, 1, none⟩ (.int .i64 ((rd_T45 l0 x12_1).f1))).setCell ⟨gb102, 2, none⟩ (.int .i64 ((rd_T45 l0 x12_1).f2))).setCell ⟨gb102, 3, none⟩ (.int .i64 ((rd_T45 l0 x12_1).f3.f0))).setCell ⟨gb102, 4, none⟩ (.int .i64 ((rd_T45 l0 x12_1).f3.f1))).setCell ⟨gb102, 5, none⟩ (.int .i64 ((rd_T45 l0 x12_1).f3.f2))).setCell ⟨gb102, 6, none⟩ (.int .i64 ((rd_T45 l0 x12_1).f3.f3))).setCell ⟨gb102, 7, none⟩ (.slice A101_7 ((rd_T45 l0 x12_1).f3.f4).length c101_7)).setCell ⟨gb102, 8, none⟩ (.bool ((rd_T45 l0 x12_1).f3.f5))) w.heap.size (fun _ => True) u3 x3_1) := ⟨zc07f⟩
           have n1_ : Aside0 ((((((((((w14.setCell ⟨gb102, 0, none⟩ (.string ((rd_T45 l0 x12_1).f0))).setCell ⟨gb102, 1, none⟩ (.int .i64 ((rd_T45 l0 x12_1).f1))).setCell ⟨gb102, 2, none⟩ (.int .i64 ((rd_T45 l0 x12_1).f2))).setCell ⟨gb102, 3, none⟩ (.int .i64 ((rd_T45 l0 x12_1).f3.f0))).setCell ⟨gb102, 4, none⟩ (.int .i64 ((rd_T45 l0 x12_1).f3.f1))).setCell ⟨gb102, 5, none⟩ (.int .i64 ((rd_T45 l0 x12_1).f3.f2))).setCell ⟨gb102, 6, none⟩ (.int .i64 ((rd_T45 l0 x12_1).f3.f3))).setCell ⟨gb102, 7, none⟩ (.slice A101_7 ((rd_T45 l0 x12_1).f3.f4).length c101_7)).setCell ⟨gb102, 8, none⟩ (.bool ((rd_T45 l0 x12_1).f3.f5))).heap[gb102]? = some (.cells #[.string ((rd_T45 l0 x12_1).f0), .int .i64 ((rd_T45 l0 x12_1).f1), .int .i64 ((rd_T45 l0 x12_1).f2), .int .i64 ((rd_T45 l0 x12_1).f3.f0), .int .i64 ((rd_T45 l0 x12_1).f3.f1), .int .i64 ((rd_T45 l0 x12_1).f3.f2), .int .i64 ((rd_T45 l0 x12_1).f3.f3), .slice A101_7 ((rd_T45 l0 x12_1).f3.f4).length c101_7, .bool ((rd_T45 l0 x12_1).f3.f5)] 45 (0, 0))) := ⟨bkZ⟩
           have n2_ : Aside0 (Below w.heap.size w (((((((((w14.setCell ⟨gb102, 0, none⟩ (.string ((rd_T45 l0 x12_1).f0))).setCell ⟨gb102, 1, none⟩ (.int .i64 ((rd_T45 l0 x12_1).f1))).setCell ⟨gb102, 2, none⟩ (.int .i64 ((rd_T45 l0 x12_1).f2))).setCell ⟨gb102, 3, none⟩ (.int .i64 ((rd_T45 l0 x12_1).f3.f0))).setCell ⟨gb102, 4, none⟩ (.int .i64 ((rd_T45 l0 x12_1).f3.f1))).setCell ⟨gb102, 5, none⟩ (.int .i64 ((rd_T45 l0 x12_1).f3.f2))).setCell ⟨gb102, 6, none⟩ (.int .i64 ((rd_T45 l0 x12_1).f3.f3))).setCell ⟨gb102, 7, none⟩ (.slice A101_7 ((rd_T45 l0 x12_1).f3.f4).length c101_7)).setCell ⟨gb102, 8, none⟩ (.bool ((rd_T45 l0 x12_1).f3.f5)))) := ⟨zcb41⟩
           (try clear HO_3); (try clear BK102); (try clear HB)
           generalize (((((((((w14.setCell ⟨gb102, 0, none⟩ (.string ((rd_T45 l0 x12_1).f0))).setCell ⟨gb102, 1, none⟩ (.int .i64 ((rd_T45 l0 x12_1).f1))).setCell ⟨gb102, 2, none⟩ (.int .i64 ((rd_T45 l0 x12_1).f2))).setCell ⟨gb102, 3, none⟩ (.int .i64 ((rd_T45 l0 x12_1).f3.f0))).setCell ⟨gb102, 4, none⟩ (.int .i64 ((rd_T45 l0 x12_1).f3.f1))).setCell ⟨gb102, 5, none⟩ (.int .i64 ((rd_T45 l0 x12_1).f3.f2))).setCell ⟨gb102, 6, none⟩ (.int .i64 ((rd_T45 l0 x12_1).f3.f3))).setCell ⟨gb102, 7, none⟩ (.slice A101_7 ((rd_T45 l0 x12_1).f3.f4).length c101_7)).setCell ⟨gb102, 8, none⟩ (.bool ((rd_T45 l0 x12_1).f3.f5))) = w16 at n0_ n1_ n2_ ⊢
           have HO_3 := n0_
           have BK102 := n1_
           have HB := n2_
           clear n0_ n1_ n2_
           have _ := aM (Kd.R_drew HO_3.out)
           have _ := aM (blk_drew BK102.out)
           have _ := aM (below_drew1 HB.out)
           clear HO_3
           clear BK102
           clear HB
           rename_i HO_3 BK102 HB
           have p104 : 0 ≤ ((ji8) : Int) := of_decide_eq_true z1200
           have q104 : (ji8) < (l0.length : Int) := of_decide_eq_true z1200
           obtain ⟨ad104, A104_7, c104_7, e104, hx104_0, hx104_1, hx104_2, hx104_3, hx104_4, hx104_5, hx104_6, hx104_7, hx104_8, hl104_7, hi104_7⟩ := at_T45 HR0.out (ji8) p104 q104
           have hw104_8 := hx104_8
           have hw104_7 := hx104_7
           have hw104_6 := hx104_6
           have hw104_5 := hx104_5
           have hw104_4 := hx104_4
           have hw104_3 := hx104_3
           have hw104_2 := hx104_2
           have hw104_1 := hx104_1
           have hw104_0 := hx104_0
           obtain rfl : ad101 = ad104 := (by injection e104)
           have TW104_7 := aM hx104_7
           try replace hx104_0 := (HB.out.cell (World.block_lt_of_cell? w _ hx104_0)).trans hx104_0
           replace hx104_1 := (HB.out.cell (World.block_lt_of_cell? w _ hx104_1)).trans hx104_1
           replace hx104_2 := (HB.out.cell (World.block_lt_of_cell? w _ hx104_2)).trans hx104_2
           replace hx104_3 := (HB.out.cell (World.block_lt_of_cell? w _ hx104_3)).trans hx104_3
           replace hx104_4 := (HB.out.cell (World.block_lt_of_cell? w _ hx104_4)).trans hx104_4
           replace hx104_5 := (HB.out.cell (World.block_lt_of_cell? w _ hx104_5)).trans hx104_5
           replace hx104_6 := (HB.out.cell (World.block_lt_of_cell? w _ hx104_6)).trans hx104_6
           replace hx104_7 := (HB.out.cell (World.block_lt_of_cell? w _ hx104_7)).trans hx104_7
           replace hx104_8 := (HB.out.cell (World.block_lt_of_cell? w _ hx104_8)).trans hx104_8
           have HR104_7 := aM hi104_7
           have HC104_7 := aM hl104_7
           clear hi104_7 hl104_7
           replace p104 := eq_true p104
           replace q104 := eq_true q104
           refine sA 17 spec_GoodEntries.tab5 spec_GoodEntries.bits5 (fun w' => w'.cell? ⟨gb102, 0, none⟩ = some (.string ((rd_T45 l0 x12_1).f0)) ∧ w'.cell? ⟨gb102, 1, none⟩ = some (.int .i64 ((rd_T45 l0 x12_1).f1)) ∧ w'.cell? ⟨gb102, 2, none⟩ = some (.int .i64 ((rd_T45 l0 x12_1).f2)) ∧ w'.cell? ⟨gb102, 3, none⟩ = some (.int .i64 ((rd_T45 l0 x12_1).f3.f0)) ∧ w'.cell? ⟨gb102, 4, none⟩ = some (.int .i64 ((rd_T45 l0 x12_1).f3.f1)) ∧ w'.cell? ⟨gb102, 5, none⟩ = some (.int .i64 ((rd_T45 l0 x12_1).f3.f2)) ∧ w'.cell? ⟨gb102, 6, none⟩ = some (.int .i64 ((rd_T45 l0 x12_1).f3.f3)) ∧ w'.cell? ⟨gb102, 7, none⟩ = some (.slice A101_7 ((rd_T45 l0 x12_1).f3.f4).length c101_7) ∧ w'.cell? ⟨gb102, 8, none⟩ = some (.bool ((rd_T45 l0 x12_1).f3.f5)) ∧ w'.cell? (ad101.add (((ji8)).toNat * 9)) = some (.string ((rd_T45 l0 (ji8)).f0)) ∧ w'.cell? ⟨(ad101.add (((ji8)).toNat * 9)).block, (ad101.add (((ji8)).toNat * 9)).off + 1, none⟩ = some (.int .i64 ((rd_T45 l0 (ji8)).f1)) ∧ w'.cell? ⟨(ad101.add (((ji8)).toNat * 9)).block, (ad101.add (((ji8)).toNat * 9)).off + 2, none⟩ = some (.int .i64 ((rd_T45 l0 (ji8)).f2)) ∧ w'.cell? ⟨(ad101.add (((ji8)).toNat * 9)).block, (ad101.add (((ji8)).toNat * 9)).off + 3, none⟩ = some (.int .i64 ((rd_T45 l0 (ji8)).f3.f0)) ∧ w'.cell? ⟨(ad101.add (((ji8)).toNat * 9)).block, (ad101.add (((ji8)).toNat * 9)).off + 4, none⟩ = some (.int .i64 ((rd_T45 l0 (ji8)).f3.f1)) ∧ w'.cell? ⟨(ad101.add (((ji8)).toNat * 9)).block, (ad101.add (((ji8)).toNat * 9)).off + 5, none⟩ = some (.int .i64 ((rd_T45 l0 (ji8)).f3.f2)) ∧ w'.cell? ⟨(ad101.add (((ji8)).toNat * 9)).block, (ad101.add (((ji8)).toNat * 9)).off + 6, none⟩ = some (.int .i64 ((rd_T45 l0 (ji8)).f3.f3)) ∧ w'.cell? ⟨(ad101.add (((ji8)).toNat * 9)).block, (ad101.add (((ji8)).toNat * 9)).off + 7, none⟩ = some (.slice A104_7 ((rd_T45 l0 (ji8)).f3.f4).length c104_7) ∧ w'.cell? ⟨(ad101.add (((ji8)).toNat * 9)).block, (ad101.add (((ji8)).toNat * 9)).off + 8, none⟩ = some (.bool ((rd_T45 l0 (ji8)).f3.f5))) [] (fun hHeld HT_ HW_ => ?_)
           generalize w16.drew = w17 at HO_3 BK102 HB HR104_7 hx104_0 hx104_1 hx104_2 hx104_3 hx104_4 hx104_5 hx104_6 hx104_7 hx104_8 hHeld ⊢
           refine tA 0 17 HT_ HW_ hHeld ?_; refine oA 1 18 HT_ (fun K hK => ?_)
           refine goes_ Try.func43 (by kernel_rfl) rfl #[.agg #[.string ((rd_T45 l0 x12_1).f0), .int .i64 ((rd_T45 l0 x12_1).f1), .int .i64 ((rd_T45 l0 x12_1).f2), .int .i64 ((rd_T45 l0 x12_1).f3.f0), .int .i64 ((rd_T45 l0 x12_1).f3.f1), .int .i64 ((rd_T45 l0 x12_1).f3.f2), .int .i64 ((rd_T45 l0 x12_1).f3.f3), .slice A101_7 ((rd_T45 l0 x12_1).f3.f4).length c101_7, .bool ((rd_T45 l0 x12_1).f3.f5)]] (by rfl) rfl rfl zee81 ?_
           with_reducible refine (spec_GoodEntry.calls k1 ((rd_T45 l0 x12_1).f0) ((rd_T45 l0 x12_1).f1) ((rd_T45 l0 x12_1).f2) ((rd_T45 l0 x12_1).f3.f0) ((rd_T45 l0 x12_1).f3.f1) ((rd_T45 l0 x12_1).f3.f2) ((rd_T45 l0 x12_1).f3.f3) _ _ ((rd_T45 l0 x12_1).f3.f4) ((rd_T45 l0 x12_1).f3.f5) true _ ?side1 ?side2 A5.out).mono ?_
           (case side1 => exact (cZ (Kd.C_below HR101_7.out HB.out)))
           (case side2 => exact HC101_7.out)
           rintro e w18 ⟨rfl, hb⟩
           refine ⟨_, rfl, ?_⟩
           have _ := aM (Kd.R_below (rZ HO_3.out) hb)
           have _ := bB gb102 hb
           have _ := aM (below_step hbZ hb)
           clear HO_3
           clear BK102
           clear HB
           rename_i HO_3 BK102 HB
           (try clear hb)
           refine hK.out _ _ sZ (fun hHeld => ?_)
           clear hK K
           refine nA 18 ?_; refine pA 2 19 HT_ ?_; refine pA 3 20 HT_ ?_; refine pA 4 21 HT_ ?_; refine pA 5 22 HT_ ?_; refine pA 6 23 HT_ ?_; refine pA 7 24 HT_ ?_; refine pA 8 25 HT_ ?_; refine pA 9 26 HT_ ?_; refine pA 10 27 HT_ ?_; refine tA 11 28 HT_ HW_ hHeld ?_; refine tA 12 29 HT_ HW_ hHeld ?_; refine oA 13 30 HT_ (fun K hK => ?_)
           refine goes_ Try.func65 (by kernel_rfl) rfl #[.agg #[.string ((rd_T45 l0 (ji8)).f0), .int .i64 ((rd_T45 l0 (ji8)).f1), .int .i64 ((rd_T45 l0 (ji8)).f2), .int .i64 ((rd_T45 l0 (ji8)).f3.f0), .int .i64 ((rd_T45 l0 (ji8)).f3.f1), .int .i64 ((rd_T45 l0 (ji8)).f3.f2), .int .i64 ((rd_T45 l0 (ji8)).f3.f3), .slice A104_7 ((rd_T45 l0 (ji8)).f3.f4).length c104_7, .bool ((rd_T45 l0 (ji8)).f3.f5)], .agg #[.string ((rd_T45 l0 x12_1).f0), .int .i64 ((rd_T45 l0 x12_1).f1), .int .i64 ((rd_T45 l0 x12_1).f2), .int .i64 ((rd_T45 l0 x12_1).f3.f0), .int .i64 ((rd_T45 l0 x12_1).f3.f1), .int .i64 ((rd_T45 l0 x12_1).f3.f2), .int .i64 ((rd_T45 l0 x12_1).f3.f3), .slice A101_7 ((rd_T45 l0 x12_1).f3.f4).length c101_7, .bool ((rd_T45 l0 x12_1).f3.f5)]] (by rfl) rfl rfl z8c10 ?_
           with_reducible refine (spec_l5Before.calls ((rd_T45 l0 (ji8)).f0) ((rd_T45 l0 (ji8)).f1) ((rd_T45 l0 (ji8)).f2) ((rd_T45 l0 (ji8)).f3.f0) ((rd_T45 l0 (ji8)).f3.f1) ((rd_T45 l0 (ji8)).f3.f2) ((rd_T45 l0 (ji8)).f3.f3) _ _ ((rd_T45 l0 (ji8)).f3.f4) ((rd_T45 l0 (ji8)).f3.f5) ((rd_T45 l0 x12_1).f0) ((rd_T45 l0 x12_1).f1) ((rd_T45 l0 x12_1).f2) ((rd_T45 l0 x12_1).f3.f0) ((rd_T45 l0 x12_1).f3.f1) ((rd_T45 l0 x12_1).f3.f2) ((rd_T45 l0 x12_1).f3.f3) _ _ ((rd_T45 l0 x12_1).f3.f4) ((rd_T45 l0 x12_1).f3.f5) true _ ?side1 ?side2 ?side3 ?side4 A11.out).mono ?_
           (case side1 => exact (cZ (Kd.C_below HR104_7.out HB.out)))
           (case side2 => exact HC104_7.out)
           (case side3 => exact (cZ (Kd.C_below HR101_7.out HB.out)))
           (case side4 => exact HC101_7.out)
           rintro e w19 ⟨rfl, hb⟩
           refine ⟨_, rfl, ?_⟩
           have _ := aM (Kd.R_below (rZ HO_3.out) hb)
           have _ := bB gb102 hb
           have _ := aM (below_step hbZ hb)
           clear HO_3
           clear BK102
           clear HB
           rename_i HO_3 BK102 HB
           (try clear hb)
           refine hK.out _ _ sZ (fun hHeld => ?_)
           clear hK K
           refine nA 30 ?_; refine pA 14 31 HT_ ?_; refine pA 15 32 HT_ ?_; refine pA 16 33 HT_ ?_
           refine done_ (done_of HT_.out (by kernel_rfl)) ?_
           have hz20 := cellsZ9 BK102.out
           try go_wp2_with (first | ((with_reducible refine gate_builtin (b := .append) (xs := #[.tmp 34, .tmp 37]) rfl ?_); at_builtin; refine Kd.R_append (Kd.int .i64) (w0 := w) w.heap.size rfl (.tmp 34) (.tmp 37) 24 3 (.int .i64 0) 8 rfl Try.underlying24 info3 rfl (by decide) (by omega) u3 x3_1 ((rd_T45 l0 x12_1).f1) [.int .i64 ((rd_T45 l0 x12_1).f1)] (fun _ => True) (fun _ => False) rfl rfl ?aP (fun _ hk => hk.elim) ?aF ?aO ?aB ?aS ?aL ?_; (case aP => exact rfl); (case aB => exact hbZ); (case aF => exact (fun _ _ => trivial)); (case aO => exact (rZ HO_3.out)); (case aS => exact (below_size hbZ)); (case aL => have := LMc13.out; omega); intro v107 w21 ho hb hg hat; rw [← Ny106.out] at ho; have _ := aM (blk_grown (g := gb102) bkZ hg (Kd.R_ne HO_3.out BK102.out (by decide))); have _ := aM hb; have _ := aM ho; clear BK102 HB HO_3; rename_i BK102 HB HO108; clear ho hb hg hat))
           go_roundg k1
           case measure => have := HK1.out; omega
           case rel => exact ⟨(y106), (wrap64 (x12_1 + 1)), z4458, H', ⟨zfb39⟩, ⟨rZ HO108.out⟩, ⟨zcb41⟩⟩
         · replace c12 := Bool.eq_false_iff.mpr c12
           subst c12
           rw [if_neg (show ¬ (false = true) by decide)] at H
           obtain rfl := Option.some.inj H
           have p101 : 0 ≤ (x12_1 : Int) := of_decide_eq_true z1200
           have q101 : x12_1 < (l0.length : Int) := of_decide_eq_true z1200
           obtain ⟨ad101, A101_7, c101_7, e101, hx101_0, hx101_1, hx101_2, hx101_3, hx101_4, hx101_5, hx101_6, hx101_7, hx101_8, hl101_7, hi101_7⟩ := at_T45 HR0.out x12_1 p101 q101
           cases e101
           have TW101_7 := aM hx101_7
           try replace hx101_0 := (HB.out.cell (World.block_lt_of_cell? w _ hx101_0)).trans hx101_0
           replace hx101_1 := (HB.out.cell (World.block_lt_of_cell? w _ hx101_1)).trans hx101_1
           replace hx101_2 := (HB.out.cell (World.block_lt_of_cell? w _ hx101_2)).trans hx101_2
           replace hx101_3 := (HB.out.cell (World.block_lt_of_cell? w _ hx101_3)).trans hx101_3
           replace hx101_4 := (HB.out.cell (World.block_lt_of_cell? w _ hx101_4)).trans hx101_4
           replace hx101_5 := (HB.out.cell (World.block_lt_of_cell? w _ hx101_5)).trans hx101_5
           replace hx101_6 := (HB.out.cell (World.block_lt_of_cell? w _ hx101_6)).trans hx101_6
           replace hx101_7 := (HB.out.cell (World.block_lt_of_cell? w _ hx101_7)).trans hx101_7
           replace hx101_8 := (HB.out.cell (World.block_lt_of_cell? w _ hx101_8)).trans hx101_8
           have HR101_7 := aM hi101_7
           have HC101_7 := aM hl101_7
           clear hi101_7 hl101_7
           replace p101 := eq_true p101
           replace q101 := eq_true q101
           try go_wp2_with (first | ((with_reducible refine gate_dst (N := 5) rfl ?_); refine bX 5 45 #[.string (⟨#[]⟩ : ByteArray), .int .i64 0, .int .i64 0, .int .i64 0, .int .i64 0, .int .i64 0, .int .i64 0, .slice none 0 0, .bool false] ?_; intro gb102 hg w22 hbox hb; have _ := aM (Kd.R_below (rZ HO_3.out) hb); have _ := aM (below_step hbZ hb); have _ := aM hbox; have _ := szZ hg; have _ := szZ hg; clear HO_3 HB; rename_i HO_3 HB BK102 GW102 GE102; clear hb hbox hg; have hz23 := cellsZ9 BK102.out))
           have n0_ : Aside0 (Kd.R (Kd.int .i64) 3 (((((((((w22.setCell ⟨gb102, 0, none⟩ (.string ((rd_T45 l0 x12_1).f0))).setCell ⟨gb102, 1, none⟩ (.int .i64 ((rd_T45 l0 x12_1).f1))).setCell ⟨gb102, 2, none⟩ (.int .i64 ((rd_T45 l0 x12_1).f2))).setCell ⟨gb102, 3, none⟩ (.int .i64 ((rd_T45 l0 x12_1).f3.f0))).setCell ⟨gb102, 4, none⟩ (.int .i64 ((rd_T45 l0 x12_1).f3.f1))).setCell ⟨gb102, 5, none⟩ (.int .i64 ((rd_T45 l0 x12_1).f3.f2))).setCell ⟨gb102, 6, none⟩ (.int .i64 ((rd_T45 l0 x12_1).f3.f3))).setCell ⟨gb102, 7, none⟩ (.slice A101_7 ((rd_T45 l0 x12_1).f3.f4).length c101_7)).setCell ⟨gb102, 8, none⟩ (.bool ((rd_T45 l0 x12_1).f3.f5))) w.heap.size (fun _ => True) u3 x3_1) := ⟨zc07f⟩
           have n1_ : Aside0 ((((((((((w22.setCell ⟨gb102, 0, none⟩ (.string ((rd_T45 l0 x12_1).f0))).setCell ⟨gb102, 1, none⟩ (.int .i64 ((rd_T45 l0 x12_1).f1))).setCell ⟨gb102, 2, none⟩ (.int .i64 ((rd_T45 l0 x12_1).f2))).setCell ⟨gb102, 3, none⟩ (.int .i64 ((rd_T45 l0 x12_1).f3.f0))).setCell ⟨gb102, 4, none⟩ (.int .i64 ((rd_T45 l0 x12_1).f3.f1))).setCell ⟨gb102, 5, none⟩ (.int .i64 ((rd_T45 l0 x12_1).f3.f2))).setCell ⟨gb102, 6, none⟩ (.int .i64 ((rd_T45 l0 x12_1).f3.f3))).setCell ⟨gb102, 7, none⟩ (.slice A101_7 ((rd_T45 l0 x12_1).f3.f4).length c101_7)).setCell ⟨gb102, 8, none⟩ (.bool ((rd_T45 l0 x12_1).f3.f5))).heap[gb102]? = some (.cells #[.string ((rd_T45 l0 x12_1).f0), .int .i64 ((rd_T45 l0 x12_1).f1), .int .i64 ((rd_T45 l0 x12_1).f2), .int .i64 ((rd_T45 l0 x12_1).f3.f0), .int .i64 ((rd_T45 l0 x12_1).f3.f1), .int .i64 ((rd_T45 l0 x12_1).f3.f2), .int .i64 ((rd_T45 l0 x12_1).f3.f3), .slice A101_7 ((rd_T45 l0 x12_1).f3.f4).length c101_7, .bool ((rd_T45 l0 x12_1).f3.f5)] 45 (0, 0))) := ⟨bkZ⟩
           have n2_ : Aside0 (Below w.heap.size w (((((((((w22.setCell ⟨gb102, 0, none⟩ (.string ((rd_T45 l0 x12_1).f0))).setCell ⟨gb102, 1, none⟩ (.int .i64 ((rd_T45 l0 x12_1).f1))).setCell ⟨gb102, 2, none⟩ (.int .i64 ((rd_T45 l0 x12_1).f2))).setCell ⟨gb102, 3, none⟩ (.int .i64 ((rd_T45 l0 x12_1).f3.f0))).setCell ⟨gb102, 4, none⟩ (.int .i64 ((rd_T45 l0 x12_1).f3.f1))).setCell ⟨gb102, 5, none⟩ (.int .i64 ((rd_T45 l0 x12_1).f3.f2))).setCell ⟨gb102, 6, none⟩ (.int .i64 ((rd_T45 l0 x12_1).f3.f3))).setCell ⟨gb102, 7, none⟩ (.slice A101_7 ((rd_T45 l0 x12_1).f3.f4).length c101_7)).setCell ⟨gb102, 8, none⟩ (.bool ((rd_T45 l0 x12_1).f3.f5)))) := ⟨zcb41⟩
           (try clear HO_3); (try clear BK102); (try clear HB)
           generalize (((((((((w22.setCell ⟨gb102, 0, none⟩ (.string ((rd_T45 l0 x12_1).f0))).setCell ⟨gb102, 1, none⟩ (.int .i64 ((rd_T45 l0 x12_1).f1))).setCell ⟨gb102, 2, none⟩ (.int .i64 ((rd_T45 l0 x12_1).f2))).setCell ⟨gb102, 3, none⟩ (.int .i64 ((rd_T45 l0 x12_1).f3.f0))).setCell ⟨gb102, 4, none⟩ (.int .i64 ((rd_T45 l0 x12_1).f3.f1))).setCell ⟨gb102, 5, none⟩ (.int .i64 ((rd_T45 l0 x12_1).f3.f2))).setCell ⟨gb102, 6, none⟩ (.int .i64 ((rd_T45 l0 x12_1).f3.f3))).setCell ⟨gb102, 7, none⟩ (.slice A101_7 ((rd_T45 l0 x12_1).f3.f4).length c101_7)).setCell ⟨gb102, 8, none⟩ (.bool ((rd_T45 l0 x12_1).f3.f5))) = w24 at n0_ n1_ n2_ ⊢
           have HO_3 := n0_
           have BK102 := n1_
           have HB := n2_
           clear n0_ n1_ n2_
           have _ := aM (Kd.R_drew HO_3.out)
           have _ := aM (blk_drew BK102.out)
           have _ := aM (below_drew1 HB.out)
           clear HO_3
           clear BK102
           clear HB
           rename_i HO_3 BK102 HB
           have p104 : 0 ≤ ((ji8) : Int) := of_decide_eq_true z1200
           have q104 : (ji8) < (l0.length : Int) := of_decide_eq_true z1200
           obtain ⟨ad104, A104_7, c104_7, e104, hx104_0, hx104_1, hx104_2, hx104_3, hx104_4, hx104_5, hx104_6, hx104_7, hx104_8, hl104_7, hi104_7⟩ := at_T45 HR0.out (ji8) p104 q104
           have hw104_8 := hx104_8
           have hw104_7 := hx104_7
           have hw104_6 := hx104_6
           have hw104_5 := hx104_5
           have hw104_4 := hx104_4
           have hw104_3 := hx104_3
           have hw104_2 := hx104_2
           have hw104_1 := hx104_1
           have hw104_0 := hx104_0
           obtain rfl : ad101 = ad104 := (by injection e104)
           have TW104_7 := aM hx104_7
           try replace hx104_0 := (HB.out.cell (World.block_lt_of_cell? w _ hx104_0)).trans hx104_0
           replace hx104_1 := (HB.out.cell (World.block_lt_of_cell? w _ hx104_1)).trans hx104_1
           replace hx104_2 := (HB.out.cell (World.block_lt_of_cell? w _ hx104_2)).trans hx104_2
           replace hx104_3 := (HB.out.cell (World.block_lt_of_cell? w _ hx104_3)).trans hx104_3
           replace hx104_4 := (HB.out.cell (World.block_lt_of_cell? w _ hx104_4)).trans hx104_4
           replace hx104_5 := (HB.out.cell (World.block_lt_of_cell? w _ hx104_5)).trans hx104_5
           replace hx104_6 := (HB.out.cell (World.block_lt_of_cell? w _ hx104_6)).trans hx104_6
           replace hx104_7 := (HB.out.cell (World.block_lt_of_cell? w _ hx104_7)).trans hx104_7
           replace hx104_8 := (HB.out.cell (World.block_lt_of_cell? w _ hx104_8)).trans hx104_8
           have HR104_7 := aM hi104_7
           have HC104_7 := aM hl104_7
           clear hi104_7 hl104_7
           replace p104 := eq_true p104
           replace q104 := eq_true q104
           refine sA 17 spec_GoodEntries.tab5 spec_GoodEntries.bits5 (fun w' => w'.cell? ⟨gb102, 0, none⟩ = some (.string ((rd_T45 l0 x12_1).f0)) ∧ w'.cell? ⟨gb102, 1, none⟩ = some (.int .i64 ((rd_T45 l0 x12_1).f1)) ∧ w'.cell? ⟨gb102, 2, none⟩ = some (.int .i64 ((rd_T45 l0 x12_1).f2)) ∧ w'.cell? ⟨gb102, 3, none⟩ = some (.int .i64 ((rd_T45 l0 x12_1).f3.f0)) ∧ w'.cell? ⟨gb102, 4, none⟩ = some (.int .i64 ((rd_T45 l0 x12_1).f3.f1)) ∧ w'.cell? ⟨gb102, 5, none⟩ = some (.int .i64 ((rd_T45 l0 x12_1).f3.f2)) ∧ w'.cell? ⟨gb102, 6, none⟩ = some (.int .i64 ((rd_T45 l0 x12_1).f3.f3)) ∧ w'.cell? ⟨gb102, 7, none⟩ = some (.slice A101_7 ((rd_T45 l0 x12_1).f3.f4).length c101_7) ∧ w'.cell? ⟨gb102, 8, none⟩ = some (.bool ((rd_T45 l0 x12_1).f3.f5)) ∧ w'.cell? (ad101.add (((ji8)).toNat * 9)) = some (.string ((rd_T45 l0 (ji8)).f0)) ∧ w'.cell? ⟨(ad101.add (((ji8)).toNat * 9)).block, (ad101.add (((ji8)).toNat * 9)).off + 1, none⟩ = some (.int .i64 ((rd_T45 l0 (ji8)).f1)) ∧ w'.cell? ⟨(ad101.add (((ji8)).toNat * 9)).block, (ad101.add (((ji8)).toNat * 9)).off + 2, none⟩ = some (.int .i64 ((rd_T45 l0 (ji8)).f2)) ∧ w'.cell? ⟨(ad101.add (((ji8)).toNat * 9)).block, (ad101.add (((ji8)).toNat * 9)).off + 3, none⟩ = some (.int .i64 ((rd_T45 l0 (ji8)).f3.f0)) ∧ w'.cell? ⟨(ad101.add (((ji8)).toNat * 9)).block, (ad101.add (((ji8)).toNat * 9)).off + 4, none⟩ = some (.int .i64 ((rd_T45 l0 (ji8)).f3.f1)) ∧ w'.cell? ⟨(ad101.add (((ji8)).toNat * 9)).block, (ad101.add (((ji8)).toNat * 9)).off + 5, none⟩ = some (.int .i64 ((rd_T45 l0 (ji8)).f3.f2)) ∧ w'.cell? ⟨(ad101.add (((ji8)).toNat * 9)).block, (ad101.add (((ji8)).toNat * 9)).off + 6, none⟩ = some (.int .i64 ((rd_T45 l0 (ji8)).f3.f3)) ∧ w'.cell? ⟨(ad101.add (((ji8)).toNat * 9)).block, (ad101.add (((ji8)).toNat * 9)).off + 7, none⟩ = some (.slice A104_7 ((rd_T45 l0 (ji8)).f3.f4).length c104_7) ∧ w'.cell? ⟨(ad101.add (((ji8)).toNat * 9)).block, (ad101.add (((ji8)).toNat * 9)).off + 8, none⟩ = some (.bool ((rd_T45 l0 (ji8)).f3.f5))) [] (fun hHeld HT_ HW_ => ?_)
           generalize w24.drew = w25 at HO_3 BK102 HB HR104_7 hx104_0 hx104_1 hx104_2 hx104_3 hx104_4 hx104_5 hx104_6 hx104_7 hx104_8 hHeld ⊢
           refine tA 0 17 HT_ HW_ hHeld ?_; refine oA 1 18 HT_ (fun K hK => ?_)
           refine goes_ Try.func43 (by kernel_rfl) rfl #[.agg #[.string ((rd_T45 l0 x12_1).f0), .int .i64 ((rd_T45 l0 x12_1).f1), .int .i64 ((rd_T45 l0 x12_1).f2), .int .i64 ((rd_T45 l0 x12_1).f3.f0), .int .i64 ((rd_T45 l0 x12_1).f3.f1), .int .i64 ((rd_T45 l0 x12_1).f3.f2), .int .i64 ((rd_T45 l0 x12_1).f3.f3), .slice A101_7 ((rd_T45 l0 x12_1).f3.f4).length c101_7, .bool ((rd_T45 l0 x12_1).f3.f5)]] (by rfl) rfl rfl zee81 ?_
           with_reducible refine (spec_GoodEntry.calls k1 ((rd_T45 l0 x12_1).f0) ((rd_T45 l0 x12_1).f1) ((rd_T45 l0 x12_1).f2) ((rd_T45 l0 x12_1).f3.f0) ((rd_T45 l0 x12_1).f3.f1) ((rd_T45 l0 x12_1).f3.f2) ((rd_T45 l0 x12_1).f3.f3) _ _ ((rd_T45 l0 x12_1).f3.f4) ((rd_T45 l0 x12_1).f3.f5) true _ ?side1 ?side2 A5.out).mono ?_
           (case side1 => exact (cZ (Kd.C_below HR101_7.out HB.out)))
           (case side2 => exact HC101_7.out)
           rintro e w26 ⟨rfl, hb⟩
           refine ⟨_, rfl, ?_⟩
           have _ := aM (Kd.R_below (rZ HO_3.out) hb)
           have _ := bB gb102 hb
           have _ := aM (below_step hbZ hb)
           clear HO_3
           clear BK102
           clear HB
           rename_i HO_3 BK102 HB
           (try clear hb)
           refine hK.out _ _ sZ (fun hHeld => ?_)
           clear hK K
           refine nA 18 ?_; refine pA 2 19 HT_ ?_; refine pA 3 20 HT_ ?_; refine pA 4 21 HT_ ?_; refine pA 5 22 HT_ ?_; refine pA 6 23 HT_ ?_; refine pA 7 24 HT_ ?_; refine pA 8 25 HT_ ?_; refine pA 9 26 HT_ ?_; refine pA 10 27 HT_ ?_; refine tA 11 28 HT_ HW_ hHeld ?_; refine tA 12 29 HT_ HW_ hHeld ?_; refine oA 13 30 HT_ (fun K hK => ?_)
           refine goes_ Try.func65 (by kernel_rfl) rfl #[.agg #[.string ((rd_T45 l0 (ji8)).f0), .int .i64 ((rd_T45 l0 (ji8)).f1), .int .i64 ((rd_T45 l0 (ji8)).f2), .int .i64 ((rd_T45 l0 (ji8)).f3.f0), .int .i64 ((rd_T45 l0 (ji8)).f3.f1), .int .i64 ((rd_T45 l0 (ji8)).f3.f2), .int .i64 ((rd_T45 l0 (ji8)).f3.f3), .slice A104_7 ((rd_T45 l0 (ji8)).f3.f4).length c104_7, .bool ((rd_T45 l0 (ji8)).f3.f5)], .agg #[.string ((rd_T45 l0 x12_1).f0), .int .i64 ((rd_T45 l0 x12_1).f1), .int .i64 ((rd_T45 l0 x12_1).f2), .int .i64 ((rd_T45 l0 x12_1).f3.f0), .int .i64 ((rd_T45 l0 x12_1).f3.f1), .int .i64 ((rd_T45 l0 x12_1).f3.f2), .int .i64 ((rd_T45 l0 x12_1).f3.f3), .slice A101_7 ((rd_T45 l0 x12_1).f3.f4).length c101_7, .bool ((rd_T45 l0 x12_1).f3.f5)]] (by rfl) rfl rfl z8c10 ?_
           with_reducible refine (spec_l5Before.calls ((rd_T45 l0 (ji8)).f0) ((rd_T45 l0 (ji8)).f1) ((rd_T45 l0 (ji8)).f2) ((rd_T45 l0 (ji8)).f3.f0) ((rd_T45 l0 (ji8)).f3.f1) ((rd_T45 l0 (ji8)).f3.f2) ((rd_T45 l0 (ji8)).f3.f3) _ _ ((rd_T45 l0 (ji8)).f3.f4) ((rd_T45 l0 (ji8)).f3.f5) ((rd_T45 l0 x12_1).f0) ((rd_T45 l0 x12_1).f1) ((rd_T45 l0 x12_1).f2) ((rd_T45 l0 x12_1).f3.f0) ((rd_T45 l0 x12_1).f3.f1) ((rd_T45 l0 x12_1).f3.f2) ((rd_T45 l0 x12_1).f3.f3) _ _ ((rd_T45 l0 x12_1).f3.f4) ((rd_T45 l0 x12_1).f3.f5) false _ ?side1 ?side2 ?side3 ?side4 A11.out).mono ?_
           (case side1 => exact (cZ (Kd.C_below HR104_7.out HB.out)))
           (case side2 => exact HC104_7.out)
           (case side3 => exact (cZ (Kd.C_below HR101_7.out HB.out)))
           (case side4 => exact HC101_7.out)
           rintro e w27 ⟨rfl, hb⟩
           refine ⟨_, rfl, ?_⟩
           have _ := aM (Kd.R_below (rZ HO_3.out) hb)
           have _ := bB gb102 hb
           have _ := aM (below_step hbZ hb)
           clear HO_3
           clear BK102
           clear HB
           rename_i HO_3 BK102 HB
           (try clear hb)
           refine hK.out _ _ sZ (fun hHeld => ?_)
           clear hK K
           refine nA 30 ?_; refine pA 14 31 HT_ ?_; refine pA 15 32 HT_ ?_; refine pA 16 33 HT_ ?_
           refine done_ (done_of HT_.out (by kernel_rfl)) ?_
           try go_wp2
           go_ret
           exact ⟨by first | rfl | (simp [errW_none, errW_some] <;> rfl) | (simp only [← hji8]; first | rfl | (simp [errW_none, errW_some] <;> rfl)) | (simp [*, errW_none, errW_some] <;> rfl), zcb41⟩
       · rw [if_neg c7] at H
         have c7b0 := nL c7
         clear c7
         obtain ⟨LMc28, H⟩ := sM H
         obtain ⟨y109, hy109⟩ : ∃ y_ : List Int, y_ = (x3_1 ++ [(rd_T45 l0 x12_1).f1]) := ⟨_, rfl⟩
         first | (replace H := bindS H; rw [← hy109] at H; try dsimp only at H) | rw [← hy109] at H
         have Ny109 := aM hy109
         clear hy109
         have H' := aM H
         clear H
         have p101 : 0 ≤ (x12_1 : Int) := of_decide_eq_true z1200
         have q101 : x12_1 < (l0.length : Int) := of_decide_eq_true z1200
         obtain ⟨ad101, A101_7, c101_7, e101, hx101_0, hx101_1, hx101_2, hx101_3, hx101_4, hx101_5, hx101_6, hx101_7, hx101_8, hl101_7, hi101_7⟩ := at_T45 HR0.out x12_1 p101 q101
         cases e101
         have TW101_7 := aM hx101_7
         try replace hx101_0 := (HB.out.cell (World.block_lt_of_cell? w _ hx101_0)).trans hx101_0
         replace hx101_1 := (HB.out.cell (World.block_lt_of_cell? w _ hx101_1)).trans hx101_1
         replace hx101_2 := (HB.out.cell (World.block_lt_of_cell? w _ hx101_2)).trans hx101_2
         replace hx101_3 := (HB.out.cell (World.block_lt_of_cell? w _ hx101_3)).trans hx101_3
         replace hx101_4 := (HB.out.cell (World.block_lt_of_cell? w _ hx101_4)).trans hx101_4
         replace hx101_5 := (HB.out.cell (World.block_lt_of_cell? w _ hx101_5)).trans hx101_5
         replace hx101_6 := (HB.out.cell (World.block_lt_of_cell? w _ hx101_6)).trans hx101_6
         replace hx101_7 := (HB.out.cell (World.block_lt_of_cell? w _ hx101_7)).trans hx101_7
         replace hx101_8 := (HB.out.cell (World.block_lt_of_cell? w _ hx101_8)).trans hx101_8
         have HR101_7 := aM hi101_7
         have HC101_7 := aM hl101_7
         clear hi101_7 hl101_7
         replace p101 := eq_true p101
         replace q101 := eq_true q101
         try go_wp2_with (first | ((with_reducible refine gate_dst (N := 5) rfl ?_); refine bX 5 45 #[.string (⟨#[]⟩ : ByteArray), .int .i64 0, .int .i64 0, .int .i64 0, .int .i64 0, .int .i64 0, .int .i64 0, .slice none 0 0, .bool false] ?_; intro gb102 hg w29 hbox hb; have _ := aM (Kd.R_below (rZ HO_3.out) hb); have _ := aM (below_step hbZ hb); have _ := aM hbox; have _ := szZ hg; have _ := szZ hg; clear HO_3 HB; rename_i HO_3 HB BK102 GW102 GE102; clear hb hbox hg; have hz30 := cellsZ9 BK102.out))
         have n0_ : Aside0 (Kd.R (Kd.int .i64) 3 (((((((((w29.setCell ⟨gb102, 0, none⟩ (.string ((rd_T45 l0 x12_1).f0))).setCell ⟨gb102, 1, none⟩ (.int .i64 ((rd_T45 l0 x12_1).f1))).setCell ⟨gb102, 2, none⟩ (.int .i64 ((rd_T45 l0 x12_1).f2))).setCell ⟨gb102, 3, none⟩ (.int .i64 ((rd_T45 l0 x12_1).f3.f0))).setCell ⟨gb102, 4, none⟩ (.int .i64 ((rd_T45 l0 x12_1).f3.f1))).setCell ⟨gb102, 5, none⟩ (.int .i64 ((rd_T45 l0 x12_1).f3.f2))).setCell ⟨gb102, 6, none⟩ (.int .i64 ((rd_T45 l0 x12_1).f3.f3))).setCell ⟨gb102, 7, none⟩ (.slice A101_7 ((rd_T45 l0 x12_1).f3.f4).length c101_7)).setCell ⟨gb102, 8, none⟩ (.bool ((rd_T45 l0 x12_1).f3.f5))) w.heap.size (fun _ => True) u3 x3_1) := ⟨zc07f⟩
         have n1_ : Aside0 ((((((((((w29.setCell ⟨gb102, 0, none⟩ (.string ((rd_T45 l0 x12_1).f0))).setCell ⟨gb102, 1, none⟩ (.int .i64 ((rd_T45 l0 x12_1).f1))).setCell ⟨gb102, 2, none⟩ (.int .i64 ((rd_T45 l0 x12_1).f2))).setCell ⟨gb102, 3, none⟩ (.int .i64 ((rd_T45 l0 x12_1).f3.f0))).setCell ⟨gb102, 4, none⟩ (.int .i64 ((rd_T45 l0 x12_1).f3.f1))).setCell ⟨gb102, 5, none⟩ (.int .i64 ((rd_T45 l0 x12_1).f3.f2))).setCell ⟨gb102, 6, none⟩ (.int .i64 ((rd_T45 l0 x12_1).f3.f3))).setCell ⟨gb102, 7, none⟩ (.slice A101_7 ((rd_T45 l0 x12_1).f3.f4).length c101_7)).setCell ⟨gb102, 8, none⟩ (.bool ((rd_T45 l0 x12_1).f3.f5))).heap[gb102]? = some (.cells #[.string ((rd_T45 l0 x12_1).f0), .int .i64 ((rd_T45 l0 x12_1).f1), .int .i64 ((rd_T45 l0 x12_1).f2), .int .i64 ((rd_T45 l0 x12_1).f3.f0), .int .i64 ((rd_T45 l0 x12_1).f3.f1), .int .i64 ((rd_T45 l0 x12_1).f3.f2), .int .i64 ((rd_T45 l0 x12_1).f3.f3), .slice A101_7 ((rd_T45 l0 x12_1).f3.f4).length c101_7, .bool ((rd_T45 l0 x12_1).f3.f5)] 45 (0, 0))) := ⟨bkZ⟩
         have n2_ : Aside0 (Below w.heap.size w (((((((((w29.setCell ⟨gb102, 0, none⟩ (.string ((rd_T45 l0 x12_1).f0))).setCell ⟨gb102, 1, none⟩ (.int .i64 ((rd_T45 l0 x12_1).f1))).setCell ⟨gb102, 2, none⟩ (.int .i64 ((rd_T45 l0 x12_1).f2))).setCell ⟨gb102, 3, none⟩ (.int .i64 ((rd_T45 l0 x12_1).f3.f0))).setCell ⟨gb102, 4, none⟩ (.int .i64 ((rd_T45 l0 x12_1).f3.f1))).setCell ⟨gb102, 5, none⟩ (.int .i64 ((rd_T45 l0 x12_1).f3.f2))).setCell ⟨gb102, 6, none⟩ (.int .i64 ((rd_T45 l0 x12_1).f3.f3))).setCell ⟨gb102, 7, none⟩ (.slice A101_7 ((rd_T45 l0 x12_1).f3.f4).length c101_7)).setCell ⟨gb102, 8, none⟩ (.bool ((rd_T45 l0 x12_1).f3.f5)))) := ⟨zcb41⟩
         (try clear HO_3); (try clear BK102); (try clear HB)
         generalize (((((((((w29.setCell ⟨gb102, 0, none⟩ (.string ((rd_T45 l0 x12_1).f0))).setCell ⟨gb102, 1, none⟩ (.int .i64 ((rd_T45 l0 x12_1).f1))).setCell ⟨gb102, 2, none⟩ (.int .i64 ((rd_T45 l0 x12_1).f2))).setCell ⟨gb102, 3, none⟩ (.int .i64 ((rd_T45 l0 x12_1).f3.f0))).setCell ⟨gb102, 4, none⟩ (.int .i64 ((rd_T45 l0 x12_1).f3.f1))).setCell ⟨gb102, 5, none⟩ (.int .i64 ((rd_T45 l0 x12_1).f3.f2))).setCell ⟨gb102, 6, none⟩ (.int .i64 ((rd_T45 l0 x12_1).f3.f3))).setCell ⟨gb102, 7, none⟩ (.slice A101_7 ((rd_T45 l0 x12_1).f3.f4).length c101_7)).setCell ⟨gb102, 8, none⟩ (.bool ((rd_T45 l0 x12_1).f3.f5))) = w31 at n0_ n1_ n2_ ⊢
         have HO_3 := n0_
         have BK102 := n1_
         have HB := n2_
         clear n0_ n1_ n2_
         have _ := aM (Kd.R_drew HO_3.out)
         have _ := aM (blk_drew BK102.out)
         have _ := aM (below_drew1 HB.out)
         clear HO_3
         clear BK102
         clear HB
         rename_i HO_3 BK102 HB
         refine sA 17 spec_GoodEntries.tab5 spec_GoodEntries.bits5 (fun w' => w'.cell? ⟨gb102, 0, none⟩ = some (.string ((rd_T45 l0 x12_1).f0)) ∧ w'.cell? ⟨gb102, 1, none⟩ = some (.int .i64 ((rd_T45 l0 x12_1).f1)) ∧ w'.cell? ⟨gb102, 2, none⟩ = some (.int .i64 ((rd_T45 l0 x12_1).f2)) ∧ w'.cell? ⟨gb102, 3, none⟩ = some (.int .i64 ((rd_T45 l0 x12_1).f3.f0)) ∧ w'.cell? ⟨gb102, 4, none⟩ = some (.int .i64 ((rd_T45 l0 x12_1).f3.f1)) ∧ w'.cell? ⟨gb102, 5, none⟩ = some (.int .i64 ((rd_T45 l0 x12_1).f3.f2)) ∧ w'.cell? ⟨gb102, 6, none⟩ = some (.int .i64 ((rd_T45 l0 x12_1).f3.f3)) ∧ w'.cell? ⟨gb102, 7, none⟩ = some (.slice A101_7 ((rd_T45 l0 x12_1).f3.f4).length c101_7) ∧ w'.cell? ⟨gb102, 8, none⟩ = some (.bool ((rd_T45 l0 x12_1).f3.f5))) [] (fun hHeld HT_ HW_ => ?_)
         generalize w31.drew = w32 at HO_3 BK102 HB hHeld ⊢
         refine tA 0 17 HT_ HW_ hHeld ?_; refine oA 1 18 HT_ (fun K hK => ?_)
         refine goes_ Try.func43 (by kernel_rfl) rfl #[.agg #[.string ((rd_T45 l0 x12_1).f0), .int .i64 ((rd_T45 l0 x12_1).f1), .int .i64 ((rd_T45 l0 x12_1).f2), .int .i64 ((rd_T45 l0 x12_1).f3.f0), .int .i64 ((rd_T45 l0 x12_1).f3.f1), .int .i64 ((rd_T45 l0 x12_1).f3.f2), .int .i64 ((rd_T45 l0 x12_1).f3.f3), .slice A101_7 ((rd_T45 l0 x12_1).f3.f4).length c101_7, .bool ((rd_T45 l0 x12_1).f3.f5)]] (by rfl) rfl rfl zee81 ?_
         with_reducible refine (spec_GoodEntry.calls k1 ((rd_T45 l0 x12_1).f0) ((rd_T45 l0 x12_1).f1) ((rd_T45 l0 x12_1).f2) ((rd_T45 l0 x12_1).f3.f0) ((rd_T45 l0 x12_1).f3.f1) ((rd_T45 l0 x12_1).f3.f2) ((rd_T45 l0 x12_1).f3.f3) _ _ ((rd_T45 l0 x12_1).f3.f4) ((rd_T45 l0 x12_1).f3.f5) true _ ?side1 ?side2 A5.out).mono ?_
         (case side1 => exact (cZ (Kd.C_below HR101_7.out HB.out)))
         (case side2 => exact HC101_7.out)
         rintro e w33 ⟨rfl, hb⟩
         refine ⟨_, rfl, ?_⟩
         have _ := aM (Kd.R_below (rZ HO_3.out) hb)
         have _ := bB gb102 hb
         have _ := aM (below_step hbZ hb)
         clear HO_3
         clear BK102
         clear HB
         rename_i HO_3 BK102 HB
         (try clear hb)
         refine hK.out _ _ sZ (fun hHeld => ?_)
         clear hK K
         refine nA 18 ?_; refine pA 2 19 HT_ ?_; refine pA 3 20 HT_ ?_; refine pA 4 21 HT_ ?_; refine pA 5 22 HT_ ?_; refine pA 6 23 HT_ ?_; refine uA 7 24 HT_ ?_; refine uA 8 25 HT_ ?_; refine uA 9 26 HT_ ?_; refine uA 10 27 HT_ ?_; refine uA 11 28 HT_ ?_; refine uA 12 29 HT_ ?_; refine uA 13 30 HT_ ?_; refine uA 14 31 HT_ ?_; refine pA 15 32 HT_ ?_; refine pA 16 33 HT_ ?_
         refine done_ (done_of HT_.out (by kernel_rfl)) ?_
         have hz34 := cellsZ9 BK102.out
         try go_wp2_with (first | ((with_reducible refine gate_builtin (b := .append) (xs := #[.tmp 34, .tmp 37]) rfl ?_); at_builtin; refine Kd.R_append (Kd.int .i64) (w0 := w) w.heap.size rfl (.tmp 34) (.tmp 37) 24 3 (.int .i64 0) 8 rfl Try.underlying24 info3 rfl (by decide) (by omega) u3 x3_1 ((rd_T45 l0 x12_1).f1) [.int .i64 ((rd_T45 l0 x12_1).f1)] (fun _ => True) (fun _ => False) rfl rfl ?aP (fun _ hk => hk.elim) ?aF ?aO ?aB ?aS ?aL ?_; (case aP => exact rfl); (case aB => exact hbZ); (case aF => exact (fun _ _ => trivial)); (case aO => exact (rZ HO_3.out)); (case aS => exact (below_size hbZ)); (case aL => have := LMc28.out; omega); intro v110 w35 ho hb hg hat; rw [← Ny109.out] at ho; have _ := aM (blk_grown (g := gb102) bkZ hg (Kd.R_ne HO_3.out BK102.out (by decide))); have _ := aM hb; have _ := aM ho; clear BK102 HB HO_3; rename_i BK102 HB HO111; clear ho hb hg hat))
         go_roundg k1
         case measure => have := HK1.out; omega
         case rel => exact ⟨(y109), (wrap64 (x12_1 + 1)), z4458, H', ⟨zfb39⟩, ⟨rZ HO111.out⟩, ⟨zcb41⟩⟩
     · replace c6 := Bool.eq_false_iff.mpr c6
       subst c6
       rw [if_neg (show ¬ (false = true) by decide)] at H
       obtain rfl := Option.some.inj H
       have p101 : 0 ≤ (x12_1 : Int) := of_decide_eq_true z1200
       have q101 : x12_1 < (l0.length : Int) := of_decide_eq_true z1200
       obtain ⟨ad101, A101_7, c101_7, e101, hx101_0, hx101_1, hx101_2, hx101_3, hx101_4, hx101_5, hx101_6, hx101_7, hx101_8, hl101_7, hi101_7⟩ := at_T45 HR0.out x12_1 p101 q101
       cases e101
       have TW101_7 := aM hx101_7
       try replace hx101_0 := (HB.out.cell (World.block_lt_of_cell? w _ hx101_0)).trans hx101_0
       replace hx101_1 := (HB.out.cell (World.block_lt_of_cell? w _ hx101_1)).trans hx101_1
       replace hx101_2 := (HB.out.cell (World.block_lt_of_cell? w _ hx101_2)).trans hx101_2
       replace hx101_3 := (HB.out.cell (World.block_lt_of_cell? w _ hx101_3)).trans hx101_3
       replace hx101_4 := (HB.out.cell (World.block_lt_of_cell? w _ hx101_4)).trans hx101_4
       replace hx101_5 := (HB.out.cell (World.block_lt_of_cell? w _ hx101_5)).trans hx101_5
       replace hx101_6 := (HB.out.cell (World.block_lt_of_cell? w _ hx101_6)).trans hx101_6
       replace hx101_7 := (HB.out.cell (World.block_lt_of_cell? w _ hx101_7)).trans hx101_7
       replace hx101_8 := (HB.out.cell (World.block_lt_of_cell? w _ hx101_8)).trans hx101_8
       have HR101_7 := aM hi101_7
       have HC101_7 := aM hl101_7
       clear hi101_7 hl101_7
       replace p101 := eq_true p101
       replace q101 := eq_true q101
       try go_wp2_with (first | ((with_reducible refine gate_dst (N := 5) rfl ?_); refine bX 5 45 #[.string (⟨#[]⟩ : ByteArray), .int .i64 0, .int .i64 0, .int .i64 0, .int .i64 0, .int .i64 0, .int .i64 0, .slice none 0 0, .bool false] ?_; intro gb102 hg w36 hbox hb; have _ := aM (Kd.R_below (rZ HO_3.out) hb); have _ := aM (below_step hbZ hb); have _ := aM hbox; have _ := szZ hg; have _ := szZ hg; clear HO_3 HB; rename_i HO_3 HB BK102 GW102 GE102; clear hb hbox hg; have hz37 := cellsZ9 BK102.out))
       have n0_ : Aside0 (Kd.R (Kd.int .i64) 3 (((((((((w36.setCell ⟨gb102, 0, none⟩ (.string ((rd_T45 l0 x12_1).f0))).setCell ⟨gb102, 1, none⟩ (.int .i64 ((rd_T45 l0 x12_1).f1))).setCell ⟨gb102, 2, none⟩ (.int .i64 ((rd_T45 l0 x12_1).f2))).setCell ⟨gb102, 3, none⟩ (.int .i64 ((rd_T45 l0 x12_1).f3.f0))).setCell ⟨gb102, 4, none⟩ (.int .i64 ((rd_T45 l0 x12_1).f3.f1))).setCell ⟨gb102, 5, none⟩ (.int .i64 ((rd_T45 l0 x12_1).f3.f2))).setCell ⟨gb102, 6, none⟩ (.int .i64 ((rd_T45 l0 x12_1).f3.f3))).setCell ⟨gb102, 7, none⟩ (.slice A101_7 ((rd_T45 l0 x12_1).f3.f4).length c101_7)).setCell ⟨gb102, 8, none⟩ (.bool ((rd_T45 l0 x12_1).f3.f5))) w.heap.size (fun _ => True) u3 x3_1) := ⟨zc07f⟩
       have n1_ : Aside0 ((((((((((w36.setCell ⟨gb102, 0, none⟩ (.string ((rd_T45 l0 x12_1).f0))).setCell ⟨gb102, 1, none⟩ (.int .i64 ((rd_T45 l0 x12_1).f1))).setCell ⟨gb102, 2, none⟩ (.int .i64 ((rd_T45 l0 x12_1).f2))).setCell ⟨gb102, 3, none⟩ (.int .i64 ((rd_T45 l0 x12_1).f3.f0))).setCell ⟨gb102, 4, none⟩ (.int .i64 ((rd_T45 l0 x12_1).f3.f1))).setCell ⟨gb102, 5, none⟩ (.int .i64 ((rd_T45 l0 x12_1).f3.f2))).setCell ⟨gb102, 6, none⟩ (.int .i64 ((rd_T45 l0 x12_1).f3.f3))).setCell ⟨gb102, 7, none⟩ (.slice A101_7 ((rd_T45 l0 x12_1).f3.f4).length c101_7)).setCell ⟨gb102, 8, none⟩ (.bool ((rd_T45 l0 x12_1).f3.f5))).heap[gb102]? = some (.cells #[.string ((rd_T45 l0 x12_1).f0), .int .i64 ((rd_T45 l0 x12_1).f1), .int .i64 ((rd_T45 l0 x12_1).f2), .int .i64 ((rd_T45 l0 x12_1).f3.f0), .int .i64 ((rd_T45 l0 x12_1).f3.f1), .int .i64 ((rd_T45 l0 x12_1).f3.f2), .int .i64 ((rd_T45 l0 x12_1).f3.f3), .slice A101_7 ((rd_T45 l0 x12_1).f3.f4).length c101_7, .bool ((rd_T45 l0 x12_1).f3.f5)] 45 (0, 0))) := ⟨bkZ⟩
       have n2_ : Aside0 (Below w.heap.size w (((((((((w36.setCell ⟨gb102, 0, none⟩ (.string ((rd_T45 l0 x12_1).f0))).setCell ⟨gb102, 1, none⟩ (.int .i64 ((rd_T45 l0 x12_1).f1))).setCell ⟨gb102, 2, none⟩ (.int .i64 ((rd_T45 l0 x12_1).f2))).setCell ⟨gb102, 3, none⟩ (.int .i64 ((rd_T45 l0 x12_1).f3.f0))).setCell ⟨gb102, 4, none⟩ (.int .i64 ((rd_T45 l0 x12_1).f3.f1))).setCell ⟨gb102, 5, none⟩ (.int .i64 ((rd_T45 l0 x12_1).f3.f2))).setCell ⟨gb102, 6, none⟩ (.int .i64 ((rd_T45 l0 x12_1).f3.f3))).setCell ⟨gb102, 7, none⟩ (.slice A101_7 ((rd_T45 l0 x12_1).f3.f4).length c101_7)).setCell ⟨gb102, 8, none⟩ (.bool ((rd_T45 l0 x12_1).f3.f5)))) := ⟨zcb41⟩
       (try clear HO_3); (try clear BK102); (try clear HB)
       generalize (((((((((w36.setCell ⟨gb102, 0, none⟩ (.string ((rd_T45 l0 x12_1).f0))).setCell ⟨gb102, 1, none⟩ (.int .i64 ((rd_T45 l0 x12_1).f1))).setCell ⟨gb102, 2, none⟩ (.int .i64 ((rd_T45 l0 x12_1).f2))).setCell ⟨gb102, 3, none⟩ (.int .i64 ((rd_T45 l0 x12_1).f3.f0))).setCell ⟨gb102, 4, none⟩ (.int .i64 ((rd_T45 l0 x12_1).f3.f1))).setCell ⟨gb102, 5, none⟩ (.int .i64 ((rd_T45 l0 x12_1).f3.f2))).setCell ⟨gb102, 6, none⟩ (.int .i64 ((rd_T45 l0 x12_1).f3.f3))).setCell ⟨gb102, 7, none⟩ (.slice A101_7 ((rd_T45 l0 x12_1).f3.f4).length c101_7)).setCell ⟨gb102, 8, none⟩ (.bool ((rd_T45 l0 x12_1).f3.f5))) = w38 at n0_ n1_ n2_ ⊢
       have HO_3 := n0_
       have BK102 := n1_
       have HB := n2_
       clear n0_ n1_ n2_
       have _ := aM (Kd.R_drew HO_3.out)
       have _ := aM (blk_drew BK102.out)
       have _ := aM (below_drew1 HB.out)
       clear HO_3
       clear BK102
       clear HB
       rename_i HO_3 BK102 HB
       refine sA 17 spec_GoodEntries.tab5 spec_GoodEntries.bits5 (fun w' => w'.cell? ⟨gb102, 0, none⟩ = some (.string ((rd_T45 l0 x12_1).f0)) ∧ w'.cell? ⟨gb102, 1, none⟩ = some (.int .i64 ((rd_T45 l0 x12_1).f1)) ∧ w'.cell? ⟨gb102, 2, none⟩ = some (.int .i64 ((rd_T45 l0 x12_1).f2)) ∧ w'.cell? ⟨gb102, 3, none⟩ = some (.int .i64 ((rd_T45 l0 x12_1).f3.f0)) ∧ w'.cell? ⟨gb102, 4, none⟩ = some (.int .i64 ((rd_T45 l0 x12_1).f3.f1)) ∧ w'.cell? ⟨gb102, 5, none⟩ = some (.int .i64 ((rd_T45 l0 x12_1).f3.f2)) ∧ w'.cell? ⟨gb102, 6, none⟩ = some (.int .i64 ((rd_T45 l0 x12_1).f3.f3)) ∧ w'.cell? ⟨gb102, 7, none⟩ = some (.slice A101_7 ((rd_T45 l0 x12_1).f3.f4).length c101_7) ∧ w'.cell? ⟨gb102, 8, none⟩ = some (.bool ((rd_T45 l0 x12_1).f3.f5))) [] (fun hHeld HT_ HW_ => ?_)
       generalize w38.drew = w39 at HO_3 BK102 HB hHeld ⊢
       refine tA 0 17 HT_ HW_ hHeld ?_; refine oA 1 18 HT_ (fun K hK => ?_)
       refine goes_ Try.func43 (by kernel_rfl) rfl #[.agg #[.string ((rd_T45 l0 x12_1).f0), .int .i64 ((rd_T45 l0 x12_1).f1), .int .i64 ((rd_T45 l0 x12_1).f2), .int .i64 ((rd_T45 l0 x12_1).f3.f0), .int .i64 ((rd_T45 l0 x12_1).f3.f1), .int .i64 ((rd_T45 l0 x12_1).f3.f2), .int .i64 ((rd_T45 l0 x12_1).f3.f3), .slice A101_7 ((rd_T45 l0 x12_1).f3.f4).length c101_7, .bool ((rd_T45 l0 x12_1).f3.f5)]] (by rfl) rfl rfl zee81 ?_
       with_reducible refine (spec_GoodEntry.calls k1 ((rd_T45 l0 x12_1).f0) ((rd_T45 l0 x12_1).f1) ((rd_T45 l0 x12_1).f2) ((rd_T45 l0 x12_1).f3.f0) ((rd_T45 l0 x12_1).f3.f1) ((rd_T45 l0 x12_1).f3.f2) ((rd_T45 l0 x12_1).f3.f3) _ _ ((rd_T45 l0 x12_1).f3.f4) ((rd_T45 l0 x12_1).f3.f5) false _ ?side1 ?side2 A5.out).mono ?_
       (case side1 => exact (cZ (Kd.C_below HR101_7.out HB.out)))
       (case side2 => exact HC101_7.out)
       rintro e w40 ⟨rfl, hb⟩
       refine ⟨_, rfl, ?_⟩
       have _ := aM (Kd.R_below (rZ HO_3.out) hb)
       have _ := bB gb102 hb
       have _ := aM (below_step hbZ hb)
       clear HO_3
       clear BK102
       clear HB
       rename_i HO_3 BK102 HB
       (try clear hb)
       refine hK.out _ _ sZ (fun hHeld => ?_)
       clear hK K
       refine nA 18 ?_; refine pA 2 19 HT_ ?_; refine pA 3 20 HT_ ?_; refine uA 4 21 HT_ ?_; refine uA 5 22 HT_ ?_; refine uA 6 23 HT_ ?_; refine uA 7 24 HT_ ?_; refine uA 8 25 HT_ ?_; refine uA 9 26 HT_ ?_; refine uA 10 27 HT_ ?_; refine uA 11 28 HT_ ?_; refine uA 12 29 HT_ ?_; refine uA 13 30 HT_ ?_; refine uA 14 31 HT_ ?_; refine uA 15 32 HT_ ?_; refine pA 16 33 HT_ ?_
       refine done_ (done_of HT_.out (by kernel_rfl)) ?_
       try go_wp2
       go_ret
       exact ⟨z674d, zcb41⟩
   · rw [if_neg c2] at H
     have c2b0 := nL c2
     clear c2
     have H' := aM H
     clear H
     obtain ⟨Ao41, co41, eo41⟩ := Kd.R_slice HO_3.out
     subst eo41
     go_wp2
     go_loopg [42] k1 (fun kq v42 w' => ∃ (x42_2 : Int), v42 = .int .i64 x42_2 ∧ Aside0 (spec_GoodEntries.l1 kq x3_1 x3_1 (x3_1.length : Int) x42_2 = some r) ∧ Aside0 (kq ≤ k1) ∧ Aside0 (Kd.R (Kd.int .i64) 3 w' w.heap.size (fun _ => True) (.slice Ao41 x3_1.length co41) x3_1) ∧ Aside0 (Kd.R (Kd.int .i64) 3 w' w.heap.size (fun _ => True) (.slice Ao41 x3_1.length co41) x3_1) ∧ Aside0 (Below w.heap.size w w'))
     case atStart => exact ⟨(0), z4458, H', ⟨Nat.le_refl _⟩, ⟨rZ HO_3.out⟩, ⟨rZ HO_3.out⟩, ⟨z5acd⟩⟩
     case round =>
      clear H'
      (try clear c2b0)
      obtain ⟨x42_2, rfl, HA, HK2, HO_3, HO_40, HB⟩ := hrel
      cases gk with
      | zero => exact absurd HA.out (by simp [spec_GoodEntries.l1])
      | succ k2 =>
       have H := HA.out
       clear HA
       simp only [spec_GoodEntries.l1] at H
       by_cases c42 : x42_2 < (x3_1.length : Int)
       · rw [if_pos c42] at H
         have c42b0 := dL c42
         clear c42
         obtain ⟨c43b0, H⟩ := sE H
         obtain ⟨c44b0, H⟩ := sL H
         have c45b0 := eq_true (of_decide_eq_true z1200 : 0 ≤ x42_2)
         replace H := ifS H; obtain ⟨c46, H⟩ := H
         have c46b0 := eq_true c46
         have c46b1 : decide (x42_2 ≤ (x3_1.length : Int)) = true := decide_eq_true c46
         clear c46
         obtain ⟨y113, hy113⟩ : ∃ y_ : List Int, y_ = (x3_1.take (x42_2 : Int).toNat) := ⟨_, rfl⟩
         first | (replace H := bindS H; rw [← hy113] at H; try dsimp only at H) | rw [← hy113] at H
         have Ny113 := aM hy113
         clear hy113
         have H' := aM H
         clear H
         have p112 : 0 ≤ (x42_2 : Int) := of_decide_eq_true z1200
         have q112 : x42_2 < (x3_1.length : Int) := of_decide_eq_true z1200
         obtain ⟨ad112, e112, hx112_0⟩ := Kd.at_int (Kd.R_reads' HO_40.out).2.2 x42_2 p112 q112
         cases e112
         replace p112 := eq_true p112
         replace q112 := eq_true q112
         have q47 : (x42_2 : Int) ≤ ((x3_1.length : Int) : Int) := of_decide_eq_true z1200
         obtain ⟨i047, hi047, _, hsz47, _⟩ := info_parts info3
         have hroom47 : x3_1.length ≤ co41 := (Kd.R_reads' HO_3.out).2.1
         have hC47 : Kd.C (Kd.int .i64) _ (some ad112) x3_1.length x3_1 := (Kd.R_reads' HO_3.out).2.2
         have hcut47 := cut_to (P := Try.prog) 24 3 .i64 Try.underlying24 hi047 (some ad112) x3_1.length co41 x42_2 (of_decide_eq_true z1200) q47 hroom47
         have hr47 := Kd.C_take (m := (x42_2 : Int).toNat) hC47 (by omega)
         have hy47 : y113.length = (x42_2 : Int).toNat := (by rw [Ny113.out, List.length_take]; omega)
         rw [← Ny113.out] at hr47
         rw [← hy47] at hcut47
         have HR116 := aM hr47
         have HC116 := aM (show y113.length ≤ co41 from by omega)
         clear hr47 hC47 hroom47 hi047 hsz47
         have KY47 := aM hy47
         clear hy47
         have KL47 := aM (show (x42_2 : Int).toNat ≤ x3_1.length from by omega)
         replace q47 := eq_true q47
         go_wp2
         go_loopg [51] k2 (fun kq v51 w' => ∃ (x51_3 : Int), v51 = .int .i64 x51_3 ∧ Aside0 (spec_GoodEntries.l2 kq x3_1 (rd x3_1 x42_2) x3_1 (x3_1.length : Int) x42_2 y113 (y113.length : Int) x51_3 = some r) ∧ Aside0 (kq ≤ k2) ∧ Aside0 (Kd.R (Kd.int .i64) 3 w' w.heap.size (fun _ => True) (.slice (some ad112) x3_1.length co41) x3_1) ∧ Aside0 (Kd.R (Kd.int .i64) 3 w' w.heap.size (fun _ => True) (.slice (some ad112) x3_1.length co41) x3_1) ∧ Aside0 (Kd.C (Kd.int .i64) w' (some ad112) y113.length y113) ∧ Aside0 (Below w.heap.size w w'))
         case atStart => exact ⟨(0), z4458, H', ⟨Nat.le_refl _⟩, ⟨rZ HO_3.out⟩, ⟨rZ HO_40.out⟩, ⟨by repeat (first | (with_reducible exact HR116.out) | (with_reducible refine Kd.C_alloc ?_ _) | (with_reducible refine Kd.C_drewN ?_ _) | (with_reducible refine Kd.C_drew ?_) | exact HR116.out)⟩, ⟨z5acd⟩⟩
         case round =>
          clear H'
          (try clear c42b0); (try clear c43b0); (try clear c44b0); (try clear c45b0); (try clear c46b0); (try clear c46b1); (try clear q47); (try clear hx112_0); (try clear p112); (try clear q112)
          obtain ⟨x51_3, rfl, HA, HK3, HO_3, HO_40, HR116, HB⟩ := hrel
          cases gk with
          | zero => exact absurd HA.out (by simp [spec_GoodEntries.l2])
          | succ k3 =>
           have H := HA.out
           clear HA
           simp only [spec_GoodEntries.l2] at H
           by_cases c48 : x51_3 < (y113.length : Int)
           · rw [if_pos c48] at H
             have c48b0 := dL c48
             clear c48
             obtain ⟨c49b0, H⟩ := sE H
             obtain ⟨c50b0, H⟩ := sL H
             by_cases c51 : (rd y113 x51_3) = (rd x3_1 x42_2)
             · rw [if_pos c51] at H
               have c51b0 : ((rd y113 x51_3) == (rd x3_1 x42_2)) = true := beq_iff_eq.mpr c51
               have c51b1 : ((rd y113 x51_3) != (rd x3_1 x42_2)) = false := bne_eq_false_iff_eq.mpr c51
               clear c51
               obtain rfl := Option.some.inj H
               have p117 : 0 ≤ (x51_3 : Int) := of_decide_eq_true z1200
               have q117 : x51_3 < (y113.length : Int) := of_decide_eq_true z1200
               obtain ⟨ad117, e117, hx117_0⟩ := Kd.at_int HR116.out x51_3 p117 q117
               obtain rfl : ad112 = ad117 := (by injection e117)
               try replace hx117_0 := (HB.out.cell (World.block_lt_of_cell? w _ hx117_0)).trans hx117_0
               replace p117 := eq_true p117
               replace q117 := eq_true q117
               go_wp2
               go_ret
               exact ⟨z674d, z5acd⟩
             · rw [if_neg c51] at H
               have c51b0 := eqN c51
               have H' := aM H
               clear H
               have p117 : 0 ≤ (x51_3 : Int) := of_decide_eq_true z1200
               have q117 : x51_3 < (y113.length : Int) := of_decide_eq_true z1200
               obtain ⟨ad117, e117, hx117_0⟩ := Kd.at_int HR116.out x51_3 p117 q117
               obtain rfl : ad112 = ad117 := (by injection e117)
               try replace hx117_0 := (HB.out.cell (World.block_lt_of_cell? w _ hx117_0)).trans hx117_0
               replace p117 := eq_true p117
               replace q117 := eq_true q117
               go_wp2
               go_roundg k3
               case measure => have := HK1.out; have := HK2.out; have := HK3.out; omega
               case rel => exact ⟨(wrap64 (x51_3 + 1)), z4458, H', ⟨by have := HK1.out; have := HK2.out; have := HK3.out; omega⟩, ⟨rZ HO_3.out⟩, ⟨rZ HO_40.out⟩, ⟨by repeat (first | (with_reducible exact HR116.out) | (with_reducible refine Kd.C_alloc ?_ _) | (with_reducible refine Kd.C_drewN ?_ _) | (with_reducible refine Kd.C_drew ?_) | exact HR116.out)⟩, ⟨z5acd⟩⟩
           · rw [if_neg c48] at H
             have c48b0 := nL c48
             clear c48
             have H' := aM H
             clear H
             go_wp2
             go_roundg k3
             case measure => have := HK1.out; have := HK2.out; have := HK3.out; omega
             case rel => exact ⟨(wrap64 (x42_2 + 1)), z4458, H', ⟨by have := HK1.out; have := HK2.out; have := HK3.out; omega⟩, ⟨rZ HO_3.out⟩, ⟨rZ HO_40.out⟩, ⟨z5acd⟩⟩
       · rw [if_neg c42] at H
         have c42b0 := nL c42
         clear c42
         obtain rfl := Option.some.inj H
         go_wp2
         go_ret
         exact ⟨z674d, z5acd⟩
def spec_l4Own.f (a0_0 : Int) (a0_1 : Int) (a0_2 : Int) (a0_3 : Int) (l0_4 : List Int) (a0_5 : Bool) : Option (Int × Int × Int × Int × List Int × Bool) := (some (([] : List Int) : List Int)).bind fun y103 => (if y103.length + l0_4.length < 17592186044416 then (some (a0_0, a0_1, a0_2, a0_3, (y103 ++ l0_4), a0_5)) else (none))
theorem spec_l4Own.calls (a0_0 : Int) (a0_1 : Int) (a0_2 : Int) (a0_3 : Int) (A0_4 : Option Addr) (c0_4 : Nat) (l0_4 : List Int) (a0_5 : Bool) (r1 : Int) (r2 : Int) (r3 : Int) (r4 : Int) (r5 : List Int) (r6 : Bool) (w : World) (hr0_4 : Kd.C (Kd.int .i64) w A0_4 l0_4.length l0_4) (hc0_4 : l0_4.length ≤ c0_4) (h : spec_l4Own.f a0_0 a0_1 a0_2 a0_3 l0_4 a0_5 = some (r1, r2, r3, r4, r5, r6)) :
 Calls Try.prog 67 #[.agg #[.int .i64 a0_0, .int .i64 a0_1, .int .i64 a0_2, .int .i64 a0_3, .slice A0_4 l0_4.length c0_4, .bool a0_5]] w fun e w' => ∃ v4_ : Value, e = .returned (.agg #[.int .i64 r1, .int .i64 r2, .int .i64 r3, .int .i64 r4, v4_, .bool r6]) ∧ Kd.R (Kd.int .i64) 3 w' w.heap.size (fun _ => True) v4_ r5 ∧ Below w.heap.size w w' := by
 have hu26 := Try.underlying26
 have HR0_4 := aM hr0_4
 have HC0_4 := aM hc0_4
 clear hr0_4 hc0_4
 have HB := aM (Below.refl w.heap.size w)
 have H : ((some (([] : List Int) : List Int)).bind fun y103 => (if y103.length + l0_4.length < 17592186044416 then (some (a0_0, a0_1, a0_2, a0_3, (y103 ++ l0_4), a0_5)) else (none))) = some (r1, r2, r3, r4, r5, r6) := h
 clear h
 obtain ⟨y103, hy103⟩ : ∃ y_ : List Int, y_ = (([] : List Int)) := ⟨_, rfl⟩
 first | (replace H := bindS H; rw [← hy103] at H; try dsimp only at H) | rw [← hy103] at H
 have Ny103 := aM hy103
 clear hy103
 obtain ⟨LMc2, H⟩ := sM H
 obtain ⟨y106, hy106⟩ : ∃ y_ : List Int, y_ = (y103 ++ l0_4) := ⟨_, rfl⟩
 first | (replace H := bindS H; rw [← hy106] at H; try dsimp only at H) | rw [← hy106] at H
 have Ny106 := aM hy106
 clear hy106
 simp only [Option.some.injEq, Prod.mk.injEq] at H
 obtain ⟨rfl, rfl, rfl, rfl, rfl, rfl⟩ := H
 go_enter Try.func67, Try.ntmps67
 go_wp2_with (first | ((with_reducible refine gate_dst (N := 1) rfl ?_); refine bX 1 26 #[.int .i64 a0_0, .int .i64 a0_1, .int .i64 a0_2, .int .i64 a0_3, .slice A0_4 l0_4.length c0_4, .bool a0_5] ?_; intro gb101 hg w3 hbox hb; have _ := aM (below_step hbZ hb); have _ := aM hbox; have _ := szZ hg; have _ := szZ hg; clear HB; rename_i HB BK101 GW101 GE101; clear hb hbox hg) | ((with_reducible refine gate_dst (N := 2) rfl ?_); refine bX 2 26 #[.int .i64 0, .int .i64 0, .int .i64 0, .int .i64 0, .slice none 0 0, .bool false] ?_; intro gb102 hg w4 hbox hb; have _ := bB gb101 hb; have _ := aM (below_step hbZ hb); have _ := aM hbox; have _ := szZ hg; have _ := szZ hg; have ⟨_, _⟩ := nbB gb101 hg; clear BK101 HB; rename_i BK101 HB BK102 GW102 GE102 NB101_102 NB102_101; clear hb hbox hg) | ((with_reducible refine gate_dst (N := 3) rfl ?_); refine Kd.R_lit (Kd.int .i64) _ 3 ?hg (N := 3) ?hd (xs := ([] : List Int)) (inner := []) (ok := fun _ => True) (okp := fun _ => True) ?hr ?hp (fun _ hk => hk) trivial (Below.refl _ _) (Nat.le_refl _) (by simp) ?_; (case hd => rfl); (case hg => rfl); (case hr => first | (go_simp; done) | (go_simp; rfl)); (case hp => exact (Reps.none _ _)); intro v104 w5 ho6 hb hg_ hnew_; clear hg_ hnew_; (first | rw [← Ny103.out] at ho6 | (simp only [Int.reduceToNat] at ho6; rw [← Ny103.out] at ho6)); have _ := aM (Kd.R_lower ho6 (below_size hbZ)); have _ := bB gb101 hb; have _ := bB gb102 hb; have _ := aM (below_step hbZ hb); clear BK101 BK102 HB; rename_i HO105 BK101 BK102 HB; clear hb ho6; have hnb7 := NB101_102.out; have hnc7 := NB102_101.out; have hz8 := cellsZ6 BK101.out) | ((with_reducible refine gate_builtin (b := .append) (xs := #[.tmp 3, .tmp 5]) rfl ?_); at_builtin; refine Kd.R_append_rows (Kd.int .i64) (w0 := w) w.heap.size rfl (.tmp 3) (.tmp 5) 24 3 (.int .i64 0) 8 rfl Try.underlying24 info3 rfl (by decide) (by omega) v104 y103 l0_4 _ _ _ (fun _ => True) (fun _ => False) rfl rfl ?aO ?aR (fun _ _ h => h) (fun _ h => h.elim) ?aF ?aB ?aS ?aL ?_; (case aR => repeat (first | exact (Kd.C_below HR0_4.out HB.out) | (with_reducible refine Kd.C_alloc ?_ _) | (with_reducible refine Kd.C_drewN ?_ _) | (with_reducible refine Kd.C_drew ?_))); (case aB => exact hbZ); (case aF => exact (fun _ _ => trivial)); (case aO => exact (rZ HO105.out)); (case aS => exact (below_size hbZ)); (case aL => have := LMc2.out; omega); intro v107 w9 ho hb hg hat; rw [← Ny106.out] at ho; have _ := aM (blk_grown (g := gb101) bkZ hg (Kd.R_ne HO105.out BK101.out (by decide))); have _ := aM (blk_grown (g := gb102) bkZ hg (Kd.R_ne HO105.out BK102.out (by decide))); have _ := aM hb; have _ := aM ho; clear BK101 BK102 HB HO105; rename_i BK101 BK102 HB HO108; clear ho hb hg hat; obtain ⟨Ao10, co10, eo10⟩ := Kd.R_slice HO108.out; subst eo10; have hz11 := cellsZ6 BK101.out; have hz12 := cellsZ6 BK102.out))
 refine bodyPost_ret (results_cell_row rfl _ _ gb102 26 #[.int .i64 a0_0, .int .i64 a0_1, .int .i64 a0_2, .int .i64 a0_3, .slice Ao10 y106.length co10, .bool a0_5] (0, 0) _ rfl bkZ Try.underlying26 rfl (by kernel_rfl)) rfl ?_
 exact ⟨_, z674d, by (with_reducible repeat (first | apply Kd.R_alloc | apply Kd.R_drewN | apply Kd.R_drew)); exact Kd.R_mono (Kd.R_far (p := ⟨gb102, 5, none⟩) (Kd.R_far (p := ⟨gb102, 4, none⟩) (Kd.R_far (p := ⟨gb102, 3, none⟩) (Kd.R_far (p := ⟨gb102, 2, none⟩) (Kd.R_far (p := ⟨gb102, 1, none⟩) (Kd.R_far (p := ⟨gb102, 0, none⟩) (Kd.R_far (p := ⟨gb101, 4, none⟩) (Kd.R_types (Kd.R_types HO108.out BK101.out (by decide)) BK102.out (by decide)) (fun _ hk => hk.1.2) (.slice Ao10 y106.length co10)) (fun _ hk => hk.2) (.int .i64 a0_0)) (fun _ hk => hk.2) (.int .i64 a0_1)) (fun _ hk => hk.2) (.int .i64 a0_2)) (fun _ hk => hk.2) (.int .i64 a0_3)) (fun _ hk => hk.2) (.slice Ao10 y106.length co10)) (fun _ hk => hk.2) (.bool a0_5)) (fun _ hk => trivial), zcb41⟩
def spec_l5Own.l0 : Nat → List (S45) → List (S45) → Int → Int → Option ((List (S45)))
 | 0, _, _, _, _ => none
 | k + 1, x3, x6, x7, x8 => if x8 < x7 then (if 0 ≤ x8 then (if x8 < (x6.length : Int) then ((spec_l4Own.f ((rd_T45 x6 x8).f3.f0) ((rd_T45 x6 x8).f3.f1) ((rd_T45 x6 x8).f3.f2) ((rd_T45 x6 x8).f3.f3) ((rd_T45 x6 x8).f3.f4) ((rd_T45 x6 x8).f3.f5)).bind fun bt103 => (if x3.length < 1466015503701 then (spec_l5Own.l0 k (x3 ++ [(⟨(rd_T45 x6 x8).f0, (rd_T45 x6 x8).f1, (rd_T45 x6 x8).f2, (⟨bt103.1, bt103.2.1, bt103.2.2.1, bt103.2.2.2.1, bt103.2.2.2.2.1, bt103.2.2.2.2.2⟩ : S26)⟩ : S45)]) x6 x7 (wrap64 (x8 + 1))) else (none))) else (none)) else (none)) else (some x3)
def spec_l5Own.f (k : Nat) (l0 : List (S45)) : Option ((List (S45))) := spec_l5Own.l0 k ([] : List (S45)) l0 (l0.length : Int) 0
theorem spec_l5Own.mono_l : ∀ k, (∀ y0 y1 y2 y3, LeO (spec_l5Own.l0 k y0 y1 y2 y3) (spec_l5Own.l0 (k + 1) y0 y1 y2 y3))
 | 0 => fun _ _ _ _ r h => by simp [spec_l5Own.l0] at h
 | k + 1 => by
  have ih0 := spec_l5Own.mono_l k
  · intro y0 y1 y2 y3
    unfold spec_l5Own.l0
    exact moZ
theorem spec_l5Own.mono : ∀ a0 k, LeO (spec_l5Own.f k a0) (spec_l5Own.f (k + 1) a0) := by
 intro a0 k
 have ih0 := spec_l5Own.mono_l k
 unfold spec_l5Own.f
 exact moZ
theorem spec_l5Own.calls (k : Nat) (A0 : Option Addr) (c0 : Nat) (l0 : List (S45)) (r : List (S45)) (w : World) (hr0 : Kd.C k45 w A0 l0.length l0) (hc0 : l0.length ≤ c0) (h : spec_l5Own.f k l0 = some r) :
 Calls Try.prog 44 #[.slice A0 l0.length c0] w fun e w' => ∃ v0_ : Value, e = .returned (v0_) ∧ Kd.S k45 45 w' w.heap.size (fun _ => True) v0_ r ∧ Below w.heap.size w w' := by
 have hu45 := Try.underlying45
 have hu26 := Try.underlying26
 have HR0 := aM hr0
 have HC0 := aM hc0
 clear hr0 hc0
 have HB := aM (Below.refl w.heap.size w)
 have H : (spec_l5Own.l0 k ([] : List (S45)) l0 (l0.length : Int) 0) = some r := h
 clear h
 have H' := aM H
 clear H
 go_enter Try.func44, Try.ntmps44
 go_wp2
 go_loopg [3, 8] k (fun kq v3 v8 w' => ∃ (x3_1 : List (S45)) (x8_1 : Int), v8 = .int .i64 x8_1 ∧ Aside0 (spec_l5Own.l0 kq x3_1 l0 (l0.length : Int) x8_1 = some r) ∧ Aside0 (kq ≤ k) ∧ Aside0 (Kd.S k45 45 w' w.heap.size (fun _ => True) v3 x3_1) ∧ Aside0 (Below w.heap.size w w'))
 case atStart => exact ⟨(([] : List (S45))), (0), z4458, H', ⟨Nat.le_refl _⟩, ⟨z2bfb⟩, ⟨z5acd⟩⟩
 case round =>
  clear H'
  obtain ⟨x3_1, x8_1, rfl, HA, HK1, HO_3, HB⟩ := hrel
  cases gk with
  | zero => exact absurd HA.out (by simp [spec_l5Own.l0])
  | succ k1 =>
   have H := HA.out
   clear HA
   simp only [spec_l5Own.l0] at H
   by_cases c2 : x8_1 < (l0.length : Int)
   · rw [if_pos c2] at H
     have c2b0 := dL c2
     clear c2
     obtain ⟨c3b0, H⟩ := sE H
     obtain ⟨c4b0, H⟩ := sL H
     obtain ⟨⟨t103, t104, t105, t106, t107, t110⟩, A5, H⟩ := bS H; try dsimp only at H
     obtain ⟨LMc6, H⟩ := sM H
     obtain ⟨y111, hy111⟩ : ∃ y_ : List (S45), y_ = (x3_1 ++ [(⟨(rd_T45 l0 x8_1).f0, (rd_T45 l0 x8_1).f1, (rd_T45 l0 x8_1).f2, (⟨t103, t104, t105, t106, t107, t110⟩ : S26)⟩ : S45)]) := ⟨_, rfl⟩
     first | (replace H := bindS H; rw [← hy111] at H; try dsimp only at H) | rw [← hy111] at H
     have Ny111 := aM hy111
     clear hy111
     have H' := aM H
     clear H
     have p101 : 0 ≤ (x8_1 : Int) := of_decide_eq_true z1200
     have q101 : x8_1 < (l0.length : Int) := of_decide_eq_true z1200
     obtain ⟨ad101, A101_7, c101_7, e101, hx101_0, hx101_1, hx101_2, hx101_3, hx101_4, hx101_5, hx101_6, hx101_7, hx101_8, hl101_7, hi101_7⟩ := at_T45 HR0.out x8_1 p101 q101
     cases e101
     have TW101_7 := aM hx101_7
     replace hx101_0 := (HB.out.cell (World.block_lt_of_cell? w _ hx101_0)).trans hx101_0
     replace hx101_1 := (HB.out.cell (World.block_lt_of_cell? w _ hx101_1)).trans hx101_1
     replace hx101_2 := (HB.out.cell (World.block_lt_of_cell? w _ hx101_2)).trans hx101_2
     replace hx101_3 := (HB.out.cell (World.block_lt_of_cell? w _ hx101_3)).trans hx101_3
     replace hx101_4 := (HB.out.cell (World.block_lt_of_cell? w _ hx101_4)).trans hx101_4
     replace hx101_5 := (HB.out.cell (World.block_lt_of_cell? w _ hx101_5)).trans hx101_5
     replace hx101_6 := (HB.out.cell (World.block_lt_of_cell? w _ hx101_6)).trans hx101_6
     replace hx101_7 := (HB.out.cell (World.block_lt_of_cell? w _ hx101_7)).trans hx101_7
     replace hx101_8 := (HB.out.cell (World.block_lt_of_cell? w _ hx101_8)).trans hx101_8
     have HR101_7 := aM hi101_7
     have HC101_7 := aM hl101_7
     clear hi101_7 hl101_7
     replace p101 := eq_true p101
     replace q101 := eq_true q101
     go_wp2_with (first | ((with_reducible refine gate_dst (N := 5) rfl ?_); refine bX 5 45 #[.string (⟨#[]⟩ : ByteArray), .int .i64 0, .int .i64 0, .int .i64 0, .int .i64 0, .int .i64 0, .int .i64 0, .slice none 0 0, .bool false] ?_; intro gb102 hg w7 hbox hb; have _ := aM (Kd.S_below (Kd.S_elderB zd74a gb102 (Nat.le_of_eq hg.symm)) hb); have _ := aM (below_step hbZ hb); have _ := aM hbox; have _ := szZ hg; have _ := szZ hg; clear HO_3 HB; rename_i HO_3 HB BK102 GW102 GE102; clear hb hbox hg; have hz8 := cellsZ9 BK102.out) | ((with_reducible refine gate_callee (f := 67) rfl ?_); refine gL 14 Try.func67 #[.agg #[.int .i64 ((rd_T45 l0 x8_1).f3.f0), .int .i64 ((rd_T45 l0 x8_1).f3.f1), .int .i64 ((rd_T45 l0 x8_1).f3.f2), .int .i64 ((rd_T45 l0 x8_1).f3.f3), .slice A101_7 ((rd_T45 l0 x8_1).f3.f4).length c101_7, .bool ((rd_T45 l0 x8_1).f3.f5)]] ?_; (with_reducible refine (spec_l4Own.calls ((rd_T45 l0 x8_1).f3.f0) ((rd_T45 l0 x8_1).f3.f1) ((rd_T45 l0 x8_1).f3.f2) ((rd_T45 l0 x8_1).f3.f3) _ _ ((rd_T45 l0 x8_1).f3.f4) ((rd_T45 l0 x8_1).f3.f5) t103 t104 t105 t106 t107 t110 _ ?side1 ?side2 A5.out).mono ?_); (case side1 => exact Kd.C_below HR101_7.out hbZ); (case side2 => exact HC101_7.out); rintro e w9 ⟨v108, rfl, ho0, hb⟩; refine ⟨_, rfl, ?_⟩; have _ := aM (Kd.S_elder' (by (with_reducible repeat (first | apply Kd.S_alloc | apply Kd.S_drewN | apply Kd.S_drew)); exact (Kd.S_mono (Kd.S_far (p := ⟨gb102, 8, none⟩) (Kd.S_far (p := ⟨gb102, 7, none⟩) (Kd.S_far (p := ⟨gb102, 6, none⟩) (Kd.S_far (p := ⟨gb102, 5, none⟩) (Kd.S_far (p := ⟨gb102, 4, none⟩) (Kd.S_far (p := ⟨gb102, 3, none⟩) (Kd.S_far (p := ⟨gb102, 2, none⟩) (Kd.S_far (p := ⟨gb102, 1, none⟩) (Kd.S_far (p := ⟨gb102, 0, none⟩) (Kd.S_mono HO_3.out (fun k_ hk => (⟨hk, hk.2⟩ : _ ∧ k_ ≠ gb102))) (fun _ hk => hk.2) (.string ((rd_T45 l0 x8_1).f0))) (fun _ hk => hk.2) (.int .i64 ((rd_T45 l0 x8_1).f1))) (fun _ hk => hk.2) (.int .i64 ((rd_T45 l0 x8_1).f2))) (fun _ hk => hk.2) (.int .i64 ((rd_T45 l0 x8_1).f3.f0))) (fun _ hk => hk.2) (.int .i64 ((rd_T45 l0 x8_1).f3.f1))) (fun _ hk => hk.2) (.int .i64 ((rd_T45 l0 x8_1).f3.f2))) (fun _ hk => hk.2) (.int .i64 ((rd_T45 l0 x8_1).f3.f3))) (fun _ hk => hk.2) (.slice A101_7 ((rd_T45 l0 x8_1).f3.f4).length c101_7)) (fun _ hk => hk.2) (.bool ((rd_T45 l0 x8_1).f3.f5))) (fun _ h_ => h_.1))) (Kd.R_base ho0) hb); have _ := aM (Kd.R_lower ho0 (below_size hbZ)); have _ := aM (blk_below (g := gb102) (o := .cells #[.string ((rd_T45 l0 x8_1).f0), .int .i64 ((rd_T45 l0 x8_1).f1), .int .i64 ((rd_T45 l0 x8_1).f2), .int .i64 ((rd_T45 l0 x8_1).f3.f0), .int .i64 ((rd_T45 l0 x8_1).f3.f1), .int .i64 ((rd_T45 l0 x8_1).f3.f2), .int .i64 ((rd_T45 l0 x8_1).f3.f3), .slice A101_7 ((rd_T45 l0 x8_1).f3.f4).length c101_7, .bool ((rd_T45 l0 x8_1).f3.f5)] 45 (0, 0)) bkZ hb); have _ := aM (below_step hbZ hb); clear HO_3 BK102 HB; rename_i HO_3 HO109 BK102 HB; (try clear hb); (try clear ho0); have hz10 := cellsZ9 BK102.out; obtain ⟨Ao11, co11, eo11⟩ := Kd.R_slice HO109.out; subst eo11) | ((with_reducible refine gate_store (t := 26) (p := 15) rfl ?_); refine store_event (t := 26) (p := 15) (v := ?vo_w12) (w1 := ((((((w9.setCell ⟨gb102, 3, none⟩ (.int .i64 t103)).setCell ⟨gb102, 4, none⟩ (.int .i64 t104)).setCell ⟨gb102, 5, none⟩ (.int .i64 t105)).setCell ⟨gb102, 6, none⟩ (.int .i64 t106)).setCell ⟨gb102, 7, none⟩ (.slice Ao11 t107.length co11)).setCell ⟨gb102, 8, none⟩ (.bool t110))) ?hg ?ho ?hn ?hr ?_; (case ho => rfl); (case hg => rfl); (case hn => rfl); (case hr => first | (go_simp; done) | (go_simp; rfl)); intro w12 hw; have _ : Aside0 (Kd.S k45 45 w12 w.heap.size (fun k_ => some k_ ≠ (.slice Ao11 t107.length co11 : Value).ownBlock ∧ k_ ≠ gb102) u3 x3_1) := ⟨(by rw [hw]; exact (by (with_reducible repeat (first | apply Kd.S_alloc | apply Kd.S_drewN | apply Kd.S_drew)); exact Kd.S_mono (Kd.S_far (p := ⟨gb102, 8, none⟩) (Kd.S_far (p := ⟨gb102, 7, none⟩) (Kd.S_far (p := ⟨gb102, 6, none⟩) (Kd.S_far (p := ⟨gb102, 5, none⟩) (Kd.S_far (p := ⟨gb102, 4, none⟩) (Kd.S_far (p := ⟨gb102, 3, none⟩) (Kd.S_mono HO_3.out (fun k_ hk => (⟨hk, hk.1.2⟩ : _ ∧ k_ ≠ gb102))) (fun _ hk => hk.2) (.int .i64 t103)) (fun _ hk => hk.2) (.int .i64 t104)) (fun _ hk => hk.2) (.int .i64 t105)) (fun _ hk => hk.2) (.int .i64 t106)) (fun _ hk => hk.2) (.slice Ao11 t107.length co11)) (fun _ hk => hk.2) (.bool t110)) (fun _ hk => ⟨hk.1.2, hk.1.1.2⟩)))⟩; have _ : Aside0 (Kd.R (Kd.int .i64) 3 w12 w.heap.size (fun _ => True) (.slice Ao11 t107.length co11) t107) := ⟨(by rw [hw]; exact (by (with_reducible repeat (first | apply Kd.R_alloc | apply Kd.R_drewN | apply Kd.R_drew)); exact Kd.R_mono (Kd.R_far (p := ⟨gb102, 8, none⟩) (Kd.R_far (p := ⟨gb102, 7, none⟩) (Kd.R_far (p := ⟨gb102, 6, none⟩) (Kd.R_far (p := ⟨gb102, 5, none⟩) (Kd.R_far (p := ⟨gb102, 4, none⟩) (Kd.R_far (p := ⟨gb102, 3, none⟩) (Kd.R_types HO109.out BK102.out (by decide)) (fun _ hk => hk.2) (.int .i64 t103)) (fun _ hk => hk.2) (.int .i64 t104)) (fun _ hk => hk.2) (.int .i64 t105)) (fun _ hk => hk.2) (.int .i64 t106)) (fun _ hk => hk.2) (.slice Ao11 t107.length co11)) (fun _ hk => hk.2) (.bool t110)) (fun _ hk => trivial)))⟩; have _ : Aside0 (w12.heap[gb102]? = some (.cells #[.string ((rd_T45 l0 x8_1).f0), .int .i64 ((rd_T45 l0 x8_1).f1), .int .i64 ((rd_T45 l0 x8_1).f2), .int .i64 t103, .int .i64 t104, .int .i64 t105, .int .i64 t106, .slice Ao11 t107.length co11, .bool t110] 45 (0, 0))) := ⟨(by rw [hw]; exact bkZ)⟩; have _ : Aside0 (Below w.heap.size w w12) := ⟨(by rw [hw]; exact hbZ)⟩; clear hw HO_3 HO109 BK102 HB; rename_i HO_3 HO109 BK102 HB; have hz13 := cellsZ9 BK102.out) | ((with_reducible refine gate_builtin (b := .append) (xs := #[.tmp 16, .tmp 18]) rfl ?_); at_builtin; refine Kd.S_append k45 (w0 := w) w.heap.size rfl (.tmp 16) (.tmp 18) 29 45 (.agg #[(.string ⟨#[]⟩), (.int .i64 0), (.int .i64 0), (.int .i64 0), (.int .i64 0), (.int .i64 0), (.int .i64 0), (.slice none 0 0), (.bool false)]) 96 rfl Try.underlying29 info45 rfl (by decide) (by omega) u3 x3_1 (⟨(rd_T45 l0 x8_1).f0, (rd_T45 l0 x8_1).f1, (rd_T45 l0 x8_1).f2, (⟨t103, t104, t105, t106, t107, t110⟩ : S26)⟩ : S45) [.string ((rd_T45 l0 x8_1).f0), .int .i64 ((rd_T45 l0 x8_1).f1), .int .i64 ((rd_T45 l0 x8_1).f2), .int .i64 t103, .int .i64 t104, .int .i64 t105, .int .i64 t106, .slice Ao11 t107.length co11, .bool t110] (fun k_ => k_ ≠ gb102) (fun k_ => some k_ = (.slice Ao11 t107.length co11 : Value).ownBlock) rfl rfl ?aP (fun k_ hk_ => ((Kd.R_mono (ok' := fun k_ => ((fun k_ => k_ ≠ gb102)) k_ ∧ some k_ ≠ (u3 : Value).ownBlock) (Kd.R_types (Kd.R_apart' (HO109.out) (Kd.S_typed HO_3.out) (by decide)) BK102.out (by decide)) (fun k_ hk => ⟨hk.2, hk.1.2⟩))).1 k_ hk_.symm) ?aF ?aO ?aB ?aS ?aL ?_; (case aP => exact k45_mkM _ _ _ (⟨(rd_T45 l0 x8_1).f0, (rd_T45 l0 x8_1).f1, (rd_T45 l0 x8_1).f2, (⟨t103, t104, t105, t106, t107, t110⟩ : S26)⟩ : S45) (Kd.R_mono (Kd.R_tight rfl (Kd.R_mono (ok' := fun k_ => ((fun k_ => k_ ≠ gb102)) k_ ∧ some k_ ≠ (u3 : Value).ownBlock) (Kd.R_types (Kd.R_apart' (HO109.out) (Kd.S_typed HO_3.out) (by decide)) BK102.out (by decide)) (fun k_ hk => ⟨hk.2, hk.1.2⟩))) (fun _ h_ => h_))); (case aB => exact hbZ); (case aF => exact (fun k_ hk => Kd.freshB (g := gb102) bkZ k_ hk)); (case aO => exact (by (with_reducible repeat (first | apply Kd.S_alloc | apply Kd.S_drewN | apply Kd.S_drew)); exact Kd.S_mono HO_3.out (fun k_ hk => ⟨hk.2, fun e_ => hk.1 e_⟩))); (case aS => exact (below_size hbZ)); (case aL => have := LMc6.out; omega); intro v112 w14 ho hb hg hat; rw [← Ny111.out] at ho; have _ := aM (blk_grown (g := gb102) bkZ hg (Kd.S_away HO_3.out (fun _ hk => hk.2))); have _ := aM hb; have _ := aM ho; clear BK102 HB HO_3 HO109; rename_i BK102 HB HO113; clear ho hb hg hat))
     go_roundg k1
     case measure => have := HK1.out; omega
     case rel => exact ⟨(y111), (wrap64 (x8_1 + 1)), z4458, H', ⟨zfb39⟩, ⟨by (with_reducible repeat (first | apply Kd.S_alloc | apply Kd.S_drewN | apply Kd.S_drew)); exact Kd.S_mono HO113.out (fun _ hk => trivial)⟩, ⟨zcb41⟩⟩
   · rw [if_neg c2] at H
     have c2b0 := nL c2
     clear c2
     obtain rfl := Option.some.inj H
     go_wp2
     go_ret
     exact ⟨_, z674d, zd74a, z5acd⟩
def spec_l5Put.l0 : Nat → List (S45) → Int → ByteArray → Int → Int → Int → Int → Int → Int → List Int → Bool → Option ((List (S45)))
 | 0, _, _, _, _, _, _, _, _, _, _, _ => none
 | k + 1, x0, x5, x102000, x102001, x102002, x102003, x102004, x102005, x102006, x102007, x102008 => if x5 < (x0.length : Int) then (if 0 ≤ x5 then ((spec_l5Before.f ((rd_T45 x0 x5).f0) ((rd_T45 x0 x5).f1) ((rd_T45 x0 x5).f2) ((rd_T45 x0 x5).f3.f0) ((rd_T45 x0 x5).f3.f1) ((rd_T45 x0 x5).f3.f2) ((rd_T45 x0 x5).f3.f3) ((rd_T45 x0 x5).f3.f4) ((rd_T45 x0 x5).f3.f5) x102000 x102001 x102002 x102003 x102004 x102005 x102006 x102007 x102008).bind fun t103 => (if t103 = true then (spec_l5Put.l0 k x0 (wrap64 (x5 + 1)) x102000 x102001 x102002 x102003 x102004 x102005 x102006 x102007 x102008) else (if x5 ≤ (x0.length : Int) then ((some (x0.take (x5 : Int).toNat : List (S45))).bind fun y104 => (if ([] : List (S45)).length + y104.length < 1466015503701 then ((some (([] : List (S45)) ++ y104 : List (S45))).bind fun y109 => (if y109.length < 1466015503701 then ((some (y109 ++ [(⟨x102000, x102001, x102002, (⟨x102003, x102004, x102005, x102006, x102007, x102008⟩ : S26)⟩ : S45)] : List (S45))).bind fun y112 => ((some (x0.drop (x5 : Int).toNat : List (S45))).bind fun y115 => (if y112.length + y115.length < 1466015503701 then (some (y112 ++ y115)) else (none)))) else (none))) else (none))) else (none)))) else (none)) else (if 0 ≤ x5 then (if x5 ≤ (x0.length : Int) then ((some (x0.take (x5 : Int).toNat : List (S45))).bind fun y123 => (if ([] : List (S45)).length + y123.length < 1466015503701 then ((some (([] : List (S45)) ++ y123 : List (S45))).bind fun y128 => (if y128.length < 1466015503701 then ((some (y128 ++ [(⟨x102000, x102001, x102002, (⟨x102003, x102004, x102005, x102006, x102007, x102008⟩ : S26)⟩ : S45)] : List (S45))).bind fun y131 => ((some (x0.drop (x5 : Int).toNat : List (S45))).bind fun y134 => (if y131.length + y134.length < 1466015503701 then (some (y131 ++ y134)) else (none)))) else (none))) else (none))) else (none)) else (none))
def spec_l5Put.f (k : Nat) (l0 : List (S45)) (a1_0 : ByteArray) (a1_1 : Int) (a1_2 : Int) (a1_3 : Int) (a1_4 : Int) (a1_5 : Int) (a1_6 : Int) (l1_7 : List Int) (a1_8 : Bool) : Option ((List (S45))) := spec_l5Put.l0 k l0 0 a1_0 a1_1 a1_2 a1_3 a1_4 a1_5 a1_6 l1_7 a1_8
theorem spec_l5Put.mono_l : ∀ k, (∀ y0 y1 y2 y3 y4 y5 y6 y7 y8 y9 y10, LeO (spec_l5Put.l0 k y0 y1 y2 y3 y4 y5 y6 y7 y8 y9 y10) (spec_l5Put.l0 (k + 1) y0 y1 y2 y3 y4 y5 y6 y7 y8 y9 y10))
 | 0 => fun _ _ _ _ _ _ _ _ _ _ _ r h => by simp [spec_l5Put.l0] at h
 | k + 1 => by
  have ih0 := spec_l5Put.mono_l k
  · intro y0 y1 y2 y3 y4 y5 y6 y7 y8 y9 y10
    unfold spec_l5Put.l0
    exact moZ
theorem spec_l5Put.mono : ∀ a0 a1 a2 a3 a4 a5 a6 a7 a8 a9 k, LeO (spec_l5Put.f k a0 a1 a2 a3 a4 a5 a6 a7 a8 a9) (spec_l5Put.f (k + 1) a0 a1 a2 a3 a4 a5 a6 a7 a8 a9) := by
 intro a0 a1 a2 a3 a4 a5 a6 a7 a8 a9 k
 have ih0 := spec_l5Put.mono_l k
 unfold spec_l5Put.f
 exact moZ
def spec_l5Put.T2 : Bool × List (List Nat × List Nat) := (true, [([], []), ([], []), ([1], [1]), ([0, 2], [0, 2]), ([3], [3]), ([4], [4]), ([4], [4]), ([5, 6, 4], [4, 5, 6]), ([7, 4], [4, 7]), ([4], [4]), ([8, 9, 4, 4], [4, 8, 9]), ([4, 10], [4, 10])])
def spec_l5Put.B2 : List Nat := [0, 0, 2, 7, 15, 31, 31, 127, 255, 31, 1023, 2047]
theorem spec_l5Put.tab2 : rtab .any (opsOf Try.f45 2) = spec_l5Put.T2 := by kernel_rfl
theorem spec_l5Put.bits2 : waitsOk spec_l5Put.T2.2 spec_l5Put.B2 = true := by kernel_rfl
theorem spec_l5Put.calls (k : Nat) (P0_ : Nat → Prop) (A0 : Option Addr) (c0 : Nat) (l0 : List (S45)) (a1_0 : ByteArray) (a1_1 : Int) (a1_2 : Int) (a1_3 : Int) (a1_4 : Int) (a1_5 : Int) (a1_6 : Int) (P1_7_ : Nat → Prop) (A1_7 : Option Addr) (c1_7 : Nat) (l1_7 : List Int) (a1_8 : Bool) (r : List (S45)) (w : World) (hs0 : Kd.V k45 45 w w.heap.size (fun k_ => P0_ k_) (.slice A0 l0.length c0) l0) (hs1_7 : Kd.V (Kd.int .i64) 3 w w.heap.size (fun k_ => P1_7_ k_) (.slice A1_7 l1_7.length c1_7) l1_7) (h : spec_l5Put.f k l0 a1_0 a1_1 a1_2 a1_3 a1_4 a1_5 a1_6 l1_7 a1_8 = some r) :
 Calls Try.prog 45 #[.slice A0 l0.length c0, .agg #[.string a1_0, .int .i64 a1_1, .int .i64 a1_2, .int .i64 a1_3, .int .i64 a1_4, .int .i64 a1_5, .int .i64 a1_6, .slice A1_7 l1_7.length c1_7, .bool a1_8]] w fun e w' => ∃ v0_ : Value, e = .returned (v0_) ∧ Kd.N k45 45 w' w.heap.size (fun k_ => ((P0_ k_ ∨ P1_7_ k_) ∨ w.heap.size ≤ k_)) v0_ r ∧ Below w.heap.size w w' := by
 have hu45 := Try.underlying45
 have HO0 := aM (show Kd.V k45 45 w w.heap.size (fun k_ => ((P0_ k_ ∨ P1_7_ k_) ∨ w.heap.size ≤ k_)) (.slice A0 l0.length c0) l0 from Kd.V_mono hs0 (fun k_ hk => .inl (.inl hk)))
 have HO1_7 := aM (show Kd.V (Kd.int .i64) 3 w w.heap.size (fun k_ => ((P0_ k_ ∨ P1_7_ k_) ∨ w.heap.size ≤ k_)) (.slice A1_7 l1_7.length c1_7) l1_7 from Kd.V_mono hs1_7 (fun k_ hk => .inl (.inr hk)))
 have HB := aM (Below.refl w.heap.size w)
 have H : (spec_l5Put.l0 k l0 0 a1_0 a1_1 a1_2 a1_3 a1_4 a1_5 a1_6 l1_7 a1_8) = some r := h
 clear h
 have H' := aM H
 clear H
 go_enter Try.func45, Try.ntmps45
 go_wp2_with (first | ((with_reducible refine gate_dst (N := 3) rfl ?_); refine bX 3 45 #[.string a1_0, .int .i64 a1_1, .int .i64 a1_2, .int .i64 a1_3, .int .i64 a1_4, .int .i64 a1_5, .int .i64 a1_6, .slice A1_7 l1_7.length c1_7, .bool a1_8] ?_; intro gb101 hg w3 hbox hb; have _ := aM (Kd.V_below (Kd.V_elderB (vZ HO0.out) gb101 (Nat.le_of_eq hg.symm)) hb); have _ := aM (Kd.V_below (Kd.V_elderB (vZ HO1_7.out) gb101 (Nat.le_of_eq hg.symm)) hb); have _ := aM (below_step hbZ hb); have _ := aM hbox; have _ := szZ hg; have _ := szZ hg; clear HO0 HO1_7 HB; rename_i HO0 HO1_7 HB BK101 GW101 GE101; clear hb hbox hg))
 go_loopg [5] k (fun kq v5 w' => ∃ (x5_1 : Int), v5 = .int .i64 x5_1 ∧ Aside0 (spec_l5Put.l0 kq l0 x5_1 a1_0 a1_1 a1_2 a1_3 a1_4 a1_5 a1_6 l1_7 a1_8 = some r) ∧ Aside0 (kq ≤ k) ∧ Aside0 (Kd.V k45 45 w' w.heap.size (fun k_ => ((P0_ k_ ∨ P1_7_ k_) ∨ w.heap.size ≤ k_) ∧ k_ ≠ gb101) (.slice A0 l0.length c0) l0) ∧ Aside0 (Kd.V (Kd.int .i64) 3 w' w.heap.size (fun k_ => ((P0_ k_ ∨ P1_7_ k_) ∨ w.heap.size ≤ k_) ∧ k_ ≠ gb101) (.slice A1_7 l1_7.length c1_7) l1_7) ∧ Aside0 (w'.heap[gb101]? = some (.cells #[.string a1_0, .int .i64 a1_1, .int .i64 a1_2, .int .i64 a1_3, .int .i64 a1_4, .int .i64 a1_5, .int .i64 a1_6, (.slice A1_7 l1_7.length c1_7), .bool a1_8] 45 (0, 0))) ∧ Aside0 (Below w.heap.size w w'))
 case atStart => exact ⟨(0), z4458, H', ⟨Nat.le_refl _⟩, ⟨vZ HO0.out⟩, ⟨vZ HO1_7.out⟩, ⟨bkZ⟩, ⟨zcb41⟩⟩
 case round =>
  clear H'
  (try clear c1)
  obtain ⟨x5_1, rfl, HA, HK1, HO_0, HO_102007, BK101, HB⟩ := hrel
  cases gk with
  | zero => exact absurd HA.out (by simp [spec_l5Put.l0])
  | succ k1 =>
   have H := HA.out
   clear HA
   simp only [spec_l5Put.l0] at H
   by_cases c4 : x5_1 < (l0.length : Int)
   · rw [if_pos c4] at H
     have c4b0 := dL c4
     clear c4
     obtain ⟨c5b0, H⟩ := sE H
     obtain ⟨t103, A6, H⟩ := bS H; try dsimp only at H
     by_cases c7 : t103 = true
     · subst c7
       rw [if_pos rfl] at H
       have H' := aM H
       clear H
       try go_wp2
       have _ := aM (Kd.V_drew HO_0.out)
       have _ := aM (Kd.V_drew HO_102007.out)
       have _ := aM (blk_drew BK101.out)
       have _ := aM (below_drew1 HB.out)
       clear HO_0
       clear HO_102007
       clear BK101
       clear HB
       rename_i HO_0 HO_102007 BK101 HB
       have p102 : 0 ≤ (x5_1 : Int) := of_decide_eq_true z1200
       have q102 : x5_1 < (l0.length : Int) := of_decide_eq_true z1200
       obtain ⟨ad102, A102_7, c102_7, e102, hx102_0, hx102_1, hx102_2, hx102_3, hx102_4, hx102_5, hx102_6, hx102_7, hx102_8, hl102_7, hi102_7⟩ := at_T45 (Kd.V_reads' HO_0.out).2.2 x5_1 p102 q102
       cases e102
       obtain ⟨ce102, hce102, hMe102, hcc102⟩ := Kd.V_get HO_0.out z45 x5_1 p102 (by first | exact q102 | exact of_decide_eq_true z1200 | (have e_ := (Kd.V_reads' HO_0.out).1; omega))
       obtain ⟨ua102_7, uc102_7, rfl, ul102_7, ge102_7⟩ := k45_openF hMe102
       have hv102_7 := hcc102 7 _ rfl
       rw [add_field _ _ 7 (by omega)] at hv102_7
       replace hv102_7 := Option.some.inj (hv102_7.symm.trans hx102_7)
       injection hv102_7 with hva_ hvn_ hvc_
       rw [hva_] at ge102_7
       rw [hvc_] at ul102_7
       have HL102_7 := aM (show Kd.V (Kd.int .i64) 3 _ w.heap.size _ _ ((rd_T45 l0 x5_1).f3.f4) from Kd.V_mk ul102_7 ge102_7)
       clear hva_ hvn_ hvc_ ge102_7 ul102_7
       clear hcc102 hce102
       have HR102_7 := aM hi102_7
       have HC102_7 := aM hl102_7
       clear hi102_7 hl102_7
       replace p102 := eq_true p102
       replace q102 := eq_true q102
       refine sA 12 spec_l5Put.tab2 spec_l5Put.bits2 (fun w' => w'.cell? ⟨gb101, 0, none⟩ = some (.string a1_0) ∧ w'.cell? ⟨gb101, 1, none⟩ = some (.int .i64 a1_1) ∧ w'.cell? ⟨gb101, 2, none⟩ = some (.int .i64 a1_2) ∧ w'.cell? ⟨gb101, 3, none⟩ = some (.int .i64 a1_3) ∧ w'.cell? ⟨gb101, 4, none⟩ = some (.int .i64 a1_4) ∧ w'.cell? ⟨gb101, 5, none⟩ = some (.int .i64 a1_5) ∧ w'.cell? ⟨gb101, 6, none⟩ = some (.int .i64 a1_6) ∧ w'.cell? ⟨gb101, 7, none⟩ = some (.slice A1_7 l1_7.length c1_7) ∧ w'.cell? ⟨gb101, 8, none⟩ = some (.bool a1_8) ∧ w'.cell? (ad102.add ((x5_1).toNat * 9)) = some (.string ((rd_T45 l0 x5_1).f0)) ∧ w'.cell? ⟨(ad102.add ((x5_1).toNat * 9)).block, (ad102.add ((x5_1).toNat * 9)).off + 1, none⟩ = some (.int .i64 ((rd_T45 l0 x5_1).f1)) ∧ w'.cell? ⟨(ad102.add ((x5_1).toNat * 9)).block, (ad102.add ((x5_1).toNat * 9)).off + 2, none⟩ = some (.int .i64 ((rd_T45 l0 x5_1).f2)) ∧ w'.cell? ⟨(ad102.add ((x5_1).toNat * 9)).block, (ad102.add ((x5_1).toNat * 9)).off + 3, none⟩ = some (.int .i64 ((rd_T45 l0 x5_1).f3.f0)) ∧ w'.cell? ⟨(ad102.add ((x5_1).toNat * 9)).block, (ad102.add ((x5_1).toNat * 9)).off + 4, none⟩ = some (.int .i64 ((rd_T45 l0 x5_1).f3.f1)) ∧ w'.cell? ⟨(ad102.add ((x5_1).toNat * 9)).block, (ad102.add ((x5_1).toNat * 9)).off + 5, none⟩ = some (.int .i64 ((rd_T45 l0 x5_1).f3.f2)) ∧ w'.cell? ⟨(ad102.add ((x5_1).toNat * 9)).block, (ad102.add ((x5_1).toNat * 9)).off + 6, none⟩ = some (.int .i64 ((rd_T45 l0 x5_1).f3.f3)) ∧ w'.cell? ⟨(ad102.add ((x5_1).toNat * 9)).block, (ad102.add ((x5_1).toNat * 9)).off + 7, none⟩ = some (.slice A102_7 ((rd_T45 l0 x5_1).f3.f4).length c102_7) ∧ w'.cell? ⟨(ad102.add ((x5_1).toNat * 9)).block, (ad102.add ((x5_1).toNat * 9)).off + 8, none⟩ = some (.bool ((rd_T45 l0 x5_1).f3.f5))) [] (fun hHeld HT_ HW_ => ?_)
       generalize wr.drew = w8 at HO_0 HO_102007 BK101 HB HL102_7 HR102_7 hx102_0 hx102_1 hx102_2 hx102_3 hx102_4 hx102_5 hx102_6 hx102_7 hx102_8 hHeld ⊢
       refine pA 0 7 HT_ ?_; refine pA 1 8 HT_ ?_; refine pA 2 9 HT_ ?_; refine pA 3 10 HT_ ?_; refine pA 4 11 HT_ ?_; refine pA 5 12 HT_ ?_; refine pA 6 13 HT_ ?_; refine pA 7 14 HT_ ?_; refine tA 8 15 HT_ HW_ hHeld ?_; refine tA 9 16 HT_ HW_ hHeld ?_; refine oA 10 17 HT_ (fun K hK => ?_)
       refine goes_ Try.func65 (by kernel_rfl) rfl #[.agg #[.string ((rd_T45 l0 x5_1).f0), .int .i64 ((rd_T45 l0 x5_1).f1), .int .i64 ((rd_T45 l0 x5_1).f2), .int .i64 ((rd_T45 l0 x5_1).f3.f0), .int .i64 ((rd_T45 l0 x5_1).f3.f1), .int .i64 ((rd_T45 l0 x5_1).f3.f2), .int .i64 ((rd_T45 l0 x5_1).f3.f3), .slice A102_7 ((rd_T45 l0 x5_1).f3.f4).length c102_7, .bool ((rd_T45 l0 x5_1).f3.f5)], .agg #[.string a1_0, .int .i64 a1_1, .int .i64 a1_2, .int .i64 a1_3, .int .i64 a1_4, .int .i64 a1_5, .int .i64 a1_6, .slice A1_7 l1_7.length c1_7, .bool a1_8]] (by rfl) rfl rfl zee81 ?_
       with_reducible refine (spec_l5Before.calls ((rd_T45 l0 x5_1).f0) ((rd_T45 l0 x5_1).f1) ((rd_T45 l0 x5_1).f2) ((rd_T45 l0 x5_1).f3.f0) ((rd_T45 l0 x5_1).f3.f1) ((rd_T45 l0 x5_1).f3.f2) ((rd_T45 l0 x5_1).f3.f3) _ _ ((rd_T45 l0 x5_1).f3.f4) ((rd_T45 l0 x5_1).f3.f5) a1_0 a1_1 a1_2 a1_3 a1_4 a1_5 a1_6 _ _ l1_7 a1_8 true _ ?side1 ?side2 ?side3 ?side4 A6.out).mono ?_
       (case side1 => exact (cZ zbc88))
       (case side2 => exact HC102_7.out)
       (case side3 => exact (by repeat (first | exact (Kd.V_reads' HO_102007.out).2.2 | (with_reducible refine Kd.C_alloc ?_ _) | (with_reducible refine Kd.C_drewN ?_ _) | (with_reducible refine Kd.C_drew ?_))))
       (case side4 => exact (Kd.V_reads' HO_102007.out).2.1)
       rintro e w9 ⟨rfl, hb⟩
       have HS9_ := (hb.cell (World.block_lt_of_cell? _ _ (hHeld.2.2.2.2.2.2.2.2.2.1))).trans (hHeld.2.2.2.2.2.2.2.2.2.1)
       have HS10_ := (hb.cell (World.block_lt_of_cell? _ _ (hHeld.2.2.2.2.2.2.2.2.2.2.1))).trans (hHeld.2.2.2.2.2.2.2.2.2.2.1)
       have HS11_ := (hb.cell (World.block_lt_of_cell? _ _ (hHeld.2.2.2.2.2.2.2.2.2.2.2.1))).trans (hHeld.2.2.2.2.2.2.2.2.2.2.2.1)
       have HS12_ := (hb.cell (World.block_lt_of_cell? _ _ (hHeld.2.2.2.2.2.2.2.2.2.2.2.2.1))).trans (hHeld.2.2.2.2.2.2.2.2.2.2.2.2.1)
       have HS13_ := (hb.cell (World.block_lt_of_cell? _ _ (hHeld.2.2.2.2.2.2.2.2.2.2.2.2.2.1))).trans (hHeld.2.2.2.2.2.2.2.2.2.2.2.2.2.1)
       have HS14_ := (hb.cell (World.block_lt_of_cell? _ _ (hHeld.2.2.2.2.2.2.2.2.2.2.2.2.2.2.1))).trans (hHeld.2.2.2.2.2.2.2.2.2.2.2.2.2.2.1)
       have HS15_ := (hb.cell (World.block_lt_of_cell? _ _ (hHeld.2.2.2.2.2.2.2.2.2.2.2.2.2.2.2.1))).trans (hHeld.2.2.2.2.2.2.2.2.2.2.2.2.2.2.2.1)
       have HS16_ := (hb.cell (World.block_lt_of_cell? _ _ (hHeld.2.2.2.2.2.2.2.2.2.2.2.2.2.2.2.2.1))).trans (hHeld.2.2.2.2.2.2.2.2.2.2.2.2.2.2.2.2.1)
       have HS17_ := (hb.cell (World.block_lt_of_cell? _ _ (hHeld.2.2.2.2.2.2.2.2.2.2.2.2.2.2.2.2.2))).trans (hHeld.2.2.2.2.2.2.2.2.2.2.2.2.2.2.2.2.2)
       refine ⟨_, rfl, ?_⟩
       have _ := aM (Kd.V_below (vZ HO_0.out) hb)
       have _ := aM (Kd.V_below (vZ HO_102007.out) hb)
       have _ := aM (Kd.V_below (vZ HL102_7.out) hb)
       have _ := bB gb101 hb
       have _ := aM (Kd.C_below zbc88 hb)
       have _ := aM (below_step hbZ hb)
       clear HO_0
       clear HO_102007
       clear HL102_7
       clear BK101
       clear HR102_7
       clear HB
       rename_i HO_0 HO_102007 HL102_7 BK101 HR102_7 HB
       (try clear hb); (try clear hk)
       refine hK.out _ _ ⟨(blk_cell BK101.out 0).trans rfl, (blk_cell BK101.out 1).trans rfl, (blk_cell BK101.out 2).trans rfl, (blk_cell BK101.out 3).trans rfl, (blk_cell BK101.out 4).trans rfl, (blk_cell BK101.out 5).trans rfl, (blk_cell BK101.out 6).trans rfl, (blk_cell BK101.out 7).trans rfl, (blk_cell BK101.out 8).trans rfl, HS9_, HS10_, HS11_, HS12_, HS13_, HS14_, HS15_, HS16_, HS17_⟩ (fun hHeld => ?_)
       clear hK K
       refine nA 17 ?_; refine pA 11 18 HT_ ?_
       refine done_ (done_of HT_.out (by kernel_rfl)) ?_
       try go_wp2
       go_roundg k1
       case measure => have := HK1.out; omega
       case rel => exact ⟨(wrap64 (x5_1 + 1)), z4458, H', ⟨zfb39⟩, ⟨vZ HO_0.out⟩, ⟨vZ HO_102007.out⟩, ⟨bkZ⟩, ⟨zcb41⟩⟩
     · replace c7 := Bool.eq_false_iff.mpr c7
       subst c7
       rw [if_neg (show ¬ (false = true) by decide)] at H
       have c10b0 := eq_true (of_decide_eq_true z1200 : 0 ≤ x5_1)
       replace H := ifS H; obtain ⟨c11, H⟩ := H
       have c11b0 := eq_true c11
       have c11b1 : decide (x5_1 ≤ (l0.length : Int)) = true := decide_eq_true c11
       clear c11
       obtain ⟨y104, hy104⟩ : ∃ y_ : List (S45), y_ = (l0.take (x5_1 : Int).toNat) := ⟨_, rfl⟩
       first | (replace H := bindS H; rw [← hy104] at H; try dsimp only at H) | rw [← hy104] at H
       have Ny104 := aM hy104
       clear hy104
       obtain ⟨LMc12, H⟩ := sM H
       obtain ⟨y109, hy109⟩ : ∃ y_ : List (S45), y_ = (([] : List (S45)) ++ y104) := ⟨_, rfl⟩
       first | (replace H := bindS H; rw [← hy109] at H; try dsimp only at H) | rw [← hy109] at H
       have Ny109 := aM hy109
       clear hy109
       obtain ⟨LMc13, H⟩ := sM H
       obtain ⟨y112, hy112⟩ : ∃ y_ : List (S45), y_ = (y109 ++ [(⟨a1_0, a1_1, a1_2, (⟨a1_3, a1_4, a1_5, a1_6, l1_7, a1_8⟩ : S26)⟩ : S45)]) := ⟨_, rfl⟩
       first | (replace H := bindS H; rw [← hy112] at H; try dsimp only at H) | rw [← hy112] at H
       have Ny112 := aM hy112
       clear hy112
       have c14b0 := eq_true (of_decide_eq_true z1200 : 0 ≤ x5_1)
       have c15b0 := eq_true (of_decide_eq_true z1200 : x5_1 ≤ (l0.length : Int))
       obtain ⟨y115, hy115⟩ : ∃ y_ : List (S45), y_ = (l0.drop (x5_1 : Int).toNat) := ⟨_, rfl⟩
       first | (replace H := bindS H; rw [← hy115] at H; try dsimp only at H) | rw [← hy115] at H
       have Ny115 := aM hy115
       clear hy115
       obtain ⟨LMc16, H⟩ := sM H
       obtain ⟨y120, hy120⟩ : ∃ y_ : List (S45), y_ = (y112 ++ y115) := ⟨_, rfl⟩
       first | (replace H := bindS H; rw [← hy120] at H; try dsimp only at H) | rw [← hy120] at H
       have Ny120 := aM hy120
       clear hy120
       obtain rfl := Option.some.inj H
       try go_wp2
       have _ := aM (Kd.V_drew HO_0.out)
       have _ := aM (Kd.V_drew HO_102007.out)
       have _ := aM (blk_drew BK101.out)
       have _ := aM (below_drew1 HB.out)
       clear HO_0
       clear HO_102007
       clear BK101
       clear HB
       rename_i HO_0 HO_102007 BK101 HB
       have p102 : 0 ≤ (x5_1 : Int) := of_decide_eq_true z1200
       have q102 : x5_1 < (l0.length : Int) := of_decide_eq_true z1200
       obtain ⟨ad102, A102_7, c102_7, e102, hx102_0, hx102_1, hx102_2, hx102_3, hx102_4, hx102_5, hx102_6, hx102_7, hx102_8, hl102_7, hi102_7⟩ := at_T45 (Kd.V_reads' HO_0.out).2.2 x5_1 p102 q102
       cases e102
       obtain ⟨ce102, hce102, hMe102, hcc102⟩ := Kd.V_get HO_0.out z45 x5_1 p102 (by first | exact q102 | exact of_decide_eq_true z1200 | (have e_ := (Kd.V_reads' HO_0.out).1; omega))
       obtain ⟨ua102_7, uc102_7, rfl, ul102_7, ge102_7⟩ := k45_openF hMe102
       have hv102_7 := hcc102 7 _ rfl
       rw [add_field _ _ 7 (by omega)] at hv102_7
       replace hv102_7 := Option.some.inj (hv102_7.symm.trans hx102_7)
       injection hv102_7 with hva_ hvn_ hvc_
       rw [hva_] at ge102_7
       rw [hvc_] at ul102_7
       have HL102_7 := aM (show Kd.V (Kd.int .i64) 3 _ w.heap.size _ _ ((rd_T45 l0 x5_1).f3.f4) from Kd.V_mk ul102_7 ge102_7)
       clear hva_ hvn_ hvc_ ge102_7 ul102_7
       clear hcc102 hce102
       have HR102_7 := aM hi102_7
       have HC102_7 := aM hl102_7
       clear hi102_7 hl102_7
       replace p102 := eq_true p102
       replace q102 := eq_true q102
       refine sA 12 spec_l5Put.tab2 spec_l5Put.bits2 (fun w' => w'.cell? ⟨gb101, 0, none⟩ = some (.string a1_0) ∧ w'.cell? ⟨gb101, 1, none⟩ = some (.int .i64 a1_1) ∧ w'.cell? ⟨gb101, 2, none⟩ = some (.int .i64 a1_2) ∧ w'.cell? ⟨gb101, 3, none⟩ = some (.int .i64 a1_3) ∧ w'.cell? ⟨gb101, 4, none⟩ = some (.int .i64 a1_4) ∧ w'.cell? ⟨gb101, 5, none⟩ = some (.int .i64 a1_5) ∧ w'.cell? ⟨gb101, 6, none⟩ = some (.int .i64 a1_6) ∧ w'.cell? ⟨gb101, 7, none⟩ = some (.slice A1_7 l1_7.length c1_7) ∧ w'.cell? ⟨gb101, 8, none⟩ = some (.bool a1_8) ∧ w'.cell? (ad102.add ((x5_1).toNat * 9)) = some (.string ((rd_T45 l0 x5_1).f0)) ∧ w'.cell? ⟨(ad102.add ((x5_1).toNat * 9)).block, (ad102.add ((x5_1).toNat * 9)).off + 1, none⟩ = some (.int .i64 ((rd_T45 l0 x5_1).f1)) ∧ w'.cell? ⟨(ad102.add ((x5_1).toNat * 9)).block, (ad102.add ((x5_1).toNat * 9)).off + 2, none⟩ = some (.int .i64 ((rd_T45 l0 x5_1).f2)) ∧ w'.cell? ⟨(ad102.add ((x5_1).toNat * 9)).block, (ad102.add ((x5_1).toNat * 9)).off + 3, none⟩ = some (.int .i64 ((rd_T45 l0 x5_1).f3.f0)) ∧ w'.cell? ⟨(ad102.add ((x5_1).toNat * 9)).block, (ad102.add ((x5_1).toNat * 9)).off + 4, none⟩ = some (.int .i64 ((rd_T45 l0 x5_1).f3.f1)) ∧ w'.cell? ⟨(ad102.add ((x5_1).toNat * 9)).block, (ad102.add ((x5_1).toNat * 9)).off + 5, none⟩ = some (.int .i64 ((rd_T45 l0 x5_1).f3.f2)) ∧ w'.cell? ⟨(ad102.add ((x5_1).toNat * 9)).block, (ad102.add ((x5_1).toNat * 9)).off + 6, none⟩ = some (.int .i64 ((rd_T45 l0 x5_1).f3.f3)) ∧ w'.cell? ⟨(ad102.add ((x5_1).toNat * 9)).block, (ad102.add ((x5_1).toNat * 9)).off + 7, none⟩ = some (.slice A102_7 ((rd_T45 l0 x5_1).f3.f4).length c102_7) ∧ w'.cell? ⟨(ad102.add ((x5_1).toNat * 9)).block, (ad102.add ((x5_1).toNat * 9)).off + 8, none⟩ = some (.bool ((rd_T45 l0 x5_1).f3.f5))) [] (fun hHeld HT_ HW_ => ?_)
       generalize wr.drew = w17 at HO_0 HO_102007 BK101 HB HL102_7 HR102_7 hx102_0 hx102_1 hx102_2 hx102_3 hx102_4 hx102_5 hx102_6 hx102_7 hx102_8 hHeld ⊢
       refine pA 0 7 HT_ ?_; refine pA 1 8 HT_ ?_; refine pA 2 9 HT_ ?_; refine pA 3 10 HT_ ?_; refine pA 4 11 HT_ ?_; refine pA 5 12 HT_ ?_; refine pA 6 13 HT_ ?_; refine pA 7 14 HT_ ?_; refine tA 8 15 HT_ HW_ hHeld ?_; refine tA 9 16 HT_ HW_ hHeld ?_; refine oA 10 17 HT_ (fun K hK => ?_)
       refine goes_ Try.func65 (by kernel_rfl) rfl #[.agg #[.string ((rd_T45 l0 x5_1).f0), .int .i64 ((rd_T45 l0 x5_1).f1), .int .i64 ((rd_T45 l0 x5_1).f2), .int .i64 ((rd_T45 l0 x5_1).f3.f0), .int .i64 ((rd_T45 l0 x5_1).f3.f1), .int .i64 ((rd_T45 l0 x5_1).f3.f2), .int .i64 ((rd_T45 l0 x5_1).f3.f3), .slice A102_7 ((rd_T45 l0 x5_1).f3.f4).length c102_7, .bool ((rd_T45 l0 x5_1).f3.f5)], .agg #[.string a1_0, .int .i64 a1_1, .int .i64 a1_2, .int .i64 a1_3, .int .i64 a1_4, .int .i64 a1_5, .int .i64 a1_6, .slice A1_7 l1_7.length c1_7, .bool a1_8]] (by rfl) rfl rfl zee81 ?_
       with_reducible refine (spec_l5Before.calls ((rd_T45 l0 x5_1).f0) ((rd_T45 l0 x5_1).f1) ((rd_T45 l0 x5_1).f2) ((rd_T45 l0 x5_1).f3.f0) ((rd_T45 l0 x5_1).f3.f1) ((rd_T45 l0 x5_1).f3.f2) ((rd_T45 l0 x5_1).f3.f3) _ _ ((rd_T45 l0 x5_1).f3.f4) ((rd_T45 l0 x5_1).f3.f5) a1_0 a1_1 a1_2 a1_3 a1_4 a1_5 a1_6 _ _ l1_7 a1_8 false _ ?side1 ?side2 ?side3 ?side4 A6.out).mono ?_
       (case side1 => exact (cZ zbc88))
       (case side2 => exact HC102_7.out)
       (case side3 => exact (by repeat (first | exact (Kd.V_reads' HO_102007.out).2.2 | (with_reducible refine Kd.C_alloc ?_ _) | (with_reducible refine Kd.C_drewN ?_ _) | (with_reducible refine Kd.C_drew ?_))))
       (case side4 => exact (Kd.V_reads' HO_102007.out).2.1)
       rintro e w18 ⟨rfl, hb⟩
       have HS9_ := (hb.cell (World.block_lt_of_cell? _ _ (hHeld.2.2.2.2.2.2.2.2.2.1))).trans (hHeld.2.2.2.2.2.2.2.2.2.1)
       have HS10_ := (hb.cell (World.block_lt_of_cell? _ _ (hHeld.2.2.2.2.2.2.2.2.2.2.1))).trans (hHeld.2.2.2.2.2.2.2.2.2.2.1)
       have HS11_ := (hb.cell (World.block_lt_of_cell? _ _ (hHeld.2.2.2.2.2.2.2.2.2.2.2.1))).trans (hHeld.2.2.2.2.2.2.2.2.2.2.2.1)
       have HS12_ := (hb.cell (World.block_lt_of_cell? _ _ (hHeld.2.2.2.2.2.2.2.2.2.2.2.2.1))).trans (hHeld.2.2.2.2.2.2.2.2.2.2.2.2.1)
       have HS13_ := (hb.cell (World.block_lt_of_cell? _ _ (hHeld.2.2.2.2.2.2.2.2.2.2.2.2.2.1))).trans (hHeld.2.2.2.2.2.2.2.2.2.2.2.2.2.1)
       have HS14_ := (hb.cell (World.block_lt_of_cell? _ _ (hHeld.2.2.2.2.2.2.2.2.2.2.2.2.2.2.1))).trans (hHeld.2.2.2.2.2.2.2.2.2.2.2.2.2.2.1)
       have HS15_ := (hb.cell (World.block_lt_of_cell? _ _ (hHeld.2.2.2.2.2.2.2.2.2.2.2.2.2.2.2.1))).trans (hHeld.2.2.2.2.2.2.2.2.2.2.2.2.2.2.2.1)
       have HS16_ := (hb.cell (World.block_lt_of_cell? _ _ (hHeld.2.2.2.2.2.2.2.2.2.2.2.2.2.2.2.2.1))).trans (hHeld.2.2.2.2.2.2.2.2.2.2.2.2.2.2.2.2.1)
       have HS17_ := (hb.cell (World.block_lt_of_cell? _ _ (hHeld.2.2.2.2.2.2.2.2.2.2.2.2.2.2.2.2.2))).trans (hHeld.2.2.2.2.2.2.2.2.2.2.2.2.2.2.2.2.2)
       refine ⟨_, rfl, ?_⟩
       have _ := aM (Kd.V_below (vZ HO_0.out) hb)
       have _ := aM (Kd.V_below (vZ HO_102007.out) hb)
       have _ := aM (Kd.V_below (vZ HL102_7.out) hb)
       have _ := bB gb101 hb
       have _ := aM (Kd.C_below zbc88 hb)
       have _ := aM (below_step hbZ hb)
       clear HO_0
       clear HO_102007
       clear HL102_7
       clear BK101
       clear HR102_7
       clear HB
       rename_i HO_0 HO_102007 HL102_7 BK101 HR102_7 HB
       (try clear hb); (try clear hk)
       refine hK.out _ _ ⟨(blk_cell BK101.out 0).trans rfl, (blk_cell BK101.out 1).trans rfl, (blk_cell BK101.out 2).trans rfl, (blk_cell BK101.out 3).trans rfl, (blk_cell BK101.out 4).trans rfl, (blk_cell BK101.out 5).trans rfl, (blk_cell BK101.out 6).trans rfl, (blk_cell BK101.out 7).trans rfl, (blk_cell BK101.out 8).trans rfl, HS9_, HS10_, HS11_, HS12_, HS13_, HS14_, HS15_, HS16_, HS17_⟩ (fun hHeld => ?_)
       clear hK K
       refine nA 17 ?_; refine pA 11 18 HT_ ?_
       refine done_ (done_of HT_.out (by kernel_rfl)) ?_
       have q19 : (x5_1 : Int) ≤ ((l0.length : Int) : Int) := of_decide_eq_true z1200
       obtain ⟨i019, hi019, _, hsz19, _⟩ := info_parts info45
       have hroom19 : l0.length ≤ c0 := (Kd.V_reads' HO_0.out).2.1
       have hC19 : Kd.F k45 _ _ (some ad102) l0.length l0 := (Kd.V_at (base := w.heap.size) HO_0.out).2.2
       have hcut19 := cut_to (P := Try.prog) 29 45 .i64 Try.underlying29 hi019 (some ad102) l0.length c0 x5_1 (of_decide_eq_true z1200) q19 hroom19
       have hr19 := Kd.F_take (m := (x5_1 : Int).toNat) hC19 (by omega)
       have hy19 : y104.length = (x5_1 : Int).toNat := (by rw [Ny104.out, List.length_take]; omega)
       rw [← Ny104.out] at hr19
       rw [← hy19] at hcut19
       have HO108 := aM (show Kd.V k45 45 _ w.heap.size _ (.slice (some ad102) y104.length c0) y104 from Kd.V_mk (by omega) hr19)
       have HC108 := aM (show y104.length ≤ c0 from by omega)
       clear hr19 hC19 hroom19 hi019 hsz19
       have KY19 := aM hy19
       clear hy19
       replace q19 := eq_true q19
       try go_wp2_with (first | ((with_reducible refine gate_builtin (b := .append) (xs := #[.tmp 21, .tmp 24]) rfl ?_); at_builtin; refine Kd.N_append_rows k45 (w0 := w) w.heap.size rfl (.tmp 21) (.tmp 24) 29 45 (.agg #[(.string ⟨#[]⟩), (.int .i64 0), (.int .i64 0), (.int .i64 0), (.int .i64 0), (.int .i64 0), (.int .i64 0), (.slice none 0 0), (.bool false)]) 96 rfl Try.underlying29 info45 rfl (by decide) (by omega) (.slice none 0 0) ([] : List (S45)) y104 _ _ _ (fun k_ => ((P0_ k_ ∨ P1_7_ k_) ∨ w.heap.size ≤ k_) ∧ k_ ≠ gb101) (fun k_ => ((fun k_ => ((P0_ k_ ∨ P1_7_ k_) ∨ w.heap.size ≤ k_) ∧ k_ ≠ gb101)) k_ ∧ some k_ ≠ (.slice none 0 0 : Value).ownBlock) rfl rfl ?aO ?aR (fun _ hk => hk) ?aF ?aB ?aS ?aL ?_; (case aR => exact (by skip; exact Kd.V_F (Kd.V_mono (ok' := (fun k_ => ((fun k_ => ((P0_ k_ ∨ P1_7_ k_) ∨ w.heap.size ≤ k_) ∧ k_ ≠ gb101)) k_ ∧ some k_ ≠ (.slice none 0 0 : Value).ownBlock)) (HO108.out) (fun k_ hk => ⟨⟨hk.1, hk.2⟩, (by simp [Value.ownBlock])⟩)))); (case aB => exact hbZ); (case aF => exact (fun k_ hk => ⟨(.inr (Nat.le_trans (below_size hbZ) hk)), Kd.freshB (g := gb101) bkZ k_ hk⟩)); (case aO => exact ((Kd.N_nil _ _ _ _ (fun k_ => ((P0_ k_ ∨ P1_7_ k_) ∨ w.heap.size ≤ k_) ∧ k_ ≠ gb101)))); (case aS => exact (below_size hbZ)); (case aL => have := LMc12.out; omega); intro v110 w20 ho hb hg hat; rw [← Ny109.out] at ho; have _ := aM (Kd.V_afterv (Kd.V_apart_nil (vZ HO_0.out)) hg hat); have _ := aM (Kd.V_afterv (Kd.V_apart_nil (vZ HO_102007.out)) hg hat); have _ := aM (blk_grown (g := gb101) bkZ hg (by simp [Value.ownBlock])); have _ := aM (Kd.V_afterv (Kd.V_apart_nil (vZ HL102_7.out)) hg hat); have _ := aM (Kd.V_afterv (Kd.V_apart_nil (vZ HO108.out)) hg hat); have _ := aM hb; have _ := aM ho; clear HO_0 HO_102007 BK101 HL102_7 HO108 HB; rename_i HO_0 HO_102007 BK101 HL102_7 HO108 HB HO111; clear ho hb hg hat; have hz21 := cellsZ9 BK101.out) | ((with_reducible refine gate_builtin (b := .append) (xs := #[.tmp 26, .tmp 28]) rfl ?_); at_builtin; refine Kd.N_append k45 (w0 := w) w.heap.size rfl (.tmp 26) (.tmp 28) 29 45 (.agg #[(.string ⟨#[]⟩), (.int .i64 0), (.int .i64 0), (.int .i64 0), (.int .i64 0), (.int .i64 0), (.int .i64 0), (.slice none 0 0), (.bool false)]) 96 rfl Try.underlying29 info45 rfl (by decide) (by omega) v110 y109 (⟨a1_0, a1_1, a1_2, (⟨a1_3, a1_4, a1_5, a1_6, l1_7, a1_8⟩ : S26)⟩ : S45) [.string a1_0, .int .i64 a1_1, .int .i64 a1_2, .int .i64 a1_3, .int .i64 a1_4, .int .i64 a1_5, .int .i64 a1_6, .slice A1_7 l1_7.length c1_7, .bool a1_8] (fun k_ => ((P0_ k_ ∨ P1_7_ k_) ∨ w.heap.size ≤ k_) ∧ k_ ≠ gb101) (fun k_ => ((fun k_ => ((P0_ k_ ∨ P1_7_ k_) ∨ w.heap.size ≤ k_) ∧ k_ ≠ gb101)) k_ ∧ some k_ ≠ (v110 : Value).ownBlock) rfl rfl ?aP (fun _ hk => hk) ?aF ?aO ?aB ?aS ?aL ?_; (case aP => exact (k45_mkF _ _ (⟨a1_0, a1_1, a1_2, (⟨a1_3, a1_4, a1_5, a1_6, l1_7, a1_8⟩ : S26)⟩ : S45) (Kd.V_reads' (Kd.V_mono (ok' := (fun k_ => ((fun k_ => ((P0_ k_ ∨ P1_7_ k_) ∨ w.heap.size ≤ k_) ∧ k_ ≠ gb101)) k_ ∧ some k_ ≠ (v110 : Value).ownBlock)) (HO_102007.out) (fun k_ hk => ⟨⟨hk.1.1, hk.1.2⟩, hk.2⟩))).2.1 (Kd.V_F (Kd.V_mono (ok' := (fun k_ => ((fun k_ => ((P0_ k_ ∨ P1_7_ k_) ∨ w.heap.size ≤ k_) ∧ k_ ≠ gb101)) k_ ∧ some k_ ≠ (v110 : Value).ownBlock)) (HO_102007.out) (fun k_ hk => ⟨⟨hk.1.1, hk.1.2⟩, hk.2⟩))))); (case aB => exact hbZ); (case aF => exact (fun k_ hk => ⟨(.inr (Nat.le_trans (below_size hbZ) hk)), Kd.freshB (g := gb101) bkZ k_ hk⟩)); (case aO => exact (by (with_reducible repeat (first | apply Kd.N_alloc | apply Kd.N_drewN | apply Kd.N_drew)); exact HO111.out)); (case aS => exact (below_size hbZ)); (case aL => have := LMc13.out; omega); intro v113 w22 ho hb hg hat; rw [← Ny112.out] at ho; have _ := aM (Kd.V_afterv (ok := (fun k_ => ((P0_ k_ ∨ P1_7_ k_) ∨ w.heap.size ≤ k_) ∧ k_ ≠ gb101)) (vZ HO_0.out) hg hat); have _ := aM (Kd.V_afterv (ok := (fun k_ => ((P0_ k_ ∨ P1_7_ k_) ∨ w.heap.size ≤ k_) ∧ k_ ≠ gb101)) (vZ HO_102007.out) hg hat); have _ := aM (blk_grown (g := gb101) bkZ hg (Kd.N_away HO111.out (fun _ hk => hk.2))); have _ := aM (Kd.V_afterv (ok := (fun k_ => ((P0_ k_ ∨ P1_7_ k_) ∨ w.heap.size ≤ k_) ∧ k_ ≠ gb101)) (vZ HL102_7.out) hg hat); have _ := aM (Kd.V_afterv (ok := (fun k_ => ((P0_ k_ ∨ P1_7_ k_) ∨ w.heap.size ≤ k_) ∧ k_ ≠ gb101)) (vZ HO108.out) hg hat); have _ := aM hb; have _ := aM ho; clear HO_0 HO_102007 BK101 HL102_7 HO108 HB HO111; rename_i HO_0 HO_102007 BK101 HL102_7 HO108 HB HO114; clear ho hb hg hat; have q23 : (x5_1 : Int) ≤ ((l0.length : Int) : Int) := of_decide_eq_true z1200; obtain ⟨i023, hi023, _, hsz23, _⟩ := info_parts info45; have hroom23 : l0.length ≤ c0 := (Kd.V_reads' HO_0.out).2.1; have hC23 : Kd.F k45 _ _ (some ad102) l0.length l0 := (Kd.V_at (base := w.heap.size) HO_0.out).2.2; have q023 : (0 : Int) ≤ (x5_1 : Int) := of_decide_eq_true z1200; have hcut23 := cut_from (P := Try.prog) 29 45 .i64 Try.underlying29 hi023 9 hsz23 (some ad102) l0.length c0 x5_1 q023 q23; have hr23 := Kd.F_cut (m := (x5_1 : Int).toNat) (c := c0) hC23 (by omega) hroom23; obtain ⟨A23, hA23⟩ : ∃ A1, A1 = (if c0 = (x5_1 : Int).toNat then (some ad102) else ((some ad102) : Option Addr).map (·.add ((x5_1 : Int).toNat * 9))) := ⟨_, rfl⟩; obtain ⟨c23, hc23⟩ : ∃ c1, c1 = c0 - (x5_1 : Int).toNat := ⟨_, rfl⟩; have hy23 : y115.length = l0.length - (x5_1 : Int).toNat := (by rw [Ny115.out, List.length_drop] <;> omega); rw [show (l0).drop (x5_1 : Int).toNat = y115 from Ny115.out.symm] at hr23; replace hr23 : Kd.F k45 _ _ A23 y115.length y115 := (by rw [hA23]; exact hr23); rw [← hy23, ← hA23, ← hc23] at hcut23; have HO119 := aM (show Kd.V k45 45 _ w.heap.size _ (.slice A23 y115.length c23) y115 from Kd.V_mk (by rw [hy23, hc23]; exact Nat.sub_le_sub_right hroom23 _) hr23); have HC119 := aM (show y115.length ≤ c23 from by rw [hy23, hc23]; exact Nat.sub_le_sub_right hroom23 _); clear hr23 hC23 hroom23 hi023 hsz23 hc23; have KY23 := aM hy23; have KA23 := aM hA23; clear hy23 hA23; replace q23 := eq_true q23) | ((with_reducible refine gate_builtin (b := .append) (xs := #[.tmp 30, .tmp 33]) rfl ?_); at_builtin; refine Kd.N_append_rows k45 (w0 := w) w.heap.size rfl (.tmp 30) (.tmp 33) 29 45 (.agg #[(.string ⟨#[]⟩), (.int .i64 0), (.int .i64 0), (.int .i64 0), (.int .i64 0), (.int .i64 0), (.int .i64 0), (.slice none 0 0), (.bool false)]) 96 rfl Try.underlying29 info45 rfl (by decide) (by omega) v113 y112 y115 _ _ _ (fun k_ => ((P0_ k_ ∨ P1_7_ k_) ∨ w.heap.size ≤ k_) ∧ k_ ≠ gb101) (fun k_ => ((fun k_ => ((P0_ k_ ∨ P1_7_ k_) ∨ w.heap.size ≤ k_) ∧ k_ ≠ gb101)) k_ ∧ some k_ ≠ (v113 : Value).ownBlock) rfl rfl ?aO ?aR (fun _ hk => hk) ?aF ?aB ?aS ?aL ?_; (case aR => exact (by skip; exact Kd.V_F (Kd.V_mono (ok' := (fun k_ => ((fun k_ => ((P0_ k_ ∨ P1_7_ k_) ∨ w.heap.size ≤ k_) ∧ k_ ≠ gb101)) k_ ∧ some k_ ≠ (v113 : Value).ownBlock)) (HO119.out) (fun k_ hk => ⟨⟨hk.1.1, hk.1.2⟩, hk.2⟩)))); (case aB => exact hbZ); (case aF => exact (fun k_ hk => ⟨(.inr (Nat.le_trans (below_size hbZ) hk)), Kd.freshB (g := gb101) bkZ k_ hk⟩)); (case aO => exact (by (with_reducible repeat (first | apply Kd.N_alloc | apply Kd.N_drewN | apply Kd.N_drew)); exact HO114.out)); (case aS => exact (below_size hbZ)); (case aL => have := LMc16.out; omega); intro v121 w24 ho hb hg hat; rw [← Ny120.out] at ho; have _ := aM (Kd.V_afterv (ok := (fun k_ => ((P0_ k_ ∨ P1_7_ k_) ∨ w.heap.size ≤ k_) ∧ k_ ≠ gb101)) (vZ HO_0.out) hg hat); have _ := aM (Kd.V_afterv (ok := (fun k_ => ((P0_ k_ ∨ P1_7_ k_) ∨ w.heap.size ≤ k_) ∧ k_ ≠ gb101)) (vZ HO_102007.out) hg hat); have _ := aM (blk_grown (g := gb101) bkZ hg (Kd.N_away HO114.out (fun _ hk => hk.2))); have _ := aM (Kd.V_afterv (ok := (fun k_ => ((P0_ k_ ∨ P1_7_ k_) ∨ w.heap.size ≤ k_) ∧ k_ ≠ gb101)) (vZ HL102_7.out) hg hat); have _ := aM (Kd.V_afterv (ok := (fun k_ => ((P0_ k_ ∨ P1_7_ k_) ∨ w.heap.size ≤ k_) ∧ k_ ≠ gb101)) (vZ HO108.out) hg hat); have _ := aM (Kd.V_afterv (ok := (fun k_ => ((P0_ k_ ∨ P1_7_ k_) ∨ w.heap.size ≤ k_) ∧ k_ ≠ gb101)) (vZ HO119.out) hg hat); have _ := aM hb; have _ := aM ho; clear HO_0 HO_102007 BK101 HL102_7 HO108 HO119 HB HO114; rename_i HO_0 HO_102007 BK101 HL102_7 HO108 HO119 HB HO122; clear ho hb hg hat))
       go_ret
       exact ⟨_, z674d, by (with_reducible repeat (first | apply Kd.N_alloc | apply Kd.N_drewN | apply Kd.N_drew)); exact Kd.N_mono HO122.out (fun _ hk => hk.1), zcb41⟩
   · rw [if_neg c4] at H
     have c4b0 := nL c4
     clear c4
     replace H := ifS H; obtain ⟨c25, H⟩ := H
     have c25b0 := eq_true c25
     have c25b1 : decide (0 ≤ x5_1) = true := decide_eq_true c25
     clear c25
     replace H := ifS H; obtain ⟨c26, H⟩ := H
     have c26b0 := eq_true c26
     have c26b1 : decide (x5_1 ≤ (l0.length : Int)) = true := decide_eq_true c26
     clear c26
     obtain ⟨y123, hy123⟩ : ∃ y_ : List (S45), y_ = (l0.take (x5_1 : Int).toNat) := ⟨_, rfl⟩
     first | (replace H := bindS H; rw [← hy123] at H; try dsimp only at H) | rw [← hy123] at H
     have Ny123 := aM hy123
     clear hy123
     obtain ⟨LMc27, H⟩ := sM H
     obtain ⟨y128, hy128⟩ : ∃ y_ : List (S45), y_ = (([] : List (S45)) ++ y123) := ⟨_, rfl⟩
     first | (replace H := bindS H; rw [← hy128] at H; try dsimp only at H) | rw [← hy128] at H
     have Ny128 := aM hy128
     clear hy128
     obtain ⟨LMc28, H⟩ := sM H
     obtain ⟨y131, hy131⟩ : ∃ y_ : List (S45), y_ = (y128 ++ [(⟨a1_0, a1_1, a1_2, (⟨a1_3, a1_4, a1_5, a1_6, l1_7, a1_8⟩ : S26)⟩ : S45)]) := ⟨_, rfl⟩
     first | (replace H := bindS H; rw [← hy131] at H; try dsimp only at H) | rw [← hy131] at H
     have Ny131 := aM hy131
     clear hy131
     have c29b0 := eq_true (of_decide_eq_true z1200 : 0 ≤ x5_1)
     have c30b0 := eq_true (of_decide_eq_true z1200 : x5_1 ≤ (l0.length : Int))
     obtain ⟨y134, hy134⟩ : ∃ y_ : List (S45), y_ = (l0.drop (x5_1 : Int).toNat) := ⟨_, rfl⟩
     first | (replace H := bindS H; rw [← hy134] at H; try dsimp only at H) | rw [← hy134] at H
     have Ny134 := aM hy134
     clear hy134
     obtain ⟨LMc31, H⟩ := sM H
     obtain ⟨y139, hy139⟩ : ∃ y_ : List (S45), y_ = (y131 ++ y134) := ⟨_, rfl⟩
     first | (replace H := bindS H; rw [← hy139] at H; try dsimp only at H) | rw [← hy139] at H
     have Ny139 := aM hy139
     clear hy139
     obtain rfl := Option.some.inj H
     try go_wp2
     have _ := aM (Kd.V_drew HO_0.out)
     have _ := aM (Kd.V_drew HO_102007.out)
     have _ := aM (blk_drew BK101.out)
     have _ := aM (below_drew1 HB.out)
     clear HO_0
     clear HO_102007
     clear BK101
     clear HB
     rename_i HO_0 HO_102007 BK101 HB
     refine sA 12 spec_l5Put.tab2 spec_l5Put.bits2 (fun w' => True) [] (fun hHeld HT_ HW_ => ?_)
     generalize wr.drew = w32 at HO_0 HO_102007 BK101 HB hHeld ⊢
     refine pA 0 7 HT_ ?_; refine pA 1 8 HT_ ?_; refine pA 2 9 HT_ ?_; refine pA 3 10 HT_ ?_; refine pA 4 11 HT_ ?_; refine uA 5 12 HT_ ?_; refine uA 6 13 HT_ ?_; refine uA 7 14 HT_ ?_; refine uA 8 15 HT_ ?_; refine uA 9 16 HT_ ?_; refine uA 10 17 HT_ ?_; refine pA 11 18 HT_ ?_
     refine done_ (done_of HT_.out (by kernel_rfl)) ?_
     have q33 : (x5_1 : Int) ≤ ((l0.length : Int) : Int) := of_decide_eq_true z1200
     obtain ⟨i033, hi033, _, hsz33, _⟩ := info_parts info45
     have hroom33 : l0.length ≤ c0 := (Kd.V_reads' HO_0.out).2.1
     have hC33 : Kd.F k45 _ _ A0 l0.length l0 := (Kd.V_at (base := w.heap.size) HO_0.out).2.2
     have hcut33 := cut_to (P := Try.prog) 29 45 .i64 Try.underlying29 hi033 A0 l0.length c0 x5_1 (of_decide_eq_true z1200) q33 hroom33
     have hr33 := Kd.F_take (m := (x5_1 : Int).toNat) hC33 (by omega)
     have hy33 : y123.length = (x5_1 : Int).toNat := (by rw [Ny123.out, List.length_take]; omega)
     rw [← Ny123.out] at hr33
     rw [← hy33] at hcut33
     have HO127 := aM (show Kd.V k45 45 _ w.heap.size _ (.slice A0 y123.length c0) y123 from Kd.V_mk (by omega) hr33)
     have HC127 := aM (show y123.length ≤ c0 from by omega)
     clear hr33 hC33 hroom33 hi033 hsz33
     have KY33 := aM hy33
     clear hy33
     replace q33 := eq_true q33
     try go_wp2_with (first | ((with_reducible refine gate_builtin (b := .append) (xs := #[.tmp 21, .tmp 24]) rfl ?_); at_builtin; refine Kd.N_append_rows k45 (w0 := w) w.heap.size rfl (.tmp 21) (.tmp 24) 29 45 (.agg #[(.string ⟨#[]⟩), (.int .i64 0), (.int .i64 0), (.int .i64 0), (.int .i64 0), (.int .i64 0), (.int .i64 0), (.slice none 0 0), (.bool false)]) 96 rfl Try.underlying29 info45 rfl (by decide) (by omega) (.slice none 0 0) ([] : List (S45)) y123 _ _ _ (fun k_ => ((P0_ k_ ∨ P1_7_ k_) ∨ w.heap.size ≤ k_) ∧ k_ ≠ gb101) (fun k_ => ((fun k_ => ((P0_ k_ ∨ P1_7_ k_) ∨ w.heap.size ≤ k_) ∧ k_ ≠ gb101)) k_ ∧ some k_ ≠ (.slice none 0 0 : Value).ownBlock) rfl rfl ?aO ?aR (fun _ hk => hk) ?aF ?aB ?aS ?aL ?_; (case aR => exact (by skip; exact Kd.V_F (Kd.V_mono (ok' := (fun k_ => ((fun k_ => ((P0_ k_ ∨ P1_7_ k_) ∨ w.heap.size ≤ k_) ∧ k_ ≠ gb101)) k_ ∧ some k_ ≠ (.slice none 0 0 : Value).ownBlock)) (HO127.out) (fun k_ hk => ⟨⟨hk.1, hk.2⟩, (by simp [Value.ownBlock])⟩)))); (case aB => exact hbZ); (case aF => exact (fun k_ hk => ⟨(.inr (Nat.le_trans (below_size hbZ) hk)), Kd.freshB (g := gb101) bkZ k_ hk⟩)); (case aO => exact ((Kd.N_nil _ _ _ _ (fun k_ => ((P0_ k_ ∨ P1_7_ k_) ∨ w.heap.size ≤ k_) ∧ k_ ≠ gb101)))); (case aS => exact (below_size hbZ)); (case aL => have := LMc27.out; omega); intro v129 w34 ho hb hg hat; rw [← Ny128.out] at ho; have _ := aM (Kd.V_afterv (Kd.V_apart_nil (vZ HO_0.out)) hg hat); have _ := aM (Kd.V_afterv (Kd.V_apart_nil (vZ HO_102007.out)) hg hat); have _ := aM (blk_grown (g := gb101) bkZ hg (by simp [Value.ownBlock])); have _ := aM (Kd.V_afterv (Kd.V_apart_nil (vZ HO127.out)) hg hat); have _ := aM hb; have _ := aM ho; clear HO_0 HO_102007 BK101 HO127 HB; rename_i HO_0 HO_102007 BK101 HO127 HB HO130; clear ho hb hg hat; have hz35 := cellsZ9 BK101.out) | ((with_reducible refine gate_builtin (b := .append) (xs := #[.tmp 26, .tmp 28]) rfl ?_); at_builtin; refine Kd.N_append k45 (w0 := w) w.heap.size rfl (.tmp 26) (.tmp 28) 29 45 (.agg #[(.string ⟨#[]⟩), (.int .i64 0), (.int .i64 0), (.int .i64 0), (.int .i64 0), (.int .i64 0), (.int .i64 0), (.slice none 0 0), (.bool false)]) 96 rfl Try.underlying29 info45 rfl (by decide) (by omega) v129 y128 (⟨a1_0, a1_1, a1_2, (⟨a1_3, a1_4, a1_5, a1_6, l1_7, a1_8⟩ : S26)⟩ : S45) [.string a1_0, .int .i64 a1_1, .int .i64 a1_2, .int .i64 a1_3, .int .i64 a1_4, .int .i64 a1_5, .int .i64 a1_6, .slice A1_7 l1_7.length c1_7, .bool a1_8] (fun k_ => ((P0_ k_ ∨ P1_7_ k_) ∨ w.heap.size ≤ k_) ∧ k_ ≠ gb101) (fun k_ => ((fun k_ => ((P0_ k_ ∨ P1_7_ k_) ∨ w.heap.size ≤ k_) ∧ k_ ≠ gb101)) k_ ∧ some k_ ≠ (v129 : Value).ownBlock) rfl rfl ?aP (fun _ hk => hk) ?aF ?aO ?aB ?aS ?aL ?_; (case aP => exact (k45_mkF _ _ (⟨a1_0, a1_1, a1_2, (⟨a1_3, a1_4, a1_5, a1_6, l1_7, a1_8⟩ : S26)⟩ : S45) (Kd.V_reads' (Kd.V_mono (ok' := (fun k_ => ((fun k_ => ((P0_ k_ ∨ P1_7_ k_) ∨ w.heap.size ≤ k_) ∧ k_ ≠ gb101)) k_ ∧ some k_ ≠ (v129 : Value).ownBlock)) (HO_102007.out) (fun k_ hk => ⟨⟨hk.1.1, hk.1.2⟩, hk.2⟩))).2.1 (Kd.V_F (Kd.V_mono (ok' := (fun k_ => ((fun k_ => ((P0_ k_ ∨ P1_7_ k_) ∨ w.heap.size ≤ k_) ∧ k_ ≠ gb101)) k_ ∧ some k_ ≠ (v129 : Value).ownBlock)) (HO_102007.out) (fun k_ hk => ⟨⟨hk.1.1, hk.1.2⟩, hk.2⟩))))); (case aB => exact hbZ); (case aF => exact (fun k_ hk => ⟨(.inr (Nat.le_trans (below_size hbZ) hk)), Kd.freshB (g := gb101) bkZ k_ hk⟩)); (case aO => exact (by (with_reducible repeat (first | apply Kd.N_alloc | apply Kd.N_drewN | apply Kd.N_drew)); exact HO130.out)); (case aS => exact (below_size hbZ)); (case aL => have := LMc28.out; omega); intro v132 w36 ho hb hg hat; rw [← Ny131.out] at ho; have _ := aM (Kd.V_afterv (ok := (fun k_ => ((P0_ k_ ∨ P1_7_ k_) ∨ w.heap.size ≤ k_) ∧ k_ ≠ gb101)) (vZ HO_0.out) hg hat); have _ := aM (Kd.V_afterv (ok := (fun k_ => ((P0_ k_ ∨ P1_7_ k_) ∨ w.heap.size ≤ k_) ∧ k_ ≠ gb101)) (vZ HO_102007.out) hg hat); have _ := aM (blk_grown (g := gb101) bkZ hg (Kd.N_away HO130.out (fun _ hk => hk.2))); have _ := aM (Kd.V_afterv (ok := (fun k_ => ((P0_ k_ ∨ P1_7_ k_) ∨ w.heap.size ≤ k_) ∧ k_ ≠ gb101)) (vZ HO127.out) hg hat); have _ := aM hb; have _ := aM ho; clear HO_0 HO_102007 BK101 HO127 HB HO130; rename_i HO_0 HO_102007 BK101 HO127 HB HO133; clear ho hb hg hat; have q37 : (x5_1 : Int) ≤ ((l0.length : Int) : Int) := of_decide_eq_true z1200; obtain ⟨i037, hi037, _, hsz37, _⟩ := info_parts info45; have hroom37 : l0.length ≤ c0 := (Kd.V_reads' HO_0.out).2.1; have hC37 : Kd.F k45 _ _ A0 l0.length l0 := (Kd.V_at (base := w.heap.size) HO_0.out).2.2; have q037 : (0 : Int) ≤ (x5_1 : Int) := of_decide_eq_true z1200; have hcut37 := cut_from (P := Try.prog) 29 45 .i64 Try.underlying29 hi037 9 hsz37 A0 l0.length c0 x5_1 q037 q37; have hr37 := Kd.F_cut (m := (x5_1 : Int).toNat) (c := c0) hC37 (by omega) hroom37; obtain ⟨A37, hA37⟩ : ∃ A1, A1 = (if c0 = (x5_1 : Int).toNat then A0 else (A0 : Option Addr).map (·.add ((x5_1 : Int).toNat * 9))) := ⟨_, rfl⟩; obtain ⟨c37, hc37⟩ : ∃ c1, c1 = c0 - (x5_1 : Int).toNat := ⟨_, rfl⟩; have hy37 : y134.length = l0.length - (x5_1 : Int).toNat := (by rw [Ny134.out, List.length_drop] <;> omega); rw [show (l0).drop (x5_1 : Int).toNat = y134 from Ny134.out.symm] at hr37; replace hr37 : Kd.F k45 _ _ A37 y134.length y134 := (by rw [hA37]; exact hr37); rw [← hy37, ← hA37, ← hc37] at hcut37; have HO138 := aM (show Kd.V k45 45 _ w.heap.size _ (.slice A37 y134.length c37) y134 from Kd.V_mk (by rw [hy37, hc37]; exact Nat.sub_le_sub_right hroom37 _) hr37); have HC138 := aM (show y134.length ≤ c37 from by rw [hy37, hc37]; exact Nat.sub_le_sub_right hroom37 _); clear hr37 hC37 hroom37 hi037 hsz37 hc37; have KY37 := aM hy37; have KA37 := aM hA37; clear hy37 hA37; replace q37 := eq_true q37) | ((with_reducible refine gate_builtin (b := .append) (xs := #[.tmp 30, .tmp 33]) rfl ?_); at_builtin; refine Kd.N_append_rows k45 (w0 := w) w.heap.size rfl (.tmp 30) (.tmp 33) 29 45 (.agg #[(.string ⟨#[]⟩), (.int .i64 0), (.int .i64 0), (.int .i64 0), (.int .i64 0), (.int .i64 0), (.int .i64 0), (.slice none 0 0), (.bool false)]) 96 rfl Try.underlying29 info45 rfl (by decide) (by omega) v132 y131 y134 _ _ _ (fun k_ => ((P0_ k_ ∨ P1_7_ k_) ∨ w.heap.size ≤ k_) ∧ k_ ≠ gb101) (fun k_ => ((fun k_ => ((P0_ k_ ∨ P1_7_ k_) ∨ w.heap.size ≤ k_) ∧ k_ ≠ gb101)) k_ ∧ some k_ ≠ (v132 : Value).ownBlock) rfl rfl ?aO ?aR (fun _ hk => hk) ?aF ?aB ?aS ?aL ?_; (case aR => exact (by skip; exact Kd.V_F (Kd.V_mono (ok' := (fun k_ => ((fun k_ => ((P0_ k_ ∨ P1_7_ k_) ∨ w.heap.size ≤ k_) ∧ k_ ≠ gb101)) k_ ∧ some k_ ≠ (v132 : Value).ownBlock)) (HO138.out) (fun k_ hk => ⟨⟨hk.1.1, hk.1.2⟩, hk.2⟩)))); (case aB => exact hbZ); (case aF => exact (fun k_ hk => ⟨(.inr (Nat.le_trans (below_size hbZ) hk)), Kd.freshB (g := gb101) bkZ k_ hk⟩)); (case aO => exact (by (with_reducible repeat (first | apply Kd.N_alloc | apply Kd.N_drewN | apply Kd.N_drew)); exact HO133.out)); (case aS => exact (below_size hbZ)); (case aL => have := LMc31.out; omega); intro v140 w38 ho hb hg hat; rw [← Ny139.out] at ho; have _ := aM (Kd.V_afterv (ok := (fun k_ => ((P0_ k_ ∨ P1_7_ k_) ∨ w.heap.size ≤ k_) ∧ k_ ≠ gb101)) (vZ HO_0.out) hg hat); have _ := aM (Kd.V_afterv (ok := (fun k_ => ((P0_ k_ ∨ P1_7_ k_) ∨ w.heap.size ≤ k_) ∧ k_ ≠ gb101)) (vZ HO_102007.out) hg hat); have _ := aM (blk_grown (g := gb101) bkZ hg (Kd.N_away HO133.out (fun _ hk => hk.2))); have _ := aM (Kd.V_afterv (ok := (fun k_ => ((P0_ k_ ∨ P1_7_ k_) ∨ w.heap.size ≤ k_) ∧ k_ ≠ gb101)) (vZ HO127.out) hg hat); have _ := aM (Kd.V_afterv (ok := (fun k_ => ((P0_ k_ ∨ P1_7_ k_) ∨ w.heap.size ≤ k_) ∧ k_ ≠ gb101)) (vZ HO138.out) hg hat); have _ := aM hb; have _ := aM ho; clear HO_0 HO_102007 BK101 HO127 HO138 HB HO133; rename_i HO_0 HO_102007 BK101 HO127 HO138 HB HO141; clear ho hb hg hat))
     go_ret
     exact ⟨_, z674d, by (with_reducible repeat (first | apply Kd.N_alloc | apply Kd.N_drewN | apply Kd.N_drew)); exact Kd.N_mono HO141.out (fun _ hk => hk.1), zcb41⟩
mutual
def spec_PutEntry.j0 : Nat → List (S45) → Bool → ByteArray → Int → Int → Int → Int → Int → Int → List Int → Bool → Option ((List (S45)) × Bool)
 | 0, _, _, _, _, _, _, _, _, _, _, _ => none
 | k + 1, x0, x20, x102000, x102001, x102002, x102003, x102004, x102005, x102006, x102007, x102008 => if x20 = true then (some (([] : List (S45)), false)) else (spec_PutEntry.l0 k x0 x0 (x0.length : Int) 0 x102000 x102001 x102002 x102003 x102004 x102005 x102006 x102007 x102008)
def spec_PutEntry.l0 : Nat → List (S45) → List (S45) → Int → Int → ByteArray → Int → Int → Int → Int → Int → Int → List Int → Bool → Option ((List (S45)) × Bool)
 | 0, _, _, _, _, _, _, _, _, _, _, _, _, _ => none
 | k + 1, x0, x21, x22, x23, x102000, x102001, x102002, x102003, x102004, x102005, x102006, x102007, x102008 => if x23 < x22 then (if 0 ≤ x23 then (if x23 < (x21.length : Int) then (if ((rd_T45 x21 x23).f1) = x102001 then (some (([] : List (S45)), false)) else (spec_PutEntry.l0 k x0 x21 x22 (wrap64 (x23 + 1)) x102000 x102001 x102002 x102003 x102004 x102005 x102006 x102007 x102008)) else (none)) else (none)) else ((spec_l5Put.f k x0 x102000 x102001 x102002 x102003 x102004 x102005 x102006 x102007 x102008).bind fun t106 => ((spec_l5Own.f k t106).bind fun t109 => (some (t109, true))))
end
def spec_PutEntry.f (k : Nat) (l0 : List (S45)) (a1_0 : ByteArray) (a1_1 : Int) (a1_2 : Int) (a1_3 : Int) (a1_4 : Int) (a1_5 : Int) (a1_6 : Int) (l1_7 : List Int) (a1_8 : Bool) : Option ((List (S45)) × Bool) := if (l0.length : Int) ≥ 60 then (spec_PutEntry.j0 k l0 true a1_0 a1_1 a1_2 a1_3 a1_4 a1_5 a1_6 l1_7 a1_8) else ((spec_GoodEntries.f k l0).bind fun t102 => (if t102 = true then ((spec_GoodEntry.f k a1_0 a1_1 a1_2 a1_3 a1_4 a1_5 a1_6 l1_7 a1_8).bind fun t103 => (spec_PutEntry.j0 k l0 (!t103) a1_0 a1_1 a1_2 a1_3 a1_4 a1_5 a1_6 l1_7 a1_8)) else (spec_PutEntry.j0 k l0 true a1_0 a1_1 a1_2 a1_3 a1_4 a1_5 a1_6 l1_7 a1_8)))
theorem spec_PutEntry.mono_l : ∀ k, (∀ y0 y1 y2 y3 y4 y5 y6 y7 y8 y9 y10, LeO (spec_PutEntry.j0 k y0 y1 y2 y3 y4 y5 y6 y7 y8 y9 y10) (spec_PutEntry.j0 (k + 1) y0 y1 y2 y3 y4 y5 y6 y7 y8 y9 y10)) ∧ (∀ y0 y1 y2 y3 y4 y5 y6 y7 y8 y9 y10 y11 y12, LeO (spec_PutEntry.l0 k y0 y1 y2 y3 y4 y5 y6 y7 y8 y9 y10 y11 y12) (spec_PutEntry.l0 (k + 1) y0 y1 y2 y3 y4 y5 y6 y7 y8 y9 y10 y11 y12))
 | 0 => ⟨fun _ _ _ _ _ _ _ _ _ _ _ r h => by simp [spec_PutEntry.j0] at h, fun _ _ _ _ _ _ _ _ _ _ _ _ _ r h => by simp [spec_PutEntry.l0] at h⟩
 | k + 1 => by
  obtain ⟨ih0, ih1⟩ := spec_PutEntry.mono_l k; have m0 := @spec_GoodEntries.mono; have m1 := @spec_GoodEntry.mono; have m2 := @spec_l5Own.mono; have m3 := @spec_l5Put.mono
  refine ⟨?_, ?_⟩
  · intro y0 y1 y2 y3 y4 y5 y6 y7 y8 y9 y10
    unfold spec_PutEntry.j0
    exact moZ
  · intro y0 y1 y2 y3 y4 y5 y6 y7 y8 y9 y10 y11 y12
    unfold spec_PutEntry.l0
    exact moZ
theorem spec_PutEntry.mono : ∀ a0 a1 a2 a3 a4 a5 a6 a7 a8 a9 k, LeO (spec_PutEntry.f k a0 a1 a2 a3 a4 a5 a6 a7 a8 a9) (spec_PutEntry.f (k + 1) a0 a1 a2 a3 a4 a5 a6 a7 a8 a9) := by
 intro a0 a1 a2 a3 a4 a5 a6 a7 a8 a9 k
 obtain ⟨ih0, ih1⟩ := spec_PutEntry.mono_l k
 have m0 := @spec_GoodEntries.mono; have m1 := @spec_GoodEntry.mono; have m2 := @spec_l5Own.mono; have m3 := @spec_l5Put.mono
 unfold spec_PutEntry.f
 exact moZ
theorem spec_PutEntry.calls (k : Nat) (P0_ : Nat → Prop) (A0 : Option Addr) (c0 : Nat) (l0 : List (S45)) (a1_0 : ByteArray) (a1_1 : Int) (a1_2 : Int) (a1_3 : Int) (a1_4 : Int) (a1_5 : Int) (a1_6 : Int) (P1_7_ : Nat → Prop) (A1_7 : Option Addr) (c1_7 : Nat) (l1_7 : List Int) (a1_8 : Bool) (r1 : List (S45)) (r2 : Bool) (w : World) (hs0 : Kd.V k45 45 w w.heap.size (fun k_ => P0_ k_) (.slice A0 l0.length c0) l0) (hs1_7 : Kd.V (Kd.int .i64) 3 w w.heap.size (fun k_ => P1_7_ k_) (.slice A1_7 l1_7.length c1_7) l1_7) (h : spec_PutEntry.f k l0 a1_0 a1_1 a1_2 a1_3 a1_4 a1_5 a1_6 l1_7 a1_8 = some (r1, r2)) :
 Calls Try.prog 20 #[.slice A0 l0.length c0, .agg #[.string a1_0, .int .i64 a1_1, .int .i64 a1_2, .int .i64 a1_3, .int .i64 a1_4, .int .i64 a1_5, .int .i64 a1_6, .slice A1_7 l1_7.length c1_7, .bool a1_8]] w fun e w' => ∃ v0_ : Value, e = .returned (.tuple #[v0_, .bool r2]) ∧ Kd.N k45 45 w' w.heap.size (fun k_ => ((P0_ k_ ∨ P1_7_ k_) ∨ w.heap.size ≤ k_)) v0_ r1 ∧ Below w.heap.size w w' := by
 have hu45 := Try.underlying45
 have HO0 := aM (show Kd.V k45 45 w w.heap.size (fun k_ => ((P0_ k_ ∨ P1_7_ k_) ∨ w.heap.size ≤ k_)) (.slice A0 l0.length c0) l0 from Kd.V_mono hs0 (fun k_ hk => .inl (.inl hk)))
 have HO1_7 := aM (show Kd.V (Kd.int .i64) 3 w w.heap.size (fun k_ => ((P0_ k_ ∨ P1_7_ k_) ∨ w.heap.size ≤ k_)) (.slice A1_7 l1_7.length c1_7) l1_7 from Kd.V_mono hs1_7 (fun k_ hk => .inl (.inr hk)))
 have HB := aM (Below.refl w.heap.size w)
 have H : (if (l0.length : Int) ≥ 60 then (spec_PutEntry.j0 k l0 true a1_0 a1_1 a1_2 a1_3 a1_4 a1_5 a1_6 l1_7 a1_8) else ((spec_GoodEntries.f k l0).bind fun t102 => (if t102 = true then ((spec_GoodEntry.f k a1_0 a1_1 a1_2 a1_3 a1_4 a1_5 a1_6 l1_7 a1_8).bind fun t103 => (spec_PutEntry.j0 k l0 (!t103) a1_0 a1_1 a1_2 a1_3 a1_4 a1_5 a1_6 l1_7 a1_8)) else (spec_PutEntry.j0 k l0 true a1_0 a1_1 a1_2 a1_3 a1_4 a1_5 a1_6 l1_7 a1_8)))) = some (r1, r2) := h
 clear h
 have HC3 := aM H
 clear H
 go_enter Try.func20, Try.ntmps20
 go_upto_region 1 with (first | ((with_reducible refine gate_dst (N := 3) rfl ?_); refine bX 3 45 #[.string a1_0, .int .i64 a1_1, .int .i64 a1_2, .int .i64 a1_3, .int .i64 a1_4, .int .i64 a1_5, .int .i64 a1_6, .slice A1_7 l1_7.length c1_7, .bool a1_8] ?_; intro gb101 hg w4 hbox hb; have _ := aM (Kd.V_below (Kd.V_elderB (vZ HO0.out) gb101 (Nat.le_of_eq hg.symm)) hb); have _ := aM (Kd.V_below (Kd.V_elderB (vZ HO1_7.out) gb101 (Nat.le_of_eq hg.symm)) hb); have _ := aM (below_step hbZ hb); have _ := aM hbox; have _ := szZ hg; have _ := szZ hg; clear HO0 HO1_7 HB; rename_i HO0 HO1_7 HB BK101 GW101 GE101; clear hb hbox hg))
 (try simp only [Act.put, List.setIfInBounds_toArray, List.set_cons_zero, List.set_cons_succ])
 go_cut [20] (fun v20 wc => ∃ (kq : Nat) (x20_2 : Bool), v20 = .bool x20_2 ∧ Aside0 (spec_PutEntry.j0 kq l0 x20_2 a1_0 a1_1 a1_2 a1_3 a1_4 a1_5 a1_6 l1_7 a1_8 = some (r1, r2)) ∧ Aside0 (kq ≤ k) ∧ Aside0 (Kd.V k45 45 wc w.heap.size (fun k_ => ((P0_ k_ ∨ P1_7_ k_) ∨ w.heap.size ≤ k_) ∧ k_ ≠ gb101) (.slice A0 l0.length c0) l0) ∧ Aside0 (Kd.V (Kd.int .i64) 3 wc w.heap.size (fun k_ => ((P0_ k_ ∨ P1_7_ k_) ∨ w.heap.size ≤ k_) ∧ k_ ≠ gb101) (.slice A1_7 l1_7.length c1_7) l1_7) ∧ Aside0 (wc.heap[gb101]? = some (.cells #[.string a1_0, .int .i64 a1_1, .int .i64 a1_2, .int .i64 a1_3, .int .i64 a1_4, .int .i64 a1_5, .int .i64 a1_6, (.slice A1_7 l1_7.length c1_7), .bool a1_8] 45 (0, 0))) ∧ Aside0 (Below w.heap.size w wc))
 case first =>
  have H := HC3.out
  clear HC3
  by_cases c5 : (l0.length : Int) ≥ 60
  · rw [if_pos c5] at H
    have c5b0 : decide (60 ≤ (l0.length : Int)) = true := decide_eq_true c5
    have c5b1 : decide (60 ≤ l0.length) = true := decide_eq_true (by omega)
    clear c5
    (first | rw [c5b0] | (simp only [i64_w, i32_w]; rw [c5b0]) | skip)
    have H' := aM H
    clear H
    go_wp2
    go_meet
    case rel => exact ⟨_, (true), z4458, H', ⟨zb79b⟩, ⟨vZ HO0.out⟩, ⟨vZ HO1_7.out⟩, ⟨bkZ⟩, ⟨zcb41⟩⟩
  · rw [if_neg c5] at H
    have c5b0 : decide (60 ≤ (l0.length : Int)) = false := decide_eq_false c5
    have c5b1 : decide (60 ≤ l0.length) = false := decide_eq_false (by omega)
    clear c5
    (first | rw [c5b0] | (simp only [i64_w, i32_w]; rw [c5b0]) | skip)
    obtain ⟨t102, A6, H⟩ := bS H; try dsimp only at H
    by_cases c7 : t102 = true
    · subst c7
      rw [if_pos rfl] at H
      obtain ⟨t103, A8, H⟩ := bS H; try dsimp only at H
      have H' := aM H
      clear H
      go_wp2_with (first | (go_at_call 33; (with_reducible refine (spec_GoodEntries.calls k _ _ l0 true _ ?side1 ?side2 A6.out).mono ?_); (case side1 => exact (by repeat (first | exact (Kd.V_reads' HO0.out).2.2 | (with_reducible refine Kd.C_alloc ?_ _) | (with_reducible refine Kd.C_drewN ?_ _) | (with_reducible refine Kd.C_drew ?_)))); (case side2 => exact (Kd.V_reads' HO0.out).2.1); rintro e w9 ⟨rfl, hb⟩; have _ := aM (Kd.V_below (vZ HO0.out) hb); have _ := aM (Kd.V_below (vZ HO1_7.out) hb); have _ := bB gb101 hb; have _ := aM (below_step hbZ hb); clear HO0 HO1_7 BK101 HB; rename_i HO0 HO1_7 BK101 HB; (try clear hb); have hz10 := cellsZ9 BK101.out) | (go_at_call 43; (with_reducible refine (spec_GoodEntry.calls k a1_0 a1_1 a1_2 a1_3 a1_4 a1_5 a1_6 _ _ l1_7 a1_8 t103 _ ?side1 ?side2 A8.out).mono ?_); (case side1 => exact (by repeat (first | exact (Kd.V_reads' HO1_7.out).2.2 | (with_reducible refine Kd.C_alloc ?_ _) | (with_reducible refine Kd.C_drewN ?_ _) | (with_reducible refine Kd.C_drew ?_)))); (case side2 => exact (Kd.V_reads' HO1_7.out).2.1); rintro e w11 ⟨rfl, hb⟩; have _ := aM (Kd.V_below (vZ HO0.out) hb); have _ := aM (Kd.V_below (vZ HO1_7.out) hb); have _ := bB gb101 hb; have _ := aM (below_step hbZ hb); clear HO0 HO1_7 BK101 HB; rename_i HO0 HO1_7 BK101 HB; (try clear hb)))
      go_meet
      case rel => exact ⟨_, (!t103), z4458, H', ⟨zb79b⟩, ⟨vZ HO0.out⟩, ⟨vZ HO1_7.out⟩, ⟨bkZ⟩, ⟨zcb41⟩⟩
    · replace c7 := Bool.eq_false_iff.mpr c7
      subst c7
      rw [if_neg (show ¬ (false = true) by decide)] at H
      have H' := aM H
      clear H
      go_wp2_with (first | (go_at_call 33; (with_reducible refine (spec_GoodEntries.calls k _ _ l0 false _ ?side1 ?side2 A6.out).mono ?_); (case side1 => exact (by repeat (first | exact (Kd.V_reads' HO0.out).2.2 | (with_reducible refine Kd.C_alloc ?_ _) | (with_reducible refine Kd.C_drewN ?_ _) | (with_reducible refine Kd.C_drew ?_)))); (case side2 => exact (Kd.V_reads' HO0.out).2.1); rintro e w12 ⟨rfl, hb⟩; have _ := aM (Kd.V_below (vZ HO0.out) hb); have _ := aM (Kd.V_below (vZ HO1_7.out) hb); have _ := bB gb101 hb; have _ := aM (below_step hbZ hb); clear HO0 HO1_7 BK101 HB; rename_i HO0 HO1_7 BK101 HB; (try clear hb)))
      go_meet
      case rel => exact ⟨_, (true), z4458, H', ⟨zb79b⟩, ⟨vZ HO0.out⟩, ⟨vZ HO1_7.out⟩, ⟨bkZ⟩, ⟨zcb41⟩⟩
 case rest =>
  clear HC3
  (try clear c1)
  obtain ⟨kq, x20_2, rfl, HA, HJ2, HO_0, HO_102007, BK101, HB⟩ := hcut
  cases kq with
  | zero => exact absurd HA.out (by simp [spec_PutEntry.j0])
  | succ kj2 =>
   have H := HA.out
   clear HA
   simp only [spec_PutEntry.j0] at H
   by_cases c13 : x20_2 = true
   · subst c13
     rw [if_pos rfl] at H
     simp only [Option.some.injEq, Prod.mk.injEq] at H
     obtain ⟨rfl, rfl⟩ := H
     go_wp2
     go_ret2
     exact ⟨_, z674d, z2bfb, zcb41⟩
   · replace c13 := Bool.eq_false_iff.mpr c13
     subst c13
     rw [if_neg (show ¬ (false = true) by decide)] at H
     have H' := aM H
     clear H
     go_wp2
     go_loopg [23] kj2 (fun kq v23 w' => ∃ (x23_2 : Int), v23 = .int .i64 x23_2 ∧ Aside0 (spec_PutEntry.l0 kq l0 l0 (l0.length : Int) x23_2 a1_0 a1_1 a1_2 a1_3 a1_4 a1_5 a1_6 l1_7 a1_8 = some (r1, r2)) ∧ Aside0 (kq ≤ kj2) ∧ Aside0 (Kd.V k45 45 w' w.heap.size (fun k_ => ((P0_ k_ ∨ P1_7_ k_) ∨ w.heap.size ≤ k_) ∧ k_ ≠ gb101) (.slice A0 l0.length c0) l0) ∧ Aside0 (Kd.V k45 45 w' w.heap.size (fun k_ => ((P0_ k_ ∨ P1_7_ k_) ∨ w.heap.size ≤ k_) ∧ k_ ≠ gb101) (.slice A0 l0.length c0) l0) ∧ Aside0 (Kd.V (Kd.int .i64) 3 w' w.heap.size (fun k_ => ((P0_ k_ ∨ P1_7_ k_) ∨ w.heap.size ≤ k_) ∧ k_ ≠ gb101) (.slice A1_7 l1_7.length c1_7) l1_7) ∧ Aside0 (w'.heap[gb101]? = some (.cells #[.string a1_0, .int .i64 a1_1, .int .i64 a1_2, .int .i64 a1_3, .int .i64 a1_4, .int .i64 a1_5, .int .i64 a1_6, (.slice A1_7 l1_7.length c1_7), .bool a1_8] 45 (0, 0))) ∧ Aside0 (Below w.heap.size w w'))
     case atStart => exact ⟨(0), z4458, H', ⟨Nat.le_refl _⟩, ⟨vZ HO_0.out⟩, ⟨vZ HO_0.out⟩, ⟨vZ HO_102007.out⟩, ⟨bkZ⟩, ⟨zcb41⟩⟩
     case round =>
      clear H'
      (try clear c13)
      obtain ⟨x23_2, rfl, HA, HK2, HO_0, HO_21, HO_102007, BK101, HB⟩ := hrel
      cases gk with
      | zero => exact absurd HA.out (by simp [spec_PutEntry.l0])
      | succ k2 =>
       have H := HA.out
       clear HA
       simp only [spec_PutEntry.l0] at H
       by_cases c14 : x23_2 < (l0.length : Int)
       · rw [if_pos c14] at H
         have c14b0 := dL c14
         clear c14
         obtain ⟨c15b0, H⟩ := sE H
         obtain ⟨c16b0, H⟩ := sL H
         by_cases c17 : ((rd_T45 l0 x23_2).f1) = a1_1
         · rw [if_pos c17] at H
           have c17b0 : (((rd_T45 l0 x23_2).f1) == a1_1) = true := beq_iff_eq.mpr c17
           have c17b1 : (((rd_T45 l0 x23_2).f1) != a1_1) = false := bne_eq_false_iff_eq.mpr c17
           clear c17
           simp only [Option.some.injEq, Prod.mk.injEq] at H
           obtain ⟨rfl, rfl⟩ := H
           have p104 : 0 ≤ (x23_2 : Int) := of_decide_eq_true z1200
           have q104 : x23_2 < (l0.length : Int) := of_decide_eq_true z1200
           obtain ⟨ad104, A104_7, c104_7, e104, hx104_0, hx104_1, hx104_2, hx104_3, hx104_4, hx104_5, hx104_6, hx104_7, hx104_8, hl104_7, hi104_7⟩ := at_T45 (Kd.V_reads' HO_21.out).2.2 x23_2 p104 q104
           cases e104
           obtain ⟨ce104, hce104, hMe104, hcc104⟩ := Kd.V_get HO_21.out z45 x23_2 p104 (by first | exact q104 | exact of_decide_eq_true z1200 | (have e_ := (Kd.V_reads' HO_21.out).1; omega))
           obtain ⟨ua104_7, uc104_7, rfl, ul104_7, ge104_7⟩ := k45_openF hMe104
           have hv104_7 := hcc104 7 _ rfl
           rw [add_field _ _ 7 (by omega)] at hv104_7
           replace hv104_7 := Option.some.inj (hv104_7.symm.trans hx104_7)
           injection hv104_7 with hva_ hvn_ hvc_
           rw [hva_] at ge104_7
           rw [hvc_] at ul104_7
           have HL104_7 := aM (show Kd.V (Kd.int .i64) 3 _ w.heap.size _ _ ((rd_T45 l0 x23_2).f3.f4) from Kd.V_mk ul104_7 ge104_7)
           clear hva_ hvn_ hvc_ ge104_7 ul104_7
           clear hcc104 hce104
           have HR104_7 := aM hi104_7
           have HC104_7 := aM hl104_7
           clear hi104_7 hl104_7
           replace p104 := eq_true p104
           replace q104 := eq_true q104
           go_wp2_with (first | ((with_reducible refine gate_dst (N := 7) rfl ?_); refine bX 7 45 #[.string (⟨#[]⟩ : ByteArray), .int .i64 0, .int .i64 0, .int .i64 0, .int .i64 0, .int .i64 0, .int .i64 0, .slice none 0 0, .bool false] ?_; intro gb105 hg w18 hbox hb; have _ := aM (Kd.V_below (Kd.V_elderB (vZ HO_0.out) gb105 (Nat.le_of_eq hg.symm)) hb); have _ := aM (Kd.V_below (Kd.V_elderB (vZ HO_21.out) gb105 (Nat.le_of_eq hg.symm)) hb); have _ := aM (Kd.V_below (Kd.V_elderB (vZ HO_102007.out) gb105 (Nat.le_of_eq hg.symm)) hb); have _ := aM (Kd.V_below (Kd.V_elderB (vZ HL104_7.out) gb105 (Nat.le_of_eq hg.symm)) hb); have _ := bB gb101 hb; have _ := aM (Kd.C_below (by repeat (first | (with_reducible exact HR104_7.out) | (with_reducible refine Kd.C_alloc ?_ _) | (with_reducible refine Kd.C_drewN ?_ _) | (with_reducible refine Kd.C_drew ?_) | exact HR104_7.out)) hb); have _ := aM (below_step hbZ hb); have _ := aM hbox; have _ := szZ hg; have _ := szZ hg; have ⟨_, _⟩ := nbB gb101 hg; clear HO_0 HO_21 HO_102007 HL104_7 BK101 HR104_7 HB; rename_i HO_0 HO_21 HO_102007 HL104_7 BK101 HR104_7 HB BK105 GW105 GE105 NB101_105 NB105_101; clear hb hbox hg; have hnb19 := NB105_101.out; have hnc19 := NB101_105.out; have hz20 := cellsZ9 BK105.out; have hz21 := cellsZ9 BK101.out))
           go_ret2
           exact ⟨_, z674d, z2bfb, zcb41⟩
         · rw [if_neg c17] at H
           have c17b0 := eqN c17
           have H' := aM H
           clear H
           have p104 : 0 ≤ (x23_2 : Int) := of_decide_eq_true z1200
           have q104 : x23_2 < (l0.length : Int) := of_decide_eq_true z1200
           obtain ⟨ad104, A104_7, c104_7, e104, hx104_0, hx104_1, hx104_2, hx104_3, hx104_4, hx104_5, hx104_6, hx104_7, hx104_8, hl104_7, hi104_7⟩ := at_T45 (Kd.V_reads' HO_21.out).2.2 x23_2 p104 q104
           cases e104
           obtain ⟨ce104, hce104, hMe104, hcc104⟩ := Kd.V_get HO_21.out z45 x23_2 p104 (by first | exact q104 | exact of_decide_eq_true z1200 | (have e_ := (Kd.V_reads' HO_21.out).1; omega))
           obtain ⟨ua104_7, uc104_7, rfl, ul104_7, ge104_7⟩ := k45_openF hMe104
           have hv104_7 := hcc104 7 _ rfl
           rw [add_field _ _ 7 (by omega)] at hv104_7
           replace hv104_7 := Option.some.inj (hv104_7.symm.trans hx104_7)
           injection hv104_7 with hva_ hvn_ hvc_
           rw [hva_] at ge104_7
           rw [hvc_] at ul104_7
           have HL104_7 := aM (show Kd.V (Kd.int .i64) 3 _ w.heap.size _ _ ((rd_T45 l0 x23_2).f3.f4) from Kd.V_mk ul104_7 ge104_7)
           clear hva_ hvn_ hvc_ ge104_7 ul104_7
           clear hcc104 hce104
           have HR104_7 := aM hi104_7
           have HC104_7 := aM hl104_7
           clear hi104_7 hl104_7
           replace p104 := eq_true p104
           replace q104 := eq_true q104
           go_wp2_with (first | ((with_reducible refine gate_dst (N := 7) rfl ?_); refine bX 7 45 #[.string (⟨#[]⟩ : ByteArray), .int .i64 0, .int .i64 0, .int .i64 0, .int .i64 0, .int .i64 0, .int .i64 0, .slice none 0 0, .bool false] ?_; intro gb105 hg w22 hbox hb; have _ := aM (Kd.V_below (Kd.V_elderB (vZ HO_0.out) gb105 (Nat.le_of_eq hg.symm)) hb); have _ := aM (Kd.V_below (Kd.V_elderB (vZ HO_21.out) gb105 (Nat.le_of_eq hg.symm)) hb); have _ := aM (Kd.V_below (Kd.V_elderB (vZ HO_102007.out) gb105 (Nat.le_of_eq hg.symm)) hb); have _ := aM (Kd.V_below (Kd.V_elderB (vZ HL104_7.out) gb105 (Nat.le_of_eq hg.symm)) hb); have _ := bB gb101 hb; have _ := aM (Kd.C_below (by repeat (first | (with_reducible exact HR104_7.out) | (with_reducible refine Kd.C_alloc ?_ _) | (with_reducible refine Kd.C_drewN ?_ _) | (with_reducible refine Kd.C_drew ?_) | exact HR104_7.out)) hb); have _ := aM (below_step hbZ hb); have _ := aM hbox; have _ := szZ hg; have _ := szZ hg; have ⟨_, _⟩ := nbB gb101 hg; clear HO_0 HO_21 HO_102007 HL104_7 BK101 HR104_7 HB; rename_i HO_0 HO_21 HO_102007 HL104_7 BK101 HR104_7 HB BK105 GW105 GE105 NB101_105 NB105_101; clear hb hbox hg; have hnb23 := NB105_101.out; have hnc23 := NB101_105.out; have hz24 := cellsZ9 BK105.out; have hz25 := cellsZ9 BK101.out))
           go_roundg k2
           case measure => have := HJ2.out; have := HK2.out; omega
           case rel => exact ⟨(wrap64 (x23_2 + 1)), z4458, H', ⟨by have := HJ2.out; have := HK2.out; omega⟩, ⟨by (with_reducible repeat (first | apply Kd.V_alloc | apply Kd.V_drewN | apply Kd.V_drew)); exact Kd.V_mono (Kd.V_far (p := ⟨gb105, 8, none⟩) (Kd.V_far (p := ⟨gb105, 7, none⟩) (Kd.V_far (p := ⟨gb105, 6, none⟩) (Kd.V_far (p := ⟨gb105, 5, none⟩) (Kd.V_far (p := ⟨gb105, 4, none⟩) (Kd.V_far (p := ⟨gb105, 3, none⟩) (Kd.V_far (p := ⟨gb105, 2, none⟩) (Kd.V_far (p := ⟨gb105, 1, none⟩) (Kd.V_far (p := ⟨gb105, 0, none⟩) (Kd.V_mono HO_0.out (fun k_ hk => (⟨hk, hk.2⟩ : _ ∧ k_ ≠ gb105))) (fun _ hk => hk.2) (.string ((rd_T45 l0 x23_2).f0))) (fun _ hk => hk.2) (.int .i64 ((rd_T45 l0 x23_2).f1))) (fun _ hk => hk.2) (.int .i64 ((rd_T45 l0 x23_2).f2))) (fun _ hk => hk.2) (.int .i64 ((rd_T45 l0 x23_2).f3.f0))) (fun _ hk => hk.2) (.int .i64 ((rd_T45 l0 x23_2).f3.f1))) (fun _ hk => hk.2) (.int .i64 ((rd_T45 l0 x23_2).f3.f2))) (fun _ hk => hk.2) (.int .i64 ((rd_T45 l0 x23_2).f3.f3))) (fun _ hk => hk.2) (.slice A104_7 ((rd_T45 l0 x23_2).f3.f4).length c104_7)) (fun _ hk => hk.2) (.bool ((rd_T45 l0 x23_2).f3.f5))) (fun _ hk => ⟨hk.1.1.1, hk.1.1.2⟩)⟩, ⟨by (with_reducible repeat (first | apply Kd.V_alloc | apply Kd.V_drewN | apply Kd.V_drew)); exact Kd.V_mono (Kd.V_far (p := ⟨gb105, 8, none⟩) (Kd.V_far (p := ⟨gb105, 7, none⟩) (Kd.V_far (p := ⟨gb105, 6, none⟩) (Kd.V_far (p := ⟨gb105, 5, none⟩) (Kd.V_far (p := ⟨gb105, 4, none⟩) (Kd.V_far (p := ⟨gb105, 3, none⟩) (Kd.V_far (p := ⟨gb105, 2, none⟩) (Kd.V_far (p := ⟨gb105, 1, none⟩) (Kd.V_far (p := ⟨gb105, 0, none⟩) (Kd.V_mono HO_21.out (fun k_ hk => (⟨hk, hk.2⟩ : _ ∧ k_ ≠ gb105))) (fun _ hk => hk.2) (.string ((rd_T45 l0 x23_2).f0))) (fun _ hk => hk.2) (.int .i64 ((rd_T45 l0 x23_2).f1))) (fun _ hk => hk.2) (.int .i64 ((rd_T45 l0 x23_2).f2))) (fun _ hk => hk.2) (.int .i64 ((rd_T45 l0 x23_2).f3.f0))) (fun _ hk => hk.2) (.int .i64 ((rd_T45 l0 x23_2).f3.f1))) (fun _ hk => hk.2) (.int .i64 ((rd_T45 l0 x23_2).f3.f2))) (fun _ hk => hk.2) (.int .i64 ((rd_T45 l0 x23_2).f3.f3))) (fun _ hk => hk.2) (.slice A104_7 ((rd_T45 l0 x23_2).f3.f4).length c104_7)) (fun _ hk => hk.2) (.bool ((rd_T45 l0 x23_2).f3.f5))) (fun _ hk => ⟨hk.1.1.1, hk.1.1.2⟩)⟩, ⟨by (with_reducible repeat (first | apply Kd.V_alloc | apply Kd.V_drewN | apply Kd.V_drew)); exact Kd.V_mono (Kd.V_far (p := ⟨gb105, 8, none⟩) (Kd.V_far (p := ⟨gb105, 7, none⟩) (Kd.V_far (p := ⟨gb105, 6, none⟩) (Kd.V_far (p := ⟨gb105, 5, none⟩) (Kd.V_far (p := ⟨gb105, 4, none⟩) (Kd.V_far (p := ⟨gb105, 3, none⟩) (Kd.V_far (p := ⟨gb105, 2, none⟩) (Kd.V_far (p := ⟨gb105, 1, none⟩) (Kd.V_far (p := ⟨gb105, 0, none⟩) (Kd.V_mono HO_102007.out (fun k_ hk => (⟨hk, hk.2⟩ : _ ∧ k_ ≠ gb105))) (fun _ hk => hk.2) (.string ((rd_T45 l0 x23_2).f0))) (fun _ hk => hk.2) (.int .i64 ((rd_T45 l0 x23_2).f1))) (fun _ hk => hk.2) (.int .i64 ((rd_T45 l0 x23_2).f2))) (fun _ hk => hk.2) (.int .i64 ((rd_T45 l0 x23_2).f3.f0))) (fun _ hk => hk.2) (.int .i64 ((rd_T45 l0 x23_2).f3.f1))) (fun _ hk => hk.2) (.int .i64 ((rd_T45 l0 x23_2).f3.f2))) (fun _ hk => hk.2) (.int .i64 ((rd_T45 l0 x23_2).f3.f3))) (fun _ hk => hk.2) (.slice A104_7 ((rd_T45 l0 x23_2).f3.f4).length c104_7)) (fun _ hk => hk.2) (.bool ((rd_T45 l0 x23_2).f3.f5))) (fun _ hk => ⟨hk.1.1.1, hk.1.1.2⟩)⟩, ⟨bkZ⟩, ⟨zcb41⟩⟩
       · rw [if_neg c14] at H
         have c14b0 := nL c14
         clear c14
         obtain ⟨t106, A26, H⟩ := bS H; try dsimp only at H
         obtain ⟨t109, A27, H⟩ := bS H; try dsimp only at H
         simp only [Option.some.injEq, Prod.mk.injEq] at H
         obtain ⟨rfl, rfl⟩ := H
         have hz28 := cellsZ9 BK101.out
         go_wp2_with (first | ((with_reducible refine gate_callee (f := 45) rfl ?_); refine gL 35 Try.func45 #[.slice A0 l0.length c0, .agg #[.string a1_0, .int .i64 a1_1, .int .i64 a1_2, .int .i64 a1_3, .int .i64 a1_4, .int .i64 a1_5, .int .i64 a1_6, .slice A1_7 l1_7.length c1_7, .bool a1_8]] ?_; (with_reducible refine (spec_l5Put.calls k2 (fun k_ => (((P0_ k_ ∨ P1_7_ k_) ∨ w.heap.size ≤ k_) ∧ k_ ≠ gb101)) _ _ l0 a1_0 a1_1 a1_2 a1_3 a1_4 a1_5 a1_6 (fun k_ => (((P0_ k_ ∨ P1_7_ k_) ∨ w.heap.size ≤ k_) ∧ k_ ≠ gb101)) _ _ l1_7 a1_8 t106 _ ?side1 ?side2 A26.out).mono ?_); (case side1 => exact HO_0.out); (case side2 => exact HO_102007.out); rintro e w29 ⟨v107, rfl, ho0, hb⟩; refine ⟨_, rfl, ?_⟩; have _ := aM (Kd.V_elder' (vZ HO_0.out) (Kd.N_base ho0) hb); have _ := aM (Kd.V_elder' (vZ HO_21.out) (Kd.N_base ho0) hb); have _ := aM (Kd.V_elder' (vZ HO_102007.out) (Kd.N_base ho0) hb); have _ := aM (Kd.N_lower (Kd.N_mono (ok' := fun k_ => ((P0_ k_ ∨ P1_7_ k_) ∨ w.heap.size ≤ k_) ∧ k_ ≠ gb101) ho0 (fun k_ hk_ => ⟨Or.elim hk_ (fun hs_ => Or.elim hs_ (fun hs_ => hs_.1) (fun hs_ => hs_.1)) (fun hn_ => (.inr (Nat.le_trans (below_size hbZ) hn_))), Or.elim hk_ (fun hs_ => Or.elim hs_ (fun hs_ => hs_.2) (fun hs_ => hs_.2)) (fun hn_ => (Kd.freshB (g := gb101) bkZ k_ hn_))⟩)) (below_size hbZ)); have _ := bB gb101 hb; have _ := aM (below_step hbZ hb); clear HO_0 HO_21 HO_102007 BK101 HB; rename_i HO_0 HO_21 HO_102007 HO108 BK101 HB; (try clear hb); (try clear ho0); obtain ⟨Ao30, co30, eo30⟩ := Kd.N_slice HO108.out; subst eo30) | ((with_reducible refine gate_callee (f := 44) rfl ?_); refine gL 36 Try.func44 #[.slice Ao30 t106.length co30] ?_; (with_reducible refine (spec_l5Own.calls k2 _ _ t106 t109 _ ?side1 ?side2 A27.out).mono ?_); (case side1 => exact (by repeat (first | exact (Kd.N_reads' HO108.out).2.2 | (with_reducible refine Kd.C_alloc ?_ _) | (with_reducible refine Kd.C_drewN ?_ _) | (with_reducible refine Kd.C_drew ?_)))); (case side2 => exact (Kd.N_reads' HO108.out).2.1); rintro e w31 ⟨v110, rfl, ho0, hb⟩; refine ⟨_, rfl, ?_⟩; have _ := aM (Kd.V_elder' (vZ HO_0.out) (Kd.S_base ho0) hb); have _ := aM (Kd.V_elder' (vZ HO_21.out) (Kd.S_base ho0) hb); have _ := aM (Kd.V_elder' (vZ HO_102007.out) (Kd.S_base ho0) hb); have _ := aM (Kd.N_elder' (by (with_reducible repeat (first | apply Kd.N_alloc | apply Kd.N_drewN | apply Kd.N_drew)); exact HO108.out) (Kd.S_base ho0) hb); have _ := aM (Kd.N_lower (Kd.N_mono (ok' := fun k_ => ((P0_ k_ ∨ P1_7_ k_) ∨ w.heap.size ≤ k_) ∧ some k_ ≠ (.slice Ao30 t106.length co30 : Value).ownBlock ∧ k_ ≠ gb101) (Kd.S_N (Kd.S_bound ho0)) (fun k_ hk_ => ⟨(.inr (Nat.le_trans (below_size hbZ) hk_.2.1)), (Kd.fresh' (Kd.N_lt (by (with_reducible repeat (first | apply Kd.N_alloc | apply Kd.N_drewN | apply Kd.N_drew)); exact HO108.out)) k_ hk_.2.1), (Kd.freshB (g := gb101) bkZ k_ hk_.2.1)⟩)) (below_size hbZ)); have _ := bB gb101 hb; have _ := aM (below_step hbZ hb); clear HO_0 HO_21 HO_102007 HO108 BK101 HB; rename_i HO_0 HO_21 HO_102007 HO108 HO111 BK101 HB; (try clear hb); (try clear ho0)))
         go_ret2
         exact ⟨_, z674d, by (with_reducible repeat (first | apply Kd.N_alloc | apply Kd.N_drewN | apply Kd.N_drew)); exact Kd.N_mono HO111.out (fun _ hk => hk.1), zcb41⟩
end Go.Proofs.Ytdkokfnnebdppaa.P
section
set_option linter.unusedVariables false
set_option linter.unusedSimpArgs false
namespace Go.Proofs.Ytdkokfnnebdppaa.P
open Go Go.RowKit Go.Proofs.YtdkokfnnebdppaaW.PrintWords Go.Proofs.YtdkokfnnebdppaaW.PrintLast Go.Proofs.YtdkokfnnebdppaaW.PrintMore
section
variable {P : Program}
theorem run_copy_rowK (w : World) (t ty e : TypeId) (i : TypeInfo) (g o dLen dCap : Nat) (a : Addr) (sLen sCap : Nat) (cur : Array Value) (cs : List Value)
    (hu : P.underlying t = some (.slice e)) (hi : P.info? e = some i) (hg : w.heap[g]? = some (.cells cur e (0, 0))) (hn : cs.length = Nat.min sLen dLen * i.size)
    (hsrc : ∀ j v, cs[j]? = some v → w.cell? (a.add j) = some v) (hfit : o + cs.length ≤ cur.size) (h1 : ∀ v ∈ cs, v.oneCell' = true) :
    (Builtin.copy_ #[t, t] ty #[.slice (some ⟨g, o, none⟩) dLen dCap, .slice (some a) sLen sCap]).run P w =
      .ok (goInt (Nat.min sLen dLen)) (w.setRow g (cur.toList.take o ++ cs ++ cur.toList.drop (o + cs.length)).toArray) := by
  have hl := run_loadCells_list (P := P) w a cs hsrc
  have hst := run_storeCells_at P g o e cs 0 cur w hg (by simpa using hfit) h1
  simp [Builtin.copy_, run_underlying hu, Builtin.lenOf, Builtin.firstCells, sizeOf, typeInfo, hi, ← hn, hl, hst]
theorem wp_copy_runI (w : World) {o : Oper} {a : Act} {K : Act → World → Prop} {Q : Exit → Act → World → Prop} (d s : Operand) (t t' : TypeId)
    (ho : o.op = .call { callee := .builtin .copy, args := #[d, s], argTypes := #[t, t'] }) (v u : Value) (hd : a.eval d = v) (hs : a.eval s = u) {v' : Value} {w' : World}
    (hr : (Builtin.copy_ #[t, t'] o.type #[v, u]).run P w = .ok v' w') (h : K (a.put o.dst v') w') : o.wp P a w K Q := by
  unfold Oper.wp execOp
  simp only [ho, resolve, invoke, builtin, Sem.run_bind, Sem.run_pure, Result.andThen_ok, List.map_toArray, List.map_cons, List.map_nil, hd, hs, hr]
  exact h
theorem wpList_copy_runI (w : World) {ops : Array Oper} {rest : List Oper} {o : Oper} {a : Act} {Q : Exit → Act → World → Prop} (hgd : o.guard = none) (d s : Operand) (t t' : TypeId)
    (ho : o.op = .call { callee := .builtin .copy, args := #[d, s], argTypes := #[t, t'] }) (v u : Value) (hd : a.eval d = v) (hs : a.eval s = u) {v' : Value} {w' : World}
    (hr : (Builtin.copy_ #[t, t'] o.type #[v, u]).run P w = .ok v' w') (h : wpList P ops Q rest (a.put o.dst v') w') : wpList P ops Q (o :: rest) a w :=
  wpList_plain hgd fun _ hK => wp_copy_runI w d s t t' ho v u hd hs hr (hK _ _ h)
theorem step_copy_runI {ops : Array Oper} {o : Oper} {a : Act} {w : World} {K : Act → World → Prop} {Q : Exit → Act → World → Prop} {E : Prop}
    (hg : o.guard = none) (d x : Operand) (dT sT : TypeId) (hop : o.op = Op.call { callee := Callee.builtin Builtin.copy, args := #[d, x], argTypes := #[dT, sT] })
    (v u : Value) (hd : a.eval d = v) (hx : a.eval x = u) {v' : Value} {w' : World} (hr : (Builtin.copy_ #[dT, sT] o.type #[v, u]).run P w = .ok v' w') (hK : K (a.put o.dst v') w') :
    if Region.wanted o (yielded ops a.tmps) = true then Oper.wp P o a w K Q else E := by
  have hw : Region.wanted o (yielded ops a.tmps) = true := by simp [Region.wanted, hg]
  rw [if_pos hw]
  unfold Oper.wp
  simp [execOp, hop, resolve, invoke, builtin, hd, hx, hr, Result.andThen]
  exact hK
end
section
variable {α : Type} {d : Kd α} {e base : Nat} {okv oku : Nat → Prop} {w w' : World} {v u v1 : Value} {xs : List α} {x : α}
theorem Sin_len (h : Kd.S d e w base okv v xs) : ∃ f inner, w.ownsRow base e d.sz v xs.length inner ∧ (∀ k, v.ownBlock = some k → okv k) ∧ Reps ((Kd.tag f d).M w base (fun k => okv k ∧ some k ≠ v.ownBlock)) d.sz xs.zipIdx inner := by
  obtain ⟨f, h0, inner, ho, hr⟩ := h
  rw [List.length_zipIdx] at ho
  exact ⟨f, inner, ho, h0, hr⟩
theorem cells_at {inner : List Value} {A B : List Value} {z i j : Nat} (h : inner = A ++ B) (hA : A.length = i * z) (hj : j < i) : (inner.drop (j * z)).take z = (A.drop (j * z)).take z := by
  have h1 : j * z + z ≤ i * z := by rw [← Nat.succ_mul]; exact Nat.mul_le_mul_right _ hj
  rw [h, List.drop_append_of_le_length (by omega), List.take_append_of_le_length (by rw [List.length_drop]; omega)]
theorem one_cells {inner : List Value} {f : Nat → Nat} {ok : Nat → Prop} {ps : List (α × Nat)} (hr : Reps ((Kd.tag f d).M w base ok) d.sz ps inner) (hs : 0 < d.sz) : ∀ c ∈ inner, c.oneCell' = true := by
  intro c hc
  obtain ⟨q, hq, rfl⟩ := List.mem_iff_getElem.1 hc
  have hql : q / d.sz < ps.length := by
    rw [Nat.div_lt_iff_lt_mul hs, ← hr.1]; exact hq
  refine (Kd.tag f d).K_one ((Kd.tag f d).K_of_M (hr.2 (q / d.sz) _ (List.getElem?_eq_getElem hql))) _ ?_
  rw [List.mem_iff_getElem?]
  refine ⟨q % d.sz, ?_⟩
  rw [List.getElem?_take, if_pos (Nat.mod_lt _ hs), List.getElem?_drop, Nat.mul_comm, Nat.div_add_mod, List.getElem?_eq_getElem hq]
open Classical in
theorem S_insert {f f2 : Nat → Nat} {inner vin : List Value} {i : Nat} (hi : i ≤ xs.length) (hoL : inner.length = xs.length * d.sz) (h0 : ∀ k, v.ownBlock = some k → okv k) (hr : Reps ((Kd.tag f d).M w base (fun k => okv k ∧ some k ≠ v.ownBlock)) d.sz xs.zipIdx inner)
    (hvL : vin.length = d.sz) (hr2 : Reps ((Kd.tag f2 d).M w base (fun k => oku k ∧ some k ≠ u.ownBlock)) d.sz [x].zipIdx vin) (hap : ∀ k, okv k → ¬ oku k)
    (ho' : w'.ownsRow base e d.sz v1 (xs.length + 1) (inner.take (i * d.sz) ++ vin ++ inner.drop (i * d.sz))) (hg : w.grownBy w' v.ownBlock) (hat : v1.ownBlock = v.ownBlock ∨ ∃ b, v1.ownBlock = some b ∧ w.heap.size ≤ b) :
    Kd.S d e w' base (fun k => okv k ∨ oku k ∨ w.heap.size ≤ k) v1 (xs.take i ++ [x] ++ xs.drop i) := by
  have hlen : (xs.take i ++ [x] ++ xs.drop i).length = xs.length + 1 := by simp only [List.length_append, List.length_take, List.length_drop, List.length_singleton]; omega
  have hm : i * d.sz ≤ xs.length * d.sz := Nat.mul_le_mul_right _ hi
  have hal : (inner.take (i * d.sz)).length = i * d.sz := by rw [List.length_take]; omega
  have hmv : ∀ (y : α) (c : List Value) (P : Nat → Prop) (Q : Nat → Prop), d.M w base P y c → (∀ k, P k → k < w.heap.size → some k ≠ v.ownBlock ∧ Q k) → d.M w' base Q y c := by
    intro y c P Q hp hPQ
    have h1 := d.M_bound hp
    have h2 : d.M w base (fun k => Q k ∧ k < w.heap.size ∧ some k ≠ v.ownBlock) y c := d.M_mono (fun k hk => ⟨(hPQ k hk.1 hk.2.2.1).2, hk.2.2.1, (hPQ k hk.1 hk.2.2.1).1⟩) h1
    have h3 : d.M w' base (fun k => Q k ∧ k < w.heap.size ∧ some k ≠ v.ownBlock) y c := d.M_move (fun k hk => hg.block k hk.2.1 hk.2.2) h2
    exact d.M_mono (fun k hk => hk.1) h3
  have hne : ∀ k, (okv k ∧ some k ≠ v.ownBlock ∨ oku k) → k < w.heap.size → some k ≠ v1.ownBlock := by
    intro k hk hlt he
    rcases hat with h | ⟨b, h, hb⟩
    · rw [h] at he
      rcases hk with hk | hk
      · exact hk.2 he
      · exact hap k (h0 k he.symm) hk
    · rw [h] at he; injection he with he; omega
  refine ⟨fun k => if oku k then i else if f k < i then f k else f k + 1, fun k hk => ?_, inner.take (i * d.sz) ++ vin ++ inner.drop (i * d.sz), by rw [List.length_zipIdx, hlen]; exact ho', by rw [List.length_zipIdx, hlen]; exact ho'.1, fun j p hj => ?_⟩
  · rcases hat with h | ⟨b, h, hb⟩
    · rw [h] at hk; exact .inl (h0 k hk)
    · rw [h] at hk; injection hk with hk; exact .inr (.inr (by omega))
  · rw [List.getElem?_zipIdx, Nat.zero_add] at hj
    obtain ⟨y, hy, rfl⟩ := Option.map_eq_some_iff.1 hj
    show d.M w' base (fun k => ((okv k ∨ oku k ∨ w.heap.size ≤ k) ∧ some k ≠ v1.ownBlock) ∧ (if oku k then i else if f k < i then f k else f k + 1) = j) y (((inner.take (i * d.sz) ++ vin ++ inner.drop (i * d.sz)).drop (j * d.sz)).take d.sz)
    by_cases h1 : j < i
    · have hy' : xs[j]? = some y := by
        rw [List.append_assoc, List.getElem?_append_left (by rw [List.length_take]; omega), List.getElem?_take, if_pos h1] at hy; exact hy
      have hc : ((inner.take (i * d.sz) ++ vin ++ inner.drop (i * d.sz)).drop (j * d.sz)).take d.sz = (inner.drop (j * d.sz)).take d.sz := by
        rw [cells_at (List.append_assoc _ _ _) hal h1, cells_at (List.take_append_drop (i * d.sz) inner).symm hal h1]
      rw [hc]
      refine hmv y _ _ _ (hr.2 j (y, j) (Kd.zip_at hy')) (fun k hk hlt => ⟨hk.1.2, ⟨.inl hk.1.1, hne k (.inl hk.1) hlt⟩, ?_⟩)
      have h2 : f k = j := hk.2
      rw [if_neg (hap k hk.1.1), if_pos (by omega)]; exact h2
    · by_cases h2 : j = i
      · subst h2
        have hy' : y = x := by
          rw [List.append_assoc, List.getElem?_append_right (by rw [List.length_take]; omega), List.length_take, Nat.min_eq_left hi, Nat.sub_self] at hy
          simpa using hy.symm
        subst hy'
        have hc : ((inner.take (j * d.sz) ++ vin ++ inner.drop (j * d.sz)).drop (j * d.sz)).take d.sz = (vin.drop (0 * d.sz)).take d.sz := by
          rw [List.append_assoc, List.drop_left' hal, List.take_left' hvL, Nat.zero_mul, List.drop_zero, List.take_of_length_le (by omega)]
        rw [hc]
        refine hmv y _ _ _ (hr2.2 0 (y, 0) rfl) (fun k hk hlt => ⟨fun he => hap k (h0 k he.symm) hk.1.1, ⟨.inr (.inl hk.1.1), hne k (.inr hk.1.1) hlt⟩, ?_⟩)
        rw [if_pos hk.1.1]
      · obtain ⟨q, rfl⟩ : ∃ q, j = q + 1 := ⟨j - 1, by omega⟩
        have hy' : xs[q]? = some y := by
          rw [List.getElem?_append_right (by simp only [List.length_append, List.length_take, List.length_singleton]; omega), List.getElem?_drop] at hy
          rw [← hy]; congr 1
          simp only [List.length_append, List.length_take, List.length_singleton]; omega
        have hq : i * d.sz ≤ q * d.sz := Nat.mul_le_mul_right _ (by omega)
        have hc : ((inner.take (i * d.sz) ++ vin ++ inner.drop (i * d.sz)).drop ((q + 1) * d.sz)).take d.sz = (inner.drop (q * d.sz)).take d.sz := by
          rw [List.drop_append, List.drop_of_length_le (by rw [List.length_append, hal, hvL, Nat.succ_mul]; omega), List.nil_append, List.drop_drop]
          congr 2
          rw [List.length_append, hal, hvL, Nat.succ_mul]; omega
        rw [hc]
        refine hmv y _ _ _ (hr.2 q (y, q) (Kd.zip_at hy')) (fun k hk hlt => ⟨hk.1.2, ⟨.inl hk.1.1, hne k (.inl hk.1) hlt⟩, ?_⟩)
        have h3 : f k = q := hk.2
        rw [if_neg (hap k hk.1.1), if_neg (by omega), h3]
end
end Go.Proofs.Ytdkokfnnebdppaa.P
end
section
set_option linter.unusedVariables false
set_option linter.unusedSimpArgs false
namespace Go.Proofs.Ytdkokfnnebdppaa.P
open Go Go.RowKit Go.Proofs.YtdkokfnnebdppaaW.PrintWords Go.Proofs.YtdkokfnnebdppaaW.PrintLast Go.Proofs.YtdkokfnnebdppaaW.PrintMore
theorem insE_info : ∃ i, Try.prog.info? 45 = some i ∧ i.size = 9 := by
  obtain ⟨i, h0, h1, h2, _⟩ := info_parts info45
  exact ⟨i, h0, h2⟩
theorem insE_apart (w : World) (g vb o : Nat) (cur vcur : Array Value) (hg : w.heap[g]? = some (.cells cur 45 (0, 0))) (hv : w.heap[vb]? = some (.cells vcur 45 (0, 0))) (hne : vb ≠ g) (hc : cur.size ≠ 0) (lb cb m vc : Nat) :
    (callFunc 96 #[.slice (some ⟨vb, 0, none⟩) m vc, .slice (some ⟨g, o, none⟩) lb cb]).run Try.prog w = .ok (.value (.bool false)) w := by
  obtain ⟨i, hi, hs⟩ := insE_info
  rw [run_callFunc_extern Try.func96 (by kernel_rfl) (by kernel_rfl) (by kernel_rfl) (e := Extern.SlicesOverlaps.overlaps #[29, 29] #[4]) (by kernel_rfl),
    Lib.run_overlaps_apart w 29 4 45 Try.underlying29 9 (fun w => by simp [sizeOf, typeInfo, hi, hs]) ⟨vb, 0, none⟩ ⟨g, o, none⟩ m vc lb cb hne 45 45 vcur.size cur.size (by simp [World.shape?, hv]) (by simp [World.shape?, hg]) hc (by simp [World.frozen?, hv]) (by simp [World.frozen?, hv])]
  rfl
set_option maxHeartbeats 4000000 in
set_option maxRecDepth 100000 in
theorem insE_shift (g n c i vb vc : Nat) (cur vcur : Array Value) (vin : List Value) (w : World) (hi : i < n) (hroom : n + 1 ≤ c) (hc63 : c ≤ 9223372036854775807) (hne : vb ≠ g)
    (hg : w.heap[g]? = some (.cells cur 45 (0, 0))) (hv : w.heap[vb]? = some (.cells vcur 45 (0, 0))) (hcs : cur.size = c * 9) (hvl : vin.length = 9) (hvi : ∀ (j : Nat) (x : Value), vin[j]? = some x → vcur[j]? = some x) (hvz : vcur.size ≠ 0) (h1c : ∀ v ∈ cur.toList.take (n * 9), v.oneCell' = true) (h1v : ∀ v ∈ vin, v.oneCell' = true)
    (R1 R2 : Array Value) (hR1 : R1 = (cur.toList.take ((i + 1) * 9) ++ (cur.toList.take (n * 9)).drop (i * 9) ++ cur.toList.drop ((n + 1) * 9)).toArray) (hR2 : R2 = (R1.toList.take (i * 9) ++ vin ++ R1.toList.drop ((i + 1) * 9)).toArray) :
    Calls Try.prog 82 #[.slice (some ⟨g, 0, none⟩) n c, .int .i64 i, .slice (some ⟨vb, 0, none⟩) 1 vc] w fun e w' =>
      e = .returned (.slice (some ⟨g, 0, none⟩) (n + 1) c) ∧ w' = (w.drew.setRow g R1).setRow g R2 := by
  have hov := insE_apart w g vb ((i + 1) * 9) cur vcur hg hv hne (by omega)
  have hz2 : ¬ ((i : Int) = (n : Int)) := by omega
  have hw1 : IntKind.i64.wrap ((i : Int) + 1) = (i : Int) + 1 := by rw [IntKind.wrap_i64]; omega
  have hw2 : IntKind.i64.wrap ((n : Int) + 1) = (n : Int) + 1 := by rw [IntKind.wrap_i64]; omega
  have hb1 : (0 : Int) ≤ (i : Int) + 1 := by omega
  have hin : i ≤ n := by omega
  have htn : ((i : Int) + 1).toNat = i + 1 := by omega
  have hb2 : ¬ (c = i + 1) := by omega
  have hb3 : (i : Int) ≤ (n : Int) + 1 := by omega
  have hb4 : ¬ (c = i) := by omega
  obtain ⟨ti, hti, hts⟩ := insE_info
  have hmul : ∀ x y : Nat, x ≤ y → x * 9 ≤ y * 9 := fun x y h => Nat.mul_le_mul_right 9 h
  obtain ⟨cs, hcse⟩ : ∃ cs, cs = (cur.toList.take (n * 9)).drop (i * 9) := ⟨_, rfl⟩
  have hcl : cs.length = (n - i) * 9 := by rw [hcse, List.length_drop, List.length_take, Array.length_toList]; omega
  have hget : ∀ j v, cs[j]? = some v → cur[i * 9 + j]? = some v := fun j v hj => by
    rw [hcse, List.getElem?_drop, List.getElem?_take] at hj
    split at hj
    · rw [← Array.getElem?_toList]; exact hj
    · cases hj
  have hg1 : w.drew.heap[g]? = some (.cells cur 45 (0, 0)) := hg
  have hv1 : w.drew.heap[vb]? = some (.cells vcur 45 (0, 0)) := hv
  have hcp1 : ∀ ty dc sc, (Builtin.copy_ #[29, 29] ty #[.slice (some ⟨g, (i + 1) * 9, none⟩) (n - i) dc, .slice (some ⟨g, i * 9, none⟩) (n + 1 - i) sc]).run Try.prog w.drew = .ok (goInt (Nat.min (n + 1 - i) (n - i))) (w.drew.setRow g R1) := fun ty dc sc => by
    rw [run_copy_rowK w.drew 29 ty 45 ti g ((i + 1) * 9) (n - i) dc ⟨g, i * 9, none⟩ (n + 1 - i) sc cur cs Try.underlying29 hti hg1 (by rw [hcl, hts, show Nat.min (n + 1 - i) (n - i) = n - i from by simp only [Nat.min_def]; split <;> omega])
      (fun j v hj => by rw [Addr.add_lit]; simp only [World.cell?, hg1]; exact hget j v hj) (by rw [hcl]; omega) (fun v hv => h1c v (by rw [hcse] at hv; exact List.mem_of_mem_drop hv)), hR1, hcse.symm, show (i + 1) * 9 + cs.length = (n + 1) * 9 from by rw [hcl]; omega]
  have hR1s : R1.size = c * 9 := by
    rw [hR1, ← hcse]
    simp only [List.size_toArray, List.length_append, List.length_take, List.length_drop, Array.length_toList, hcl]
    omega
  obtain ⟨W1, hW1⟩ : ∃ W1, W1 = w.drew.setRow g R1 := ⟨_, rfl⟩
  have hg2 : W1.heap[g]? = some (.cells R1 45 (0, 0)) := by rw [hW1]; exact setRow_heap w.drew g cur R1 45 (0, 0) hg1
  have hv2 : W1.heap[vb]? = some (.cells vcur 45 (0, 0)) := by rw [hW1, setRow_other _ _ _ _ hne]; exact hv1
  have hcp2 : ∀ ty dc, (Builtin.copy_ #[29, 29] ty #[.slice (some ⟨g, i * 9, none⟩) (n + 1 - i) dc, .slice (some ⟨vb, 0, none⟩) 1 vc]).run Try.prog W1 = .ok (goInt (Nat.min 1 (n + 1 - i))) (W1.setRow g R2) := fun ty dc => by
    rw [run_copy_rowK W1 29 ty 45 ti g (i * 9) (n + 1 - i) dc ⟨vb, 0, none⟩ 1 vc R1 vin Try.underlying29 hti hg2 (by rw [hvl, hts, show Nat.min 1 (n + 1 - i) = 1 from by simp only [Nat.min_def]; split <;> omega])
      (fun j v hj => by rw [Addr.add_lit]; simp only [World.cell?, hv2]; rw [Nat.zero_add]; exact hvi j v hj) (by rw [hvl, hR1s]; omega) h1v, hR2, show i * 9 + vin.length = (i + 1) * 9 from by rw [hvl]; omega]
  rw [← hW1] at hcp1 ⊢
  clear hget hmul hW1 hR1 hR2 hcse hcl hR1s hg1 hv1 hg2 hv2 hvi
  have mixed : Try.prog.follows .mixedOrders = true := by kernel_rfl
  go_enter Try.func82, Try.ntmps82
  go_wp2_with (simp only [hov])
  go_region_law_o (refine step_copy_runI rfl _ _ 29 29 rfl _ _ (by simp [Act.eval, Act.put]) (by simp [Act.eval, Act.put]) (hcp1 _ _ _) ?_)
  go_wp2_with (at_builtin; refine wpList_copy_runI _ rfl _ _ 29 29 rfl _ _ rfl rfl (hcp2 _ _) ?_)
  go_ret
  exact ⟨rfl, rfl⟩
set_option maxHeartbeats 4000000 in
set_option maxRecDepth 100000 in
theorem insE_grow (g n c i vb vc : Nat) (cur vcur : Array Value) (vin : List Value) (w : World) (hi : i < n) (hnc : n ≤ c) (hroom : c < n + 1) (hbig : (n + 1) * 96 ≤ 140737488355328) (hne : vb ≠ g)
    (hg : w.heap[g]? = some (.cells cur 45 (0, 0))) (hv : w.heap[vb]? = some (.cells vcur 45 (0, 0))) (hcs : cur.size = c * 9) (hvl : vin.length = 9) (hvi : ∀ (j : Nat) (x : Value), vin[j]? = some x → vcur[j]? = some x) (hvz : vcur.size ≠ 0) (h1c : ∀ v ∈ cur.toList.take (n * 9), v.oneCell' = true) (h1v : ∀ v ∈ vin, v.oneCell' = true) :
    Calls Try.prog 82 #[.slice (some ⟨g, 0, none⟩) n c, .int .i64 i, .slice (some ⟨vb, 0, none⟩) 1 vc] w fun e w' =>
      ∃ (G : Nat) (R : Array Value), e = .returned (.slice (some ⟨w.heap.size, 0, none⟩) (n + 1) G) ∧ n + 1 ≤ G ∧ G ≤ maxLen ∧ R.size = G * 9 ∧ w'.heap[w.heap.size]? = some (.cells R 45 (0, 0)) ∧
        R.toList.take ((n + 1) * 9) = cur.toList.take (i * 9) ++ vin ++ (cur.toList.take (n * 9)).drop (i * 9) ∧ w.grownBy w' none := by
  obtain ⟨ti, hti, hz0, hzs, hzb⟩ := info_parts info45
  have hz2 : ¬ ((i : Int) = (n : Int)) := by omega
  have hz3 : (c : Int) < (n : Int) + 1 := by omega
  have hgw : g < w.heap.size := (Array.getElem?_eq_some_iff.1 hg).1
  have hvw : vb < w.heap.size := (Array.getElem?_eq_some_iff.1 hv).1
  have hkk : (n : Int) + 1 - (i : Int) = ((n + 1 - i : Nat) : Int) := by omega
  have hik : i + (n + 1 - i) = n + 1 := by omega
  obtain ⟨cs, hcse⟩ : ∃ cs, cs = (cur.toList.take (n * 9)).drop (i * 9) := ⟨_, rfl⟩
  have hcl : cs.length = (n - i) * 9 := by rw [hcse, List.length_drop, List.length_take, Array.length_toList]; omega
  have hget : ∀ j v, cs[j]? = some v → cur[i * 9 + j]? = some v := fun j v hj => by
    rw [hcse, List.getElem?_drop, List.getElem?_take] at hj
    split at hj
    · rw [← Array.getElem?_toList]; exact hj
    · cases hj
  have htl : (cur.toList.take (i * 9)).length = i * 9 := by rw [List.length_take, Array.length_toList]; omega
  have hold : (Builtin.firstCells ti.size i (.slice (some ⟨g, 0, none⟩) i c)).run Try.prog w.drew = .ok (cur.toList.take (i * 9)).toArray w.drew := by
    rw [hzs]
    exact run_firstCells_some w.drew 9 i ⟨g, 0, none⟩ i c (cur.toList.take (i * 9)) htl (fun j v hj => by
      rw [Addr.add_lit, Nat.zero_add]
      rw [List.getElem?_take] at hj
      split at hj
      · have hg1 : w.drew.heap[g]? = some (.cells cur 45 (0, 0)) := hg
        simp only [World.cell?, hg1]
        rw [← Array.getElem?_toList]; exact hj
      · cases hj)
  obtain ⟨G, hG⟩ : ∃ G, G = grownCap w (n + 1) c 45 := ⟨_, rfl⟩
  have hGn : n + 1 ≤ G := by rw [hG]; exact grownCap_ge w _ _ _
  have hGm : G ≤ maxLen := by rw [hG]; exact grownCap_le_maxLen w (n + 1) c 45 (by unfold maxLen; omega)
  have hG63 : G ≤ 9223372036854775807 := by unfold maxLen at hGm; omega
  obtain ⟨ROW, hRs, hRt, hrz⟩ : ∃ ROW : Array Value, ROW.size = G * 9 ∧ ROW.toList.take (i * 9) = cur.toList.take (i * 9) ∧ ∀ ty, (Builtin.append_ #[29, 3] ty #[.slice (some ⟨g, 0, none⟩) i c, .int .i64 ((n : Int) + 1 - (i : Int))]).run Try.prog w =
      .ok (.slice (some ⟨w.heap.size, 0, none⟩) (n + 1) G) (w.drew.alloc (.cells ROW 45)) := by
    obtain ⟨z, hz, hzc⟩ : ∃ z, ti.zero = some z ∧ z.cells.size = 9 := ⟨_, hz0, rfl⟩
    refine ⟨(cur.toList.take (i * 9)).toArray ++ Builtin.zeroCells z.cells (n + 1 - i) ++ Builtin.zeroCells z.cells (G - (n + 1)), ?_, ?_, fun ty => ?_⟩
    rotate_left 2
    · have h := Lib.run_append_grow_zeros w 29 3 ty 45 ti _ .i64 .i64 Try.underlying29 Try.underlying3 hti hz (some ⟨g, 0, none⟩) i c (cur.toList.take (i * 9)) hold (n + 1 - i) (by omega) (by omega) (by omega) (by omega) (by rw [hzb]; omega) (by rw [hzb, hik]; exact growslice_fits hroom hbig)
      rw [hik, ← hG] at h
      rw [hkk]
      exact h
    · simp only [Array.size_append, List.size_toArray, htl, size_zeroCells, hzc]
      omega
    · rw [Array.append_assoc, Array.toList_append, List.toList_toArray, List.take_left' htl]
  obtain ⟨RA, hRA⟩ : ∃ RA : Array Value, RA = (ROW.toList.take (i * 9) ++ vin ++ ROW.toList.drop ((i + 1) * 9)).toArray := ⟨_, rfl⟩
  obtain ⟨RB, hRB⟩ : ∃ RB : Array Value, RB = (RA.toList.take ((i + 1) * 9) ++ cs ++ RA.toList.drop ((n + 1) * 9)).toArray := ⟨_, rfl⟩
  have hRtl : (ROW.toList.take (i * 9)).length = i * 9 := by rw [hRt]; exact htl
  have hRAs : RA.size = G * 9 := by
    rw [hRA]
    simp only [List.size_toArray, List.length_append, hRtl, hvl, List.length_drop, Array.length_toList]
    omega
  have hRAt : RA.toList.take ((i + 1) * 9) = cur.toList.take (i * 9) ++ vin := by
    rw [hRA, List.toList_toArray, ← hRt]
    exact List.take_left' (by rw [List.length_append, hRtl, hvl]; omega)
  have hRBs : RB.size = G * 9 := by
    rw [hRB]
    simp only [List.size_toArray, List.length_append, List.length_take, hcl, List.length_drop, Array.length_toList]
    omega
  have hRBt : RB.toList.take ((n + 1) * 9) = cur.toList.take (i * 9) ++ vin ++ cs := by
    rw [hRB, List.toList_toArray, hRAt]
    exact List.take_left' (by simp only [List.length_append, htl, hvl, hcl]; omega)
  have hcpA : ∀ (W : World), W.heap[w.heap.size]? = some (.cells ROW 45 (0, 0)) → W.heap[vb]? = some (.cells vcur 45 (0, 0)) → ∀ ty dc, (Builtin.copy_ #[29, 29] ty #[.slice (some ⟨w.heap.size, i * 9, none⟩) (n + 1 - i) dc, .slice (some ⟨vb, 0, none⟩) 1 vc]).run Try.prog W = .ok (goInt (Nat.min 1 (n + 1 - i))) (W.setRow w.heap.size RA) := fun W h1 h2 ty dc => by
    rw [run_copy_rowK W 29 ty 45 ti w.heap.size (i * 9) (n + 1 - i) dc ⟨vb, 0, none⟩ 1 vc ROW vin Try.underlying29 hti h1 (by rw [hvl, hzs, show Nat.min 1 (n + 1 - i) = 1 from by simp only [Nat.min_def]; split <;> omega])
      (fun j v hj => by rw [Addr.add_lit]; simp only [World.cell?, h2]; rw [Nat.zero_add]; exact hvi j v hj) (by rw [hvl, hRs]; omega) h1v, hRA, show i * 9 + vin.length = (i + 1) * 9 from by rw [hvl]; omega]
  have hcpB : ∀ (W : World), W.heap[w.heap.size]? = some (.cells RA 45 (0, 0)) → W.heap[g]? = some (.cells cur 45 (0, 0)) → ∀ ty dc sc, (Builtin.copy_ #[29, 29] ty #[.slice (some ⟨w.heap.size, (i + 1) * 9, none⟩) (n - i) dc, .slice (some ⟨g, i * 9, none⟩) (n - i) sc]).run Try.prog W = .ok (goInt (Nat.min (n - i) (n - i))) (W.setRow w.heap.size RB) := fun W h1 h2 ty dc sc => by
    rw [run_copy_rowK W 29 ty 45 ti w.heap.size ((i + 1) * 9) (n - i) dc ⟨g, i * 9, none⟩ (n - i) sc RA cs Try.underlying29 hti h1 (by rw [hcl, hzs, show Nat.min (n - i) (n - i) = n - i from by simp only [Nat.min_def]; split <;> omega])
      (fun j v hj => by rw [Addr.add_lit]; simp only [World.cell?, h2]; exact hget j v hj) (by rw [hcl, hRAs]; omega) (fun v hv => h1c v (by rw [hcse] at hv; exact List.mem_of_mem_drop hv)), hRB, show (i + 1) * 9 + cs.length = (n + 1) * 9 from by rw [hcl]; omega]
  have hGi : ¬ (G = i) := by omega
  have hGim : ¬ (G = i + 1) := by omega
  have hci : ¬ (c = i) := by omega
  have hw1 : IntKind.i64.wrap ((i : Int) + 1) = (i : Int) + 1 := by rw [IntKind.wrap_i64]; omega
  have hw2 : IntKind.i64.wrap ((n : Int) + 1) = (n : Int) + 1 := by rw [IntKind.wrap_i64]; omega
  have hw3 : IntKind.i64.wrap ((n : Int) + 1 - (i : Int)) = (n : Int) + 1 - (i : Int) := by rw [IntKind.wrap_i64]; omega
  have hb1 : (0 : Int) ≤ (i : Int) + 1 := by omega
  have hin : i ≤ n := by omega
  have hic : i ≤ c := by omega
  have htn : ((i : Int) + 1).toNat = i + 1 := by omega
  have hb3 : (i : Int) ≤ (n : Int) + 1 := by omega
  have mixed : Try.prog.follows .mixedOrders = true := by kernel_rfl
  have hfin : ∀ W' : World, W'.heap[w.heap.size]? = some (.cells RB 45 (0, 0)) → w.grownBy W' none → ∃ (G_ : Nat) (R : Array Value), (Ending.returned (.slice (some ⟨w.heap.size, 0, none⟩) (n + 1) G)) = .returned (.slice (some ⟨w.heap.size, 0, none⟩) (n + 1) G_) ∧ n + 1 ≤ G_ ∧ G_ ≤ maxLen ∧ R.size = G_ * 9 ∧ W'.heap[w.heap.size]? = some (.cells R 45 (0, 0)) ∧
        R.toList.take ((n + 1) * 9) = cur.toList.take (i * 9) ++ vin ++ (cur.toList.take (n * 9)).drop (i * 9) ∧ w.grownBy W' none := fun W' h1 h2 => ⟨G, RB, rfl, hGn, hGm, hRBs, h1, by rw [hRBt, hcse], h2⟩
  have hA1 : ((w.alloc (.cells ROW 45)).drew).heap[w.heap.size]? = some (.cells ROW 45 (0, 0)) := by
    show (w.heap.push _)[w.heap.size]? = _
    rw [Array.getElem?_push, if_pos rfl]
  have hA2 : ((w.alloc (.cells ROW 45)).drew).heap[vb]? = some (.cells vcur 45 (0, 0)) := by
    show (w.heap.push _)[vb]? = _
    rw [Array.getElem?_push, if_neg (by omega)]; exact hv
  have hA3 : ((w.alloc (.cells ROW 45)).drew).heap[g]? = some (.cells cur 45 (0, 0)) := by
    show (w.heap.push _)[g]? = _
    rw [Array.getElem?_push, if_neg (by omega)]; exact hg
  have hB1 : ((((w.alloc (.cells ROW 45)).drew).setRow w.heap.size RA).drew).heap[w.heap.size]? = some (.cells RA 45 (0, 0)) := setRow_heap _ _ _ RA 45 (0, 0) hA1
  have hB3 : ((((w.alloc (.cells ROW 45)).drew).setRow w.heap.size RA).drew).heap[g]? = some (.cells cur 45 (0, 0)) := (setRow_other _ _ _ _ (by omega)).trans hA3
  have hF1 : (((w.alloc (.cells ROW 45)).drew.setRow w.heap.size RA).drew.setRow w.heap.size RB).heap[w.heap.size]? = some (.cells RB 45 (0, 0)) := setRow_heap _ _ _ RB 45 (0, 0) hB1
  have hF2 : w.grownBy (((w.alloc (.cells ROW 45)).drew.setRow w.heap.size RA).drew.setRow w.heap.size RB) none := by
    refine ⟨rfl, rfl, rfl, ?_, fun k hk _ => ?_⟩
    · rw [size_setRow]
      show w.heap.size ≤ (((w.alloc (.cells ROW 45)).drew.setRow w.heap.size RA)).heap.size
      rw [size_setRow]
      show w.heap.size ≤ (w.heap.push _).size
      rw [Array.size_push]; exact Nat.le_succ _
    · rw [setRow_other _ _ _ _ (by omega)]
      show (((w.alloc (.cells ROW 45)).drew.setRow w.heap.size RA)).heap[k]? = _
      rw [setRow_other _ _ _ _ (by omega)]
      show (w.heap.push _)[k]? = _
      rw [Array.getElem?_push, if_neg (by omega)]
  have hend := hfin _ hF1 hF2
  have hA := hcpA _ hA1 hA2
  have hB := hcpB _ hB1 hB3
  clear hcpA hcpB hA1 hA2 hA3 hB1 hB3 hF1 hF2 hfin
  clear hget hRA hRB hcse hcl htl hold hRs hRt hRtl hRAs hRAt hRBs hRBt hti hz0 hzs hzb hkk hik hG h1c h1v hcs hvl hvi hvz hg hv
  go_enter Try.func82, Try.ntmps82
  go_upto_region 10 with (at_builtin; refine Lib.wpList_append_run _ rfl _ _ _ _ rfl _ _ rfl rfl _ _ (hrz _) ?_)
  go_wp2_with (at_builtin; refine wpList_copy_runI _ rfl _ _ 29 29 rfl _ _ rfl rfl (hA _ _) ?_)
  go_region_law_o (refine step_copy_runI rfl _ _ 29 29 rfl _ _ (by simp [Act.eval, Act.put]) (by simp [Act.eval, Act.put]) (hB _ _ _) ?_)
  go_wp2
  go_ret
  exact hend
set_option maxHeartbeats 4000000 in
set_option maxRecDepth 100000 in
theorem insE_end (base n : Nat) (v : Value) (inner : List Value) (vb vc : Nat) (vcur : Array Value) (vin : List Value) (w : World) (ho : w.ownsRow base 45 9 v n inner) (hbase : base ≤ w.heap.size) (hbig : (n + 1) * 96 ≤ 140737488355328)
    (hv : w.heap[vb]? = some (.cells vcur 45 (0, 0))) (hvl : vin.length = 9) (hvi : ∀ (j : Nat) (x : Value), vin[j]? = some x → vcur[j]? = some x) (h1v : ∀ v ∈ vin, v.oneCell' = true) :
    Calls Try.prog 82 #[v, .int .i64 n, .slice (some ⟨vb, 0, none⟩) 1 vc] w fun e w' => ∃ v1, e = .returned v1 ∧ w'.ownsRow base 45 9 v1 (n + 1) (inner ++ vin) ∧ w.grownBy w' v.ownBlock ∧ (v1.ownBlock = v.ownBlock ∨ ∃ b, v1.ownBlock = some b ∧ w.heap.size ≤ b) := by
  obtain ⟨ti, hti, hz0, hzs, hzb⟩ := info_parts info45
  obtain ⟨v1, w1, hrun, h2, hg, _, hat⟩ := run_append_own_at (P := Try.prog) w base 29 29 45 ti _ 9 96 Try.underlying29 hti hz0 hzs hzb rfl (by decide) v n inner ho ⟨vb, 0, none⟩ 1 vc vin (by omega)
    (fun j x hj => by rw [Addr.add_lit]; simp only [World.cell?, hv]; rw [Nat.zero_add]; exact hvi j x hj) h1v (by unfold maxLen; omega) hbig hbase
  have hat : v1.ownBlock = v.ownBlock ∨ ∃ b, v1.ownBlock = some b ∧ w.heap.size ≤ b := hat.imp_right (fun h => ⟨_, h, Nat.le_refl _⟩)
  rcases ho.2 with ⟨rfl, rfl⟩ | ⟨g, c, cur, rfl, _, _, hnc, _⟩
  · clear hti hz0 hzs hzb hv hvi h1v ho
    go_enter Try.func82, Try.ntmps82
    go_wp2_with (at_builtin; refine Lib.wpList_append_run _ rfl _ _ _ _ rfl _ _ rfl rfl _ _ hrun ?_)
    go_ret
    exact ⟨v1, rfl, h2, hg, hat⟩
  · clear hti hz0 hzs hzb hv hvi h1v ho
    have hn63 : n ≤ 9223372036854775807 := by omega
    rcases Nat.eq_or_lt_of_le hnc with hc | hc
    · subst hc
      go_enter Try.func82, Try.ntmps82
      go_wp2_with (at_builtin; refine Lib.wpList_append_run _ rfl _ _ _ _ rfl _ _ rfl rfl _ _ hrun ?_)
      go_ret
      exact ⟨v1, rfl, h2, hg, hat⟩
    · have hcn : ¬ (c = n) := by omega
      go_enter Try.func82, Try.ntmps82
      go_wp2_with (at_builtin; refine Lib.wpList_append_run _ rfl _ _ _ _ rfl _ _ rfl rfl _ _ hrun ?_)
      go_ret
      exact ⟨v1, rfl, h2, hg, hat⟩
theorem insE_own (base n : Nat) (v u : Value) (inner vin : List Value) (i : Nat) (w : World) (ho : w.ownsRow base 45 9 v n inner) (hu : w.ownsRow base 45 9 u 1 vin) (hne : ∀ k, u.ownBlock = some k → v.ownBlock ≠ some k) (hin : i ≤ n)
    (h1c : ∀ x ∈ inner, x.oneCell' = true) (h1v : ∀ x ∈ vin, x.oneCell' = true) (hbase : base ≤ w.heap.size) (hbig : (n + 1) * 96 ≤ 140737488355328) :
    Calls Try.prog 82 #[v, .int .i64 i, u] w fun e w' => ∃ v1, e = .returned v1 ∧ w'.ownsRow base 45 9 v1 (n + 1) (inner.take (i * 9) ++ vin ++ inner.drop (i * 9)) ∧ w.grownBy w' v.ownBlock ∧ (v1.ownBlock = v.ownBlock ∨ ∃ b, v1.ownBlock = some b ∧ w.heap.size ≤ b) := by
  obtain ⟨hul, hu⟩ := hu
  rcases hu with ⟨_, h0⟩ | ⟨vb, vc, vcur, rfl, hvb, hv, hvc, _, hvs, hvt⟩
  · exact absurd h0 (by decide)
  have hvl : vin.length = 9 := by omega
  have hvi : ∀ (j : Nat) (x : Value), vin[j]? = some x → vcur[j]? = some x := fun j x hj => by
    rw [← hvt, List.getElem?_take] at hj
    split at hj
    · rw [← Array.getElem?_toList]; exact hj
    · cases hj
  have hil : inner.length = n * 9 := ho.1
  by_cases hi : i = n
  · subst hi
    rw [List.take_of_length_le (by omega), List.drop_of_length_le (by omega), List.append_nil]
    exact insE_end base i v inner vb vc vcur vin w ho hbase hbig hv hvl hvi h1v
  · rcases ho.2 with ⟨rfl, h0⟩ | ⟨g, c, cur, rfl, hgb, hg, hnc, hcm, hcs, hct⟩
    · omega
    have hne' : vb ≠ g := fun e => hne vb rfl (by rw [e]; rfl)
    have hti : inner.take (i * 9) = cur.toList.take (i * 9) := by rw [← hct, List.take_take, Nat.min_eq_left (by omega)]
    have htd : inner.drop (i * 9) = (cur.toList.take (n * 9)).drop (i * 9) := by rw [hct]
    have hdl : (inner.drop (i * 9)).length = (n - i) * 9 := by rw [List.length_drop]; omega
    have htl : (inner.take (i * 9)).length = i * 9 := by rw [List.length_take]; omega
    have hc63 : c ≤ 9223372036854775807 := by unfold maxLen at hcm; omega
    by_cases hroom : n + 1 ≤ c
    · have hgw : g < w.heap.size := (Array.getElem?_eq_some_iff.1 hg).1
      refine (insE_shift g n c i vb vc cur vcur vin w (by omega) hroom hc63 hne' hg hv hcs hvl hvi (by omega) (by rw [hct]; exact h1c) h1v _ _ rfl rfl).mono ?_
      rintro e w' ⟨rfl, rfl⟩
      have hA : ∀ X : List Value, (cur.toList.take ((i + 1) * 9) ++ (inner.drop (i * 9)) ++ X).take (i * 9) = inner.take (i * 9) := fun X => by
        rw [List.append_assoc, List.take_append_of_le_length (by rw [List.length_take, Array.length_toList]; omega), List.take_take, Nat.min_eq_left (by omega), hti]
      have hB : ∀ X : List Value, (cur.toList.take ((i + 1) * 9) ++ (inner.drop (i * 9)) ++ X).drop ((i + 1) * 9) = inner.drop (i * 9) ++ X := fun X => by
        rw [List.append_assoc, List.drop_left' (by rw [List.length_take, Array.length_toList]; omega)]
      have hg1 : w.drew.heap[g]? = some (.cells cur 45 (0, 0)) := hg
      rw [← htd, List.toList_toArray, hA, hB]
      refine ⟨_, rfl, ⟨?_, .inr ⟨g, c, _, rfl, hgb, setRow_heap _ _ _ _ 45 (0, 0) (setRow_heap _ _ _ _ 45 (0, 0) hg1), hroom, hcm, ?_, ?_⟩⟩, ⟨rfl, rfl, rfl, ?_, fun k hk hkg => ?_⟩, .inl rfl⟩
      · simp only [List.length_append, htl, hvl, hdl]; omega
      · simp only [List.size_toArray, List.length_append, htl, hvl, hdl, List.length_drop, Array.length_toList]; omega
      · rw [List.toList_toArray, ← List.append_assoc]
        exact List.take_left' (by simp only [List.length_append, htl, hvl, hdl]; omega)
      · rw [size_setRow, size_setRow]; exact Nat.le_refl _
      · have hk' : k ≠ g := fun e => hkg (by rw [e]; rfl)
        rw [setRow_other _ _ _ _ hk', setRow_other _ _ _ _ hk']; rfl
    · refine (insE_grow g n c i vb vc cur vcur vin w (by omega) hnc (by omega) hbig hne' hg hv hcs hvl hvi (by omega) (by rw [hct]; exact h1c) h1v).mono ?_
      rintro e w' ⟨G, R, rfl, hG, hGm, hRs, hR, hRt, hgr⟩
      refine ⟨_, rfl, ⟨?_, .inr ⟨w.heap.size, G, R, rfl, hbase, hR, hG, hGm, hRs, by rw [hRt, hti, htd]⟩⟩, ⟨hgr.os, hgr.tape, hgr.output, hgr.size, fun k hk _ => hgr.block k hk (by simp)⟩, .inr ⟨w.heap.size, rfl, Nat.le_refl _⟩⟩
      simp only [List.length_append, htl, hvl, hdl]; omega
theorem insE_row {base : Nat} {okv oku : Nat → Prop} {v u : Value} {xs : List S45} {x : S45} {w : World} (i : Nat) (HO : Kd.S k45 45 w base okv v xs) (HU : Kd.S k45 45 w base oku u [x]) (hap : ∀ k, okv k → ¬ oku k) (hi : i ≤ xs.length)
    (hbase : base ≤ w.heap.size) (hbig : (xs.length + 1) * 96 ≤ 140737488355328) :
    Calls Try.prog 82 #[v, .int .i64 i, u] w fun e w' => ∃ v1, e = .returned v1 ∧ Kd.S k45 45 w' base (fun k => okv k ∨ oku k ∨ w.heap.size ≤ k) v1 (xs.take i ++ [x] ++ xs.drop i) ∧ w.grownBy w' v.ownBlock := by
  obtain ⟨f, inner, ho, h0, hr⟩ := Sin_len HO
  obtain ⟨f2, vin, hu, hu0, hr2⟩ := Sin_len HU
  refine (insE_own base xs.length v u inner vin i w ho hu (fun k hk he => hap k (h0 k he) (hu0 k hk)) hi (one_cells hr (by decide)) (one_cells hr2 (by decide)) hbase hbig).mono ?_
  rintro e w' ⟨v1, rfl, h1, h2, h3⟩
  exact ⟨v1, rfl, S_insert hi ho.1 h0 hr (by have := hu.1; simpa using this) hr2 hap h1 h2 h3, h2⟩
end Go.Proofs.Ytdkokfnnebdppaa.P
end
section
set_option linter.unusedVariables false
namespace Go.Proofs.YtdkokfnnebdppaaW.PrintWords
open Go.RowKit
namespace Kd
section
variable {P : Program} {ops : Array Oper} {rest : List Oper} {o : Oper} {a : Act} {Q : Exit → Act → World → Prop} {Kc : Act → World → Prop} {α : Type}
theorem Below.refl' (B : Nat) (W : World) : Below B W W := ⟨rfl, rfl, rfl, Nat.le_refl _, fun _ _ => rfl⟩
theorem one_at {d : Kd α} {W : World} {base : Nat} {okp : Nat → Prop} {xs : List α} {inner : List Value} (hrep : Reps (d.M W base okp) d.sz xs inner) (hm : xs.length ≤ 1) (j : Nat) (x : α) (hj : xs[j]? = some x) :
    d.M W base (fun k => j = 0 ∧ okp k) x ((inner.drop (j * d.sz)).take d.sz) := by
  have hlt := (List.getElem?_eq_some_iff.1 hj).1
  have h0 : j = 0 := by omega
  exact d.M_mono (fun k hk => ⟨h0, hk⟩) (hrep.2 j x hj)
theorem S_lit1 (d : Kd α) {w0 W : World} (base e : Nat) (hgd : o.guard = none) {N : Tmp} (hd : o.dst = some N) {xs : List α} {inner : List Value} {ok okp : Nat → Prop} {base' : Nat}
    (hrun : (execOp a.eval o).run P W = .ok (.value (.slice (some ⟨W.heap.size, 0, none⟩) xs.length xs.length)) (W.alloc (.cells inner.toArray e)))
    (hrep : Reps (d.M W base' okp) d.sz xs inner) (hok : ∀ k, okp k → ok k) (hfresh : ok W.heap.size) (HB : Below base w0 W) (hbase : base ≤ W.heap.size) (hm : xs.length ≤ 1)
    (h : ∀ v1 w1, S d e w1 base' ok v1 xs → Below base w0 w1 → W.grownBy w1 none → (∃ b, v1.ownBlock = some b ∧ W.heap.size ≤ b) → wpList P ops Q rest (a.put o.dst v1) w1)
    (hb0 : base' ≤ W.heap.size := by exact below_size (by repeat (first | exact HB.out | apply below_alloc | apply pw_below_drewN | apply below_drew1 | refine below_set ?_ (Aside0.out (by assumption))))) : wpList P ops Q (o :: rest) a W :=
  S_lits d (w0 := W) base' e hgd hd (fun j k => j = 0 ∧ okp k) hrun hrep.1 (one_at hrep hm) (fun i j k h1 h2 => h1.1.trans h2.1.symm) (fun j k hk => hok k hk.2) hfresh (Below.refl' base' W) hb0 (Nat.le_trans hm (by decide)) (fun v1 w1 hs _ hg hat => h v1 w1 hs (HB.grown hg hbase (fun _ hk => by cases hk)) hg hat)
theorem S_lit1_step (d : Kd α) {w0 W : World} (base e : Nat) (hw : Region.wanted o (yielded ops a.tmps) = true) {N : Tmp} (hd : o.dst = some N) {xs : List α} {inner : List Value} {ok okp : Nat → Prop} {base' : Nat}
    (hrun : (execOp a.eval o).run P W = .ok (.value (.slice (some ⟨W.heap.size, 0, none⟩) xs.length xs.length)) (W.alloc (.cells inner.toArray e)))
    (hrep : Reps (d.M W base' okp) d.sz xs inner) (hok : ∀ k, okp k → ok k) (hfresh : ok W.heap.size) (HB : Below base w0 W) (hbase : base ≤ W.heap.size) (hm : xs.length ≤ 1)
    (h : ∀ v1 w1, S d e w1 base' ok v1 xs → Below base w0 w1 → W.grownBy w1 none → (∃ b, v1.ownBlock = some b ∧ W.heap.size ≤ b) → Kc (a.put o.dst v1) w1)
    (hb0 : base' ≤ W.heap.size := by exact below_size (by repeat (first | exact HB.out | apply below_alloc | apply pw_below_drewN | apply below_drew1 | refine below_set ?_ (Aside0.out (by assumption))))) :
    if Region.wanted o (yielded ops a.tmps) = true then Oper.wp P o a W Kc Q else Kc (a.put o.dst undef) W :=
  S_lits_step d (w0 := W) base' e hw hd (fun j k => j = 0 ∧ okp k) hrun hrep.1 (one_at hrep hm) (fun i j k h1 h2 => h1.1.trans h2.1.symm) (fun j k hk => hok k hk.2) hfresh (Below.refl' base' W) hb0 (Nat.le_trans hm (by decide)) (fun v1 w1 hs _ hg hat => h v1 w1 hs (HB.grown hg hbase (fun _ hk => by cases hk)) hg hat)
end
end Kd
end Go.Proofs.YtdkokfnnebdppaaW.PrintWords
end
namespace Go.Proofs.Ytdkokfnnebdppaa.P
open Go.RowKit Go.Proofs.YtdkokfnnebdppaaW.PrintWords Go.Proofs.YtdkokfnnebdppaaW.PrintLast Go.Proofs.YtdkokfnnebdppaaW.PrintMore
attribute [local go_sem] max2_int min2_int max_two min_two max_three min_three max_four min_four str_geq str_gtr str_leq
set_option linter.unusedVariables false
set_option linter.unusedSimpArgs false
def slices_Clone_int_int.f (l0 : List Int) : Option (List Int) := (some (([] : List Int) : List Int)).bind fun y101 => (if y101.length + l0.length < 17592186044416 then (some (y101 ++ l0)) else (none))
set_option maxHeartbeats 8000000 in
set_option maxRecDepth 100000 in
theorem slices_Clone_int_int.callsN (A0 : Option Addr) (c0 : Nat) (l0 : List Int) (r : List Int) (w : World) (hr0 : Kd.C (Kd.int .i64) w A0 l0.length l0) (hc0 : l0.length ≤ c0) (hn0 : A0 ≠ none) (h : slices_Clone_int_int.f l0 = some r) :
 Calls Try.prog 92 #[.slice A0 l0.length c0] w fun e w' => ∃ v0_ : Value, e = .returned (v0_) ∧ Kd.R (Kd.int .i64) 3 w' w.heap.size (fun _ => True) v0_ r ∧ Below w.heap.size w w' := by
 have HR0 := aM hr0
 have HC0 := aM hc0
 clear hr0 hc0
 have HB := aM (Below.refl w.heap.size w)
 have H : ((some (([] : List Int) : List Int)).bind fun y101 => (if y101.length + l0.length < 17592186044416 then (some (y101 ++ l0)) else (none))) = some r := h
 clear h
 have hnil_ : ∀ W_ : World, (Go.binOp .eql 24 (.slice A0 l0.length c0) (.slice none 0 0)).run Try.prog W_ = .ok (.bool false) W_ := fun W_ => by have hz_ : A0.isNone = false := (by cases A0 with | none => exact absurd rfl hn0 | some _ => rfl); have hy_ := Go.Lib.run_eql_slice_nil (P := Try.prog) W_ 24 3 A0 l0.length c0 0 0 Try.underlying24; rw [hz_] at hy_; exact hy_
 obtain ⟨y101, hy101⟩ : ∃ y_ : List Int, y_ = (([] : List Int)) := ⟨_, rfl⟩
 first | (replace H := bindS H; rw [← hy101] at H; try dsimp only at H) | rw [← hy101] at H
 have Ny101 := aM hy101
 clear hy101
 obtain ⟨LMc2, H⟩ := sM H
 obtain ⟨y104, hy104⟩ : ∃ y_ : List Int, y_ = (y101 ++ l0) := ⟨_, rfl⟩
 first | (replace H := bindS H; rw [← hy104] at H; try dsimp only at H) | rw [← hy104] at H
 have Ny104 := aM hy104
 clear hy104
 obtain rfl := Option.some.inj H
 go_enter Try.func92, Try.ntmps92
 go_wp2_with (first | ((with_reducible refine gate_dst (N := 5) rfl ?_); refine Kd.R_lit (Kd.int .i64) _ 3 ?hg (N := 5) ?hd (xs := ([] : List Int)) (inner := []) (ok := fun _ => True) (okp := fun _ => True) ?hr ?hp (fun _ hk => hk) trivial (Below.refl _ _) (Nat.le_refl _) (by simp) ?_; (case hd => rfl); (case hg => rfl); (case hr => first | (go_simp; done) | (go_simp; rfl)); (case hp => exact (Reps.none _ _)); intro v102 w3 ho4 hb hg_ hnew_; clear hg_ hnew_; (first | rw [← Ny101.out] at ho4 | (simp only [Int.reduceToNat] at ho4; rw [← Ny101.out] at ho4)); have _ := aM (Kd.R_lower ho4 (below_size hbZ)); have _ := aM (below_step hbZ hb); clear HB; rename_i HO103 HB; clear hb ho4) | ((with_reducible refine gate_builtin (b := .append) (xs := #[.tmp 5, .tmp 6]) rfl ?_); at_builtin; refine Kd.R_append_rows (Kd.int .i64) (w0 := w) w.heap.size rfl (.tmp 5) (.tmp 6) 24 3 (.int .i64 0) 8 rfl Try.underlying24 info3 rfl (by decide) (by omega) v102 y101 l0 _ _ _ (fun _ => True) (fun _ => False) rfl rfl ?aO ?aR (fun _ _ h => h) (fun _ h => h.elim) ?aF ?aB ?aS ?aL ?_; (case aR => repeat (first | exact (Kd.C_below HR0.out HB.out) | (with_reducible refine Kd.C_alloc ?_ _) | (with_reducible refine Kd.C_drewN ?_ _) | (with_reducible refine Kd.C_drew ?_))); (case aB => exact hbZ); (case aF => exact (fun _ _ => trivial)); (case aO => exact (rZ HO103.out)); (case aS => exact (below_size hbZ)); (case aL => have := LMc2.out; omega); intro v105 w5 ho hb hg hat; rw [← Ny104.out] at ho; have _ := aM hb; have _ := aM ho; clear HB HO103; rename_i HB HO106; clear ho hb hg hat))
 go_ret
 exact ⟨_, z674d, rZ HO106.out, z5acd⟩
set_option maxHeartbeats 400000 in
theorem slices_Clone_int_int.calls (A0 : Option Addr) (c0 : Nat) (l0 : List Int) (r : List Int) (w : World) (hr0 : Kd.C (Kd.int .i64) w A0 l0.length l0) (hc0 : l0.length ≤ c0) (h : slices_Clone_int_int.f l0 = some r) :
 Calls Try.prog 92 #[.slice A0 l0.length c0] w fun e w' => ∃ v0_ : Value, e = .returned (v0_) ∧ Kd.R (Kd.int .i64) 3 w' w.heap.size (fun _ => True) v0_ r ∧ Below w.heap.size w w' := by
 by_cases hA_ : A0 = none
 · subst hA_
   have hl_ : l0 = [] := by
    rcases Nat.eq_zero_or_pos l0.length with hz | hz
    · exact List.eq_nil_of_length_eq_zero hz
    · obtain ⟨ad, e, _⟩ := hr0.2.2 hz; cases e
   subst hl_
   have hr_ : r = [] := by
    have h2 := h
    simp [slices_Clone_int_int.f] at h2
    first | exact h2 | exact h2.symm
   subst hr_
   have hnil_ := fun W_ : World => Go.Lib.run_eql_slice_nil (P := Try.prog) W_ 24 3 none 0 c0 0 0 Try.underlying24
   go_enter Try.func92, Try.ntmps92
   go_wp2
   go_ret
   exact ⟨_, rfl, Kd.R_nil _ _ _ _ _, Below.refl _ _⟩
 · exact slices_Clone_int_int.callsN A0 c0 l0 r w hr0 hc0 hA_ h
end Go.Proofs.Ytdkokfnnebdppaa.P
namespace Go.Proofs.Ytdkokfnnebdppaa.P
open Go.RowKit Go.Proofs.YtdkokfnnebdppaaW.PrintWords Go.Proofs.YtdkokfnnebdppaaW.PrintLast Go.Proofs.YtdkokfnnebdppaaW.PrintMore
attribute [local go_sem] max2_int min2_int max_two min_two max_three min_three max_four min_four str_geq str_gtr str_leq
set_option linter.unusedVariables false
set_option linter.unusedSimpArgs false
def impl_Entry_cloned.f (a0_0 : ByteArray) (a0_1 : Int) (a0_2 : Int) (a0_3 : Int) (a0_4 : Int) (a0_5 : Int) (a0_6 : Int) (l0_7 : List Int) (a0_8 : Bool) : Option (ByteArray × Int × Int × Int × Int × Int × Int × List Int × Bool) := (slices_Clone_int_int.f l0_7).bind fun t103 => (some (a0_0, a0_1, a0_2, a0_3, a0_4, a0_5, a0_6, t103, a0_8))
theorem impl_Entry_cloned.calls (a0_0 : ByteArray) (a0_1 : Int) (a0_2 : Int) (a0_3 : Int) (a0_4 : Int) (a0_5 : Int) (a0_6 : Int) (A0_7 : Option Addr) (c0_7 : Nat) (l0_7 : List Int) (a0_8 : Bool) (r1 : ByteArray) (r2 : Int) (r3 : Int) (r4 : Int) (r5 : Int) (r6 : Int) (r7 : Int) (r8 : List Int) (r9 : Bool) (w : World) (hr0_7 : Kd.C (Kd.int .i64) w A0_7 l0_7.length l0_7) (hc0_7 : l0_7.length ≤ c0_7) (h : impl_Entry_cloned.f a0_0 a0_1 a0_2 a0_3 a0_4 a0_5 a0_6 l0_7 a0_8 = some (r1, r2, r3, r4, r5, r6, r7, r8, r9)) :
 Calls Try.prog 72 #[.agg #[.string a0_0, .int .i64 a0_1, .int .i64 a0_2, .int .i64 a0_3, .int .i64 a0_4, .int .i64 a0_5, .int .i64 a0_6, .slice A0_7 l0_7.length c0_7, .bool a0_8]] w fun e w' => ∃ v7_ : Value, e = .returned (.agg #[.string r1, .int .i64 r2, .int .i64 r3, .int .i64 r4, .int .i64 r5, .int .i64 r6, .int .i64 r7, v7_, .bool r9]) ∧ Kd.R (Kd.int .i64) 3 w' w.heap.size (fun _ => True) v7_ r8 ∧ Below w.heap.size w w' := by
 have hu45 := Try.underlying45
 have HR0_7 := aM hr0_7
 have HC0_7 := aM hc0_7
 clear hr0_7 hc0_7
 have HB := aM (Below.refl w.heap.size w)
 have H : ((slices_Clone_int_int.f l0_7).bind fun t103 => (some (a0_0, a0_1, a0_2, a0_3, a0_4, a0_5, a0_6, t103, a0_8))) = some (r1, r2, r3, r4, r5, r6, r7, r8, r9) := h
 clear h
 obtain ⟨t103, A2, H⟩ := bS H; try dsimp only at H
 simp only [Option.some.injEq, Prod.mk.injEq] at H
 obtain ⟨rfl, rfl, rfl, rfl, rfl, rfl, rfl, rfl, rfl⟩ := H
 go_enter Try.func72, Try.ntmps72
 go_wp2_with (first | ((with_reducible refine gate_dst (N := 1) rfl ?_); refine bX 1 45 #[.string a0_0, .int .i64 a0_1, .int .i64 a0_2, .int .i64 a0_3, .int .i64 a0_4, .int .i64 a0_5, .int .i64 a0_6, .slice A0_7 l0_7.length c0_7, .bool a0_8] ?_; intro gb101 hg w3 hbox hb; have _ := aM (below_step hbZ hb); have _ := aM hbox; have _ := szZ hg; have _ := szZ hg; clear HB; rename_i HB BK101 GW101 GE101; clear hb hbox hg) | ((with_reducible refine gate_dst (N := 2) rfl ?_); refine bX 2 45 #[.string (⟨#[]⟩ : ByteArray), .int .i64 0, .int .i64 0, .int .i64 0, .int .i64 0, .int .i64 0, .int .i64 0, .slice none 0 0, .bool false] ?_; intro gb102 hg w4 hbox hb; have _ := bB gb101 hb; have _ := aM (below_step hbZ hb); have _ := aM hbox; have _ := szZ hg; have _ := szZ hg; have ⟨_, _⟩ := nbB gb101 hg; clear BK101 HB; rename_i BK101 HB BK102 GW102 GE102 NB101_102 NB102_101; clear hb hbox hg; have hnb5 := NB101_102.out; have hnc5 := NB102_101.out; have hz6 := cellsZ9 BK101.out) | ((with_reducible refine gate_callee (f := 92) rfl ?_); refine gL 6 Try.func92 #[.slice A0_7 l0_7.length c0_7] ?_; (with_reducible refine (slices_Clone_int_int.calls _ _ l0_7 t103 _ ?side1 ?side2 A2.out).mono ?_); (case side1 => exact (cZ (Kd.C_below HR0_7.out HB.out))); (case side2 => exact HC0_7.out); rintro e w7 ⟨v104, rfl, ho0, hb⟩; refine ⟨_, rfl, ?_⟩; have _ := aM (Kd.R_lower ho0 (below_size hbZ)); have _ := bB gb101 hb; have _ := bB gb102 hb; have _ := aM (below_step hbZ hb); clear BK101 BK102 HB; rename_i HO105 BK101 BK102 HB; (try clear hb); (try clear ho0); obtain ⟨Ao8, co8, eo8⟩ := Kd.R_slice HO105.out; subst eo8; have hz9 := cellsZ9 BK101.out; have hz10 := cellsZ9 BK102.out))
 refine bodyPost_ret (results_cell_row rfl _ _ gb102 45 #[.string a0_0, .int .i64 a0_1, .int .i64 a0_2, .int .i64 a0_3, .int .i64 a0_4, .int .i64 a0_5, .int .i64 a0_6, .slice Ao8 t103.length co8, .bool a0_8] (0, 0) _ rfl bkZ Try.underlying45 rfl (by kernel_rfl)) rfl ?_
 exact ⟨_, z674d, by (with_reducible repeat (first | apply Kd.R_alloc | apply Kd.R_drewN | apply Kd.R_drew)); exact Kd.R_mono (Kd.R_far (p := ⟨gb102, 8, none⟩) (Kd.R_far (p := ⟨gb102, 7, none⟩) (Kd.R_far (p := ⟨gb102, 6, none⟩) (Kd.R_far (p := ⟨gb102, 5, none⟩) (Kd.R_far (p := ⟨gb102, 4, none⟩) (Kd.R_far (p := ⟨gb102, 3, none⟩) (Kd.R_far (p := ⟨gb102, 2, none⟩) (Kd.R_far (p := ⟨gb102, 1, none⟩) (Kd.R_far (p := ⟨gb102, 0, none⟩) (Kd.R_far (p := ⟨gb101, 7, none⟩) (Kd.R_types (Kd.R_types HO105.out BK101.out (by decide)) BK102.out (by decide)) (fun _ hk => hk.1.2) (.slice Ao8 t103.length co8)) (fun _ hk => hk.2) (.string a0_0)) (fun _ hk => hk.2) (.int .i64 a0_1)) (fun _ hk => hk.2) (.int .i64 a0_2)) (fun _ hk => hk.2) (.int .i64 a0_3)) (fun _ hk => hk.2) (.int .i64 a0_4)) (fun _ hk => hk.2) (.int .i64 a0_5)) (fun _ hk => hk.2) (.int .i64 a0_6)) (fun _ hk => hk.2) (.slice Ao8 t103.length co8)) (fun _ hk => hk.2) (.bool a0_8)) (fun _ hk => trivial), zcb41⟩
def impl_clonedEntries.l0 : Nat → List (S45) → List (S45) → Int → Int → Option ((List (S45)))
 | 0, _, _, _, _ => none
 | k + 1, x3, x7, x8, x9 => if x9 < x8 then (if 0 ≤ x9 then (if x9 < (x7.length : Int) then ((impl_Entry_cloned.f ((rd_T45 x7 x9).f0) ((rd_T45 x7 x9).f1) ((rd_T45 x7 x9).f2) ((rd_T45 x7 x9).f3.f0) ((rd_T45 x7 x9).f3.f1) ((rd_T45 x7 x9).f3.f2) ((rd_T45 x7 x9).f3.f3) ((rd_T45 x7 x9).f3.f4) ((rd_T45 x7 x9).f3.f5)).bind fun bt106 => (if x3.length < 1466015503701 then (impl_clonedEntries.l0 k (x3 ++ [(⟨bt106.1, bt106.2.1, bt106.2.2.1, (⟨bt106.2.2.2.1, bt106.2.2.2.2.1, bt106.2.2.2.2.2.1, bt106.2.2.2.2.2.2.1, bt106.2.2.2.2.2.2.2.1, bt106.2.2.2.2.2.2.2.2⟩ : S26)⟩ : S45)]) x7 x8 (wrap64 (x9 + 1))) else (none))) else (none)) else (none)) else (some x3)
def impl_clonedEntries.f (k : Nat) (l0 : List (S45)) : Option ((List (S45))) := impl_clonedEntries.l0 k (([] : List (S45))) l0 (l0.length : Int) 0
theorem impl_clonedEntries.mono_l : ∀ k, (∀ y0 y1 y2 y3, LeO (impl_clonedEntries.l0 k y0 y1 y2 y3) (impl_clonedEntries.l0 (k + 1) y0 y1 y2 y3))
 | 0 => fun _ _ _ _ r h => by simp [impl_clonedEntries.l0] at h
 | k + 1 => by
  have ih0 := impl_clonedEntries.mono_l k
  · intro y0 y1 y2 y3
    unfold impl_clonedEntries.l0
    exact moZ
theorem impl_clonedEntries.mono : ∀ a0 k, LeO (impl_clonedEntries.f k a0) (impl_clonedEntries.f (k + 1) a0) := by
 intro a0 k
 have ih0 := impl_clonedEntries.mono_l k
 unfold impl_clonedEntries.f
 exact moZ
theorem impl_clonedEntries.calls (k : Nat) (A0 : Option Addr) (c0 : Nat) (l0 : List (S45)) (r : List (S45)) (w : World) (hr0 : Kd.C k45 w A0 l0.length l0) (hc0 : l0.length ≤ c0) (h : impl_clonedEntries.f k l0 = some r) :
 Calls Try.prog 83 #[.slice A0 l0.length c0] w fun e w' => ∃ v0_ : Value, e = .returned (v0_) ∧ Kd.S k45 45 w' w.heap.size (fun _ => True) v0_ r ∧ Below w.heap.size w w' := by
 have hu45 := Try.underlying45
 have HR0 := aM hr0
 have HC0 := aM hc0
 clear hr0 hc0
 have HB := aM (Below.refl w.heap.size w)
 have H : (impl_clonedEntries.l0 k (([] : List (S45))) l0 (l0.length : Int) 0) = some r := h
 clear h
 obtain ⟨y101, hy101⟩ : ∃ y_ : List (S45), y_ = (([] : List (S45))) := ⟨_, rfl⟩
 first | (replace H := bindS H; rw [← hy101] at H; try dsimp only at H) | rw [← hy101] at H
 have Ny101 := aM hy101
 clear hy101
 have H' := aM H
 clear H
 go_enter Try.func83, Try.ntmps83
 go_wp2_with (first | ((with_reducible refine gate_dst (N := 6) rfl ?_); refine Kd.S_lit k45 _ 45 ?hg (N := 6) ?hd (xs := ([] : List (S45))) (inner := []) (ok := fun _ => True) (okp := fun _ => True) ?hr ?hp (fun _ hk => hk) trivial (Below.refl _ _) (Nat.le_refl _) (by simp) ?_; (case hd => rfl); (case hg => rfl); (case hr => first | (go_simp; done) | (go_simp; rfl)); (case hp => exact (Reps.none _ _)); intro v102 w2 ho3 hb hg_ hnew_; clear hg_ hnew_; (first | rw [← Ny101.out] at ho3 | (simp only [Int.reduceToNat] at ho3; rw [← Ny101.out] at ho3)); have _ := aM (Kd.S_lower ho3 (below_size hbZ)); have _ := aM (below_step hbZ hb); clear HB; rename_i HO103 HB; clear hb ho3))
 go_loopg [3, 9] k (fun kq v3 v9 w' => ∃ (x3_1 : List (S45)) (x9_1 : Int), v9 = .int .i64 x9_1 ∧ Aside0 (impl_clonedEntries.l0 kq x3_1 l0 (l0.length : Int) x9_1 = some r) ∧ Aside0 (kq ≤ k) ∧ Aside0 (Kd.S k45 45 w' w.heap.size (fun _ => True) v3 x3_1) ∧ Aside0 (Below w.heap.size w w'))
 case atStart => exact ⟨(y101), (0), z4458, H', ⟨Nat.le_refl _⟩, ⟨z1bd3⟩, ⟨z5acd⟩⟩
 case round =>
  clear H'
  obtain ⟨x3_1, x9_1, rfl, HA, HK1, HO_3, HB⟩ := hrel
  cases gk with
  | zero => exact absurd HA.out (by simp [impl_clonedEntries.l0])
  | succ k1 =>
   have H := HA.out
   clear HA
   simp only [impl_clonedEntries.l0] at H
   by_cases c4 : x9_1 < (l0.length : Int)
   · rw [if_pos c4] at H
     have c4b0 := dL c4
     clear c4
     obtain ⟨c5b0, H⟩ := sE H
     obtain ⟨c6b0, H⟩ := sL H
     obtain ⟨⟨t106, t107, t108, t109, t110, t111, t112, t113, t116⟩, A7, H⟩ := bS H; try dsimp only at H
     obtain ⟨LMc8, H⟩ := sM H
     obtain ⟨y117, hy117⟩ : ∃ y_ : List (S45), y_ = (x3_1 ++ [(⟨t106, t107, t108, (⟨t109, t110, t111, t112, t113, t116⟩ : S26)⟩ : S45)]) := ⟨_, rfl⟩
     first | (replace H := bindS H; rw [← hy117] at H; try dsimp only at H) | rw [← hy117] at H
     have Ny117 := aM hy117
     clear hy117
     have H' := aM H
     clear H
     have p104 : 0 ≤ (x9_1 : Int) := of_decide_eq_true z1200
     have q104 : x9_1 < (l0.length : Int) := of_decide_eq_true z1200
     obtain ⟨ad104, A104_7, c104_7, e104, hx104_0, hx104_1, hx104_2, hx104_3, hx104_4, hx104_5, hx104_6, hx104_7, hx104_8, hl104_7, hi104_7⟩ := at_T45 HR0.out x9_1 p104 q104
     cases e104
     have TW104_7 := aM hx104_7
     replace hx104_0 := (HB.out.cell (World.block_lt_of_cell? w _ hx104_0)).trans hx104_0
     replace hx104_1 := (HB.out.cell (World.block_lt_of_cell? w _ hx104_1)).trans hx104_1
     replace hx104_2 := (HB.out.cell (World.block_lt_of_cell? w _ hx104_2)).trans hx104_2
     replace hx104_3 := (HB.out.cell (World.block_lt_of_cell? w _ hx104_3)).trans hx104_3
     replace hx104_4 := (HB.out.cell (World.block_lt_of_cell? w _ hx104_4)).trans hx104_4
     replace hx104_5 := (HB.out.cell (World.block_lt_of_cell? w _ hx104_5)).trans hx104_5
     replace hx104_6 := (HB.out.cell (World.block_lt_of_cell? w _ hx104_6)).trans hx104_6
     replace hx104_7 := (HB.out.cell (World.block_lt_of_cell? w _ hx104_7)).trans hx104_7
     replace hx104_8 := (HB.out.cell (World.block_lt_of_cell? w _ hx104_8)).trans hx104_8
     have HR104_7 := aM hi104_7
     have HC104_7 := aM hl104_7
     clear hi104_7 hl104_7
     replace p104 := eq_true p104
     replace q104 := eq_true q104
     go_wp2_with (first | ((with_reducible refine gate_dst (N := 5) rfl ?_); refine bX 5 45 #[.string (⟨#[]⟩ : ByteArray), .int .i64 0, .int .i64 0, .int .i64 0, .int .i64 0, .int .i64 0, .int .i64 0, .slice none 0 0, .bool false] ?_; intro gb105 hg w9 hbox hb; have _ := aM (Kd.S_below (Kd.S_elderB zd74a gb105 (Nat.le_of_eq hg.symm)) hb); have _ := aM (below_step hbZ hb); have _ := aM hbox; have _ := szZ hg; have _ := szZ hg; clear HO_3 HB; rename_i HO_3 HB BK105 GW105 GE105; clear hb hbox hg; have hz10 := cellsZ9 BK105.out) | ((with_reducible refine gate_callee (f := 72) rfl ?_); refine gL 15 Try.func72 #[.agg #[.string ((rd_T45 l0 x9_1).f0), .int .i64 ((rd_T45 l0 x9_1).f1), .int .i64 ((rd_T45 l0 x9_1).f2), .int .i64 ((rd_T45 l0 x9_1).f3.f0), .int .i64 ((rd_T45 l0 x9_1).f3.f1), .int .i64 ((rd_T45 l0 x9_1).f3.f2), .int .i64 ((rd_T45 l0 x9_1).f3.f3), .slice A104_7 ((rd_T45 l0 x9_1).f3.f4).length c104_7, .bool ((rd_T45 l0 x9_1).f3.f5)]] ?_; (with_reducible refine (impl_Entry_cloned.calls ((rd_T45 l0 x9_1).f0) ((rd_T45 l0 x9_1).f1) ((rd_T45 l0 x9_1).f2) ((rd_T45 l0 x9_1).f3.f0) ((rd_T45 l0 x9_1).f3.f1) ((rd_T45 l0 x9_1).f3.f2) ((rd_T45 l0 x9_1).f3.f3) _ _ ((rd_T45 l0 x9_1).f3.f4) ((rd_T45 l0 x9_1).f3.f5) t106 t107 t108 t109 t110 t111 t112 t113 t116 _ ?side1 ?side2 A7.out).mono ?_); (case side1 => exact Kd.C_below HR104_7.out hbZ); (case side2 => exact HC104_7.out); rintro e w11 ⟨v114, rfl, ho0, hb⟩; refine ⟨_, rfl, ?_⟩; have _ := aM (Kd.S_elder' (by (with_reducible repeat (first | apply Kd.S_alloc | apply Kd.S_drewN | apply Kd.S_drew)); exact (Kd.S_mono (Kd.S_far (p := ⟨gb105, 8, none⟩) (Kd.S_far (p := ⟨gb105, 7, none⟩) (Kd.S_far (p := ⟨gb105, 6, none⟩) (Kd.S_far (p := ⟨gb105, 5, none⟩) (Kd.S_far (p := ⟨gb105, 4, none⟩) (Kd.S_far (p := ⟨gb105, 3, none⟩) (Kd.S_far (p := ⟨gb105, 2, none⟩) (Kd.S_far (p := ⟨gb105, 1, none⟩) (Kd.S_far (p := ⟨gb105, 0, none⟩) (Kd.S_mono HO_3.out (fun k_ hk => (⟨hk, hk.2⟩ : _ ∧ k_ ≠ gb105))) (fun _ hk => hk.2) (.string ((rd_T45 l0 x9_1).f0))) (fun _ hk => hk.2) (.int .i64 ((rd_T45 l0 x9_1).f1))) (fun _ hk => hk.2) (.int .i64 ((rd_T45 l0 x9_1).f2))) (fun _ hk => hk.2) (.int .i64 ((rd_T45 l0 x9_1).f3.f0))) (fun _ hk => hk.2) (.int .i64 ((rd_T45 l0 x9_1).f3.f1))) (fun _ hk => hk.2) (.int .i64 ((rd_T45 l0 x9_1).f3.f2))) (fun _ hk => hk.2) (.int .i64 ((rd_T45 l0 x9_1).f3.f3))) (fun _ hk => hk.2) (.slice A104_7 ((rd_T45 l0 x9_1).f3.f4).length c104_7)) (fun _ hk => hk.2) (.bool ((rd_T45 l0 x9_1).f3.f5))) (fun _ h_ => h_.1))) (Kd.R_base ho0) hb); have _ := aM (Kd.R_lower ho0 (below_size hbZ)); have _ := aM (blk_below (g := gb105) (o := .cells #[.string ((rd_T45 l0 x9_1).f0), .int .i64 ((rd_T45 l0 x9_1).f1), .int .i64 ((rd_T45 l0 x9_1).f2), .int .i64 ((rd_T45 l0 x9_1).f3.f0), .int .i64 ((rd_T45 l0 x9_1).f3.f1), .int .i64 ((rd_T45 l0 x9_1).f3.f2), .int .i64 ((rd_T45 l0 x9_1).f3.f3), .slice A104_7 ((rd_T45 l0 x9_1).f3.f4).length c104_7, .bool ((rd_T45 l0 x9_1).f3.f5)] 45 (0, 0)) bkZ hb); have _ := aM (below_step hbZ hb); clear HO_3 BK105 HB; rename_i HO_3 HO115 BK105 HB; (try clear hb); (try clear ho0); obtain ⟨Ao13, co13, eo13⟩ := Kd.R_slice HO115.out; subst eo13) | ((with_reducible refine gate_builtin (b := .append) (xs := #[.tmp 13, .tmp 16]) rfl ?_); at_builtin; refine Kd.S_append k45 (w0 := w) w.heap.size rfl (.tmp 13) (.tmp 16) 29 45 (.agg #[(.string ⟨#[]⟩), (.int .i64 0), (.int .i64 0), (.int .i64 0), (.int .i64 0), (.int .i64 0), (.int .i64 0), (.slice none 0 0), (.bool false)]) 96 rfl Try.underlying29 info45 rfl (by decide) (by omega) u3 x3_1 (⟨t106, t107, t108, (⟨t109, t110, t111, t112, t113, t116⟩ : S26)⟩ : S45) [.string t106, .int .i64 t107, .int .i64 t108, .int .i64 t109, .int .i64 t110, .int .i64 t111, .int .i64 t112, .slice Ao13 t113.length co13, .bool t116] (fun k_ => k_ ≠ gb105) (fun k_ => some k_ = (.slice Ao13 t113.length co13 : Value).ownBlock) rfl rfl ?aP (fun k_ hk_ => ((Kd.R_mono (ok' := fun k_ => ((fun k_ => k_ ≠ gb105)) k_ ∧ some k_ ≠ (u3 : Value).ownBlock) (Kd.R_types (Kd.R_apart' (HO115.out) (Kd.S_typed HO_3.out) (by decide)) BK105.out (by decide)) (fun k_ hk => ⟨hk.2, hk.1.2⟩))).1 k_ hk_.symm) ?aF ?aO ?aB ?aS ?aL ?_; (case aP => exact k45_mkM _ _ _ (⟨t106, t107, t108, (⟨t109, t110, t111, t112, t113, t116⟩ : S26)⟩ : S45) (Kd.R_mono (Kd.R_tight rfl (Kd.R_mono (ok' := fun k_ => ((fun k_ => k_ ≠ gb105)) k_ ∧ some k_ ≠ (u3 : Value).ownBlock) (Kd.R_types (Kd.R_apart' (HO115.out) (Kd.S_typed HO_3.out) (by decide)) BK105.out (by decide)) (fun k_ hk => ⟨hk.2, hk.1.2⟩))) (fun _ h_ => h_))); (case aB => exact hbZ); (case aF => exact (fun k_ hk => Kd.freshB (g := gb105) bkZ k_ hk)); (case aO => exact (by (with_reducible repeat (first | apply Kd.S_alloc | apply Kd.S_drewN | apply Kd.S_drew)); exact Kd.S_mono HO_3.out (fun k_ hk => ⟨hk.1.2, fun e_ => hk.2 e_⟩))); (case aS => exact (below_size hbZ)); (case aL => have := LMc8.out; omega); intro v118 w12 ho hb hg hat; rw [← Ny117.out] at ho; have _ := aM (blk_grown (g := gb105) bkZ hg (Kd.S_away HO_3.out (fun _ hk => hk.1.2))); have _ := aM hb; have _ := aM ho; clear BK105 HB HO_3 HO115; rename_i BK105 HB HO119; clear ho hb hg hat))
     go_roundg k1
     case measure => have := HK1.out; omega
     case rel => exact ⟨(y117), (wrap64 (x9_1 + 1)), z4458, H', ⟨zfb39⟩, ⟨by (with_reducible repeat (first | apply Kd.S_alloc | apply Kd.S_drewN | apply Kd.S_drew)); exact Kd.S_mono HO119.out (fun _ hk => trivial)⟩, ⟨zcb41⟩⟩
   · rw [if_neg c4] at H
     have c4b0 := nL c4
     clear c4
     obtain rfl := Option.some.inj H
     go_wp2
     go_ret
     exact ⟨_, z674d, zd74a, z5acd⟩
end Go.Proofs.Ytdkokfnnebdppaa.P
section
set_option linter.unusedVariables false
namespace Go.Proofs.Ytdkokfnnebdppaa.P
open Go.RowKit Go.Proofs.YtdkokfnnebdppaaW.PrintWords Go.Proofs.YtdkokfnnebdppaaW.PrintLast Go.Proofs.YtdkokfnnebdppaaW.PrintMore
theorem goesV_ {P : Program} {ops : Array Oper} {Q : Exit → Act → World → Prop} {oi : Oper} {N : Option Tmp} {a : Act} {w : World} {K : Act → World → Prop} {f : FuncId} {fn : Func} {t : Operand} {xs : Array Operand} {ts : Array TypeId} (hf : P.funcs[f]? = some fn) (hname : (fn.name == "runtime.NumGoroutine") = false) (hb : fn.body.isSome = true) (args : Array Value)
    (hw : Region.wanted oi (yielded ops a.tmps) = true) (hN : oi.dst = N) (hop : oi.op = .call { callee := .value t, args := xs, argTypes := ts }) (hv : a.eval t = .func (.func f) #[] #[]) (hargs : xs.map a.eval = args)
    (h : Calls P f args w fun e w' => ∃ v, e = .returned v ∧ K (a.put N v) w') : if Region.wanted oi (yielded ops a.tmps) = true then Oper.wp P oi a w K Q else K (a.put N undef) w := by
  refine call_ f args hw hN ?_ h
  have he := enters_ hf hname hb args w
  unfold execOp
  simp [hop, resolve, Deferred.ofValue, invoke, hv, hargs, he]
end Go.Proofs.Ytdkokfnnebdppaa.P
end
namespace Go.Proofs.Ytdkokfnnebdppaa.P
open Go.RowKit Go.Proofs.YtdkokfnnebdppaaW.PrintWords Go.Proofs.YtdkokfnnebdppaaW.PrintLast Go.Proofs.YtdkokfnnebdppaaW.PrintMore
attribute [local go_sem] max2_int min2_int max_two min_two max_three min_three max_four min_four str_geq str_gtr str_leq
set_option linter.unusedVariables false
set_option linter.unusedSimpArgs false
def impl_Entry_with_impl_compareEntries.l0 : Nat → List (S45) → Int → Int → Int → ByteArray → Int → Int → Int → Int → Int → Int → List Int → Bool → Option (Int × Bool)
 | 0, _, _, _, _, _, _, _, _, _, _, _, _, _ => none
 | k + 1, x0, x8, x9, x10, x102000, x102001, x102002, x102003, x102004, x102005, x102006, x102007, x102008 => if x9 < x10 then (if 0 ≤ (wrap64 ((IntKind.u64.wrap (wrap64 (x9 + x10))) / 2)) then (if (wrap64 ((IntKind.u64.wrap (wrap64 (x9 + x10))) / 2)) < (x0.length : Int) then ((impl_compareEntries.f k ((rd_T45 x0 (wrap64 ((IntKind.u64.wrap (wrap64 (x9 + x10))) / 2))).f0) ((rd_T45 x0 (wrap64 ((IntKind.u64.wrap (wrap64 (x9 + x10))) / 2))).f1) ((rd_T45 x0 (wrap64 ((IntKind.u64.wrap (wrap64 (x9 + x10))) / 2))).f2) ((rd_T45 x0 (wrap64 ((IntKind.u64.wrap (wrap64 (x9 + x10))) / 2))).f3.f0) ((rd_T45 x0 (wrap64 ((IntKind.u64.wrap (wrap64 (x9 + x10))) / 2))).f3.f1) ((rd_T45 x0 (wrap64 ((IntKind.u64.wrap (wrap64 (x9 + x10))) / 2))).f3.f2) ((rd_T45 x0 (wrap64 ((IntKind.u64.wrap (wrap64 (x9 + x10))) / 2))).f3.f3) ((rd_T45 x0 (wrap64 ((IntKind.u64.wrap (wrap64 (x9 + x10))) / 2))).f3.f4) ((rd_T45 x0 (wrap64 ((IntKind.u64.wrap (wrap64 (x9 + x10))) / 2))).f3.f5) x102000 x102001 x102002 x102003 x102004 x102005 x102006 x102007 x102008).bind fun t103 => (if t103 < 0 then (impl_Entry_with_impl_compareEntries.l0 k x0 x8 (wrap64 ((wrap64 ((IntKind.u64.wrap (wrap64 (x9 + x10))) / 2)) + 1)) x10 x102000 x102001 x102002 x102003 x102004 x102005 x102006 x102007 x102008) else (impl_Entry_with_impl_compareEntries.l0 k x0 x8 x9 (wrap64 ((IntKind.u64.wrap (wrap64 (x9 + x10))) / 2)) x102000 x102001 x102002 x102003 x102004 x102005 x102006 x102007 x102008))) else (none)) else (none)) else (if x9 < x8 then (if 0 ≤ x9 then (if x9 < (x0.length : Int) then ((impl_compareEntries.f k ((rd_T45 x0 x9).f0) ((rd_T45 x0 x9).f1) ((rd_T45 x0 x9).f2) ((rd_T45 x0 x9).f3.f0) ((rd_T45 x0 x9).f3.f1) ((rd_T45 x0 x9).f3.f2) ((rd_T45 x0 x9).f3.f3) ((rd_T45 x0 x9).f3.f4) ((rd_T45 x0 x9).f3.f5) x102000 x102001 x102002 x102003 x102004 x102005 x102006 x102007 x102008).bind fun t105 => (some (x9, (t105 == 0)))) else (none)) else (none)) else (some (x9, false)))
def impl_Entry_with_impl_compareEntries.f (k : Nat) (l0 : List (S45)) (a1_0 : ByteArray) (a1_1 : Int) (a1_2 : Int) (a1_3 : Int) (a1_4 : Int) (a1_5 : Int) (a1_6 : Int) (l1_7 : List Int) (a1_8 : Bool)  : Option (Int × Bool) := impl_Entry_with_impl_compareEntries.l0 k l0 (l0.length : Int) 0 (l0.length : Int) a1_0 a1_1 a1_2 a1_3 a1_4 a1_5 a1_6 l1_7 a1_8
theorem impl_Entry_with_impl_compareEntries.mono_l : ∀ k, (∀ y0 y1 y2 y3 y4 y5 y6 y7 y8 y9 y10 y11 y12, LeO (impl_Entry_with_impl_compareEntries.l0 k y0 y1 y2 y3 y4 y5 y6 y7 y8 y9 y10 y11 y12) (impl_Entry_with_impl_compareEntries.l0 (k + 1) y0 y1 y2 y3 y4 y5 y6 y7 y8 y9 y10 y11 y12))
 | 0 => fun _ _ _ _ _ _ _ _ _ _ _ _ _ r h => by simp [impl_Entry_with_impl_compareEntries.l0] at h
 | k + 1 => by
  have ih0 := impl_Entry_with_impl_compareEntries.mono_l k; have m0 := @impl_compareEntries.mono
  · intro y0 y1 y2 y3 y4 y5 y6 y7 y8 y9 y10 y11 y12
    unfold impl_Entry_with_impl_compareEntries.l0
    exact moZ
theorem impl_Entry_with_impl_compareEntries.mono : ∀ a0 a1 a2 a3 a4 a5 a6 a7 a8 a9 k, LeO (impl_Entry_with_impl_compareEntries.f k a0 a1 a2 a3 a4 a5 a6 a7 a8 a9) (impl_Entry_with_impl_compareEntries.f (k + 1) a0 a1 a2 a3 a4 a5 a6 a7 a8 a9) := by
 intro a0 a1 a2 a3 a4 a5 a6 a7 a8 a9 k
 have ih0 := impl_Entry_with_impl_compareEntries.mono_l k
 have m0 := @impl_compareEntries.mono
 unfold impl_Entry_with_impl_compareEntries.f
 exact moZ
def impl_Entry_with_impl_compareEntries.T5 : Bool × List (List Nat × List Nat) := (true, [([], []), ([], []), ([], []), ([1, 2], [1, 2]), ([3], [3]), ([], []), ([0, 4, 5], [0, 4, 5]), ([6], [6])])
def impl_Entry_with_impl_compareEntries.B5 : List Nat := [0, 0, 0, 6, 14, 0, 63, 127]
theorem impl_Entry_with_impl_compareEntries.tab5 : rtab .any (opsOf Try.f81 5) = impl_Entry_with_impl_compareEntries.T5 := by kernel_rfl
theorem impl_Entry_with_impl_compareEntries.bits5 : waitsOk impl_Entry_with_impl_compareEntries.T5.2 impl_Entry_with_impl_compareEntries.B5 = true := by kernel_rfl
def impl_Entry_with_impl_compareEntries.T8 : Bool × List (List Nat × List Nat) := (true, [([], []), ([], []), ([], []), ([1, 2], [1, 2]), ([3], [3]), ([4], [4]), ([4], [4]), ([4], [4]), ([6, 7, 4], [4, 6, 7]), ([8, 4], [4, 8]), ([4], [4]), ([5, 9, 10, 4, 4], [4, 5, 9, 10]), ([11, 4], [4, 11]), ([4, 12], [4, 12]), ([0, 11, 0], [0]), ([13, 14, 0, 1, 2, 3, 4, 5, 6, 7, 8, 9, 10, 11, 12, 13, 14], [13])])
def impl_Entry_with_impl_compareEntries.B8 : List Nat := [0, 0, 0, 6, 14, 30, 30, 30, 222, 478, 30, 2046, 4094, 8190, 4095, 32767]
theorem impl_Entry_with_impl_compareEntries.tab8 : rtab .any (opsOf Try.f81 8) = impl_Entry_with_impl_compareEntries.T8 := by kernel_rfl
theorem impl_Entry_with_impl_compareEntries.bits8 : waitsOk impl_Entry_with_impl_compareEntries.T8.2 impl_Entry_with_impl_compareEntries.B8 = true := by kernel_rfl
set_option maxHeartbeats 8000000 in
set_option maxRecDepth 100000 in
theorem impl_Entry_with_impl_compareEntries.calls (k : Nat) (A0 : Option Addr) (c0 : Nat) (l0 : List (S45)) (a1_0 : ByteArray) (a1_1 : Int) (a1_2 : Int) (a1_3 : Int) (a1_4 : Int) (a1_5 : Int) (a1_6 : Int) (A1_7 : Option Addr) (c1_7 : Nat) (l1_7 : List Int) (a1_8 : Bool)  (r1 : Int) (r2 : Bool) (w : World) (hr0 : Kd.C k45 w A0 l0.length l0) (hc0 : l0.length ≤ c0) (hr1_7 : Kd.C (Kd.int .i64) w A1_7 l1_7.length l1_7) (hc1_7 : l1_7.length ≤ c1_7) (h : impl_Entry_with_impl_compareEntries.f k l0 a1_0 a1_1 a1_2 a1_3 a1_4 a1_5 a1_6 l1_7 a1_8 = some (r1, r2)) :
 Calls Try.prog 81 #[.slice A0 l0.length c0, .agg #[.string a1_0, .int .i64 a1_1, .int .i64 a1_2, .int .i64 a1_3, .int .i64 a1_4, .int .i64 a1_5, .int .i64 a1_6, .slice A1_7 l1_7.length c1_7, .bool a1_8], .func (.func 57) #[] #[]] w fun e w' => e = .returned (.tuple #[.int .i64 r1, .bool r2]) ∧ Below w.heap.size w w' := by
 have hu45 := Try.underlying45
 have HR0 := aM hr0
 have HC0 := aM hc0
 clear hr0 hc0
 have HR1_7 := aM hr1_7
 have HC1_7 := aM hc1_7
 clear hr1_7 hc1_7
 have HB := aM (Below.refl w.heap.size w)
 have H : (impl_Entry_with_impl_compareEntries.l0 k l0 (l0.length : Int) 0 (l0.length : Int) a1_0 a1_1 a1_2 a1_3 a1_4 a1_5 a1_6 l1_7 a1_8) = some (r1, r2) := h
 clear h
 have H' := aM H
 clear H
 go_enter Try.func81, Try.ntmps81
 go_wp2_with (first | ((with_reducible refine gate_dst (N := 4) rfl ?_); refine bX 4 45 #[.string a1_0, .int .i64 a1_1, .int .i64 a1_2, .int .i64 a1_3, .int .i64 a1_4, .int .i64 a1_5, .int .i64 a1_6, .slice A1_7 l1_7.length c1_7, .bool a1_8] ?_; intro gb101 hg w4 hbox hb; have _ := aM (below_step hbZ hb); have _ := aM hbox; have _ := szZ hg; have _ := szZ hg; clear HB; rename_i HB BK101 GW101 GE101; clear hb hbox hg))
 go_loopg [9, 10] k (fun kq v9 v10 w' => ∃ (x9_1 : Int) (x10_1 : Int), v9 = .int .i64 x9_1 ∧ v10 = .int .i64 x10_1 ∧ Aside0 (impl_Entry_with_impl_compareEntries.l0 kq l0 (l0.length : Int) x9_1 x10_1 a1_0 a1_1 a1_2 a1_3 a1_4 a1_5 a1_6 l1_7 a1_8 = some (r1, r2)) ∧ Aside0 (kq ≤ k) ∧ Aside0 (w'.heap[gb101]? = some (.cells #[.string a1_0, .int .i64 a1_1, .int .i64 a1_2, .int .i64 a1_3, .int .i64 a1_4, .int .i64 a1_5, .int .i64 a1_6, (.slice A1_7 l1_7.length c1_7), .bool a1_8] 45 (0, 0))) ∧ Aside0 (Below w.heap.size w w'))
 case atStart => exact ⟨(0), ((l0.length : Int)), z4458, z4458, H', ⟨Nat.le_refl _⟩, ⟨bkZ⟩, ⟨zcb41⟩⟩
 case round =>
  clear H'
  (try clear c1)
  obtain ⟨x9_1, x10_1, rfl, rfl, HA, HK1, BK101, HB⟩ := hrel
  cases gk with
  | zero => exact absurd HA.out (by simp [impl_Entry_with_impl_compareEntries.l0])
  | succ k1 =>
   have H := HA.out
   clear HA
   simp only [impl_Entry_with_impl_compareEntries.l0] at H
   by_cases c5 : x9_1 < x10_1
   · rw [if_pos c5] at H
     have c5b0 := dL c5
     clear c5
     obtain ⟨ji6, hji6⟩ : ∃ j_ : Int, (wrap64 ((IntKind.u64.wrap (wrap64 (x9_1 + x10_1))) / 2)) = j_ := ⟨_, rfl⟩
     replace H : (if 0 ≤ (ji6) then (if (ji6) < (l0.length : Int) then ((impl_compareEntries.f k1 ((rd_T45 l0 (ji6)).f0) ((rd_T45 l0 (ji6)).f1) ((rd_T45 l0 (ji6)).f2) ((rd_T45 l0 (ji6)).f3.f0) ((rd_T45 l0 (ji6)).f3.f1) ((rd_T45 l0 (ji6)).f3.f2) ((rd_T45 l0 (ji6)).f3.f3) ((rd_T45 l0 (ji6)).f3.f4) ((rd_T45 l0 (ji6)).f3.f5) a1_0 a1_1 a1_2 a1_3 a1_4 a1_5 a1_6 l1_7 a1_8).bind fun t103 => (if t103 < 0 then (impl_Entry_with_impl_compareEntries.l0 k1 l0 (l0.length : Int) (wrap64 ((ji6) + 1)) x10_1 a1_0 a1_1 a1_2 a1_3 a1_4 a1_5 a1_6 l1_7 a1_8) else (impl_Entry_with_impl_compareEntries.l0 k1 l0 (l0.length : Int) x9_1 ji6 a1_0 a1_1 a1_2 a1_3 a1_4 a1_5 a1_6 l1_7 a1_8))) else (none)) else (none)) = some (r1, r2) := by first | (rw [hji6] at H; exact H) | (simp only [hji6] at H ⊢; exact H)
     have hji6w : (IntKind.i64.wrap ((IntKind.u64.wrap (wrap64 (x9_1 + x10_1))) / 2)) = ji6 := (i64_w _).trans hji6
     obtain ⟨c7b0, H⟩ := sE H
     obtain ⟨c8b0, H⟩ := sL H
     obtain ⟨t103, A9, H⟩ := bS H; try dsimp only at H
     by_cases c10 : t103 < 0
     · rw [if_pos c10] at H
       have c10b0 := dL c10
       clear c10
       have H' := aM H
       clear H
       try go_wp2
       have _ := aM (blk_drew BK101.out)
       have _ := aM (below_drew1 HB.out)
       clear BK101
       clear HB
       rename_i BK101 HB
       have p102 : 0 ≤ ((ji6) : Int) := of_decide_eq_true z1200
       have q102 : (ji6) < (l0.length : Int) := of_decide_eq_true z1200
       obtain ⟨ad102, A102_7, c102_7, e102, hx102_0, hx102_1, hx102_2, hx102_3, hx102_4, hx102_5, hx102_6, hx102_7, hx102_8, hl102_7, hi102_7⟩ := at_T45 HR0.out (ji6) p102 q102
       have hw102_8 := hx102_8
       have hw102_7 := hx102_7
       have hw102_6 := hx102_6
       have hw102_5 := hx102_5
       have hw102_4 := hx102_4
       have hw102_3 := hx102_3
       have hw102_2 := hx102_2
       have hw102_1 := hx102_1
       have hw102_0 := hx102_0
       cases e102
       have TW102_7 := aM hx102_7
       replace hx102_0 := (HB.out.cell (World.block_lt_of_cell? w _ hx102_0)).trans hx102_0
       replace hx102_1 := (HB.out.cell (World.block_lt_of_cell? w _ hx102_1)).trans hx102_1
       replace hx102_2 := (HB.out.cell (World.block_lt_of_cell? w _ hx102_2)).trans hx102_2
       replace hx102_3 := (HB.out.cell (World.block_lt_of_cell? w _ hx102_3)).trans hx102_3
       replace hx102_4 := (HB.out.cell (World.block_lt_of_cell? w _ hx102_4)).trans hx102_4
       replace hx102_5 := (HB.out.cell (World.block_lt_of_cell? w _ hx102_5)).trans hx102_5
       replace hx102_6 := (HB.out.cell (World.block_lt_of_cell? w _ hx102_6)).trans hx102_6
       replace hx102_7 := (HB.out.cell (World.block_lt_of_cell? w _ hx102_7)).trans hx102_7
       replace hx102_8 := (HB.out.cell (World.block_lt_of_cell? w _ hx102_8)).trans hx102_8
       have HR102_7 := aM hi102_7
       have HC102_7 := aM hl102_7
       clear hi102_7 hl102_7
       replace p102 := eq_true p102
       replace q102 := eq_true q102
       refine sA 8 impl_Entry_with_impl_compareEntries.tab5 impl_Entry_with_impl_compareEntries.bits5 (fun w' => w'.cell? ⟨gb101, 0, none⟩ = some (.string a1_0) ∧ w'.cell? ⟨gb101, 1, none⟩ = some (.int .i64 a1_1) ∧ w'.cell? ⟨gb101, 2, none⟩ = some (.int .i64 a1_2) ∧ w'.cell? ⟨gb101, 3, none⟩ = some (.int .i64 a1_3) ∧ w'.cell? ⟨gb101, 4, none⟩ = some (.int .i64 a1_4) ∧ w'.cell? ⟨gb101, 5, none⟩ = some (.int .i64 a1_5) ∧ w'.cell? ⟨gb101, 6, none⟩ = some (.int .i64 a1_6) ∧ w'.cell? ⟨gb101, 7, none⟩ = some (.slice A1_7 l1_7.length c1_7) ∧ w'.cell? ⟨gb101, 8, none⟩ = some (.bool a1_8) ∧ w'.cell? (ad102.add (((ji6)).toNat * 9)) = some (.string ((rd_T45 l0 (ji6)).f0)) ∧ w'.cell? ⟨(ad102.add (((ji6)).toNat * 9)).block, (ad102.add (((ji6)).toNat * 9)).off + 1, none⟩ = some (.int .i64 ((rd_T45 l0 (ji6)).f1)) ∧ w'.cell? ⟨(ad102.add (((ji6)).toNat * 9)).block, (ad102.add (((ji6)).toNat * 9)).off + 2, none⟩ = some (.int .i64 ((rd_T45 l0 (ji6)).f2)) ∧ w'.cell? ⟨(ad102.add (((ji6)).toNat * 9)).block, (ad102.add (((ji6)).toNat * 9)).off + 3, none⟩ = some (.int .i64 ((rd_T45 l0 (ji6)).f3.f0)) ∧ w'.cell? ⟨(ad102.add (((ji6)).toNat * 9)).block, (ad102.add (((ji6)).toNat * 9)).off + 4, none⟩ = some (.int .i64 ((rd_T45 l0 (ji6)).f3.f1)) ∧ w'.cell? ⟨(ad102.add (((ji6)).toNat * 9)).block, (ad102.add (((ji6)).toNat * 9)).off + 5, none⟩ = some (.int .i64 ((rd_T45 l0 (ji6)).f3.f2)) ∧ w'.cell? ⟨(ad102.add (((ji6)).toNat * 9)).block, (ad102.add (((ji6)).toNat * 9)).off + 6, none⟩ = some (.int .i64 ((rd_T45 l0 (ji6)).f3.f3)) ∧ w'.cell? ⟨(ad102.add (((ji6)).toNat * 9)).block, (ad102.add (((ji6)).toNat * 9)).off + 7, none⟩ = some (.slice A102_7 ((rd_T45 l0 (ji6)).f3.f4).length c102_7) ∧ w'.cell? ⟨(ad102.add (((ji6)).toNat * 9)).block, (ad102.add (((ji6)).toNat * 9)).off + 8, none⟩ = some (.bool ((rd_T45 l0 (ji6)).f3.f5))) [] (fun hHeld HT_ HW_ => ?_)
       generalize wr.drew = w11 at BK101 HB HR102_7 hx102_0 hx102_1 hx102_2 hx102_3 hx102_4 hx102_5 hx102_6 hx102_7 hx102_8 hHeld ⊢
       refine pA 0 24 HT_ ?_; refine pA 1 25 HT_ ?_; refine pA 2 26 HT_ ?_; refine pA 3 27 HT_ ?_; refine tA 4 28 HT_ HW_ hHeld ?_; refine tA 5 29 HT_ HW_ hHeld ?_; refine oA 6 30 HT_ (fun K hK => ?_)
       refine goesV_ Try.func57 (by kernel_rfl) rfl #[.agg #[.string ((rd_T45 l0 (ji6)).f0), .int .i64 ((rd_T45 l0 (ji6)).f1), .int .i64 ((rd_T45 l0 (ji6)).f2), .int .i64 ((rd_T45 l0 (ji6)).f3.f0), .int .i64 ((rd_T45 l0 (ji6)).f3.f1), .int .i64 ((rd_T45 l0 (ji6)).f3.f2), .int .i64 ((rd_T45 l0 (ji6)).f3.f3), .slice A102_7 ((rd_T45 l0 (ji6)).f3.f4).length c102_7, .bool ((rd_T45 l0 (ji6)).f3.f5)], .agg #[.string a1_0, .int .i64 a1_1, .int .i64 a1_2, .int .i64 a1_3, .int .i64 a1_4, .int .i64 a1_5, .int .i64 a1_6, .slice A1_7 l1_7.length c1_7, .bool a1_8]] (by rfl) rfl rfl rfl (by (try simp only [List.map_toArray, List.map_cons, List.map_nil]); first | done | (simp only [hji6]; rfl) | rfl | (simp only [List.length_drop, List.length_take]; rfl)) ?_
       with_reducible refine (impl_compareEntries.calls k1 ((rd_T45 l0 (ji6)).f0) ((rd_T45 l0 (ji6)).f1) ((rd_T45 l0 (ji6)).f2) ((rd_T45 l0 (ji6)).f3.f0) ((rd_T45 l0 (ji6)).f3.f1) ((rd_T45 l0 (ji6)).f3.f2) ((rd_T45 l0 (ji6)).f3.f3) _ _ ((rd_T45 l0 (ji6)).f3.f4) ((rd_T45 l0 (ji6)).f3.f5) a1_0 a1_1 a1_2 a1_3 a1_4 a1_5 a1_6 _ _ l1_7 a1_8 t103 _ ?side1 ?side2 ?side3 ?side4 A9.out).mono ?_
       (case side1 => exact (cZ (Kd.C_below HR102_7.out HB.out)))
       (case side2 => exact HC102_7.out)
       (case side3 => exact (cZ (Kd.C_below HR1_7.out HB.out)))
       (case side4 => exact HC1_7.out)
       rintro e w12 ⟨rfl, hb⟩
       refine ⟨_, rfl, ?_⟩
       have _ := bB gb101 hb
       have _ := aM (below_step hbZ hb)
       clear BK101
       clear HB
       rename_i BK101 HB
       (try clear hb)
       refine hK.out _ _ sZ (fun hHeld => ?_)
       clear hK K
       refine nA 30 ?_; refine pA 7 31 HT_ ?_
       refine done_ (done_of HT_.out (by kernel_rfl)) ?_
       try go_wp2
       go_roundg k1
       case measure => have := HK1.out; omega
       case rel => exact ⟨(wrap64 ((ji6) + 1)), (x10_1), (by first | rfl | (simp; done) | (simp only [← hji6] <;> (first | rfl | (simp; done))) | (simp [*]; done)), z4458, H', ⟨zfb39⟩, ⟨bkZ⟩, ⟨zcb41⟩⟩
     · rw [if_neg c10] at H
       have c10b0 := nL c10
       clear c10
       have H' := aM H
       clear H
       try go_wp2
       have _ := aM (blk_drew BK101.out)
       have _ := aM (below_drew1 HB.out)
       clear BK101
       clear HB
       rename_i BK101 HB
       have p102 : 0 ≤ ((ji6) : Int) := of_decide_eq_true z1200
       have q102 : (ji6) < (l0.length : Int) := of_decide_eq_true z1200
       obtain ⟨ad102, A102_7, c102_7, e102, hx102_0, hx102_1, hx102_2, hx102_3, hx102_4, hx102_5, hx102_6, hx102_7, hx102_8, hl102_7, hi102_7⟩ := at_T45 HR0.out (ji6) p102 q102
       have hw102_8 := hx102_8
       have hw102_7 := hx102_7
       have hw102_6 := hx102_6
       have hw102_5 := hx102_5
       have hw102_4 := hx102_4
       have hw102_3 := hx102_3
       have hw102_2 := hx102_2
       have hw102_1 := hx102_1
       have hw102_0 := hx102_0
       cases e102
       have TW102_7 := aM hx102_7
       replace hx102_0 := (HB.out.cell (World.block_lt_of_cell? w _ hx102_0)).trans hx102_0
       replace hx102_1 := (HB.out.cell (World.block_lt_of_cell? w _ hx102_1)).trans hx102_1
       replace hx102_2 := (HB.out.cell (World.block_lt_of_cell? w _ hx102_2)).trans hx102_2
       replace hx102_3 := (HB.out.cell (World.block_lt_of_cell? w _ hx102_3)).trans hx102_3
       replace hx102_4 := (HB.out.cell (World.block_lt_of_cell? w _ hx102_4)).trans hx102_4
       replace hx102_5 := (HB.out.cell (World.block_lt_of_cell? w _ hx102_5)).trans hx102_5
       replace hx102_6 := (HB.out.cell (World.block_lt_of_cell? w _ hx102_6)).trans hx102_6
       replace hx102_7 := (HB.out.cell (World.block_lt_of_cell? w _ hx102_7)).trans hx102_7
       replace hx102_8 := (HB.out.cell (World.block_lt_of_cell? w _ hx102_8)).trans hx102_8
       have HR102_7 := aM hi102_7
       have HC102_7 := aM hl102_7
       clear hi102_7 hl102_7
       replace p102 := eq_true p102
       replace q102 := eq_true q102
       refine sA 8 impl_Entry_with_impl_compareEntries.tab5 impl_Entry_with_impl_compareEntries.bits5 (fun w' => w'.cell? ⟨gb101, 0, none⟩ = some (.string a1_0) ∧ w'.cell? ⟨gb101, 1, none⟩ = some (.int .i64 a1_1) ∧ w'.cell? ⟨gb101, 2, none⟩ = some (.int .i64 a1_2) ∧ w'.cell? ⟨gb101, 3, none⟩ = some (.int .i64 a1_3) ∧ w'.cell? ⟨gb101, 4, none⟩ = some (.int .i64 a1_4) ∧ w'.cell? ⟨gb101, 5, none⟩ = some (.int .i64 a1_5) ∧ w'.cell? ⟨gb101, 6, none⟩ = some (.int .i64 a1_6) ∧ w'.cell? ⟨gb101, 7, none⟩ = some (.slice A1_7 l1_7.length c1_7) ∧ w'.cell? ⟨gb101, 8, none⟩ = some (.bool a1_8) ∧ w'.cell? (ad102.add (((ji6)).toNat * 9)) = some (.string ((rd_T45 l0 (ji6)).f0)) ∧ w'.cell? ⟨(ad102.add (((ji6)).toNat * 9)).block, (ad102.add (((ji6)).toNat * 9)).off + 1, none⟩ = some (.int .i64 ((rd_T45 l0 (ji6)).f1)) ∧ w'.cell? ⟨(ad102.add (((ji6)).toNat * 9)).block, (ad102.add (((ji6)).toNat * 9)).off + 2, none⟩ = some (.int .i64 ((rd_T45 l0 (ji6)).f2)) ∧ w'.cell? ⟨(ad102.add (((ji6)).toNat * 9)).block, (ad102.add (((ji6)).toNat * 9)).off + 3, none⟩ = some (.int .i64 ((rd_T45 l0 (ji6)).f3.f0)) ∧ w'.cell? ⟨(ad102.add (((ji6)).toNat * 9)).block, (ad102.add (((ji6)).toNat * 9)).off + 4, none⟩ = some (.int .i64 ((rd_T45 l0 (ji6)).f3.f1)) ∧ w'.cell? ⟨(ad102.add (((ji6)).toNat * 9)).block, (ad102.add (((ji6)).toNat * 9)).off + 5, none⟩ = some (.int .i64 ((rd_T45 l0 (ji6)).f3.f2)) ∧ w'.cell? ⟨(ad102.add (((ji6)).toNat * 9)).block, (ad102.add (((ji6)).toNat * 9)).off + 6, none⟩ = some (.int .i64 ((rd_T45 l0 (ji6)).f3.f3)) ∧ w'.cell? ⟨(ad102.add (((ji6)).toNat * 9)).block, (ad102.add (((ji6)).toNat * 9)).off + 7, none⟩ = some (.slice A102_7 ((rd_T45 l0 (ji6)).f3.f4).length c102_7) ∧ w'.cell? ⟨(ad102.add (((ji6)).toNat * 9)).block, (ad102.add (((ji6)).toNat * 9)).off + 8, none⟩ = some (.bool ((rd_T45 l0 (ji6)).f3.f5))) [] (fun hHeld HT_ HW_ => ?_)
       generalize wr.drew = w13 at BK101 HB HR102_7 hx102_0 hx102_1 hx102_2 hx102_3 hx102_4 hx102_5 hx102_6 hx102_7 hx102_8 hHeld ⊢
       refine pA 0 24 HT_ ?_; refine pA 1 25 HT_ ?_; refine pA 2 26 HT_ ?_; refine pA 3 27 HT_ ?_; refine tA 4 28 HT_ HW_ hHeld ?_; refine tA 5 29 HT_ HW_ hHeld ?_; refine oA 6 30 HT_ (fun K hK => ?_)
       refine goesV_ Try.func57 (by kernel_rfl) rfl #[.agg #[.string ((rd_T45 l0 (ji6)).f0), .int .i64 ((rd_T45 l0 (ji6)).f1), .int .i64 ((rd_T45 l0 (ji6)).f2), .int .i64 ((rd_T45 l0 (ji6)).f3.f0), .int .i64 ((rd_T45 l0 (ji6)).f3.f1), .int .i64 ((rd_T45 l0 (ji6)).f3.f2), .int .i64 ((rd_T45 l0 (ji6)).f3.f3), .slice A102_7 ((rd_T45 l0 (ji6)).f3.f4).length c102_7, .bool ((rd_T45 l0 (ji6)).f3.f5)], .agg #[.string a1_0, .int .i64 a1_1, .int .i64 a1_2, .int .i64 a1_3, .int .i64 a1_4, .int .i64 a1_5, .int .i64 a1_6, .slice A1_7 l1_7.length c1_7, .bool a1_8]] (by rfl) rfl rfl rfl (by (try simp only [List.map_toArray, List.map_cons, List.map_nil]); first | done | (simp only [hji6]; rfl) | rfl | (simp only [List.length_drop, List.length_take]; rfl)) ?_
       with_reducible refine (impl_compareEntries.calls k1 ((rd_T45 l0 (ji6)).f0) ((rd_T45 l0 (ji6)).f1) ((rd_T45 l0 (ji6)).f2) ((rd_T45 l0 (ji6)).f3.f0) ((rd_T45 l0 (ji6)).f3.f1) ((rd_T45 l0 (ji6)).f3.f2) ((rd_T45 l0 (ji6)).f3.f3) _ _ ((rd_T45 l0 (ji6)).f3.f4) ((rd_T45 l0 (ji6)).f3.f5) a1_0 a1_1 a1_2 a1_3 a1_4 a1_5 a1_6 _ _ l1_7 a1_8 t103 _ ?side1 ?side2 ?side3 ?side4 A9.out).mono ?_
       (case side1 => exact (cZ (Kd.C_below HR102_7.out HB.out)))
       (case side2 => exact HC102_7.out)
       (case side3 => exact (cZ (Kd.C_below HR1_7.out HB.out)))
       (case side4 => exact HC1_7.out)
       rintro e w14 ⟨rfl, hb⟩
       refine ⟨_, rfl, ?_⟩
       have _ := bB gb101 hb
       have _ := aM (below_step hbZ hb)
       clear BK101
       clear HB
       rename_i BK101 HB
       (try clear hb)
       refine hK.out _ _ sZ (fun hHeld => ?_)
       clear hK K
       refine nA 30 ?_; refine pA 7 31 HT_ ?_
       refine done_ (done_of HT_.out (by kernel_rfl)) ?_
       try go_wp2
       go_roundg k1
       case measure => have := HK1.out; omega
       case rel => exact ⟨(x9_1), (ji6), z4458, (by first | rfl | (simp; done) | (simp only [← hji6] <;> (first | rfl | (simp; done))) | (simp [*]; done)), H', ⟨zfb39⟩, ⟨bkZ⟩, ⟨zcb41⟩⟩
   · rw [if_neg c5] at H
     have c5b0 := nL c5
     clear c5
     by_cases c15 : x9_1 < (l0.length : Int)
     · rw [if_pos c15] at H
       have c15b0 := dL c15
       clear c15
       obtain ⟨c16b0, H⟩ := sE H
       obtain ⟨c17b0, H⟩ := sL H
       obtain ⟨t105, A18, H⟩ := bS H; try dsimp only at H
       simp only [Option.some.injEq, Prod.mk.injEq] at H
       obtain ⟨rfl, rfl⟩ := H
       try go_wp2
       have _ := aM (blk_drew BK101.out)
       have _ := aM (below_drew1 HB.out)
       clear BK101
       clear HB
       rename_i BK101 HB
       have p104 : 0 ≤ (x9_1 : Int) := of_decide_eq_true z1200
       have q104 : x9_1 < (l0.length : Int) := of_decide_eq_true z1200
       obtain ⟨ad104, A104_7, c104_7, e104, hx104_0, hx104_1, hx104_2, hx104_3, hx104_4, hx104_5, hx104_6, hx104_7, hx104_8, hl104_7, hi104_7⟩ := at_T45 HR0.out x9_1 p104 q104
       have hw104_8 := hx104_8
       have hw104_7 := hx104_7
       have hw104_6 := hx104_6
       have hw104_5 := hx104_5
       have hw104_4 := hx104_4
       have hw104_3 := hx104_3
       have hw104_2 := hx104_2
       have hw104_1 := hx104_1
       have hw104_0 := hx104_0
       cases e104
       have TW104_7 := aM hx104_7
       replace hx104_0 := (HB.out.cell (World.block_lt_of_cell? w _ hx104_0)).trans hx104_0
       replace hx104_1 := (HB.out.cell (World.block_lt_of_cell? w _ hx104_1)).trans hx104_1
       replace hx104_2 := (HB.out.cell (World.block_lt_of_cell? w _ hx104_2)).trans hx104_2
       replace hx104_3 := (HB.out.cell (World.block_lt_of_cell? w _ hx104_3)).trans hx104_3
       replace hx104_4 := (HB.out.cell (World.block_lt_of_cell? w _ hx104_4)).trans hx104_4
       replace hx104_5 := (HB.out.cell (World.block_lt_of_cell? w _ hx104_5)).trans hx104_5
       replace hx104_6 := (HB.out.cell (World.block_lt_of_cell? w _ hx104_6)).trans hx104_6
       replace hx104_7 := (HB.out.cell (World.block_lt_of_cell? w _ hx104_7)).trans hx104_7
       replace hx104_8 := (HB.out.cell (World.block_lt_of_cell? w _ hx104_8)).trans hx104_8
       have HR104_7 := aM hi104_7
       have HC104_7 := aM hl104_7
       clear hi104_7 hl104_7
       replace p104 := eq_true p104
       replace q104 := eq_true q104
       refine sA 16 impl_Entry_with_impl_compareEntries.tab8 impl_Entry_with_impl_compareEntries.bits8 (fun w' => w'.cell? ⟨gb101, 0, none⟩ = some (.string a1_0) ∧ w'.cell? ⟨gb101, 1, none⟩ = some (.int .i64 a1_1) ∧ w'.cell? ⟨gb101, 2, none⟩ = some (.int .i64 a1_2) ∧ w'.cell? ⟨gb101, 3, none⟩ = some (.int .i64 a1_3) ∧ w'.cell? ⟨gb101, 4, none⟩ = some (.int .i64 a1_4) ∧ w'.cell? ⟨gb101, 5, none⟩ = some (.int .i64 a1_5) ∧ w'.cell? ⟨gb101, 6, none⟩ = some (.int .i64 a1_6) ∧ w'.cell? ⟨gb101, 7, none⟩ = some (.slice A1_7 l1_7.length c1_7) ∧ w'.cell? ⟨gb101, 8, none⟩ = some (.bool a1_8) ∧ w'.cell? (ad104.add ((x9_1).toNat * 9)) = some (.string ((rd_T45 l0 x9_1).f0)) ∧ w'.cell? ⟨(ad104.add ((x9_1).toNat * 9)).block, (ad104.add ((x9_1).toNat * 9)).off + 1, none⟩ = some (.int .i64 ((rd_T45 l0 x9_1).f1)) ∧ w'.cell? ⟨(ad104.add ((x9_1).toNat * 9)).block, (ad104.add ((x9_1).toNat * 9)).off + 2, none⟩ = some (.int .i64 ((rd_T45 l0 x9_1).f2)) ∧ w'.cell? ⟨(ad104.add ((x9_1).toNat * 9)).block, (ad104.add ((x9_1).toNat * 9)).off + 3, none⟩ = some (.int .i64 ((rd_T45 l0 x9_1).f3.f0)) ∧ w'.cell? ⟨(ad104.add ((x9_1).toNat * 9)).block, (ad104.add ((x9_1).toNat * 9)).off + 4, none⟩ = some (.int .i64 ((rd_T45 l0 x9_1).f3.f1)) ∧ w'.cell? ⟨(ad104.add ((x9_1).toNat * 9)).block, (ad104.add ((x9_1).toNat * 9)).off + 5, none⟩ = some (.int .i64 ((rd_T45 l0 x9_1).f3.f2)) ∧ w'.cell? ⟨(ad104.add ((x9_1).toNat * 9)).block, (ad104.add ((x9_1).toNat * 9)).off + 6, none⟩ = some (.int .i64 ((rd_T45 l0 x9_1).f3.f3)) ∧ w'.cell? ⟨(ad104.add ((x9_1).toNat * 9)).block, (ad104.add ((x9_1).toNat * 9)).off + 7, none⟩ = some (.slice A104_7 ((rd_T45 l0 x9_1).f3.f4).length c104_7) ∧ w'.cell? ⟨(ad104.add ((x9_1).toNat * 9)).block, (ad104.add ((x9_1).toNat * 9)).off + 8, none⟩ = some (.bool ((rd_T45 l0 x9_1).f3.f5))) [] (fun hHeld HT_ HW_ => ?_)
       generalize wr.drew = w19 at BK101 HB HR104_7 hx104_0 hx104_1 hx104_2 hx104_3 hx104_4 hx104_5 hx104_6 hx104_7 hx104_8 hHeld ⊢
       refine pA 0 35 HT_ ?_; refine pA 1 36 HT_ ?_; refine pA 2 37 HT_ ?_; refine pA 3 38 HT_ ?_; refine pA 4 39 HT_ ?_; refine pA 5 40 HT_ ?_; refine pA 6 41 HT_ ?_; refine pA 7 42 HT_ ?_; refine pA 8 43 HT_ ?_; refine tA 9 44 HT_ HW_ hHeld ?_; refine tA 10 45 HT_ HW_ hHeld ?_; refine oA 11 46 HT_ (fun K hK => ?_)
       refine goesV_ Try.func57 (by kernel_rfl) rfl #[.agg #[.string ((rd_T45 l0 x9_1).f0), .int .i64 ((rd_T45 l0 x9_1).f1), .int .i64 ((rd_T45 l0 x9_1).f2), .int .i64 ((rd_T45 l0 x9_1).f3.f0), .int .i64 ((rd_T45 l0 x9_1).f3.f1), .int .i64 ((rd_T45 l0 x9_1).f3.f2), .int .i64 ((rd_T45 l0 x9_1).f3.f3), .slice A104_7 ((rd_T45 l0 x9_1).f3.f4).length c104_7, .bool ((rd_T45 l0 x9_1).f3.f5)], .agg #[.string a1_0, .int .i64 a1_1, .int .i64 a1_2, .int .i64 a1_3, .int .i64 a1_4, .int .i64 a1_5, .int .i64 a1_6, .slice A1_7 l1_7.length c1_7, .bool a1_8]] (by rfl) rfl rfl rfl zee81 ?_
       with_reducible refine (impl_compareEntries.calls k1 ((rd_T45 l0 x9_1).f0) ((rd_T45 l0 x9_1).f1) ((rd_T45 l0 x9_1).f2) ((rd_T45 l0 x9_1).f3.f0) ((rd_T45 l0 x9_1).f3.f1) ((rd_T45 l0 x9_1).f3.f2) ((rd_T45 l0 x9_1).f3.f3) _ _ ((rd_T45 l0 x9_1).f3.f4) ((rd_T45 l0 x9_1).f3.f5) a1_0 a1_1 a1_2 a1_3 a1_4 a1_5 a1_6 _ _ l1_7 a1_8 t105 _ ?side1 ?side2 ?side3 ?side4 A18.out).mono ?_
       (case side1 => exact (cZ (Kd.C_below HR104_7.out HB.out)))
       (case side2 => exact HC104_7.out)
       (case side3 => exact (cZ (Kd.C_below HR1_7.out HB.out)))
       (case side4 => exact HC1_7.out)
       rintro e w20 ⟨rfl, hb⟩
       refine ⟨_, rfl, ?_⟩
       have _ := bB gb101 hb
       have _ := aM (below_step hbZ hb)
       clear BK101
       clear HB
       rename_i BK101 HB
       (try clear hb)
       refine hK.out _ _ sZ (fun hHeld => ?_)
       clear hK K
       refine nA 46 ?_; refine pA 12 47 HT_ ?_; refine pA 13 48 HT_ ?_; refine pA 14 6 HT_ ?_; refine pA 15 7 HT_ ?_
       refine done_ (done_of HT_.out (by kernel_rfl)) ?_
       try go_wp2
       go_ret2
       exact ⟨z674d, zcb41⟩
     · rw [if_neg c15] at H
       have c15b0 := nL c15
       clear c15
       simp only [Option.some.injEq, Prod.mk.injEq] at H
       obtain ⟨rfl, rfl⟩ := H
       try go_wp2
       have _ := aM (blk_drew BK101.out)
       have _ := aM (below_drew1 HB.out)
       clear BK101
       clear HB
       rename_i BK101 HB
       refine sA 16 impl_Entry_with_impl_compareEntries.tab8 impl_Entry_with_impl_compareEntries.bits8 (fun w' => True) [] (fun hHeld HT_ HW_ => ?_)
       generalize wr.drew = w21 at BK101 HB hHeld ⊢
       refine pA 0 35 HT_ ?_; refine pA 1 36 HT_ ?_; refine pA 2 37 HT_ ?_; refine pA 3 38 HT_ ?_; refine pA 4 39 HT_ ?_; refine uA 5 40 HT_ ?_; refine uA 6 41 HT_ ?_; refine uA 7 42 HT_ ?_; refine uA 8 43 HT_ ?_; refine uA 9 44 HT_ ?_; refine uA 10 45 HT_ ?_; refine uA 11 46 HT_ ?_; refine uA 12 47 HT_ ?_; refine pA 13 48 HT_ ?_; refine pA 14 6 HT_ ?_; refine pA 15 7 HT_ ?_
       refine done_ (done_of HT_.out (by kernel_rfl)) ?_
       try go_wp2
       go_ret2
       exact ⟨z674d, zcb41⟩
end Go.Proofs.Ytdkokfnnebdppaa.P
namespace Go.Proofs.Ytdkokfnnebdppaa.P
open Go.RowKit Go.Proofs.YtdkokfnnebdppaaW.PrintWords Go.Proofs.YtdkokfnnebdppaaW.PrintLast Go.Proofs.YtdkokfnnebdppaaW.PrintMore
attribute [local go_sem] max2_int min2_int max_two min_two max_three min_three max_four min_four str_geq str_gtr str_leq
set_option linter.unusedVariables false
set_option linter.unusedSimpArgs false
def impl_withEntry.ins (l0 : List (S45)) (a1 : Int) (l2 : List (S45)) : Option (List (S45)) := if 0 ≤ a1 ∧ a1 ≤ (l0.length : Int) ∧ l2.length = 1 ∧ (l0.length + 1) * 96 ≤ 140737488355328 then some (l0.take a1.toNat ++ l2 ++ l0.drop a1.toNat) else none
def impl_withEntry.f (k : Nat) (l0 : List (S45)) (a1_0 : ByteArray) (a1_1 : Int) (a1_2 : Int) (a1_3 : Int) (a1_4 : Int) (a1_5 : Int) (a1_6 : Int) (l1_7 : List Int) (a1_8 : Bool) : Option ((List (S45))) := (impl_Entry_with_impl_compareEntries.f k l0 a1_0 a1_1 a1_2 a1_3 a1_4 a1_5 a1_6 l1_7 a1_8).bind fun bt102 => ((impl_clonedEntries.f k l0).bind fun t104 => ((impl_Entry_cloned.f a1_0 a1_1 a1_2 a1_3 a1_4 a1_5 a1_6 l1_7 a1_8).bind fun bt107 => ((impl_withEntry.ins t104 bt102.1 (([(⟨bt107.1, bt107.2.1, bt107.2.2.1, (⟨bt107.2.2.2.1, bt107.2.2.2.2.1, bt107.2.2.2.2.2.1, bt107.2.2.2.2.2.2.1, bt107.2.2.2.2.2.2.2.1, bt107.2.2.2.2.2.2.2.2⟩ : S26)⟩ : S45)] : List (S45)))).bind fun t121 => (some t121))))
theorem impl_withEntry.mono : ∀ a0 a1 a2 a3 a4 a5 a6 a7 a8 a9 k, LeO (impl_withEntry.f k a0 a1 a2 a3 a4 a5 a6 a7 a8 a9) (impl_withEntry.f (k + 1) a0 a1 a2 a3 a4 a5 a6 a7 a8 a9) := by
 intro a0 a1 a2 a3 a4 a5 a6 a7 a8 a9 k
 have m0 := @impl_Entry_with_impl_compareEntries.mono; have m1 := @impl_clonedEntries.mono
 unfold impl_withEntry.f
 exact moZ
def impl_withEntry.T2 : Bool × List (List Nat × List Nat) := (true, [([], []), ([0], [0]), ([], []), ([], []), ([3, 1], [3]), ([4], [4]), ([1, 2, 5, 4], [1, 2, 5]), ([6, 6, 0, 1, 2, 3, 4, 5, 6], [6])])
def impl_withEntry.B2 : List Nat := [0, 1, 0, 0, 11, 27, 63, 127]
theorem impl_withEntry.tab2 : rtab .any (opsOf Try.f50 2) = impl_withEntry.T2 := by kernel_rfl
theorem impl_withEntry.bits2 : waitsOk impl_withEntry.T2.2 impl_withEntry.B2 = true := by kernel_rfl
theorem impl_withEntry.calls (k : Nat) (A0 : Option Addr) (c0 : Nat) (l0 : List (S45)) (a1_0 : ByteArray) (a1_1 : Int) (a1_2 : Int) (a1_3 : Int) (a1_4 : Int) (a1_5 : Int) (a1_6 : Int) (A1_7 : Option Addr) (c1_7 : Nat) (l1_7 : List Int) (a1_8 : Bool) (r : List (S45)) (w : World) (hr0 : Kd.C k45 w A0 l0.length l0) (hc0 : l0.length ≤ c0) (hr1_7 : Kd.C (Kd.int .i64) w A1_7 l1_7.length l1_7) (hc1_7 : l1_7.length ≤ c1_7) (h : impl_withEntry.f k l0 a1_0 a1_1 a1_2 a1_3 a1_4 a1_5 a1_6 l1_7 a1_8 = some r) :
 Calls Try.prog 50 #[.slice A0 l0.length c0, .agg #[.string a1_0, .int .i64 a1_1, .int .i64 a1_2, .int .i64 a1_3, .int .i64 a1_4, .int .i64 a1_5, .int .i64 a1_6, .slice A1_7 l1_7.length c1_7, .bool a1_8]] w fun e w' => ∃ v0_ : Value, e = .returned (v0_) ∧ Kd.S k45 45 w' w.heap.size (fun _ => True) v0_ r ∧ Below w.heap.size w w' := by
 have hu45 := Try.underlying45
 have HR0 := aM hr0
 have HC0 := aM hc0
 clear hr0 hc0
 have HR1_7 := aM hr1_7
 have HC1_7 := aM hc1_7
 clear hr1_7 hc1_7
 have HB := aM (Below.refl w.heap.size w)
 have H : ((impl_Entry_with_impl_compareEntries.f k l0 a1_0 a1_1 a1_2 a1_3 a1_4 a1_5 a1_6 l1_7 a1_8).bind fun bt102 => ((impl_clonedEntries.f k l0).bind fun t104 => ((impl_Entry_cloned.f a1_0 a1_1 a1_2 a1_3 a1_4 a1_5 a1_6 l1_7 a1_8).bind fun bt107 => ((impl_withEntry.ins t104 bt102.1 (([(⟨bt107.1, bt107.2.1, bt107.2.2.1, (⟨bt107.2.2.2.1, bt107.2.2.2.2.1, bt107.2.2.2.2.2.1, bt107.2.2.2.2.2.2.1, bt107.2.2.2.2.2.2.2.1, bt107.2.2.2.2.2.2.2.2⟩ : S26)⟩ : S45)] : List (S45)))).bind fun t121 => (some t121))))) = some r := h
 clear h
 obtain ⟨⟨t102, t103⟩, A3, H⟩ := bS H; try dsimp only at H
 obtain ⟨t104, A4, H⟩ := bS H; try dsimp only at H
 obtain ⟨⟨t107, t108, t109, t110, t111, t112, t113, t114, t117⟩, A5, H⟩ := bS H; try dsimp only at H
 obtain ⟨y118, hy118⟩ : ∃ y_ : List (S45), y_ = (([(⟨t107, t108, t109, (⟨t110, t111, t112, t113, t114, t117⟩ : S26)⟩ : S45)] : List (S45))) := ⟨_, rfl⟩
 first | (replace H := bindS H; rw [← hy118] at H; try dsimp only at H) | rw [← hy118] at H
 have Ny118 := aM hy118
 clear hy118
 obtain ⟨t121, A6, H⟩ := bS H; try dsimp only at H
 obtain rfl := Option.some.inj H
 go_enter Try.func50, Try.ntmps50
 try go_wp2_with (first | ((with_reducible refine gate_dst (N := 3) rfl ?_); refine bX 3 45 #[.string a1_0, .int .i64 a1_1, .int .i64 a1_2, .int .i64 a1_3, .int .i64 a1_4, .int .i64 a1_5, .int .i64 a1_6, .slice A1_7 l1_7.length c1_7, .bool a1_8] ?_; intro gb101 hg w7 hbox hb; have _ := aM (below_step hbZ hb); have _ := aM hbox; have _ := szZ hg; have _ := szZ hg; clear HB; rename_i HB BK101 GW101 GE101; clear hb hbox hg; have hz8 := cellsZ9 BK101.out) | ((with_reducible refine gate_callee (f := 81) rfl ?_); refine gL 10 Try.func81 #[.slice A0 l0.length c0, .agg #[.string a1_0, .int .i64 a1_1, .int .i64 a1_2, .int .i64 a1_3, .int .i64 a1_4, .int .i64 a1_5, .int .i64 a1_6, .slice A1_7 l1_7.length c1_7, .bool a1_8], .func (.func 57) #[] #[]] ?_; (with_reducible refine (impl_Entry_with_impl_compareEntries.calls k _ _ l0 a1_0 a1_1 a1_2 a1_3 a1_4 a1_5 a1_6 _ _ l1_7 a1_8  t102 t103 _ ?side1 ?side2 ?side3 ?side4 A3.out).mono ?_); (case side1 => exact (cZ (Kd.C_below HR0.out HB.out))); (case side2 => exact HC0.out); (case side3 => exact (cZ (Kd.C_below HR1_7.out HB.out))); (case side4 => exact HC1_7.out); rintro e w9 ⟨rfl, hb⟩; refine ⟨_, rfl, ?_⟩; have _ := bB gb101 hb; have _ := aM (below_step hbZ hb); clear BK101 HB; rename_i BK101 HB; (try clear hb)))
 have _ := aM (blk_drew BK101.out)
 have _ := aM (below_drew1 HB.out)
 clear BK101
 clear HB
 rename_i BK101 HB
 refine sA 8 impl_withEntry.tab2 impl_withEntry.bits2 (fun w' => w'.cell? ⟨gb101, 0, none⟩ = some (.string a1_0) ∧ w'.cell? ⟨gb101, 1, none⟩ = some (.int .i64 a1_1) ∧ w'.cell? ⟨gb101, 2, none⟩ = some (.int .i64 a1_2) ∧ w'.cell? ⟨gb101, 3, none⟩ = some (.int .i64 a1_3) ∧ w'.cell? ⟨gb101, 4, none⟩ = some (.int .i64 a1_4) ∧ w'.cell? ⟨gb101, 5, none⟩ = some (.int .i64 a1_5) ∧ w'.cell? ⟨gb101, 6, none⟩ = some (.int .i64 a1_6) ∧ w'.cell? ⟨gb101, 7, none⟩ = some (.slice A1_7 l1_7.length c1_7) ∧ w'.cell? ⟨gb101, 8, none⟩ = some (.bool a1_8)) [] (fun hHeld HT_ HW_ => ?_)
 generalize w9.drew = w10 at BK101 HB hHeld ⊢
 refine pA 0 13 HT_ ?_; refine pA 2 15 HT_ ?_; refine tA 3 16 HT_ HW_ hHeld ?_; refine oA 1 14 HT_ (fun K hK => ?_)
 refine goes_ Try.func83 (by kernel_rfl) rfl #[.slice A0 l0.length c0] (by rfl) rfl rfl zee81 ?_
 with_reducible refine (impl_clonedEntries.calls k _ _ l0 t104 _ ?side1 ?side2 A4.out).mono ?_
 (case side1 => exact (cZ (Kd.C_below HR0.out HB.out)))
 (case side2 => exact HC0.out)
 rintro e w11 ⟨v105, rfl, ho0, hb⟩
 refine ⟨_, rfl, ?_⟩
 have n0_ := aM (Kd.S_lower (Kd.S_newB ho0 (g := gb101) bkZ) (below_size hbZ))
 have n1_ := bB gb101 hb
 have n2_ := aM (below_step hbZ hb)
 clear BK101
 clear HB
 have HO106 := aM (Kd.S_mono (ok' := fun k_ => k_ < w11.heap.size ∧ k_ ≠ gb101) (Kd.S_bound n0_.out) (fun k hk => ⟨hk.2.2.1, hk.1.2⟩))
 have BK101 := n1_
 have HB := n2_
 clear n0_ n1_ n2_
 (try clear hb); (try clear hk); (try clear ho0)
 refine hK.out _ _ sZ (fun hHeld => ?_)
 clear hK K
 refine nA 14 ?_; refine oA 4 17 HT_ (fun K hK => ?_)
 refine goes_ Try.func72 (by kernel_rfl) rfl #[.agg #[.string a1_0, .int .i64 a1_1, .int .i64 a1_2, .int .i64 a1_3, .int .i64 a1_4, .int .i64 a1_5, .int .i64 a1_6, .slice A1_7 l1_7.length c1_7, .bool a1_8]] (by rfl) rfl rfl zee81 ?_
 with_reducible refine (impl_Entry_cloned.calls a1_0 a1_1 a1_2 a1_3 a1_4 a1_5 a1_6 _ _ l1_7 a1_8 t107 t108 t109 t110 t111 t112 t113 t114 t117 _ ?side1 ?side2 A5.out).mono ?_
 (case side1 => exact (cZ (Kd.C_below HR1_7.out HB.out)))
 (case side2 => exact HC1_7.out)
 rintro e w12 ⟨v115, rfl, ho0, hb⟩
 refine ⟨_, rfl, ?_⟩
 have n0_ := aM (Kd.S_elder' (by (with_reducible repeat (first | apply Kd.S_alloc | apply Kd.S_drewN | apply Kd.S_drew)); exact HO106.out) (Kd.R_base ho0) hb)
 have HM := aM hb.size
 replace ho0 := Kd.R_mono (ok' := fun k_ => w11.heap.size ≤ k_) (Kd.R_bound ho0) (fun k hk => hk.2.1)
 have n1_ := aM (Kd.R_lower ho0 (below_size hbZ))
 have n2_ := bB gb101 hb
 have n3_ := aM (below_step hbZ hb)
 clear HO106
 clear BK101
 clear HB
 have HO106 := n0_
 have HO116 := n1_
 have BK101 := n2_
 have HB := n3_
 clear n0_ n1_ n2_ n3_
 (try clear hb); (try clear hk); (try clear ho0)
 obtain ⟨Ao13, co13, eo13⟩ := Kd.R_slice HO116.out
 (first | subst eo13 | (injection eo13 with f1_ f2_ f3_; have f4_ := f1_.symm; have f5_ := f3_.symm; clear f1_ f2_ f3_; subst f4_; subst f5_))
 refine hK.out _ _ sZ (fun hHeld => ?_)
 clear hK K
 refine nA 17 ?_; refine oA 5 18 HT_ (fun K hK => ?_)
 refine Kd.S_lit1_step k45 _ 45 ?hg (N := 18) ?hd (xs := ([(⟨t107, t108, t109, (⟨t110, t111, t112, t113, t114, t117⟩ : S26)⟩ : S45)] : List (S45))) (inner := [.string t107, .int .i64 t108, .int .i64 t109, .int .i64 t110, .int .i64 t111, .int .i64 t112, .int .i64 t113, .slice Ao13 t114.length co13, .bool t117]) (ok := fun k_ => w11.heap.size ≤ k_) (okp := fun k_ => w11.heap.size ≤ k_) ?hr ?hp (fun _ hk => hk) HM.out (Below.refl _ _) (Nat.le_refl _) (by simp) ?_; (case hd => rfl); (case hg => rfl); (case hr => first | (go_simp; done) | (go_simp; rfl)); (case hp => exact (Reps.c9 (show Kd.M k45 _ _ _ (⟨t107, t108, t109, (⟨t110, t111, t112, t113, t114, t117⟩ : S26)⟩ : S45) [.string t107, .int .i64 t108, .int .i64 t109, .int .i64 t110, .int .i64 t111, .int .i64 t112, .int .i64 t113, .slice Ao13 t114.length co13, .bool t117] from (k45_mkM _ _ _ (⟨t107, t108, t109, (⟨t110, t111, t112, t113, t114, t117⟩ : S26)⟩ : S45) HO116.out)) (Reps.none _ _)))
 intro v119 w14 ho15 hb hg_ hnew_
 have hB15 : ∀ k, (v119 : Value).ownBlock = some k → w12.heap.size ≤ k := by
  obtain ⟨b_, e_, h_⟩ := hnew_
  intro k hk
  rw [e_] at hk
  injection hk with hk
  omega
 clear hg_ hnew_
 (first | rw [← Ny118.out] at ho15 | (simp only [Int.reduceToNat] at ho15; rw [← Ny118.out] at ho15))
 have _ := aM (Kd.S_elder' (by (with_reducible repeat (first | apply Kd.S_alloc | apply Kd.S_drewN | apply Kd.S_drew)); exact HO106.out) hB15 hb)
 have _ := aM ho15
 have _ := bB gb101 hb
 have _ := aM (below_step hbZ hb)
 clear HO106
 clear BK101
 clear HB
 clear HO116
 rename_i HO106 HO120 BK101 HB
 clear hb ho15 hB15
 obtain ⟨Ao16, co16, eo16⟩ := Kd.S_slice HO106.out
 (first | subst eo16 | (injection eo16 with f1_ f2_ f3_; have f4_ := f1_.symm; have f5_ := f3_.symm; clear f1_ f2_ f3_; subst f4_; subst f5_))
 obtain ⟨Ao17, co17, eo17⟩ := Kd.S_slice HO120.out
 (first | subst eo17 | (injection eo17 with f1_ f2_ f3_; have f4_ := f1_.symm; have f5_ := f3_.symm; clear f1_ f2_ f3_; subst f4_; subst f5_))
 refine hK.out _ _ sZ (fun hHeld => ?_)
 clear hK K
 refine nA 18 ?_; refine oA 6 19 HT_ (fun K hK => ?_)
 have hins := A6.out
 unfold impl_withEntry.ins at hins
 split at hins
 rotate_left
 · cases hins
 rename_i hc
 obtain ⟨hc0, hc1, hc2, hc3⟩ := hc
 obtain rfl := Option.some.inj hins
 clear hins A6
 obtain ⟨i102, rfl⟩ : ∃ i : Nat, t102 = (i : Int) := ⟨t102.toNat, (Int.toNat_of_nonneg hc0).symm⟩
 obtain ⟨x118, hx118⟩ : ∃ x, y118 = [x] := ⟨_, Ny118.out⟩
 clear Ny118
 subst hx118
 refine goes_ Try.func82 (by kernel_rfl) rfl #[.slice Ao16 t104.length co16, .int .i64 (i102 : Int), .slice Ao17 [x118].length co17] (by rfl) rfl rfl zee81 ?_
 refine (insE_row (base := w.heap.size) i102 HO106.out HO120.out (fun k h1 h2 => Nat.lt_irrefl _ (Nat.lt_of_lt_of_le h1.1.1.1 h2)) (by omega) (below_size HB.out) hc3).mono ?_
 rintro e w18 ⟨v122, rfl, ho0, hgr⟩
 refine ⟨_, rfl, ?_⟩
 have hown : ∀ k, (Value.slice Ao16 t104.length co16).ownBlock = some k → k ≠ gb101 := by
  obtain ⟨f_, h0_, _⟩ := HO106.out
  exact fun k hk => (h0_ k hk).1.1.2
 have n2_ := aM ho0
 have n3_ := aM ((hgr.block gb101 (Array.getElem?_eq_some_iff.1 BK101.out).1 (fun he => hown gb101 he.symm rfl)).trans BK101.out)
 have n4_ := aM (HB.out.grown hgr (below_size HB.out) (fun k hk => Kd.S_base HO106.out k hk))
 clear HO106 HO120 BK101 HB hown hgr ho0
 have HO123 := n2_
 have BK101 := n3_
 have HB := n4_
 clear n2_ n3_ n4_
 refine hK.out _ _ sZ (fun hHeld => ?_)
 clear hK K
 refine nA 19 ?_; refine pA 7 4 HT_ ?_
 refine done_ (done_of HT_.out (by kernel_rfl)) ?_
 try go_wp2
 go_ret
 exact ⟨_, z674d, by (with_reducible repeat (first | apply Kd.S_alloc | apply Kd.S_drewN | apply Kd.S_drew)); exact Kd.S_mono HO123.out (fun _ hk => trivial), zcb41⟩
def impl_PutEntry_1.f (a0_0 : ByteArray) (a0_1 : Int) (a0_2 : Int) (a0_3 : Int) (a0_4 : Int) (a0_5 : Int) (a0_6 : Int) (l0_7 : List Int) (a0_8 : Bool) (a1_0 : ByteArray) (a1_1 : Int) (a1_2 : Int) (a1_3 : Int) (a1_4 : Int) (a1_5 : Int) (a1_6 : Int) (l1_7 : List Int) (a1_8 : Bool) : Option (Bool) := some (a0_1 == a1_1)
theorem impl_PutEntry_1.calls (a0_0 : ByteArray) (a0_1 : Int) (a0_2 : Int) (a0_3 : Int) (a0_4 : Int) (a0_5 : Int) (a0_6 : Int) (A0_7 : Option Addr) (c0_7 : Nat) (l0_7 : List Int) (a0_8 : Bool) (g1_ : Nat) (a1_0 : ByteArray) (a1_1 : Int) (a1_2 : Int) (a1_3 : Int) (a1_4 : Int) (a1_5 : Int) (a1_6 : Int) (A1_7 : Option Addr) (c1_7 : Nat) (l1_7 : List Int) (a1_8 : Bool) (r : Bool) (w : World) (hr0_7 : Kd.C (Kd.int .i64) w A0_7 l0_7.length l0_7) (hc0_7 : l0_7.length ≤ c0_7) (hb1_ : w.heap[g1_]? = some (.cells #[.string a1_0, .int .i64 a1_1, .int .i64 a1_2, .int .i64 a1_3, .int .i64 a1_4, .int .i64 a1_5, .int .i64 a1_6, .slice A1_7 l1_7.length c1_7, .bool a1_8] 45 (0, 0))) (hr1_7 : Kd.C (Kd.int .i64) w A1_7 l1_7.length l1_7) (hc1_7 : l1_7.length ≤ c1_7) (h : impl_PutEntry_1.f a0_0 a0_1 a0_2 a0_3 a0_4 a0_5 a0_6 l0_7 a0_8 a1_0 a1_1 a1_2 a1_3 a1_4 a1_5 a1_6 l1_7 a1_8 = some r) :
 Calls Try.prog 49 #[.agg #[.string a0_0, .int .i64 a0_1, .int .i64 a0_2, .int .i64 a0_3, .int .i64 a0_4, .int .i64 a0_5, .int .i64 a0_6, .slice A0_7 l0_7.length c0_7, .bool a0_8], .pointer (some ⟨g1_, 0, none⟩)] w fun e w' => e = .returned (.bool r) ∧ Below w.heap.size w w' := by
 have hu45 := Try.underlying45
 have HR0_7 := aM hr0_7
 have HC0_7 := aM hc0_7
 clear hr0_7 hc0_7
 have HR1_7 := aM hr1_7
 have HC1_7 := aM hc1_7
 clear hr1_7 hc1_7
 have BK1 := aM hb1_
 clear hb1_
 have HB := aM (Below.refl w.heap.size w)
 have H : (some (a0_1 == a1_1)) = some r := h
 clear h
 obtain rfl := Option.some.inj H
 go_enter Try.func49, Try.ntmps49
 go_wp2_with (first | ((with_reducible refine gate_dst (N := 2) rfl ?_); refine bX 2 45 #[.string a0_0, .int .i64 a0_1, .int .i64 a0_2, .int .i64 a0_3, .int .i64 a0_4, .int .i64 a0_5, .int .i64 a0_6, .slice A0_7 l0_7.length c0_7, .bool a0_8] ?_; intro gb101 hg w3 hbox hb; have _ := bB g1_ hb; have _ := aM (below_step hbZ hb); have _ := aM hbox; have _ := szZ hg; have _ := szZ hg; have ⟨_, _⟩ := nbB g1_ hg; clear BK1 HB; rename_i BK1 HB BK101 GW101 GE101 NB1_101 NB101_1; clear hb hbox hg; have hnb4 := NB101_1.out; have hnc4 := NB1_101.out; have hz5 := cellsZ9 BK101.out; have hz6 := cellsZ9 BK1.out))
 go_ret
 exact ⟨z674d, zcb41⟩
def impl_Entry_with_impl_PutEntry_1_10069049.l0 : Nat → List (S45) → Int → Int → ByteArray → Int → Int → Int → Int → Int → Int → List Int → Bool → Option (Int)
 | 0, _, _, _, _, _, _, _, _, _, _, _, _ => none
 | k + 1, x0, x7, x8, x2000, x2001, x2002, x2003, x2004, x2005, x2006, x2007, x2008 => if x8 < x7 then (if 0 ≤ x8 then (if x8 < (x0.length : Int) then ((impl_PutEntry_1.f ((rd_T45 x0 x8).f0) ((rd_T45 x0 x8).f1) ((rd_T45 x0 x8).f2) ((rd_T45 x0 x8).f3.f0) ((rd_T45 x0 x8).f3.f1) ((rd_T45 x0 x8).f3.f2) ((rd_T45 x0 x8).f3.f3) ((rd_T45 x0 x8).f3.f4) ((rd_T45 x0 x8).f3.f5) x2000 x2001 x2002 x2003 x2004 x2005 x2006 x2007 x2008).bind fun t102 => (if t102 = true then (some x8) else (impl_Entry_with_impl_PutEntry_1_10069049.l0 k x0 x7 (wrap64 (x8 + 1)) x2000 x2001 x2002 x2003 x2004 x2005 x2006 x2007 x2008))) else (none)) else (none)) else (some (-1))
def impl_Entry_with_impl_PutEntry_1_10069049.f (k : Nat) (l0 : List (S45)) (a1_0 : ByteArray) (a1_1 : Int) (a1_2 : Int) (a1_3 : Int) (a1_4 : Int) (a1_5 : Int) (a1_6 : Int) (l1_7 : List Int) (a1_8 : Bool) : Option (Int) := impl_Entry_with_impl_PutEntry_1_10069049.l0 k l0 (l0.length : Int) 0 a1_0 a1_1 a1_2 a1_3 a1_4 a1_5 a1_6 l1_7 a1_8
theorem impl_Entry_with_impl_PutEntry_1_10069049.mono_l : ∀ k, (∀ y0 y1 y2 y3 y4 y5 y6 y7 y8 y9 y10 y11, LeO (impl_Entry_with_impl_PutEntry_1_10069049.l0 k y0 y1 y2 y3 y4 y5 y6 y7 y8 y9 y10 y11) (impl_Entry_with_impl_PutEntry_1_10069049.l0 (k + 1) y0 y1 y2 y3 y4 y5 y6 y7 y8 y9 y10 y11))
 | 0 => fun _ _ _ _ _ _ _ _ _ _ _ _ r h => by simp [impl_Entry_with_impl_PutEntry_1_10069049.l0] at h
 | k + 1 => by
  have ih0 := impl_Entry_with_impl_PutEntry_1_10069049.mono_l k
  · intro y0 y1 y2 y3 y4 y5 y6 y7 y8 y9 y10 y11
    unfold impl_Entry_with_impl_PutEntry_1_10069049.l0
    exact moZ
theorem impl_Entry_with_impl_PutEntry_1_10069049.mono : ∀ a0 a1 a2 a3 a4 a5 a6 a7 a8 a9 k, LeO (impl_Entry_with_impl_PutEntry_1_10069049.f k a0 a1 a2 a3 a4 a5 a6 a7 a8 a9) (impl_Entry_with_impl_PutEntry_1_10069049.f (k + 1) a0 a1 a2 a3 a4 a5 a6 a7 a8 a9) := by
 intro a0 a1 a2 a3 a4 a5 a6 a7 a8 a9 k
 have ih0 := impl_Entry_with_impl_PutEntry_1_10069049.mono_l k
 unfold impl_Entry_with_impl_PutEntry_1_10069049.f
 exact moZ
theorem impl_Entry_with_impl_PutEntry_1_10069049.calls (k : Nat) (A0 : Option Addr) (c0 : Nat) (l0 : List (S45)) (g1_ : Nat) (a1_0 : ByteArray) (a1_1 : Int) (a1_2 : Int) (a1_3 : Int) (a1_4 : Int) (a1_5 : Int) (a1_6 : Int) (A1_7 : Option Addr) (c1_7 : Nat) (l1_7 : List Int) (a1_8 : Bool) (r : Int) (w : World) (hr0 : Kd.C k45 w A0 l0.length l0) (hc0 : l0.length ≤ c0) (hb1_ : w.heap[g1_]? = some (.cells #[.string a1_0, .int .i64 a1_1, .int .i64 a1_2, .int .i64 a1_3, .int .i64 a1_4, .int .i64 a1_5, .int .i64 a1_6, .slice A1_7 l1_7.length c1_7, .bool a1_8] 45 (0, 0))) (hr1_7 : Kd.C (Kd.int .i64) w A1_7 l1_7.length l1_7) (hc1_7 : l1_7.length ≤ c1_7) (h : impl_Entry_with_impl_PutEntry_1_10069049.f k l0 a1_0 a1_1 a1_2 a1_3 a1_4 a1_5 a1_6 l1_7 a1_8 = some r) :
 Calls Try.prog 69 #[.slice A0 l0.length c0, .func (.func 49) #[] #[.pointer (some ⟨g1_, 0, none⟩)]] w fun e w' => e = .returned (.int .i64 r) ∧ Below w.heap.size w w' := by
 have hu45 := Try.underlying45
 have HR0 := aM hr0
 have HC0 := aM hc0
 clear hr0 hc0
 have HR1_7 := aM hr1_7
 have HC1_7 := aM hc1_7
 clear hr1_7 hc1_7
 have BK1 := aM hb1_
 clear hb1_
 have HB := aM (Below.refl w.heap.size w)
 have H : (impl_Entry_with_impl_PutEntry_1_10069049.l0 k l0 (l0.length : Int) 0 a1_0 a1_1 a1_2 a1_3 a1_4 a1_5 a1_6 l1_7 a1_8) = some r := h
 clear h
 have H' := aM H
 clear H
 go_enter Try.func69, Try.ntmps69
 go_wp2
 go_loopg [8] k (fun kq v8 w' => ∃ (x8_1 : Int), v8 = .int .i64 x8_1 ∧ Aside0 (impl_Entry_with_impl_PutEntry_1_10069049.l0 kq l0 (l0.length : Int) x8_1 a1_0 a1_1 a1_2 a1_3 a1_4 a1_5 a1_6 l1_7 a1_8 = some r) ∧ Aside0 (kq ≤ k) ∧ Aside0 (w'.heap[g1_]? = some (.cells #[.string a1_0, .int .i64 a1_1, .int .i64 a1_2, .int .i64 a1_3, .int .i64 a1_4, .int .i64 a1_5, .int .i64 a1_6, (.slice A1_7 l1_7.length c1_7), .bool a1_8] 45 (0, 0))) ∧ Aside0 (Below w.heap.size w w'))
 case atStart => exact ⟨(0), z4458, H', ⟨Nat.le_refl _⟩, ⟨bkZ⟩, ⟨zcb41⟩⟩
 case round =>
  clear H'
  (try clear c1)
  obtain ⟨x8_1, rfl, HA, HK1, BK1, HB⟩ := hrel
  cases gk with
  | zero => exact absurd HA.out (by simp [impl_Entry_with_impl_PutEntry_1_10069049.l0])
  | succ k1 =>
   have H := HA.out
   clear HA
   simp only [impl_Entry_with_impl_PutEntry_1_10069049.l0] at H
   by_cases c3 : x8_1 < (l0.length : Int)
   · rw [if_pos c3] at H
     have c3b0 := dL c3
     clear c3
     obtain ⟨c4b0, H⟩ := sE H
     obtain ⟨c5b0, H⟩ := sL H
     obtain ⟨t102, A6, H⟩ := bS H; try dsimp only at H
     by_cases c7 : t102 = true
     · subst c7
       rw [if_pos rfl] at H
       obtain rfl := Option.some.inj H
       have p101 : 0 ≤ (x8_1 : Int) := of_decide_eq_true z1200
       have q101 : x8_1 < (l0.length : Int) := of_decide_eq_true z1200
       obtain ⟨ad101, A101_7, c101_7, e101, hx101_0, hx101_1, hx101_2, hx101_3, hx101_4, hx101_5, hx101_6, hx101_7, hx101_8, hl101_7, hi101_7⟩ := at_T45 HR0.out x8_1 p101 q101
       cases e101
       have TW101_7 := aM hx101_7
       replace hx101_0 := (HB.out.cell (World.block_lt_of_cell? w _ hx101_0)).trans hx101_0
       replace hx101_1 := (HB.out.cell (World.block_lt_of_cell? w _ hx101_1)).trans hx101_1
       replace hx101_2 := (HB.out.cell (World.block_lt_of_cell? w _ hx101_2)).trans hx101_2
       replace hx101_3 := (HB.out.cell (World.block_lt_of_cell? w _ hx101_3)).trans hx101_3
       replace hx101_4 := (HB.out.cell (World.block_lt_of_cell? w _ hx101_4)).trans hx101_4
       replace hx101_5 := (HB.out.cell (World.block_lt_of_cell? w _ hx101_5)).trans hx101_5
       replace hx101_6 := (HB.out.cell (World.block_lt_of_cell? w _ hx101_6)).trans hx101_6
       replace hx101_7 := (HB.out.cell (World.block_lt_of_cell? w _ hx101_7)).trans hx101_7
       replace hx101_8 := (HB.out.cell (World.block_lt_of_cell? w _ hx101_8)).trans hx101_8
       have HR101_7 := aM hi101_7
       have HC101_7 := aM hl101_7
       clear hi101_7 hl101_7
       replace p101 := eq_true p101
       replace q101 := eq_true q101
       go_wp2_with (first | (go_at_call 49; (with_reducible refine (impl_PutEntry_1.calls ((rd_T45 l0 x8_1).f0) ((rd_T45 l0 x8_1).f1) ((rd_T45 l0 x8_1).f2) ((rd_T45 l0 x8_1).f3.f0) ((rd_T45 l0 x8_1).f3.f1) ((rd_T45 l0 x8_1).f3.f2) ((rd_T45 l0 x8_1).f3.f3) _ _ ((rd_T45 l0 x8_1).f3.f4) ((rd_T45 l0 x8_1).f3.f5) g1_ a1_0 a1_1 a1_2 a1_3 a1_4 a1_5 a1_6 A1_7 c1_7 l1_7 a1_8 true _ ?side1 ?side2 ?side3 ?side4 ?side5 A6.out).mono ?_); (case side1 => exact (cZ (Kd.C_below HR101_7.out HB.out))); (case side2 => exact HC101_7.out); (case side3 => exact bkZ); (case side4 => exact (cZ (Kd.C_below HR1_7.out HB.out))); (case side5 => exact HC1_7.out); rintro e w8 ⟨rfl, hb⟩; have _ := bB g1_ hb; have _ := aM (below_step hbZ hb); clear BK1 HB; rename_i BK1 HB; (try clear hb)))
       go_ret
       exact ⟨z674d, zcb41⟩
     · replace c7 := Bool.eq_false_iff.mpr c7
       subst c7
       rw [if_neg (show ¬ (false = true) by decide)] at H
       have H' := aM H
       clear H
       have p101 : 0 ≤ (x8_1 : Int) := of_decide_eq_true z1200
       have q101 : x8_1 < (l0.length : Int) := of_decide_eq_true z1200
       obtain ⟨ad101, A101_7, c101_7, e101, hx101_0, hx101_1, hx101_2, hx101_3, hx101_4, hx101_5, hx101_6, hx101_7, hx101_8, hl101_7, hi101_7⟩ := at_T45 HR0.out x8_1 p101 q101
       cases e101
       have TW101_7 := aM hx101_7
       replace hx101_0 := (HB.out.cell (World.block_lt_of_cell? w _ hx101_0)).trans hx101_0
       replace hx101_1 := (HB.out.cell (World.block_lt_of_cell? w _ hx101_1)).trans hx101_1
       replace hx101_2 := (HB.out.cell (World.block_lt_of_cell? w _ hx101_2)).trans hx101_2
       replace hx101_3 := (HB.out.cell (World.block_lt_of_cell? w _ hx101_3)).trans hx101_3
       replace hx101_4 := (HB.out.cell (World.block_lt_of_cell? w _ hx101_4)).trans hx101_4
       replace hx101_5 := (HB.out.cell (World.block_lt_of_cell? w _ hx101_5)).trans hx101_5
       replace hx101_6 := (HB.out.cell (World.block_lt_of_cell? w _ hx101_6)).trans hx101_6
       replace hx101_7 := (HB.out.cell (World.block_lt_of_cell? w _ hx101_7)).trans hx101_7
       replace hx101_8 := (HB.out.cell (World.block_lt_of_cell? w _ hx101_8)).trans hx101_8
       have HR101_7 := aM hi101_7
       have HC101_7 := aM hl101_7
       clear hi101_7 hl101_7
       replace p101 := eq_true p101
       replace q101 := eq_true q101
       go_wp2_with (first | (go_at_call 49; (with_reducible refine (impl_PutEntry_1.calls ((rd_T45 l0 x8_1).f0) ((rd_T45 l0 x8_1).f1) ((rd_T45 l0 x8_1).f2) ((rd_T45 l0 x8_1).f3.f0) ((rd_T45 l0 x8_1).f3.f1) ((rd_T45 l0 x8_1).f3.f2) ((rd_T45 l0 x8_1).f3.f3) _ _ ((rd_T45 l0 x8_1).f3.f4) ((rd_T45 l0 x8_1).f3.f5) g1_ a1_0 a1_1 a1_2 a1_3 a1_4 a1_5 a1_6 A1_7 c1_7 l1_7 a1_8 false _ ?side1 ?side2 ?side3 ?side4 ?side5 A6.out).mono ?_); (case side1 => exact (cZ (Kd.C_below HR101_7.out HB.out))); (case side2 => exact HC101_7.out); (case side3 => exact bkZ); (case side4 => exact (cZ (Kd.C_below HR1_7.out HB.out))); (case side5 => exact HC1_7.out); rintro e w9 ⟨rfl, hb⟩; have _ := bB g1_ hb; have _ := aM (below_step hbZ hb); clear BK1 HB; rename_i BK1 HB; (try clear hb)))
       go_roundg k1
       case measure => have := HK1.out; omega
       case rel => exact ⟨(wrap64 (x8_1 + 1)), z4458, H', ⟨zfb39⟩, ⟨bkZ⟩, ⟨zcb41⟩⟩
   · rw [if_neg c3] at H
     have c3b0 := nL c3
     clear c3
     obtain rfl := Option.some.inj H
     go_wp2
     go_ret
     exact ⟨z674d, zcb41⟩
end Go.Proofs.Ytdkokfnnebdppaa.P
