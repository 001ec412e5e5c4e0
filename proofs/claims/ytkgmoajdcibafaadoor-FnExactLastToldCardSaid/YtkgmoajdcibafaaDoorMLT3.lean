/- Part 3 of the walks and words that LT uses. No conditions of its own. -/
import Derived.Deep.LoopGhost
import Derived.Deep.QuietTactic
import Derived.BigQuiet
import Derived.Test.YtkgmoajdcibafaaDoorMLT2

-- written by a program of this session's (wip/pp)
namespace Go.Proofs.YtkgmoajdcibafaaDoor.P
open Go.RowKit Go.Proofs.YtkgmoajdcibafaaDoorW.PrintWords Go.Proofs.YtkgmoajdcibafaaDoorW.PrintLast Go.Proofs.YtkgmoajdcibafaaDoorW.PrintMore
attribute [local go_sem] max2_int min2_int max_two min_two max_three min_three max_four min_four str_geq str_gtr str_leq   -- for this text's walks alone
set_option linter.unusedVariables false
set_option linter.unusedSimpArgs false

/-! ### impl_Tag_with_impl_CompareKeys_1: function 10102103 -/
def impl_Tag_with_impl_CompareKeys_1.l0 : Nat → List (S123) → List (S123) → List (S123) → Int → Int → Option (Int)
 | 0, _, _, _, _, _ => none
 | k + 1, x0, x1, x11, x12, x13 => if x13 < x12 then (if 0 ≤ x13 then (if x13 < (x11.length : Int) then (if x13 ≥ (x1.length : Int) then (some 1) else (if x13 < (x1.length : Int) then ((impl_CompareKeys_1.f k ((rd_T123 x11 x13).f0) ((rd_T123 x11 x13).f1) ((rd_T123 x1 x13).f0) ((rd_T123 x1 x13).f1)).bind fun t105 => (if t105 = 0 then (impl_Tag_with_impl_CompareKeys_1.l0 k x0 x1 x11 x12 (wrap64 (x13 + 1))) else (some t105))) else (none))) else (none)) else (none)) else (if (x0.length : Int) < (x1.length : Int) then (some (-1)) else (some 0))
def impl_Tag_with_impl_CompareKeys_1.f (k : Nat) (l0 : List (S123)) (l1 : List (S123))  : Option (Int) := impl_Tag_with_impl_CompareKeys_1.l0 k l0 l1 l0 (l0.length : Int) 0
theorem impl_Tag_with_impl_CompareKeys_1.mono_l : ∀ k, (∀ y0 y1 y2 y3 y4, LeO (impl_Tag_with_impl_CompareKeys_1.l0 k y0 y1 y2 y3 y4) (impl_Tag_with_impl_CompareKeys_1.l0 (k + 1) y0 y1 y2 y3 y4))
 | 0 => fun _ _ _ _ _ r h => by simp [impl_Tag_with_impl_CompareKeys_1.l0] at h
 | k + 1 => by
  have ih0 := impl_Tag_with_impl_CompareKeys_1.mono_l k; have m0 := @impl_CompareKeys_1.mono
  · intro y0 y1 y2 y3 y4
    unfold impl_Tag_with_impl_CompareKeys_1.l0
    exact moZ
theorem impl_Tag_with_impl_CompareKeys_1.mono : ∀ a0 a1 k, LeO (impl_Tag_with_impl_CompareKeys_1.f k a0 a1) (impl_Tag_with_impl_CompareKeys_1.f (k + 1) a0 a1) := by
 intro a0 a1 k
 have ih0 := impl_Tag_with_impl_CompareKeys_1.mono_l k
 have m0 := @impl_CompareKeys_1.mono
 unfold impl_Tag_with_impl_CompareKeys_1.f
 exact moZ
set_option maxHeartbeats 8000000 in
set_option maxRecDepth 100000 in
theorem impl_Tag_with_impl_CompareKeys_1.calls (k : Nat) (A0 : Option Addr) (c0 : Nat) (l0 : List (S123)) (A1 : Option Addr) (c1 : Nat) (l1 : List (S123))  (r : Int) (w : World) (hr0 : Kd.C k123 w A0 l0.length l0) (hc0 : l0.length ≤ c0) (hr1 : Kd.C k123 w A1 l1.length l1) (hc1 : l1.length ≤ c1) (h : impl_Tag_with_impl_CompareKeys_1.f k l0 l1 = some r) :
 Calls Tryd.prog 102 #[.slice A0 l0.length c0, .slice A1 l1.length c1, .func (.func 103) #[] #[]] w fun e w' => e = .returned (.int .i64 r) ∧ Below w.heap.size w w' := by
 have hu123 := Tryd.underlying123
 have HR0 := aM hr0
 have HC0 := aM hc0
 clear hr0 hc0
 have HR1 := aM hr1
 have HC1 := aM hc1
 clear hr1 hc1
 have HB := aM (Below.refl w.heap.size w)
 have H : (impl_Tag_with_impl_CompareKeys_1.l0 k l0 l1 l0 (l0.length : Int) 0) = some r := h
 clear h
 have H' := aM H
 clear H
 go_enter Tryd.func102, Tryd.ntmps102
 go_wp2
 go_loopg [13] k (fun kq v13 w' => ∃ (x13_1 : Int), v13 = .int .i64 x13_1 ∧ Aside0 (impl_Tag_with_impl_CompareKeys_1.l0 kq l0 l1 l0 (l0.length : Int) x13_1 = some r) ∧ Aside0 (kq ≤ k) ∧ Aside0 (Below w.heap.size w w'))
 case atStart => exact ⟨(0), z4458, H', ⟨Nat.le_refl _⟩, ⟨z5acd⟩⟩
 case round =>
  clear H'
  (try clear c1)
  obtain ⟨x13_1, rfl, HA, HK1, HB⟩ := hrel
  cases gk with
  | zero => exact absurd HA.out (by simp [impl_Tag_with_impl_CompareKeys_1.l0])
  | succ k1 =>
   have H := HA.out
   clear HA
   simp only [impl_Tag_with_impl_CompareKeys_1.l0] at H
   by_cases c4 : x13_1 < (l0.length : Int)
   · rw [if_pos c4] at H
     have c4b0 := dL c4
     clear c4
     obtain ⟨c5b0, H⟩ := sE H
     obtain ⟨c6b0, H⟩ := sL H
     by_cases c7 : x13_1 ≥ (l1.length : Int)
     · rw [if_pos c7] at H
       have c7b0 := dE c7
       clear c7
       obtain rfl := Option.some.inj H
       have p101 : 0 ≤ (x13_1 : Int) := of_decide_eq_true z1200
       have q101 : x13_1 < (l0.length : Int) := of_decide_eq_true z1200
       obtain ⟨ad101, e101, hx101_0, hx101_1⟩ := at_T123 HR0.out x13_1 p101 q101
       cases e101
       replace hx101_0 := (HB.out.cell (World.block_lt_of_cell? w _ hx101_0)).trans hx101_0
       replace hx101_1 := (HB.out.cell (World.block_lt_of_cell? w _ hx101_1)).trans hx101_1
       replace p101 := eq_true p101
       replace q101 := eq_true q101
       go_wp2_with (first | ((with_reducible refine gate_dst (N := 8) rfl ?_); refine bX 8 123 #[.string (⟨#[]⟩ : ByteArray), .string (⟨#[]⟩ : ByteArray)] ?_; intro gb102 hg w8 hbox hb; have _ := aM (below_step hbZ hb); have _ := aM hbox; have _ := szZ hg; have _ := szZ hg; clear HB; rename_i HB BK102 GW102 GE102; clear hb hbox hg; have hz9 := cellsZ2 BK102.out))
       go_ret
       exact ⟨z674d, zcb41⟩
     · rw [if_neg c7] at H
       have c7b0 := nE c7
       clear c7
       obtain ⟨c10b0, H⟩ := sL H
       obtain ⟨t105, A11, H⟩ := bS H; try dsimp only at H
       by_cases c12 : t105 = 0
       · rw [if_pos c12] at H
         have c12b0 : (t105 == 0) = true := beq_iff_eq.mpr c12
         have c12b1 : (t105 != 0) = false := bne_eq_false_iff_eq.mpr c12
         clear c12
         have H' := aM H
         clear H
         have p101 : 0 ≤ (x13_1 : Int) := of_decide_eq_true z1200
         have q101 : x13_1 < (l0.length : Int) := of_decide_eq_true z1200
         obtain ⟨ad101, e101, hx101_0, hx101_1⟩ := at_T123 HR0.out x13_1 p101 q101
         cases e101
         replace hx101_0 := (HB.out.cell (World.block_lt_of_cell? w _ hx101_0)).trans hx101_0
         replace hx101_1 := (HB.out.cell (World.block_lt_of_cell? w _ hx101_1)).trans hx101_1
         replace p101 := eq_true p101
         replace q101 := eq_true q101
         go_wp2_with (first | ((with_reducible refine gate_dst (N := 8) rfl ?_); refine bX 8 123 #[.string (⟨#[]⟩ : ByteArray), .string (⟨#[]⟩ : ByteArray)] ?_; intro gb102 hg w13 hbox hb; have _ := aM (below_step hbZ hb); have _ := aM hbox; have _ := szZ hg; have _ := szZ hg; clear HB; rename_i HB BK102 GW102 GE102; clear hb hbox hg; have hz14 := cellsZ2 BK102.out; have p103 : 0 ≤ (x13_1 : Int) := of_decide_eq_true z1200; have q103 : x13_1 < (l1.length : Int) := of_decide_eq_true z1200; obtain ⟨ad103, e103, hx103_0, hx103_1⟩ := at_T123 HR1.out x13_1 p103 q103; cases e103; have hn103_0 : ad103.block ≠ gb102 := Nat.ne_of_lt (Nat.lt_of_lt_of_le (by have := World.block_lt_of_cell? _ _ hx103_0; first | rwa [add_block] at this | exact this) GW102.out); have hn103_1 : ad103.block ≠ gb102 := Nat.ne_of_lt (Nat.lt_of_lt_of_le (by have := World.block_lt_of_cell? _ _ hx103_0; first | rwa [add_block] at this | exact this) GW102.out); replace hx103_0 := (HB.out.cell (World.block_lt_of_cell? w _ hx103_0)).trans hx103_0; replace hx103_1 := (HB.out.cell (World.block_lt_of_cell? w _ hx103_1)).trans hx103_1; replace hx103_0 := (cell_far (p := ⟨gb102, 0, none⟩) (by first | (rw [add_block]; exact hn103_0) | (show (Addr.add _ _).block ≠ _; rw [add_block]; exact hn103_0) | exact hn103_0) (.string ((rd_T123 l0 x13_1).f0))).trans hx103_0; replace hx103_1 := (cell_far (p := ⟨gb102, 0, none⟩) (by first | (rw [add_block]; exact hn103_0) | (show (Addr.add _ _).block ≠ _; rw [add_block]; exact hn103_0) | exact hn103_0) (.string ((rd_T123 l0 x13_1).f0))).trans hx103_1; replace hx103_0 := (cell_far (p := ⟨gb102, 1, none⟩) (by first | (rw [add_block]; exact hn103_1) | (show (Addr.add _ _).block ≠ _; rw [add_block]; exact hn103_1) | exact hn103_1) (.string ((rd_T123 l0 x13_1).f1))).trans hx103_0; replace hx103_1 := (cell_far (p := ⟨gb102, 1, none⟩) (by first | (rw [add_block]; exact hn103_1) | (show (Addr.add _ _).block ≠ _; rw [add_block]; exact hn103_1) | exact hn103_1) (.string ((rd_T123 l0 x13_1).f1))).trans hx103_1; clear hn103_0 hn103_1; replace p103 := eq_true p103; replace q103 := eq_true q103) | ((with_reducible refine gate_dst (N := 9) rfl ?_); refine bX 9 123 #[.string (⟨#[]⟩ : ByteArray), .string (⟨#[]⟩ : ByteArray)] ?_; intro gb104 hg w15 hbox hb; have _ := aM (blk_below (g := gb102) (o := .cells #[.string ((rd_T123 l0 x13_1).f0), .string ((rd_T123 l0 x13_1).f1)] 123 (0, 0)) bkZ hb); have _ := aM (below_step hbZ hb); have _ := aM hbox; have _ := szZ hg; have _ := szZ hg; have ⟨_, _⟩ := nbB gb102 hg; clear BK102 HB; rename_i BK102 HB BK104 GW104 GE104 NB102_104 NB104_102; clear hb hbox hg; have hnb16 := NB104_102.out; have hnc16 := NB102_104.out; have hz17 := cellsZ2 BK104.out; have hz18 := cellsZ2 BK102.out) | (go_at_call 103; (with_reducible refine (impl_CompareKeys_1.calls k1 ((rd_T123 l0 x13_1).f0) ((rd_T123 l0 x13_1).f1) ((rd_T123 l1 x13_1).f0) ((rd_T123 l1 x13_1).f1) t105 _ A11.out).mono ?_); rintro e w19 ⟨rfl, hb⟩; have _ := bB gb102 hb; have _ := aM (blk_below (g := gb104) (o := .cells #[.string ((rd_T123 l1 x13_1).f0), .string ((rd_T123 l1 x13_1).f1)] 123 (0, 0)) bkZ hb); have _ := aM (below_step hbZ hb); clear BK102 BK104 HB; rename_i BK102 BK104 HB; (try clear hb)))
         go_roundg k1
         case measure => have := HK1.out; omega
         case rel => exact ⟨(wrap64 (x13_1 + 1)), z4458, H', ⟨zfb39⟩, ⟨zcb41⟩⟩
       · rw [if_neg c12] at H
         have c12b0 := eqN c12
         obtain rfl := Option.some.inj H
         have p101 : 0 ≤ (x13_1 : Int) := of_decide_eq_true z1200
         have q101 : x13_1 < (l0.length : Int) := of_decide_eq_true z1200
         obtain ⟨ad101, e101, hx101_0, hx101_1⟩ := at_T123 HR0.out x13_1 p101 q101
         cases e101
         replace hx101_0 := (HB.out.cell (World.block_lt_of_cell? w _ hx101_0)).trans hx101_0
         replace hx101_1 := (HB.out.cell (World.block_lt_of_cell? w _ hx101_1)).trans hx101_1
         replace p101 := eq_true p101
         replace q101 := eq_true q101
         go_wp2_with (first | ((with_reducible refine gate_dst (N := 8) rfl ?_); refine bX 8 123 #[.string (⟨#[]⟩ : ByteArray), .string (⟨#[]⟩ : ByteArray)] ?_; intro gb102 hg w20 hbox hb; have _ := aM (below_step hbZ hb); have _ := aM hbox; have _ := szZ hg; have _ := szZ hg; clear HB; rename_i HB BK102 GW102 GE102; clear hb hbox hg; have hz21 := cellsZ2 BK102.out; have p103 : 0 ≤ (x13_1 : Int) := of_decide_eq_true z1200; have q103 : x13_1 < (l1.length : Int) := of_decide_eq_true z1200; obtain ⟨ad103, e103, hx103_0, hx103_1⟩ := at_T123 HR1.out x13_1 p103 q103; cases e103; have hn103_0 : ad103.block ≠ gb102 := Nat.ne_of_lt (Nat.lt_of_lt_of_le (by have := World.block_lt_of_cell? _ _ hx103_0; first | rwa [add_block] at this | exact this) GW102.out); have hn103_1 : ad103.block ≠ gb102 := Nat.ne_of_lt (Nat.lt_of_lt_of_le (by have := World.block_lt_of_cell? _ _ hx103_0; first | rwa [add_block] at this | exact this) GW102.out); replace hx103_0 := (HB.out.cell (World.block_lt_of_cell? w _ hx103_0)).trans hx103_0; replace hx103_1 := (HB.out.cell (World.block_lt_of_cell? w _ hx103_1)).trans hx103_1; replace hx103_0 := (cell_far (p := ⟨gb102, 0, none⟩) (by first | (rw [add_block]; exact hn103_0) | (show (Addr.add _ _).block ≠ _; rw [add_block]; exact hn103_0) | exact hn103_0) (.string ((rd_T123 l0 x13_1).f0))).trans hx103_0; replace hx103_1 := (cell_far (p := ⟨gb102, 0, none⟩) (by first | (rw [add_block]; exact hn103_0) | (show (Addr.add _ _).block ≠ _; rw [add_block]; exact hn103_0) | exact hn103_0) (.string ((rd_T123 l0 x13_1).f0))).trans hx103_1; replace hx103_0 := (cell_far (p := ⟨gb102, 1, none⟩) (by first | (rw [add_block]; exact hn103_1) | (show (Addr.add _ _).block ≠ _; rw [add_block]; exact hn103_1) | exact hn103_1) (.string ((rd_T123 l0 x13_1).f1))).trans hx103_0; replace hx103_1 := (cell_far (p := ⟨gb102, 1, none⟩) (by first | (rw [add_block]; exact hn103_1) | (show (Addr.add _ _).block ≠ _; rw [add_block]; exact hn103_1) | exact hn103_1) (.string ((rd_T123 l0 x13_1).f1))).trans hx103_1; clear hn103_0 hn103_1; replace p103 := eq_true p103; replace q103 := eq_true q103) | ((with_reducible refine gate_dst (N := 9) rfl ?_); refine bX 9 123 #[.string (⟨#[]⟩ : ByteArray), .string (⟨#[]⟩ : ByteArray)] ?_; intro gb104 hg w22 hbox hb; have _ := aM (blk_below (g := gb102) (o := .cells #[.string ((rd_T123 l0 x13_1).f0), .string ((rd_T123 l0 x13_1).f1)] 123 (0, 0)) bkZ hb); have _ := aM (below_step hbZ hb); have _ := aM hbox; have _ := szZ hg; have _ := szZ hg; have ⟨_, _⟩ := nbB gb102 hg; clear BK102 HB; rename_i BK102 HB BK104 GW104 GE104 NB102_104 NB104_102; clear hb hbox hg; have hnb23 := NB104_102.out; have hnc23 := NB102_104.out; have hz24 := cellsZ2 BK104.out; have hz25 := cellsZ2 BK102.out) | (go_at_call 103; (with_reducible refine (impl_CompareKeys_1.calls k1 ((rd_T123 l0 x13_1).f0) ((rd_T123 l0 x13_1).f1) ((rd_T123 l1 x13_1).f0) ((rd_T123 l1 x13_1).f1) t105 _ A11.out).mono ?_); rintro e w26 ⟨rfl, hb⟩; have _ := bB gb102 hb; have _ := aM (blk_below (g := gb104) (o := .cells #[.string ((rd_T123 l1 x13_1).f0), .string ((rd_T123 l1 x13_1).f1)] 123 (0, 0)) bkZ hb); have _ := aM (below_step hbZ hb); clear BK102 BK104 HB; rename_i BK102 BK104 HB; (try clear hb)))
         go_ret
         exact ⟨z674d, zcb41⟩
   · rw [if_neg c4] at H
     have c4b0 := nL c4
     clear c4
     by_cases c27 : (l0.length : Int) < (l1.length : Int)
     · rw [if_pos c27] at H
       have c27b0 : decide ((l0.length : Int) < (l1.length : Int)) = true := decide_eq_true c27
       have c27b1 : decide (l0.length < l1.length) = true := decide_eq_true (Int.ofNat_lt.mp c27)
       clear c27
       obtain rfl := Option.some.inj H
       go_wp2
       go_ret
       exact ⟨z674d, z5acd⟩
     · rw [if_neg c27] at H
       have c27b0 : decide ((l0.length : Int) < (l1.length : Int)) = false := decide_eq_false c27
       have c27b1 : decide (l0.length < l1.length) = false := decide_eq_false (fun h => c27 (Int.ofNat_lt.mpr h))
       clear c27
       obtain rfl := Option.some.inj H
       go_wp2
       go_ret
       exact ⟨z674d, z5acd⟩

end Go.Proofs.YtkgmoajdcibafaaDoor.P

-- written by a program of this session's (wip/pp)
namespace Go.Proofs.YtkgmoajdcibafaaDoor.P
open Go.RowKit Go.Proofs.YtkgmoajdcibafaaDoorW.PrintWords Go.Proofs.YtkgmoajdcibafaaDoorW.PrintLast Go.Proofs.YtkgmoajdcibafaaDoorW.PrintMore
attribute [local go_sem] max2_int min2_int max_two min_two max_three min_three max_four min_four str_geq str_gtr str_leq   -- for this text's walks alone
set_option linter.unusedVariables false
set_option linter.unusedSimpArgs false

/-! ### impl_CompareKeys: function 72 -/
def impl_CompareKeys.j0 : Nat → Bool → ByteArray → List (S123) → Int → ByteArray → List (S123) → Int → Option (Int)
 | 0, _, _, _, _, _, _, _ => none
 | k + 1, x13, x102000, x102001, x102002, x103000, x103001, x103002 => if x13 = true then (some 0) else ((impl_Tag_with_impl_CompareKeys_1.f k x102001 x103001).bind fun t105 => ((cmp_Compare_string.f x102000 x103000).bind fun t106 => ((cmp_Compare_int.f x102002 x103002).bind fun t107 => ((cmp_Or_int.f k (([t106, t105, t107] : List Int))).bind fun t111 => (some t111)))))
def impl_CompareKeys.f (k : Nat) (a0_0 : ByteArray) (l0_1 : List (S123)) (a0_2 : Int) (a1_0 : ByteArray) (l1_1 : List (S123)) (a1_2 : Int) : Option (Int) := (impl_GoodKey.f k a0_0 l0_1 a0_2).bind fun t103 => (if t103 = true then ((impl_GoodKey.f k a1_0 l1_1 a1_2).bind fun t104 => (impl_CompareKeys.j0 k (!t104) a0_0 l0_1 a0_2 a1_0 l1_1 a1_2)) else (impl_CompareKeys.j0 k true a0_0 l0_1 a0_2 a1_0 l1_1 a1_2))
theorem impl_CompareKeys.mono_l : ∀ k, (∀ y0 y1 y2 y3 y4 y5 y6, LeO (impl_CompareKeys.j0 k y0 y1 y2 y3 y4 y5 y6) (impl_CompareKeys.j0 (k + 1) y0 y1 y2 y3 y4 y5 y6))
 | 0 => fun _ _ _ _ _ _ _ r h => by simp [impl_CompareKeys.j0] at h
 | k + 1 => by
  have ih0 := impl_CompareKeys.mono_l k; have m0 := @cmp_Or_int.mono; have m1 := @impl_GoodKey.mono; have m2 := @impl_Tag_with_impl_CompareKeys_1.mono
  · intro y0 y1 y2 y3 y4 y5 y6
    unfold impl_CompareKeys.j0
    exact moZ
theorem impl_CompareKeys.mono : ∀ a0 a1 a2 a3 a4 a5 k, LeO (impl_CompareKeys.f k a0 a1 a2 a3 a4 a5) (impl_CompareKeys.f (k + 1) a0 a1 a2 a3 a4 a5) := by
 intro a0 a1 a2 a3 a4 a5 k
 have ih0 := impl_CompareKeys.mono_l k
 have m0 := @cmp_Or_int.mono; have m1 := @impl_GoodKey.mono; have m2 := @impl_Tag_with_impl_CompareKeys_1.mono
 unfold impl_CompareKeys.f
 exact moZ
def impl_CompareKeys.T4 : Bool × List (List Nat × List Nat) := (true, [([], []), ([0], [0]), ([], []), ([2], [2]), ([1, 3], [1, 3]), ([], []), ([], []), ([6], [6]), ([], []), ([8], [8]), ([7, 9, 4], [7, 9]), ([4, 5, 10], [4, 5, 10]), ([11, 10], [11]), ([12, 12, 0, 1, 2, 3, 4, 5, 6, 7, 8, 9, 10, 11, 12], [12])])
def impl_CompareKeys.B4 : List Nat := [0, 1, 0, 4, 15, 0, 0, 64, 0, 256, 991, 2047, 4095, 8191]
theorem impl_CompareKeys.tab4 : rtab .any (opsOf Tryd.f72 4) = impl_CompareKeys.T4 := by kernel_rfl
theorem impl_CompareKeys.bits4 : waitsOk impl_CompareKeys.T4.2 impl_CompareKeys.B4 = true := by kernel_rfl
set_option maxHeartbeats 8000000 in
set_option maxRecDepth 100000 in
theorem impl_CompareKeys.calls (k : Nat) (a0_0 : ByteArray) (A0_1 : Option Addr) (c0_1 : Nat) (l0_1 : List (S123)) (a0_2 : Int) (a1_0 : ByteArray) (A1_1 : Option Addr) (c1_1 : Nat) (l1_1 : List (S123)) (a1_2 : Int) (r : Int) (w : World) (hr0_1 : Kd.C k123 w A0_1 l0_1.length l0_1) (hc0_1 : l0_1.length ≤ c0_1) (hr1_1 : Kd.C k123 w A1_1 l1_1.length l1_1) (hc1_1 : l1_1.length ≤ c1_1) (h : impl_CompareKeys.f k a0_0 l0_1 a0_2 a1_0 l1_1 a1_2 = some r) :
 Calls Tryd.prog 72 #[.agg #[.string a0_0, .slice A0_1 l0_1.length c0_1, .int .i64 a0_2], .agg #[.string a1_0, .slice A1_1 l1_1.length c1_1, .int .i64 a1_2]] w fun e w' => e = .returned (.int .i64 r) ∧ Below w.heap.size w w' := by
 have hu32 := Tryd.underlying32
 have HR0_1 := aM hr0_1
 have HC0_1 := aM hc0_1
 clear hr0_1 hc0_1
 have HR1_1 := aM hr1_1
 have HC1_1 := aM hc1_1
 clear hr1_1 hc1_1
 have HB := aM (Below.refl w.heap.size w)
 have H : ((impl_GoodKey.f k a0_0 l0_1 a0_2).bind fun t103 => (if t103 = true then ((impl_GoodKey.f k a1_0 l1_1 a1_2).bind fun t104 => (impl_CompareKeys.j0 k (!t104) a0_0 l0_1 a0_2 a1_0 l1_1 a1_2)) else (impl_CompareKeys.j0 k true a0_0 l0_1 a0_2 a1_0 l1_1 a1_2))) = some r := h
 clear h
 have HC3 := aM H
 clear H
 go_enter Tryd.func72, Tryd.ntmps72
 go_upto_region 1 with (first | ((with_reducible refine gate_dst (N := 2) rfl ?_); refine bX 2 32 #[.string a0_0, .slice A0_1 l0_1.length c0_1, .int .i64 a0_2] ?_; intro gb101 hg w4 hbox hb; have _ := aM (below_step hbZ hb); have _ := aM hbox; have _ := szZ hg; have _ := szZ hg; clear HB; rename_i HB BK101 GW101 GE101; clear hb hbox hg) | ((with_reducible refine gate_dst (N := 3) rfl ?_); refine bX 3 32 #[.string a1_0, .slice A1_1 l1_1.length c1_1, .int .i64 a1_2] ?_; intro gb102 hg w5 hbox hb; have _ := bB gb101 hb; have _ := aM (below_step hbZ hb); have _ := aM hbox; have _ := szZ hg; have _ := szZ hg; have ⟨_, _⟩ := nbB gb101 hg; clear BK101 HB; rename_i BK101 HB BK102 GW102 GE102 NB101_102 NB102_101; clear hb hbox hg))
 (try simp only [Act.put, List.setIfInBounds_toArray, List.set_cons_zero, List.set_cons_succ])
 go_cut [13] (fun v13 wc => ∃ (kq : Nat) (x13_2 : Bool), v13 = .bool x13_2 ∧ Aside0 (impl_CompareKeys.j0 kq x13_2 a0_0 l0_1 a0_2 a1_0 l1_1 a1_2 = some r) ∧ Aside0 (kq ≤ k) ∧ Aside0 (wc.heap[gb101]? = some (.cells #[.string a0_0, (.slice A0_1 l0_1.length c0_1), .int .i64 a0_2] 32 (0, 0))) ∧ Aside0 (wc.heap[gb102]? = some (.cells #[.string a1_0, (.slice A1_1 l1_1.length c1_1), .int .i64 a1_2] 32 (0, 0))) ∧ Aside0 (Below w.heap.size w wc))
 case first =>
  have H := HC3.out
  clear HC3
  obtain ⟨t103, A6, H⟩ := bS H; try dsimp only at H
  by_cases c7 : t103 = true
  · subst c7
    rw [if_pos rfl] at H
    obtain ⟨t104, A8, H⟩ := bS H; try dsimp only at H
    have H' := aM H
    clear H
    have hnb9 := NB101_102.out
    have hnc9 := NB102_101.out
    have hz10 := cellsZ3 BK101.out
    go_wp2_with (first | ((with_reducible refine gate_callee (f := 47) rfl ?_); refine gL 7 Tryd.func47 #[.agg #[.string a0_0, .slice A0_1 l0_1.length c0_1, .int .i64 a0_2]] ?_; (with_reducible refine (impl_GoodKey.calls k a0_0 _ _ l0_1 a0_2 true _ ?side1 ?side2 A6.out).mono ?_); (case side1 => exact (cZ (Kd.C_below HR0_1.out HB.out))); (case side2 => exact HC0_1.out); rintro e w11 ⟨rfl, hb⟩; refine ⟨_, rfl, ?_⟩; have _ := bB gb101 hb; have _ := bB gb102 hb; have _ := aM (below_step hbZ hb); clear BK101 BK102 HB; rename_i BK101 BK102 HB; (try clear hb); have hz12 := cellsZ3 BK102.out) | (go_at_call 47; (with_reducible refine (impl_GoodKey.calls k a1_0 _ _ l1_1 a1_2 t104 _ ?side1 ?side2 A8.out).mono ?_); (case side1 => exact (cZ (Kd.C_below HR1_1.out HB.out))); (case side2 => exact HC1_1.out); rintro e w13 ⟨rfl, hb⟩; have _ := bB gb101 hb; have _ := bB gb102 hb; have _ := aM (below_step hbZ hb); clear BK101 BK102 HB; rename_i BK101 BK102 HB; (try clear hb)))
    go_meet
    case rel => exact ⟨_, (!t104), z4458, H', ⟨zb79b⟩, ⟨bkZ⟩, ⟨bkZ⟩, ⟨zcb41⟩⟩
  · replace c7 := Bool.eq_false_iff.mpr c7
    subst c7
    rw [if_neg (show ¬ (false = true) by decide)] at H
    have H' := aM H
    clear H
    have hnb14 := NB101_102.out
    have hnc14 := NB102_101.out
    have hz15 := cellsZ3 BK101.out
    go_wp2_with (first | ((with_reducible refine gate_callee (f := 47) rfl ?_); refine gL 7 Tryd.func47 #[.agg #[.string a0_0, .slice A0_1 l0_1.length c0_1, .int .i64 a0_2]] ?_; (with_reducible refine (impl_GoodKey.calls k a0_0 _ _ l0_1 a0_2 false _ ?side1 ?side2 A6.out).mono ?_); (case side1 => exact (cZ (Kd.C_below HR0_1.out HB.out))); (case side2 => exact HC0_1.out); rintro e w16 ⟨rfl, hb⟩; refine ⟨_, rfl, ?_⟩; have _ := bB gb101 hb; have _ := bB gb102 hb; have _ := aM (below_step hbZ hb); clear BK101 BK102 HB; rename_i BK101 BK102 HB; (try clear hb)))
    go_meet
    case rel => exact ⟨_, (true), z4458, H', ⟨zb79b⟩, ⟨bkZ⟩, ⟨bkZ⟩, ⟨zcb41⟩⟩
 case rest =>
  clear HC3
  (try clear c1)
  obtain ⟨kq, x13_2, rfl, HA, HJ2, BK101, BK102, HB⟩ := hcut
  cases kq with
  | zero => exact absurd HA.out (by simp [impl_CompareKeys.j0])
  | succ kj2 =>
   have H := HA.out
   clear HA
   simp only [impl_CompareKeys.j0] at H
   by_cases c17 : x13_2 = true
   · subst c17
     rw [if_pos rfl] at H
     obtain rfl := Option.some.inj H
     go_wp2
     go_ret
     exact ⟨z674d, zcb41⟩
   · replace c17 := Bool.eq_false_iff.mpr c17
     subst c17
     rw [if_neg (show ¬ (false = true) by decide)] at H
     obtain ⟨t105, A18, H⟩ := bS H; try dsimp only at H
     obtain ⟨t106, A19, H⟩ := bS H; try dsimp only at H
     obtain ⟨t107, A20, H⟩ := bS H; try dsimp only at H
     obtain ⟨y108, hy108⟩ : ∃ y_ : List Int, y_ = (([t106, t105, t107] : List Int)) := ⟨_, rfl⟩
     first | (replace H := bindS H; rw [← hy108] at H; try dsimp only at H) | rw [← hy108] at H
     have Ny108 := aM hy108
     clear hy108
     obtain ⟨t111, A21, H⟩ := bS H; try dsimp only at H
     obtain rfl := Option.some.inj H
     have hnb22 := NB101_102.out
     have hnc22 := NB102_101.out
     have hz23 := cellsZ3 BK101.out
     have hz24 := cellsZ3 BK102.out
     try go_wp2_with (first | ((with_reducible refine gate_callee (f := 102) rfl ?_); refine gL 18 Tryd.func102 #[.slice A0_1 l0_1.length c0_1, .slice A1_1 l1_1.length c1_1, .func (.func 103) #[] #[]] ?_; (with_reducible refine (impl_Tag_with_impl_CompareKeys_1.calls kj2 _ _ l0_1 _ _ l1_1  t105 _ ?side1 ?side2 ?side3 ?side4 A18.out).mono ?_); (case side1 => exact (cZ (Kd.C_below HR0_1.out HB.out))); (case side2 => exact HC0_1.out); (case side3 => exact (cZ (Kd.C_below HR1_1.out HB.out))); (case side4 => exact HC1_1.out); rintro e w25 ⟨rfl, hb⟩; refine ⟨_, rfl, ?_⟩; have _ := bB gb101 hb; have _ := bB gb102 hb; have _ := aM (below_step hbZ hb); clear BK101 BK102 HB; rename_i BK101 BK102 HB; (try clear hb)))
     have _ := aM (blk_drew BK101.out)
     have _ := aM (blk_drew BK102.out)
     have _ := aM (below_drew1 HB.out)
     clear BK101
     clear BK102
     clear HB
     rename_i BK101 BK102 HB
     refine sA 14 impl_CompareKeys.tab4 impl_CompareKeys.bits4 (fun w' => w'.cell? ⟨gb101, 0, none⟩ = some (.string a0_0) ∧ w'.cell? ⟨gb101, 1, none⟩ = some (.slice A0_1 l0_1.length c0_1) ∧ w'.cell? ⟨gb101, 2, none⟩ = some (.int .i64 a0_2) ∧ w'.cell? ⟨gb102, 0, none⟩ = some (.string a1_0) ∧ w'.cell? ⟨gb102, 1, none⟩ = some (.slice A1_1 l1_1.length c1_1) ∧ w'.cell? ⟨gb102, 2, none⟩ = some (.int .i64 a1_2)) [] (fun hHeld HT_ HW_ => ?_)
     generalize w25.drew = w26 at BK101 BK102 HB hHeld ⊢
     refine pA 0 19 HT_ ?_; refine pA 2 21 HT_ ?_; refine pA 5 24 HT_ ?_; refine pA 6 25 HT_ ?_; refine pA 8 27 HT_ ?_; refine tA 1 20 HT_ HW_ hHeld ?_; refine tA 3 22 HT_ HW_ hHeld ?_; refine tA 7 26 HT_ HW_ hHeld ?_; refine tA 9 28 HT_ HW_ hHeld ?_; refine oA 4 23 HT_ (fun K hK => ?_)
     refine goes_ Tryd.func105 (by kernel_rfl) rfl #[.string a0_0, .string a1_0] (by rfl) rfl rfl zee81 ?_
     with_reducible refine (cmp_Compare_string.calls a0_0 a1_0 t106 _ A19.out).mono ?_
     rintro e w' ⟨rfl, ⟨nd, rfl⟩⟩
     refine ⟨_, rfl, ?_⟩
     refine hK.out _ _ sZ (fun hHeld => ?_)
     clear hK K
     refine nA 23 ?_; refine oA 10 29 HT_ (fun K hK => ?_)
     refine goes_ Tryd.func106 (by kernel_rfl) rfl #[.int .i64 a0_2, .int .i64 a1_2] (by rfl) rfl rfl zee81 ?_
     with_reducible refine (cmp_Compare_int.calls a0_2 a1_2 t107 _ A20.out).mono ?_
     rintro e w' ⟨rfl, ⟨nd, rfl⟩⟩
     refine ⟨_, rfl, ?_⟩
     refine hK.out _ _ sZ (fun hHeld => ?_)
     clear hK K
     refine nA 29 ?_; refine oA 11 30 HT_ (fun K hK => ?_)
     refine Kd.R_lit_step (Kd.int .i64) _ 3 ?hg (N := 30) ?hd (xs := ([t106, t105, t107] : List Int)) (inner := [.int .i64 t106, .int .i64 t105, .int .i64 t107]) (ok := fun _ => True) (okp := fun _ => True) ?hr ?hp (fun _ hk => hk) trivial (Below.refl _ _) (Nat.le_refl _) (by simp) ?_; (case hd => rfl); (case hg => rfl); (case hr => first | (go_simp; done) | (go_simp; rfl)); (case hp => exact (Reps.one (show Kd.M (Kd.int .i64) _ _ _ t106 [.int .i64 t106] from rfl) (Reps.one (show Kd.M (Kd.int .i64) _ _ _ t105 [.int .i64 t105] from rfl) (Reps.one (show Kd.M (Kd.int .i64) _ _ _ t107 [.int .i64 t107] from rfl) (Reps.none _ _)))))
     intro v109 w27 ho28 hb hg_ hnew_
     clear hg_ hnew_
     (first | rw [← Ny108.out] at ho28 | (simp only [Int.reduceToNat] at ho28; rw [← Ny108.out] at ho28))
     have _ := aM (Kd.R_lower ho28 (below_size hbZ))
     have _ := bB gb101 hb
     have _ := bB gb102 hb
     have _ := aM (below_step hbZ hb)
     clear BK101
     clear BK102
     clear HB
     rename_i HO110 BK101 BK102 HB
     clear hb ho28
     obtain ⟨Ao29, co29, eo29⟩ := Kd.R_slice HO110.out
     (first | subst eo29 | (injection eo29 with f1_ f2_ f3_; have f4_ := f1_.symm; have f5_ := f3_.symm; clear f1_ f2_ f3_; subst f4_; subst f5_))
     refine hK.out _ _ sZ (fun hHeld => ?_)
     clear hK K
     refine nA 30 ?_; refine oA 12 31 HT_ (fun K hK => ?_)
     refine goes_ Tryd.func104 (by kernel_rfl) rfl #[.slice Ao29 y108.length co29] (by rfl) rfl rfl zee81 ?_
     with_reducible refine (cmp_Or_int.calls kj2 _ _ y108 t111 _ ?side1 ?side2 A21.out).mono ?_
     (case side1 => exact (by repeat (first | exact (Kd.R_reads' HO110.out).2.2 | (with_reducible refine Kd.C_alloc ?_ _) | (with_reducible refine Kd.C_drewN ?_ _) | (with_reducible refine Kd.C_drew ?_))))
     (case side2 => exact (Kd.R_reads' HO110.out).2.1)
     rintro e w' ⟨rfl, ⟨nd, rfl⟩⟩
     refine ⟨_, rfl, ?_⟩
     refine hK.out _ _ sZ (fun hHeld => ?_)
     clear hK K
     refine nA 31 ?_; refine pA 13 4 HT_ ?_
     refine done_ (done_of HT_.out (by kernel_rfl)) ?_
     try go_wp2
     go_ret
     exact ⟨z674d, zcb41⟩

end Go.Proofs.YtkgmoajdcibafaaDoor.P

-- written by a program of this session's (wip/pp)
namespace Go.Proofs.YtkgmoajdcibafaaDoor.P
open Go.RowKit Go.Proofs.YtkgmoajdcibafaaDoorW.PrintWords Go.Proofs.YtkgmoajdcibafaaDoorW.PrintLast Go.Proofs.YtkgmoajdcibafaaDoorW.PrintMore
attribute [local go_sem] max2_int min2_int max_two min_two max_three min_three max_four min_four str_geq str_gtr str_leq   -- for this text's walks alone
set_option linter.unusedVariables false
set_option linter.unusedSimpArgs false

/-! ### impl_LastTold_2: function 71 -/
def impl_LastTold_2.f (k : Nat) (a0_0 : ByteArray) (l0_1 : List (S123)) (a0_2 : Int) (a0_3 : Int) (a0_4 : Int) (a0_5 : Int) (a0_6 : Int) (a0_7 : Int) (l0_8 : List Int) (a0_9 : Bool) (a1_0 : ByteArray) (l1_1 : List (S123)) (a1_2 : Int) : Option (Int) := (impl_CompareKeys.f k a0_0 l0_1 a0_2 a1_0 l1_1 a1_2).bind fun t103 => (some t103)
theorem impl_LastTold_2.mono : ∀ a0 a1 a2 a3 a4 a5 a6 a7 a8 a9 a10 a11 a12 k, LeO (impl_LastTold_2.f k a0 a1 a2 a3 a4 a5 a6 a7 a8 a9 a10 a11 a12) (impl_LastTold_2.f (k + 1) a0 a1 a2 a3 a4 a5 a6 a7 a8 a9 a10 a11 a12) := by
 intro a0 a1 a2 a3 a4 a5 a6 a7 a8 a9 a10 a11 a12 k
 have m0 := @impl_CompareKeys.mono
 unfold impl_LastTold_2.f
 exact moZ
set_option maxHeartbeats 8000000 in
set_option maxRecDepth 100000 in
theorem impl_LastTold_2.calls (k : Nat) (a0_0 : ByteArray) (A0_1 : Option Addr) (c0_1 : Nat) (l0_1 : List (S123)) (a0_2 : Int) (a0_3 : Int) (a0_4 : Int) (a0_5 : Int) (a0_6 : Int) (a0_7 : Int) (A0_8 : Option Addr) (c0_8 : Nat) (l0_8 : List Int) (a0_9 : Bool) (a1_0 : ByteArray) (A1_1 : Option Addr) (c1_1 : Nat) (l1_1 : List (S123)) (a1_2 : Int) (r : Int) (w : World) (hr0_1 : Kd.C k123 w A0_1 l0_1.length l0_1) (hc0_1 : l0_1.length ≤ c0_1) (hr0_8 : Kd.C (Kd.int .i64) w A0_8 l0_8.length l0_8) (hc0_8 : l0_8.length ≤ c0_8) (hr1_1 : Kd.C k123 w A1_1 l1_1.length l1_1) (hc1_1 : l1_1.length ≤ c1_1) (h : impl_LastTold_2.f k a0_0 l0_1 a0_2 a0_3 a0_4 a0_5 a0_6 a0_7 l0_8 a0_9 a1_0 l1_1 a1_2 = some r) :
 Calls Tryd.prog 71 #[.agg #[.string a0_0, .slice A0_1 l0_1.length c0_1, .int .i64 a0_2, .int .i64 a0_3, .int .i64 a0_4, .int .i64 a0_5, .int .i64 a0_6, .int .i64 a0_7, .slice A0_8 l0_8.length c0_8, .bool a0_9], .agg #[.string a1_0, .slice A1_1 l1_1.length c1_1, .int .i64 a1_2]] w fun e w' => e = .returned (.int .i64 r) ∧ Below w.heap.size w w' := by
 have hu96 := Tryd.underlying96
 have hu32 := Tryd.underlying32
 have HR0_1 := aM hr0_1
 have HC0_1 := aM hc0_1
 clear hr0_1 hc0_1
 have HR0_8 := aM hr0_8
 have HC0_8 := aM hc0_8
 clear hr0_8 hc0_8
 have HR1_1 := aM hr1_1
 have HC1_1 := aM hc1_1
 clear hr1_1 hc1_1
 have HB := aM (Below.refl w.heap.size w)
 have H : ((impl_CompareKeys.f k a0_0 l0_1 a0_2 a1_0 l1_1 a1_2).bind fun t103 => (some t103)) = some r := h
 clear h
 obtain ⟨t103, A3, H⟩ := bS H; try dsimp only at H
 obtain rfl := Option.some.inj H
 go_enter Tryd.func71, Tryd.ntmps71
 go_wp2_with (first | ((with_reducible refine gate_dst (N := 2) rfl ?_); refine bX 2 96 #[.string a0_0, .slice A0_1 l0_1.length c0_1, .int .i64 a0_2, .int .i64 a0_3, .int .i64 a0_4, .int .i64 a0_5, .int .i64 a0_6, .int .i64 a0_7, .slice A0_8 l0_8.length c0_8, .bool a0_9] ?_; intro gb101 hg w4 hbox hb; have _ := aM (below_step hbZ hb); have _ := aM hbox; have _ := szZ hg; have _ := szZ hg; clear HB; rename_i HB BK101 GW101 GE101; clear hb hbox hg) | ((with_reducible refine gate_dst (N := 3) rfl ?_); refine bX 3 32 #[.string a1_0, .slice A1_1 l1_1.length c1_1, .int .i64 a1_2] ?_; intro gb102 hg w5 hbox hb; have _ := bB gb101 hb; have _ := aM (below_step hbZ hb); have _ := aM hbox; have _ := szZ hg; have _ := szZ hg; have ⟨_, _⟩ := nbB gb101 hg; clear BK101 HB; rename_i BK101 HB BK102 GW102 GE102 NB101_102 NB102_101; clear hb hbox hg; have hnb6 := NB101_102.out; have hnc6 := NB102_101.out; have hz7 := cellsZ10 BK101.out; have hz8 := cellsZ3 BK102.out) | ((with_reducible refine gate_callee (f := 72) rfl ?_); refine gL 8 Tryd.func72 #[.agg #[.string a0_0, .slice A0_1 l0_1.length c0_1, .int .i64 a0_2], .agg #[.string a1_0, .slice A1_1 l1_1.length c1_1, .int .i64 a1_2]] ?_; (with_reducible refine (impl_CompareKeys.calls k a0_0 _ _ l0_1 a0_2 a1_0 _ _ l1_1 a1_2 t103 _ ?side1 ?side2 ?side3 ?side4 A3.out).mono ?_); (case side1 => exact (cZ (Kd.C_below HR0_1.out HB.out))); (case side2 => exact HC0_1.out); (case side3 => exact (cZ (Kd.C_below HR1_1.out HB.out))); (case side4 => exact HC1_1.out); rintro e w9 ⟨rfl, hb⟩; refine ⟨_, rfl, ?_⟩; have _ := bB gb101 hb; have _ := bB gb102 hb; have _ := aM (below_step hbZ hb); clear BK101 BK102 HB; rename_i BK101 BK102 HB; (try clear hb)))
 go_ret
 exact ⟨z674d, zcb41⟩

end Go.Proofs.YtkgmoajdcibafaaDoor.P

-- written by a program of this session's (wip/pp)
namespace Go.Proofs.YtkgmoajdcibafaaDoor.P
open Go.RowKit Go.Proofs.YtkgmoajdcibafaaDoorW.PrintWords Go.Proofs.YtkgmoajdcibafaaDoorW.PrintLast Go.Proofs.YtkgmoajdcibafaaDoorW.PrintMore
attribute [local go_sem] max2_int min2_int max_two min_two max_three min_three max_four min_four str_geq str_gtr str_leq   -- for this text's walks alone
set_option linter.unusedVariables false
set_option linter.unusedSimpArgs false

/-! ### impl_Key_with_impl_LastTold_2: function 10070071 -/
def impl_Key_with_impl_LastTold_2.l0 : Nat → List (S96) → Int → Int → Int → ByteArray → List (S123) → Int → Option (Int × Bool)
 | 0, _, _, _, _, _, _, _ => none
 | k + 1, x0, x8, x9, x10, x102000, x102001, x102002 => if x9 < x10 then (if 0 ≤ (wrap64 ((IntKind.u64.wrap (wrap64 (x9 + x10))) / 2)) then (if (wrap64 ((IntKind.u64.wrap (wrap64 (x9 + x10))) / 2)) < (x0.length : Int) then ((impl_LastTold_2.f k ((rd_T96 x0 (wrap64 ((IntKind.u64.wrap (wrap64 (x9 + x10))) / 2))).f0.f0) ((rd_T96 x0 (wrap64 ((IntKind.u64.wrap (wrap64 (x9 + x10))) / 2))).f0.f1) ((rd_T96 x0 (wrap64 ((IntKind.u64.wrap (wrap64 (x9 + x10))) / 2))).f0.f2) ((rd_T96 x0 (wrap64 ((IntKind.u64.wrap (wrap64 (x9 + x10))) / 2))).f1) ((rd_T96 x0 (wrap64 ((IntKind.u64.wrap (wrap64 (x9 + x10))) / 2))).f2.f0) ((rd_T96 x0 (wrap64 ((IntKind.u64.wrap (wrap64 (x9 + x10))) / 2))).f2.f1) ((rd_T96 x0 (wrap64 ((IntKind.u64.wrap (wrap64 (x9 + x10))) / 2))).f2.f2) ((rd_T96 x0 (wrap64 ((IntKind.u64.wrap (wrap64 (x9 + x10))) / 2))).f2.f3) ((rd_T96 x0 (wrap64 ((IntKind.u64.wrap (wrap64 (x9 + x10))) / 2))).f2.f4) ((rd_T96 x0 (wrap64 ((IntKind.u64.wrap (wrap64 (x9 + x10))) / 2))).f2.f5) x102000 x102001 x102002).bind fun t103 => (if t103 < 0 then (impl_Key_with_impl_LastTold_2.l0 k x0 x8 (wrap64 ((wrap64 ((IntKind.u64.wrap (wrap64 (x9 + x10))) / 2)) + 1)) x10 x102000 x102001 x102002) else (impl_Key_with_impl_LastTold_2.l0 k x0 x8 x9 (wrap64 ((IntKind.u64.wrap (wrap64 (x9 + x10))) / 2)) x102000 x102001 x102002))) else (none)) else (none)) else (if x9 < x8 then (if 0 ≤ x9 then (if x9 < (x0.length : Int) then ((impl_LastTold_2.f k ((rd_T96 x0 x9).f0.f0) ((rd_T96 x0 x9).f0.f1) ((rd_T96 x0 x9).f0.f2) ((rd_T96 x0 x9).f1) ((rd_T96 x0 x9).f2.f0) ((rd_T96 x0 x9).f2.f1) ((rd_T96 x0 x9).f2.f2) ((rd_T96 x0 x9).f2.f3) ((rd_T96 x0 x9).f2.f4) ((rd_T96 x0 x9).f2.f5) x102000 x102001 x102002).bind fun t105 => (some (x9, (t105 == 0)))) else (none)) else (none)) else (some (x9, false)))
def impl_Key_with_impl_LastTold_2.f (k : Nat) (l0 : List (S96)) (a1_0 : ByteArray) (l1_1 : List (S123)) (a1_2 : Int)  : Option (Int × Bool) := impl_Key_with_impl_LastTold_2.l0 k l0 (l0.length : Int) 0 (l0.length : Int) a1_0 l1_1 a1_2
theorem impl_Key_with_impl_LastTold_2.mono_l : ∀ k, (∀ y0 y1 y2 y3 y4 y5 y6, LeO (impl_Key_with_impl_LastTold_2.l0 k y0 y1 y2 y3 y4 y5 y6) (impl_Key_with_impl_LastTold_2.l0 (k + 1) y0 y1 y2 y3 y4 y5 y6))
 | 0 => fun _ _ _ _ _ _ _ r h => by simp [impl_Key_with_impl_LastTold_2.l0] at h
 | k + 1 => by
  have ih0 := impl_Key_with_impl_LastTold_2.mono_l k; have m0 := @impl_LastTold_2.mono
  · intro y0 y1 y2 y3 y4 y5 y6
    unfold impl_Key_with_impl_LastTold_2.l0
    exact moZ
theorem impl_Key_with_impl_LastTold_2.mono : ∀ a0 a1 a2 a3 k, LeO (impl_Key_with_impl_LastTold_2.f k a0 a1 a2 a3) (impl_Key_with_impl_LastTold_2.f (k + 1) a0 a1 a2 a3) := by
 intro a0 a1 a2 a3 k
 have ih0 := impl_Key_with_impl_LastTold_2.mono_l k
 have m0 := @impl_LastTold_2.mono
 unfold impl_Key_with_impl_LastTold_2.f
 exact moZ
def impl_Key_with_impl_LastTold_2.T5 : Bool × List (List Nat × List Nat) := (true, [([], []), ([], []), ([], []), ([1, 2], [1, 2]), ([3], [3]), ([], []), ([0, 4, 5], [0, 4, 5]), ([6], [6])])
def impl_Key_with_impl_LastTold_2.B5 : List Nat := [0, 0, 0, 6, 14, 0, 63, 127]
theorem impl_Key_with_impl_LastTold_2.tab5 : rtab .any (opsOf Tryd.f70 5) = impl_Key_with_impl_LastTold_2.T5 := by kernel_rfl
theorem impl_Key_with_impl_LastTold_2.bits5 : waitsOk impl_Key_with_impl_LastTold_2.T5.2 impl_Key_with_impl_LastTold_2.B5 = true := by kernel_rfl
def impl_Key_with_impl_LastTold_2.T8 : Bool × List (List Nat × List Nat) := (true, [([], []), ([], []), ([], []), ([1, 2], [1, 2]), ([3], [3]), ([4], [4]), ([4], [4]), ([4], [4]), ([6, 7, 4], [4, 6, 7]), ([8, 4], [4, 8]), ([4], [4]), ([5, 9, 10, 4, 4], [4, 5, 9, 10]), ([11, 4], [4, 11]), ([4, 12], [4, 12]), ([0, 11, 0], [0]), ([13, 14, 0, 1, 2, 3, 4, 5, 6, 7, 8, 9, 10, 11, 12, 13, 14], [13])])
def impl_Key_with_impl_LastTold_2.B8 : List Nat := [0, 0, 0, 6, 14, 30, 30, 30, 222, 478, 30, 2046, 4094, 8190, 4095, 32767]
theorem impl_Key_with_impl_LastTold_2.tab8 : rtab .any (opsOf Tryd.f70 8) = impl_Key_with_impl_LastTold_2.T8 := by kernel_rfl
theorem impl_Key_with_impl_LastTold_2.bits8 : waitsOk impl_Key_with_impl_LastTold_2.T8.2 impl_Key_with_impl_LastTold_2.B8 = true := by kernel_rfl
set_option maxHeartbeats 8000000 in
set_option maxRecDepth 100000 in
theorem impl_Key_with_impl_LastTold_2.calls (k : Nat) (A0 : Option Addr) (c0 : Nat) (l0 : List (S96)) (a1_0 : ByteArray) (A1_1 : Option Addr) (c1_1 : Nat) (l1_1 : List (S123)) (a1_2 : Int)  (r1 : Int) (r2 : Bool) (w : World) (hr0 : Kd.C k96 w A0 l0.length l0) (hc0 : l0.length ≤ c0) (hr1_1 : Kd.C k123 w A1_1 l1_1.length l1_1) (hc1_1 : l1_1.length ≤ c1_1) (h : impl_Key_with_impl_LastTold_2.f k l0 a1_0 l1_1 a1_2 = some (r1, r2)) :
 Calls Tryd.prog 70 #[.slice A0 l0.length c0, .agg #[.string a1_0, .slice A1_1 l1_1.length c1_1, .int .i64 a1_2], .func (.func 71) #[] #[]] w fun e w' => e = .returned (.tuple #[.int .i64 r1, .bool r2]) ∧ Below w.heap.size w w' := by
 have hu32 := Tryd.underlying32
 have hu96 := Tryd.underlying96
 have HR0 := aM hr0
 have HC0 := aM hc0
 clear hr0 hc0
 have HR1_1 := aM hr1_1
 have HC1_1 := aM hc1_1
 clear hr1_1 hc1_1
 have HB := aM (Below.refl w.heap.size w)
 have H : (impl_Key_with_impl_LastTold_2.l0 k l0 (l0.length : Int) 0 (l0.length : Int) a1_0 l1_1 a1_2) = some (r1, r2) := h
 clear h
 have H' := aM H
 clear H
 go_enter Tryd.func70, Tryd.ntmps70
 go_wp2_with (first | ((with_reducible refine gate_dst (N := 4) rfl ?_); refine bX 4 32 #[.string a1_0, .slice A1_1 l1_1.length c1_1, .int .i64 a1_2] ?_; intro gb101 hg w4 hbox hb; have _ := aM (below_step hbZ hb); have _ := aM hbox; have _ := szZ hg; have _ := szZ hg; clear HB; rename_i HB BK101 GW101 GE101; clear hb hbox hg))
 go_loopg [9, 10] k (fun kq v9 v10 w' => ∃ (x9_1 : Int) (x10_1 : Int), v9 = .int .i64 x9_1 ∧ v10 = .int .i64 x10_1 ∧ Aside0 (impl_Key_with_impl_LastTold_2.l0 kq l0 (l0.length : Int) x9_1 x10_1 a1_0 l1_1 a1_2 = some (r1, r2)) ∧ Aside0 (kq ≤ k) ∧ Aside0 (w'.heap[gb101]? = some (.cells #[.string a1_0, (.slice A1_1 l1_1.length c1_1), .int .i64 a1_2] 32 (0, 0))) ∧ Aside0 (Below w.heap.size w w'))
 case atStart => exact ⟨(0), ((l0.length : Int)), z4458, z4458, H', ⟨Nat.le_refl _⟩, ⟨bkZ⟩, ⟨zcb41⟩⟩
 case round =>
  clear H'
  (try clear c1)
  obtain ⟨x9_1, x10_1, rfl, rfl, HA, HK1, BK101, HB⟩ := hrel
  cases gk with
  | zero => exact absurd HA.out (by simp [impl_Key_with_impl_LastTold_2.l0])
  | succ k1 =>
   have H := HA.out
   clear HA
   simp only [impl_Key_with_impl_LastTold_2.l0] at H
   by_cases c5 : x9_1 < x10_1
   · rw [if_pos c5] at H
     have c5b0 := dL c5
     clear c5
     obtain ⟨ji6, hji6⟩ : ∃ j_ : Int, (wrap64 ((IntKind.u64.wrap (wrap64 (x9_1 + x10_1))) / 2)) = j_ := ⟨_, rfl⟩
     replace H : (if 0 ≤ (ji6) then (if (ji6) < (l0.length : Int) then ((impl_LastTold_2.f k1 ((rd_T96 l0 (ji6)).f0.f0) ((rd_T96 l0 (ji6)).f0.f1) ((rd_T96 l0 (ji6)).f0.f2) ((rd_T96 l0 (ji6)).f1) ((rd_T96 l0 (ji6)).f2.f0) ((rd_T96 l0 (ji6)).f2.f1) ((rd_T96 l0 (ji6)).f2.f2) ((rd_T96 l0 (ji6)).f2.f3) ((rd_T96 l0 (ji6)).f2.f4) ((rd_T96 l0 (ji6)).f2.f5) a1_0 l1_1 a1_2).bind fun t103 => (if t103 < 0 then (impl_Key_with_impl_LastTold_2.l0 k1 l0 (l0.length : Int) (wrap64 ((ji6) + 1)) x10_1 a1_0 l1_1 a1_2) else (impl_Key_with_impl_LastTold_2.l0 k1 l0 (l0.length : Int) x9_1 ji6 a1_0 l1_1 a1_2))) else (none)) else (none)) = some (r1, r2) := by first | (rw [hji6] at H; exact H) | (simp only [hji6] at H ⊢; exact H)
     have hji6w : (IntKind.i64.wrap ((IntKind.u64.wrap (wrap64 (x9_1 + x10_1))) / 2)) = ji6 := (i64_w _).trans hji6
     obtain ⟨c7b0, H⟩ := sE H
     obtain ⟨c8b0, H⟩ := sL H
     obtain ⟨t103, A9, H⟩ := bS H; try dsimp only at H
     by_cases c10 : t103 < 0
     · rw [if_pos c10] at H
       have c10b0 := dL c10
       clear c10
       have H' := aM H
       clear H
       try go_wp2
       have _ := aM (blk_drew BK101.out)
       have _ := aM (below_drew1 HB.out)
       clear BK101
       clear HB
       rename_i BK101 HB
       have p102 : 0 ≤ ((ji6) : Int) := of_decide_eq_true z1200
       have q102 : (ji6) < (l0.length : Int) := of_decide_eq_true z1200
       obtain ⟨ad102, A102_1, c102_1, A102_8, c102_8, e102, hx102_0, hx102_1, hx102_2, hx102_3, hx102_4, hx102_5, hx102_6, hx102_7, hx102_8, hx102_9, hl102_1, hi102_1, hl102_8, hi102_8⟩ := at_T96 HR0.out (ji6) p102 q102
       have hw102_9 := hx102_9
       have hw102_8 := hx102_8
       have hw102_7 := hx102_7
       have hw102_6 := hx102_6
       have hw102_5 := hx102_5
       have hw102_4 := hx102_4
       have hw102_3 := hx102_3
       have hw102_2 := hx102_2
       have hw102_1 := hx102_1
       have hw102_0 := hx102_0
       cases e102
       have TW102_1 := aM hx102_1
       have TW102_8 := aM hx102_8
       replace hx102_0 := (HB.out.cell (World.block_lt_of_cell? w _ hx102_0)).trans hx102_0
       replace hx102_1 := (HB.out.cell (World.block_lt_of_cell? w _ hx102_1)).trans hx102_1
       replace hx102_2 := (HB.out.cell (World.block_lt_of_cell? w _ hx102_2)).trans hx102_2
       replace hx102_3 := (HB.out.cell (World.block_lt_of_cell? w _ hx102_3)).trans hx102_3
       replace hx102_4 := (HB.out.cell (World.block_lt_of_cell? w _ hx102_4)).trans hx102_4
       replace hx102_5 := (HB.out.cell (World.block_lt_of_cell? w _ hx102_5)).trans hx102_5
       replace hx102_6 := (HB.out.cell (World.block_lt_of_cell? w _ hx102_6)).trans hx102_6
       replace hx102_7 := (HB.out.cell (World.block_lt_of_cell? w _ hx102_7)).trans hx102_7
       replace hx102_8 := (HB.out.cell (World.block_lt_of_cell? w _ hx102_8)).trans hx102_8
       replace hx102_9 := (HB.out.cell (World.block_lt_of_cell? w _ hx102_9)).trans hx102_9
       have HR102_1 := aM hi102_1
       have HC102_1 := aM hl102_1
       clear hi102_1 hl102_1
       have HR102_8 := aM hi102_8
       have HC102_8 := aM hl102_8
       clear hi102_8 hl102_8
       replace p102 := eq_true p102
       replace q102 := eq_true q102
       refine sA 8 impl_Key_with_impl_LastTold_2.tab5 impl_Key_with_impl_LastTold_2.bits5 (fun w' => w'.cell? ⟨gb101, 0, none⟩ = some (.string a1_0) ∧ w'.cell? ⟨gb101, 1, none⟩ = some (.slice A1_1 l1_1.length c1_1) ∧ w'.cell? ⟨gb101, 2, none⟩ = some (.int .i64 a1_2) ∧ w'.cell? (ad102.add (((ji6)).toNat * 10)) = some (.string ((rd_T96 l0 (ji6)).f0.f0)) ∧ w'.cell? ⟨(ad102.add (((ji6)).toNat * 10)).block, (ad102.add (((ji6)).toNat * 10)).off + 1, none⟩ = some (.slice A102_1 ((rd_T96 l0 (ji6)).f0.f1).length c102_1) ∧ w'.cell? ⟨(ad102.add (((ji6)).toNat * 10)).block, (ad102.add (((ji6)).toNat * 10)).off + 2, none⟩ = some (.int .i64 ((rd_T96 l0 (ji6)).f0.f2)) ∧ w'.cell? ⟨(ad102.add (((ji6)).toNat * 10)).block, (ad102.add (((ji6)).toNat * 10)).off + 3, none⟩ = some (.int .i64 ((rd_T96 l0 (ji6)).f1)) ∧ w'.cell? ⟨(ad102.add (((ji6)).toNat * 10)).block, (ad102.add (((ji6)).toNat * 10)).off + 4, none⟩ = some (.int .i64 ((rd_T96 l0 (ji6)).f2.f0)) ∧ w'.cell? ⟨(ad102.add (((ji6)).toNat * 10)).block, (ad102.add (((ji6)).toNat * 10)).off + 5, none⟩ = some (.int .i64 ((rd_T96 l0 (ji6)).f2.f1)) ∧ w'.cell? ⟨(ad102.add (((ji6)).toNat * 10)).block, (ad102.add (((ji6)).toNat * 10)).off + 6, none⟩ = some (.int .i64 ((rd_T96 l0 (ji6)).f2.f2)) ∧ w'.cell? ⟨(ad102.add (((ji6)).toNat * 10)).block, (ad102.add (((ji6)).toNat * 10)).off + 7, none⟩ = some (.int .i64 ((rd_T96 l0 (ji6)).f2.f3)) ∧ w'.cell? ⟨(ad102.add (((ji6)).toNat * 10)).block, (ad102.add (((ji6)).toNat * 10)).off + 8, none⟩ = some (.slice A102_8 ((rd_T96 l0 (ji6)).f2.f4).length c102_8) ∧ w'.cell? ⟨(ad102.add (((ji6)).toNat * 10)).block, (ad102.add (((ji6)).toNat * 10)).off + 9, none⟩ = some (.bool ((rd_T96 l0 (ji6)).f2.f5))) [] (fun hHeld HT_ HW_ => ?_)
       generalize wr.drew = w11 at BK101 HB HR102_1 HR102_8 hx102_0 hx102_1 hx102_2 hx102_3 hx102_4 hx102_5 hx102_6 hx102_7 hx102_8 hx102_9 hHeld ⊢
       refine pA 0 24 HT_ ?_; refine pA 1 25 HT_ ?_; refine pA 2 26 HT_ ?_; refine pA 3 27 HT_ ?_; refine tA 4 28 HT_ HW_ hHeld ?_; refine tA 5 29 HT_ HW_ hHeld ?_; refine oA 6 30 HT_ (fun K hK => ?_)
       refine goesV_ Tryd.func71 (by kernel_rfl) rfl #[.agg #[.string ((rd_T96 l0 (ji6)).f0.f0), .slice A102_1 ((rd_T96 l0 (ji6)).f0.f1).length c102_1, .int .i64 ((rd_T96 l0 (ji6)).f0.f2), .int .i64 ((rd_T96 l0 (ji6)).f1), .int .i64 ((rd_T96 l0 (ji6)).f2.f0), .int .i64 ((rd_T96 l0 (ji6)).f2.f1), .int .i64 ((rd_T96 l0 (ji6)).f2.f2), .int .i64 ((rd_T96 l0 (ji6)).f2.f3), .slice A102_8 ((rd_T96 l0 (ji6)).f2.f4).length c102_8, .bool ((rd_T96 l0 (ji6)).f2.f5)], .agg #[.string a1_0, .slice A1_1 l1_1.length c1_1, .int .i64 a1_2]] (by rfl) rfl rfl rfl (by (try simp only [List.map_toArray, List.map_cons, List.map_nil]); first | done | (simp only [hji6]; rfl) | rfl | (simp only [List.length_drop, List.length_take]; rfl)) ?_
       with_reducible refine (impl_LastTold_2.calls k1 ((rd_T96 l0 (ji6)).f0.f0) _ _ ((rd_T96 l0 (ji6)).f0.f1) ((rd_T96 l0 (ji6)).f0.f2) ((rd_T96 l0 (ji6)).f1) ((rd_T96 l0 (ji6)).f2.f0) ((rd_T96 l0 (ji6)).f2.f1) ((rd_T96 l0 (ji6)).f2.f2) ((rd_T96 l0 (ji6)).f2.f3) _ _ ((rd_T96 l0 (ji6)).f2.f4) ((rd_T96 l0 (ji6)).f2.f5) a1_0 _ _ l1_1 a1_2 t103 _ ?side1 ?side2 ?side3 ?side4 ?side5 ?side6 A9.out).mono ?_
       (case side1 => exact (cZ (Kd.C_below HR102_1.out HB.out)))
       (case side2 => exact HC102_1.out)
       (case side3 => exact (cZ (Kd.C_below HR102_8.out HB.out)))
       (case side4 => exact HC102_8.out)
       (case side5 => exact (cZ (Kd.C_below HR1_1.out HB.out)))
       (case side6 => exact HC1_1.out)
       rintro e w12 ⟨rfl, hb⟩
       refine ⟨_, rfl, ?_⟩
       have _ := bB gb101 hb
       have _ := aM (below_step hbZ hb)
       clear BK101
       clear HB
       rename_i BK101 HB
       (try clear hb)
       refine hK.out _ _ sZ (fun hHeld => ?_)
       clear hK K
       refine nA 30 ?_; refine pA 7 31 HT_ ?_
       refine done_ (done_of HT_.out (by kernel_rfl)) ?_
       try go_wp2
       go_roundg k1
       case measure => have := HK1.out; omega
       case rel => exact ⟨(wrap64 ((ji6) + 1)), (x10_1), (by first | rfl | (simp; done) | (simp only [← hji6] <;> (first | rfl | (simp; done))) | (simp [*]; done)), z4458, H', ⟨zfb39⟩, ⟨bkZ⟩, ⟨zcb41⟩⟩
     · rw [if_neg c10] at H
       have c10b0 := nL c10
       clear c10
       have H' := aM H
       clear H
       try go_wp2
       have _ := aM (blk_drew BK101.out)
       have _ := aM (below_drew1 HB.out)
       clear BK101
       clear HB
       rename_i BK101 HB
       have p102 : 0 ≤ ((ji6) : Int) := of_decide_eq_true z1200
       have q102 : (ji6) < (l0.length : Int) := of_decide_eq_true z1200
       obtain ⟨ad102, A102_1, c102_1, A102_8, c102_8, e102, hx102_0, hx102_1, hx102_2, hx102_3, hx102_4, hx102_5, hx102_6, hx102_7, hx102_8, hx102_9, hl102_1, hi102_1, hl102_8, hi102_8⟩ := at_T96 HR0.out (ji6) p102 q102
       have hw102_9 := hx102_9
       have hw102_8 := hx102_8
       have hw102_7 := hx102_7
       have hw102_6 := hx102_6
       have hw102_5 := hx102_5
       have hw102_4 := hx102_4
       have hw102_3 := hx102_3
       have hw102_2 := hx102_2
       have hw102_1 := hx102_1
       have hw102_0 := hx102_0
       cases e102
       have TW102_1 := aM hx102_1
       have TW102_8 := aM hx102_8
       replace hx102_0 := (HB.out.cell (World.block_lt_of_cell? w _ hx102_0)).trans hx102_0
       replace hx102_1 := (HB.out.cell (World.block_lt_of_cell? w _ hx102_1)).trans hx102_1
       replace hx102_2 := (HB.out.cell (World.block_lt_of_cell? w _ hx102_2)).trans hx102_2
       replace hx102_3 := (HB.out.cell (World.block_lt_of_cell? w _ hx102_3)).trans hx102_3
       replace hx102_4 := (HB.out.cell (World.block_lt_of_cell? w _ hx102_4)).trans hx102_4
       replace hx102_5 := (HB.out.cell (World.block_lt_of_cell? w _ hx102_5)).trans hx102_5
       replace hx102_6 := (HB.out.cell (World.block_lt_of_cell? w _ hx102_6)).trans hx102_6
       replace hx102_7 := (HB.out.cell (World.block_lt_of_cell? w _ hx102_7)).trans hx102_7
       replace hx102_8 := (HB.out.cell (World.block_lt_of_cell? w _ hx102_8)).trans hx102_8
       replace hx102_9 := (HB.out.cell (World.block_lt_of_cell? w _ hx102_9)).trans hx102_9
       have HR102_1 := aM hi102_1
       have HC102_1 := aM hl102_1
       clear hi102_1 hl102_1
       have HR102_8 := aM hi102_8
       have HC102_8 := aM hl102_8
       clear hi102_8 hl102_8
       replace p102 := eq_true p102
       replace q102 := eq_true q102
       refine sA 8 impl_Key_with_impl_LastTold_2.tab5 impl_Key_with_impl_LastTold_2.bits5 (fun w' => w'.cell? ⟨gb101, 0, none⟩ = some (.string a1_0) ∧ w'.cell? ⟨gb101, 1, none⟩ = some (.slice A1_1 l1_1.length c1_1) ∧ w'.cell? ⟨gb101, 2, none⟩ = some (.int .i64 a1_2) ∧ w'.cell? (ad102.add (((ji6)).toNat * 10)) = some (.string ((rd_T96 l0 (ji6)).f0.f0)) ∧ w'.cell? ⟨(ad102.add (((ji6)).toNat * 10)).block, (ad102.add (((ji6)).toNat * 10)).off + 1, none⟩ = some (.slice A102_1 ((rd_T96 l0 (ji6)).f0.f1).length c102_1) ∧ w'.cell? ⟨(ad102.add (((ji6)).toNat * 10)).block, (ad102.add (((ji6)).toNat * 10)).off + 2, none⟩ = some (.int .i64 ((rd_T96 l0 (ji6)).f0.f2)) ∧ w'.cell? ⟨(ad102.add (((ji6)).toNat * 10)).block, (ad102.add (((ji6)).toNat * 10)).off + 3, none⟩ = some (.int .i64 ((rd_T96 l0 (ji6)).f1)) ∧ w'.cell? ⟨(ad102.add (((ji6)).toNat * 10)).block, (ad102.add (((ji6)).toNat * 10)).off + 4, none⟩ = some (.int .i64 ((rd_T96 l0 (ji6)).f2.f0)) ∧ w'.cell? ⟨(ad102.add (((ji6)).toNat * 10)).block, (ad102.add (((ji6)).toNat * 10)).off + 5, none⟩ = some (.int .i64 ((rd_T96 l0 (ji6)).f2.f1)) ∧ w'.cell? ⟨(ad102.add (((ji6)).toNat * 10)).block, (ad102.add (((ji6)).toNat * 10)).off + 6, none⟩ = some (.int .i64 ((rd_T96 l0 (ji6)).f2.f2)) ∧ w'.cell? ⟨(ad102.add (((ji6)).toNat * 10)).block, (ad102.add (((ji6)).toNat * 10)).off + 7, none⟩ = some (.int .i64 ((rd_T96 l0 (ji6)).f2.f3)) ∧ w'.cell? ⟨(ad102.add (((ji6)).toNat * 10)).block, (ad102.add (((ji6)).toNat * 10)).off + 8, none⟩ = some (.slice A102_8 ((rd_T96 l0 (ji6)).f2.f4).length c102_8) ∧ w'.cell? ⟨(ad102.add (((ji6)).toNat * 10)).block, (ad102.add (((ji6)).toNat * 10)).off + 9, none⟩ = some (.bool ((rd_T96 l0 (ji6)).f2.f5))) [] (fun hHeld HT_ HW_ => ?_)
       generalize wr.drew = w13 at BK101 HB HR102_1 HR102_8 hx102_0 hx102_1 hx102_2 hx102_3 hx102_4 hx102_5 hx102_6 hx102_7 hx102_8 hx102_9 hHeld ⊢
       refine pA 0 24 HT_ ?_; refine pA 1 25 HT_ ?_; refine pA 2 26 HT_ ?_; refine pA 3 27 HT_ ?_; refine tA 4 28 HT_ HW_ hHeld ?_; refine tA 5 29 HT_ HW_ hHeld ?_; refine oA 6 30 HT_ (fun K hK => ?_)
       refine goesV_ Tryd.func71 (by kernel_rfl) rfl #[.agg #[.string ((rd_T96 l0 (ji6)).f0.f0), .slice A102_1 ((rd_T96 l0 (ji6)).f0.f1).length c102_1, .int .i64 ((rd_T96 l0 (ji6)).f0.f2), .int .i64 ((rd_T96 l0 (ji6)).f1), .int .i64 ((rd_T96 l0 (ji6)).f2.f0), .int .i64 ((rd_T96 l0 (ji6)).f2.f1), .int .i64 ((rd_T96 l0 (ji6)).f2.f2), .int .i64 ((rd_T96 l0 (ji6)).f2.f3), .slice A102_8 ((rd_T96 l0 (ji6)).f2.f4).length c102_8, .bool ((rd_T96 l0 (ji6)).f2.f5)], .agg #[.string a1_0, .slice A1_1 l1_1.length c1_1, .int .i64 a1_2]] (by rfl) rfl rfl rfl (by (try simp only [List.map_toArray, List.map_cons, List.map_nil]); first | done | (simp only [hji6]; rfl) | rfl | (simp only [List.length_drop, List.length_take]; rfl)) ?_
       with_reducible refine (impl_LastTold_2.calls k1 ((rd_T96 l0 (ji6)).f0.f0) _ _ ((rd_T96 l0 (ji6)).f0.f1) ((rd_T96 l0 (ji6)).f0.f2) ((rd_T96 l0 (ji6)).f1) ((rd_T96 l0 (ji6)).f2.f0) ((rd_T96 l0 (ji6)).f2.f1) ((rd_T96 l0 (ji6)).f2.f2) ((rd_T96 l0 (ji6)).f2.f3) _ _ ((rd_T96 l0 (ji6)).f2.f4) ((rd_T96 l0 (ji6)).f2.f5) a1_0 _ _ l1_1 a1_2 t103 _ ?side1 ?side2 ?side3 ?side4 ?side5 ?side6 A9.out).mono ?_
       (case side1 => exact (cZ (Kd.C_below HR102_1.out HB.out)))
       (case side2 => exact HC102_1.out)
       (case side3 => exact (cZ (Kd.C_below HR102_8.out HB.out)))
       (case side4 => exact HC102_8.out)
       (case side5 => exact (cZ (Kd.C_below HR1_1.out HB.out)))
       (case side6 => exact HC1_1.out)
       rintro e w14 ⟨rfl, hb⟩
       refine ⟨_, rfl, ?_⟩
       have _ := bB gb101 hb
       have _ := aM (below_step hbZ hb)
       clear BK101
       clear HB
       rename_i BK101 HB
       (try clear hb)
       refine hK.out _ _ sZ (fun hHeld => ?_)
       clear hK K
       refine nA 30 ?_; refine pA 7 31 HT_ ?_
       refine done_ (done_of HT_.out (by kernel_rfl)) ?_
       try go_wp2
       go_roundg k1
       case measure => have := HK1.out; omega
       case rel => exact ⟨(x9_1), (ji6), z4458, (by first | rfl | (simp; done) | (simp only [← hji6] <;> (first | rfl | (simp; done))) | (simp [*]; done)), H', ⟨zfb39⟩, ⟨bkZ⟩, ⟨zcb41⟩⟩
   · rw [if_neg c5] at H
     have c5b0 := nL c5
     clear c5
     by_cases c15 : x9_1 < (l0.length : Int)
     · rw [if_pos c15] at H
       have c15b0 := dL c15
       clear c15
       obtain ⟨c16b0, H⟩ := sE H
       obtain ⟨c17b0, H⟩ := sL H
       obtain ⟨t105, A18, H⟩ := bS H; try dsimp only at H
       simp only [Option.some.injEq, Prod.mk.injEq] at H
       obtain ⟨rfl, rfl⟩ := H
       try go_wp2
       have _ := aM (blk_drew BK101.out)
       have _ := aM (below_drew1 HB.out)
       clear BK101
       clear HB
       rename_i BK101 HB
       have p104 : 0 ≤ (x9_1 : Int) := of_decide_eq_true z1200
       have q104 : x9_1 < (l0.length : Int) := of_decide_eq_true z1200
       obtain ⟨ad104, A104_1, c104_1, A104_8, c104_8, e104, hx104_0, hx104_1, hx104_2, hx104_3, hx104_4, hx104_5, hx104_6, hx104_7, hx104_8, hx104_9, hl104_1, hi104_1, hl104_8, hi104_8⟩ := at_T96 HR0.out x9_1 p104 q104
       have hw104_9 := hx104_9
       have hw104_8 := hx104_8
       have hw104_7 := hx104_7
       have hw104_6 := hx104_6
       have hw104_5 := hx104_5
       have hw104_4 := hx104_4
       have hw104_3 := hx104_3
       have hw104_2 := hx104_2
       have hw104_1 := hx104_1
       have hw104_0 := hx104_0
       cases e104
       have TW104_1 := aM hx104_1
       have TW104_8 := aM hx104_8
       replace hx104_0 := (HB.out.cell (World.block_lt_of_cell? w _ hx104_0)).trans hx104_0
       replace hx104_1 := (HB.out.cell (World.block_lt_of_cell? w _ hx104_1)).trans hx104_1
       replace hx104_2 := (HB.out.cell (World.block_lt_of_cell? w _ hx104_2)).trans hx104_2
       replace hx104_3 := (HB.out.cell (World.block_lt_of_cell? w _ hx104_3)).trans hx104_3
       replace hx104_4 := (HB.out.cell (World.block_lt_of_cell? w _ hx104_4)).trans hx104_4
       replace hx104_5 := (HB.out.cell (World.block_lt_of_cell? w _ hx104_5)).trans hx104_5
       replace hx104_6 := (HB.out.cell (World.block_lt_of_cell? w _ hx104_6)).trans hx104_6
       replace hx104_7 := (HB.out.cell (World.block_lt_of_cell? w _ hx104_7)).trans hx104_7
       replace hx104_8 := (HB.out.cell (World.block_lt_of_cell? w _ hx104_8)).trans hx104_8
       replace hx104_9 := (HB.out.cell (World.block_lt_of_cell? w _ hx104_9)).trans hx104_9
       have HR104_1 := aM hi104_1
       have HC104_1 := aM hl104_1
       clear hi104_1 hl104_1
       have HR104_8 := aM hi104_8
       have HC104_8 := aM hl104_8
       clear hi104_8 hl104_8
       replace p104 := eq_true p104
       replace q104 := eq_true q104
       refine sA 16 impl_Key_with_impl_LastTold_2.tab8 impl_Key_with_impl_LastTold_2.bits8 (fun w' => w'.cell? ⟨gb101, 0, none⟩ = some (.string a1_0) ∧ w'.cell? ⟨gb101, 1, none⟩ = some (.slice A1_1 l1_1.length c1_1) ∧ w'.cell? ⟨gb101, 2, none⟩ = some (.int .i64 a1_2) ∧ w'.cell? (ad104.add ((x9_1).toNat * 10)) = some (.string ((rd_T96 l0 x9_1).f0.f0)) ∧ w'.cell? ⟨(ad104.add ((x9_1).toNat * 10)).block, (ad104.add ((x9_1).toNat * 10)).off + 1, none⟩ = some (.slice A104_1 ((rd_T96 l0 x9_1).f0.f1).length c104_1) ∧ w'.cell? ⟨(ad104.add ((x9_1).toNat * 10)).block, (ad104.add ((x9_1).toNat * 10)).off + 2, none⟩ = some (.int .i64 ((rd_T96 l0 x9_1).f0.f2)) ∧ w'.cell? ⟨(ad104.add ((x9_1).toNat * 10)).block, (ad104.add ((x9_1).toNat * 10)).off + 3, none⟩ = some (.int .i64 ((rd_T96 l0 x9_1).f1)) ∧ w'.cell? ⟨(ad104.add ((x9_1).toNat * 10)).block, (ad104.add ((x9_1).toNat * 10)).off + 4, none⟩ = some (.int .i64 ((rd_T96 l0 x9_1).f2.f0)) ∧ w'.cell? ⟨(ad104.add ((x9_1).toNat * 10)).block, (ad104.add ((x9_1).toNat * 10)).off + 5, none⟩ = some (.int .i64 ((rd_T96 l0 x9_1).f2.f1)) ∧ w'.cell? ⟨(ad104.add ((x9_1).toNat * 10)).block, (ad104.add ((x9_1).toNat * 10)).off + 6, none⟩ = some (.int .i64 ((rd_T96 l0 x9_1).f2.f2)) ∧ w'.cell? ⟨(ad104.add ((x9_1).toNat * 10)).block, (ad104.add ((x9_1).toNat * 10)).off + 7, none⟩ = some (.int .i64 ((rd_T96 l0 x9_1).f2.f3)) ∧ w'.cell? ⟨(ad104.add ((x9_1).toNat * 10)).block, (ad104.add ((x9_1).toNat * 10)).off + 8, none⟩ = some (.slice A104_8 ((rd_T96 l0 x9_1).f2.f4).length c104_8) ∧ w'.cell? ⟨(ad104.add ((x9_1).toNat * 10)).block, (ad104.add ((x9_1).toNat * 10)).off + 9, none⟩ = some (.bool ((rd_T96 l0 x9_1).f2.f5))) [] (fun hHeld HT_ HW_ => ?_)
       generalize wr.drew = w19 at BK101 HB HR104_1 HR104_8 hx104_0 hx104_1 hx104_2 hx104_3 hx104_4 hx104_5 hx104_6 hx104_7 hx104_8 hx104_9 hHeld ⊢
       refine pA 0 35 HT_ ?_; refine pA 1 36 HT_ ?_; refine pA 2 37 HT_ ?_; refine pA 3 38 HT_ ?_; refine pA 4 39 HT_ ?_; refine pA 5 40 HT_ ?_; refine pA 6 41 HT_ ?_; refine pA 7 42 HT_ ?_; refine pA 8 43 HT_ ?_; refine tA 9 44 HT_ HW_ hHeld ?_; refine tA 10 45 HT_ HW_ hHeld ?_; refine oA 11 46 HT_ (fun K hK => ?_)
       refine goesV_ Tryd.func71 (by kernel_rfl) rfl #[.agg #[.string ((rd_T96 l0 x9_1).f0.f0), .slice A104_1 ((rd_T96 l0 x9_1).f0.f1).length c104_1, .int .i64 ((rd_T96 l0 x9_1).f0.f2), .int .i64 ((rd_T96 l0 x9_1).f1), .int .i64 ((rd_T96 l0 x9_1).f2.f0), .int .i64 ((rd_T96 l0 x9_1).f2.f1), .int .i64 ((rd_T96 l0 x9_1).f2.f2), .int .i64 ((rd_T96 l0 x9_1).f2.f3), .slice A104_8 ((rd_T96 l0 x9_1).f2.f4).length c104_8, .bool ((rd_T96 l0 x9_1).f2.f5)], .agg #[.string a1_0, .slice A1_1 l1_1.length c1_1, .int .i64 a1_2]] (by rfl) rfl rfl rfl zee81 ?_
       with_reducible refine (impl_LastTold_2.calls k1 ((rd_T96 l0 x9_1).f0.f0) _ _ ((rd_T96 l0 x9_1).f0.f1) ((rd_T96 l0 x9_1).f0.f2) ((rd_T96 l0 x9_1).f1) ((rd_T96 l0 x9_1).f2.f0) ((rd_T96 l0 x9_1).f2.f1) ((rd_T96 l0 x9_1).f2.f2) ((rd_T96 l0 x9_1).f2.f3) _ _ ((rd_T96 l0 x9_1).f2.f4) ((rd_T96 l0 x9_1).f2.f5) a1_0 _ _ l1_1 a1_2 t105 _ ?side1 ?side2 ?side3 ?side4 ?side5 ?side6 A18.out).mono ?_
       (case side1 => exact (cZ (Kd.C_below HR104_1.out HB.out)))
       (case side2 => exact HC104_1.out)
       (case side3 => exact (cZ (Kd.C_below HR104_8.out HB.out)))
       (case side4 => exact HC104_8.out)
       (case side5 => exact (cZ (Kd.C_below HR1_1.out HB.out)))
       (case side6 => exact HC1_1.out)
       rintro e w20 ⟨rfl, hb⟩
       refine ⟨_, rfl, ?_⟩
       have _ := bB gb101 hb
       have _ := aM (below_step hbZ hb)
       clear BK101
       clear HB
       rename_i BK101 HB
       (try clear hb)
       refine hK.out _ _ sZ (fun hHeld => ?_)
       clear hK K
       refine nA 46 ?_; refine pA 12 47 HT_ ?_; refine pA 13 48 HT_ ?_; refine pA 14 6 HT_ ?_; refine pA 15 7 HT_ ?_
       refine done_ (done_of HT_.out (by kernel_rfl)) ?_
       try go_wp2
       go_ret2
       exact ⟨z674d, zcb41⟩
     · rw [if_neg c15] at H
       have c15b0 := nL c15
       clear c15
       simp only [Option.some.injEq, Prod.mk.injEq] at H
       obtain ⟨rfl, rfl⟩ := H
       try go_wp2
       have _ := aM (blk_drew BK101.out)
       have _ := aM (below_drew1 HB.out)
       clear BK101
       clear HB
       rename_i BK101 HB
       refine sA 16 impl_Key_with_impl_LastTold_2.tab8 impl_Key_with_impl_LastTold_2.bits8 (fun w' => True) [] (fun hHeld HT_ HW_ => ?_)
       generalize wr.drew = w21 at BK101 HB hHeld ⊢
       refine pA 0 35 HT_ ?_; refine pA 1 36 HT_ ?_; refine pA 2 37 HT_ ?_; refine pA 3 38 HT_ ?_; refine pA 4 39 HT_ ?_; refine uA 5 40 HT_ ?_; refine uA 6 41 HT_ ?_; refine uA 7 42 HT_ ?_; refine uA 8 43 HT_ ?_; refine uA 9 44 HT_ ?_; refine uA 10 45 HT_ ?_; refine uA 11 46 HT_ ?_; refine uA 12 47 HT_ ?_; refine pA 13 48 HT_ ?_; refine pA 14 6 HT_ ?_; refine pA 15 7 HT_ ?_
       refine done_ (done_of HT_.out (by kernel_rfl)) ?_
       try go_wp2
       go_ret2
       exact ⟨z674d, zcb41⟩

end Go.Proofs.YtkgmoajdcibafaaDoor.P

section
/- impl.LastTold: of each key the last that was told. No conditions of its own. -/
set_option linter.unusedVariables false
set_option linter.unusedSimpArgs false
namespace Go.Proofs.YtkgmoajdcibafaaDoor.P
open Go Go.RowKit Go.Proofs.YtkgmoajdcibafaaDoorW.PrintWords Go.Proofs.YtkgmoajdcibafaaDoorW.PrintLast Go.Proofs.YtkgmoajdcibafaaDoorW.PrintMore
attribute [local go_sem] max2_int min2_int max_two min_two max_three min_three max_four min_four str_geq str_gtr str_leq
def stepD (k : Nat) (o : List S96) (x : S96) : Option (List S96) :=
  (impl_Key_with_impl_LastTold_2.f k o x.f0.f0 x.f0.f1 x.f0.f2).bind fun t => if t.2 = true then (if 0 ≤ t.1 ∧ t.1 < (o.length : Int) then some (if (rd_T96 o t.1).f1 ≤ x.f1 then o.set t.1.toNat x else o) else none) else (if 0 ≤ t.1 ∧ t.1 ≤ (o.length : Int) then some (o.take t.1.toNat ++ [x] ++ o.drop t.1.toNat) else none)
def impl_LastTold.l0 (k : Nat) : List S96 → List S96 → Option (List S96)
  | [], o => some o
  | x :: xs, o => (stepD k o x).bind fun q => impl_LastTold.l0 k xs q
def shortsD (l : List S96) : Bool := l.all (fun x => decide (x.f0.f1.length ≤ 1048576) && decide (x.f2.f4.length ≤ 1048576))
def impl_LastTold.f (k : Nat) (l : List S96) : Option (List S96 × Bool) := if (l.length : Int) > 200 then some ([], false) else (impl_Told_with_impl_LastTold_1_10066067.f k l).bind fun t => if t = true then some ([], false) else (if shortsD l = true then (impl_LastTold.l0 k l []).bind fun r => some (r, true) else none)
theorem rdD_at {l : List S96} {i : Nat} (h : i < l.length) : rd_T96 l (i : Int) = l[i] := by
  unfold rd_T96
  rw [Int.toNat_natCast, List.getD_eq_getElem?_getD, List.getElem?_eq_getElem h]
  rfl
theorem shortsD_at {l : List S96} (h : shortsD l = true) {i : Nat} (hi : i < l.length) : (rd_T96 l (i : Int)).f0.f1.length ≤ 1048576 ∧ (rd_T96 l (i : Int)).f2.f4.length ≤ 1048576 := by
  have h2 := List.all_eq_true.1 h l[i] (List.getElem_mem hi)
  rw [Bool.and_eq_true] at h2
  rw [rdD_at hi]
  exact ⟨of_decide_eq_true h2.1, of_decide_eq_true h2.2⟩
theorem cloneTagsD_ok {l : List S123} (h : l.length ≤ 1048576) : impl_Tag_101.f l = some l := by
  unfold impl_Tag_101.f
  rw [Option.bind_some, if_pos (by rw [List.length_nil]; omega), List.nil_append]
theorem cloneIntsD_ok {l : List Int} (h : l.length ≤ 1048576) : slices_Clone_int_int.f l = some l := by
  unfold slices_Clone_int_int.f
  rw [Option.bind_some, if_pos (by rw [List.length_nil]; omega), List.nil_append]
theorem keyClonedD_ok (m : ByteArray) {t : List S123} (h : t.length ≤ 1048576) (s : Int) : impl_Key_cloned.f m t s = some (m, t, s) := by
  unfold impl_Key_cloned.f
  rw [cloneTagsD_ok h, Option.bind_some]
theorem stepD_len {k : Nat} {o q : List S96} {x : S96} (h : stepD k o x = some q) : q.length ≤ o.length + 1 := by
  obtain ⟨⟨j, t⟩, _, h⟩ := Option.bind_eq_some_iff.1 h
  cases t with
  | true =>
    simp only [if_true] at h
    obtain ⟨_, h⟩ := ifS h
    simp only [Option.some.injEq] at h
    subst h
    split <;> simp
  | false =>
    simp only [Bool.false_eq_true, if_false] at h
    obtain ⟨_, h⟩ := ifS h
    simp only [Option.some.injEq] at h
    subst h
    simp only [List.length_append, List.length_take, List.length_drop, List.length_cons, List.length_nil]
    omega
set_option maxHeartbeats 8000000 in
set_option maxRecDepth 100000 in
theorem impl_LastTold.calls (k : Nat) (A0 : Option Addr) (c0 : Nat) (l0 : List S96) (r1 : List S96) (r2 : Bool) (w : World) (hr0 : Kd.C k96 w A0 l0.length l0) (hc0 : l0.length ≤ c0) (h : impl_LastTold.f k l0 = some (r1, r2)) :
 Calls Tryd.prog 27 #[.slice A0 l0.length c0] w fun e w' => ∃ v0_ : Value, e = .returned (.tuple #[v0_, .bool r2]) ∧ Kd.S k96 96 w' w.heap.size (fun _ => True) v0_ r1 ∧ Below w.heap.size w w' := by
  have hu := Tryd.underlying96
  have hu2 := Tryd.underlying32
  have hu3 := Tryd.underlying35
  have HR := aM hr0
  have HC := aM hc0
  have HB := aM (Below.refl w.heap.size w)
  clear hr0 hc0
  unfold impl_LastTold.f at h
  by_cases c2 : (l0.length : Int) > 200
  · rw [if_pos c2] at h
    have c2b0 : decide (200 < (l0.length : Int)) = true := decide_eq_true c2
    have c2b1 : decide (200 < l0.length) = true := decide_eq_true (by omega)
    clear c2
    simp only [Option.some.injEq, Prod.mk.injEq] at h
    obtain ⟨rfl, rfl⟩ := h
    go_enter Tryd.func27, Tryd.ntmps27
    go_wp2
    go_ret2
    exact ⟨_, rfl, Kd.S_nil _ _ _ _ _, HB.out⟩
  rw [if_neg c2] at h
  have c2b0 : decide (200 < (l0.length : Int)) = false := decide_eq_false c2
  have c2b1 : decide (200 < l0.length) = false := decide_eq_false (by omega)
  have HBIG := aM (show l0.length ≤ 200 by omega)
  clear c2
  obtain ⟨t, e1, h⟩ := Option.bind_eq_some_iff.1 h
  have E1 := aM e1
  clear e1
  cases t with
  | true =>
    simp only [if_true, Option.some.injEq, Prod.mk.injEq] at h
    obtain ⟨rfl, rfl⟩ := h
    go_enter Tryd.func27, Tryd.ntmps27
    go_wp2_with (first | (go_at_call 66; (with_reducible refine (impl_Told_with_impl_LastTold_1_10066067.calls k _ _ l0 true _ (Kd.C_below HR.out HB.out) HC.out E1.out).mono ?_); rintro e w1 ⟨rfl, hb⟩; replace HB := aM (below_after HB.out hb); clear hb))
    go_ret2
    exact ⟨_, rfl, Kd.S_nil _ _ _ _ _, HB.out⟩
  | false =>
    simp only [Bool.false_eq_true, if_false] at h
    have hj := ifS h
    clear h
    obtain ⟨hsh, h1⟩ := hj
    obtain ⟨r, e2, h1⟩ := Option.bind_eq_some_iff.1 h1
    simp only [Option.some.injEq, Prod.mk.injEq] at h1
    obtain ⟨rfl, rfl⟩ := h1
    have HSH := aM hsh
    have E2 := aM e2
    clear hsh e2
    go_enter Tryd.func27, Tryd.ntmps27
    go_upto_region 4 with (first | (go_at_call 66; (with_reducible refine (impl_Told_with_impl_LastTold_1_10066067.calls k _ _ l0 false _ (Kd.C_below HR.out HB.out) HC.out E1.out).mono ?_); rintro e w1 ⟨rfl, hb⟩; replace HB := aM (below_after HB.out hb); clear hb) | ((with_reducible refine gate_dst (N := 16) rfl ?_); refine Kd.S_lit k96 (w0 := w) w.heap.size 96 ?hg (N := 16) ?hd (xs := ([] : List S96)) (inner := []) (ok := fun _ => True) (okp := fun _ => False) ?hr (Reps.none _ _) (fun _ h => h.elim) trivial HB.out HB.out.size (by decide) ?_; (case hd => rfl); (case hg => rfl); (case hr => first | (go_simp; done) | (go_simp; rfl)); intro v4 w5 hs hb0 hg_ hat; have SG := aM hs; replace HB := aM hb0; clear hs hb0 hg_ hat))
    clear c2b0 c2b1
    go_wp2_with fail
    go_loopg [19, 4] l0.length (fun kq v19 v4 w' => ∃ (i : Nat) (o : List S96), v19 = .int .i64 i ∧ Aside0 (i + kq = l0.length) ∧ Aside0 (o.length ≤ i) ∧ Aside0 (impl_LastTold.l0 k (l0.drop i) o = some r) ∧ Aside0 (Kd.S k96 96 w' w.heap.size (fun _ => True) v4 o) ∧ Aside0 (Below w.heap.size w w'))
    case atStart => exact ⟨0, [], rfl, ⟨Nat.zero_add _⟩, ⟨Nat.le_refl _⟩, ⟨E2.out⟩, SG, HB⟩
    case round =>
      clear HB SG E2
      obtain ⟨i, o, rfl, HI, HLN, E2, SK, HB⟩ := hrel
      obtain ⟨A4, c4, rfl, hlc, hC⟩ := Kd.S_reads SK.out
      have HLo := aM hlc
      clear hlc hC
      cases gk with
      | zero =>
        have hi : i = l0.length := by have := HI.out; omega
        subst hi
        have hd : decide ((l0.length : Int) < (l0.length : Int)) = false := decide_eq_false (by omega)
        have hdn : decide (l0.length < l0.length) = false := decide_eq_false (by omega)
        have h2 := E2.out
        rw [List.drop_length] at h2
        simp only [impl_LastTold.l0, Option.some.injEq] at h2
        subst h2
        clear HI E2
        go_wp2
        go_ret2
        exact ⟨_, rfl, SK.out, HB.out⟩
      | succ kk =>
        have hlt : i < l0.length := by have := HI.out; omega
        have HLT := aM hlt
        obtain ⟨ad, A1, c1, A8, c8, hA, hx0, hx1, hx2, hx3, hx4, hx5, hx6, hx7, hx8, hx9, hl1, hi1, hl8, hi8⟩ := at_T96 HR.out (i : Int) (by omega) (by omega)
        have hsx := shortsD_at HSH.out hlt
        have h2 := E2.out
        rw [List.drop_eq_getElem_cons hlt, ← rdD_at hlt] at h2
        obtain ⟨q, e3, e4⟩ := Option.bind_eq_some_iff.1 h2
        subst hA
        simp only [Int.toNat_natCast] at hx0 hx1 hx2 hx3 hx4 hx5 hx6 hx7 hx8 hx9
        replace hx0 := (HB.out.cell (World.block_lt_of_cell? _ _ hx0)).trans hx0
        replace hx1 := (HB.out.cell (World.block_lt_of_cell? _ _ hx1)).trans hx1
        replace hx2 := (HB.out.cell (World.block_lt_of_cell? _ _ hx2)).trans hx2
        replace hx3 := (HB.out.cell (World.block_lt_of_cell? _ _ hx3)).trans hx3
        replace hx4 := (HB.out.cell (World.block_lt_of_cell? _ _ hx4)).trans hx4
        replace hx5 := (HB.out.cell (World.block_lt_of_cell? _ _ hx5)).trans hx5
        replace hx6 := (HB.out.cell (World.block_lt_of_cell? _ _ hx6)).trans hx6
        replace hx7 := (HB.out.cell (World.block_lt_of_cell? _ _ hx7)).trans hx7
        replace hx8 := (HB.out.cell (World.block_lt_of_cell? _ _ hx8)).trans hx8
        replace hx9 := (HB.out.cell (World.block_lt_of_cell? _ _ hx9)).trans hx9
        clear h2 E2
        generalize rd_T96 l0 (i : Int) = x at *
        have E4 := aM e4
        have HQL := aM (stepD_len e3)
        obtain ⟨⟨j, t⟩, ef, h3⟩ := Option.bind_eq_some_iff.1 e3
        have EF := aM ef
        have H3 := aM h3
        have HI1 := aM hi1
        have HI8 := aM hi8
        have HL1 := aM hl1
        have HL8 := aM hl8
        have EK := aM (keyClonedD_ok x.f0.f0 hsx.1 x.f0.f2)
        have EH := aM (cloneIntsD_ok hsx.2)
        have hi0 : (0 : Int) ≤ (i : Int) := Int.natCast_nonneg i
        have hil : (i : Int) < (l0.length : Int) := by omega
        have hd : decide ((i : Int) < (l0.length : Int)) = true := decide_eq_true hil
        have hdn : decide (i < l0.length) = true := decide_eq_true hlt
        have hiw : IntKind.i64.wrap ((i : Int) + 1) = (i : Int) + 1 := by rw [IntKind.wrap_i64]; have := HBIG.out; omega
        clear hsx hi1 hi8 hl1 hl8 e3 e4 ef h3 hlt
        go_upto_region 7 with (first | ((with_reducible refine gate_dst (N := 6) rfl ?_); refine bX 6 96 #[.string (⟨#[]⟩ : ByteArray), .slice none 0 0, .int .i64 0, .int .i64 0, .int .i64 0, .int .i64 0, .int .i64 0, .int .i64 0, .slice none 0 0, .bool false] ?_; intro bT hg w8 hbox hb; have XT := aM hbox; have GT := aM hg; have BT := aM hb; replace hx0 := (hb.cell (World.block_lt_of_cell? _ _ hx0)).trans hx0; replace hx1 := (hb.cell (World.block_lt_of_cell? _ _ hx1)).trans hx1; replace hx2 := (hb.cell (World.block_lt_of_cell? _ _ hx2)).trans hx2; replace hx3 := (hb.cell (World.block_lt_of_cell? _ _ hx3)).trans hx3; replace hx4 := (hb.cell (World.block_lt_of_cell? _ _ hx4)).trans hx4; replace hx5 := (hb.cell (World.block_lt_of_cell? _ _ hx5)).trans hx5; replace hx6 := (hb.cell (World.block_lt_of_cell? _ _ hx6)).trans hx6; replace hx7 := (hb.cell (World.block_lt_of_cell? _ _ hx7)).trans hx7; replace hx8 := (hb.cell (World.block_lt_of_cell? _ _ hx8)).trans hx8; replace hx9 := (hb.cell (World.block_lt_of_cell? _ _ hx9)).trans hx9; clear hg hbox hb; have hzT := cellsZ10 XT.out))
        have HO := aM (show Only w8 ((((((((((w8.setCell ⟨bT, 0, none⟩ (.string x.f0.f0)).setCell ⟨bT, 1, none⟩ (.slice A1 x.f0.f1.length c1)).setCell ⟨bT, 2, none⟩ (.int .i64 x.f0.f2)).setCell ⟨bT, 3, none⟩ (.int .i64 x.f1)).setCell ⟨bT, 4, none⟩ (.int .i64 x.f2.f0)).setCell ⟨bT, 5, none⟩ (.int .i64 x.f2.f1)).setCell ⟨bT, 6, none⟩ (.int .i64 x.f2.f2)).setCell ⟨bT, 7, none⟩ (.int .i64 x.f2.f3)).setCell ⟨bT, 8, none⟩ (.slice A8 x.f2.f4.length c8)).setCell ⟨bT, 9, none⟩ (.bool x.f2.f5)) bT from by repeat (first | (with_reducible apply Only.set) | exact Only.refl _ _))
        have YT := aM (show ((((((((((w8.setCell ⟨bT, 0, none⟩ (.string x.f0.f0)).setCell ⟨bT, 1, none⟩ (.slice A1 x.f0.f1.length c1)).setCell ⟨bT, 2, none⟩ (.int .i64 x.f0.f2)).setCell ⟨bT, 3, none⟩ (.int .i64 x.f1)).setCell ⟨bT, 4, none⟩ (.int .i64 x.f2.f0)).setCell ⟨bT, 5, none⟩ (.int .i64 x.f2.f1)).setCell ⟨bT, 6, none⟩ (.int .i64 x.f2.f2)).setCell ⟨bT, 7, none⟩ (.int .i64 x.f2.f3)).setCell ⟨bT, 8, none⟩ (.slice A8 x.f2.f4.length c8)).setCell ⟨bT, 9, none⟩ (.bool x.f2.f5)).heap[bT]? = some (.cells #[.string x.f0.f0, .slice A1 x.f0.f1.length c1, .int .i64 x.f0.f2, .int .i64 x.f1, .int .i64 x.f2.f0, .int .i64 x.f2.f1, .int .i64 x.f2.f2, .int .i64 x.f2.f3, .slice A8 x.f2.f4.length c8, .bool x.f2.f5] 96 (0, 0)) from by with_reducible exact blk_put10 XT.out)
        generalize (((((((((w8.setCell ⟨bT, 0, none⟩ (.string x.f0.f0)).setCell ⟨bT, 1, none⟩ (.slice A1 x.f0.f1.length c1)).setCell ⟨bT, 2, none⟩ (.int .i64 x.f0.f2)).setCell ⟨bT, 3, none⟩ (.int .i64 x.f1)).setCell ⟨bT, 4, none⟩ (.int .i64 x.f2.f0)).setCell ⟨bT, 5, none⟩ (.int .i64 x.f2.f1)).setCell ⟨bT, 6, none⟩ (.int .i64 x.f2.f2)).setCell ⟨bT, 7, none⟩ (.int .i64 x.f2.f3)).setCell ⟨bT, 8, none⟩ (.slice A8 x.f2.f4.length c8)).setCell ⟨bT, 9, none⟩ (.bool x.f2.f5) = w9 at YT HO ⊢
        have B9 := aM (below_only BT.out (Nat.le_of_eq GT.out.symm) HO.out)
        have HWR := aM (show wr.heap.size ≤ w9.heap.size from B9.out.size)
        clear hzT XT BT HO hx0 hx1 hx2 hx3 hx4 hx5 hx6 hx7 hx8 hx9
        have hbT := blk_lt YT.out
        obtain ⟨B0, hB0⟩ : ∃ B0, B0 = w9.heap.size := ⟨_, rfl⟩
        have NB := aM (show bT < B0 by omega)
        have HB0' := aM (show B0 ≤ w9.heap.size by omega)
        have GT2 := aM (show wr.heap.size ≤ bT by have := GT.out; omega)
        have GTW := aM (show w.heap.size ≤ bT from Nat.le_trans HB.out.size GT2.out)
        rw [← hB0] at HWR
        clear hB0 hbT GT
        replace SK := aM (Kd.S_old SK.out B9.out)
        replace HB := aM (below_after HB.out B9.out)
        clear B9
        have hzT := cellsZ10 YT.out
        go_upto_region 8 with (first | ((with_reducible refine gate_callee (f := 68) rfl ?_); refine gL 25 Tryd.func68 #[.agg #[.string x.f0.f0, .slice A1 x.f0.f1.length c1, .int .i64 x.f0.f2]] ?_; (with_reducible refine (impl_Key_cloned.calls x.f0.f0 _ _ x.f0.f1 x.f0.f2 x.f0.f0 x.f0.f1 x.f0.f2 _ (Kd.C_below HI1.out HB.out) HL1.out EK.out).mono ?_); rintro e w10 ⟨v1, rfl, ho, hb⟩; refine ⟨_, rfl, ?_⟩; obtain ⟨Ak, ck, rfl⟩ := Kd.R_slice ho; have KR := aM (Kd.R_mono (Kd.R_lower (Kd.R_bound ho) HB.out.size) (fun k hk => hk.2.1)); replace SK := aM (Kd.S_below SK.out hb); replace YT := aM (blk_below YT.out hb); replace HB := aM (below_after HB.out hb); have H10 := aM hb.size; clear hzT hb ho; have hzT := cellsZ10 YT.out))
        have HO := aM (show Only w10 (((w10.setCell ⟨bT, 0, none⟩ (.string x.f0.f0)).setCell ⟨bT, 1, none⟩ (.slice Ak x.f0.f1.length ck)).setCell ⟨bT, 2, none⟩ (.int .i64 x.f0.f2)) bT from by repeat (first | (with_reducible apply Only.set) | exact Only.refl _ _))
        have ZT := aM (show (((w10.setCell ⟨bT, 0, none⟩ (.string x.f0.f0)).setCell ⟨bT, 1, none⟩ (.slice Ak x.f0.f1.length ck)).setCell ⟨bT, 2, none⟩ (.int .i64 x.f0.f2)).heap[bT]? = some (.cells #[.string x.f0.f0, .slice Ak x.f0.f1.length ck, .int .i64 x.f0.f2, .int .i64 x.f1, .int .i64 x.f2.f0, .int .i64 x.f2.f1, .int .i64 x.f2.f2, .int .i64 x.f2.f3, .slice A8 x.f2.f4.length c8, .bool x.f2.f5] 96 (0, 0)) from blk_set (blk_set (blk_set YT.out 0 _) 1 _) 2 _)
        generalize ((w10.setCell ⟨bT, 0, none⟩ (.string x.f0.f0)).setCell ⟨bT, 1, none⟩ (.slice Ak x.f0.f1.length ck)).setCell ⟨bT, 2, none⟩ (.int .i64 x.f0.f2) = w11 at ZT HO ⊢
        replace SK := aM (Kd.S_step SK.out (fun k hk _ => HO.out.2.2.2.2 k (fun he => by have h1 := hk.2; have h2 := GT2.out; omega)))
        replace KR := aM (Kd.R_mono (ok' := fun k => B0 ≤ k) (Kd.R_step KR.out (fun k hk _ => HO.out.2.2.2.2 k (fun he => by have h1 := Nat.le_trans HB0'.out hk; have h2 := NB.out; omega))) (fun k hk => Nat.le_trans HB0'.out hk))
        replace HB := aM (below_only HB.out GTW.out HO.out)
        have H11 := aM (show B0 ≤ w11.heap.size from Nat.le_trans (Nat.le_trans HB0'.out H10.out) (Nat.le_of_eq HO.out.2.2.2.1.symm))
        clear HO YT H10 HB0' hzT
        have YT := ZT
        clear ZT
        have hzT := cellsZ10 YT.out
        go_upto_region 9 with (first | ((with_reducible refine gate_callee (f := 69) rfl ?_); refine gL 30 Tryd.func69 #[.slice A8 x.f2.f4.length c8] ?_; (with_reducible refine (slices_Clone_int_int.calls A8 c8 x.f2.f4 x.f2.f4 _ (Kd.C_below HI8.out HB.out) HL8.out EH.out).mono ?_); rintro e w12 ⟨v1, rfl, ho, hb⟩; refine ⟨_, rfl, ?_⟩; obtain ⟨Ah, ch, rfl⟩ := Kd.R_slice ho; have KH := aM (Kd.R_mono (Kd.R_lower (Kd.R_bound ho) HB.out.size) (fun k hk => hk.2.1)); replace SK := aM (Kd.S_below SK.out hb); replace YT := aM (blk_below YT.out hb); replace KR := aM (Kd.R_below KR.out hb); replace HB := aM (below_after HB.out hb); have H12 := aM hb.size; clear hzT hb ho; have hzT := cellsZ10 YT.out))
        have HO := aM (show Only w12 (w12.setCell ⟨bT, 8, none⟩ (.slice Ah x.f2.f4.length ch)) bT from by repeat (first | (with_reducible apply Only.set) | exact Only.refl _ _))
        have ZT := aM (show (w12.setCell ⟨bT, 8, none⟩ (.slice Ah x.f2.f4.length ch)).heap[bT]? = some (.cells #[.string x.f0.f0, .slice Ak x.f0.f1.length ck, .int .i64 x.f0.f2, .int .i64 x.f1, .int .i64 x.f2.f0, .int .i64 x.f2.f1, .int .i64 x.f2.f2, .int .i64 x.f2.f3, .slice Ah x.f2.f4.length ch, .bool x.f2.f5] 96 (0, 0)) from blk_set YT.out 8 _)
        generalize w12.setCell ⟨bT, 8, none⟩ (.slice Ah x.f2.f4.length ch) = w13 at ZT HO ⊢
        replace SK := aM (Kd.S_step SK.out (fun k hk _ => HO.out.2.2.2.2 k (fun he => by have h1 := hk.2; have h2 := GT2.out; omega)))
        replace KR := aM (Kd.R_step KR.out (fun k hk _ => HO.out.2.2.2.2 k (fun he => by have h2 := NB.out; omega)))
        replace KH := aM (Kd.R_mono (ok' := fun k => B0 ≤ k) (Kd.R_step KH.out (fun k hk _ => HO.out.2.2.2.2 k (fun he => by have h1 := Nat.le_trans H11.out hk; have h2 := NB.out; omega))) (fun k hk => Nat.le_trans H11.out hk))
        replace HB := aM (below_only HB.out GTW.out HO.out)
        have H13 := aM (show B0 ≤ w13.heap.size from Nat.le_trans (Nat.le_trans H11.out H12.out) (Nat.le_of_eq HO.out.2.2.2.1.symm))
        clear HO YT H11 H12 hzT
        have YT := ZT
        clear ZT
        have hzT := cellsZ10 YT.out
        cases t with
        | false =>
          have h3 := H3.out
          simp only [Bool.false_eq_true, if_false] at h3
          obtain ⟨⟨hj0, hj1⟩, h3⟩ := ifS h3
          simp only [Option.some.injEq] at h3
          subst h3
          obtain ⟨n, rfl⟩ := Int.eq_ofNat_of_zero_le hj0
          have HN := aM (show n ≤ o.length by omega)
          clear hj0 hj1 H3
          go_wp2_with (first | ((with_reducible refine gate_callee (f := 70) rfl ?_); refine gL 37 Tryd.func70 #[.slice A4 o.length c4, .agg #[.string x.f0.f0, .slice Ak x.f0.f1.length ck, .int .i64 x.f0.f2], .func (.func 71) #[] #[]] ?_; (with_reducible refine (impl_Key_with_impl_LastTold_2.calls k _ _ o x.f0.f0 _ _ x.f0.f1 x.f0.f2 _ false _ (Kd.S_reads' SK.out).2.2 HLo.out (Kd.R_reads' KR.out).2.2 (Kd.R_reads' KR.out).2.1 EF.out).mono ?_); rintro e w14 ⟨rfl, hb⟩; refine ⟨_, rfl, ?_⟩; replace SK := aM (Kd.S_below SK.out hb); replace YT := aM (blk_below YT.out hb); replace KR := aM (Kd.R_below KR.out hb); replace KH := aM (Kd.R_below KH.out hb); replace HB := aM (below_after HB.out hb); have H14 := aM hb.size; clear hzT hb; have hzT := cellsZ10 YT.out) | ((with_reducible refine gate_dst (N := 46) rfl ?_); refine Kd.S_lit1 (base' := w.heap.size) k96 _ 96 ?hg (N := 46) ?hd (xs := [x]) (inner := [.string x.f0.f0, .slice Ak x.f0.f1.length ck, .int .i64 x.f0.f2, .int .i64 x.f1, .int .i64 x.f2.f0, .int .i64 x.f2.f1, .int .i64 x.f2.f2, .int .i64 x.f2.f3, .slice Ah x.f2.f4.length ch, .bool x.f2.f5]) (ok := fun k_ => B0 ≤ k_) (okp := fun k_ => B0 ≤ k_) ?hr ?hp (fun _ hk => hk) (Nat.le_trans H13.out H14.out) (Below.refl _ _) (Nat.le_refl _) (by simp) ?_ HB.out.size; (case hd => rfl); (case hg => rfl); (case hr => first | (go_simp; done) | (go_simp; rfl)); (case hp => exact Reps.c10 (k96_mkM _ _ _ x KR.out KH.out) (Reps.none _ _)); intro u w15 hs hb hg_ hat; clear hg_ hat; obtain ⟨Au, cu, rfl⟩ := Kd.S_slice hs; have HU := aM hs; replace SK := aM (Kd.S_below SK.out hb); replace HB := aM (below_after HB.out hb); clear hzT hs hb YT) | ((with_reducible refine gate_callee (f := 73) rfl ?_); refine gL 47 Tryd.func73 #[.slice A4 o.length c4, .int .i64 n, .slice Au 1 cu] ?_; (refine (insD_row n SK.out HU.out (fun k hk hk2 => by have h1 := hk.2; have h2 := HWR.out; omega) HN.out HB.out.size (by have h1 := HLN.out; have h2 := HBIG.out; have h3 := HLT.out; omega)).mono ?_); rintro e w16 ⟨v1, rfl, hs2, hg2⟩; refine ⟨_, rfl, ?_⟩; have HS2 := aM hs2; have HB2 := aM (pw_below_grown HB.out _ HB.out.size hg2 (Kd.S_base SK.out)); clear hg2 hs2))
          go_roundg kk
          case rel => exact ⟨i + 1, _, by go_num, ⟨by have := HI.out; omega⟩, ⟨by have h1 := HQL.out; have h2 := HLN.out; omega⟩, E4, ⟨Kd.S_mono HS2.out (fun _ _ => trivial)⟩, HB2⟩
          case measure => exact Nat.lt_succ_self _
        | true =>
          have h3 := H3.out
          simp only [if_true] at h3
          obtain ⟨⟨hj0, hj1⟩, h3⟩ := ifS h3
          simp only [Option.some.injEq] at h3
          obtain ⟨n, rfl⟩ := Int.eq_ofNat_of_zero_le hj0
          have hn : n < o.length := by omega
          have HN := aM hn
          go_upto_region 12 with (first | ((with_reducible refine gate_callee (f := 70) rfl ?_); refine gL 37 Tryd.func70 #[.slice A4 o.length c4, .agg #[.string x.f0.f0, .slice Ak x.f0.f1.length ck, .int .i64 x.f0.f2], .func (.func 71) #[] #[]] ?_; (with_reducible refine (impl_Key_with_impl_LastTold_2.calls k _ _ o x.f0.f0 _ _ x.f0.f1 x.f0.f2 _ true _ (Kd.S_reads' SK.out).2.2 HLo.out (Kd.R_reads' KR.out).2.2 (Kd.R_reads' KR.out).2.1 EF.out).mono ?_); rintro e w14 ⟨rfl, hb⟩; refine ⟨_, rfl, ?_⟩; replace SK := aM (Kd.S_below SK.out hb); replace YT := aM (blk_below YT.out hb); replace KR := aM (Kd.R_below KR.out hb); replace KH := aM (Kd.R_below KH.out hb); replace HB := aM (below_after HB.out hb); have H14 := aM hb.size; clear hzT hb; have hzT := cellsZ10 YT.out))
          rcases S_shape SK.out with ⟨_, hl0, _, _⟩ | ⟨g, rfl⟩
          · omega
          obtain ⟨B1, d1, B8, d8, ⟨hc0, hc1, hc2, hc3, hc4, hc5, hc6, hc7, hc8, hc9⟩, hfr⟩ := elemD_out SK.out hn
          have hf0 := hfr 0
          simp only [Nat.add_zero] at hf0
          have hf1 := hfr 1
          have hf2 := hfr 2
          have hf3 := hfr 3
          have hf4 := hfr 4
          have hf5 := hfr 5
          have hf6 := hfr 6
          have hf7 := hfr 7
          have hf8 := hfr 8
          have hf9 := hfr 9
          by_cases hle : (rd_T96 o (n : Int)).f1 ≤ x.f1
          · have hd3 : decide ((rd_T96 o (n : Int)).f1 ≤ x.f1) = true := decide_eq_true hle
            rw [if_pos hle] at h3
            subst h3
            go_wp2_with fail
            go_quiet (fail)
            have hbN : Below w14.heap.size w14 (w14.drewN nq) := pw_below_drewN (Below.refl _ _) _
            replace SK := aM (Kd.S_below SK.out hbN)
            replace HB := aM (below_after HB.out hbN)
            replace YT := aM (blk_below YT.out hbN)
            replace KR := aM (Kd.R_below KR.out hbN)
            replace KH := aM (Kd.R_below KH.out hbN)
            clear hbN hzT hc0 hc1 hc2 hc3 hc4 hc5 hc6 hc7 hc8 hc9 hf0 hf1 hf2 hf3 hf4 hf5 hf6 hf7 hf8 hf9 hfr
            generalize w14.drewN nq = w15 at SK HB YT KR KH ⊢
            have hzT := cellsZ10 YT.out
            obtain ⟨B1, d1, B8, d8, ⟨hc0, hc1, hc2, hc3, hc4, hc5, hc6, hc7, hc8, hc9⟩, hfr⟩ := elemD_out SK.out HN.out
            have hf0 := hfr 0
            simp only [Nat.add_zero] at hf0
            have hf1 := hfr 1
            have hf2 := hfr 2
            have hf3 := hfr 3
            have hf4 := hfr 4
            have hf5 := hfr 5
            have hf6 := hfr 6
            have hf7 := hfr 7
            have hf8 := hfr 8
            have hf9 := hfr 9
            go_upto_region 14 with fail
            have SK2 := aM (elemD_put SK.out HN.out KR.out KH.out (fun k hk h2 => by have h3 := h2.2; have h4 := HWR.out; omega))
            have HO := aM (show Only w15 ((((((((((w15.setCell ⟨g, n * 10, none⟩ (.string x.f0.f0)).setCell ⟨g, n * 10 + 1, none⟩ (.slice Ak x.f0.f1.length ck)).setCell ⟨g, n * 10 + 2, none⟩ (.int .i64 x.f0.f2)).setCell ⟨g, n * 10 + 3, none⟩ (.int .i64 x.f1)).setCell ⟨g, n * 10 + 4, none⟩ (.int .i64 x.f2.f0)).setCell ⟨g, n * 10 + 5, none⟩ (.int .i64 x.f2.f1)).setCell ⟨g, n * 10 + 6, none⟩ (.int .i64 x.f2.f2)).setCell ⟨g, n * 10 + 7, none⟩ (.int .i64 x.f2.f3)).setCell ⟨g, n * 10 + 8, none⟩ (.slice Ah x.f2.f4.length ch)).setCell ⟨g, n * 10 + 9, none⟩ (.bool x.f2.f5)) g from by repeat (first | (with_reducible apply Only.set) | exact Only.refl _ _))
            generalize (((((((((w15.setCell ⟨g, n * 10, none⟩ (.string x.f0.f0)).setCell ⟨g, n * 10 + 1, none⟩ (.slice Ak x.f0.f1.length ck)).setCell ⟨g, n * 10 + 2, none⟩ (.int .i64 x.f0.f2)).setCell ⟨g, n * 10 + 3, none⟩ (.int .i64 x.f1)).setCell ⟨g, n * 10 + 4, none⟩ (.int .i64 x.f2.f0)).setCell ⟨g, n * 10 + 5, none⟩ (.int .i64 x.f2.f1)).setCell ⟨g, n * 10 + 6, none⟩ (.int .i64 x.f2.f2)).setCell ⟨g, n * 10 + 7, none⟩ (.int .i64 x.f2.f3)).setCell ⟨g, n * 10 + 8, none⟩ (.slice Ah x.f2.f4.length ch)).setCell ⟨g, n * 10 + 9, none⟩ (.bool x.f2.f5) = w16 at SK2 HO ⊢
            have HB2 := aM (below_only HB.out (Kd.S_base SK.out g rfl) HO.out)
            clear hzT hc0 hc1 hc2 hc3 hc4 hc5 hc6 hc7 hc8 hc9 hf0 hf1 hf2 hf3 hf4 hf5 hf6 hf7 hf8 hf9 hfr YT
            go_wp2_with fail
            go_roundg kk
            case rel => exact ⟨i + 1, o.set n x, by go_num, ⟨by have := HI.out; omega⟩, ⟨by have h1 := HQL.out; have h2 := HLN.out; have h3 : (o.set n x).length = o.length := List.length_set; omega⟩, E4, ⟨Kd.S_mono SK2.out (fun _ _ => trivial)⟩, HB2⟩
            case measure => exact Nat.lt_succ_self _
          · have hd3 : decide ((rd_T96 o (n : Int)).f1 ≤ x.f1) = false := decide_eq_false hle
            rw [if_neg hle] at h3
            subst h3
            go_wp2_with fail
            go_quiet (fail)
            have hbN : Below w14.heap.size w14 (w14.drewN nq) := pw_below_drewN (Below.refl _ _) _
            replace SK := aM (Kd.S_below SK.out hbN)
            replace HB := aM (below_after HB.out hbN)
            go_wp2_with fail
            go_roundg kk
            case rel => exact ⟨i + 1, o, by go_num, ⟨by have := HI.out; omega⟩, ⟨by have h1 := HLN.out; omega⟩, E4, ⟨Kd.S_mono SK.out (fun _ _ => trivial)⟩, HB⟩
            case measure => exact Nat.lt_succ_self _
end Go.Proofs.YtkgmoajdcibafaaDoor.P
end

section
/- A row that a callee made anew and that is only read: told of the stretch since. No conditions. -/
set_option linter.unusedVariables false
namespace Go.Proofs.YtkgmoajdcibafaaDoor.P
open Go.RowKit Go.Proofs.YtkgmoajdcibafaaDoorW.PrintWords Go.Proofs.YtkgmoajdcibafaaDoorW.PrintLast Go.Proofs.YtkgmoajdcibafaaDoorW.PrintMore
section
variable {α : Type} {d : Kd α} {e lo hi : Nat} {w W W' : World} {v : Value} {l : List α}
theorem Loc.newN0 {b1 : Nat} {ok1 : Nat → Prop} (hs : Kd.N d e W' b1 ok1 v l) (h1 : ∀ k, ok1 k → W.heap.size ≤ k) :
    ∃ lo hi, lo = W.heap.size ∧ Loc lo hi (fun W => Kd.V d e W w.heap.size (fun k => lo ≤ k ∧ k < hi) v l) W' ∧ hi = W'.heap.size :=
  ⟨_, _, rfl, Loc.ofV (Nat.le_refl _) (Kd.V_mono (Kd.V_bound (Kd.N_V hs)) (fun k hk => ⟨h1 k hk.1, hk.2⟩)), rfl⟩
end
end Go.Proofs.YtkgmoajdcibafaaDoor.P
end

/- An element of a row is written field by field: what stands meanwhile. No conditions. -/
namespace Go.Proofs.YtkgmoajdcibafaaDoor.P
open Go.RowKit Go.Proofs.YtkgmoajdcibafaaDoorW.PrintWords Go.Proofs.YtkgmoajdcibafaaDoorW.PrintLast Go.Proofs.YtkgmoajdcibafaaDoorW.PrintMore
section
variable {α β : Type} {d : Kd α} {d' : Kd β} {e e' g n cap : Nat} {w0 w W W' : World} {P S oki : Nat → Prop} {xs : List α} {i : Int} {c : List Value}
/-- Element i of the row at block g is out: its cells are c, its rows' blocks are oki. -/
structure Hole (d : Kd α) (e : Nat) (w0 w W : World) (P : Nat → Prop) (g n cap : Nat) (xs : List α) (i : Int) (oki : Nat → Prop) (c : List Value) : Prop where
  i0 : 0 ≤ i
  i1 : i < n
  hb : Below w0.heap.size w0 W
  hk : Kept w W P
  hp : P g
  hg : w0.heap.size ≤ g
  ho : ∀ k, oki k → P k ∧ k ≠ g
  hh : Kd.H d e W w0.heap.size P (.slice (some ⟨g, 0, none⟩) n cap) xs i oki c
theorem Hole.mk0 (hS : Kd.S d e W w0.heap.size P (.slice (some ⟨g, 0, none⟩) n cap) xs) (hb : Below w0.heap.size w0 W) (hk : Kept w W P) (z : α) (h0 : 0 ≤ i) (h1 : i < n) :
    ∃ (oki : Nat → Prop) (c : List Value), Hole d e w0 w W P g n cap xs i oki c ∧ d.M W w0.heap.size oki (xs.getD i.toNat z) c := by
  obtain ⟨oki, c, hcl, hM, hcc, hfr, hoki, hH⟩ := Kd.S_elem hS z i h0 h1
  exact ⟨oki, c, ⟨h0, h1, hb, hk, (Kd.S_R hS).1 _ rfl, Kd.S_base hS _ rfl, hoki, hH⟩, hM⟩
theorem Hole.below (h : Hole d e w0 w W P g n cap xs i oki c) (hb : Below W.heap.size W W') : Hole d e w0 w W' P g n cap xs i oki c :=
  ⟨h.i0, h.i1, h.hb.trans ⟨hb.os, hb.tape, hb.output, hb.size, fun k hk => hb.block k (Nat.lt_of_lt_of_le hk h.hb.size)⟩, h.hk.below hb, h.hp, h.hg, h.ho, Kd.H_below h.hh hb⟩
theorem Hole.cell (h : Hole d e w0 w W P g n cap xs i oki c) {o : Nat} (j : Nat) (u : Value) (ho : o = i.toNat * d.sz + j) (hu : c[j]? = some u) : W.cell? ⟨g, o, none⟩ = some u := by
  rw [ho]
  exact (Kd.H_at h.hh h.i0 h.i1).1 j u hu
theorem Hole.free (h : Hole d e w0 w W P g n cap xs i oki c) {o : Nat} (j : Nat) (ho : o = i.toNat * d.sz + j) : W.frozen? ⟨g, o, none⟩ = false := by
  rw [ho]
  exact (Kd.H_at h.hh h.i0 h.i1).2 j
theorem Hole.clen (h : Hole d e w0 w W P g n cap xs i oki c) : c.length = d.sz := (Kd.H_raw h.hh h.i0 h.i1).choose_spec.2.2.1
theorem Hole.put (h : Hole d e w0 w W P g n cap xs i oki c) {o : Nat} (j : Nat) (u : Value) (ho : o = i.toNat * d.sz + j) (hj : j < d.sz) (hone : u.oneCell' = true) : Hole d e w0 w (W.setCell ⟨g, o, none⟩ u) P g n cap xs i oki (c.set j u) := by
  have hc := h.clen
  obtain ⟨h1, _⟩ := Kd.H_seg h.hh h.i0 h.i1 (seg := [u]) (j := j) (by show j + 1 ≤ d.sz; omega) (fun q hq => by rw [List.mem_singleton.1 hq]; exact hone)
  rw [← ho] at h1
  have e1 : c.take j ++ [u] ++ c.drop (j + 1) = c.set j u := by
    rw [List.set_eq_take_append_cons_drop, if_pos (by omega), List.append_assoc]
    rfl
  rw [show j + [u].length = j + 1 from rfl, e1] at h1
  exact ⟨h.i0, h.i1, below_set h.hb h.hg, h.hk.setCell (.inl h.hp) u, h.hp, h.hg, h.ho, h1⟩
theorem Hole.kept (h : Hole d e w0 w W P g n cap xs i oki c) (hk : Kept W W' S) (hb : Below w0.heap.size w0 W') (hS : ∀ k, S k → oki k) : Hole d e w0 w W' P g n cap xs i oki c :=
  ⟨h.i0, h.i1, hb, h.hk.then_ hk (fun k hs => .inl (h.ho k (hS k hs)).1), h.hp, h.hg, h.ho, Kd.H_kept h.hh hk (fun _ _ hn hs => hn (hS _ hs))⟩
theorem Hole.back (h : Hole d e w0 w W P g n cap xs i oki c) {x' : α} (hM : d.M W w0.heap.size oki x' c) : Kd.S d e W w0.heap.size P (.slice (some ⟨g, 0, none⟩) n cap) (xs.set i.toNat x') ∧ Kept w W P ∧ Below w0.heap.size w0 W :=
  ⟨Kd.H_back h.hh hM (fun _ hk => hk), h.hk, h.hb⟩
/-- The element's row v, the element being out. -/
theorem Hole.in_put (h : Hole d e w0 w W P g n cap xs i oki c) {v : Value} {l : List β} (hv : Kd.R d' e' W w0.heap.size oki v l) {o : Nat} (u : Value) : Kd.R d' e' (W.setCell ⟨g, o, none⟩ u) w0.heap.size oki v l :=
  Kd.R_far hv (fun k hk => (h.ho k hk).2) u
end
end Go.Proofs.YtkgmoajdcibafaaDoor.P

-- written by a program of this session's (wip/pp)
namespace Go.Proofs.YtkgmoajdcibafaaDoor.P
open Go.RowKit Go.Proofs.YtkgmoajdcibafaaDoorW.PrintWords Go.Proofs.YtkgmoajdcibafaaDoorW.PrintLast Go.Proofs.YtkgmoajdcibafaaDoorW.PrintMore
attribute [local go_sem] max2_int min2_int max_two min_two max_three min_three max_four min_four str_geq str_gtr str_leq   -- for this text's walks alone
set_option linter.unusedVariables false
set_option linter.unusedSimpArgs false

/-! ### laws_markIntS: function 76 -/
def laws_markIntS.l0 : Nat → List Int → Int → Int → Option (Int × List Int)
 | 0, _, _, _ => none
 | k + 1, x0, x1, x5 => if x5 < (x0.length : Int) then (if 0 ≤ x5 then (laws_markIntS.l0 k (x0.set (x5 : Int).toNat x1) (wrap64 (x1 + 1)) (wrap64 (x5 + 1))) else (none)) else (some (x1, x0))
def laws_markIntS.f (k : Nat) (l0 : List Int) (a1 : Int) : Option (Int × List Int) := laws_markIntS.l0 k l0 a1 0
theorem laws_markIntS.mono_l : ∀ k, (∀ y0 y1 y2, LeO (laws_markIntS.l0 k y0 y1 y2) (laws_markIntS.l0 (k + 1) y0 y1 y2))
 | 0 => fun _ _ _ r h => by simp [laws_markIntS.l0] at h
 | k + 1 => by
  have ih0 := laws_markIntS.mono_l k
  · intro y0 y1 y2
    unfold laws_markIntS.l0
    exact moZ
theorem laws_markIntS.mono : ∀ a0 a1 k, LeO (laws_markIntS.f k a0 a1) (laws_markIntS.f (k + 1) a0 a1) := by
 intro a0 a1 k
 have ih0 := laws_markIntS.mono_l k
 unfold laws_markIntS.f
 exact moZ
set_option maxHeartbeats 8000000 in
set_option maxRecDepth 100000 in
theorem laws_markIntS.calls (k : Nat) (P0_ : Nat → Prop) (u9000_ : Value) (l0 : List Int) (a1 : Int) (r1 : Int) (r2 : List Int) (w0 w : World) (hB : Below w0.heap.size w0 w) (ho0 : Kd.R (Kd.int .i64) 3 w w0.heap.size P0_ u9000_ l0) (h : laws_markIntS.f k l0 a1 = some (r1, r2)) :
 Calls Tryd.prog 76 #[u9000_, .int .i64 a1] w fun e w' => e = .returned (.int .i64 r1) ∧ Kd.R (Kd.int .i64) 3 w' w0.heap.size (fun k_ => (P0_ k_ ∨ w.heap.size ≤ k_)) u9000_ r2 ∧ Below w0.heap.size w0 w' ∧ Kept w w' (fun k_ => P0_ k_) := by
 have HO0 := aM (show Kd.R (Kd.int .i64) 3 w w0.heap.size (fun k_ => (P0_ k_ ∨ w.heap.size ≤ k_)) u9000_ l0 from Kd.R_mono ho0 (fun k_ hk => (.inl hk)))
 have HK := aM (Kept.refl w (fun k_ => P0_ k_))
 have HW0 := aM hB.size
 have HB := aM hB
 clear hB
 have H : (laws_markIntS.l0 k l0 a1 0) = some (r1, r2) := h
 clear h
 have H' := aM H
 clear H
 go_enter Tryd.func76, Tryd.ntmps76
 go_wp2
 go_loopg [1, 5] k (fun kq v1 v5 w' => ∃ (x0_1 : List Int) (x1_1 : Int) (x5_1 : Int), v1 = .int .i64 x1_1 ∧ v5 = .int .i64 x5_1 ∧ Aside0 (laws_markIntS.l0 kq x0_1 x1_1 x5_1 = some (r1, r2)) ∧ Aside0 (kq ≤ k) ∧ Aside0 (Kd.R (Kd.int .i64) 3 w' w0.heap.size (fun k_ => (P0_ k_ ∨ w.heap.size ≤ k_)) u9000_ x0_1) ∧ Aside0 (Kept w w' (fun k_ => P0_ k_)) ∧ Aside0 (Below w0.heap.size w0 w'))
 case atStart => exact ⟨(l0), (a1), (0), z4458, z4458, H', ⟨Nat.le_refl _⟩, ⟨rZ HO0.out⟩, ⟨z7d56⟩, ⟨z5acd⟩⟩
 case round =>
  clear H'
  obtain ⟨x0_1, x1_1, x5_1, rfl, rfl, HA, HK1, HO_0, HK, HB⟩ := hrel
  cases gk with
  | zero => exact absurd HA.out (by simp [laws_markIntS.l0])
  | succ k1 =>
   have H := HA.out
   clear HA
   simp only [laws_markIntS.l0] at H
   by_cases c3 : x5_1 < (x0_1.length : Int)
   · rw [if_pos c3] at H
     have c3b0 := dL c3
     clear c3
     obtain ⟨c4b0, H⟩ := sE H
     obtain ⟨y101, hy101⟩ : ∃ y_ : List Int, y_ = (x0_1.set (x5_1 : Int).toNat x1_1) := ⟨_, rfl⟩
     first | (replace H := bindS H; rw [← hy101] at H; try dsimp only at H) | rw [← hy101] at H
     have Ny101 := aM hy101
     clear hy101
     have H' := aM H
     clear H
     obtain ⟨Ao6, co6, eo6⟩ := Kd.R_slice HO_0.out
     subst eo6
     have p5 : 0 ≤ (x5_1 : Int) := of_decide_eq_true z1200
     have q5 : (x5_1 : Int) < ((x0_1.length : Int) : Int) := of_decide_eq_true z1200
     obtain ⟨go5, co5, eo5, gb5, gl5, cl5, HG5⟩ := Kd.R_form HO_0.out (by omega)
     (first | cases eo5 | (injection eo5 with ea_ en_ ec_; (first | subst ea_ | (injection ea_ with ea_; subst ea_)); subst ec_; clear en_))
     have GB5 := aM gb5
     have GG5 := aM HG5
     clear gb5 gl5 HG5
     have HMgo5 := aM (show (P0_ go5 ∨ w.heap.size ≤ go5) from (HO_0.out.1 _ rfl))
     obtain ⟨hx5_0, hf5_0⟩ := Kd.R_celln 0 HO_0.out (x5_1 : Int) p5 q5
     replace p5 := eq_true p5
     replace q5 := eq_true q5
     have HP7 := Kd.R_putg HO_0.out (x5_1 : Int) x1_1
     go_wp2_with (first | ((with_reducible refine gate_store (t := 3) (p := 15) rfl ?_); refine store_event (t := 3) (p := 15) (v := ?vo_w8) (w1 := (wr.setCell ⟨go5, (x5_1 : Int).toNat, none⟩ (.int .i64 x1_1))) ?hg ?ho ?hn ?hr ?_; (case ho => rfl); (case hg => rfl); (case hn => rfl); (case hr => first | (go_simp; done) | (go_simp; rfl)); intro w8 hw; have hg : wr.grownBy w8 (some go5) := (by rw [hw]; exact HP7.2); have hp_ : Kd.R (Kd.int .i64) 3 w8 w0.heap.size (fun k_ => (P0_ k_ ∨ w.heap.size ≤ k_)) (.slice (some ⟨go5, 0, none⟩) x0_1.length co6) y101 := (by rw [hw, Ny101.out]; exact HP7.1); clear HP7; have _ := aM hp_; have _ := aM ((by rw [hw]; exact below_set (HB.out) GB5.out : Below w0.heap.size w0 w8)); have _ := aM (Kept.of_grown (S := (fun k_ => P0_ k_)) hg z7d56 (fun k_ e_ => (HO_0.out.1 k_ e_))); clear HO_0 HB HK; rename_i HO_0 HB HK; clear hg hw hp_))
     go_roundg k1
     case measure => have := HK1.out; omega
     case rel => exact ⟨(y101), (wrap64 (x1_1 + 1)), (wrap64 (x5_1 + 1)), z4458, z4458, H', ⟨zfb39⟩, ⟨rZ HO_0.out⟩, ⟨z7d56⟩, ⟨z5acd⟩⟩
   · rw [if_neg c3] at H
     have c3b0 := nL c3
     clear c3
     simp only [Option.some.injEq, Prod.mk.injEq] at H
     obtain ⟨rfl, rfl⟩ := H
     obtain ⟨Ao9, co9, eo9⟩ := Kd.R_slice HO_0.out
     subst eo9
     go_wp2
     go_ret
     exact ⟨z674d, rZ HO_0.out, z5acd, z7d56⟩

end Go.Proofs.YtkgmoajdcibafaaDoor.P

-- written by a program of this session's (wip/pp)
namespace Go.Proofs.YtkgmoajdcibafaaDoor.P
open Go.RowKit Go.Proofs.YtkgmoajdcibafaaDoorW.PrintWords Go.Proofs.YtkgmoajdcibafaaDoorW.PrintLast Go.Proofs.YtkgmoajdcibafaaDoorW.PrintMore
attribute [local go_sem] max2_int min2_int max_two min_two max_three min_three max_four min_four str_geq str_gtr str_leq   -- for this text's walks alone
set_option linter.unusedVariables false
set_option linter.unusedSimpArgs false

/-! ### laws_markText: function 75 -/
def laws_markText.l0 : Nat → Int → ByteArray → Option (ByteArray)
 | 0, _, _ => none
 | k + 1, x0, x3 => if x0 > 0 then ((some (([(wrap64 (48 + (Int.tmod x0 10))) % 256] : List Int) : List Int)).bind fun y101 => (if (strOfNums y101).size + x3.size ≤ 9223372036854775807 then (laws_markText.l0 k (wrap64 (Int.tdiv x0 10)) ((strOfNums y101) ++ x3)) else (none))) else (if 1 + x3.size ≤ 9223372036854775807 then (some ((⟨#[109]⟩ : ByteArray) ++ x3)) else (none))
def laws_markText.f (k : Nat) (a0 : Int) : Option (ByteArray) := if a0 ≤ 0 then (some (⟨#[109, 48]⟩ : ByteArray)) else (laws_markText.l0 k a0 (⟨#[]⟩ : ByteArray))
theorem laws_markText.mono_l : ∀ k, (∀ y0 y1, LeO (laws_markText.l0 k y0 y1) (laws_markText.l0 (k + 1) y0 y1))
 | 0 => fun _ _ r h => by simp [laws_markText.l0] at h
 | k + 1 => by
  have ih0 := laws_markText.mono_l k
  · intro y0 y1
    unfold laws_markText.l0
    exact moZ
theorem laws_markText.mono : ∀ a0 k, LeO (laws_markText.f k a0) (laws_markText.f (k + 1) a0) := by
 intro a0 k
 have ih0 := laws_markText.mono_l k
 unfold laws_markText.f
 exact moZ
set_option maxHeartbeats 8000000 in
set_option maxRecDepth 100000 in
theorem laws_markText.calls (k : Nat) (a0 : Int) (r : ByteArray) (w : World) (h : laws_markText.f k a0 = some r) :
 Calls Tryd.prog 75 #[.int .i64 a0] w fun e w' => e = .returned (.string r) ∧ Below w.heap.size w w' := by
 have HB := aM (Below.refl w.heap.size w)
 have H : (if a0 ≤ 0 then (some (⟨#[109, 48]⟩ : ByteArray)) else (laws_markText.l0 k a0 (⟨#[]⟩ : ByteArray))) = some r := h
 clear h
 by_cases c2 : a0 ≤ 0
 · rw [if_pos c2] at H
   have c2b0 := dE c2
   clear c2
   obtain rfl := Option.some.inj H
   go_enter Tryd.func75, Tryd.ntmps75
   go_wp2
   go_ret
   exact ⟨z674d, z5acd⟩
 · rw [if_neg c2] at H
   have c2b0 := nE c2
   clear c2
   have H' := aM H
   clear H
   go_enter Tryd.func75, Tryd.ntmps75
   go_wp2
   go_loopg [0, 3] k (fun kq v0 v3 w' => ∃ (x0_1 : Int) (x3_1 : ByteArray), v0 = .int .i64 x0_1 ∧ v3 = .string x3_1 ∧ Aside0 (laws_markText.l0 kq x0_1 x3_1 = some r) ∧ Aside0 (kq ≤ k) ∧ Aside0 (Below w.heap.size w w'))
   case atStart => exact ⟨(a0), ((⟨#[]⟩ : ByteArray)), z4458, z4458, H', ⟨Nat.le_refl _⟩, ⟨z5acd⟩⟩
   case round =>
    clear H'
    (try clear c2b0)
    obtain ⟨x0_1, x3_1, rfl, rfl, HA, HK1, HB⟩ := hrel
    cases gk with
    | zero => exact absurd HA.out (by simp [laws_markText.l0])
    | succ k1 =>
     have H := HA.out
     clear HA
     simp only [laws_markText.l0] at H
     by_cases c3 : x0_1 > 0
     · rw [if_pos c3] at H
       have c3b0 := dL c3
       clear c3
       obtain ⟨y101, hy101⟩ : ∃ y_ : List Int, y_ = (([(wrap64 (48 + (Int.tmod x0_1 10))) % 256] : List Int)) := ⟨_, rfl⟩
       first | (replace H := bindS H; rw [← hy101] at H; try dsimp only at H) | rw [← hy101] at H
       have Ny101 := aM hy101
       clear hy101
       replace H := ifS H; obtain ⟨c4, H⟩ := H
       have c4b0 := eq_true c4
       have c4b1 : decide ((strOfNums y101).size + x3_1.size ≤ 9223372036854775807) = true := decide_eq_true c4
       try have c4b2 : (9223372036854775807 < (strOfNums y101).size + x3_1.size) = False := eq_false (Nat.not_lt.2 c4)
       have H' := aM H
       clear H
       go_wp2_with (first | ((with_reducible refine gate_dst (N := 12) rfl ?_); refine Kd.R_lit (Kd.int .u8) _ 5 ?hg (N := 12) ?hd (xs := ([(wrap64 (48 + (Int.tmod x0_1 10))) % 256] : List Int)) (inner := [.int .u8 ((wrap64 (48 + (Int.tmod x0_1 10))) % 256)]) (ok := fun _ => True) (okp := fun _ => True) ?hr ?hp (fun _ hk => hk) trivial (Below.refl _ _) (Nat.le_refl _) (by simp) ?_; (case hd => rfl); (case hg => rfl); (case hr => first | (go_simp; done) | (go_simp; rfl)); (case hp => exact (Reps.one (show Kd.M (Kd.int .u8) _ _ _ ((wrap64 (48 + (Int.tmod x0_1 10))) % 256) [.int .u8 ((wrap64 (48 + (Int.tmod x0_1 10))) % 256)] from rfl) (Reps.none _ _))); intro v102 w5 ho6 hb hg_ hnew_; clear hg_ hnew_; (first | rw [← Ny101.out] at ho6 | (simp only [Int.reduceToNat] at ho6; rw [← Ny101.out] at ho6)); have _ := aM (Kd.R_lower ho6 (below_size hbZ)); have _ := aM (below_step hbZ hb); clear HB; rename_i HO103 HB; clear hb ho6; have hcv7 := own_string (P := Tryd.prog) Tryd.underlying141 Tryd.underlying5 Tryd.underlying9 (Kd.own_of_R HO103.out)))
       go_roundg k1
       case measure => have := HK1.out; omega
       case rel => exact ⟨(wrap64 (Int.tdiv x0_1 10)), ((strOfNums y101) ++ x3_1), z4458, z4458, H', ⟨zfb39⟩, ⟨z5acd⟩⟩
     · rw [if_neg c3] at H
       have c3b0 := nL c3
       clear c3
       replace H := ifS H; obtain ⟨c8, H⟩ := H
       have c8b0 := eq_true c8
       have c8b1 : decide (1 + x3_1.size ≤ 9223372036854775807) = true := decide_eq_true c8
       try have c8b2 : (9223372036854775807 < 1 + x3_1.size) = False := eq_false (Nat.not_lt.2 c8)
       obtain rfl := Option.some.inj H
       go_wp2
       go_ret
       exact ⟨z674d, z5acd⟩
end Go.Proofs.YtkgmoajdcibafaaDoor.P

-- written by a program of this session's (wip/pp)
namespace Go.Proofs.YtkgmoajdcibafaaDoor.P
open Go.RowKit Go.Proofs.YtkgmoajdcibafaaDoorW.PrintWords Go.Proofs.YtkgmoajdcibafaaDoorW.PrintLast Go.Proofs.YtkgmoajdcibafaaDoorW.PrintMore
attribute [local go_sem] max2_int min2_int max_two min_two max_three min_three max_four min_four str_geq str_gtr str_leq   -- for this text's walks alone
set_option linter.unusedVariables false
set_option linter.unusedSimpArgs false

/-! ### laws_markTagS: function 54 -/
def laws_markTagS.l0 : Nat → List (S123) → Int → Int → Option (Int × (List (S123)))
 | 0, _, _, _ => none
 | k + 1, x0, x1, x5 => if x5 < (x0.length : Int) then ((laws_markText.f k x1).bind fun t101 => (if 0 ≤ x5 then ((some (x0.set (x5 : Int).toNat (⟨t101, (rd_T123 x0 x5).f1⟩ : S123) : List (S123))).bind fun y102 => ((laws_markText.f k (wrap64 (x1 + 1))).bind fun t103 => (laws_markTagS.l0 k (y102.set (x5 : Int).toNat (⟨(rd_T123 y102 x5).f0, t103⟩ : S123)) (wrap64 ((wrap64 (x1 + 1)) + 1)) (wrap64 (x5 + 1))))) else (none))) else (some (x1, x0))
def laws_markTagS.f (k : Nat) (l0 : List (S123)) (a1 : Int) : Option (Int × (List (S123))) := laws_markTagS.l0 k l0 a1 0
theorem laws_markTagS.mono_l : ∀ k, (∀ y0 y1 y2, LeO (laws_markTagS.l0 k y0 y1 y2) (laws_markTagS.l0 (k + 1) y0 y1 y2))
 | 0 => fun _ _ _ r h => by simp [laws_markTagS.l0] at h
 | k + 1 => by
  have ih0 := laws_markTagS.mono_l k; have m0 := @laws_markText.mono
  · intro y0 y1 y2
    unfold laws_markTagS.l0
    exact moZ
theorem laws_markTagS.mono : ∀ a0 a1 k, LeO (laws_markTagS.f k a0 a1) (laws_markTagS.f (k + 1) a0 a1) := by
 intro a0 a1 k
 have ih0 := laws_markTagS.mono_l k
 have m0 := @laws_markText.mono
 unfold laws_markTagS.f
 exact moZ
set_option maxHeartbeats 8000000 in
set_option maxRecDepth 100000 in
theorem laws_markTagS.calls (k : Nat) (P0_ : Nat → Prop) (u9000_ : Value) (l0 : List (S123)) (a1 : Int) (r1 : Int) (r2 : List (S123)) (w0 w : World) (hB : Below w0.heap.size w0 w) (ho0 : Kd.R k123 123 w w0.heap.size P0_ u9000_ l0) (h : laws_markTagS.f k l0 a1 = some (r1, r2)) :
 Calls Tryd.prog 54 #[u9000_, .int .i64 a1] w fun e w' => e = .returned (.int .i64 r1) ∧ Kd.R k123 123 w' w0.heap.size (fun k_ => (P0_ k_ ∨ w.heap.size ≤ k_)) u9000_ r2 ∧ Below w0.heap.size w0 w' ∧ Kept w w' (fun k_ => P0_ k_) := by
 have HO0 := aM (show Kd.R k123 123 w w0.heap.size (fun k_ => (P0_ k_ ∨ w.heap.size ≤ k_)) u9000_ l0 from Kd.R_mono ho0 (fun k_ hk => (.inl hk)))
 have HK := aM (Kept.refl w (fun k_ => P0_ k_))
 have HW0 := aM hB.size
 have HB := aM hB
 clear hB
 have H : (laws_markTagS.l0 k l0 a1 0) = some (r1, r2) := h
 clear h
 have H' := aM H
 clear H
 go_enter Tryd.func54, Tryd.ntmps54
 go_wp2
 go_loopg [1, 5] k (fun kq v1 v5 w' => ∃ (x0_1 : List (S123)) (x1_1 : Int) (x5_1 : Int), v1 = .int .i64 x1_1 ∧ v5 = .int .i64 x5_1 ∧ Aside0 (laws_markTagS.l0 kq x0_1 x1_1 x5_1 = some (r1, r2)) ∧ Aside0 (kq ≤ k) ∧ Aside0 (Kd.R k123 123 w' w0.heap.size (fun k_ => (P0_ k_ ∨ w.heap.size ≤ k_)) u9000_ x0_1) ∧ Aside0 (Kept w w' (fun k_ => P0_ k_)) ∧ Aside0 (Below w0.heap.size w0 w'))
 case atStart => exact ⟨(l0), (a1), (0), z4458, z4458, H', ⟨Nat.le_refl _⟩, ⟨rZ HO0.out⟩, ⟨z7d56⟩, ⟨z5acd⟩⟩
 case round =>
  clear H'
  obtain ⟨x0_1, x1_1, x5_1, rfl, rfl, HA, HK1, HO_0, HK, HB⟩ := hrel
  cases gk with
  | zero => exact absurd HA.out (by simp [laws_markTagS.l0])
  | succ k1 =>
   have H := HA.out
   clear HA
   simp only [laws_markTagS.l0] at H
   by_cases c3 : x5_1 < (x0_1.length : Int)
   · rw [if_pos c3] at H
     have c3b0 := dL c3
     clear c3
     obtain ⟨t101, A4, H⟩ := bS H; try dsimp only at H
     obtain ⟨c5b0, H⟩ := sE H
     obtain ⟨y102, hy102⟩ : ∃ y_ : List (S123), y_ = (x0_1.set (x5_1 : Int).toNat (⟨t101, (rd_T123 x0_1 x5_1).f1⟩ : S123)) := ⟨_, rfl⟩
     first | (replace H := bindS H; rw [← hy102] at H; try dsimp only at H) | rw [← hy102] at H
     have Ny102 := aM hy102
     clear hy102
     obtain ⟨t103, A7, H⟩ := bS H; try dsimp only at H
     obtain ⟨y104, hy104⟩ : ∃ y_ : List (S123), y_ = (y102.set (x5_1 : Int).toNat (⟨(rd_T123 y102 x5_1).f0, t103⟩ : S123)) := ⟨_, rfl⟩
     first | (replace H := bindS H; rw [← hy104] at H; try dsimp only at H) | rw [← hy104] at H
     have Ny104 := aM hy104
     clear hy104
     have H' := aM H
     clear H
     obtain ⟨Ao9, co9, eo9⟩ := Kd.R_slice HO_0.out
     subst eo9
     go_wp2_with (first | ((with_reducible refine gate_callee (f := 75) rfl ?_); refine gL 15 Tryd.func75 #[.int .i64 x1_1] ?_; (with_reducible refine (laws_markText.calls k1 x1_1 t101 _ A4.out).mono ?_); rintro e w10 ⟨rfl, hb⟩; refine ⟨_, rfl, ?_⟩; have _ := aM (Kd.R_below (rZ HO_0.out) hb); have _ := aM (Kept.below (S := (fun k_ => P0_ k_)) z7d56 hb); have _ := aM (below_step hbZ hb); clear HO_0 HK HB; rename_i HO_0 HK HB; (try clear hb); have p6 : 0 ≤ (x5_1 : Int) := of_decide_eq_true z1200; have q6 : (x5_1 : Int) < ((x0_1.length : Int) : Int) := of_decide_eq_true z1200; obtain ⟨go6, co6, eo6, gb6, gl6, cl6, HG6⟩ := Kd.R_form HO_0.out (by omega); (first | cases eo6 | (injection eo6 with ea_ en_ ec_; (first | subst ea_ | (injection ea_ with ea_; subst ea_)); subst ec_; clear en_)); have GB6 := aM gb6; have GG6 := aM HG6; clear gb6 gl6 HG6; have HMgo6 := aM (show (P0_ go6 ∨ w.heap.size ≤ go6) from (HO_0.out.1 _ rfl)); obtain ⟨ce6, hcl6, hM6, hcc6, hfr6⟩ := Kd.R_elem HO_0.out z123 (x5_1 : Int) p6 q6; obtain rfl := k123_openM hM6; have hx6_0 : w10.cell? ⟨go6, (x5_1 : Int).toNat * 2, none⟩ = some (.string ((rd_T123 x0_1 x5_1).f0)) := hcc6 0 _ rfl; have hx6_1 : w10.cell? ⟨go6, (x5_1 : Int).toNat * 2 + 1, none⟩ = some (.string ((rd_T123 x0_1 x5_1).f1)) := hcc6 1 _ rfl; have hf6_0 : w10.frozen? ⟨go6, (x5_1 : Int).toNat * 2, none⟩ = false := hfr6 0; have hf6_1 : w10.frozen? ⟨go6, (x5_1 : Int).toNat * 2 + 1, none⟩ = false := hfr6 1; clear hcl6 hcc6 hfr6 hM6; replace p6 := eq_true p6; replace q6 := eq_true q6; have HX11 := aM (show Kd.R k123 123 w10 w0.heap.size (fun k_ => (P0_ k_ ∨ w.heap.size ≤ k_)) (.slice (some ⟨go6, 0, none⟩) x0_1.length co9) x0_1 from (rZ HO_0.out)); obtain ⟨ce11, hcl11, hM11, hcc11, hfr11⟩ := Kd.R_elem HX11.out z123 (x5_1 : Int) (of_decide_eq_true z1200) (by have h_ : (x5_1 : Int) < ((x0_1.length : Int) : Int) := of_decide_eq_true z1200; first | exact h_ | (have e_ := (Kd.R_reads' HO_0.out).1; omega) | simpa using h_); obtain rfl := k123_openM hM11; have HP11 := Kd.R_seg HX11.out (x5_1 : Int) (of_decide_eq_true z1200) (by have h_ : (x5_1 : Int) < ((x0_1.length : Int) : Int) := of_decide_eq_true z1200; first | exact h_ | (have e_ := (Kd.R_reads' HO_0.out).1; omega) | simpa using h_) (seg := [.string t101]) (j := 0) hcl11 hcc11 (show 1 ≤ 2 from by decide) (x' := (⟨t101, (rd_T123 x0_1 x5_1).f1⟩ : S123)) (k123_mkM _ _ _ (⟨t101, (rd_T123 x0_1 x5_1).f1⟩ : S123) ) (fun _ hk => hk); have hx11_0 := hcc11 0 _ rfl; (try simp only [show (k123).sz = 2 from rfl, Nat.mul_one, Nat.add_zero] at hx11_0); have hf11_0 := hfr11 0; (try simp only [show (k123).sz = 2 from rfl, Nat.mul_one, Nat.add_zero] at hf11_0); clear hcl11 hcc11 hfr11 hM11) | ((with_reducible refine gate_store (t := 9) (p := 17) rfl ?_); refine store_event (t := 9) (p := 17) (v := ?vo_w12) (w1 := (w10.setCell ⟨go6, (x5_1 : Int).toNat * 2, none⟩ (.string t101))) ?hg ?ho ?hn ?hr ?_; (case ho => rfl); (case hg => rfl); (case hn => rfl); (case hr => first | (go_simp; done) | (go_simp; rfl)); intro w12 hw; have hg : w10.grownBy w12 (some go6) := (by rw [hw]; exact HP11.2); have hp_ : Kd.R k123 123 w12 w0.heap.size (fun k_ => (P0_ k_ ∨ w.heap.size ≤ k_)) (.slice (some ⟨go6, 0, none⟩) x0_1.length co9) y102 := (by rw [hw, Ny102.out]; exact HP11.1); clear HP11; have _ := aM hp_; have _ := aM ((by rw [hw]; exact below_set (HB.out) GB6.out : Below w0.heap.size w0 w12)); have _ := aM (Kept.of_grown (S := (fun k_ => P0_ k_)) hg z7d56 (fun k_ e_ => (HO_0.out.1 k_ e_))); clear HO_0 HB HK; rename_i HO_0 HB HK; clear hg hw hp_) | ((with_reducible refine gate_callee (f := 75) rfl ?_); refine gL 23 Tryd.func75 #[.int .i64 (wrap64 (x1_1 + 1))] ?_; (with_reducible refine (laws_markText.calls k1 (wrap64 (x1_1 + 1)) t103 _ A7.out).mono ?_); rintro e w13 ⟨rfl, hb⟩; refine ⟨_, rfl, ?_⟩; have _ := aM (Kd.R_below (rZ HO_0.out) hb); have _ := aM (Kept.below (S := (fun k_ => P0_ k_)) z7d56 hb); have _ := aM (below_step hbZ hb); clear HO_0 HK HB; rename_i HO_0 HK HB; (try clear hb); have p8 : 0 ≤ (x5_1 : Int) := of_decide_eq_true z1200; have q8 : (x5_1 : Int) < ((x0_1.length : Int) : Int) := of_decide_eq_true z1200; obtain ⟨ce8, hcl8, hM8, hcc8, hfr8⟩ := Kd.R_elem HO_0.out z123 (x5_1 : Int) p8 q8; obtain rfl := k123_openM hM8; have hx8_0 : w13.cell? ⟨go6, (x5_1 : Int).toNat * 2, none⟩ = some (.string ((rd_T123 y102 x5_1).f0)) := hcc8 0 _ rfl; have hx8_1 : w13.cell? ⟨go6, (x5_1 : Int).toNat * 2 + 1, none⟩ = some (.string ((rd_T123 y102 x5_1).f1)) := hcc8 1 _ rfl; have hf8_0 : w13.frozen? ⟨go6, (x5_1 : Int).toNat * 2, none⟩ = false := hfr8 0; have hf8_1 : w13.frozen? ⟨go6, (x5_1 : Int).toNat * 2 + 1, none⟩ = false := hfr8 1; clear hcl8 hcc8 hfr8 hM8; replace p8 := eq_true p8; replace q8 := eq_true q8; have HX14 := aM (show Kd.R k123 123 w13 w0.heap.size (fun k_ => (P0_ k_ ∨ w.heap.size ≤ k_)) (.slice (some ⟨go6, 0, none⟩) x0_1.length co9) y102 from (rZ HO_0.out)); obtain ⟨ce14, hcl14, hM14, hcc14, hfr14⟩ := Kd.R_elem HX14.out z123 (x5_1 : Int) (of_decide_eq_true z1200) (by have h_ : (x5_1 : Int) < ((x0_1.length : Int) : Int) := of_decide_eq_true z1200; first | exact h_ | (have e_ := (Kd.R_reads' HO_0.out).1; omega) | simpa using h_); obtain rfl := k123_openM hM14; have HP14 := Kd.R_seg HX14.out (x5_1 : Int) (of_decide_eq_true z1200) (by have h_ : (x5_1 : Int) < ((x0_1.length : Int) : Int) := of_decide_eq_true z1200; first | exact h_ | (have e_ := (Kd.R_reads' HO_0.out).1; omega) | simpa using h_) (seg := [.string t103]) (j := 1) hcl14 hcc14 (show 2 ≤ 2 from by decide) (x' := (⟨(rd_T123 y102 x5_1).f0, t103⟩ : S123)) (k123_mkM _ _ _ (⟨(rd_T123 y102 x5_1).f0, t103⟩ : S123) ) (fun _ hk => hk); have hx14_1 := hcc14 1 _ rfl; (try simp only [show (k123).sz = 2 from rfl, Nat.mul_one, Nat.add_zero] at hx14_1); have hf14_1 := hfr14 1; (try simp only [show (k123).sz = 2 from rfl, Nat.mul_one, Nat.add_zero] at hf14_1); clear hcl14 hcc14 hfr14 hM14) | ((with_reducible refine gate_store (t := 9) (p := 25) rfl ?_); refine store_event (t := 9) (p := 25) (v := ?vo_w15) (w1 := (w13.setCell ⟨go6, (x5_1 : Int).toNat * 2 + 1, none⟩ (.string t103))) ?hg ?ho ?hn ?hr ?_; (case ho => rfl); (case hg => rfl); (case hn => rfl); (case hr => first | (go_simp; done) | (go_simp; rfl)); intro w15 hw; have hg : w13.grownBy w15 (some go6) := (by rw [hw]; exact HP14.2); have hp_ : Kd.R k123 123 w15 w0.heap.size (fun k_ => (P0_ k_ ∨ w.heap.size ≤ k_)) (.slice (some ⟨go6, 0, none⟩) x0_1.length co9) y104 := (by rw [hw, Ny104.out]; exact HP14.1); clear HP14; have _ := aM hp_; have _ := aM ((by rw [hw]; exact below_set (HB.out) GB6.out : Below w0.heap.size w0 w15)); have _ := aM (Kept.of_grown (S := (fun k_ => P0_ k_)) hg z7d56 (fun k_ e_ => (HO_0.out.1 k_ e_))); clear HO_0 HB HK; rename_i HO_0 HB HK; clear hg hw hp_))
     go_roundg k1
     case measure => have := HK1.out; omega
     case rel => exact ⟨(y104), (wrap64 ((wrap64 (x1_1 + 1)) + 1)), (wrap64 (x5_1 + 1)), z4458, z4458, H', ⟨zfb39⟩, ⟨rZ HO_0.out⟩, ⟨z7d56⟩, ⟨z5acd⟩⟩
   · rw [if_neg c3] at H
     have c3b0 := nL c3
     clear c3
     simp only [Option.some.injEq, Prod.mk.injEq] at H
     obtain ⟨rfl, rfl⟩ := H
     obtain ⟨Ao16, co16, eo16⟩ := Kd.R_slice HO_0.out
     subst eo16
     go_wp2
     go_ret
     exact ⟨z674d, rZ HO_0.out, z5acd, z7d56⟩

end Go.Proofs.YtkgmoajdcibafaaDoor.P

/- laws.markToldS: marks are written into each element; what else stands in memory stays. No conditions of its own. -/
namespace Go.Proofs.YtkgmoajdcibafaaDoor.P
open Go.RowKit Go.Proofs.YtkgmoajdcibafaaDoorW.PrintWords Go.Proofs.YtkgmoajdcibafaaDoorW.PrintLast Go.Proofs.YtkgmoajdcibafaaDoorW.PrintMore
set_option linter.unusedVariables false
set_option linter.unusedSimpArgs false
def laws_markToldS.l0 : Nat → List S96 → Int → Int → Option (Int × List S96)
 | 0, _, _, _ => none
 | k + 1, x0, x1, x5 => if x5 < (x0.length : Int) then (if 0 ≤ x5 then ((laws_markText.f k x1).bind fun t0 => ((laws_markTagS.f k (rd_T96 x0 x5).f0.f1 (wrap64 (x1 + 1))).bind fun t1 => ((laws_markIntS.f k (rd_T96 x0 x5).f2.f4 (wrap64 ((wrap64 ((wrap64 ((wrap64 ((wrap64 ((wrap64 (t1.1 + 1)) + 1)) + 1)) + 1)) + 1)) + 1))).bind fun t2 => (laws_markToldS.l0 k (x0.set x5.toNat (⟨(⟨t0, t1.2, t1.1⟩ : S32), (wrap64 (t1.1 + 1)), (⟨(wrap64 ((wrap64 (t1.1 + 1)) + 1)), (wrap64 ((wrap64 ((wrap64 (t1.1 + 1)) + 1)) + 1)), (wrap64 ((wrap64 ((wrap64 ((wrap64 (t1.1 + 1)) + 1)) + 1)) + 1)), (wrap64 ((wrap64 ((wrap64 ((wrap64 ((wrap64 (t1.1 + 1)) + 1)) + 1)) + 1)) + 1)), t2.2, (Int.tmod t2.1 3 == 0)⟩ : S35)⟩ : S96)) (wrap64 (t2.1 + 1)) (wrap64 (x5 + 1)))))) else none) else some (x1, x0)
def laws_markToldS.f (k : Nat) (l0 : List S96) (a1 : Int) : Option (Int × List S96) := laws_markToldS.l0 k l0 a1 0
set_option maxHeartbeats 8000000 in
set_option maxRecDepth 100000 in
theorem laws_markToldS.calls (k : Nat) (P0_ : Nat → Prop) (u9000_ : Value) (l0 : List S96) (a1 : Int) (r1 : Int) (r2 : List S96) (w0 w : World) (hB : Below w0.heap.size w0 w) (ho0 : Kd.S k96 96 w w0.heap.size P0_ u9000_ l0) (h : laws_markToldS.f k l0 a1 = some (r1, r2)) :
 Calls Tryd.prog 29 #[u9000_, .int .i64 a1] w fun e w' => e = .returned (.int .i64 r1) ∧ Kd.S k96 96 w' w0.heap.size P0_ u9000_ r2 ∧ Below w0.heap.size w0 w' ∧ Kept w w' P0_ := by
 have HO0 := aM ho0
 have HK := aM (Kept.refl w P0_)
 have HB := aM hB
 clear hB ho0
 have H' := aM (show laws_markToldS.l0 k l0 a1 0 = some (r1, r2) from h)
 clear h
 go_enter Tryd.func29, Tryd.ntmps29
 go_wp2
 go_loopg [1, 5] k (fun kq v1 v5 w' => ∃ (x0_1 : List S96) (x1_1 : Int) (x5_1 : Int), v1 = .int .i64 x1_1 ∧ v5 = .int .i64 x5_1 ∧ Aside0 (laws_markToldS.l0 kq x0_1 x1_1 x5_1 = some (r1, r2)) ∧ Aside0 (kq ≤ k) ∧ Aside0 (Kd.S k96 96 w' w0.heap.size P0_ u9000_ x0_1) ∧ Aside0 (Kept w w' P0_) ∧ Aside0 (Below w0.heap.size w0 w'))
 case atStart => exact ⟨l0, a1, 0, rfl, rfl, H', ⟨Nat.le_refl _⟩, ⟨by (with_reducible repeat (first | apply Kd.S_alloc | apply Kd.S_drewN | apply Kd.S_drew)); exact HO0.out⟩, ⟨by repeat (first | exact HK.out | apply Kept.alloc | apply Kept.drewN | apply Kept.drew)⟩, ⟨by repeat (first | exact HB.out | apply below_alloc | apply pw_below_drewN | apply below_drew1)⟩⟩
 case round =>
  clear H' HO0 HK HB
  obtain ⟨x0_1, x1_1, x5_1, rfl, rfl, HA, HK1, HO_0, HK, HB⟩ := hrel
  cases gk with
  | zero => exact absurd HA.out (by simp [laws_markToldS.l0])
  | succ k1 =>
   have H := HA.out
   clear HA
   simp only [laws_markToldS.l0] at H
   by_cases c3 : x5_1 < (x0_1.length : Int)
   · rw [if_pos c3] at H
     have c3b0 : decide (x5_1 < (x0_1.length : Int)) = true := decide_eq_true c3
     by_cases c5 : 0 ≤ x5_1
     · rw [if_pos c5] at H
       have c5b0 : decide (0 ≤ x5_1) = true := decide_eq_true c5
       obtain ⟨t0, At00, H⟩ := Option.bind_eq_some_iff.mp H
       have At0 := aM At00
       clear At00
       obtain ⟨t1, At10, H⟩ := Option.bind_eq_some_iff.mp H
       have At1 := aM At10
       clear At10
       obtain ⟨t2, At20, H⟩ := Option.bind_eq_some_iff.mp H
       have At2 := aM At20
       clear At20
       have H' := aM H
       clear H
       obtain ⟨g_, cap_, eo_, _, _, _, _⟩ := Kd.S_form HO_0.out (by omega)
       subst eo_
       obtain ⟨oki_, ce_, hH_, hM_⟩ := Hole.mk0 HO_0.out HB.out HK.out z96 c5 c3
       obtain ⟨v1_, v8_, rfl, hv1_, hv8_⟩ := k96_openM hM_
       have HH := aM hH_
       clear hH_ hM_ HO_0 HK HB
       obtain ⟨n1_, hn1_⟩ : ∃ n_, n_ = (rd_T96 x0_1 x5_1).f0.f1.length := ⟨_, rfl⟩
       obtain ⟨A1_, c1_, ev1_⟩ : ∃ A_ c_, v1_ = .slice A_ (rd_T96 x0_1 x5_1).f0.f1.length c_ := Kd.R_slice hv1_
       rw [← hn1_] at ev1_
       clear hn1_
       subst ev1_
       have HV1 := aM hv1_
       clear hv1_
       obtain ⟨n8_, hn8_⟩ : ∃ n_, n_ = (rd_T96 x0_1 x5_1).f2.f4.length := ⟨_, rfl⟩
       obtain ⟨A8_, c8_, ev8_⟩ : ∃ A_ c_, v8_ = .slice A_ (rd_T96 x0_1 x5_1).f2.f4.length c_ := Kd.R_slice hv8_
       rw [← hn8_] at ev8_
       clear hn8_
       subst ev8_
       have HV8 := aM hv8_
       clear hv8_
       have p_ := eq_true c5
       have q_ := eq_true c3
       clear c3 c5
       go_wp2_with (first | (go_at_call 75; (with_reducible refine (laws_markText.calls k1 x1_1 t0 _ At0.out).mono ?_); rintro e wa1 ⟨rfl, hb⟩; (try clear hy_); (try clear hz_); have n_ := aM (Kd.R_below HV1.out hb); clear HV1; have HV1 := n_; clear n_; have n_ := aM (Kd.R_below HV8.out hb); clear HV8; have HV8 := n_; clear n_; have n_ := aM (HH.out.below hb); clear HH; have HH := n_; clear n_ hb; have hx_ := aM (HH.out.cell (o := (x5_1 : Int).toNat * 10) 0 _ rfl rfl); have hy_ : wa1.cell? ⟨g_, (x5_1 : Int).toNat * 10, none⟩ = some (.string ((rd_T96 x0_1 x5_1).f0.f0)) := hx_.out; have hz_ : wa1.frozen? ⟨g_, (x5_1 : Int).toNat * 10, none⟩ = false := HH.out.free (o := (x5_1 : Int).toNat * 10) 0 rfl; clear hx_) | ((with_reducible refine gate_store (t := 9) (p := 18) rfl ?_); refine store_event (t := 9) (p := 18) (v := ?vo_wa2) (w1 := (wa1.setCell ⟨g_, (x5_1 : Int).toNat * 10, none⟩ (.string t0))) ?hg ?ho ?hn ?hr ?_; (case ho => rfl); (case hg => rfl); (case hn => rfl); (case hr => first | (go_simp; done) | (go_simp; rfl)); intro wa2 hw; (try clear hy_); (try clear hz_); have n_ := aM ((by rw [hw]; exact HH.out.in_put HV1.out (.string t0) : Kd.R k123 123 wa2 w0.heap.size oki_ (.slice A1_ n1_ c1_) _)); clear HV1; have HV1 := n_; clear n_; have n_ := aM ((by rw [hw]; exact HH.out.in_put HV8.out (.string t0) : Kd.R (Kd.int .i64) 3 wa2 w0.heap.size oki_ (.slice A8_ n8_ c8_) _)); clear HV8; have HV8 := n_; clear n_; have n_ := aM (show Hole k96 96 w0 w wa2 P0_ g_ _ _ x0_1 x5_1 oki_ [.string t0, .slice A1_ n1_ c1_, .int .i64 ((rd_T96 x0_1 x5_1).f0.f2), .int .i64 ((rd_T96 x0_1 x5_1).f1), .int .i64 ((rd_T96 x0_1 x5_1).f2.f0), .int .i64 ((rd_T96 x0_1 x5_1).f2.f1), .int .i64 ((rd_T96 x0_1 x5_1).f2.f2), .int .i64 ((rd_T96 x0_1 x5_1).f2.f3), .slice A8_ n8_ c8_, .bool ((rd_T96 x0_1 x5_1).f2.f5)] from (by rw [hw]; exact HH.out.put (o := (x5_1 : Int).toNat * 10) 0 (.string t0) rfl (by decide) rfl)); clear HH; have HH := n_; clear n_ hw; have hx_ := aM (HH.out.cell (o := (x5_1 : Int).toNat * 10 + 1) 1 _ rfl rfl); have hy_ : wa2.cell? ⟨g_, (x5_1 : Int).toNat * 10 + 1, none⟩ = some (.slice A1_ n1_ c1_) := hx_.out; clear hx_) | (go_at_call 54; (with_reducible refine (laws_markTagS.calls k1 (fun k_ => some k_ = (.slice A1_ n1_ c1_ : Value).ownBlock) (.slice A1_ n1_ c1_) ((rd_T96 x0_1 x5_1).f0.f1) (wrap64 (x1_1 + 1)) t1.1 t1.2 w0 _ ?s1 ?s2 At1.out).mono ?_); (case s1 => exact HH.out.hb); (case s2 => exact Kd.R_tight rfl HV1.out); rintro e wa3 ⟨rfl, ho, hb, hk⟩; (try clear hy_); (try clear hz_); have ht_ : ∀ k_, (fun k_ => some k_ = (.slice A1_ n1_ c1_ : Value).ownBlock) k_ → oki_ k_ := fun k_ e_ => HV1.out.1 k_ e_.symm; have n_ := aM (show Kd.R (Kd.int .i64) 3 wa3 w0.heap.size oki_ (.slice A8_ n8_ c8_) _ from Kd.R_mono (Kd.R_kept (Kd.R_apart' HV8.out (Kd.R_typed HV1.out) (by decide)) hk (fun k_ h_ e_ => h_.2 e_)) (fun k_ h_ => h_.1)); clear HV8; have HV8 := n_; clear n_; have n_ := aM (HH.out.kept hk hb ht_); clear HH; have HH := n_; clear n_; have n_ := aM (Kd.R_mono (Kd.R_tight rfl ho) (fun k_ e_ => ht_ k_ e_)); clear HV1 ho hb hk ht_; have HV1 := n_; clear n_; have hx_ := aM (HH.out.cell (o := (x5_1 : Int).toNat * 10 + 2) 2 _ rfl rfl); have hy_ : wa3.cell? ⟨g_, (x5_1 : Int).toNat * 10 + 2, none⟩ = some (.int .i64 ((rd_T96 x0_1 x5_1).f0.f2)) := hx_.out; have hz_ : wa3.frozen? ⟨g_, (x5_1 : Int).toNat * 10 + 2, none⟩ = false := HH.out.free (o := (x5_1 : Int).toNat * 10 + 2) 2 rfl; clear hx_) | ((with_reducible refine gate_store (t := 3) (p := 34) rfl ?_); refine store_event (t := 3) (p := 34) (v := ?vo_wa4) (w1 := (wa3.setCell ⟨g_, (x5_1 : Int).toNat * 10 + 2, none⟩ (.int .i64 t1.1))) ?hg ?ho ?hn ?hr ?_; (case ho => rfl); (case hg => rfl); (case hn => rfl); (case hr => first | (go_simp; done) | (go_simp; rfl)); intro wa4 hw; (try clear hy_); (try clear hz_); have n_ := aM ((by rw [hw]; exact HH.out.in_put HV1.out (.int .i64 t1.1) : Kd.R k123 123 wa4 w0.heap.size oki_ (.slice A1_ n1_ c1_) _)); clear HV1; have HV1 := n_; clear n_; have n_ := aM ((by rw [hw]; exact HH.out.in_put HV8.out (.int .i64 t1.1) : Kd.R (Kd.int .i64) 3 wa4 w0.heap.size oki_ (.slice A8_ n8_ c8_) _)); clear HV8; have HV8 := n_; clear n_; have n_ := aM (show Hole k96 96 w0 w wa4 P0_ g_ _ _ x0_1 x5_1 oki_ [.string t0, .slice A1_ n1_ c1_, .int .i64 t1.1, .int .i64 ((rd_T96 x0_1 x5_1).f1), .int .i64 ((rd_T96 x0_1 x5_1).f2.f0), .int .i64 ((rd_T96 x0_1 x5_1).f2.f1), .int .i64 ((rd_T96 x0_1 x5_1).f2.f2), .int .i64 ((rd_T96 x0_1 x5_1).f2.f3), .slice A8_ n8_ c8_, .bool ((rd_T96 x0_1 x5_1).f2.f5)] from (by rw [hw]; exact HH.out.put (o := (x5_1 : Int).toNat * 10 + 2) 2 (.int .i64 t1.1) rfl (by decide) rfl)); clear HH; have HH := n_; clear n_ hw; have hx_ := aM (HH.out.cell (o := (x5_1 : Int).toNat * 10 + 3) 3 _ rfl rfl); have hy_ : wa4.cell? ⟨g_, (x5_1 : Int).toNat * 10 + 3, none⟩ = some (.int .i64 ((rd_T96 x0_1 x5_1).f1)) := hx_.out; have hz_ : wa4.frozen? ⟨g_, (x5_1 : Int).toNat * 10 + 3, none⟩ = false := HH.out.free (o := (x5_1 : Int).toNat * 10 + 3) 3 rfl; clear hx_) | ((with_reducible refine gate_store (t := 3) (p := 41) rfl ?_); refine store_event (t := 3) (p := 41) (v := ?vo_wa5) (w1 := (wa4.setCell ⟨g_, (x5_1 : Int).toNat * 10 + 3, none⟩ (.int .i64 (wrap64 (t1.1 + 1))))) ?hg ?ho ?hn ?hr ?_; (case ho => rfl); (case hg => rfl); (case hn => rfl); (case hr => first | (go_simp; done) | (go_simp; rfl)); intro wa5 hw; (try clear hy_); (try clear hz_); have n_ := aM ((by rw [hw]; exact HH.out.in_put HV1.out (.int .i64 (wrap64 (t1.1 + 1))) : Kd.R k123 123 wa5 w0.heap.size oki_ (.slice A1_ n1_ c1_) _)); clear HV1; have HV1 := n_; clear n_; have n_ := aM ((by rw [hw]; exact HH.out.in_put HV8.out (.int .i64 (wrap64 (t1.1 + 1))) : Kd.R (Kd.int .i64) 3 wa5 w0.heap.size oki_ (.slice A8_ n8_ c8_) _)); clear HV8; have HV8 := n_; clear n_; have n_ := aM (show Hole k96 96 w0 w wa5 P0_ g_ _ _ x0_1 x5_1 oki_ [.string t0, .slice A1_ n1_ c1_, .int .i64 t1.1, .int .i64 (wrap64 (t1.1 + 1)), .int .i64 ((rd_T96 x0_1 x5_1).f2.f0), .int .i64 ((rd_T96 x0_1 x5_1).f2.f1), .int .i64 ((rd_T96 x0_1 x5_1).f2.f2), .int .i64 ((rd_T96 x0_1 x5_1).f2.f3), .slice A8_ n8_ c8_, .bool ((rd_T96 x0_1 x5_1).f2.f5)] from (by rw [hw]; exact HH.out.put (o := (x5_1 : Int).toNat * 10 + 3) 3 (.int .i64 (wrap64 (t1.1 + 1))) rfl (by decide) rfl)); clear HH; have HH := n_; clear n_ hw; have hx_ := aM (HH.out.cell (o := (x5_1 : Int).toNat * 10 + 4) 4 _ rfl rfl); have hy_ : wa5.cell? ⟨g_, (x5_1 : Int).toNat * 10 + 4, none⟩ = some (.int .i64 ((rd_T96 x0_1 x5_1).f2.f0)) := hx_.out; have hz_ : wa5.frozen? ⟨g_, (x5_1 : Int).toNat * 10 + 4, none⟩ = false := HH.out.free (o := (x5_1 : Int).toNat * 10 + 4) 4 rfl; clear hx_) | ((with_reducible refine gate_store (t := 3) (p := 49) rfl ?_); refine store_event (t := 3) (p := 49) (v := ?vo_wa6) (w1 := (wa5.setCell ⟨g_, (x5_1 : Int).toNat * 10 + 4, none⟩ (.int .i64 (wrap64 ((wrap64 (t1.1 + 1)) + 1))))) ?hg ?ho ?hn ?hr ?_; (case ho => rfl); (case hg => rfl); (case hn => rfl); (case hr => first | (go_simp; done) | (go_simp; rfl)); intro wa6 hw; (try clear hy_); (try clear hz_); have n_ := aM ((by rw [hw]; exact HH.out.in_put HV1.out (.int .i64 (wrap64 ((wrap64 (t1.1 + 1)) + 1))) : Kd.R k123 123 wa6 w0.heap.size oki_ (.slice A1_ n1_ c1_) _)); clear HV1; have HV1 := n_; clear n_; have n_ := aM ((by rw [hw]; exact HH.out.in_put HV8.out (.int .i64 (wrap64 ((wrap64 (t1.1 + 1)) + 1))) : Kd.R (Kd.int .i64) 3 wa6 w0.heap.size oki_ (.slice A8_ n8_ c8_) _)); clear HV8; have HV8 := n_; clear n_; have n_ := aM (show Hole k96 96 w0 w wa6 P0_ g_ _ _ x0_1 x5_1 oki_ [.string t0, .slice A1_ n1_ c1_, .int .i64 t1.1, .int .i64 (wrap64 (t1.1 + 1)), .int .i64 (wrap64 ((wrap64 (t1.1 + 1)) + 1)), .int .i64 ((rd_T96 x0_1 x5_1).f2.f1), .int .i64 ((rd_T96 x0_1 x5_1).f2.f2), .int .i64 ((rd_T96 x0_1 x5_1).f2.f3), .slice A8_ n8_ c8_, .bool ((rd_T96 x0_1 x5_1).f2.f5)] from (by rw [hw]; exact HH.out.put (o := (x5_1 : Int).toNat * 10 + 4) 4 (.int .i64 (wrap64 ((wrap64 (t1.1 + 1)) + 1))) rfl (by decide) rfl)); clear HH; have HH := n_; clear n_ hw; have hx_ := aM (HH.out.cell (o := (x5_1 : Int).toNat * 10 + 5) 5 _ rfl rfl); have hy_ : wa6.cell? ⟨g_, (x5_1 : Int).toNat * 10 + 5, none⟩ = some (.int .i64 ((rd_T96 x0_1 x5_1).f2.f1)) := hx_.out; have hz_ : wa6.frozen? ⟨g_, (x5_1 : Int).toNat * 10 + 5, none⟩ = false := HH.out.free (o := (x5_1 : Int).toNat * 10 + 5) 5 rfl; clear hx_) | ((with_reducible refine gate_store (t := 3) (p := 57) rfl ?_); refine store_event (t := 3) (p := 57) (v := ?vo_wa7) (w1 := (wa6.setCell ⟨g_, (x5_1 : Int).toNat * 10 + 5, none⟩ (.int .i64 (wrap64 ((wrap64 ((wrap64 (t1.1 + 1)) + 1)) + 1))))) ?hg ?ho ?hn ?hr ?_; (case ho => rfl); (case hg => rfl); (case hn => rfl); (case hr => first | (go_simp; done) | (go_simp; rfl)); intro wa7 hw; (try clear hy_); (try clear hz_); have n_ := aM ((by rw [hw]; exact HH.out.in_put HV1.out (.int .i64 (wrap64 ((wrap64 ((wrap64 (t1.1 + 1)) + 1)) + 1))) : Kd.R k123 123 wa7 w0.heap.size oki_ (.slice A1_ n1_ c1_) _)); clear HV1; have HV1 := n_; clear n_; have n_ := aM ((by rw [hw]; exact HH.out.in_put HV8.out (.int .i64 (wrap64 ((wrap64 ((wrap64 (t1.1 + 1)) + 1)) + 1))) : Kd.R (Kd.int .i64) 3 wa7 w0.heap.size oki_ (.slice A8_ n8_ c8_) _)); clear HV8; have HV8 := n_; clear n_; have n_ := aM (show Hole k96 96 w0 w wa7 P0_ g_ _ _ x0_1 x5_1 oki_ [.string t0, .slice A1_ n1_ c1_, .int .i64 t1.1, .int .i64 (wrap64 (t1.1 + 1)), .int .i64 (wrap64 ((wrap64 (t1.1 + 1)) + 1)), .int .i64 (wrap64 ((wrap64 ((wrap64 (t1.1 + 1)) + 1)) + 1)), .int .i64 ((rd_T96 x0_1 x5_1).f2.f2), .int .i64 ((rd_T96 x0_1 x5_1).f2.f3), .slice A8_ n8_ c8_, .bool ((rd_T96 x0_1 x5_1).f2.f5)] from (by rw [hw]; exact HH.out.put (o := (x5_1 : Int).toNat * 10 + 5) 5 (.int .i64 (wrap64 ((wrap64 ((wrap64 (t1.1 + 1)) + 1)) + 1))) rfl (by decide) rfl)); clear HH; have HH := n_; clear n_ hw; have hx_ := aM (HH.out.cell (o := (x5_1 : Int).toNat * 10 + 6) 6 _ rfl rfl); have hy_ : wa7.cell? ⟨g_, (x5_1 : Int).toNat * 10 + 6, none⟩ = some (.int .i64 ((rd_T96 x0_1 x5_1).f2.f2)) := hx_.out; have hz_ : wa7.frozen? ⟨g_, (x5_1 : Int).toNat * 10 + 6, none⟩ = false := HH.out.free (o := (x5_1 : Int).toNat * 10 + 6) 6 rfl; clear hx_) | ((with_reducible refine gate_store (t := 3) (p := 65) rfl ?_); refine store_event (t := 3) (p := 65) (v := ?vo_wa8) (w1 := (wa7.setCell ⟨g_, (x5_1 : Int).toNat * 10 + 6, none⟩ (.int .i64 (wrap64 ((wrap64 ((wrap64 ((wrap64 (t1.1 + 1)) + 1)) + 1)) + 1))))) ?hg ?ho ?hn ?hr ?_; (case ho => rfl); (case hg => rfl); (case hn => rfl); (case hr => first | (go_simp; done) | (go_simp; rfl)); intro wa8 hw; (try clear hy_); (try clear hz_); have n_ := aM ((by rw [hw]; exact HH.out.in_put HV1.out (.int .i64 (wrap64 ((wrap64 ((wrap64 ((wrap64 (t1.1 + 1)) + 1)) + 1)) + 1))) : Kd.R k123 123 wa8 w0.heap.size oki_ (.slice A1_ n1_ c1_) _)); clear HV1; have HV1 := n_; clear n_; have n_ := aM ((by rw [hw]; exact HH.out.in_put HV8.out (.int .i64 (wrap64 ((wrap64 ((wrap64 ((wrap64 (t1.1 + 1)) + 1)) + 1)) + 1))) : Kd.R (Kd.int .i64) 3 wa8 w0.heap.size oki_ (.slice A8_ n8_ c8_) _)); clear HV8; have HV8 := n_; clear n_; have n_ := aM (show Hole k96 96 w0 w wa8 P0_ g_ _ _ x0_1 x5_1 oki_ [.string t0, .slice A1_ n1_ c1_, .int .i64 t1.1, .int .i64 (wrap64 (t1.1 + 1)), .int .i64 (wrap64 ((wrap64 (t1.1 + 1)) + 1)), .int .i64 (wrap64 ((wrap64 ((wrap64 (t1.1 + 1)) + 1)) + 1)), .int .i64 (wrap64 ((wrap64 ((wrap64 ((wrap64 (t1.1 + 1)) + 1)) + 1)) + 1)), .int .i64 ((rd_T96 x0_1 x5_1).f2.f3), .slice A8_ n8_ c8_, .bool ((rd_T96 x0_1 x5_1).f2.f5)] from (by rw [hw]; exact HH.out.put (o := (x5_1 : Int).toNat * 10 + 6) 6 (.int .i64 (wrap64 ((wrap64 ((wrap64 ((wrap64 (t1.1 + 1)) + 1)) + 1)) + 1))) rfl (by decide) rfl)); clear HH; have HH := n_; clear n_ hw; have hx_ := aM (HH.out.cell (o := (x5_1 : Int).toNat * 10 + 7) 7 _ rfl rfl); have hy_ : wa8.cell? ⟨g_, (x5_1 : Int).toNat * 10 + 7, none⟩ = some (.int .i64 ((rd_T96 x0_1 x5_1).f2.f3)) := hx_.out; have hz_ : wa8.frozen? ⟨g_, (x5_1 : Int).toNat * 10 + 7, none⟩ = false := HH.out.free (o := (x5_1 : Int).toNat * 10 + 7) 7 rfl; clear hx_) | ((with_reducible refine gate_store (t := 3) (p := 73) rfl ?_); refine store_event (t := 3) (p := 73) (v := ?vo_wa9) (w1 := (wa8.setCell ⟨g_, (x5_1 : Int).toNat * 10 + 7, none⟩ (.int .i64 (wrap64 ((wrap64 ((wrap64 ((wrap64 ((wrap64 (t1.1 + 1)) + 1)) + 1)) + 1)) + 1))))) ?hg ?ho ?hn ?hr ?_; (case ho => rfl); (case hg => rfl); (case hn => rfl); (case hr => first | (go_simp; done) | (go_simp; rfl)); intro wa9 hw; (try clear hy_); (try clear hz_); have n_ := aM ((by rw [hw]; exact HH.out.in_put HV1.out (.int .i64 (wrap64 ((wrap64 ((wrap64 ((wrap64 ((wrap64 (t1.1 + 1)) + 1)) + 1)) + 1)) + 1))) : Kd.R k123 123 wa9 w0.heap.size oki_ (.slice A1_ n1_ c1_) _)); clear HV1; have HV1 := n_; clear n_; have n_ := aM ((by rw [hw]; exact HH.out.in_put HV8.out (.int .i64 (wrap64 ((wrap64 ((wrap64 ((wrap64 ((wrap64 (t1.1 + 1)) + 1)) + 1)) + 1)) + 1))) : Kd.R (Kd.int .i64) 3 wa9 w0.heap.size oki_ (.slice A8_ n8_ c8_) _)); clear HV8; have HV8 := n_; clear n_; have n_ := aM (show Hole k96 96 w0 w wa9 P0_ g_ _ _ x0_1 x5_1 oki_ [.string t0, .slice A1_ n1_ c1_, .int .i64 t1.1, .int .i64 (wrap64 (t1.1 + 1)), .int .i64 (wrap64 ((wrap64 (t1.1 + 1)) + 1)), .int .i64 (wrap64 ((wrap64 ((wrap64 (t1.1 + 1)) + 1)) + 1)), .int .i64 (wrap64 ((wrap64 ((wrap64 ((wrap64 (t1.1 + 1)) + 1)) + 1)) + 1)), .int .i64 (wrap64 ((wrap64 ((wrap64 ((wrap64 ((wrap64 (t1.1 + 1)) + 1)) + 1)) + 1)) + 1)), .slice A8_ n8_ c8_, .bool ((rd_T96 x0_1 x5_1).f2.f5)] from (by rw [hw]; exact HH.out.put (o := (x5_1 : Int).toNat * 10 + 7) 7 (.int .i64 (wrap64 ((wrap64 ((wrap64 ((wrap64 ((wrap64 (t1.1 + 1)) + 1)) + 1)) + 1)) + 1))) rfl (by decide) rfl)); clear HH; have HH := n_; clear n_ hw; have hx_ := aM (HH.out.cell (o := (x5_1 : Int).toNat * 10 + 8) 8 _ rfl rfl); have hy_ : wa9.cell? ⟨g_, (x5_1 : Int).toNat * 10 + 8, none⟩ = some (.slice A8_ n8_ c8_) := hx_.out; clear hx_) | (go_at_call 76; (with_reducible refine (laws_markIntS.calls k1 (fun k_ => some k_ = (.slice A8_ n8_ c8_ : Value).ownBlock) (.slice A8_ n8_ c8_) ((rd_T96 x0_1 x5_1).f2.f4) (wrap64 ((wrap64 ((wrap64 ((wrap64 ((wrap64 ((wrap64 (t1.1 + 1)) + 1)) + 1)) + 1)) + 1)) + 1)) t2.1 t2.2 w0 _ ?s1 ?s2 At2.out).mono ?_); (case s1 => exact HH.out.hb); (case s2 => exact Kd.R_tight rfl HV8.out); rintro e wa10 ⟨rfl, ho, hb, hk⟩; (try clear hy_); (try clear hz_); have ht_ : ∀ k_, (fun k_ => some k_ = (.slice A8_ n8_ c8_ : Value).ownBlock) k_ → oki_ k_ := fun k_ e_ => HV8.out.1 k_ e_.symm; have n_ := aM (show Kd.R k123 123 wa10 w0.heap.size oki_ (.slice A1_ n1_ c1_) _ from Kd.R_mono (Kd.R_kept (Kd.R_apart' HV1.out (Kd.R_typed HV8.out) (by decide)) hk (fun k_ h_ e_ => h_.2 e_)) (fun k_ h_ => h_.1)); clear HV1; have HV1 := n_; clear n_; have n_ := aM (HH.out.kept hk hb ht_); clear HH; have HH := n_; clear n_; have n_ := aM (Kd.R_mono (Kd.R_tight rfl ho) (fun k_ e_ => ht_ k_ e_)); clear HV8 ho hb hk ht_; have HV8 := n_; clear n_; have hx_ := aM (HH.out.cell (o := (x5_1 : Int).toNat * 10 + 9) 9 _ rfl rfl); have hy_ : wa10.cell? ⟨g_, (x5_1 : Int).toNat * 10 + 9, none⟩ = some (.bool ((rd_T96 x0_1 x5_1).f2.f5)) := hx_.out; have hz_ : wa10.frozen? ⟨g_, (x5_1 : Int).toNat * 10 + 9, none⟩ = false := HH.out.free (o := (x5_1 : Int).toNat * 10 + 9) 9 rfl; clear hx_) | ((with_reducible refine gate_store (t := 4) (p := 91) rfl ?_); refine store_event (t := 4) (p := 91) (v := ?vo_wa11) (w1 := (wa10.setCell ⟨g_, (x5_1 : Int).toNat * 10 + 9, none⟩ (.bool (Int.tmod t2.1 3 == 0)))) ?hg ?ho ?hn ?hr ?_; (case ho => rfl); (case hg => rfl); (case hn => rfl); (case hr => first | (go_simp; done) | (go_simp; rfl)); intro wa11 hw; (try clear hy_); (try clear hz_); have n_ := aM ((by rw [hw]; exact HH.out.in_put HV1.out (.bool (Int.tmod t2.1 3 == 0)) : Kd.R k123 123 wa11 w0.heap.size oki_ (.slice A1_ n1_ c1_) _)); clear HV1; have HV1 := n_; clear n_; have n_ := aM ((by rw [hw]; exact HH.out.in_put HV8.out (.bool (Int.tmod t2.1 3 == 0)) : Kd.R (Kd.int .i64) 3 wa11 w0.heap.size oki_ (.slice A8_ n8_ c8_) _)); clear HV8; have HV8 := n_; clear n_; have n_ := aM (show Hole k96 96 w0 w wa11 P0_ g_ _ _ x0_1 x5_1 oki_ [.string t0, .slice A1_ n1_ c1_, .int .i64 t1.1, .int .i64 (wrap64 (t1.1 + 1)), .int .i64 (wrap64 ((wrap64 (t1.1 + 1)) + 1)), .int .i64 (wrap64 ((wrap64 ((wrap64 (t1.1 + 1)) + 1)) + 1)), .int .i64 (wrap64 ((wrap64 ((wrap64 ((wrap64 (t1.1 + 1)) + 1)) + 1)) + 1)), .int .i64 (wrap64 ((wrap64 ((wrap64 ((wrap64 ((wrap64 (t1.1 + 1)) + 1)) + 1)) + 1)) + 1)), .slice A8_ n8_ c8_, .bool (Int.tmod t2.1 3 == 0)] from (by rw [hw]; exact HH.out.put (o := (x5_1 : Int).toNat * 10 + 9) 9 (.bool (Int.tmod t2.1 3 == 0)) rfl (by decide) rfl)); clear HH; have HH := n_; clear n_ hw; skip))
       go_roundg k1
       case measure => have := HK1.out; omega
       case rel =>
        have hq_ := HH.out.back (k96_mkM _ _ _ (⟨(⟨t0, t1.2, t1.1⟩ : S32), (wrap64 (t1.1 + 1)), (⟨(wrap64 ((wrap64 (t1.1 + 1)) + 1)), (wrap64 ((wrap64 ((wrap64 (t1.1 + 1)) + 1)) + 1)), (wrap64 ((wrap64 ((wrap64 ((wrap64 (t1.1 + 1)) + 1)) + 1)) + 1)), (wrap64 ((wrap64 ((wrap64 ((wrap64 ((wrap64 (t1.1 + 1)) + 1)) + 1)) + 1)) + 1)), t2.2, (Int.tmod t2.1 3 == 0)⟩ : S35)⟩ : S96) HV1.out HV8.out)
        exact ⟨_, _, _, rfl, rfl, H', ⟨by have := HK1.out; omega⟩, ⟨by (with_reducible repeat (first | apply Kd.S_alloc | apply Kd.S_drewN | apply Kd.S_drew)); exact hq_.1⟩, ⟨by repeat (first | exact hq_.2.1 | apply Kept.alloc | apply Kept.drewN | apply Kept.drew)⟩, ⟨by repeat (first | exact hq_.2.2 | apply below_alloc | apply pw_below_drewN | apply below_drew1)⟩⟩
     · rw [if_neg c5] at H
       exact absurd H (by simp)
   · rw [if_neg c3] at H
     have c3b0 : decide (x5_1 < (x0_1.length : Int)) = false := decide_eq_false c3
     clear c3
     simp only [Option.some.injEq, Prod.mk.injEq] at H
     obtain ⟨rfl, rfl⟩ := H
     obtain ⟨Ao_, co_, eo_⟩ := Kd.S_slice HO_0.out
     subst eo_
     go_wp2
     go_ret
     exact ⟨rfl, by (with_reducible repeat (first | apply Kd.S_alloc | apply Kd.S_drewN | apply Kd.S_drew)); exact HO_0.out, by repeat (first | exact HB.out | apply below_alloc | apply pw_below_drewN | apply below_drew1), by repeat (first | exact HK.out | apply Kept.alloc | apply Kept.drewN | apply Kept.drew)⟩
end Go.Proofs.YtkgmoajdcibafaaDoor.P

-- written by a program of this session's (wip/pp)
namespace Go.Proofs.YtkgmoajdcibafaaDoor.P
open Go.RowKit Go.Proofs.YtkgmoajdcibafaaDoorW.PrintWords Go.Proofs.YtkgmoajdcibafaaDoorW.PrintLast Go.Proofs.YtkgmoajdcibafaaDoorW.PrintMore
attribute [local go_sem] max2_int min2_int max_two min_two max_three min_three max_four min_four str_geq str_gtr str_leq   -- for this text's walks alone
set_option linter.unusedVariables false
set_option linter.unusedSimpArgs false

/-! ### laws_szTag: function 83 -/
def laws_szTag.f (a0_0 : ByteArray) (a0_1 : ByteArray) (a1 : Int) : Option (Int) := if (wrap64 (a1 - (a0_0.size : Int))) < 0 then (some (-1)) else (if (wrap64 ((wrap64 (a1 - (a0_0.size : Int))) - (a0_1.size : Int))) < 0 then (some (-1)) else (some (wrap64 ((wrap64 (a1 - (a0_0.size : Int))) - (a0_1.size : Int)))))
set_option maxHeartbeats 8000000 in
set_option maxRecDepth 100000 in
theorem laws_szTag.calls (a0_0 : ByteArray) (a0_1 : ByteArray) (a1 : Int) (r : Int) (w : World) (h : laws_szTag.f a0_0 a0_1 a1 = some r) :
 Calls Tryd.prog 83 #[.agg #[.string a0_0, .string a0_1], .int .i64 a1] w fun e w' => e = .returned (.int .i64 r) ∧ Below w.heap.size w w' := by
 have hu119 := Tryd.underlying119
 have HB := aM (Below.refl w.heap.size w)
 have H : (if (wrap64 (a1 - (a0_0.size : Int))) < 0 then (some (-1)) else (if (wrap64 ((wrap64 (a1 - (a0_0.size : Int))) - (a0_1.size : Int))) < 0 then (some (-1)) else (some (wrap64 ((wrap64 (a1 - (a0_0.size : Int))) - (a0_1.size : Int)))))) = some r := h
 clear h
 by_cases c3 : (wrap64 (a1 - (a0_0.size : Int))) < 0
 · rw [if_pos c3] at H
   have c3b0 := dL c3
   clear c3
   obtain rfl := Option.some.inj H
   go_enter Tryd.func83, Tryd.ntmps83
   go_wp2_with (first | ((with_reducible refine gate_dst (N := 2) rfl ?_); refine bX 2 119 #[.string a0_0, .string a0_1] ?_; intro gb101 hg w4 hbox hb; have _ := aM (below_step hbZ hb); have _ := aM hbox; have _ := szZ hg; have _ := szZ hg; clear HB; rename_i HB BK101 GW101 GE101; clear hb hbox hg; have hz5 := cellsZ2 BK101.out))
   go_ret
   exact ⟨z674d, zcb41⟩
 · rw [if_neg c3] at H
   have c3b0 := nL c3
   clear c3
   by_cases c6 : (wrap64 ((wrap64 (a1 - (a0_0.size : Int))) - (a0_1.size : Int))) < 0
   · rw [if_pos c6] at H
     have c6b0 := dL c6
     clear c6
     obtain rfl := Option.some.inj H
     go_enter Tryd.func83, Tryd.ntmps83
     go_wp2_with (first | ((with_reducible refine gate_dst (N := 2) rfl ?_); refine bX 2 119 #[.string a0_0, .string a0_1] ?_; intro gb101 hg w7 hbox hb; have _ := aM (below_step hbZ hb); have _ := aM hbox; have _ := szZ hg; have _ := szZ hg; clear HB; rename_i HB BK101 GW101 GE101; clear hb hbox hg; have hz8 := cellsZ2 BK101.out))
     go_ret
     exact ⟨z674d, zcb41⟩
   · rw [if_neg c6] at H
     have c6b0 := nL c6
     clear c6
     obtain rfl := Option.some.inj H
     go_enter Tryd.func83, Tryd.ntmps83
     go_wp2_with (first | ((with_reducible refine gate_dst (N := 2) rfl ?_); refine bX 2 119 #[.string a0_0, .string a0_1] ?_; intro gb101 hg w9 hbox hb; have _ := aM (below_step hbZ hb); have _ := aM hbox; have _ := szZ hg; have _ := szZ hg; clear HB; rename_i HB BK101 GW101 GE101; clear hb hbox hg; have hz10 := cellsZ2 BK101.out))
     go_ret
     exact ⟨z674d, zcb41⟩

end Go.Proofs.YtkgmoajdcibafaaDoor.P

-- written by a program of this session's (wip/pp)
namespace Go.Proofs.YtkgmoajdcibafaaDoor.P
open Go.RowKit Go.Proofs.YtkgmoajdcibafaaDoorW.PrintWords Go.Proofs.YtkgmoajdcibafaaDoorW.PrintLast Go.Proofs.YtkgmoajdcibafaaDoorW.PrintMore
attribute [local go_sem] max2_int min2_int max_two min_two max_three min_three max_four min_four str_geq str_gtr str_leq   -- for this text's walks alone
set_option linter.unusedVariables false
set_option linter.unusedSimpArgs false

/-! ### laws_szTagS: function 39 -/
def laws_szTagS.l0 : Nat → List (S119) → Int → Int → Option (Int)
 | 0, _, _, _ => none
 | k + 1, x0, x1, x5 => if x5 < (x0.length : Int) then (if 0 ≤ x5 then ((laws_szTag.f ((rd_T119 x0 x5).f0) ((rd_T119 x0 x5).f1) x1).bind fun t102 => (if t102 < 0 then (some (-1)) else (laws_szTagS.l0 k x0 t102 (wrap64 (x5 + 1))))) else (none)) else (some x1)
def laws_szTagS.f (k : Nat) (l0 : List (S119)) (a1 : Int) : Option (Int) := if (wrap64 (a1 - (l0.length : Int))) < 0 then (some (-1)) else (laws_szTagS.l0 k l0 (wrap64 (a1 - (l0.length : Int))) 0)
theorem laws_szTagS.mono_l : ∀ k, (∀ y0 y1 y2, LeO (laws_szTagS.l0 k y0 y1 y2) (laws_szTagS.l0 (k + 1) y0 y1 y2))
 | 0 => fun _ _ _ r h => by simp [laws_szTagS.l0] at h
 | k + 1 => by
  have ih0 := laws_szTagS.mono_l k
  · intro y0 y1 y2
    unfold laws_szTagS.l0
    exact moZ
theorem laws_szTagS.mono : ∀ a0 a1 k, LeO (laws_szTagS.f k a0 a1) (laws_szTagS.f (k + 1) a0 a1) := by
 intro a0 a1 k
 have ih0 := laws_szTagS.mono_l k
 unfold laws_szTagS.f
 exact moZ
set_option maxHeartbeats 8000000 in
set_option maxRecDepth 100000 in
theorem laws_szTagS.calls (k : Nat) (A0 : Option Addr) (c0 : Nat) (l0 : List (S119)) (a1 : Int) (r : Int) (w : World) (hr0 : Kd.C k119 w A0 l0.length l0) (hc0 : l0.length ≤ c0) (h : laws_szTagS.f k l0 a1 = some r) :
 Calls Tryd.prog 39 #[.slice A0 l0.length c0, .int .i64 a1] w fun e w' => e = .returned (.int .i64 r) ∧ Below w.heap.size w w' := by
 have hu119 := Tryd.underlying119
 have HR0 := aM hr0
 have HC0 := aM hc0
 clear hr0 hc0
 have HB := aM (Below.refl w.heap.size w)
 have H : (if (wrap64 (a1 - (l0.length : Int))) < 0 then (some (-1)) else (laws_szTagS.l0 k l0 (wrap64 (a1 - (l0.length : Int))) 0)) = some r := h
 clear h
 by_cases c3 : (wrap64 (a1 - (l0.length : Int))) < 0
 · rw [if_pos c3] at H
   have c3b0 := dL c3
   clear c3
   obtain rfl := Option.some.inj H
   go_enter Tryd.func39, Tryd.ntmps39
   go_wp2
   go_ret
   exact ⟨z674d, z5acd⟩
 · rw [if_neg c3] at H
   have c3b0 := nL c3
   clear c3
   have H' := aM H
   clear H
   go_enter Tryd.func39, Tryd.ntmps39
   go_wp2
   go_loopg [1, 5] k (fun kq v1 v5 w' => ∃ (x1_1 : Int) (x5_1 : Int), v1 = .int .i64 x1_1 ∧ v5 = .int .i64 x5_1 ∧ Aside0 (laws_szTagS.l0 kq l0 x1_1 x5_1 = some r) ∧ Aside0 (kq ≤ k) ∧ Aside0 (Below w.heap.size w w'))
   case atStart => exact ⟨(wrap64 (a1 - (l0.length : Int))), (0), z4458, z4458, H', ⟨Nat.le_refl _⟩, ⟨z5acd⟩⟩
   case round =>
    clear H'
    (try clear c3b0)
    obtain ⟨x1_1, x5_1, rfl, rfl, HA, HK1, HB⟩ := hrel
    cases gk with
    | zero => exact absurd HA.out (by simp [laws_szTagS.l0])
    | succ k1 =>
     have H := HA.out
     clear HA
     simp only [laws_szTagS.l0] at H
     by_cases c4 : x5_1 < (l0.length : Int)
     · rw [if_pos c4] at H
       have c4b0 := dL c4
       clear c4
       obtain ⟨c5b0, H⟩ := sE H
       obtain ⟨t102, A6, H⟩ := bS H; try dsimp only at H
       by_cases c7 : t102 < 0
       · rw [if_pos c7] at H
         have c7b0 := dL c7
         clear c7
         obtain rfl := Option.some.inj H
         have p101 : 0 ≤ (x5_1 : Int) := of_decide_eq_true z1200
         have q101 : x5_1 < (l0.length : Int) := of_decide_eq_true z1200
         obtain ⟨ad101, e101, hx101_0, hx101_1⟩ := at_T119 HR0.out x5_1 p101 q101
         cases e101
         replace hx101_0 := (HB.out.cell (World.block_lt_of_cell? w _ hx101_0)).trans hx101_0
         replace hx101_1 := (HB.out.cell (World.block_lt_of_cell? w _ hx101_1)).trans hx101_1
         replace p101 := eq_true p101
         replace q101 := eq_true q101
         go_wp2_with (first | ((with_reducible refine gate_callee (f := 83) rfl ?_); refine gL 23 Tryd.func83 #[.agg #[.string ((rd_T119 l0 x5_1).f0), .string ((rd_T119 l0 x5_1).f1)], .int .i64 x1_1] ?_; (with_reducible refine (laws_szTag.calls ((rd_T119 l0 x5_1).f0) ((rd_T119 l0 x5_1).f1) x1_1 t102 _ A6.out).mono ?_); rintro e w8 ⟨rfl, hb⟩; refine ⟨_, rfl, ?_⟩; have _ := aM (below_step hbZ hb); clear HB; rename_i HB; (try clear hb)))
         go_ret
         exact ⟨z674d, z5acd⟩
       · rw [if_neg c7] at H
         have c7b0 := nL c7
         clear c7
         have H' := aM H
         clear H
         have p101 : 0 ≤ (x5_1 : Int) := of_decide_eq_true z1200
         have q101 : x5_1 < (l0.length : Int) := of_decide_eq_true z1200
         obtain ⟨ad101, e101, hx101_0, hx101_1⟩ := at_T119 HR0.out x5_1 p101 q101
         cases e101
         replace hx101_0 := (HB.out.cell (World.block_lt_of_cell? w _ hx101_0)).trans hx101_0
         replace hx101_1 := (HB.out.cell (World.block_lt_of_cell? w _ hx101_1)).trans hx101_1
         replace p101 := eq_true p101
         replace q101 := eq_true q101
         go_wp2_with (first | ((with_reducible refine gate_callee (f := 83) rfl ?_); refine gL 23 Tryd.func83 #[.agg #[.string ((rd_T119 l0 x5_1).f0), .string ((rd_T119 l0 x5_1).f1)], .int .i64 x1_1] ?_; (with_reducible refine (laws_szTag.calls ((rd_T119 l0 x5_1).f0) ((rd_T119 l0 x5_1).f1) x1_1 t102 _ A6.out).mono ?_); rintro e w9 ⟨rfl, hb⟩; refine ⟨_, rfl, ?_⟩; have _ := aM (below_step hbZ hb); clear HB; rename_i HB; (try clear hb)))
         go_roundg k1
         case measure => have := HK1.out; omega
         case rel => exact ⟨(t102), (wrap64 (x5_1 + 1)), z4458, z4458, H', ⟨zfb39⟩, ⟨z5acd⟩⟩
     · rw [if_neg c4] at H
       have c4b0 := nL c4
       clear c4
       obtain rfl := Option.some.inj H
       go_wp2
       go_ret
       exact ⟨z674d, z5acd⟩

end Go.Proofs.YtkgmoajdcibafaaDoor.P

-- written by a program of this session's (wip/pp)
namespace Go.Proofs.YtkgmoajdcibafaaDoor.P
open Go.RowKit Go.Proofs.YtkgmoajdcibafaaDoorW.PrintWords Go.Proofs.YtkgmoajdcibafaaDoorW.PrintLast Go.Proofs.YtkgmoajdcibafaaDoorW.PrintMore
attribute [local go_sem] max2_int min2_int max_two min_two max_three min_three max_four min_four str_geq str_gtr str_leq   -- for this text's walks alone
set_option linter.unusedVariables false
set_option linter.unusedSimpArgs false

/-! ### laws_szKey: function 9 -/
def laws_szKey.f (k : Nat) (a0_0 : ByteArray) (l0_1 : List (S119)) (a0_2 : Int) (a1 : Int) : Option (Int) := if (wrap64 (a1 - (a0_0.size : Int))) < 0 then (some (-1)) else ((laws_szTagS.f k l0_1 (wrap64 (a1 - (a0_0.size : Int)))).bind fun t102 => (if t102 < 0 then (some (-1)) else (some t102)))
theorem laws_szKey.mono : ∀ a0 a1 a2 a3 k, LeO (laws_szKey.f k a0 a1 a2 a3) (laws_szKey.f (k + 1) a0 a1 a2 a3) := by
 intro a0 a1 a2 a3 k
 have m0 := @laws_szTagS.mono
 unfold laws_szKey.f
 exact moZ
set_option maxHeartbeats 8000000 in
set_option maxRecDepth 100000 in
theorem laws_szKey.calls (k : Nat) (a0_0 : ByteArray) (A0_1 : Option Addr) (c0_1 : Nat) (l0_1 : List (S119)) (a0_2 : Int) (a1 : Int) (r : Int) (w : World) (hr0_1 : Kd.C k119 w A0_1 l0_1.length l0_1) (hc0_1 : l0_1.length ≤ c0_1) (h : laws_szKey.f k a0_0 l0_1 a0_2 a1 = some r) :
 Calls Tryd.prog 9 #[.agg #[.string a0_0, .slice A0_1 l0_1.length c0_1, .int .i64 a0_2], .int .i64 a1] w fun e w' => e = .returned (.int .i64 r) ∧ Below w.heap.size w w' := by
 have hu27 := Tryd.underlying27
 have HR0_1 := aM hr0_1
 have HC0_1 := aM hc0_1
 clear hr0_1 hc0_1
 have HB := aM (Below.refl w.heap.size w)
 have H : (if (wrap64 (a1 - (a0_0.size : Int))) < 0 then (some (-1)) else ((laws_szTagS.f k l0_1 (wrap64 (a1 - (a0_0.size : Int)))).bind fun t102 => (if t102 < 0 then (some (-1)) else (some t102)))) = some r := h
 clear h
 by_cases c3 : (wrap64 (a1 - (a0_0.size : Int))) < 0
 · rw [if_pos c3] at H
   have c3b0 := dL c3
   clear c3
   obtain rfl := Option.some.inj H
   go_enter Tryd.func9, Tryd.ntmps9
   go_wp2_with (first | ((with_reducible refine gate_dst (N := 2) rfl ?_); refine bX 2 27 #[.string a0_0, .slice A0_1 l0_1.length c0_1, .int .i64 a0_2] ?_; intro gb101 hg w4 hbox hb; have _ := aM (below_step hbZ hb); have _ := aM hbox; have _ := szZ hg; have _ := szZ hg; clear HB; rename_i HB BK101 GW101 GE101; clear hb hbox hg; have hz5 := cellsZ3 BK101.out))
   go_ret
   exact ⟨z674d, zcb41⟩
 · rw [if_neg c3] at H
   have c3b0 := nL c3
   clear c3
   obtain ⟨t102, A6, H⟩ := bS H; try dsimp only at H
   by_cases c7 : t102 < 0
   · rw [if_pos c7] at H
     have c7b0 := dL c7
     clear c7
     obtain rfl := Option.some.inj H
     go_enter Tryd.func9, Tryd.ntmps9
     go_wp2_with (first | ((with_reducible refine gate_dst (N := 2) rfl ?_); refine bX 2 27 #[.string a0_0, .slice A0_1 l0_1.length c0_1, .int .i64 a0_2] ?_; intro gb101 hg w8 hbox hb; have _ := aM (below_step hbZ hb); have _ := aM hbox; have _ := szZ hg; have _ := szZ hg; clear HB; rename_i HB BK101 GW101 GE101; clear hb hbox hg; have hz9 := cellsZ3 BK101.out) | ((with_reducible refine gate_callee (f := 39) rfl ?_); refine gL 15 Tryd.func39 #[.slice A0_1 l0_1.length c0_1, .int .i64 (wrap64 (a1 - (a0_0.size : Int)))] ?_; (with_reducible refine (laws_szTagS.calls k _ _ l0_1 (wrap64 (a1 - (a0_0.size : Int))) t102 _ ?side1 ?side2 A6.out).mono ?_); (case side1 => exact (cZ (Kd.C_below HR0_1.out HB.out))); (case side2 => exact HC0_1.out); rintro e w10 ⟨rfl, hb⟩; refine ⟨_, rfl, ?_⟩; have _ := bB gb101 hb; have _ := aM (below_step hbZ hb); clear BK101 HB; rename_i BK101 HB; (try clear hb)))
     go_ret
     exact ⟨z674d, zcb41⟩
   · rw [if_neg c7] at H
     have c7b0 := nL c7
     clear c7
     obtain rfl := Option.some.inj H
     go_enter Tryd.func9, Tryd.ntmps9
     go_wp2_with (first | ((with_reducible refine gate_dst (N := 2) rfl ?_); refine bX 2 27 #[.string a0_0, .slice A0_1 l0_1.length c0_1, .int .i64 a0_2] ?_; intro gb101 hg w11 hbox hb; have _ := aM (below_step hbZ hb); have _ := aM hbox; have _ := szZ hg; have _ := szZ hg; clear HB; rename_i HB BK101 GW101 GE101; clear hb hbox hg; have hz12 := cellsZ3 BK101.out) | ((with_reducible refine gate_callee (f := 39) rfl ?_); refine gL 15 Tryd.func39 #[.slice A0_1 l0_1.length c0_1, .int .i64 (wrap64 (a1 - (a0_0.size : Int)))] ?_; (with_reducible refine (laws_szTagS.calls k _ _ l0_1 (wrap64 (a1 - (a0_0.size : Int))) t102 _ ?side1 ?side2 A6.out).mono ?_); (case side1 => exact (cZ (Kd.C_below HR0_1.out HB.out))); (case side2 => exact HC0_1.out); rintro e w13 ⟨rfl, hb⟩; refine ⟨_, rfl, ?_⟩; have _ := bB gb101 hb; have _ := aM (below_step hbZ hb); clear BK101 HB; rename_i BK101 HB; (try clear hb)))
     go_ret
     exact ⟨z674d, zcb41⟩

end Go.Proofs.YtkgmoajdcibafaaDoor.P

-- written by a program of this session's (wip/pp)
namespace Go.Proofs.YtkgmoajdcibafaaDoor.P
open Go.RowKit Go.Proofs.YtkgmoajdcibafaaDoorW.PrintWords Go.Proofs.YtkgmoajdcibafaaDoorW.PrintLast Go.Proofs.YtkgmoajdcibafaaDoorW.PrintMore
attribute [local go_sem] max2_int min2_int max_two min_two max_three min_three max_four min_four str_geq str_gtr str_leq   -- for this text's walks alone
set_option linter.unusedVariables false
set_option linter.unusedSimpArgs false

/-! ### laws_szIntS: function 113 -/
def laws_szIntS.f (l0 : List Int) (a1 : Int) : Option (Int) := if (wrap64 (a1 - (l0.length : Int))) < 0 then (some (-1)) else (some (wrap64 (a1 - (l0.length : Int))))
set_option maxHeartbeats 8000000 in
set_option maxRecDepth 100000 in
theorem laws_szIntS.calls (A0 : Option Addr) (c0 : Nat) (l0 : List Int) (a1 : Int) (r : Int) (w : World) (hr0 : Kd.C (Kd.int .i64) w A0 l0.length l0) (hc0 : l0.length ≤ c0) (h : laws_szIntS.f l0 a1 = some r) :
 Calls Tryd.prog 113 #[.slice A0 l0.length c0, .int .i64 a1] w fun e w' => e = .returned (.int .i64 r) ∧ Drawn0 w w' := by
 have HR0 := aM hr0
 have HC0 := aM hc0
 clear hr0 hc0
 have H : (if (wrap64 (a1 - (l0.length : Int))) < 0 then (some (-1)) else (some (wrap64 (a1 - (l0.length : Int))))) = some r := h
 clear h
 by_cases c3 : (wrap64 (a1 - (l0.length : Int))) < 0
 · rw [if_pos c3] at H
   have c3b0 := dL c3
   clear c3
   obtain rfl := Option.some.inj H
   go_enter Tryd.func113, Tryd.ntmps113
   go_wp2
   go_ret
   exact ⟨z4458, za9de⟩
 · rw [if_neg c3] at H
   have c3b0 := nL c3
   clear c3
   obtain rfl := Option.some.inj H
   go_enter Tryd.func113, Tryd.ntmps113
   go_wp2
   go_ret
   exact ⟨z4458, za9de⟩

end Go.Proofs.YtkgmoajdcibafaaDoor.P

-- written by a program of this session's (wip/pp)
namespace Go.Proofs.YtkgmoajdcibafaaDoor.P
open Go.RowKit Go.Proofs.YtkgmoajdcibafaaDoorW.PrintWords Go.Proofs.YtkgmoajdcibafaaDoorW.PrintLast Go.Proofs.YtkgmoajdcibafaaDoorW.PrintMore
attribute [local go_sem] max2_int min2_int max_two min_two max_three min_three max_four min_four str_geq str_gtr str_leq   -- for this text's walks alone
set_option linter.unusedVariables false
set_option linter.unusedSimpArgs false

/-! ### laws_szAgg: function 97 -/
def laws_szAgg.f (a0_0 : Int) (a0_1 : Int) (a0_2 : Int) (a0_3 : Int) (l0_4 : List Int) (a0_5 : Bool) (a1 : Int) : Option (Int) := (laws_szIntS.f l0_4 a1).bind fun t102 => (if t102 < 0 then (some (-1)) else (some t102))
set_option maxHeartbeats 8000000 in
set_option maxRecDepth 100000 in
theorem laws_szAgg.calls (a0_0 : Int) (a0_1 : Int) (a0_2 : Int) (a0_3 : Int) (A0_4 : Option Addr) (c0_4 : Nat) (l0_4 : List Int) (a0_5 : Bool) (a1 : Int) (r : Int) (w : World) (hr0_4 : Kd.C (Kd.int .i64) w A0_4 l0_4.length l0_4) (hc0_4 : l0_4.length ≤ c0_4) (h : laws_szAgg.f a0_0 a0_1 a0_2 a0_3 l0_4 a0_5 a1 = some r) :
 Calls Tryd.prog 97 #[.agg #[.int .i64 a0_0, .int .i64 a0_1, .int .i64 a0_2, .int .i64 a0_3, .slice A0_4 l0_4.length c0_4, .bool a0_5], .int .i64 a1] w fun e w' => e = .returned (.int .i64 r) ∧ Below w.heap.size w w' := by
 have hu92 := Tryd.underlying92
 have HR0_4 := aM hr0_4
 have HC0_4 := aM hc0_4
 clear hr0_4 hc0_4
 have HB := aM (Below.refl w.heap.size w)
 have H : ((laws_szIntS.f l0_4 a1).bind fun t102 => (if t102 < 0 then (some (-1)) else (some t102))) = some r := h
 clear h
 obtain ⟨t102, A3, H⟩ := bS H; try dsimp only at H
 by_cases c4 : t102 < 0
 · rw [if_pos c4] at H
   have c4b0 := dL c4
   clear c4
   obtain rfl := Option.some.inj H
   go_enter Tryd.func97, Tryd.ntmps97
   go_wp2_with (first | ((with_reducible refine gate_dst (N := 2) rfl ?_); refine bX 2 92 #[.int .i64 a0_0, .int .i64 a0_1, .int .i64 a0_2, .int .i64 a0_3, .slice A0_4 l0_4.length c0_4, .bool a0_5] ?_; intro gb101 hg w5 hbox hb; have _ := aM (below_step hbZ hb); have _ := aM hbox; have _ := szZ hg; have _ := szZ hg; clear HB; rename_i HB BK101 GW101 GE101; clear hb hbox hg; have hz6 := cellsZ6 BK101.out) | ((with_reducible refine gate_callee (f := 113) rfl ?_); refine gL 8 Tryd.func113 #[.slice A0_4 l0_4.length c0_4, .int .i64 a1] ?_; (with_reducible refine (laws_szIntS.calls _ _ l0_4 a1 t102 _ ?side1 ?side2 A3.out).mono ?_); (case side1 => exact (cZ (Kd.C_below HR0_4.out HB.out))); (case side2 => exact HC0_4.out); rintro e w' ⟨rfl, ⟨nd, rfl⟩⟩; refine ⟨_, rfl, ?_⟩))
   go_ret
   exact ⟨z674d, zcb41⟩
 · rw [if_neg c4] at H
   have c4b0 := nL c4
   clear c4
   obtain rfl := Option.some.inj H
   go_enter Tryd.func97, Tryd.ntmps97
   go_wp2_with (first | ((with_reducible refine gate_dst (N := 2) rfl ?_); refine bX 2 92 #[.int .i64 a0_0, .int .i64 a0_1, .int .i64 a0_2, .int .i64 a0_3, .slice A0_4 l0_4.length c0_4, .bool a0_5] ?_; intro gb101 hg w7 hbox hb; have _ := aM (below_step hbZ hb); have _ := aM hbox; have _ := szZ hg; have _ := szZ hg; clear HB; rename_i HB BK101 GW101 GE101; clear hb hbox hg; have hz8 := cellsZ6 BK101.out) | ((with_reducible refine gate_callee (f := 113) rfl ?_); refine gL 8 Tryd.func113 #[.slice A0_4 l0_4.length c0_4, .int .i64 a1] ?_; (with_reducible refine (laws_szIntS.calls _ _ l0_4 a1 t102 _ ?side1 ?side2 A3.out).mono ?_); (case side1 => exact (cZ (Kd.C_below HR0_4.out HB.out))); (case side2 => exact HC0_4.out); rintro e w' ⟨rfl, ⟨nd, rfl⟩⟩; refine ⟨_, rfl, ?_⟩))
   go_ret
   exact ⟨z674d, zcb41⟩

end Go.Proofs.YtkgmoajdcibafaaDoor.P

-- written by a program of this session's (wip/pp)
namespace Go.Proofs.YtkgmoajdcibafaaDoor.P
open Go.RowKit Go.Proofs.YtkgmoajdcibafaaDoorW.PrintWords Go.Proofs.YtkgmoajdcibafaaDoorW.PrintLast Go.Proofs.YtkgmoajdcibafaaDoorW.PrintMore
attribute [local go_sem] max2_int min2_int max_two min_two max_three min_three max_four min_four str_geq str_gtr str_leq   -- for this text's walks alone
set_option linter.unusedVariables false
set_option linter.unusedSimpArgs false

/-! ### laws_szTold: function 62 -/
def laws_szTold.f (k : Nat) (a0_0 : ByteArray) (l0_1 : List (S119)) (a0_2 : Int) (a0_3 : Int) (a0_4 : Int) (a0_5 : Int) (a0_6 : Int) (a0_7 : Int) (l0_8 : List Int) (a0_9 : Bool) (a1 : Int) : Option (Int) := (laws_szKey.f k a0_0 l0_1 a0_2 a1).bind fun t102 => (if t102 < 0 then (some (-1)) else ((laws_szAgg.f a0_4 a0_5 a0_6 a0_7 l0_8 a0_9 t102).bind fun t103 => (if t103 < 0 then (some (-1)) else (some t103))))
theorem laws_szTold.mono : ∀ a0 a1 a2 a3 a4 a5 a6 a7 a8 a9 a10 k, LeO (laws_szTold.f k a0 a1 a2 a3 a4 a5 a6 a7 a8 a9 a10) (laws_szTold.f (k + 1) a0 a1 a2 a3 a4 a5 a6 a7 a8 a9 a10) := by
 intro a0 a1 a2 a3 a4 a5 a6 a7 a8 a9 a10 k
 have m0 := @laws_szKey.mono
 unfold laws_szTold.f
 exact moZ
set_option maxHeartbeats 8000000 in
set_option maxRecDepth 100000 in
theorem laws_szTold.calls (k : Nat) (a0_0 : ByteArray) (A0_1 : Option Addr) (c0_1 : Nat) (l0_1 : List (S119)) (a0_2 : Int) (a0_3 : Int) (a0_4 : Int) (a0_5 : Int) (a0_6 : Int) (a0_7 : Int) (A0_8 : Option Addr) (c0_8 : Nat) (l0_8 : List Int) (a0_9 : Bool) (a1 : Int) (r : Int) (w : World) (hr0_1 : Kd.C k119 w A0_1 l0_1.length l0_1) (hc0_1 : l0_1.length ≤ c0_1) (hr0_8 : Kd.C (Kd.int .i64) w A0_8 l0_8.length l0_8) (hc0_8 : l0_8.length ≤ c0_8) (h : laws_szTold.f k a0_0 l0_1 a0_2 a0_3 a0_4 a0_5 a0_6 a0_7 l0_8 a0_9 a1 = some r) :
 Calls Tryd.prog 62 #[.agg #[.string a0_0, .slice A0_1 l0_1.length c0_1, .int .i64 a0_2, .int .i64 a0_3, .int .i64 a0_4, .int .i64 a0_5, .int .i64 a0_6, .int .i64 a0_7, .slice A0_8 l0_8.length c0_8, .bool a0_9], .int .i64 a1] w fun e w' => e = .returned (.int .i64 r) ∧ Below w.heap.size w w' := by
 have hu94 := Tryd.underlying94
 have hu27 := Tryd.underlying27
 have hu92 := Tryd.underlying92
 have HR0_1 := aM hr0_1
 have HC0_1 := aM hc0_1
 clear hr0_1 hc0_1
 have HR0_8 := aM hr0_8
 have HC0_8 := aM hc0_8
 clear hr0_8 hc0_8
 have HB := aM (Below.refl w.heap.size w)
 have H : ((laws_szKey.f k a0_0 l0_1 a0_2 a1).bind fun t102 => (if t102 < 0 then (some (-1)) else ((laws_szAgg.f a0_4 a0_5 a0_6 a0_7 l0_8 a0_9 t102).bind fun t103 => (if t103 < 0 then (some (-1)) else (some t103))))) = some r := h
 clear h
 obtain ⟨t102, A3, H⟩ := bS H; try dsimp only at H
 by_cases c4 : t102 < 0
 · rw [if_pos c4] at H
   have c4b0 := dL c4
   clear c4
   obtain rfl := Option.some.inj H
   go_enter Tryd.func62, Tryd.ntmps62
   go_wp2_with (first | ((with_reducible refine gate_dst (N := 2) rfl ?_); refine bX 2 94 #[.string a0_0, .slice A0_1 l0_1.length c0_1, .int .i64 a0_2, .int .i64 a0_3, .int .i64 a0_4, .int .i64 a0_5, .int .i64 a0_6, .int .i64 a0_7, .slice A0_8 l0_8.length c0_8, .bool a0_9] ?_; intro gb101 hg w5 hbox hb; have _ := aM (below_step hbZ hb); have _ := aM hbox; have _ := szZ hg; have _ := szZ hg; clear HB; rename_i HB BK101 GW101 GE101; clear hb hbox hg; have hz6 := cellsZ10 BK101.out) | ((with_reducible refine gate_callee (f := 9) rfl ?_); refine gL 8 Tryd.func9 #[.agg #[.string a0_0, .slice A0_1 l0_1.length c0_1, .int .i64 a0_2], .int .i64 a1] ?_; (with_reducible refine (laws_szKey.calls k a0_0 _ _ l0_1 a0_2 a1 t102 _ ?side1 ?side2 A3.out).mono ?_); (case side1 => exact (cZ (Kd.C_below HR0_1.out HB.out))); (case side2 => exact HC0_1.out); rintro e w7 ⟨rfl, hb⟩; refine ⟨_, rfl, ?_⟩; have _ := bB gb101 hb; have _ := aM (below_step hbZ hb); clear BK101 HB; rename_i BK101 HB; (try clear hb)))
   go_ret
   exact ⟨z674d, zcb41⟩
 · rw [if_neg c4] at H
   have c4b0 := nL c4
   clear c4
   obtain ⟨t103, A8, H⟩ := bS H; try dsimp only at H
   by_cases c9 : t103 < 0
   · rw [if_pos c9] at H
     have c9b0 := dL c9
     clear c9
     obtain rfl := Option.some.inj H
     go_enter Tryd.func62, Tryd.ntmps62
     go_wp2_with (first | ((with_reducible refine gate_dst (N := 2) rfl ?_); refine bX 2 94 #[.string a0_0, .slice A0_1 l0_1.length c0_1, .int .i64 a0_2, .int .i64 a0_3, .int .i64 a0_4, .int .i64 a0_5, .int .i64 a0_6, .int .i64 a0_7, .slice A0_8 l0_8.length c0_8, .bool a0_9] ?_; intro gb101 hg w10 hbox hb; have _ := aM (below_step hbZ hb); have _ := aM hbox; have _ := szZ hg; have _ := szZ hg; clear HB; rename_i HB BK101 GW101 GE101; clear hb hbox hg; have hz11 := cellsZ10 BK101.out) | ((with_reducible refine gate_callee (f := 9) rfl ?_); refine gL 8 Tryd.func9 #[.agg #[.string a0_0, .slice A0_1 l0_1.length c0_1, .int .i64 a0_2], .int .i64 a1] ?_; (with_reducible refine (laws_szKey.calls k a0_0 _ _ l0_1 a0_2 a1 t102 _ ?side1 ?side2 A3.out).mono ?_); (case side1 => exact (cZ (Kd.C_below HR0_1.out HB.out))); (case side2 => exact HC0_1.out); rintro e w12 ⟨rfl, hb⟩; refine ⟨_, rfl, ?_⟩; have _ := bB gb101 hb; have _ := aM (below_step hbZ hb); clear BK101 HB; rename_i BK101 HB; (try clear hb); have hz13 := cellsZ10 BK101.out) | ((with_reducible refine gate_callee (f := 97) rfl ?_); refine gL 14 Tryd.func97 #[.agg #[.int .i64 a0_4, .int .i64 a0_5, .int .i64 a0_6, .int .i64 a0_7, .slice A0_8 l0_8.length c0_8, .bool a0_9], .int .i64 t102] ?_; (with_reducible refine (laws_szAgg.calls a0_4 a0_5 a0_6 a0_7 _ _ l0_8 a0_9 t102 t103 _ ?side1 ?side2 A8.out).mono ?_); (case side1 => exact (cZ (Kd.C_below HR0_8.out HB.out))); (case side2 => exact HC0_8.out); rintro e w14 ⟨rfl, hb⟩; refine ⟨_, rfl, ?_⟩; have _ := bB gb101 hb; have _ := aM (below_step hbZ hb); clear BK101 HB; rename_i BK101 HB; (try clear hb)))
     go_ret
     exact ⟨z674d, zcb41⟩
   · rw [if_neg c9] at H
     have c9b0 := nL c9
     clear c9
     obtain rfl := Option.some.inj H
     go_enter Tryd.func62, Tryd.ntmps62
     go_wp2_with (first | ((with_reducible refine gate_dst (N := 2) rfl ?_); refine bX 2 94 #[.string a0_0, .slice A0_1 l0_1.length c0_1, .int .i64 a0_2, .int .i64 a0_3, .int .i64 a0_4, .int .i64 a0_5, .int .i64 a0_6, .int .i64 a0_7, .slice A0_8 l0_8.length c0_8, .bool a0_9] ?_; intro gb101 hg w15 hbox hb; have _ := aM (below_step hbZ hb); have _ := aM hbox; have _ := szZ hg; have _ := szZ hg; clear HB; rename_i HB BK101 GW101 GE101; clear hb hbox hg; have hz16 := cellsZ10 BK101.out) | ((with_reducible refine gate_callee (f := 9) rfl ?_); refine gL 8 Tryd.func9 #[.agg #[.string a0_0, .slice A0_1 l0_1.length c0_1, .int .i64 a0_2], .int .i64 a1] ?_; (with_reducible refine (laws_szKey.calls k a0_0 _ _ l0_1 a0_2 a1 t102 _ ?side1 ?side2 A3.out).mono ?_); (case side1 => exact (cZ (Kd.C_below HR0_1.out HB.out))); (case side2 => exact HC0_1.out); rintro e w17 ⟨rfl, hb⟩; refine ⟨_, rfl, ?_⟩; have _ := bB gb101 hb; have _ := aM (below_step hbZ hb); clear BK101 HB; rename_i BK101 HB; (try clear hb); have hz18 := cellsZ10 BK101.out) | ((with_reducible refine gate_callee (f := 97) rfl ?_); refine gL 14 Tryd.func97 #[.agg #[.int .i64 a0_4, .int .i64 a0_5, .int .i64 a0_6, .int .i64 a0_7, .slice A0_8 l0_8.length c0_8, .bool a0_9], .int .i64 t102] ?_; (with_reducible refine (laws_szAgg.calls a0_4 a0_5 a0_6 a0_7 _ _ l0_8 a0_9 t102 t103 _ ?side1 ?side2 A8.out).mono ?_); (case side1 => exact (cZ (Kd.C_below HR0_8.out HB.out))); (case side2 => exact HC0_8.out); rintro e w19 ⟨rfl, hb⟩; refine ⟨_, rfl, ?_⟩; have _ := bB gb101 hb; have _ := aM (below_step hbZ hb); clear BK101 HB; rename_i BK101 HB; (try clear hb)))
     go_ret
     exact ⟨z674d, zcb41⟩

end Go.Proofs.YtkgmoajdcibafaaDoor.P

-- written by a program of this session's (wip/pp)
namespace Go.Proofs.YtkgmoajdcibafaaDoor.P
open Go.RowKit Go.Proofs.YtkgmoajdcibafaaDoorW.PrintWords Go.Proofs.YtkgmoajdcibafaaDoorW.PrintLast Go.Proofs.YtkgmoajdcibafaaDoorW.PrintMore
attribute [local go_sem] max2_int min2_int max_two min_two max_three min_three max_four min_four str_geq str_gtr str_leq   -- for this text's walks alone
set_option linter.unusedVariables false
set_option linter.unusedSimpArgs false

/-! ### laws_szToldS: function 24 -/
def laws_szToldS.l0 : Nat → List (S94) → Int → Int → Option (Int)
 | 0, _, _, _ => none
 | k + 1, x0, x1, x5 => if x5 < (x0.length : Int) then (if 0 ≤ x5 then ((laws_szTold.f k ((rd_T94 x0 x5).f0.f0) ((rd_T94 x0 x5).f0.f1) ((rd_T94 x0 x5).f0.f2) ((rd_T94 x0 x5).f1) ((rd_T94 x0 x5).f2.f0) ((rd_T94 x0 x5).f2.f1) ((rd_T94 x0 x5).f2.f2) ((rd_T94 x0 x5).f2.f3) ((rd_T94 x0 x5).f2.f4) ((rd_T94 x0 x5).f2.f5) x1).bind fun t102 => (if t102 < 0 then (some (-1)) else (laws_szToldS.l0 k x0 t102 (wrap64 (x5 + 1))))) else (none)) else (some x1)
def laws_szToldS.f (k : Nat) (l0 : List (S94)) (a1 : Int) : Option (Int) := if (wrap64 (a1 - (l0.length : Int))) < 0 then (some (-1)) else (laws_szToldS.l0 k l0 (wrap64 (a1 - (l0.length : Int))) 0)
theorem laws_szToldS.mono_l : ∀ k, (∀ y0 y1 y2, LeO (laws_szToldS.l0 k y0 y1 y2) (laws_szToldS.l0 (k + 1) y0 y1 y2))
 | 0 => fun _ _ _ r h => by simp [laws_szToldS.l0] at h
 | k + 1 => by
  have ih0 := laws_szToldS.mono_l k; have m0 := @laws_szTold.mono
  · intro y0 y1 y2
    unfold laws_szToldS.l0
    exact moZ
theorem laws_szToldS.mono : ∀ a0 a1 k, LeO (laws_szToldS.f k a0 a1) (laws_szToldS.f (k + 1) a0 a1) := by
 intro a0 a1 k
 have ih0 := laws_szToldS.mono_l k
 have m0 := @laws_szTold.mono
 unfold laws_szToldS.f
 exact moZ
set_option maxHeartbeats 8000000 in
set_option maxRecDepth 100000 in
theorem laws_szToldS.calls (k : Nat) (A0 : Option Addr) (c0 : Nat) (l0 : List (S94)) (a1 : Int) (r : Int) (w : World) (hr0 : Kd.C k94 w A0 l0.length l0) (hc0 : l0.length ≤ c0) (h : laws_szToldS.f k l0 a1 = some r) :
 Calls Tryd.prog 24 #[.slice A0 l0.length c0, .int .i64 a1] w fun e w' => e = .returned (.int .i64 r) ∧ Below w.heap.size w w' := by
 have hu94 := Tryd.underlying94
 have HR0 := aM hr0
 have HC0 := aM hc0
 clear hr0 hc0
 have HB := aM (Below.refl w.heap.size w)
 have H : (if (wrap64 (a1 - (l0.length : Int))) < 0 then (some (-1)) else (laws_szToldS.l0 k l0 (wrap64 (a1 - (l0.length : Int))) 0)) = some r := h
 clear h
 by_cases c3 : (wrap64 (a1 - (l0.length : Int))) < 0
 · rw [if_pos c3] at H
   have c3b0 := dL c3
   clear c3
   obtain rfl := Option.some.inj H
   go_enter Tryd.func24, Tryd.ntmps24
   go_wp2
   go_ret
   exact ⟨z674d, z5acd⟩
 · rw [if_neg c3] at H
   have c3b0 := nL c3
   clear c3
   have H' := aM H
   clear H
   go_enter Tryd.func24, Tryd.ntmps24
   go_wp2
   go_loopg [1, 5] k (fun kq v1 v5 w' => ∃ (x1_1 : Int) (x5_1 : Int), v1 = .int .i64 x1_1 ∧ v5 = .int .i64 x5_1 ∧ Aside0 (laws_szToldS.l0 kq l0 x1_1 x5_1 = some r) ∧ Aside0 (kq ≤ k) ∧ Aside0 (Below w.heap.size w w'))
   case atStart => exact ⟨(wrap64 (a1 - (l0.length : Int))), (0), z4458, z4458, H', ⟨Nat.le_refl _⟩, ⟨z5acd⟩⟩
   case round =>
    clear H'
    (try clear c3b0)
    obtain ⟨x1_1, x5_1, rfl, rfl, HA, HK1, HB⟩ := hrel
    cases gk with
    | zero => exact absurd HA.out (by simp [laws_szToldS.l0])
    | succ k1 =>
     have H := HA.out
     clear HA
     simp only [laws_szToldS.l0] at H
     by_cases c4 : x5_1 < (l0.length : Int)
     · rw [if_pos c4] at H
       have c4b0 := dL c4
       clear c4
       obtain ⟨c5b0, H⟩ := sE H
       obtain ⟨t102, A6, H⟩ := bS H; try dsimp only at H
       by_cases c7 : t102 < 0
       · rw [if_pos c7] at H
         have c7b0 := dL c7
         clear c7
         obtain rfl := Option.some.inj H
         have p101 : 0 ≤ (x5_1 : Int) := of_decide_eq_true z1200
         have q101 : x5_1 < (l0.length : Int) := of_decide_eq_true z1200
         obtain ⟨ad101, A101_1, c101_1, A101_8, c101_8, e101, hx101_0, hx101_1, hx101_2, hx101_3, hx101_4, hx101_5, hx101_6, hx101_7, hx101_8, hx101_9, hl101_1, hi101_1, hl101_8, hi101_8⟩ := at_T94 HR0.out x5_1 p101 q101
         cases e101
         have TW101_1 := aM hx101_1
         have TW101_8 := aM hx101_8
         replace hx101_0 := (HB.out.cell (World.block_lt_of_cell? w _ hx101_0)).trans hx101_0
         replace hx101_1 := (HB.out.cell (World.block_lt_of_cell? w _ hx101_1)).trans hx101_1
         replace hx101_2 := (HB.out.cell (World.block_lt_of_cell? w _ hx101_2)).trans hx101_2
         replace hx101_3 := (HB.out.cell (World.block_lt_of_cell? w _ hx101_3)).trans hx101_3
         replace hx101_4 := (HB.out.cell (World.block_lt_of_cell? w _ hx101_4)).trans hx101_4
         replace hx101_5 := (HB.out.cell (World.block_lt_of_cell? w _ hx101_5)).trans hx101_5
         replace hx101_6 := (HB.out.cell (World.block_lt_of_cell? w _ hx101_6)).trans hx101_6
         replace hx101_7 := (HB.out.cell (World.block_lt_of_cell? w _ hx101_7)).trans hx101_7
         replace hx101_8 := (HB.out.cell (World.block_lt_of_cell? w _ hx101_8)).trans hx101_8
         replace hx101_9 := (HB.out.cell (World.block_lt_of_cell? w _ hx101_9)).trans hx101_9
         have HR101_1 := aM hi101_1
         have HC101_1 := aM hl101_1
         clear hi101_1 hl101_1
         have HR101_8 := aM hi101_8
         have HC101_8 := aM hl101_8
         clear hi101_8 hl101_8
         replace p101 := eq_true p101
         replace q101 := eq_true q101
         go_wp2_with (first | ((with_reducible refine gate_callee (f := 62) rfl ?_); refine gL 23 Tryd.func62 #[.agg #[.string ((rd_T94 l0 x5_1).f0.f0), .slice A101_1 ((rd_T94 l0 x5_1).f0.f1).length c101_1, .int .i64 ((rd_T94 l0 x5_1).f0.f2), .int .i64 ((rd_T94 l0 x5_1).f1), .int .i64 ((rd_T94 l0 x5_1).f2.f0), .int .i64 ((rd_T94 l0 x5_1).f2.f1), .int .i64 ((rd_T94 l0 x5_1).f2.f2), .int .i64 ((rd_T94 l0 x5_1).f2.f3), .slice A101_8 ((rd_T94 l0 x5_1).f2.f4).length c101_8, .bool ((rd_T94 l0 x5_1).f2.f5)], .int .i64 x1_1] ?_; (with_reducible refine (laws_szTold.calls k1 ((rd_T94 l0 x5_1).f0.f0) _ _ ((rd_T94 l0 x5_1).f0.f1) ((rd_T94 l0 x5_1).f0.f2) ((rd_T94 l0 x5_1).f1) ((rd_T94 l0 x5_1).f2.f0) ((rd_T94 l0 x5_1).f2.f1) ((rd_T94 l0 x5_1).f2.f2) ((rd_T94 l0 x5_1).f2.f3) _ _ ((rd_T94 l0 x5_1).f2.f4) ((rd_T94 l0 x5_1).f2.f5) x1_1 t102 _ ?side1 ?side2 ?side3 ?side4 A6.out).mono ?_); (case side1 => exact (cZ (Kd.C_below HR101_1.out HB.out))); (case side2 => exact HC101_1.out); (case side3 => exact (cZ (Kd.C_below HR101_8.out HB.out))); (case side4 => exact HC101_8.out); rintro e w8 ⟨rfl, hb⟩; refine ⟨_, rfl, ?_⟩; have _ := aM (below_step hbZ hb); clear HB; rename_i HB; (try clear hb)))
         go_ret
         exact ⟨z674d, z5acd⟩
       · rw [if_neg c7] at H
         have c7b0 := nL c7
         clear c7
         have H' := aM H
         clear H
         have p101 : 0 ≤ (x5_1 : Int) := of_decide_eq_true z1200
         have q101 : x5_1 < (l0.length : Int) := of_decide_eq_true z1200
         obtain ⟨ad101, A101_1, c101_1, A101_8, c101_8, e101, hx101_0, hx101_1, hx101_2, hx101_3, hx101_4, hx101_5, hx101_6, hx101_7, hx101_8, hx101_9, hl101_1, hi101_1, hl101_8, hi101_8⟩ := at_T94 HR0.out x5_1 p101 q101
         cases e101
         have TW101_1 := aM hx101_1
         have TW101_8 := aM hx101_8
         replace hx101_0 := (HB.out.cell (World.block_lt_of_cell? w _ hx101_0)).trans hx101_0
         replace hx101_1 := (HB.out.cell (World.block_lt_of_cell? w _ hx101_1)).trans hx101_1
         replace hx101_2 := (HB.out.cell (World.block_lt_of_cell? w _ hx101_2)).trans hx101_2
         replace hx101_3 := (HB.out.cell (World.block_lt_of_cell? w _ hx101_3)).trans hx101_3
         replace hx101_4 := (HB.out.cell (World.block_lt_of_cell? w _ hx101_4)).trans hx101_4
         replace hx101_5 := (HB.out.cell (World.block_lt_of_cell? w _ hx101_5)).trans hx101_5
         replace hx101_6 := (HB.out.cell (World.block_lt_of_cell? w _ hx101_6)).trans hx101_6
         replace hx101_7 := (HB.out.cell (World.block_lt_of_cell? w _ hx101_7)).trans hx101_7
         replace hx101_8 := (HB.out.cell (World.block_lt_of_cell? w _ hx101_8)).trans hx101_8
         replace hx101_9 := (HB.out.cell (World.block_lt_of_cell? w _ hx101_9)).trans hx101_9
         have HR101_1 := aM hi101_1
         have HC101_1 := aM hl101_1
         clear hi101_1 hl101_1
         have HR101_8 := aM hi101_8
         have HC101_8 := aM hl101_8
         clear hi101_8 hl101_8
         replace p101 := eq_true p101
         replace q101 := eq_true q101
         go_wp2_with (first | ((with_reducible refine gate_callee (f := 62) rfl ?_); refine gL 23 Tryd.func62 #[.agg #[.string ((rd_T94 l0 x5_1).f0.f0), .slice A101_1 ((rd_T94 l0 x5_1).f0.f1).length c101_1, .int .i64 ((rd_T94 l0 x5_1).f0.f2), .int .i64 ((rd_T94 l0 x5_1).f1), .int .i64 ((rd_T94 l0 x5_1).f2.f0), .int .i64 ((rd_T94 l0 x5_1).f2.f1), .int .i64 ((rd_T94 l0 x5_1).f2.f2), .int .i64 ((rd_T94 l0 x5_1).f2.f3), .slice A101_8 ((rd_T94 l0 x5_1).f2.f4).length c101_8, .bool ((rd_T94 l0 x5_1).f2.f5)], .int .i64 x1_1] ?_; (with_reducible refine (laws_szTold.calls k1 ((rd_T94 l0 x5_1).f0.f0) _ _ ((rd_T94 l0 x5_1).f0.f1) ((rd_T94 l0 x5_1).f0.f2) ((rd_T94 l0 x5_1).f1) ((rd_T94 l0 x5_1).f2.f0) ((rd_T94 l0 x5_1).f2.f1) ((rd_T94 l0 x5_1).f2.f2) ((rd_T94 l0 x5_1).f2.f3) _ _ ((rd_T94 l0 x5_1).f2.f4) ((rd_T94 l0 x5_1).f2.f5) x1_1 t102 _ ?side1 ?side2 ?side3 ?side4 A6.out).mono ?_); (case side1 => exact (cZ (Kd.C_below HR101_1.out HB.out))); (case side2 => exact HC101_1.out); (case side3 => exact (cZ (Kd.C_below HR101_8.out HB.out))); (case side4 => exact HC101_8.out); rintro e w9 ⟨rfl, hb⟩; refine ⟨_, rfl, ?_⟩; have _ := aM (below_step hbZ hb); clear HB; rename_i HB; (try clear hb)))
         go_roundg k1
         case measure => have := HK1.out; omega
         case rel => exact ⟨(t102), (wrap64 (x5_1 + 1)), z4458, z4458, H', ⟨zfb39⟩, ⟨z5acd⟩⟩
     · rw [if_neg c4] at H
       have c4b0 := nL c4
       clear c4
       obtain rfl := Option.some.inj H
       go_wp2
       go_ret
       exact ⟨z674d, z5acd⟩

end Go.Proofs.YtkgmoajdcibafaaDoor.P

-- written by a program of this session's (wip/pp)
namespace Go.Proofs.YtkgmoajdcibafaaDoor.P
open Go.RowKit Go.Proofs.YtkgmoajdcibafaaDoorW.PrintWords Go.Proofs.YtkgmoajdcibafaaDoorW.PrintLast Go.Proofs.YtkgmoajdcibafaaDoorW.PrintMore
attribute [local go_sem] max2_int min2_int max_two min_two max_three min_three max_four min_four str_geq str_gtr str_leq   -- for this text's walks alone
set_option linter.unusedVariables false
set_option linter.unusedSimpArgs false

/-! ### spec_l1In: function 84 -/
def spec_l1In.f (a0 : Int) (a1 : Int) (a2 : Int) : Option (Bool) := if a0 ≥ a1 then (some (decide (a0 ≤ a2))) else (some false)
set_option maxHeartbeats 8000000 in
set_option maxRecDepth 100000 in
theorem spec_l1In.calls (a0 : Int) (a1 : Int) (a2 : Int) (r : Bool) (w : World) (h : spec_l1In.f a0 a1 a2 = some r) :
 Calls Tryd.prog 84 #[.int .i64 a0, .int .i64 a1, .int .i64 a2] w fun e w' => e = .returned (.bool r) ∧ Drawn0 w w' := by
 have H : (if a0 ≥ a1 then (some (decide (a0 ≤ a2))) else (some false)) = some r := h
 clear h
 by_cases c4 : a0 ≥ a1
 · rw [if_pos c4] at H
   have c4b0 := dE c4
   clear c4
   obtain rfl := Option.some.inj H
   go_enter Tryd.func84, Tryd.ntmps84
   go_wp2
   go_ret
   exact ⟨z4458, za9de⟩
 · rw [if_neg c4] at H
   have c4b0 := nE c4
   clear c4
   obtain rfl := Option.some.inj H
   go_enter Tryd.func84, Tryd.ntmps84
   go_wp2
   go_ret
   exact ⟨z4458, za9de⟩

end Go.Proofs.YtkgmoajdcibafaaDoor.P

-- written by a program of this session's (wip/pp)
namespace Go.Proofs.YtkgmoajdcibafaaDoor.P
open Go.RowKit Go.Proofs.YtkgmoajdcibafaaDoorW.PrintWords Go.Proofs.YtkgmoajdcibafaaDoorW.PrintLast Go.Proofs.YtkgmoajdcibafaaDoorW.PrintMore
attribute [local go_sem] max2_int min2_int max_two min_two max_three min_three max_four min_four str_geq str_gtr str_leq   -- for this text's walks alone
set_option linter.unusedVariables false
set_option linter.unusedSimpArgs false

/-! ### spec_l1Name: function 86 -/
def spec_l1Name.l0 : Nat → ByteArray → Int → Option (Bool)
 | 0, _, _ => none
 | k + 1, x0, x3 => if x3 < (x0.size : Int) then (if 0 ≤ x3 then (if (bt x0 x3) ≥ 97 then (if (bt x0 x3) ≤ 122 then (spec_l1Name.l0 k x0 (wrap64 (x3 + 1))) else (if (bt x0 x3) ≥ 65 then (if ((bt x0 x3) ≤ 90) then (spec_l1Name.l0 k x0 (wrap64 (x3 + 1))) else (some false)) else (some false))) else (if (bt x0 x3) ≥ 65 then (if ((bt x0 x3) ≤ 90) then (spec_l1Name.l0 k x0 (wrap64 (x3 + 1))) else (some false)) else (some false))) else (none)) else (some true)
def spec_l1Name.f (k : Nat) (a0 : ByteArray) : Option (Bool) := (spec_l1In.f (a0.size : Int) 1 12).bind fun t101 => (if t101 = true then (spec_l1Name.l0 k a0 0) else (some false))
theorem spec_l1Name.mono_l : ∀ k, (∀ y0 y1, LeO (spec_l1Name.l0 k y0 y1) (spec_l1Name.l0 (k + 1) y0 y1))
 | 0 => fun _ _ r h => by simp [spec_l1Name.l0] at h
 | k + 1 => by
  have ih0 := spec_l1Name.mono_l k
  · intro y0 y1
    unfold spec_l1Name.l0
    exact moZ
theorem spec_l1Name.mono : ∀ a0 k, LeO (spec_l1Name.f k a0) (spec_l1Name.f (k + 1) a0) := by
 intro a0 k
 have ih0 := spec_l1Name.mono_l k
 unfold spec_l1Name.f
 exact moZ
set_option maxHeartbeats 8000000 in
set_option maxRecDepth 100000 in
theorem spec_l1Name.calls (k : Nat) (a0 : ByteArray) (r : Bool) (w : World) (h : spec_l1Name.f k a0 = some r) :
 Calls Tryd.prog 86 #[.string a0] w fun e w' => e = .returned (.bool r) ∧ Drawn0 w w' := by
 have H : ((spec_l1In.f (a0.size : Int) 1 12).bind fun t101 => (if t101 = true then (spec_l1Name.l0 k a0 0) else (some false))) = some r := h
 clear h
 obtain ⟨t101, A2, H⟩ := bS H; try dsimp only at H
 by_cases c3 : t101 = true
 · subst c3
   rw [if_pos rfl] at H
   have H' := aM H
   clear H
   go_enter Tryd.func86, Tryd.ntmps86
   go_wp2_with (first | ((with_reducible refine gate_callee (f := 84) rfl ?_); refine gL 7 Tryd.func84 #[.int .i64 (a0.size : Int), .int .i64 1, .int .i64 12] ?_; (with_reducible refine (spec_l1In.calls (a0.size : Int) 1 12 true _ A2.out).mono ?_); rintro e w' ⟨rfl, ⟨nd, rfl⟩⟩; refine ⟨_, rfl, ?_⟩))
   go_loopg [3] k (fun kq v3 w' => ∃ (x3_1 : Int), v3 = .int .i64 x3_1 ∧ Aside0 (spec_l1Name.l0 kq a0 x3_1 = some r) ∧ Aside0 (kq ≤ k) ∧ Drawn0 w w')
   case atStart => exact ⟨(0), z4458, H', ⟨Nat.le_refl _⟩, za9de⟩
   case round =>
    clear H'
    (try clear c3)
    obtain ⟨x3_1, rfl, HA, HK1, ⟨m1, rfl⟩⟩ := hrel
    cases gk with
    | zero => exact absurd HA.out (by simp [spec_l1Name.l0])
    | succ k1 =>
     have H := HA.out
     clear HA
     simp only [spec_l1Name.l0] at H
     by_cases c4 : x3_1 < (a0.size : Int)
     · rw [if_pos c4] at H
       have c4b0 := dL c4
       clear c4
       obtain ⟨c5b0, H⟩ := sE H
       by_cases c7 : (bt a0 x3_1) ≥ 97
       · rw [if_pos c7] at H
         have c7b0 := dE c7
         clear c7
         by_cases c8 : (bt a0 x3_1) ≤ 122
         · rw [if_pos c8] at H
           have c8b0 := dE c8
           clear c8
           have H' := aM H
           clear H
           have p6 : 0 ≤ (x3_1 : Int) := of_decide_eq_true z1200
           have q6 : x3_1 < (a0.size : Int) := of_decide_eq_true z1200
           have hx6 := bt_at a0 x3_1
           replace p6 := eq_true p6
           replace q6 := eq_true q6
           go_wp2
           go_roundg k1
           case measure => have := HK1.out; omega
           case rel => exact ⟨(wrap64 (x3_1 + 1)), z4458, H', ⟨zfb39⟩, za9de⟩
         · rw [if_neg c8] at H
           have c8b0 := nE c8
           clear c8
           by_cases c9 : (bt a0 x3_1) ≥ 65
           · rw [if_pos c9] at H
             have c9b0 := dE c9
             clear c9
             by_cases c10 : ((bt a0 x3_1) ≤ 90)
             · rw [if_pos c10] at H
               have c10b0 := dE c10
               clear c10
               have H' := aM H
               clear H
               have p6 : 0 ≤ (x3_1 : Int) := of_decide_eq_true z1200
               have q6 : x3_1 < (a0.size : Int) := of_decide_eq_true z1200
               have hx6 := bt_at a0 x3_1
               replace p6 := eq_true p6
               replace q6 := eq_true q6
               go_wp2
               go_roundg k1
               case measure => have := HK1.out; omega
               case rel => exact ⟨(wrap64 (x3_1 + 1)), z4458, H', ⟨zfb39⟩, za9de⟩
             · rw [if_neg c10] at H
               have c10b0 := nE c10
               clear c10
               obtain rfl := Option.some.inj H
               have p6 : 0 ≤ (x3_1 : Int) := of_decide_eq_true z1200
               have q6 : x3_1 < (a0.size : Int) := of_decide_eq_true z1200
               have hx6 := bt_at a0 x3_1
               replace p6 := eq_true p6
               replace q6 := eq_true q6
               go_wp2
               go_ret
               exact ⟨z4458, za9de⟩
           · rw [if_neg c9] at H
             have c9b0 := nE c9
             clear c9
             obtain rfl := Option.some.inj H
             have p6 : 0 ≤ (x3_1 : Int) := of_decide_eq_true z1200
             have q6 : x3_1 < (a0.size : Int) := of_decide_eq_true z1200
             have hx6 := bt_at a0 x3_1
             replace p6 := eq_true p6
             replace q6 := eq_true q6
             go_wp2
             go_ret
             exact ⟨z4458, za9de⟩
       · rw [if_neg c7] at H
         have c7b0 := nE c7
         clear c7
         by_cases c11 : (bt a0 x3_1) ≥ 65
         · rw [if_pos c11] at H
           have c11b0 := dE c11
           clear c11
           by_cases c12 : ((bt a0 x3_1) ≤ 90)
           · rw [if_pos c12] at H
             have c12b0 := dE c12
             clear c12
             have H' := aM H
             clear H
             have p6 : 0 ≤ (x3_1 : Int) := of_decide_eq_true z1200
             have q6 : x3_1 < (a0.size : Int) := of_decide_eq_true z1200
             have hx6 := bt_at a0 x3_1
             replace p6 := eq_true p6
             replace q6 := eq_true q6
             go_wp2
             go_roundg k1
             case measure => have := HK1.out; omega
             case rel => exact ⟨(wrap64 (x3_1 + 1)), z4458, H', ⟨zfb39⟩, za9de⟩
           · rw [if_neg c12] at H
             have c12b0 := nE c12
             clear c12
             obtain rfl := Option.some.inj H
             have p6 : 0 ≤ (x3_1 : Int) := of_decide_eq_true z1200
             have q6 : x3_1 < (a0.size : Int) := of_decide_eq_true z1200
             have hx6 := bt_at a0 x3_1
             replace p6 := eq_true p6
             replace q6 := eq_true q6
             go_wp2
             go_ret
             exact ⟨z4458, za9de⟩
         · rw [if_neg c11] at H
           have c11b0 := nE c11
           clear c11
           obtain rfl := Option.some.inj H
           have p6 : 0 ≤ (x3_1 : Int) := of_decide_eq_true z1200
           have q6 : x3_1 < (a0.size : Int) := of_decide_eq_true z1200
           have hx6 := bt_at a0 x3_1
           replace p6 := eq_true p6
           replace q6 := eq_true q6
           go_wp2
           go_ret
           exact ⟨z4458, za9de⟩
     · rw [if_neg c4] at H
       have c4b0 := nL c4
       clear c4
       obtain rfl := Option.some.inj H
       go_wp2
       go_ret
       exact ⟨z4458, za9de⟩
 · replace c3 := Bool.eq_false_iff.mpr c3
   subst c3
   rw [if_neg (show ¬ (false = true) by decide)] at H
   obtain rfl := Option.some.inj H
   go_enter Tryd.func86, Tryd.ntmps86
   go_wp2_with (first | ((with_reducible refine gate_callee (f := 84) rfl ?_); refine gL 7 Tryd.func84 #[.int .i64 (a0.size : Int), .int .i64 1, .int .i64 12] ?_; (with_reducible refine (spec_l1In.calls (a0.size : Int) 1 12 false _ A2.out).mono ?_); rintro e w' ⟨rfl, ⟨nd, rfl⟩⟩; refine ⟨_, rfl, ?_⟩))
   go_ret
   exact ⟨z4458, za9de⟩

end Go.Proofs.YtkgmoajdcibafaaDoor.P

-- written by a program of this session's (wip/pp)
namespace Go.Proofs.YtkgmoajdcibafaaDoor.P
open Go.RowKit Go.Proofs.YtkgmoajdcibafaaDoorW.PrintWords Go.Proofs.YtkgmoajdcibafaaDoorW.PrintLast Go.Proofs.YtkgmoajdcibafaaDoorW.PrintMore
attribute [local go_sem] max2_int min2_int max_two min_two max_three min_three max_four min_four str_geq str_gtr str_leq   -- for this text's walks alone
set_option linter.unusedVariables false
set_option linter.unusedSimpArgs false

/-! ### spec_GoodKey: function 41 -/
mutual
def spec_GoodKey.j0 : Nat → Bool → ByteArray → List (S123) → Int → Option (Bool)
 | 0, _, _, _, _ => none
 | k + 1, x20, x102000, x102001, x102002 => if x20 = true then (some false) else (spec_GoodKey.l0 k x102001 (x102001.length : Int) 0 x102000 x102001 x102002)
def spec_GoodKey.l0 : Nat → List (S123) → Int → Int → ByteArray → List (S123) → Int → Option (Bool)
 | 0, _, _, _, _, _, _ => none
 | k + 1, x22, x23, x24, x102000, x102001, x102002 => if x24 < x23 then (if 0 ≤ x24 then (if x24 < (x22.length : Int) then ((spec_l1Name.f k ((rd_T123 x22 x24).f0)).bind fun t106 => (if t106 = true then ((spec_l1Name.f k ((rd_T123 x22 x24).f1)).bind fun t107 => (if t107 = true then (if x24 > 0 then (if 0 ≤ (wrap64 (x24 - 1)) then (if (wrap64 (x24 - 1)) < (x102001.length : Int) then (if ((Op.bytesLess (((rd_T123 x102001 (wrap64 (x24 - 1))).f0).toList) (((rd_T123 x22 x24).f0).toList)) = true) then (spec_GoodKey.l0 k x22 x23 (wrap64 (x24 + 1)) x102000 x102001 x102002) else (some false)) else (none)) else (none)) else (spec_GoodKey.l0 k x22 x23 (wrap64 (x24 + 1)) x102000 x102001 x102002)) else (some false))) else (some false))) else (none)) else (none)) else (some true)
end
def spec_GoodKey.f (k : Nat) (a0_0 : ByteArray) (l0_1 : List (S123)) (a0_2 : Int) : Option (Bool) := (spec_l1Name.f k a0_0).bind fun t102 => (if t102 = true then (if (l0_1.length : Int) > 4 then (spec_GoodKey.j0 k true a0_0 l0_1 a0_2) else ((spec_l1In.f a0_2 0 1000000000).bind fun t103 => (spec_GoodKey.j0 k (!t103) a0_0 l0_1 a0_2))) else (spec_GoodKey.j0 k true a0_0 l0_1 a0_2))
theorem spec_GoodKey.mono_l : ∀ k, (∀ y0 y1 y2 y3, LeO (spec_GoodKey.j0 k y0 y1 y2 y3) (spec_GoodKey.j0 (k + 1) y0 y1 y2 y3)) ∧ (∀ y0 y1 y2 y3 y4 y5, LeO (spec_GoodKey.l0 k y0 y1 y2 y3 y4 y5) (spec_GoodKey.l0 (k + 1) y0 y1 y2 y3 y4 y5))
 | 0 => ⟨fun _ _ _ _ r h => by simp [spec_GoodKey.j0] at h, fun _ _ _ _ _ _ r h => by simp [spec_GoodKey.l0] at h⟩
 | k + 1 => by
  obtain ⟨ih0, ih1⟩ := spec_GoodKey.mono_l k; have m0 := @spec_l1Name.mono
  refine ⟨?_, ?_⟩
  · intro y0 y1 y2 y3
    unfold spec_GoodKey.j0
    exact moZ
  · intro y0 y1 y2 y3 y4 y5
    unfold spec_GoodKey.l0
    exact moZ
theorem spec_GoodKey.mono : ∀ a0 a1 a2 k, LeO (spec_GoodKey.f k a0 a1 a2) (spec_GoodKey.f (k + 1) a0 a1 a2) := by
 intro a0 a1 a2 k
 obtain ⟨ih0, ih1⟩ := spec_GoodKey.mono_l k
 have m0 := @spec_l1Name.mono
 unfold spec_GoodKey.f
 exact moZ
set_option maxHeartbeats 8000000 in
set_option maxRecDepth 100000 in
theorem spec_GoodKey.calls (k : Nat) (a0_0 : ByteArray) (A0_1 : Option Addr) (c0_1 : Nat) (l0_1 : List (S123)) (a0_2 : Int) (r : Bool) (w : World) (hr0_1 : Kd.C k123 w A0_1 l0_1.length l0_1) (hc0_1 : l0_1.length ≤ c0_1) (h : spec_GoodKey.f k a0_0 l0_1 a0_2 = some r) :
 Calls Tryd.prog 41 #[.agg #[.string a0_0, .slice A0_1 l0_1.length c0_1, .int .i64 a0_2]] w fun e w' => e = .returned (.bool r) ∧ Below w.heap.size w w' := by
 have hu32 := Tryd.underlying32
 have hu123 := Tryd.underlying123
 have HR0_1 := aM hr0_1
 have HC0_1 := aM hc0_1
 clear hr0_1 hc0_1
 have HB := aM (Below.refl w.heap.size w)
 have H : ((spec_l1Name.f k a0_0).bind fun t102 => (if t102 = true then (if (l0_1.length : Int) > 4 then (spec_GoodKey.j0 k true a0_0 l0_1 a0_2) else ((spec_l1In.f a0_2 0 1000000000).bind fun t103 => (spec_GoodKey.j0 k (!t103) a0_0 l0_1 a0_2))) else (spec_GoodKey.j0 k true a0_0 l0_1 a0_2))) = some r := h
 clear h
 have HC2 := aM H
 clear H
 go_enter Tryd.func41, Tryd.ntmps41
 go_upto_region 1 with (first | ((with_reducible refine gate_dst (N := 1) rfl ?_); (try (refine gate_guard (by rfl) ?_; dsimp only)); refine bX 1 32 #[.string a0_0, .slice A0_1 l0_1.length c0_1, .int .i64 a0_2] ?_; intro gb101 hg w3 hbox hb; have _ := aM (below_step hbZ hb); have _ := aM hbox; have _ := szZ hg; have _ := szZ hg; clear HB; rename_i HB BK101 GW101 GE101; clear hb hbox hg))
 repeat (go_quiet (first | ((with_reducible refine gate_dst (N := 1) rfl ?_); (try (refine gate_guard (by rfl) ?_; dsimp only)); refine bX 1 32 #[.string a0_0, .slice A0_1 l0_1.length c0_1, .int .i64 a0_2] ?_; intro gb101 hg w3 hbox hb; have _ := aM (below_step hbZ hb); have _ := aM hbox; have _ := szZ hg; have _ := szZ hg; clear HB; rename_i HB BK101 GW101 GE101; clear hb hbox hg)); go_upto_region 1 with (first | ((with_reducible refine gate_dst (N := 1) rfl ?_); (try (refine gate_guard (by rfl) ?_; dsimp only)); refine bX 1 32 #[.string a0_0, .slice A0_1 l0_1.length c0_1, .int .i64 a0_2] ?_; intro gb101 hg w3 hbox hb; have _ := aM (below_step hbZ hb); have _ := aM hbox; have _ := szZ hg; have _ := szZ hg; clear HB; rename_i HB BK101 GW101 GE101; clear hb hbox hg)))
 (try simp only [Act.put, List.setIfInBounds_toArray, List.set_cons_zero, List.set_cons_succ])
 go_cut [20] (fun v20 wc => ∃ (kq : Nat) (x20_1 : Bool), v20 = .bool x20_1 ∧ Aside0 (spec_GoodKey.j0 kq x20_1 a0_0 l0_1 a0_2 = some r) ∧ Aside0 (kq ≤ k) ∧ Aside0 (wc.heap[gb101]? = some (.cells #[.string a0_0, (.slice A0_1 l0_1.length c0_1), .int .i64 a0_2] 32 (0, 0))) ∧ Aside0 (Below w.heap.size w wc))
 case first =>
  have H := HC2.out
  clear HC2
  obtain ⟨t102, A4, H⟩ := bS H; try dsimp only at H
  by_cases c5 : t102 = true
  · subst c5
    rw [if_pos rfl] at H
    by_cases c6 : (l0_1.length : Int) > 4
    · rw [if_pos c6] at H
      have c6b0 : decide (4 < (l0_1.length : Int)) = true := decide_eq_true c6
      have c6b1 : decide (4 < l0_1.length) = true := decide_eq_true (by omega)
      clear c6
      (first | rw [c6b0] | (simp only [i64_w, i32_w]; rw [c6b0]) | skip)
      have H' := aM H
      clear H
      have hz7 := cellsZ3 BK101.out
      go_wp2_with (first | (go_at_call 86; (with_reducible refine (spec_l1Name.calls k a0_0 true _ A4.out).mono ?_); rintro e w' ⟨rfl, ⟨nd, rfl⟩⟩; (try first | exact ⟨rfl, _, World.drewN_drewN _ _ _⟩ | exact ⟨rfl, _, Eq.trans (World.drewN_drewN _ _ _) (congrArg (World.drewN _) (Nat.add_assoc _ _ _))⟩)))
      repeat (go_quiet (first | (go_at_call 86; (with_reducible refine (spec_l1Name.calls k a0_0 true _ A4.out).mono ?_); rintro e w' ⟨rfl, ⟨nd, rfl⟩⟩; (try first | exact ⟨rfl, _, World.drewN_drewN _ _ _⟩ | exact ⟨rfl, _, Eq.trans (World.drewN_drewN _ _ _) (congrArg (World.drewN _) (Nat.add_assoc _ _ _))⟩))); try go_wp2_with (first | (go_at_call 86; (with_reducible refine (spec_l1Name.calls k a0_0 true _ A4.out).mono ?_); rintro e w' ⟨rfl, ⟨nd, rfl⟩⟩; (try first | exact ⟨rfl, _, World.drewN_drewN _ _ _⟩ | exact ⟨rfl, _, Eq.trans (World.drewN_drewN _ _ _) (congrArg (World.drewN _) (Nat.add_assoc _ _ _))⟩))))
      go_meet
      case rel => exact ⟨_, (true), z4458, H', ⟨zb79b⟩, ⟨bkZ⟩, ⟨zcb41⟩⟩
    · rw [if_neg c6] at H
      have c6b0 : decide (4 < (l0_1.length : Int)) = false := decide_eq_false c6
      have c6b1 : decide (4 < l0_1.length) = false := decide_eq_false (by omega)
      clear c6
      (first | rw [c6b0] | (simp only [i64_w, i32_w]; rw [c6b0]) | skip)
      obtain ⟨t103, A8, H⟩ := bS H; try dsimp only at H
      have H' := aM H
      clear H
      have hz9 := cellsZ3 BK101.out
      go_wp2_with (first | (go_at_call 86; (with_reducible refine (spec_l1Name.calls k a0_0 true _ A4.out).mono ?_); rintro e w' ⟨rfl, ⟨nd, rfl⟩⟩; (try first | exact ⟨rfl, _, World.drewN_drewN _ _ _⟩ | exact ⟨rfl, _, Eq.trans (World.drewN_drewN _ _ _) (congrArg (World.drewN _) (Nat.add_assoc _ _ _))⟩)) | (go_at_call 84; (with_reducible refine (spec_l1In.calls a0_2 0 1000000000 t103 _ A8.out).mono ?_); rintro e w' ⟨rfl, ⟨nd, rfl⟩⟩; (try first | exact ⟨rfl, _, World.drewN_drewN _ _ _⟩ | exact ⟨rfl, _, Eq.trans (World.drewN_drewN _ _ _) (congrArg (World.drewN _) (Nat.add_assoc _ _ _))⟩)))
      repeat (go_quiet (first | (go_at_call 86; (with_reducible refine (spec_l1Name.calls k a0_0 true _ A4.out).mono ?_); rintro e w' ⟨rfl, ⟨nd, rfl⟩⟩; (try first | exact ⟨rfl, _, World.drewN_drewN _ _ _⟩ | exact ⟨rfl, _, Eq.trans (World.drewN_drewN _ _ _) (congrArg (World.drewN _) (Nat.add_assoc _ _ _))⟩)) | (go_at_call 84; (with_reducible refine (spec_l1In.calls a0_2 0 1000000000 t103 _ A8.out).mono ?_); rintro e w' ⟨rfl, ⟨nd, rfl⟩⟩; (try first | exact ⟨rfl, _, World.drewN_drewN _ _ _⟩ | exact ⟨rfl, _, Eq.trans (World.drewN_drewN _ _ _) (congrArg (World.drewN _) (Nat.add_assoc _ _ _))⟩))); try go_wp2_with (first | (go_at_call 86; (with_reducible refine (spec_l1Name.calls k a0_0 true _ A4.out).mono ?_); rintro e w' ⟨rfl, ⟨nd, rfl⟩⟩; (try first | exact ⟨rfl, _, World.drewN_drewN _ _ _⟩ | exact ⟨rfl, _, Eq.trans (World.drewN_drewN _ _ _) (congrArg (World.drewN _) (Nat.add_assoc _ _ _))⟩)) | (go_at_call 84; (with_reducible refine (spec_l1In.calls a0_2 0 1000000000 t103 _ A8.out).mono ?_); rintro e w' ⟨rfl, ⟨nd, rfl⟩⟩; (try first | exact ⟨rfl, _, World.drewN_drewN _ _ _⟩ | exact ⟨rfl, _, Eq.trans (World.drewN_drewN _ _ _) (congrArg (World.drewN _) (Nat.add_assoc _ _ _))⟩))))
      go_meet
      case rel => exact ⟨_, (!t103), z4458, H', ⟨zb79b⟩, ⟨bkZ⟩, ⟨zcb41⟩⟩
  · replace c5 := Bool.eq_false_iff.mpr c5
    subst c5
    rw [if_neg (show ¬ (false = true) by decide)] at H
    have H' := aM H
    clear H
    have hz10 := cellsZ3 BK101.out
    go_wp2_with (first | (go_at_call 86; (with_reducible refine (spec_l1Name.calls k a0_0 false _ A4.out).mono ?_); rintro e w' ⟨rfl, ⟨nd, rfl⟩⟩; (try first | exact ⟨rfl, _, World.drewN_drewN _ _ _⟩ | exact ⟨rfl, _, Eq.trans (World.drewN_drewN _ _ _) (congrArg (World.drewN _) (Nat.add_assoc _ _ _))⟩)))
    repeat (go_quiet (first | (go_at_call 86; (with_reducible refine (spec_l1Name.calls k a0_0 false _ A4.out).mono ?_); rintro e w' ⟨rfl, ⟨nd, rfl⟩⟩; (try first | exact ⟨rfl, _, World.drewN_drewN _ _ _⟩ | exact ⟨rfl, _, Eq.trans (World.drewN_drewN _ _ _) (congrArg (World.drewN _) (Nat.add_assoc _ _ _))⟩))); try go_wp2_with (first | (go_at_call 86; (with_reducible refine (spec_l1Name.calls k a0_0 false _ A4.out).mono ?_); rintro e w' ⟨rfl, ⟨nd, rfl⟩⟩; (try first | exact ⟨rfl, _, World.drewN_drewN _ _ _⟩ | exact ⟨rfl, _, Eq.trans (World.drewN_drewN _ _ _) (congrArg (World.drewN _) (Nat.add_assoc _ _ _))⟩))))
    go_meet
    case rel => exact ⟨_, (true), z4458, H', ⟨zb79b⟩, ⟨bkZ⟩, ⟨zcb41⟩⟩
 case rest =>
  clear HC2
  obtain ⟨kq, x20_1, rfl, HA, HJ1, BK101, HB⟩ := hcut
  cases kq with
  | zero => exact absurd HA.out (by simp [spec_GoodKey.j0])
  | succ kj1 =>
   have H := HA.out
   clear HA
   simp only [spec_GoodKey.j0] at H
   by_cases c11 : x20_1 = true
   · subst c11
     rw [if_pos rfl] at H
     obtain rfl := Option.some.inj H
     go_wp2
     repeat (go_quiet (fail); try go_wp2)
     go_ret
     exact ⟨z674d, zcb41⟩
   · replace c11 := Bool.eq_false_iff.mpr c11
     subst c11
     rw [if_neg (show ¬ (false = true) by decide)] at H
     have H' := aM H
     clear H
     have hz12 := cellsZ3 BK101.out
     go_wp2
     repeat (go_quiet (fail); try go_wp2)
     go_loopg [24] kj1 (fun kq v24 w' => ∃ (x24_2 : Int), v24 = .int .i64 x24_2 ∧ Aside0 (spec_GoodKey.l0 kq l0_1 (l0_1.length : Int) x24_2 a0_0 l0_1 a0_2 = some r) ∧ Aside0 (kq ≤ kj1) ∧ Aside0 (w'.heap[gb101]? = some (.cells #[.string a0_0, (.slice A0_1 l0_1.length c0_1), .int .i64 a0_2] 32 (0, 0))) ∧ Aside0 (Below w.heap.size w w'))
     case atStart => exact ⟨(0), z4458, H', ⟨Nat.le_refl _⟩, ⟨bkZ⟩, ⟨zcb41⟩⟩
     case round =>
      clear H'
      (try clear c11); (try clear hz12)
      obtain ⟨x24_2, rfl, HA, HK2, BK101, HB⟩ := hrel
      cases gk with
      | zero => exact absurd HA.out (by simp [spec_GoodKey.l0])
      | succ k2 =>
       have H := HA.out
       clear HA
       simp only [spec_GoodKey.l0] at H
       by_cases c13 : x24_2 < (l0_1.length : Int)
       · rw [if_pos c13] at H
         have c13b0 := dL c13
         clear c13
         obtain ⟨c14b0, H⟩ := sE H
         obtain ⟨c15b0, H⟩ := sL H
         obtain ⟨t106, A16, H⟩ := bS H; try dsimp only at H
         by_cases c17 : t106 = true
         · subst c17
           rw [if_pos rfl] at H
           obtain ⟨t107, A18, H⟩ := bS H; try dsimp only at H
           by_cases c19 : t107 = true
           · subst c19
             rw [if_pos rfl] at H
             by_cases c20 : x24_2 > 0
             · rw [if_pos c20] at H
               have c20b0 := dL c20
               clear c20
               obtain ⟨ji21, hji21⟩ : ∃ j_ : Int, (wrap64 (x24_2 - 1)) = j_ := ⟨_, rfl⟩
               replace H : (if 0 ≤ (ji21) then (if (ji21) < (l0_1.length : Int) then (if ((Op.bytesLess (((rd_T123 l0_1 (ji21)).f0).toList) (((rd_T123 l0_1 x24_2).f0).toList)) = true) then (spec_GoodKey.l0 k2 l0_1 (l0_1.length : Int) (wrap64 (x24_2 + 1)) a0_0 l0_1 a0_2) else (some false)) else (none)) else (none)) = some r := by first | (rw [hji21] at H; exact H) | (simp only [hji21] at H ⊢; exact H)
               (try rw [hji21] at A16)
               (try rw [hji21] at A18)
               have hji21w : (IntKind.i64.wrap (x24_2 - 1)) = ji21 := (i64_w _).trans hji21
               obtain ⟨c22b0, H⟩ := sE H
               obtain ⟨c23b0, H⟩ := sL H
               by_cases c24 : ((Op.bytesLess (((rd_T123 l0_1 (ji21)).f0).toList) (((rd_T123 l0_1 x24_2).f0).toList)) = true)
               · rw [if_pos c24] at H
                 have c24b0 : (Op.bytesLess (((rd_T123 l0_1 (ji21)).f0).toList) (((rd_T123 l0_1 x24_2).f0).toList)) = true := c24
                 clear c24
                 have H' := aM H
                 clear H
                 have p104 : 0 ≤ (x24_2 : Int) := of_decide_eq_true z1200
                 have q104 : x24_2 < (l0_1.length : Int) := of_decide_eq_true z1200
                 obtain ⟨ad104, e104, hx104_0, hx104_1⟩ := at_T123 HR0_1.out x24_2 p104 q104
                 cases e104
                 replace hx104_0 := (HB.out.cell (World.block_lt_of_cell? w _ hx104_0)).trans hx104_0
                 replace hx104_1 := (HB.out.cell (World.block_lt_of_cell? w _ hx104_1)).trans hx104_1
                 replace p104 := eq_true p104
                 replace q104 := eq_true q104
                 go_wp2_with (first | ((with_reducible refine gate_dst (N := 4) rfl ?_); (try (refine gate_guard (by rfl) ?_; dsimp only)); refine bX 4 123 #[.string (⟨#[]⟩ : ByteArray), .string (⟨#[]⟩ : ByteArray)] ?_; intro gb105 hg w25 hbox hb; have _ := bB gb101 hb; have _ := aM (below_step hbZ hb); have _ := aM hbox; have _ := szZ hg; have _ := szZ hg; have ⟨_, _⟩ := nbB gb101 hg; clear BK101 HB; rename_i BK101 HB BK105 GW105 GE105 NB101_105 NB105_101; clear hb hbox hg; have hnb26 := NB105_101.out; have hnc26 := NB101_105.out; have hz27 := cellsZ2 BK105.out) | (go_at_call 86; (with_reducible refine (spec_l1Name.calls k2 ((rd_T123 l0_1 x24_2).f0) true _ A16.out).mono ?_); rintro e w' ⟨rfl, ⟨nd, rfl⟩⟩; (try first | exact ⟨rfl, _, World.drewN_drewN _ _ _⟩ | exact ⟨rfl, _, Eq.trans (World.drewN_drewN _ _ _) (congrArg (World.drewN _) (Nat.add_assoc _ _ _))⟩)) | (go_at_call 86; (with_reducible refine (spec_l1Name.calls k2 ((rd_T123 l0_1 x24_2).f1) true _ A18.out).mono ?_); rintro e w' ⟨rfl, ⟨nd, rfl⟩⟩; (try first | exact ⟨rfl, _, World.drewN_drewN _ _ _⟩ | exact ⟨rfl, _, Eq.trans (World.drewN_drewN _ _ _) (congrArg (World.drewN _) (Nat.add_assoc _ _ _))⟩); have hz28 := cellsZ3 BK101.out; have p108 : 0 ≤ ((ji21) : Int) := of_decide_eq_true z1200; have q108 : (ji21) < (l0_1.length : Int) := of_decide_eq_true z1200; obtain ⟨ad108, e108, hx108_0, hx108_1⟩ := at_T123 HR0_1.out (ji21) p108 q108; obtain rfl : ad104 = ad108 := (by injection e108); have hn108_0 : ad104.block ≠ gb105 := Nat.ne_of_lt (Nat.lt_of_lt_of_le (by have := World.block_lt_of_cell? _ _ hx108_0; first | rwa [add_block] at this | exact this) GW105.out); have hn108_1 : ad104.block ≠ gb105 := Nat.ne_of_lt (Nat.lt_of_lt_of_le (by have := World.block_lt_of_cell? _ _ hx108_0; first | rwa [add_block] at this | exact this) GW105.out); replace hx108_0 := (HB.out.cell (World.block_lt_of_cell? w _ hx108_0)).trans hx108_0; replace hx108_1 := (HB.out.cell (World.block_lt_of_cell? w _ hx108_1)).trans hx108_1; replace hx108_0 := (cell_far (p := ⟨gb105, 0, none⟩) (by first | (rw [add_block]; exact hn108_0) | (show (Addr.add _ _).block ≠ _; rw [add_block]; exact hn108_0) | exact hn108_0) (.string ((rd_T123 l0_1 x24_2).f0))).trans hx108_0; replace hx108_1 := (cell_far (p := ⟨gb105, 0, none⟩) (by first | (rw [add_block]; exact hn108_0) | (show (Addr.add _ _).block ≠ _; rw [add_block]; exact hn108_0) | exact hn108_0) (.string ((rd_T123 l0_1 x24_2).f0))).trans hx108_1; replace hx108_0 := (cell_far (p := ⟨gb105, 1, none⟩) (by first | (rw [add_block]; exact hn108_1) | (show (Addr.add _ _).block ≠ _; rw [add_block]; exact hn108_1) | exact hn108_1) (.string ((rd_T123 l0_1 x24_2).f1))).trans hx108_0; replace hx108_1 := (cell_far (p := ⟨gb105, 1, none⟩) (by first | (rw [add_block]; exact hn108_1) | (show (Addr.add _ _).block ≠ _; rw [add_block]; exact hn108_1) | exact hn108_1) (.string ((rd_T123 l0_1 x24_2).f1))).trans hx108_1; (try have hy108_0 := fun (n_ : Nat) => (show ((((w25.drewN n_).setCell ⟨gb105, 0, none⟩ (.string ((rd_T123 l0_1 x24_2).f0))).setCell ⟨gb105, 1, none⟩ (.string ((rd_T123 l0_1 x24_2).f1)))).cell? _ = some _ from hx108_0)); (try have hy108_1 := fun (n_ : Nat) => (show ((((w25.drewN n_).setCell ⟨gb105, 0, none⟩ (.string ((rd_T123 l0_1 x24_2).f0))).setCell ⟨gb105, 1, none⟩ (.string ((rd_T123 l0_1 x24_2).f1)))).cell? _ = some _ from hx108_1)); clear hn108_0 hn108_1; replace p108 := eq_true p108; replace q108 := eq_true q108))
                 repeat (go_quiet (first | ((with_reducible refine gate_dst (N := 4) rfl ?_); (try (refine gate_guard (by rfl) ?_; dsimp only)); refine bX 4 123 #[.string (⟨#[]⟩ : ByteArray), .string (⟨#[]⟩ : ByteArray)] ?_; intro gb105 hg w25 hbox hb; have _ := bB gb101 hb; have _ := aM (below_step hbZ hb); have _ := aM hbox; have _ := szZ hg; have _ := szZ hg; have ⟨_, _⟩ := nbB gb101 hg; clear BK101 HB; rename_i BK101 HB BK105 GW105 GE105 NB101_105 NB105_101; clear hb hbox hg; have hnb26 := NB105_101.out; have hnc26 := NB101_105.out; have hz27 := cellsZ2 BK105.out) | (go_at_call 86; (with_reducible refine (spec_l1Name.calls k2 ((rd_T123 l0_1 x24_2).f0) true _ A16.out).mono ?_); rintro e w' ⟨rfl, ⟨nd, rfl⟩⟩; (try first | exact ⟨rfl, _, World.drewN_drewN _ _ _⟩ | exact ⟨rfl, _, Eq.trans (World.drewN_drewN _ _ _) (congrArg (World.drewN _) (Nat.add_assoc _ _ _))⟩)) | (go_at_call 86; (with_reducible refine (spec_l1Name.calls k2 ((rd_T123 l0_1 x24_2).f1) true _ A18.out).mono ?_); rintro e w' ⟨rfl, ⟨nd, rfl⟩⟩; (try first | exact ⟨rfl, _, World.drewN_drewN _ _ _⟩ | exact ⟨rfl, _, Eq.trans (World.drewN_drewN _ _ _) (congrArg (World.drewN _) (Nat.add_assoc _ _ _))⟩); have hz28 := cellsZ3 BK101.out; have p108 : 0 ≤ ((ji21) : Int) := of_decide_eq_true z1200; have q108 : (ji21) < (l0_1.length : Int) := of_decide_eq_true z1200; obtain ⟨ad108, e108, hx108_0, hx108_1⟩ := at_T123 HR0_1.out (ji21) p108 q108; obtain rfl : ad104 = ad108 := (by injection e108); have hn108_0 : ad104.block ≠ gb105 := Nat.ne_of_lt (Nat.lt_of_lt_of_le (by have := World.block_lt_of_cell? _ _ hx108_0; first | rwa [add_block] at this | exact this) GW105.out); have hn108_1 : ad104.block ≠ gb105 := Nat.ne_of_lt (Nat.lt_of_lt_of_le (by have := World.block_lt_of_cell? _ _ hx108_0; first | rwa [add_block] at this | exact this) GW105.out); replace hx108_0 := (HB.out.cell (World.block_lt_of_cell? w _ hx108_0)).trans hx108_0; replace hx108_1 := (HB.out.cell (World.block_lt_of_cell? w _ hx108_1)).trans hx108_1; replace hx108_0 := (cell_far (p := ⟨gb105, 0, none⟩) (by first | (rw [add_block]; exact hn108_0) | (show (Addr.add _ _).block ≠ _; rw [add_block]; exact hn108_0) | exact hn108_0) (.string ((rd_T123 l0_1 x24_2).f0))).trans hx108_0; replace hx108_1 := (cell_far (p := ⟨gb105, 0, none⟩) (by first | (rw [add_block]; exact hn108_0) | (show (Addr.add _ _).block ≠ _; rw [add_block]; exact hn108_0) | exact hn108_0) (.string ((rd_T123 l0_1 x24_2).f0))).trans hx108_1; replace hx108_0 := (cell_far (p := ⟨gb105, 1, none⟩) (by first | (rw [add_block]; exact hn108_1) | (show (Addr.add _ _).block ≠ _; rw [add_block]; exact hn108_1) | exact hn108_1) (.string ((rd_T123 l0_1 x24_2).f1))).trans hx108_0; replace hx108_1 := (cell_far (p := ⟨gb105, 1, none⟩) (by first | (rw [add_block]; exact hn108_1) | (show (Addr.add _ _).block ≠ _; rw [add_block]; exact hn108_1) | exact hn108_1) (.string ((rd_T123 l0_1 x24_2).f1))).trans hx108_1; (try have hy108_0 := fun (n_ : Nat) => (show ((((w25.drewN n_).setCell ⟨gb105, 0, none⟩ (.string ((rd_T123 l0_1 x24_2).f0))).setCell ⟨gb105, 1, none⟩ (.string ((rd_T123 l0_1 x24_2).f1)))).cell? _ = some _ from hx108_0)); (try have hy108_1 := fun (n_ : Nat) => (show ((((w25.drewN n_).setCell ⟨gb105, 0, none⟩ (.string ((rd_T123 l0_1 x24_2).f0))).setCell ⟨gb105, 1, none⟩ (.string ((rd_T123 l0_1 x24_2).f1)))).cell? _ = some _ from hx108_1)); clear hn108_0 hn108_1; replace p108 := eq_true p108; replace q108 := eq_true q108)); try go_wp2_with (first | ((with_reducible refine gate_dst (N := 4) rfl ?_); (try (refine gate_guard (by rfl) ?_; dsimp only)); refine bX 4 123 #[.string (⟨#[]⟩ : ByteArray), .string (⟨#[]⟩ : ByteArray)] ?_; intro gb105 hg w25 hbox hb; have _ := bB gb101 hb; have _ := aM (below_step hbZ hb); have _ := aM hbox; have _ := szZ hg; have _ := szZ hg; have ⟨_, _⟩ := nbB gb101 hg; clear BK101 HB; rename_i BK101 HB BK105 GW105 GE105 NB101_105 NB105_101; clear hb hbox hg; have hnb26 := NB105_101.out; have hnc26 := NB101_105.out; have hz27 := cellsZ2 BK105.out) | (go_at_call 86; (with_reducible refine (spec_l1Name.calls k2 ((rd_T123 l0_1 x24_2).f0) true _ A16.out).mono ?_); rintro e w' ⟨rfl, ⟨nd, rfl⟩⟩; (try first | exact ⟨rfl, _, World.drewN_drewN _ _ _⟩ | exact ⟨rfl, _, Eq.trans (World.drewN_drewN _ _ _) (congrArg (World.drewN _) (Nat.add_assoc _ _ _))⟩)) | (go_at_call 86; (with_reducible refine (spec_l1Name.calls k2 ((rd_T123 l0_1 x24_2).f1) true _ A18.out).mono ?_); rintro e w' ⟨rfl, ⟨nd, rfl⟩⟩; (try first | exact ⟨rfl, _, World.drewN_drewN _ _ _⟩ | exact ⟨rfl, _, Eq.trans (World.drewN_drewN _ _ _) (congrArg (World.drewN _) (Nat.add_assoc _ _ _))⟩); have hz28 := cellsZ3 BK101.out; have p108 : 0 ≤ ((ji21) : Int) := of_decide_eq_true z1200; have q108 : (ji21) < (l0_1.length : Int) := of_decide_eq_true z1200; obtain ⟨ad108, e108, hx108_0, hx108_1⟩ := at_T123 HR0_1.out (ji21) p108 q108; obtain rfl : ad104 = ad108 := (by injection e108); have hn108_0 : ad104.block ≠ gb105 := Nat.ne_of_lt (Nat.lt_of_lt_of_le (by have := World.block_lt_of_cell? _ _ hx108_0; first | rwa [add_block] at this | exact this) GW105.out); have hn108_1 : ad104.block ≠ gb105 := Nat.ne_of_lt (Nat.lt_of_lt_of_le (by have := World.block_lt_of_cell? _ _ hx108_0; first | rwa [add_block] at this | exact this) GW105.out); replace hx108_0 := (HB.out.cell (World.block_lt_of_cell? w _ hx108_0)).trans hx108_0; replace hx108_1 := (HB.out.cell (World.block_lt_of_cell? w _ hx108_1)).trans hx108_1; replace hx108_0 := (cell_far (p := ⟨gb105, 0, none⟩) (by first | (rw [add_block]; exact hn108_0) | (show (Addr.add _ _).block ≠ _; rw [add_block]; exact hn108_0) | exact hn108_0) (.string ((rd_T123 l0_1 x24_2).f0))).trans hx108_0; replace hx108_1 := (cell_far (p := ⟨gb105, 0, none⟩) (by first | (rw [add_block]; exact hn108_0) | (show (Addr.add _ _).block ≠ _; rw [add_block]; exact hn108_0) | exact hn108_0) (.string ((rd_T123 l0_1 x24_2).f0))).trans hx108_1; replace hx108_0 := (cell_far (p := ⟨gb105, 1, none⟩) (by first | (rw [add_block]; exact hn108_1) | (show (Addr.add _ _).block ≠ _; rw [add_block]; exact hn108_1) | exact hn108_1) (.string ((rd_T123 l0_1 x24_2).f1))).trans hx108_0; replace hx108_1 := (cell_far (p := ⟨gb105, 1, none⟩) (by first | (rw [add_block]; exact hn108_1) | (show (Addr.add _ _).block ≠ _; rw [add_block]; exact hn108_1) | exact hn108_1) (.string ((rd_T123 l0_1 x24_2).f1))).trans hx108_1; (try have hy108_0 := fun (n_ : Nat) => (show ((((w25.drewN n_).setCell ⟨gb105, 0, none⟩ (.string ((rd_T123 l0_1 x24_2).f0))).setCell ⟨gb105, 1, none⟩ (.string ((rd_T123 l0_1 x24_2).f1)))).cell? _ = some _ from hx108_0)); (try have hy108_1 := fun (n_ : Nat) => (show ((((w25.drewN n_).setCell ⟨gb105, 0, none⟩ (.string ((rd_T123 l0_1 x24_2).f0))).setCell ⟨gb105, 1, none⟩ (.string ((rd_T123 l0_1 x24_2).f1)))).cell? _ = some _ from hx108_1)); clear hn108_0 hn108_1; replace p108 := eq_true p108; replace q108 := eq_true q108)))
                 go_roundg k2
                 case measure => have := HJ1.out; have := HK2.out; omega
                 case rel => exact ⟨(wrap64 (x24_2 + 1)), z4458, H', ⟨by have := HJ1.out; have := HK2.out; omega⟩, ⟨bkZ⟩, ⟨zcb41⟩⟩
               · rw [if_neg c24] at H
                 have c24b0 : (Op.bytesLess (((rd_T123 l0_1 (ji21)).f0).toList) (((rd_T123 l0_1 x24_2).f0).toList)) = false := by simpa using c24
                 clear c24
                 obtain rfl := Option.some.inj H
                 have p104 : 0 ≤ (x24_2 : Int) := of_decide_eq_true z1200
                 have q104 : x24_2 < (l0_1.length : Int) := of_decide_eq_true z1200
                 obtain ⟨ad104, e104, hx104_0, hx104_1⟩ := at_T123 HR0_1.out x24_2 p104 q104
                 cases e104
                 replace hx104_0 := (HB.out.cell (World.block_lt_of_cell? w _ hx104_0)).trans hx104_0
                 replace hx104_1 := (HB.out.cell (World.block_lt_of_cell? w _ hx104_1)).trans hx104_1
                 replace p104 := eq_true p104
                 replace q104 := eq_true q104
                 go_wp2_with (first | ((with_reducible refine gate_dst (N := 4) rfl ?_); (try (refine gate_guard (by rfl) ?_; dsimp only)); refine bX 4 123 #[.string (⟨#[]⟩ : ByteArray), .string (⟨#[]⟩ : ByteArray)] ?_; intro gb105 hg w29 hbox hb; have _ := bB gb101 hb; have _ := aM (below_step hbZ hb); have _ := aM hbox; have _ := szZ hg; have _ := szZ hg; have ⟨_, _⟩ := nbB gb101 hg; clear BK101 HB; rename_i BK101 HB BK105 GW105 GE105 NB101_105 NB105_101; clear hb hbox hg; have hnb30 := NB105_101.out; have hnc30 := NB101_105.out; have hz31 := cellsZ2 BK105.out) | (go_at_call 86; (with_reducible refine (spec_l1Name.calls k2 ((rd_T123 l0_1 x24_2).f0) true _ A16.out).mono ?_); rintro e w' ⟨rfl, ⟨nd, rfl⟩⟩; (try first | exact ⟨rfl, _, World.drewN_drewN _ _ _⟩ | exact ⟨rfl, _, Eq.trans (World.drewN_drewN _ _ _) (congrArg (World.drewN _) (Nat.add_assoc _ _ _))⟩)) | (go_at_call 86; (with_reducible refine (spec_l1Name.calls k2 ((rd_T123 l0_1 x24_2).f1) true _ A18.out).mono ?_); rintro e w' ⟨rfl, ⟨nd, rfl⟩⟩; (try first | exact ⟨rfl, _, World.drewN_drewN _ _ _⟩ | exact ⟨rfl, _, Eq.trans (World.drewN_drewN _ _ _) (congrArg (World.drewN _) (Nat.add_assoc _ _ _))⟩); have hz32 := cellsZ3 BK101.out; have p108 : 0 ≤ ((ji21) : Int) := of_decide_eq_true z1200; have q108 : (ji21) < (l0_1.length : Int) := of_decide_eq_true z1200; obtain ⟨ad108, e108, hx108_0, hx108_1⟩ := at_T123 HR0_1.out (ji21) p108 q108; obtain rfl : ad104 = ad108 := (by injection e108); have hn108_0 : ad104.block ≠ gb105 := Nat.ne_of_lt (Nat.lt_of_lt_of_le (by have := World.block_lt_of_cell? _ _ hx108_0; first | rwa [add_block] at this | exact this) GW105.out); have hn108_1 : ad104.block ≠ gb105 := Nat.ne_of_lt (Nat.lt_of_lt_of_le (by have := World.block_lt_of_cell? _ _ hx108_0; first | rwa [add_block] at this | exact this) GW105.out); replace hx108_0 := (HB.out.cell (World.block_lt_of_cell? w _ hx108_0)).trans hx108_0; replace hx108_1 := (HB.out.cell (World.block_lt_of_cell? w _ hx108_1)).trans hx108_1; replace hx108_0 := (cell_far (p := ⟨gb105, 0, none⟩) (by first | (rw [add_block]; exact hn108_0) | (show (Addr.add _ _).block ≠ _; rw [add_block]; exact hn108_0) | exact hn108_0) (.string ((rd_T123 l0_1 x24_2).f0))).trans hx108_0; replace hx108_1 := (cell_far (p := ⟨gb105, 0, none⟩) (by first | (rw [add_block]; exact hn108_0) | (show (Addr.add _ _).block ≠ _; rw [add_block]; exact hn108_0) | exact hn108_0) (.string ((rd_T123 l0_1 x24_2).f0))).trans hx108_1; replace hx108_0 := (cell_far (p := ⟨gb105, 1, none⟩) (by first | (rw [add_block]; exact hn108_1) | (show (Addr.add _ _).block ≠ _; rw [add_block]; exact hn108_1) | exact hn108_1) (.string ((rd_T123 l0_1 x24_2).f1))).trans hx108_0; replace hx108_1 := (cell_far (p := ⟨gb105, 1, none⟩) (by first | (rw [add_block]; exact hn108_1) | (show (Addr.add _ _).block ≠ _; rw [add_block]; exact hn108_1) | exact hn108_1) (.string ((rd_T123 l0_1 x24_2).f1))).trans hx108_1; (try have hy108_0 := fun (n_ : Nat) => (show ((((w29.drewN n_).setCell ⟨gb105, 0, none⟩ (.string ((rd_T123 l0_1 x24_2).f0))).setCell ⟨gb105, 1, none⟩ (.string ((rd_T123 l0_1 x24_2).f1)))).cell? _ = some _ from hx108_0)); (try have hy108_1 := fun (n_ : Nat) => (show ((((w29.drewN n_).setCell ⟨gb105, 0, none⟩ (.string ((rd_T123 l0_1 x24_2).f0))).setCell ⟨gb105, 1, none⟩ (.string ((rd_T123 l0_1 x24_2).f1)))).cell? _ = some _ from hx108_1)); clear hn108_0 hn108_1; replace p108 := eq_true p108; replace q108 := eq_true q108))
                 repeat (go_quiet (first | ((with_reducible refine gate_dst (N := 4) rfl ?_); (try (refine gate_guard (by rfl) ?_; dsimp only)); refine bX 4 123 #[.string (⟨#[]⟩ : ByteArray), .string (⟨#[]⟩ : ByteArray)] ?_; intro gb105 hg w29 hbox hb; have _ := bB gb101 hb; have _ := aM (below_step hbZ hb); have _ := aM hbox; have _ := szZ hg; have _ := szZ hg; have ⟨_, _⟩ := nbB gb101 hg; clear BK101 HB; rename_i BK101 HB BK105 GW105 GE105 NB101_105 NB105_101; clear hb hbox hg; have hnb30 := NB105_101.out; have hnc30 := NB101_105.out; have hz31 := cellsZ2 BK105.out) | (go_at_call 86; (with_reducible refine (spec_l1Name.calls k2 ((rd_T123 l0_1 x24_2).f0) true _ A16.out).mono ?_); rintro e w' ⟨rfl, ⟨nd, rfl⟩⟩; (try first | exact ⟨rfl, _, World.drewN_drewN _ _ _⟩ | exact ⟨rfl, _, Eq.trans (World.drewN_drewN _ _ _) (congrArg (World.drewN _) (Nat.add_assoc _ _ _))⟩)) | (go_at_call 86; (with_reducible refine (spec_l1Name.calls k2 ((rd_T123 l0_1 x24_2).f1) true _ A18.out).mono ?_); rintro e w' ⟨rfl, ⟨nd, rfl⟩⟩; (try first | exact ⟨rfl, _, World.drewN_drewN _ _ _⟩ | exact ⟨rfl, _, Eq.trans (World.drewN_drewN _ _ _) (congrArg (World.drewN _) (Nat.add_assoc _ _ _))⟩); have hz32 := cellsZ3 BK101.out; have p108 : 0 ≤ ((ji21) : Int) := of_decide_eq_true z1200; have q108 : (ji21) < (l0_1.length : Int) := of_decide_eq_true z1200; obtain ⟨ad108, e108, hx108_0, hx108_1⟩ := at_T123 HR0_1.out (ji21) p108 q108; obtain rfl : ad104 = ad108 := (by injection e108); have hn108_0 : ad104.block ≠ gb105 := Nat.ne_of_lt (Nat.lt_of_lt_of_le (by have := World.block_lt_of_cell? _ _ hx108_0; first | rwa [add_block] at this | exact this) GW105.out); have hn108_1 : ad104.block ≠ gb105 := Nat.ne_of_lt (Nat.lt_of_lt_of_le (by have := World.block_lt_of_cell? _ _ hx108_0; first | rwa [add_block] at this | exact this) GW105.out); replace hx108_0 := (HB.out.cell (World.block_lt_of_cell? w _ hx108_0)).trans hx108_0; replace hx108_1 := (HB.out.cell (World.block_lt_of_cell? w _ hx108_1)).trans hx108_1; replace hx108_0 := (cell_far (p := ⟨gb105, 0, none⟩) (by first | (rw [add_block]; exact hn108_0) | (show (Addr.add _ _).block ≠ _; rw [add_block]; exact hn108_0) | exact hn108_0) (.string ((rd_T123 l0_1 x24_2).f0))).trans hx108_0; replace hx108_1 := (cell_far (p := ⟨gb105, 0, none⟩) (by first | (rw [add_block]; exact hn108_0) | (show (Addr.add _ _).block ≠ _; rw [add_block]; exact hn108_0) | exact hn108_0) (.string ((rd_T123 l0_1 x24_2).f0))).trans hx108_1; replace hx108_0 := (cell_far (p := ⟨gb105, 1, none⟩) (by first | (rw [add_block]; exact hn108_1) | (show (Addr.add _ _).block ≠ _; rw [add_block]; exact hn108_1) | exact hn108_1) (.string ((rd_T123 l0_1 x24_2).f1))).trans hx108_0; replace hx108_1 := (cell_far (p := ⟨gb105, 1, none⟩) (by first | (rw [add_block]; exact hn108_1) | (show (Addr.add _ _).block ≠ _; rw [add_block]; exact hn108_1) | exact hn108_1) (.string ((rd_T123 l0_1 x24_2).f1))).trans hx108_1; (try have hy108_0 := fun (n_ : Nat) => (show ((((w29.drewN n_).setCell ⟨gb105, 0, none⟩ (.string ((rd_T123 l0_1 x24_2).f0))).setCell ⟨gb105, 1, none⟩ (.string ((rd_T123 l0_1 x24_2).f1)))).cell? _ = some _ from hx108_0)); (try have hy108_1 := fun (n_ : Nat) => (show ((((w29.drewN n_).setCell ⟨gb105, 0, none⟩ (.string ((rd_T123 l0_1 x24_2).f0))).setCell ⟨gb105, 1, none⟩ (.string ((rd_T123 l0_1 x24_2).f1)))).cell? _ = some _ from hx108_1)); clear hn108_0 hn108_1; replace p108 := eq_true p108; replace q108 := eq_true q108)); try go_wp2_with (first | ((with_reducible refine gate_dst (N := 4) rfl ?_); (try (refine gate_guard (by rfl) ?_; dsimp only)); refine bX 4 123 #[.string (⟨#[]⟩ : ByteArray), .string (⟨#[]⟩ : ByteArray)] ?_; intro gb105 hg w29 hbox hb; have _ := bB gb101 hb; have _ := aM (below_step hbZ hb); have _ := aM hbox; have _ := szZ hg; have _ := szZ hg; have ⟨_, _⟩ := nbB gb101 hg; clear BK101 HB; rename_i BK101 HB BK105 GW105 GE105 NB101_105 NB105_101; clear hb hbox hg; have hnb30 := NB105_101.out; have hnc30 := NB101_105.out; have hz31 := cellsZ2 BK105.out) | (go_at_call 86; (with_reducible refine (spec_l1Name.calls k2 ((rd_T123 l0_1 x24_2).f0) true _ A16.out).mono ?_); rintro e w' ⟨rfl, ⟨nd, rfl⟩⟩; (try first | exact ⟨rfl, _, World.drewN_drewN _ _ _⟩ | exact ⟨rfl, _, Eq.trans (World.drewN_drewN _ _ _) (congrArg (World.drewN _) (Nat.add_assoc _ _ _))⟩)) | (go_at_call 86; (with_reducible refine (spec_l1Name.calls k2 ((rd_T123 l0_1 x24_2).f1) true _ A18.out).mono ?_); rintro e w' ⟨rfl, ⟨nd, rfl⟩⟩; (try first | exact ⟨rfl, _, World.drewN_drewN _ _ _⟩ | exact ⟨rfl, _, Eq.trans (World.drewN_drewN _ _ _) (congrArg (World.drewN _) (Nat.add_assoc _ _ _))⟩); have hz32 := cellsZ3 BK101.out; have p108 : 0 ≤ ((ji21) : Int) := of_decide_eq_true z1200; have q108 : (ji21) < (l0_1.length : Int) := of_decide_eq_true z1200; obtain ⟨ad108, e108, hx108_0, hx108_1⟩ := at_T123 HR0_1.out (ji21) p108 q108; obtain rfl : ad104 = ad108 := (by injection e108); have hn108_0 : ad104.block ≠ gb105 := Nat.ne_of_lt (Nat.lt_of_lt_of_le (by have := World.block_lt_of_cell? _ _ hx108_0; first | rwa [add_block] at this | exact this) GW105.out); have hn108_1 : ad104.block ≠ gb105 := Nat.ne_of_lt (Nat.lt_of_lt_of_le (by have := World.block_lt_of_cell? _ _ hx108_0; first | rwa [add_block] at this | exact this) GW105.out); replace hx108_0 := (HB.out.cell (World.block_lt_of_cell? w _ hx108_0)).trans hx108_0; replace hx108_1 := (HB.out.cell (World.block_lt_of_cell? w _ hx108_1)).trans hx108_1; replace hx108_0 := (cell_far (p := ⟨gb105, 0, none⟩) (by first | (rw [add_block]; exact hn108_0) | (show (Addr.add _ _).block ≠ _; rw [add_block]; exact hn108_0) | exact hn108_0) (.string ((rd_T123 l0_1 x24_2).f0))).trans hx108_0; replace hx108_1 := (cell_far (p := ⟨gb105, 0, none⟩) (by first | (rw [add_block]; exact hn108_0) | (show (Addr.add _ _).block ≠ _; rw [add_block]; exact hn108_0) | exact hn108_0) (.string ((rd_T123 l0_1 x24_2).f0))).trans hx108_1; replace hx108_0 := (cell_far (p := ⟨gb105, 1, none⟩) (by first | (rw [add_block]; exact hn108_1) | (show (Addr.add _ _).block ≠ _; rw [add_block]; exact hn108_1) | exact hn108_1) (.string ((rd_T123 l0_1 x24_2).f1))).trans hx108_0; replace hx108_1 := (cell_far (p := ⟨gb105, 1, none⟩) (by first | (rw [add_block]; exact hn108_1) | (show (Addr.add _ _).block ≠ _; rw [add_block]; exact hn108_1) | exact hn108_1) (.string ((rd_T123 l0_1 x24_2).f1))).trans hx108_1; (try have hy108_0 := fun (n_ : Nat) => (show ((((w29.drewN n_).setCell ⟨gb105, 0, none⟩ (.string ((rd_T123 l0_1 x24_2).f0))).setCell ⟨gb105, 1, none⟩ (.string ((rd_T123 l0_1 x24_2).f1)))).cell? _ = some _ from hx108_0)); (try have hy108_1 := fun (n_ : Nat) => (show ((((w29.drewN n_).setCell ⟨gb105, 0, none⟩ (.string ((rd_T123 l0_1 x24_2).f0))).setCell ⟨gb105, 1, none⟩ (.string ((rd_T123 l0_1 x24_2).f1)))).cell? _ = some _ from hx108_1)); clear hn108_0 hn108_1; replace p108 := eq_true p108; replace q108 := eq_true q108)))
                 go_ret
                 exact ⟨by first | rfl | (simp [errW_none, errW_some] <;> rfl) | (simp only [← hji21]; first | rfl | (simp [errW_none, errW_some] <;> rfl)) | (simp [*, errW_none, errW_some] <;> rfl), zcb41⟩
             · rw [if_neg c20] at H
               have c20b0 := nL c20
               clear c20
               have H' := aM H
               clear H
               have p104 : 0 ≤ (x24_2 : Int) := of_decide_eq_true z1200
               have q104 : x24_2 < (l0_1.length : Int) := of_decide_eq_true z1200
               obtain ⟨ad104, e104, hx104_0, hx104_1⟩ := at_T123 HR0_1.out x24_2 p104 q104
               cases e104
               replace hx104_0 := (HB.out.cell (World.block_lt_of_cell? w _ hx104_0)).trans hx104_0
               replace hx104_1 := (HB.out.cell (World.block_lt_of_cell? w _ hx104_1)).trans hx104_1
               replace p104 := eq_true p104
               replace q104 := eq_true q104
               go_wp2_with (first | ((with_reducible refine gate_dst (N := 4) rfl ?_); (try (refine gate_guard (by rfl) ?_; dsimp only)); refine bX 4 123 #[.string (⟨#[]⟩ : ByteArray), .string (⟨#[]⟩ : ByteArray)] ?_; intro gb105 hg w33 hbox hb; have _ := bB gb101 hb; have _ := aM (below_step hbZ hb); have _ := aM hbox; have _ := szZ hg; have _ := szZ hg; have ⟨_, _⟩ := nbB gb101 hg; clear BK101 HB; rename_i BK101 HB BK105 GW105 GE105 NB101_105 NB105_101; clear hb hbox hg; have hnb34 := NB105_101.out; have hnc34 := NB101_105.out; have hz35 := cellsZ2 BK105.out) | (go_at_call 86; (with_reducible refine (spec_l1Name.calls k2 ((rd_T123 l0_1 x24_2).f0) true _ A16.out).mono ?_); rintro e w' ⟨rfl, ⟨nd, rfl⟩⟩; (try first | exact ⟨rfl, _, World.drewN_drewN _ _ _⟩ | exact ⟨rfl, _, Eq.trans (World.drewN_drewN _ _ _) (congrArg (World.drewN _) (Nat.add_assoc _ _ _))⟩)) | (go_at_call 86; (with_reducible refine (spec_l1Name.calls k2 ((rd_T123 l0_1 x24_2).f1) true _ A18.out).mono ?_); rintro e w' ⟨rfl, ⟨nd, rfl⟩⟩; (try first | exact ⟨rfl, _, World.drewN_drewN _ _ _⟩ | exact ⟨rfl, _, Eq.trans (World.drewN_drewN _ _ _) (congrArg (World.drewN _) (Nat.add_assoc _ _ _))⟩)))
               repeat (go_quiet (first | ((with_reducible refine gate_dst (N := 4) rfl ?_); (try (refine gate_guard (by rfl) ?_; dsimp only)); refine bX 4 123 #[.string (⟨#[]⟩ : ByteArray), .string (⟨#[]⟩ : ByteArray)] ?_; intro gb105 hg w33 hbox hb; have _ := bB gb101 hb; have _ := aM (below_step hbZ hb); have _ := aM hbox; have _ := szZ hg; have _ := szZ hg; have ⟨_, _⟩ := nbB gb101 hg; clear BK101 HB; rename_i BK101 HB BK105 GW105 GE105 NB101_105 NB105_101; clear hb hbox hg; have hnb34 := NB105_101.out; have hnc34 := NB101_105.out; have hz35 := cellsZ2 BK105.out) | (go_at_call 86; (with_reducible refine (spec_l1Name.calls k2 ((rd_T123 l0_1 x24_2).f0) true _ A16.out).mono ?_); rintro e w' ⟨rfl, ⟨nd, rfl⟩⟩; (try first | exact ⟨rfl, _, World.drewN_drewN _ _ _⟩ | exact ⟨rfl, _, Eq.trans (World.drewN_drewN _ _ _) (congrArg (World.drewN _) (Nat.add_assoc _ _ _))⟩)) | (go_at_call 86; (with_reducible refine (spec_l1Name.calls k2 ((rd_T123 l0_1 x24_2).f1) true _ A18.out).mono ?_); rintro e w' ⟨rfl, ⟨nd, rfl⟩⟩; (try first | exact ⟨rfl, _, World.drewN_drewN _ _ _⟩ | exact ⟨rfl, _, Eq.trans (World.drewN_drewN _ _ _) (congrArg (World.drewN _) (Nat.add_assoc _ _ _))⟩))); try go_wp2_with (first | ((with_reducible refine gate_dst (N := 4) rfl ?_); (try (refine gate_guard (by rfl) ?_; dsimp only)); refine bX 4 123 #[.string (⟨#[]⟩ : ByteArray), .string (⟨#[]⟩ : ByteArray)] ?_; intro gb105 hg w33 hbox hb; have _ := bB gb101 hb; have _ := aM (below_step hbZ hb); have _ := aM hbox; have _ := szZ hg; have _ := szZ hg; have ⟨_, _⟩ := nbB gb101 hg; clear BK101 HB; rename_i BK101 HB BK105 GW105 GE105 NB101_105 NB105_101; clear hb hbox hg; have hnb34 := NB105_101.out; have hnc34 := NB101_105.out; have hz35 := cellsZ2 BK105.out) | (go_at_call 86; (with_reducible refine (spec_l1Name.calls k2 ((rd_T123 l0_1 x24_2).f0) true _ A16.out).mono ?_); rintro e w' ⟨rfl, ⟨nd, rfl⟩⟩; (try first | exact ⟨rfl, _, World.drewN_drewN _ _ _⟩ | exact ⟨rfl, _, Eq.trans (World.drewN_drewN _ _ _) (congrArg (World.drewN _) (Nat.add_assoc _ _ _))⟩)) | (go_at_call 86; (with_reducible refine (spec_l1Name.calls k2 ((rd_T123 l0_1 x24_2).f1) true _ A18.out).mono ?_); rintro e w' ⟨rfl, ⟨nd, rfl⟩⟩; (try first | exact ⟨rfl, _, World.drewN_drewN _ _ _⟩ | exact ⟨rfl, _, Eq.trans (World.drewN_drewN _ _ _) (congrArg (World.drewN _) (Nat.add_assoc _ _ _))⟩))))
               go_roundg k2
               case measure => have := HJ1.out; have := HK2.out; omega
               case rel => exact ⟨(wrap64 (x24_2 + 1)), z4458, H', ⟨by have := HJ1.out; have := HK2.out; omega⟩, ⟨bkZ⟩, ⟨zcb41⟩⟩
           · replace c19 := Bool.eq_false_iff.mpr c19
             subst c19
             rw [if_neg (show ¬ (false = true) by decide)] at H
             obtain rfl := Option.some.inj H
             have p104 : 0 ≤ (x24_2 : Int) := of_decide_eq_true z1200
             have q104 : x24_2 < (l0_1.length : Int) := of_decide_eq_true z1200
             obtain ⟨ad104, e104, hx104_0, hx104_1⟩ := at_T123 HR0_1.out x24_2 p104 q104
             cases e104
             replace hx104_0 := (HB.out.cell (World.block_lt_of_cell? w _ hx104_0)).trans hx104_0
             replace hx104_1 := (HB.out.cell (World.block_lt_of_cell? w _ hx104_1)).trans hx104_1
             replace p104 := eq_true p104
             replace q104 := eq_true q104
             go_wp2_with (first | ((with_reducible refine gate_dst (N := 4) rfl ?_); (try (refine gate_guard (by rfl) ?_; dsimp only)); refine bX 4 123 #[.string (⟨#[]⟩ : ByteArray), .string (⟨#[]⟩ : ByteArray)] ?_; intro gb105 hg w36 hbox hb; have _ := bB gb101 hb; have _ := aM (below_step hbZ hb); have _ := aM hbox; have _ := szZ hg; have _ := szZ hg; have ⟨_, _⟩ := nbB gb101 hg; clear BK101 HB; rename_i BK101 HB BK105 GW105 GE105 NB101_105 NB105_101; clear hb hbox hg; have hnb37 := NB105_101.out; have hnc37 := NB101_105.out; have hz38 := cellsZ2 BK105.out) | (go_at_call 86; (with_reducible refine (spec_l1Name.calls k2 ((rd_T123 l0_1 x24_2).f0) true _ A16.out).mono ?_); rintro e w' ⟨rfl, ⟨nd, rfl⟩⟩; (try first | exact ⟨rfl, _, World.drewN_drewN _ _ _⟩ | exact ⟨rfl, _, Eq.trans (World.drewN_drewN _ _ _) (congrArg (World.drewN _) (Nat.add_assoc _ _ _))⟩)) | (go_at_call 86; (with_reducible refine (spec_l1Name.calls k2 ((rd_T123 l0_1 x24_2).f1) false _ A18.out).mono ?_); rintro e w' ⟨rfl, ⟨nd, rfl⟩⟩; (try first | exact ⟨rfl, _, World.drewN_drewN _ _ _⟩ | exact ⟨rfl, _, Eq.trans (World.drewN_drewN _ _ _) (congrArg (World.drewN _) (Nat.add_assoc _ _ _))⟩)))
             repeat (go_quiet (first | ((with_reducible refine gate_dst (N := 4) rfl ?_); (try (refine gate_guard (by rfl) ?_; dsimp only)); refine bX 4 123 #[.string (⟨#[]⟩ : ByteArray), .string (⟨#[]⟩ : ByteArray)] ?_; intro gb105 hg w36 hbox hb; have _ := bB gb101 hb; have _ := aM (below_step hbZ hb); have _ := aM hbox; have _ := szZ hg; have _ := szZ hg; have ⟨_, _⟩ := nbB gb101 hg; clear BK101 HB; rename_i BK101 HB BK105 GW105 GE105 NB101_105 NB105_101; clear hb hbox hg; have hnb37 := NB105_101.out; have hnc37 := NB101_105.out; have hz38 := cellsZ2 BK105.out) | (go_at_call 86; (with_reducible refine (spec_l1Name.calls k2 ((rd_T123 l0_1 x24_2).f0) true _ A16.out).mono ?_); rintro e w' ⟨rfl, ⟨nd, rfl⟩⟩; (try first | exact ⟨rfl, _, World.drewN_drewN _ _ _⟩ | exact ⟨rfl, _, Eq.trans (World.drewN_drewN _ _ _) (congrArg (World.drewN _) (Nat.add_assoc _ _ _))⟩)) | (go_at_call 86; (with_reducible refine (spec_l1Name.calls k2 ((rd_T123 l0_1 x24_2).f1) false _ A18.out).mono ?_); rintro e w' ⟨rfl, ⟨nd, rfl⟩⟩; (try first | exact ⟨rfl, _, World.drewN_drewN _ _ _⟩ | exact ⟨rfl, _, Eq.trans (World.drewN_drewN _ _ _) (congrArg (World.drewN _) (Nat.add_assoc _ _ _))⟩))); try go_wp2_with (first | ((with_reducible refine gate_dst (N := 4) rfl ?_); (try (refine gate_guard (by rfl) ?_; dsimp only)); refine bX 4 123 #[.string (⟨#[]⟩ : ByteArray), .string (⟨#[]⟩ : ByteArray)] ?_; intro gb105 hg w36 hbox hb; have _ := bB gb101 hb; have _ := aM (below_step hbZ hb); have _ := aM hbox; have _ := szZ hg; have _ := szZ hg; have ⟨_, _⟩ := nbB gb101 hg; clear BK101 HB; rename_i BK101 HB BK105 GW105 GE105 NB101_105 NB105_101; clear hb hbox hg; have hnb37 := NB105_101.out; have hnc37 := NB101_105.out; have hz38 := cellsZ2 BK105.out) | (go_at_call 86; (with_reducible refine (spec_l1Name.calls k2 ((rd_T123 l0_1 x24_2).f0) true _ A16.out).mono ?_); rintro e w' ⟨rfl, ⟨nd, rfl⟩⟩; (try first | exact ⟨rfl, _, World.drewN_drewN _ _ _⟩ | exact ⟨rfl, _, Eq.trans (World.drewN_drewN _ _ _) (congrArg (World.drewN _) (Nat.add_assoc _ _ _))⟩)) | (go_at_call 86; (with_reducible refine (spec_l1Name.calls k2 ((rd_T123 l0_1 x24_2).f1) false _ A18.out).mono ?_); rintro e w' ⟨rfl, ⟨nd, rfl⟩⟩; (try first | exact ⟨rfl, _, World.drewN_drewN _ _ _⟩ | exact ⟨rfl, _, Eq.trans (World.drewN_drewN _ _ _) (congrArg (World.drewN _) (Nat.add_assoc _ _ _))⟩))))
             go_ret
             exact ⟨z674d, zcb41⟩
         · replace c17 := Bool.eq_false_iff.mpr c17
           subst c17
           rw [if_neg (show ¬ (false = true) by decide)] at H
           obtain rfl := Option.some.inj H
           have p104 : 0 ≤ (x24_2 : Int) := of_decide_eq_true z1200
           have q104 : x24_2 < (l0_1.length : Int) := of_decide_eq_true z1200
           obtain ⟨ad104, e104, hx104_0, hx104_1⟩ := at_T123 HR0_1.out x24_2 p104 q104
           cases e104
           replace hx104_0 := (HB.out.cell (World.block_lt_of_cell? w _ hx104_0)).trans hx104_0
           replace hx104_1 := (HB.out.cell (World.block_lt_of_cell? w _ hx104_1)).trans hx104_1
           replace p104 := eq_true p104
           replace q104 := eq_true q104
           go_wp2_with (first | ((with_reducible refine gate_dst (N := 4) rfl ?_); (try (refine gate_guard (by rfl) ?_; dsimp only)); refine bX 4 123 #[.string (⟨#[]⟩ : ByteArray), .string (⟨#[]⟩ : ByteArray)] ?_; intro gb105 hg w39 hbox hb; have _ := bB gb101 hb; have _ := aM (below_step hbZ hb); have _ := aM hbox; have _ := szZ hg; have _ := szZ hg; have ⟨_, _⟩ := nbB gb101 hg; clear BK101 HB; rename_i BK101 HB BK105 GW105 GE105 NB101_105 NB105_101; clear hb hbox hg; have hnb40 := NB105_101.out; have hnc40 := NB101_105.out; have hz41 := cellsZ2 BK105.out) | (go_at_call 86; (with_reducible refine (spec_l1Name.calls k2 ((rd_T123 l0_1 x24_2).f0) false _ A16.out).mono ?_); rintro e w' ⟨rfl, ⟨nd, rfl⟩⟩; (try first | exact ⟨rfl, _, World.drewN_drewN _ _ _⟩ | exact ⟨rfl, _, Eq.trans (World.drewN_drewN _ _ _) (congrArg (World.drewN _) (Nat.add_assoc _ _ _))⟩)))
           repeat (go_quiet (first | ((with_reducible refine gate_dst (N := 4) rfl ?_); (try (refine gate_guard (by rfl) ?_; dsimp only)); refine bX 4 123 #[.string (⟨#[]⟩ : ByteArray), .string (⟨#[]⟩ : ByteArray)] ?_; intro gb105 hg w39 hbox hb; have _ := bB gb101 hb; have _ := aM (below_step hbZ hb); have _ := aM hbox; have _ := szZ hg; have _ := szZ hg; have ⟨_, _⟩ := nbB gb101 hg; clear BK101 HB; rename_i BK101 HB BK105 GW105 GE105 NB101_105 NB105_101; clear hb hbox hg; have hnb40 := NB105_101.out; have hnc40 := NB101_105.out; have hz41 := cellsZ2 BK105.out) | (go_at_call 86; (with_reducible refine (spec_l1Name.calls k2 ((rd_T123 l0_1 x24_2).f0) false _ A16.out).mono ?_); rintro e w' ⟨rfl, ⟨nd, rfl⟩⟩; (try first | exact ⟨rfl, _, World.drewN_drewN _ _ _⟩ | exact ⟨rfl, _, Eq.trans (World.drewN_drewN _ _ _) (congrArg (World.drewN _) (Nat.add_assoc _ _ _))⟩))); try go_wp2_with (first | ((with_reducible refine gate_dst (N := 4) rfl ?_); (try (refine gate_guard (by rfl) ?_; dsimp only)); refine bX 4 123 #[.string (⟨#[]⟩ : ByteArray), .string (⟨#[]⟩ : ByteArray)] ?_; intro gb105 hg w39 hbox hb; have _ := bB gb101 hb; have _ := aM (below_step hbZ hb); have _ := aM hbox; have _ := szZ hg; have _ := szZ hg; have ⟨_, _⟩ := nbB gb101 hg; clear BK101 HB; rename_i BK101 HB BK105 GW105 GE105 NB101_105 NB105_101; clear hb hbox hg; have hnb40 := NB105_101.out; have hnc40 := NB101_105.out; have hz41 := cellsZ2 BK105.out) | (go_at_call 86; (with_reducible refine (spec_l1Name.calls k2 ((rd_T123 l0_1 x24_2).f0) false _ A16.out).mono ?_); rintro e w' ⟨rfl, ⟨nd, rfl⟩⟩; (try first | exact ⟨rfl, _, World.drewN_drewN _ _ _⟩ | exact ⟨rfl, _, Eq.trans (World.drewN_drewN _ _ _) (congrArg (World.drewN _) (Nat.add_assoc _ _ _))⟩))))
           go_ret
           exact ⟨z674d, zcb41⟩
       · rw [if_neg c13] at H
         have c13b0 := nL c13
         clear c13
         obtain rfl := Option.some.inj H
         go_wp2
         repeat (go_quiet (fail); try go_wp2)
         go_ret
         exact ⟨z674d, zcb41⟩

end Go.Proofs.YtkgmoajdcibafaaDoor.P

-- written by a program of this session's (wip/pp)
namespace Go.Proofs.YtkgmoajdcibafaaDoor.P
open Go.RowKit Go.Proofs.YtkgmoajdcibafaaDoorW.PrintWords Go.Proofs.YtkgmoajdcibafaaDoorW.PrintLast Go.Proofs.YtkgmoajdcibafaaDoorW.PrintMore
attribute [local go_sem] max2_int min2_int max_two min_two max_three min_three max_four min_four str_geq str_gtr str_leq   -- for this text's walks alone
set_option linter.unusedVariables false
set_option linter.unusedSimpArgs false

/-! ### spec_l1Text: function 98 -/
def spec_l1Text.f (a0 : ByteArray) (a1 : ByteArray) : Option (Int) := if (Op.bytesLess a0.toList a1.toList) = true then (some (-1)) else (if (Op.bytesLess a1.toList a0.toList) = true then (some 1) else (some 0))
set_option maxHeartbeats 8000000 in
set_option maxRecDepth 100000 in
theorem spec_l1Text.calls (a0 : ByteArray) (a1 : ByteArray) (r : Int) (w : World) (h : spec_l1Text.f a0 a1 = some r) :
 Calls Tryd.prog 98 #[.string a0, .string a1] w fun e w' => e = .returned (.int .i64 r) ∧ Drawn0 w w' := by
 have H : (if (Op.bytesLess a0.toList a1.toList) = true then (some (-1)) else (if (Op.bytesLess a1.toList a0.toList) = true then (some 1) else (some 0))) = some r := h
 clear h
 by_cases c3 : (Op.bytesLess a0.toList a1.toList) = true
 · rw [if_pos c3] at H
   have c3b0 : (Op.bytesLess a0.toList a1.toList) = true := c3
   clear c3
   obtain rfl := Option.some.inj H
   go_enter Tryd.func98, Tryd.ntmps98
   go_wp2
   go_ret
   exact ⟨z4458, za9de⟩
 · rw [if_neg c3] at H
   have c3b0 : (Op.bytesLess a0.toList a1.toList) = false := by simpa using c3
   clear c3
   by_cases c4 : (Op.bytesLess a1.toList a0.toList) = true
   · rw [if_pos c4] at H
     have c4b0 : (Op.bytesLess a1.toList a0.toList) = true := c4
     clear c4
     obtain rfl := Option.some.inj H
     go_enter Tryd.func98, Tryd.ntmps98
     go_wp2
     go_ret
     exact ⟨z4458, za9de⟩
   · rw [if_neg c4] at H
     have c4b0 : (Op.bytesLess a1.toList a0.toList) = false := by simpa using c4
     clear c4
     obtain rfl := Option.some.inj H
     go_enter Tryd.func98, Tryd.ntmps98
     go_wp2
     go_ret
     exact ⟨z4458, za9de⟩

end Go.Proofs.YtkgmoajdcibafaaDoor.P

-- written by a program of this session's (wip/pp)
namespace Go.Proofs.YtkgmoajdcibafaaDoor.P
open Go.RowKit Go.Proofs.YtkgmoajdcibafaaDoorW.PrintWords Go.Proofs.YtkgmoajdcibafaaDoorW.PrintLast Go.Proofs.YtkgmoajdcibafaaDoorW.PrintMore
attribute [local go_sem] max2_int min2_int max_two min_two max_three min_three max_four min_four str_geq str_gtr str_leq   -- for this text's walks alone
set_option linter.unusedVariables false
set_option linter.unusedSimpArgs false

/-! ### spec_l1Compare: function 64 -/
mutual
def spec_l1Compare.l0 : Nat → Int → ByteArray → List (S123) → Int → ByteArray → List (S123) → Int → Option (Int)
 | 0, _, _, _, _, _, _, _ => none
 | k + 1, x6, x102000, x102001, x102002, x103000, x103001, x103002 => if x6 < (x102001.length : Int) then (spec_l1Compare.j1 k x6 (decide (x6 < (x103001.length : Int))) x102000 x102001 x102002 x103000 x103001 x103002) else (spec_l1Compare.j1 k x6 false x102000 x102001 x102002 x103000 x103001 x103002)
def spec_l1Compare.j1 : Nat → Int → Bool → ByteArray → List (S123) → Int → ByteArray → List (S123) → Int → Option (Int)
 | 0, _, _, _, _, _, _, _, _ => none
 | k + 1, x6, x29, x102000, x102001, x102002, x103000, x103001, x103002 => if x29 = true then (if 0 ≤ x6 then (if x6 < (x102001.length : Int) then (if x6 < (x103001.length : Int) then ((spec_l1Text.f ((rd_T123 x102001 x6).f0) ((rd_T123 x103001 x6).f0)).bind fun t106 => (if t106 = 0 then ((spec_l1Text.f ((rd_T123 x102001 x6).f1) ((rd_T123 x103001 x6).f1)).bind fun t109 => (if t109 = 0 then (spec_l1Compare.l0 k (wrap64 (x6 + 1)) x102000 x102001 x102002 x103000 x103001 x103002) else (some t109))) else (some t106))) else (none)) else (none)) else (none)) else (if (wrap64 ((x102001.length : Int) - (x103001.length : Int))) = 0 then (spec_l1Compare.j2 k (wrap64 (x102002 - x103002))) else (spec_l1Compare.j2 k (wrap64 ((x102001.length : Int) - (x103001.length : Int)))))
def spec_l1Compare.j2 : Nat → Int → Option (Int)
 | 0, _ => none
 | k + 1, x9 => if x9 < 0 then (some (-1)) else (if x9 > 0 then (some 1) else (some 0))
end
def spec_l1Compare.f (k : Nat) (a0_0 : ByteArray) (l0_1 : List (S123)) (a0_2 : Int) (a1_0 : ByteArray) (l1_1 : List (S123)) (a1_2 : Int) : Option (Int) := (spec_l1Text.f a0_0 a1_0).bind fun t103 => (if t103 = 0 then (spec_l1Compare.l0 k 0 a0_0 l0_1 a0_2 a1_0 l1_1 a1_2) else (some t103))
theorem spec_l1Compare.mono_l : ∀ k, (∀ y0 y1 y2 y3 y4 y5 y6, LeO (spec_l1Compare.l0 k y0 y1 y2 y3 y4 y5 y6) (spec_l1Compare.l0 (k + 1) y0 y1 y2 y3 y4 y5 y6)) ∧ (∀ y0 y1 y2 y3 y4 y5 y6 y7, LeO (spec_l1Compare.j1 k y0 y1 y2 y3 y4 y5 y6 y7) (spec_l1Compare.j1 (k + 1) y0 y1 y2 y3 y4 y5 y6 y7)) ∧ (∀ y0, LeO (spec_l1Compare.j2 k y0) (spec_l1Compare.j2 (k + 1) y0))
 | 0 => ⟨fun _ _ _ _ _ _ _ r h => by simp [spec_l1Compare.l0] at h, fun _ _ _ _ _ _ _ _ r h => by simp [spec_l1Compare.j1] at h, fun _ r h => by simp [spec_l1Compare.j2] at h⟩
 | k + 1 => by
  obtain ⟨ih0, ih1, ih2⟩ := spec_l1Compare.mono_l k
  refine ⟨?_, ?_, ?_⟩
  · intro y0 y1 y2 y3 y4 y5 y6
    unfold spec_l1Compare.l0
    exact moZ
  · intro y0 y1 y2 y3 y4 y5 y6 y7
    unfold spec_l1Compare.j1
    exact moZ
  · intro y0
    unfold spec_l1Compare.j2
    exact moZ
theorem spec_l1Compare.mono : ∀ a0 a1 a2 a3 a4 a5 k, LeO (spec_l1Compare.f k a0 a1 a2 a3 a4 a5) (spec_l1Compare.f (k + 1) a0 a1 a2 a3 a4 a5) := by
 intro a0 a1 a2 a3 a4 a5 k
 obtain ⟨ih0, ih1, ih2⟩ := spec_l1Compare.mono_l k
 unfold spec_l1Compare.f
 exact moZ
set_option maxHeartbeats 8000000 in
set_option maxRecDepth 100000 in
theorem spec_l1Compare.calls (k : Nat) (a0_0 : ByteArray) (A0_1 : Option Addr) (c0_1 : Nat) (l0_1 : List (S123)) (a0_2 : Int) (a1_0 : ByteArray) (A1_1 : Option Addr) (c1_1 : Nat) (l1_1 : List (S123)) (a1_2 : Int) (r : Int) (w : World) (hr0_1 : Kd.C k123 w A0_1 l0_1.length l0_1) (hc0_1 : l0_1.length ≤ c0_1) (hr1_1 : Kd.C k123 w A1_1 l1_1.length l1_1) (hc1_1 : l1_1.length ≤ c1_1) (h : spec_l1Compare.f k a0_0 l0_1 a0_2 a1_0 l1_1 a1_2 = some r) :
 Calls Tryd.prog 64 #[.agg #[.string a0_0, .slice A0_1 l0_1.length c0_1, .int .i64 a0_2], .agg #[.string a1_0, .slice A1_1 l1_1.length c1_1, .int .i64 a1_2]] w fun e w' => e = .returned (.int .i64 r) ∧ Below w.heap.size w w' := by
 have hu32 := Tryd.underlying32
 have HR0_1 := aM hr0_1
 have HC0_1 := aM hc0_1
 clear hr0_1 hc0_1
 have HR1_1 := aM hr1_1
 have HC1_1 := aM hc1_1
 clear hr1_1 hc1_1
 have HB := aM (Below.refl w.heap.size w)
 have H : ((spec_l1Text.f a0_0 a1_0).bind fun t103 => (if t103 = 0 then (spec_l1Compare.l0 k 0 a0_0 l0_1 a0_2 a1_0 l1_1 a1_2) else (some t103))) = some r := h
 clear h
 obtain ⟨t103, A3, H⟩ := bS H; try dsimp only at H
 by_cases c4 : t103 = 0
 · rw [if_pos c4] at H
   have c4b0 : (t103 == 0) = true := beq_iff_eq.mpr c4
   have c4b1 : (t103 != 0) = false := bne_eq_false_iff_eq.mpr c4
   clear c4
   have H' := aM H
   clear H
   go_enter Tryd.func64, Tryd.ntmps64
   go_wp2_with (first | ((with_reducible refine gate_dst (N := 2) rfl ?_); (try (refine gate_guard (by rfl) ?_; dsimp only)); refine bX 2 32 #[.string a0_0, .slice A0_1 l0_1.length c0_1, .int .i64 a0_2] ?_; intro gb101 hg w5 hbox hb; have _ := aM (below_step hbZ hb); have _ := aM hbox; have _ := szZ hg; have _ := szZ hg; clear HB; rename_i HB BK101 GW101 GE101; clear hb hbox hg) | ((with_reducible refine gate_dst (N := 3) rfl ?_); (try (refine gate_guard (by rfl) ?_; dsimp only)); refine bX 3 32 #[.string a1_0, .slice A1_1 l1_1.length c1_1, .int .i64 a1_2] ?_; intro gb102 hg w6 hbox hb; have _ := bB gb101 hb; have _ := aM (below_step hbZ hb); have _ := aM hbox; have _ := szZ hg; have _ := szZ hg; have ⟨_, _⟩ := nbB gb101 hg; clear BK101 HB; rename_i BK101 HB BK102 GW102 GE102 NB101_102 NB102_101; clear hb hbox hg; have hnb7 := NB101_102.out; have hnc7 := NB102_101.out; have hz8 := cellsZ3 BK101.out; have hz9 := cellsZ3 BK102.out) | (go_at_call 98; (with_reducible refine (spec_l1Text.calls a0_0 a1_0 t103 _ A3.out).mono ?_); rintro e w' ⟨rfl, ⟨nd, rfl⟩⟩; (try first | exact ⟨rfl, _, World.drewN_drewN _ _ _⟩ | exact ⟨rfl, _, Eq.trans (World.drewN_drewN _ _ _) (congrArg (World.drewN _) (Nat.add_assoc _ _ _))⟩)))
   repeat (go_quiet (first | ((with_reducible refine gate_dst (N := 2) rfl ?_); (try (refine gate_guard (by rfl) ?_; dsimp only)); refine bX 2 32 #[.string a0_0, .slice A0_1 l0_1.length c0_1, .int .i64 a0_2] ?_; intro gb101 hg w5 hbox hb; have _ := aM (below_step hbZ hb); have _ := aM hbox; have _ := szZ hg; have _ := szZ hg; clear HB; rename_i HB BK101 GW101 GE101; clear hb hbox hg) | ((with_reducible refine gate_dst (N := 3) rfl ?_); (try (refine gate_guard (by rfl) ?_; dsimp only)); refine bX 3 32 #[.string a1_0, .slice A1_1 l1_1.length c1_1, .int .i64 a1_2] ?_; intro gb102 hg w6 hbox hb; have _ := bB gb101 hb; have _ := aM (below_step hbZ hb); have _ := aM hbox; have _ := szZ hg; have _ := szZ hg; have ⟨_, _⟩ := nbB gb101 hg; clear BK101 HB; rename_i BK101 HB BK102 GW102 GE102 NB101_102 NB102_101; clear hb hbox hg; have hnb7 := NB101_102.out; have hnc7 := NB102_101.out; have hz8 := cellsZ3 BK101.out; have hz9 := cellsZ3 BK102.out) | (go_at_call 98; (with_reducible refine (spec_l1Text.calls a0_0 a1_0 t103 _ A3.out).mono ?_); rintro e w' ⟨rfl, ⟨nd, rfl⟩⟩; (try first | exact ⟨rfl, _, World.drewN_drewN _ _ _⟩ | exact ⟨rfl, _, Eq.trans (World.drewN_drewN _ _ _) (congrArg (World.drewN _) (Nat.add_assoc _ _ _))⟩))); try go_wp2_with (first | ((with_reducible refine gate_dst (N := 2) rfl ?_); (try (refine gate_guard (by rfl) ?_; dsimp only)); refine bX 2 32 #[.string a0_0, .slice A0_1 l0_1.length c0_1, .int .i64 a0_2] ?_; intro gb101 hg w5 hbox hb; have _ := aM (below_step hbZ hb); have _ := aM hbox; have _ := szZ hg; have _ := szZ hg; clear HB; rename_i HB BK101 GW101 GE101; clear hb hbox hg) | ((with_reducible refine gate_dst (N := 3) rfl ?_); (try (refine gate_guard (by rfl) ?_; dsimp only)); refine bX 3 32 #[.string a1_0, .slice A1_1 l1_1.length c1_1, .int .i64 a1_2] ?_; intro gb102 hg w6 hbox hb; have _ := bB gb101 hb; have _ := aM (below_step hbZ hb); have _ := aM hbox; have _ := szZ hg; have _ := szZ hg; have ⟨_, _⟩ := nbB gb101 hg; clear BK101 HB; rename_i BK101 HB BK102 GW102 GE102 NB101_102 NB102_101; clear hb hbox hg; have hnb7 := NB101_102.out; have hnc7 := NB102_101.out; have hz8 := cellsZ3 BK101.out; have hz9 := cellsZ3 BK102.out) | (go_at_call 98; (with_reducible refine (spec_l1Text.calls a0_0 a1_0 t103 _ A3.out).mono ?_); rintro e w' ⟨rfl, ⟨nd, rfl⟩⟩; (try first | exact ⟨rfl, _, World.drewN_drewN _ _ _⟩ | exact ⟨rfl, _, Eq.trans (World.drewN_drewN _ _ _) (congrArg (World.drewN _) (Nat.add_assoc _ _ _))⟩))))
   go_loopg [6] k (fun kq v6 w' => ∃ (x6_1 : Int), v6 = .int .i64 x6_1 ∧ Aside0 (spec_l1Compare.l0 kq x6_1 a0_0 l0_1 a0_2 a1_0 l1_1 a1_2 = some r) ∧ Aside0 (kq ≤ k) ∧ Aside0 (w'.heap[gb101]? = some (.cells #[.string a0_0, (.slice A0_1 l0_1.length c0_1), .int .i64 a0_2] 32 (0, 0))) ∧ Aside0 (w'.heap[gb102]? = some (.cells #[.string a1_0, (.slice A1_1 l1_1.length c1_1), .int .i64 a1_2] 32 (0, 0))) ∧ Aside0 (Below w.heap.size w w'))
   case atStart => exact ⟨(0), z4458, H', ⟨Nat.le_refl _⟩, ⟨bkZ⟩, ⟨bkZ⟩, ⟨zcb41⟩⟩
   case round =>
    clear H'
    (try clear c1); (try clear c4b0); (try clear c4b1); (try clear hz8); (try clear hz9)
    obtain ⟨x6_1, rfl, HA, HK1, BK101, BK102, HB⟩ := hrel
    cases gk with
    | zero => exact absurd HA.out (by simp [spec_l1Compare.l0])
    | succ k1 =>
     have H := HA.out
     clear HA
     simp only [spec_l1Compare.l0] at H
     have HC10 := aM H
     clear H
     go_upto_region 5 with (fail)
     repeat (go_quiet (fail); go_upto_region 5 with (fail))
     go_cut [29] (fun v29 wc => ∃ (kq : Nat) (x29_9 : Bool), v29 = .bool x29_9 ∧ Aside0 (spec_l1Compare.j1 kq x6_1 x29_9 a0_0 l0_1 a0_2 a1_0 l1_1 a1_2 = some r) ∧ Aside0 (kq ≤ k1) ∧ Aside0 (wc.heap[gb101]? = some (.cells #[.string a0_0, (.slice A0_1 l0_1.length c0_1), .int .i64 a0_2] 32 (0, 0))) ∧ Aside0 (wc.heap[gb102]? = some (.cells #[.string a1_0, (.slice A1_1 l1_1.length c1_1), .int .i64 a1_2] 32 (0, 0))) ∧ Aside0 (Below w.heap.size w wc))
     case first =>
      have H := HC10.out
      clear HC10
      by_cases c11 : x6_1 < (l0_1.length : Int)
      · rw [if_pos c11] at H
        have c11b0 := dL c11
        clear c11
        (first | rw [c11b0] | (simp only [i64_w, i32_w]; rw [c11b0]) | skip)
        have H' := aM H
        clear H
        have hnb12 := NB101_102.out
        have hnc12 := NB102_101.out
        have hz13 := cellsZ3 BK101.out
        have hz14 := cellsZ3 BK102.out
        go_wp2
        repeat (go_quiet (fail); try go_wp2)
        go_meet
        case rel => exact ⟨_, (decide (x6_1 < (l1_1.length : Int))), z4458, H', ⟨ze59a⟩, ⟨bkZ⟩, ⟨bkZ⟩, ⟨zcb41⟩⟩
      · rw [if_neg c11] at H
        have c11b0 := nL c11
        clear c11
        (first | rw [c11b0] | (simp only [i64_w, i32_w]; rw [c11b0]) | skip)
        have H' := aM H
        clear H
        have hnb15 := NB101_102.out
        have hnc15 := NB102_101.out
        have hz16 := cellsZ3 BK101.out
        go_wp2
        repeat (go_quiet (fail); try go_wp2)
        go_meet
        case rel => exact ⟨_, (false), z4458, H', ⟨ze59a⟩, ⟨bkZ⟩, ⟨bkZ⟩, ⟨zcb41⟩⟩
     case rest =>
      clear HC10
      obtain ⟨kq, x29_9, rfl, HA, HJ9, BK101, BK102, HB⟩ := hcut
      cases kq with
      | zero => exact absurd HA.out (by simp [spec_l1Compare.j1])
      | succ kj9 =>
       have H := HA.out
       clear HA
       simp only [spec_l1Compare.j1] at H
       by_cases c17 : x29_9 = true
       · subst c17
         rw [if_pos rfl] at H
         obtain ⟨c18b0, H⟩ := sE H
         obtain ⟨c19b0, H⟩ := sL H
         obtain ⟨c20b0, H⟩ := sL H
         obtain ⟨t106, A21, H⟩ := bS H; try dsimp only at H
         by_cases c22 : t106 = 0
         · rw [if_pos c22] at H
           have c22b0 : (t106 == 0) = true := beq_iff_eq.mpr c22
           have c22b1 : (t106 != 0) = false := bne_eq_false_iff_eq.mpr c22
           clear c22
           obtain ⟨t109, A23, H⟩ := bS H; try dsimp only at H
           by_cases c24 : t109 = 0
           · rw [if_pos c24] at H
             have c24b0 : (t109 == 0) = true := beq_iff_eq.mpr c24
             have c24b1 : (t109 != 0) = false := bne_eq_false_iff_eq.mpr c24
             clear c24
             have H' := aM H
             clear H
             have hnb25 := NB101_102.out
             have hnc25 := NB102_101.out
             have hz26 := cellsZ3 BK101.out
             have p104 : 0 ≤ (x6_1 : Int) := of_decide_eq_true z1200
             have q104 : x6_1 < (l0_1.length : Int) := of_decide_eq_true z1200
             obtain ⟨ad104, e104, hx104_0, hx104_1⟩ := at_T123 HR0_1.out x6_1 p104 q104
             cases e104
             replace hx104_0 := (HB.out.cell (World.block_lt_of_cell? w _ hx104_0)).trans hx104_0
             replace hx104_1 := (HB.out.cell (World.block_lt_of_cell? w _ hx104_1)).trans hx104_1
             replace p104 := eq_true p104
             replace q104 := eq_true q104
             have hz27 := cellsZ3 BK102.out
             have p105 : 0 ≤ (x6_1 : Int) := of_decide_eq_true z1200
             have q105 : x6_1 < (l1_1.length : Int) := of_decide_eq_true z1200
             obtain ⟨ad105, e105, hx105_0, hx105_1⟩ := at_T123 HR1_1.out x6_1 p105 q105
             cases e105
             replace hx105_0 := (HB.out.cell (World.block_lt_of_cell? w _ hx105_0)).trans hx105_0
             replace hx105_1 := (HB.out.cell (World.block_lt_of_cell? w _ hx105_1)).trans hx105_1
             replace p105 := eq_true p105
             replace q105 := eq_true q105
             go_wp2_with (first | (go_at_call 98; (with_reducible refine (spec_l1Text.calls ((rd_T123 l0_1 x6_1).f0) ((rd_T123 l1_1 x6_1).f0) t106 _ A21.out).mono ?_); rintro e w' ⟨rfl, ⟨nd, rfl⟩⟩; (try first | exact ⟨rfl, _, World.drewN_drewN _ _ _⟩ | exact ⟨rfl, _, Eq.trans (World.drewN_drewN _ _ _) (congrArg (World.drewN _) (Nat.add_assoc _ _ _))⟩); have p107 : 0 ≤ (x6_1 : Int) := of_decide_eq_true z1200; have q107 : x6_1 < (l0_1.length : Int) := of_decide_eq_true z1200; obtain ⟨ad107, e107, hx107_0, hx107_1⟩ := at_T123 HR0_1.out x6_1 p107 q107; obtain rfl : ad104 = ad107 := (by injection e107); replace hx107_0 := (HB.out.cell (World.block_lt_of_cell? w _ hx107_0)).trans hx107_0; replace hx107_1 := (HB.out.cell (World.block_lt_of_cell? w _ hx107_1)).trans hx107_1; replace p107 := eq_true p107; replace q107 := eq_true q107; have p108 : 0 ≤ (x6_1 : Int) := of_decide_eq_true z1200; have q108 : x6_1 < (l1_1.length : Int) := of_decide_eq_true z1200; obtain ⟨ad108, e108, hx108_0, hx108_1⟩ := at_T123 HR1_1.out x6_1 p108 q108; obtain rfl : ad105 = ad108 := (by injection e108); replace hx108_0 := (HB.out.cell (World.block_lt_of_cell? w _ hx108_0)).trans hx108_0; replace hx108_1 := (HB.out.cell (World.block_lt_of_cell? w _ hx108_1)).trans hx108_1; replace p108 := eq_true p108; replace q108 := eq_true q108) | (go_at_call 98; (with_reducible refine (spec_l1Text.calls ((rd_T123 l0_1 x6_1).f1) ((rd_T123 l1_1 x6_1).f1) t109 _ A23.out).mono ?_); rintro e w' ⟨rfl, ⟨nd, rfl⟩⟩; (try first | exact ⟨rfl, _, World.drewN_drewN _ _ _⟩ | exact ⟨rfl, _, Eq.trans (World.drewN_drewN _ _ _) (congrArg (World.drewN _) (Nat.add_assoc _ _ _))⟩)))
             repeat (go_quiet (first | (go_at_call 98; (with_reducible refine (spec_l1Text.calls ((rd_T123 l0_1 x6_1).f0) ((rd_T123 l1_1 x6_1).f0) t106 _ A21.out).mono ?_); rintro e w' ⟨rfl, ⟨nd, rfl⟩⟩; (try first | exact ⟨rfl, _, World.drewN_drewN _ _ _⟩ | exact ⟨rfl, _, Eq.trans (World.drewN_drewN _ _ _) (congrArg (World.drewN _) (Nat.add_assoc _ _ _))⟩); have p107 : 0 ≤ (x6_1 : Int) := of_decide_eq_true z1200; have q107 : x6_1 < (l0_1.length : Int) := of_decide_eq_true z1200; obtain ⟨ad107, e107, hx107_0, hx107_1⟩ := at_T123 HR0_1.out x6_1 p107 q107; obtain rfl : ad104 = ad107 := (by injection e107); replace hx107_0 := (HB.out.cell (World.block_lt_of_cell? w _ hx107_0)).trans hx107_0; replace hx107_1 := (HB.out.cell (World.block_lt_of_cell? w _ hx107_1)).trans hx107_1; replace p107 := eq_true p107; replace q107 := eq_true q107; have p108 : 0 ≤ (x6_1 : Int) := of_decide_eq_true z1200; have q108 : x6_1 < (l1_1.length : Int) := of_decide_eq_true z1200; obtain ⟨ad108, e108, hx108_0, hx108_1⟩ := at_T123 HR1_1.out x6_1 p108 q108; obtain rfl : ad105 = ad108 := (by injection e108); replace hx108_0 := (HB.out.cell (World.block_lt_of_cell? w _ hx108_0)).trans hx108_0; replace hx108_1 := (HB.out.cell (World.block_lt_of_cell? w _ hx108_1)).trans hx108_1; replace p108 := eq_true p108; replace q108 := eq_true q108) | (go_at_call 98; (with_reducible refine (spec_l1Text.calls ((rd_T123 l0_1 x6_1).f1) ((rd_T123 l1_1 x6_1).f1) t109 _ A23.out).mono ?_); rintro e w' ⟨rfl, ⟨nd, rfl⟩⟩; (try first | exact ⟨rfl, _, World.drewN_drewN _ _ _⟩ | exact ⟨rfl, _, Eq.trans (World.drewN_drewN _ _ _) (congrArg (World.drewN _) (Nat.add_assoc _ _ _))⟩))); try go_wp2_with (first | (go_at_call 98; (with_reducible refine (spec_l1Text.calls ((rd_T123 l0_1 x6_1).f0) ((rd_T123 l1_1 x6_1).f0) t106 _ A21.out).mono ?_); rintro e w' ⟨rfl, ⟨nd, rfl⟩⟩; (try first | exact ⟨rfl, _, World.drewN_drewN _ _ _⟩ | exact ⟨rfl, _, Eq.trans (World.drewN_drewN _ _ _) (congrArg (World.drewN _) (Nat.add_assoc _ _ _))⟩); have p107 : 0 ≤ (x6_1 : Int) := of_decide_eq_true z1200; have q107 : x6_1 < (l0_1.length : Int) := of_decide_eq_true z1200; obtain ⟨ad107, e107, hx107_0, hx107_1⟩ := at_T123 HR0_1.out x6_1 p107 q107; obtain rfl : ad104 = ad107 := (by injection e107); replace hx107_0 := (HB.out.cell (World.block_lt_of_cell? w _ hx107_0)).trans hx107_0; replace hx107_1 := (HB.out.cell (World.block_lt_of_cell? w _ hx107_1)).trans hx107_1; replace p107 := eq_true p107; replace q107 := eq_true q107; have p108 : 0 ≤ (x6_1 : Int) := of_decide_eq_true z1200; have q108 : x6_1 < (l1_1.length : Int) := of_decide_eq_true z1200; obtain ⟨ad108, e108, hx108_0, hx108_1⟩ := at_T123 HR1_1.out x6_1 p108 q108; obtain rfl : ad105 = ad108 := (by injection e108); replace hx108_0 := (HB.out.cell (World.block_lt_of_cell? w _ hx108_0)).trans hx108_0; replace hx108_1 := (HB.out.cell (World.block_lt_of_cell? w _ hx108_1)).trans hx108_1; replace p108 := eq_true p108; replace q108 := eq_true q108) | (go_at_call 98; (with_reducible refine (spec_l1Text.calls ((rd_T123 l0_1 x6_1).f1) ((rd_T123 l1_1 x6_1).f1) t109 _ A23.out).mono ?_); rintro e w' ⟨rfl, ⟨nd, rfl⟩⟩; (try first | exact ⟨rfl, _, World.drewN_drewN _ _ _⟩ | exact ⟨rfl, _, Eq.trans (World.drewN_drewN _ _ _) (congrArg (World.drewN _) (Nat.add_assoc _ _ _))⟩))))
             go_roundg kj9
             case measure => have := HK1.out; have := HJ9.out; omega
             case rel => exact ⟨(wrap64 (x6_1 + 1)), z4458, H', ⟨by have := HK1.out; have := HJ9.out; omega⟩, ⟨bkZ⟩, ⟨bkZ⟩, ⟨zcb41⟩⟩
           · rw [if_neg c24] at H
             have c24b0 := eqN c24
             obtain rfl := Option.some.inj H
             have hnb28 := NB101_102.out
             have hnc28 := NB102_101.out
             have hz29 := cellsZ3 BK101.out
             have p104 : 0 ≤ (x6_1 : Int) := of_decide_eq_true z1200
             have q104 : x6_1 < (l0_1.length : Int) := of_decide_eq_true z1200
             obtain ⟨ad104, e104, hx104_0, hx104_1⟩ := at_T123 HR0_1.out x6_1 p104 q104
             cases e104
             replace hx104_0 := (HB.out.cell (World.block_lt_of_cell? w _ hx104_0)).trans hx104_0
             replace hx104_1 := (HB.out.cell (World.block_lt_of_cell? w _ hx104_1)).trans hx104_1
             replace p104 := eq_true p104
             replace q104 := eq_true q104
             have hz30 := cellsZ3 BK102.out
             have p105 : 0 ≤ (x6_1 : Int) := of_decide_eq_true z1200
             have q105 : x6_1 < (l1_1.length : Int) := of_decide_eq_true z1200
             obtain ⟨ad105, e105, hx105_0, hx105_1⟩ := at_T123 HR1_1.out x6_1 p105 q105
             cases e105
             replace hx105_0 := (HB.out.cell (World.block_lt_of_cell? w _ hx105_0)).trans hx105_0
             replace hx105_1 := (HB.out.cell (World.block_lt_of_cell? w _ hx105_1)).trans hx105_1
             replace p105 := eq_true p105
             replace q105 := eq_true q105
             go_wp2_with (first | (go_at_call 98; (with_reducible refine (spec_l1Text.calls ((rd_T123 l0_1 x6_1).f0) ((rd_T123 l1_1 x6_1).f0) t106 _ A21.out).mono ?_); rintro e w' ⟨rfl, ⟨nd, rfl⟩⟩; (try first | exact ⟨rfl, _, World.drewN_drewN _ _ _⟩ | exact ⟨rfl, _, Eq.trans (World.drewN_drewN _ _ _) (congrArg (World.drewN _) (Nat.add_assoc _ _ _))⟩); have p107 : 0 ≤ (x6_1 : Int) := of_decide_eq_true z1200; have q107 : x6_1 < (l0_1.length : Int) := of_decide_eq_true z1200; obtain ⟨ad107, e107, hx107_0, hx107_1⟩ := at_T123 HR0_1.out x6_1 p107 q107; obtain rfl : ad104 = ad107 := (by injection e107); replace hx107_0 := (HB.out.cell (World.block_lt_of_cell? w _ hx107_0)).trans hx107_0; replace hx107_1 := (HB.out.cell (World.block_lt_of_cell? w _ hx107_1)).trans hx107_1; replace p107 := eq_true p107; replace q107 := eq_true q107; have p108 : 0 ≤ (x6_1 : Int) := of_decide_eq_true z1200; have q108 : x6_1 < (l1_1.length : Int) := of_decide_eq_true z1200; obtain ⟨ad108, e108, hx108_0, hx108_1⟩ := at_T123 HR1_1.out x6_1 p108 q108; obtain rfl : ad105 = ad108 := (by injection e108); replace hx108_0 := (HB.out.cell (World.block_lt_of_cell? w _ hx108_0)).trans hx108_0; replace hx108_1 := (HB.out.cell (World.block_lt_of_cell? w _ hx108_1)).trans hx108_1; replace p108 := eq_true p108; replace q108 := eq_true q108) | (go_at_call 98; (with_reducible refine (spec_l1Text.calls ((rd_T123 l0_1 x6_1).f1) ((rd_T123 l1_1 x6_1).f1) t109 _ A23.out).mono ?_); rintro e w' ⟨rfl, ⟨nd, rfl⟩⟩; (try first | exact ⟨rfl, _, World.drewN_drewN _ _ _⟩ | exact ⟨rfl, _, Eq.trans (World.drewN_drewN _ _ _) (congrArg (World.drewN _) (Nat.add_assoc _ _ _))⟩)))
             repeat (go_quiet (first | (go_at_call 98; (with_reducible refine (spec_l1Text.calls ((rd_T123 l0_1 x6_1).f0) ((rd_T123 l1_1 x6_1).f0) t106 _ A21.out).mono ?_); rintro e w' ⟨rfl, ⟨nd, rfl⟩⟩; (try first | exact ⟨rfl, _, World.drewN_drewN _ _ _⟩ | exact ⟨rfl, _, Eq.trans (World.drewN_drewN _ _ _) (congrArg (World.drewN _) (Nat.add_assoc _ _ _))⟩); have p107 : 0 ≤ (x6_1 : Int) := of_decide_eq_true z1200; have q107 : x6_1 < (l0_1.length : Int) := of_decide_eq_true z1200; obtain ⟨ad107, e107, hx107_0, hx107_1⟩ := at_T123 HR0_1.out x6_1 p107 q107; obtain rfl : ad104 = ad107 := (by injection e107); replace hx107_0 := (HB.out.cell (World.block_lt_of_cell? w _ hx107_0)).trans hx107_0; replace hx107_1 := (HB.out.cell (World.block_lt_of_cell? w _ hx107_1)).trans hx107_1; replace p107 := eq_true p107; replace q107 := eq_true q107; have p108 : 0 ≤ (x6_1 : Int) := of_decide_eq_true z1200; have q108 : x6_1 < (l1_1.length : Int) := of_decide_eq_true z1200; obtain ⟨ad108, e108, hx108_0, hx108_1⟩ := at_T123 HR1_1.out x6_1 p108 q108; obtain rfl : ad105 = ad108 := (by injection e108); replace hx108_0 := (HB.out.cell (World.block_lt_of_cell? w _ hx108_0)).trans hx108_0; replace hx108_1 := (HB.out.cell (World.block_lt_of_cell? w _ hx108_1)).trans hx108_1; replace p108 := eq_true p108; replace q108 := eq_true q108) | (go_at_call 98; (with_reducible refine (spec_l1Text.calls ((rd_T123 l0_1 x6_1).f1) ((rd_T123 l1_1 x6_1).f1) t109 _ A23.out).mono ?_); rintro e w' ⟨rfl, ⟨nd, rfl⟩⟩; (try first | exact ⟨rfl, _, World.drewN_drewN _ _ _⟩ | exact ⟨rfl, _, Eq.trans (World.drewN_drewN _ _ _) (congrArg (World.drewN _) (Nat.add_assoc _ _ _))⟩))); try go_wp2_with (first | (go_at_call 98; (with_reducible refine (spec_l1Text.calls ((rd_T123 l0_1 x6_1).f0) ((rd_T123 l1_1 x6_1).f0) t106 _ A21.out).mono ?_); rintro e w' ⟨rfl, ⟨nd, rfl⟩⟩; (try first | exact ⟨rfl, _, World.drewN_drewN _ _ _⟩ | exact ⟨rfl, _, Eq.trans (World.drewN_drewN _ _ _) (congrArg (World.drewN _) (Nat.add_assoc _ _ _))⟩); have p107 : 0 ≤ (x6_1 : Int) := of_decide_eq_true z1200; have q107 : x6_1 < (l0_1.length : Int) := of_decide_eq_true z1200; obtain ⟨ad107, e107, hx107_0, hx107_1⟩ := at_T123 HR0_1.out x6_1 p107 q107; obtain rfl : ad104 = ad107 := (by injection e107); replace hx107_0 := (HB.out.cell (World.block_lt_of_cell? w _ hx107_0)).trans hx107_0; replace hx107_1 := (HB.out.cell (World.block_lt_of_cell? w _ hx107_1)).trans hx107_1; replace p107 := eq_true p107; replace q107 := eq_true q107; have p108 : 0 ≤ (x6_1 : Int) := of_decide_eq_true z1200; have q108 : x6_1 < (l1_1.length : Int) := of_decide_eq_true z1200; obtain ⟨ad108, e108, hx108_0, hx108_1⟩ := at_T123 HR1_1.out x6_1 p108 q108; obtain rfl : ad105 = ad108 := (by injection e108); replace hx108_0 := (HB.out.cell (World.block_lt_of_cell? w _ hx108_0)).trans hx108_0; replace hx108_1 := (HB.out.cell (World.block_lt_of_cell? w _ hx108_1)).trans hx108_1; replace p108 := eq_true p108; replace q108 := eq_true q108) | (go_at_call 98; (with_reducible refine (spec_l1Text.calls ((rd_T123 l0_1 x6_1).f1) ((rd_T123 l1_1 x6_1).f1) t109 _ A23.out).mono ?_); rintro e w' ⟨rfl, ⟨nd, rfl⟩⟩; (try first | exact ⟨rfl, _, World.drewN_drewN _ _ _⟩ | exact ⟨rfl, _, Eq.trans (World.drewN_drewN _ _ _) (congrArg (World.drewN _) (Nat.add_assoc _ _ _))⟩))))
             go_ret
             exact ⟨z674d, zcb41⟩
         · rw [if_neg c22] at H
           have c22b0 := eqN c22
           obtain rfl := Option.some.inj H
           have hnb31 := NB101_102.out
           have hnc31 := NB102_101.out
           have hz32 := cellsZ3 BK101.out
           have p104 : 0 ≤ (x6_1 : Int) := of_decide_eq_true z1200
           have q104 : x6_1 < (l0_1.length : Int) := of_decide_eq_true z1200
           obtain ⟨ad104, e104, hx104_0, hx104_1⟩ := at_T123 HR0_1.out x6_1 p104 q104
           cases e104
           replace hx104_0 := (HB.out.cell (World.block_lt_of_cell? w _ hx104_0)).trans hx104_0
           replace hx104_1 := (HB.out.cell (World.block_lt_of_cell? w _ hx104_1)).trans hx104_1
           replace p104 := eq_true p104
           replace q104 := eq_true q104
           have hz33 := cellsZ3 BK102.out
           have p105 : 0 ≤ (x6_1 : Int) := of_decide_eq_true z1200
           have q105 : x6_1 < (l1_1.length : Int) := of_decide_eq_true z1200
           obtain ⟨ad105, e105, hx105_0, hx105_1⟩ := at_T123 HR1_1.out x6_1 p105 q105
           cases e105
           replace hx105_0 := (HB.out.cell (World.block_lt_of_cell? w _ hx105_0)).trans hx105_0
           replace hx105_1 := (HB.out.cell (World.block_lt_of_cell? w _ hx105_1)).trans hx105_1
           replace p105 := eq_true p105
           replace q105 := eq_true q105
           go_wp2_with (first | (go_at_call 98; (with_reducible refine (spec_l1Text.calls ((rd_T123 l0_1 x6_1).f0) ((rd_T123 l1_1 x6_1).f0) t106 _ A21.out).mono ?_); rintro e w' ⟨rfl, ⟨nd, rfl⟩⟩; (try first | exact ⟨rfl, _, World.drewN_drewN _ _ _⟩ | exact ⟨rfl, _, Eq.trans (World.drewN_drewN _ _ _) (congrArg (World.drewN _) (Nat.add_assoc _ _ _))⟩)))
           repeat (go_quiet (first | (go_at_call 98; (with_reducible refine (spec_l1Text.calls ((rd_T123 l0_1 x6_1).f0) ((rd_T123 l1_1 x6_1).f0) t106 _ A21.out).mono ?_); rintro e w' ⟨rfl, ⟨nd, rfl⟩⟩; (try first | exact ⟨rfl, _, World.drewN_drewN _ _ _⟩ | exact ⟨rfl, _, Eq.trans (World.drewN_drewN _ _ _) (congrArg (World.drewN _) (Nat.add_assoc _ _ _))⟩))); try go_wp2_with (first | (go_at_call 98; (with_reducible refine (spec_l1Text.calls ((rd_T123 l0_1 x6_1).f0) ((rd_T123 l1_1 x6_1).f0) t106 _ A21.out).mono ?_); rintro e w' ⟨rfl, ⟨nd, rfl⟩⟩; (try first | exact ⟨rfl, _, World.drewN_drewN _ _ _⟩ | exact ⟨rfl, _, Eq.trans (World.drewN_drewN _ _ _) (congrArg (World.drewN _) (Nat.add_assoc _ _ _))⟩))))
           go_ret
           exact ⟨z674d, zcb41⟩
       · replace c17 := Bool.eq_false_iff.mpr c17
         subst c17
         rw [if_neg (show ¬ (false = true) by decide)] at H
         have HC34 := aM H
         clear H
         have hnb35 := NB101_102.out
         have hnc35 := NB102_101.out
         have hz36 := cellsZ3 BK101.out
         have hz37 := cellsZ3 BK102.out
         go_upto_if 72 with (fail)
         repeat (go_quiet (fail); go_upto_if 72 with (fail))
         go_cut [9] (fun v9 wc => ∃ (kq : Nat) (x9_33 : Int), v9 = .int .i64 x9_33 ∧ Aside0 (spec_l1Compare.j2 kq x9_33 = some r) ∧ Aside0 (kq ≤ kj9) ∧ Aside0 (wc.heap[gb101]? = some (.cells #[.string a0_0, (.slice A0_1 l0_1.length c0_1), .int .i64 a0_2] 32 (0, 0))) ∧ Aside0 (wc.heap[gb102]? = some (.cells #[.string a1_0, (.slice A1_1 l1_1.length c1_1), .int .i64 a1_2] 32 (0, 0))) ∧ Aside0 (Below w.heap.size w wc))
         case first =>
          have H := HC34.out
          clear HC34
          by_cases c38 : (wrap64 ((l0_1.length : Int) - (l1_1.length : Int))) = 0
          · rw [if_pos c38] at H
            have c38b0 : ((wrap64 ((l0_1.length : Int) - (l1_1.length : Int))) == 0) = true := beq_iff_eq.mpr c38
            have c38b1 : ((wrap64 ((l0_1.length : Int) - (l1_1.length : Int))) != 0) = false := bne_eq_false_iff_eq.mpr c38
            clear c38
            (first | rw [c38b0] | (simp only [i64_w, i32_w]; rw [c38b0]) | skip)
            have H' := aM H
            clear H
            have hz40 := cellsZ3 BK101.out
            have hz41 := cellsZ3 BK102.out
            go_wp2
            repeat (go_quiet (fail); try go_wp2)
            go_meet
            case rel => exact ⟨_, (wrap64 (a0_2 - a1_2)), z4458, H', ⟨by have := HK1.out; have := HJ9.out; first | omega | exact Nat.le_refl _⟩, ⟨bkZ⟩, ⟨bkZ⟩, ⟨zcb41⟩⟩
          · rw [if_neg c38] at H
            have c38b0 : ((wrap64 ((l0_1.length : Int) - (l1_1.length : Int))) == 0) = false := beq_eq_false_iff_ne.mpr c38
            have c38b1 : ((wrap64 ((l0_1.length : Int) - (l1_1.length : Int))) != 0) = true := bne_iff_ne.mpr c38
            (first | rw [c38b0] | (simp only [i64_w, i32_w]; rw [c38b0]) | skip)
            have H' := aM H
            clear H
            go_wp2
            repeat (go_quiet (fail); try go_wp2)
            go_meet
            case rel => exact ⟨_, (wrap64 ((l0_1.length : Int) - (l1_1.length : Int))), z4458, H', ⟨by have := HK1.out; have := HJ9.out; first | omega | exact Nat.le_refl _⟩, ⟨bkZ⟩, ⟨bkZ⟩, ⟨zcb41⟩⟩
         case rest =>
          clear HC34
          (try clear c17); (try clear hz36); (try clear hz37)
          obtain ⟨kq, x9_33, rfl, HA, HJ33, BK101, BK102, HB⟩ := hcut
          cases kq with
          | zero => exact absurd HA.out (by simp [spec_l1Compare.j2])
          | succ kj33 =>
           have H := HA.out
           clear HA
           simp only [spec_l1Compare.j2] at H
           by_cases c42 : x9_33 < 0
           · rw [if_pos c42] at H
             have c42b0 := dL c42
             clear c42
             obtain rfl := Option.some.inj H
             go_wp2
             repeat (go_quiet (fail); try go_wp2)
             go_ret
             exact ⟨z674d, zcb41⟩
           · rw [if_neg c42] at H
             have c42b0 := nL c42
             clear c42
             by_cases c43 : x9_33 > 0
             · rw [if_pos c43] at H
               have c43b0 := dL c43
               clear c43
               obtain rfl := Option.some.inj H
               go_wp2
               repeat (go_quiet (fail); try go_wp2)
               go_ret
               exact ⟨z674d, zcb41⟩
             · rw [if_neg c43] at H
               have c43b0 := nL c43
               clear c43
               obtain rfl := Option.some.inj H
               go_wp2
               repeat (go_quiet (fail); try go_wp2)
               go_ret
               exact ⟨z674d, zcb41⟩
 · rw [if_neg c4] at H
   have c4b0 := eqN c4
   obtain rfl := Option.some.inj H
   go_enter Tryd.func64, Tryd.ntmps64
   go_wp2_with (first | ((with_reducible refine gate_dst (N := 2) rfl ?_); (try (refine gate_guard (by rfl) ?_; dsimp only)); refine bX 2 32 #[.string a0_0, .slice A0_1 l0_1.length c0_1, .int .i64 a0_2] ?_; intro gb101 hg w44 hbox hb; have _ := aM (below_step hbZ hb); have _ := aM hbox; have _ := szZ hg; have _ := szZ hg; clear HB; rename_i HB BK101 GW101 GE101; clear hb hbox hg) | ((with_reducible refine gate_dst (N := 3) rfl ?_); (try (refine gate_guard (by rfl) ?_; dsimp only)); refine bX 3 32 #[.string a1_0, .slice A1_1 l1_1.length c1_1, .int .i64 a1_2] ?_; intro gb102 hg w45 hbox hb; have _ := bB gb101 hb; have _ := aM (below_step hbZ hb); have _ := aM hbox; have _ := szZ hg; have _ := szZ hg; have ⟨_, _⟩ := nbB gb101 hg; clear BK101 HB; rename_i BK101 HB BK102 GW102 GE102 NB101_102 NB102_101; clear hb hbox hg; have hnb46 := NB101_102.out; have hnc46 := NB102_101.out; have hz47 := cellsZ3 BK101.out; have hz48 := cellsZ3 BK102.out) | (go_at_call 98; (with_reducible refine (spec_l1Text.calls a0_0 a1_0 t103 _ A3.out).mono ?_); rintro e w' ⟨rfl, ⟨nd, rfl⟩⟩; (try first | exact ⟨rfl, _, World.drewN_drewN _ _ _⟩ | exact ⟨rfl, _, Eq.trans (World.drewN_drewN _ _ _) (congrArg (World.drewN _) (Nat.add_assoc _ _ _))⟩)))
   repeat (go_quiet (first | ((with_reducible refine gate_dst (N := 2) rfl ?_); (try (refine gate_guard (by rfl) ?_; dsimp only)); refine bX 2 32 #[.string a0_0, .slice A0_1 l0_1.length c0_1, .int .i64 a0_2] ?_; intro gb101 hg w44 hbox hb; have _ := aM (below_step hbZ hb); have _ := aM hbox; have _ := szZ hg; have _ := szZ hg; clear HB; rename_i HB BK101 GW101 GE101; clear hb hbox hg) | ((with_reducible refine gate_dst (N := 3) rfl ?_); (try (refine gate_guard (by rfl) ?_; dsimp only)); refine bX 3 32 #[.string a1_0, .slice A1_1 l1_1.length c1_1, .int .i64 a1_2] ?_; intro gb102 hg w45 hbox hb; have _ := bB gb101 hb; have _ := aM (below_step hbZ hb); have _ := aM hbox; have _ := szZ hg; have _ := szZ hg; have ⟨_, _⟩ := nbB gb101 hg; clear BK101 HB; rename_i BK101 HB BK102 GW102 GE102 NB101_102 NB102_101; clear hb hbox hg; have hnb46 := NB101_102.out; have hnc46 := NB102_101.out; have hz47 := cellsZ3 BK101.out; have hz48 := cellsZ3 BK102.out) | (go_at_call 98; (with_reducible refine (spec_l1Text.calls a0_0 a1_0 t103 _ A3.out).mono ?_); rintro e w' ⟨rfl, ⟨nd, rfl⟩⟩; (try first | exact ⟨rfl, _, World.drewN_drewN _ _ _⟩ | exact ⟨rfl, _, Eq.trans (World.drewN_drewN _ _ _) (congrArg (World.drewN _) (Nat.add_assoc _ _ _))⟩))); try go_wp2_with (first | ((with_reducible refine gate_dst (N := 2) rfl ?_); (try (refine gate_guard (by rfl) ?_; dsimp only)); refine bX 2 32 #[.string a0_0, .slice A0_1 l0_1.length c0_1, .int .i64 a0_2] ?_; intro gb101 hg w44 hbox hb; have _ := aM (below_step hbZ hb); have _ := aM hbox; have _ := szZ hg; have _ := szZ hg; clear HB; rename_i HB BK101 GW101 GE101; clear hb hbox hg) | ((with_reducible refine gate_dst (N := 3) rfl ?_); (try (refine gate_guard (by rfl) ?_; dsimp only)); refine bX 3 32 #[.string a1_0, .slice A1_1 l1_1.length c1_1, .int .i64 a1_2] ?_; intro gb102 hg w45 hbox hb; have _ := bB gb101 hb; have _ := aM (below_step hbZ hb); have _ := aM hbox; have _ := szZ hg; have _ := szZ hg; have ⟨_, _⟩ := nbB gb101 hg; clear BK101 HB; rename_i BK101 HB BK102 GW102 GE102 NB101_102 NB102_101; clear hb hbox hg; have hnb46 := NB101_102.out; have hnc46 := NB102_101.out; have hz47 := cellsZ3 BK101.out; have hz48 := cellsZ3 BK102.out) | (go_at_call 98; (with_reducible refine (spec_l1Text.calls a0_0 a1_0 t103 _ A3.out).mono ?_); rintro e w' ⟨rfl, ⟨nd, rfl⟩⟩; (try first | exact ⟨rfl, _, World.drewN_drewN _ _ _⟩ | exact ⟨rfl, _, Eq.trans (World.drewN_drewN _ _ _) (congrArg (World.drewN _) (Nat.add_assoc _ _ _))⟩))))
   go_ret
   exact ⟨z674d, zcb41⟩

end Go.Proofs.YtkgmoajdcibafaaDoor.P
