/- Part 4 of the walks and words that PK uses. No conditions of its own. -/
import Derived.Shelf.Small.Bits
import Derived.Shelf.Small.Wraps
import Derived.Shelf.Strconv.Itoa0
import Derived.Shelf.Sort.Plain
import Derived.Ground.Names2Prog
import Derived.Shelf.Slices.Clone
import Derived.Shelf.Slices.CompactI
import Derived.Shelf.Slices.SearchI
import Derived.Shelf.Slices.Cells
import Derived.Shelf.Slices.In.SortNone
import Derived.Test.YtdkokfnnebdppaaProg
import Derived.Sort.OwnSortedInts
import Derived.Lib.OwnBridge
import Derived.Test.YtdkokfnnebdppaaMPK3

-- written by a program of this session's (wip/pp)
namespace Go.Proofs.Ytdkokfnnebdppaa.P
open Go.RowKit Go.Proofs.YtdkokfnnebdppaaW.PrintWords Go.Proofs.YtdkokfnnebdppaaW.PrintLast Go.Proofs.YtdkokfnnebdppaaW.PrintMore
attribute [local go_sem] max2_int min2_int max_two min_two max_three min_three max_four min_four str_geq str_gtr str_leq   -- for this text's walks alone
set_option linter.unusedVariables false
set_option linter.unusedSimpArgs false

/-! ### spec_PackKey: function 16 -/
mutual
def spec_PackKey.j0 : Nat → List (S45) → Bool → Bool → Option ((List (S45)) × Bool)
 | 0, _, _, _ => none
 | k + 1, x0, x1, x15 => if x15 = true then (some (([] : List (S45)), false)) else (spec_PackKey.l0 k x0 x1 x0 (x0.length : Int) 0)
def spec_PackKey.l0 : Nat → List (S45) → Bool → List (S45) → Int → Int → Option ((List (S45)) × Bool)
 | 0, _, _, _, _, _ => none
 | k + 1, x0, x1, x16, x17, x18 => if x18 < x17 then (if 0 ≤ x18 then (if x18 < (x16.length : Int) then (if 0 < (x0.length : Int) then (if ((rd_T45 x16 x18).f0).toList = ((rd_T45 x0 0).f0).toList then (spec_PackKey.l0 k x0 x1 x16 x17 (wrap64 (x18 + 1))) else (some (([] : List (S45)), false))) else (none)) else (none)) else (none)) else ((spec_l8Pack.f k x0 x1).bind fun t105 => (some (t105, true)))
end
def spec_PackKey.f (k : Nat) (l0 : List (S45)) (a1 : Bool) : Option ((List (S45)) × Bool) := if (l0.length : Int) > 300 then (spec_PackKey.j0 k l0 a1 true) else ((spec_GoodEntries.f k l0).bind fun t101 => (spec_PackKey.j0 k l0 a1 (!t101)))
theorem spec_PackKey.mono_l : ∀ k, (∀ y0 y1 y2, LeO (spec_PackKey.j0 k y0 y1 y2) (spec_PackKey.j0 (k + 1) y0 y1 y2)) ∧ (∀ y0 y1 y2 y3 y4, LeO (spec_PackKey.l0 k y0 y1 y2 y3 y4) (spec_PackKey.l0 (k + 1) y0 y1 y2 y3 y4))
 | 0 => ⟨fun _ _ _ r h => by simp [spec_PackKey.j0] at h, fun _ _ _ _ _ r h => by simp [spec_PackKey.l0] at h⟩
 | k + 1 => by
  obtain ⟨ih0, ih1⟩ := spec_PackKey.mono_l k
  refine ⟨?_, ?_⟩
  · intro y0 y1 y2
    unfold spec_PackKey.j0
    repeat' first
     | (with_reducible first | exact ih0 .. | exact ih1 .. | exact spec_GoodEntries.mono .. | exact spec_l8Pack.mono .. | exact LeO.refl _ | exact LeO.none _ | refine LeO.ite ?_ ?_ | refine LeO.bind ?_ (fun _ => ?_))
     | exact LeO.none _
     | refine LeO.ite ?_ ?_
     | refine LeO.bind ?_ (fun _ => ?_)
  · intro y0 y1 y2 y3 y4
    unfold spec_PackKey.l0
    repeat' first
     | (with_reducible first | exact ih0 .. | exact ih1 .. | exact spec_GoodEntries.mono .. | exact spec_l8Pack.mono .. | exact LeO.refl _ | exact LeO.none _ | refine LeO.ite ?_ ?_ | refine LeO.bind ?_ (fun _ => ?_))
     | exact LeO.none _
     | refine LeO.ite ?_ ?_
     | refine LeO.bind ?_ (fun _ => ?_)
theorem spec_PackKey.mono : ∀ a0 a1 k, LeO (spec_PackKey.f k a0 a1) (spec_PackKey.f (k + 1) a0 a1) := by
 intro a0 a1 k
 obtain ⟨ih0, ih1⟩ := spec_PackKey.mono_l k
 unfold spec_PackKey.f
 repeat' first
  | (with_reducible first | exact ih0 .. | exact ih1 .. | exact spec_GoodEntries.mono .. | exact spec_l8Pack.mono .. | exact LeO.refl _ | exact LeO.none _ | refine LeO.ite ?_ ?_ | refine LeO.bind ?_ (fun _ => ?_))
  | exact LeO.none _
  | refine LeO.ite ?_ ?_
  | refine LeO.bind ?_ (fun _ => ?_)
set_option maxHeartbeats 8000000 in
set_option maxRecDepth 100000 in
theorem spec_PackKey.calls (k : Nat) (A0 : Option Addr) (c0 : Nat) (l0 : List (S45)) (a1 : Bool) (r1 : List (S45)) (r2 : Bool) (w : World) (hr0 : Kd.C k45 w A0 l0.length l0) (hc0 : l0.length ≤ c0) (h : spec_PackKey.f k l0 a1 = some (r1, r2)) :
 Calls Try.prog 16 #[.slice A0 l0.length c0, .bool a1] w fun e w' => ∃ v0_ : Value, e = .returned (.tuple #[v0_, .bool r2]) ∧ Kd.S k45 45 w' w.heap.size (fun _ => True) v0_ r1 ∧ Below w.heap.size w w' := by
 have hu45 := Try.underlying45
 have HR0 := aM hr0
 have HC0 := aM hc0
 clear hr0 hc0
 have HB := aM (Below.refl w.heap.size w)
 have H : (if (l0.length : Int) > 300 then (spec_PackKey.j0 k l0 a1 true) else ((spec_GoodEntries.f k l0).bind fun t101 => (spec_PackKey.j0 k l0 a1 (!t101)))) = some (r1, r2) := h
 clear h
 have HC3 := aM H
 clear H
 go_enter Try.func16, Try.ntmps16
 go_upto_region 1 with (fail)
 repeat (go_quiet (fail); go_upto_region 1 with (fail))
 go_cut [15] (fun v15 wc => ∃ (kq : Nat) (x15_2 : Bool), v15 = .bool x15_2 ∧ Aside0 (spec_PackKey.j0 kq l0 a1 x15_2 = some (r1, r2)) ∧ Aside0 (kq ≤ k) ∧ Aside0 (Below w.heap.size w wc))
 case first =>
  have H := HC3.out
  clear HC3
  by_cases c4 : (l0.length : Int) > 300
  · rw [if_pos c4] at H
    have c4b0 : decide (300 < (l0.length : Int)) = true := decide_eq_true c4
    have c4b1 : decide (300 < l0.length) = true := decide_eq_true (by omega)
    clear c4
    (first | rw [c4b0] | (simp only [i64_w, i32_w]; rw [c4b0]) | skip)
    have H' := aM H
    clear H
    go_wp2
    repeat (go_quiet (fail); try go_wp2)
    go_meet
    case rel => exact ⟨_, (true), z4458, H', ⟨zb79b⟩, ⟨z5acd⟩⟩
  · rw [if_neg c4] at H
    have c4b0 : decide (300 < (l0.length : Int)) = false := decide_eq_false c4
    have c4b1 : decide (300 < l0.length) = false := decide_eq_false (by omega)
    clear c4
    (first | rw [c4b0] | (simp only [i64_w, i32_w]; rw [c4b0]) | skip)
    replace H := Option.bind_eq_some_iff.mp H
    obtain ⟨t101, A50, H⟩ := H
    try dsimp only at H
    have A5 := aM A50
    clear A50
    have H' := aM H
    clear H
    go_wp2_with (first | (go_at_call 33; (with_reducible refine (spec_GoodEntries.calls k _ _ l0 t101 _ ?side1 ?side2 A5.out).mono ?_); (case side1 => exact (cZ (Kd.C_below HR0.out HB.out))); (case side2 => exact HC0.out); rintro e w6 ⟨rfl, hb⟩; have _ := aM (below_step hbZ hb); clear HB; rename_i HB; (try clear hb)))
    repeat (go_quiet (first | (go_at_call 33; (with_reducible refine (spec_GoodEntries.calls k _ _ l0 t101 _ ?side1 ?side2 A5.out).mono ?_); (case side1 => exact (cZ (Kd.C_below HR0.out HB.out))); (case side2 => exact HC0.out); rintro e w6 ⟨rfl, hb⟩; have _ := aM (below_step hbZ hb); clear HB; rename_i HB; (try clear hb))); try go_wp2_with (first | (go_at_call 33; (with_reducible refine (spec_GoodEntries.calls k _ _ l0 t101 _ ?side1 ?side2 A5.out).mono ?_); (case side1 => exact (cZ (Kd.C_below HR0.out HB.out))); (case side2 => exact HC0.out); rintro e w6 ⟨rfl, hb⟩; have _ := aM (below_step hbZ hb); clear HB; rename_i HB; (try clear hb))))
    go_meet
    case rel => exact ⟨_, (!t101), z4458, H', ⟨zb79b⟩, ⟨z5acd⟩⟩
 case rest =>
  clear HC3
  try clear c1
  try clear p2
  try clear c4
  try clear c4b0
  try clear c4b1
  obtain ⟨kq, x15_2, rfl, HA, HJ2, HB⟩ := hcut
  cases kq with
  | zero => exact absurd HA.out (by simp [spec_PackKey.j0])
  | succ kj2 =>
   have H := HA.out
   clear HA
   simp only [spec_PackKey.j0] at H
   by_cases c7 : x15_2 = true
   · subst c7
     rw [if_pos rfl] at H
     simp only [Option.some.injEq, Prod.mk.injEq] at H
     obtain ⟨rfl, rfl⟩ := H
     go_wp2
     repeat (go_quiet (fail); try go_wp2)
     go_ret2
     exact ⟨_, z674d, z2bfb, z5acd⟩
   · replace c7 := Bool.eq_false_iff.mpr c7
     subst c7
     rw [if_neg (show ¬ (false = true) by decide)] at H
     have H' := aM H
     clear H
     go_wp2
     repeat (go_quiet (fail); try go_wp2)
     go_loopg [18] kj2 (fun kq v18 w' => ∃ (x18_2 : Int), v18 = .int .i64 x18_2 ∧ Aside0 (spec_PackKey.l0 kq l0 a1 l0 (l0.length : Int) x18_2 = some (r1, r2)) ∧ Aside0 (kq ≤ kj2) ∧ Aside0 (Below w.heap.size w w'))
     case atStart => exact ⟨(0), z4458, H', ⟨Nat.le_refl _⟩, ⟨z5acd⟩⟩
     case round =>
      clear H'
      try clear c1
      try clear p2
      try clear c4
      try clear c4b0
      try clear c4b1
      try clear c7
      try clear p2
      obtain ⟨x18_2, rfl, HA, HK2, HB⟩ := hrel
      cases gk with
      | zero => exact absurd HA.out (by simp [spec_PackKey.l0])
      | succ k2 =>
       have H := HA.out
       clear HA
       simp only [spec_PackKey.l0] at H
       by_cases c8 : x18_2 < (l0.length : Int)
       · rw [if_pos c8] at H
         have c8b0 : decide (x18_2 < (l0.length : Int)) = true := decide_eq_true c8
         clear c8
         replace H := ifS H; obtain ⟨c9, H⟩ := H
         have c9b0 : decide (0 ≤ x18_2) = true := decide_eq_true c9
         clear c9
         replace H := ifS H; obtain ⟨c10, H⟩ := H
         have c10b0 : decide (x18_2 < (l0.length : Int)) = true := decide_eq_true c10
         clear c10
         replace H := ifS H; obtain ⟨c11, H⟩ := H
         have c11b0 : decide (0 < (l0.length : Int)) = true := decide_eq_true c11
         have c11b1 : decide (0 < l0.length) = true := decide_eq_true (by omega)
         clear c11
         by_cases c12 : ((rd_T45 l0 x18_2).f0).toList = ((rd_T45 l0 0).f0).toList
         · rw [if_pos c12] at H
           have c12b0 : (((rd_T45 l0 x18_2).f0).toList == ((rd_T45 l0 0).f0).toList) = true := beq_iff_eq.mpr c12
           have c12b1 : (((rd_T45 l0 x18_2).f0).toList != ((rd_T45 l0 0).f0).toList) = false := bne_eq_false_iff_eq.mpr c12
           clear c12
           have H' := aM H
           clear H
           have p102 : 0 ≤ (x18_2 : Int) := of_decide_eq_true z1200
           have q102 : x18_2 < (l0.length : Int) := of_decide_eq_true z1200
           obtain ⟨ad102, A102_7, c102_7, e102, hx102_0, hx102_1, hx102_2, hx102_3, hx102_4, hx102_5, hx102_6, hx102_7, hx102_8, hl102_7, hi102_7⟩ := at_T45 HR0.out x18_2 p102 q102
           cases e102
           have TW102_7 := aM hx102_7
           replace hx102_0 := (HB.out.cell (World.block_lt_of_cell? w _ hx102_0)).trans hx102_0
           replace hx102_1 := (HB.out.cell (World.block_lt_of_cell? w _ hx102_1)).trans hx102_1
           replace hx102_2 := (HB.out.cell (World.block_lt_of_cell? w _ hx102_2)).trans hx102_2
           replace hx102_3 := (HB.out.cell (World.block_lt_of_cell? w _ hx102_3)).trans hx102_3
           replace hx102_4 := (HB.out.cell (World.block_lt_of_cell? w _ hx102_4)).trans hx102_4
           replace hx102_5 := (HB.out.cell (World.block_lt_of_cell? w _ hx102_5)).trans hx102_5
           replace hx102_6 := (HB.out.cell (World.block_lt_of_cell? w _ hx102_6)).trans hx102_6
           replace hx102_7 := (HB.out.cell (World.block_lt_of_cell? w _ hx102_7)).trans hx102_7
           replace hx102_8 := (HB.out.cell (World.block_lt_of_cell? w _ hx102_8)).trans hx102_8
           have HR102_7 := aM hi102_7
           have HC102_7 := aM hl102_7
           clear hi102_7 hl102_7
           replace p102 := eq_true p102
           replace q102 := eq_true q102
           go_wp2_with (first | ((with_reducible refine gate_dst (N := 7) rfl ?_); refine box_event ?hg (N := 7) ?hd (cs := #[.string (⟨#[]⟩ : ByteArray), .int .i64 0, .int .i64 0, .int .i64 0, .int .i64 0, .int .i64 0, .int .i64 0, .slice none 0 0, .bool false]) (t := 45) ?hr ?_; (case hd => rfl); (case hg => rfl); (case hr => first | (go_simp; done) | (go_simp; rfl)); intro gb103 hg w13 hbox hb; have _ := aM (below_step hbZ hb); have _ := aM hbox; have _ := szZ hg; have _ := szZ hg; clear HB; rename_i HB BK103 GW103 GE103; clear hb hbox hg; obtain ⟨hcz14_0, hcz14_1, hcz14_2, hcz14_3, hcz14_4, hcz14_5, hcz14_6, hcz14_7, hcz14_8, hfz14_0, hfz14_1, hfz14_2, hfz14_3, hfz14_4, hfz14_5, hfz14_6, hfz14_7, hfz14_8⟩ := cellsZ9 BK103.out; have p104 : 0 ≤ (0 : Int) := (by omega); have q104 : 0 < (l0.length : Int) := of_decide_eq_true z1200; obtain ⟨ad104, A104_7, c104_7, e104, hx104_0, hx104_1, hx104_2, hx104_3, hx104_4, hx104_5, hx104_6, hx104_7, hx104_8, hl104_7, hi104_7⟩ := at_T45 HR0.out 0 p104 q104; obtain rfl : ad102 = ad104 := (by injection e104); have qi104 : (0 < l0.length) = True := eq_true (by omega); (try rw [show ((0 : Int)).toNat = 0 from rfl] at hx104_0); (try rw [show 0 * 9 = 0 from rfl] at hx104_0); (try rw [Addr.add_zero'] at hx104_0); have hn104_0 : ad102.block ≠ gb103 := Nat.ne_of_lt (Nat.lt_of_lt_of_le (by have := World.block_lt_of_cell? _ _ hx104_0; first | rwa [add_block] at this | exact this) GW103.out); have hn104_1 : ad102.block ≠ gb103 := Nat.ne_of_lt (Nat.lt_of_lt_of_le (by have := World.block_lt_of_cell? _ _ hx104_0; first | rwa [add_block] at this | exact this) GW103.out); have hn104_2 : ad102.block ≠ gb103 := Nat.ne_of_lt (Nat.lt_of_lt_of_le (by have := World.block_lt_of_cell? _ _ hx104_0; first | rwa [add_block] at this | exact this) GW103.out); have hn104_3 : ad102.block ≠ gb103 := Nat.ne_of_lt (Nat.lt_of_lt_of_le (by have := World.block_lt_of_cell? _ _ hx104_0; first | rwa [add_block] at this | exact this) GW103.out); have hn104_4 : ad102.block ≠ gb103 := Nat.ne_of_lt (Nat.lt_of_lt_of_le (by have := World.block_lt_of_cell? _ _ hx104_0; first | rwa [add_block] at this | exact this) GW103.out); have hn104_5 : ad102.block ≠ gb103 := Nat.ne_of_lt (Nat.lt_of_lt_of_le (by have := World.block_lt_of_cell? _ _ hx104_0; first | rwa [add_block] at this | exact this) GW103.out); have hn104_6 : ad102.block ≠ gb103 := Nat.ne_of_lt (Nat.lt_of_lt_of_le (by have := World.block_lt_of_cell? _ _ hx104_0; first | rwa [add_block] at this | exact this) GW103.out); have hn104_7 : ad102.block ≠ gb103 := Nat.ne_of_lt (Nat.lt_of_lt_of_le (by have := World.block_lt_of_cell? _ _ hx104_0; first | rwa [add_block] at this | exact this) GW103.out); have hn104_8 : ad102.block ≠ gb103 := Nat.ne_of_lt (Nat.lt_of_lt_of_le (by have := World.block_lt_of_cell? _ _ hx104_0; first | rwa [add_block] at this | exact this) GW103.out); replace hx104_0 := (HB.out.cell (World.block_lt_of_cell? w _ hx104_0)).trans hx104_0; have HR104_7 := aM hi104_7; have HC104_7 := aM hl104_7; clear hi104_7 hl104_7; replace hx104_0 := (cell_far (p := ⟨gb103, 0, none⟩) (by first | (rw [add_block]; exact hn104_0) | (show (Addr.add _ _).block ≠ _; rw [add_block]; exact hn104_0) | exact hn104_0) (.string ((rd_T45 l0 x18_2).f0))).trans hx104_0; replace hx104_0 := (cell_far (p := ⟨gb103, 1, none⟩) (by first | (rw [add_block]; exact hn104_1) | (show (Addr.add _ _).block ≠ _; rw [add_block]; exact hn104_1) | exact hn104_1) (.int .i64 ((rd_T45 l0 x18_2).f1))).trans hx104_0; replace hx104_0 := (cell_far (p := ⟨gb103, 2, none⟩) (by first | (rw [add_block]; exact hn104_2) | (show (Addr.add _ _).block ≠ _; rw [add_block]; exact hn104_2) | exact hn104_2) (.int .i64 ((rd_T45 l0 x18_2).f2))).trans hx104_0; replace hx104_0 := (cell_far (p := ⟨gb103, 3, none⟩) (by first | (rw [add_block]; exact hn104_3) | (show (Addr.add _ _).block ≠ _; rw [add_block]; exact hn104_3) | exact hn104_3) (.int .i64 ((rd_T45 l0 x18_2).f3.f0))).trans hx104_0; replace hx104_0 := (cell_far (p := ⟨gb103, 4, none⟩) (by first | (rw [add_block]; exact hn104_4) | (show (Addr.add _ _).block ≠ _; rw [add_block]; exact hn104_4) | exact hn104_4) (.int .i64 ((rd_T45 l0 x18_2).f3.f1))).trans hx104_0; replace hx104_0 := (cell_far (p := ⟨gb103, 5, none⟩) (by first | (rw [add_block]; exact hn104_5) | (show (Addr.add _ _).block ≠ _; rw [add_block]; exact hn104_5) | exact hn104_5) (.int .i64 ((rd_T45 l0 x18_2).f3.f2))).trans hx104_0; replace hx104_0 := (cell_far (p := ⟨gb103, 6, none⟩) (by first | (rw [add_block]; exact hn104_6) | (show (Addr.add _ _).block ≠ _; rw [add_block]; exact hn104_6) | exact hn104_6) (.int .i64 ((rd_T45 l0 x18_2).f3.f3))).trans hx104_0; replace hx104_0 := (cell_far (p := ⟨gb103, 7, none⟩) (by first | (rw [add_block]; exact hn104_7) | (show (Addr.add _ _).block ≠ _; rw [add_block]; exact hn104_7) | exact hn104_7) (.slice A102_7 ((rd_T45 l0 x18_2).f3.f4).length c102_7)).trans hx104_0; replace hx104_0 := (cell_far (p := ⟨gb103, 8, none⟩) (by first | (rw [add_block]; exact hn104_8) | (show (Addr.add _ _).block ≠ _; rw [add_block]; exact hn104_8) | exact hn104_8) (.bool ((rd_T45 l0 x18_2).f3.f5))).trans hx104_0; clear hn104_0 hn104_1 hn104_2 hn104_3 hn104_4 hn104_5 hn104_6 hn104_7 hn104_8; replace p104 := eq_true p104; replace q104 := eq_true q104))
           repeat (go_quiet (first | ((with_reducible refine gate_dst (N := 7) rfl ?_); refine box_event ?hg (N := 7) ?hd (cs := #[.string (⟨#[]⟩ : ByteArray), .int .i64 0, .int .i64 0, .int .i64 0, .int .i64 0, .int .i64 0, .int .i64 0, .slice none 0 0, .bool false]) (t := 45) ?hr ?_; (case hd => rfl); (case hg => rfl); (case hr => first | (go_simp; done) | (go_simp; rfl)); intro gb103 hg w13 hbox hb; have _ := aM (below_step hbZ hb); have _ := aM hbox; have _ := szZ hg; have _ := szZ hg; clear HB; rename_i HB BK103 GW103 GE103; clear hb hbox hg; obtain ⟨hcz14_0, hcz14_1, hcz14_2, hcz14_3, hcz14_4, hcz14_5, hcz14_6, hcz14_7, hcz14_8, hfz14_0, hfz14_1, hfz14_2, hfz14_3, hfz14_4, hfz14_5, hfz14_6, hfz14_7, hfz14_8⟩ := cellsZ9 BK103.out; have p104 : 0 ≤ (0 : Int) := (by omega); have q104 : 0 < (l0.length : Int) := of_decide_eq_true z1200; obtain ⟨ad104, A104_7, c104_7, e104, hx104_0, hx104_1, hx104_2, hx104_3, hx104_4, hx104_5, hx104_6, hx104_7, hx104_8, hl104_7, hi104_7⟩ := at_T45 HR0.out 0 p104 q104; obtain rfl : ad102 = ad104 := (by injection e104); have qi104 : (0 < l0.length) = True := eq_true (by omega); (try rw [show ((0 : Int)).toNat = 0 from rfl] at hx104_0); (try rw [show 0 * 9 = 0 from rfl] at hx104_0); (try rw [Addr.add_zero'] at hx104_0); have hn104_0 : ad102.block ≠ gb103 := Nat.ne_of_lt (Nat.lt_of_lt_of_le (by have := World.block_lt_of_cell? _ _ hx104_0; first | rwa [add_block] at this | exact this) GW103.out); have hn104_1 : ad102.block ≠ gb103 := Nat.ne_of_lt (Nat.lt_of_lt_of_le (by have := World.block_lt_of_cell? _ _ hx104_0; first | rwa [add_block] at this | exact this) GW103.out); have hn104_2 : ad102.block ≠ gb103 := Nat.ne_of_lt (Nat.lt_of_lt_of_le (by have := World.block_lt_of_cell? _ _ hx104_0; first | rwa [add_block] at this | exact this) GW103.out); have hn104_3 : ad102.block ≠ gb103 := Nat.ne_of_lt (Nat.lt_of_lt_of_le (by have := World.block_lt_of_cell? _ _ hx104_0; first | rwa [add_block] at this | exact this) GW103.out); have hn104_4 : ad102.block ≠ gb103 := Nat.ne_of_lt (Nat.lt_of_lt_of_le (by have := World.block_lt_of_cell? _ _ hx104_0; first | rwa [add_block] at this | exact this) GW103.out); have hn104_5 : ad102.block ≠ gb103 := Nat.ne_of_lt (Nat.lt_of_lt_of_le (by have := World.block_lt_of_cell? _ _ hx104_0; first | rwa [add_block] at this | exact this) GW103.out); have hn104_6 : ad102.block ≠ gb103 := Nat.ne_of_lt (Nat.lt_of_lt_of_le (by have := World.block_lt_of_cell? _ _ hx104_0; first | rwa [add_block] at this | exact this) GW103.out); have hn104_7 : ad102.block ≠ gb103 := Nat.ne_of_lt (Nat.lt_of_lt_of_le (by have := World.block_lt_of_cell? _ _ hx104_0; first | rwa [add_block] at this | exact this) GW103.out); have hn104_8 : ad102.block ≠ gb103 := Nat.ne_of_lt (Nat.lt_of_lt_of_le (by have := World.block_lt_of_cell? _ _ hx104_0; first | rwa [add_block] at this | exact this) GW103.out); replace hx104_0 := (HB.out.cell (World.block_lt_of_cell? w _ hx104_0)).trans hx104_0; have HR104_7 := aM hi104_7; have HC104_7 := aM hl104_7; clear hi104_7 hl104_7; replace hx104_0 := (cell_far (p := ⟨gb103, 0, none⟩) (by first | (rw [add_block]; exact hn104_0) | (show (Addr.add _ _).block ≠ _; rw [add_block]; exact hn104_0) | exact hn104_0) (.string ((rd_T45 l0 x18_2).f0))).trans hx104_0; replace hx104_0 := (cell_far (p := ⟨gb103, 1, none⟩) (by first | (rw [add_block]; exact hn104_1) | (show (Addr.add _ _).block ≠ _; rw [add_block]; exact hn104_1) | exact hn104_1) (.int .i64 ((rd_T45 l0 x18_2).f1))).trans hx104_0; replace hx104_0 := (cell_far (p := ⟨gb103, 2, none⟩) (by first | (rw [add_block]; exact hn104_2) | (show (Addr.add _ _).block ≠ _; rw [add_block]; exact hn104_2) | exact hn104_2) (.int .i64 ((rd_T45 l0 x18_2).f2))).trans hx104_0; replace hx104_0 := (cell_far (p := ⟨gb103, 3, none⟩) (by first | (rw [add_block]; exact hn104_3) | (show (Addr.add _ _).block ≠ _; rw [add_block]; exact hn104_3) | exact hn104_3) (.int .i64 ((rd_T45 l0 x18_2).f3.f0))).trans hx104_0; replace hx104_0 := (cell_far (p := ⟨gb103, 4, none⟩) (by first | (rw [add_block]; exact hn104_4) | (show (Addr.add _ _).block ≠ _; rw [add_block]; exact hn104_4) | exact hn104_4) (.int .i64 ((rd_T45 l0 x18_2).f3.f1))).trans hx104_0; replace hx104_0 := (cell_far (p := ⟨gb103, 5, none⟩) (by first | (rw [add_block]; exact hn104_5) | (show (Addr.add _ _).block ≠ _; rw [add_block]; exact hn104_5) | exact hn104_5) (.int .i64 ((rd_T45 l0 x18_2).f3.f2))).trans hx104_0; replace hx104_0 := (cell_far (p := ⟨gb103, 6, none⟩) (by first | (rw [add_block]; exact hn104_6) | (show (Addr.add _ _).block ≠ _; rw [add_block]; exact hn104_6) | exact hn104_6) (.int .i64 ((rd_T45 l0 x18_2).f3.f3))).trans hx104_0; replace hx104_0 := (cell_far (p := ⟨gb103, 7, none⟩) (by first | (rw [add_block]; exact hn104_7) | (show (Addr.add _ _).block ≠ _; rw [add_block]; exact hn104_7) | exact hn104_7) (.slice A102_7 ((rd_T45 l0 x18_2).f3.f4).length c102_7)).trans hx104_0; replace hx104_0 := (cell_far (p := ⟨gb103, 8, none⟩) (by first | (rw [add_block]; exact hn104_8) | (show (Addr.add _ _).block ≠ _; rw [add_block]; exact hn104_8) | exact hn104_8) (.bool ((rd_T45 l0 x18_2).f3.f5))).trans hx104_0; clear hn104_0 hn104_1 hn104_2 hn104_3 hn104_4 hn104_5 hn104_6 hn104_7 hn104_8; replace p104 := eq_true p104; replace q104 := eq_true q104)); try go_wp2_with (first | ((with_reducible refine gate_dst (N := 7) rfl ?_); refine box_event ?hg (N := 7) ?hd (cs := #[.string (⟨#[]⟩ : ByteArray), .int .i64 0, .int .i64 0, .int .i64 0, .int .i64 0, .int .i64 0, .int .i64 0, .slice none 0 0, .bool false]) (t := 45) ?hr ?_; (case hd => rfl); (case hg => rfl); (case hr => first | (go_simp; done) | (go_simp; rfl)); intro gb103 hg w13 hbox hb; have _ := aM (below_step hbZ hb); have _ := aM hbox; have _ := szZ hg; have _ := szZ hg; clear HB; rename_i HB BK103 GW103 GE103; clear hb hbox hg; obtain ⟨hcz14_0, hcz14_1, hcz14_2, hcz14_3, hcz14_4, hcz14_5, hcz14_6, hcz14_7, hcz14_8, hfz14_0, hfz14_1, hfz14_2, hfz14_3, hfz14_4, hfz14_5, hfz14_6, hfz14_7, hfz14_8⟩ := cellsZ9 BK103.out; have p104 : 0 ≤ (0 : Int) := (by omega); have q104 : 0 < (l0.length : Int) := of_decide_eq_true z1200; obtain ⟨ad104, A104_7, c104_7, e104, hx104_0, hx104_1, hx104_2, hx104_3, hx104_4, hx104_5, hx104_6, hx104_7, hx104_8, hl104_7, hi104_7⟩ := at_T45 HR0.out 0 p104 q104; obtain rfl : ad102 = ad104 := (by injection e104); have qi104 : (0 < l0.length) = True := eq_true (by omega); (try rw [show ((0 : Int)).toNat = 0 from rfl] at hx104_0); (try rw [show 0 * 9 = 0 from rfl] at hx104_0); (try rw [Addr.add_zero'] at hx104_0); (try rw [show ((0 : Int)).toNat = 0 from rfl] at hx104_1); (try rw [show 0 * 9 = 0 from rfl] at hx104_1); (try rw [Addr.add_zero'] at hx104_1); (try rw [show ((0 : Int)).toNat = 0 from rfl] at hx104_2); (try rw [show 0 * 9 = 0 from rfl] at hx104_2); (try rw [Addr.add_zero'] at hx104_2); (try rw [show ((0 : Int)).toNat = 0 from rfl] at hx104_3); (try rw [show 0 * 9 = 0 from rfl] at hx104_3); (try rw [Addr.add_zero'] at hx104_3); (try rw [show ((0 : Int)).toNat = 0 from rfl] at hx104_4); (try rw [show 0 * 9 = 0 from rfl] at hx104_4); (try rw [Addr.add_zero'] at hx104_4); (try rw [show ((0 : Int)).toNat = 0 from rfl] at hx104_5); (try rw [show 0 * 9 = 0 from rfl] at hx104_5); (try rw [Addr.add_zero'] at hx104_5); (try rw [show ((0 : Int)).toNat = 0 from rfl] at hx104_6); (try rw [show 0 * 9 = 0 from rfl] at hx104_6); (try rw [Addr.add_zero'] at hx104_6); (try rw [show ((0 : Int)).toNat = 0 from rfl] at hx104_7); (try rw [show 0 * 9 = 0 from rfl] at hx104_7); (try rw [Addr.add_zero'] at hx104_7); (try rw [show ((0 : Int)).toNat = 0 from rfl] at hx104_8); (try rw [show 0 * 9 = 0 from rfl] at hx104_8); (try rw [Addr.add_zero'] at hx104_8); have hn104_0 : ad102.block ≠ gb103 := Nat.ne_of_lt (Nat.lt_of_lt_of_le (by have := World.block_lt_of_cell? _ _ hx104_0; first | rwa [add_block] at this | exact this) GW103.out); have hn104_1 : ad102.block ≠ gb103 := Nat.ne_of_lt (Nat.lt_of_lt_of_le (by have := World.block_lt_of_cell? _ _ hx104_0; first | rwa [add_block] at this | exact this) GW103.out); have hn104_2 : ad102.block ≠ gb103 := Nat.ne_of_lt (Nat.lt_of_lt_of_le (by have := World.block_lt_of_cell? _ _ hx104_0; first | rwa [add_block] at this | exact this) GW103.out); have hn104_3 : ad102.block ≠ gb103 := Nat.ne_of_lt (Nat.lt_of_lt_of_le (by have := World.block_lt_of_cell? _ _ hx104_0; first | rwa [add_block] at this | exact this) GW103.out); have hn104_4 : ad102.block ≠ gb103 := Nat.ne_of_lt (Nat.lt_of_lt_of_le (by have := World.block_lt_of_cell? _ _ hx104_0; first | rwa [add_block] at this | exact this) GW103.out); have hn104_5 : ad102.block ≠ gb103 := Nat.ne_of_lt (Nat.lt_of_lt_of_le (by have := World.block_lt_of_cell? _ _ hx104_0; first | rwa [add_block] at this | exact this) GW103.out); have hn104_6 : ad102.block ≠ gb103 := Nat.ne_of_lt (Nat.lt_of_lt_of_le (by have := World.block_lt_of_cell? _ _ hx104_0; first | rwa [add_block] at this | exact this) GW103.out); have hn104_7 : ad102.block ≠ gb103 := Nat.ne_of_lt (Nat.lt_of_lt_of_le (by have := World.block_lt_of_cell? _ _ hx104_0; first | rwa [add_block] at this | exact this) GW103.out); have hn104_8 : ad102.block ≠ gb103 := Nat.ne_of_lt (Nat.lt_of_lt_of_le (by have := World.block_lt_of_cell? _ _ hx104_0; first | rwa [add_block] at this | exact this) GW103.out); replace hx104_0 := (HB.out.cell (World.block_lt_of_cell? w _ hx104_0)).trans hx104_0; replace hx104_1 := (HB.out.cell (World.block_lt_of_cell? w _ hx104_1)).trans hx104_1; replace hx104_2 := (HB.out.cell (World.block_lt_of_cell? w _ hx104_2)).trans hx104_2; replace hx104_3 := (HB.out.cell (World.block_lt_of_cell? w _ hx104_3)).trans hx104_3; replace hx104_4 := (HB.out.cell (World.block_lt_of_cell? w _ hx104_4)).trans hx104_4; replace hx104_5 := (HB.out.cell (World.block_lt_of_cell? w _ hx104_5)).trans hx104_5; replace hx104_6 := (HB.out.cell (World.block_lt_of_cell? w _ hx104_6)).trans hx104_6; replace hx104_7 := (HB.out.cell (World.block_lt_of_cell? w _ hx104_7)).trans hx104_7; replace hx104_8 := (HB.out.cell (World.block_lt_of_cell? w _ hx104_8)).trans hx104_8; have HR104_7 := aM hi104_7; have HC104_7 := aM hl104_7; clear hi104_7 hl104_7; replace hx104_0 := (cell_far (p := ⟨gb103, 0, none⟩) (by first | (rw [add_block]; exact hn104_0) | (show (Addr.add _ _).block ≠ _; rw [add_block]; exact hn104_0) | exact hn104_0) (.string ((rd_T45 l0 x18_2).f0))).trans hx104_0; replace hx104_0 := (cell_far (p := ⟨gb103, 1, none⟩) (by first | (rw [add_block]; exact hn104_1) | (show (Addr.add _ _).block ≠ _; rw [add_block]; exact hn104_1) | exact hn104_1) (.int .i64 ((rd_T45 l0 x18_2).f1))).trans hx104_0; replace hx104_0 := (cell_far (p := ⟨gb103, 2, none⟩) (by first | (rw [add_block]; exact hn104_2) | (show (Addr.add _ _).block ≠ _; rw [add_block]; exact hn104_2) | exact hn104_2) (.int .i64 ((rd_T45 l0 x18_2).f2))).trans hx104_0; replace hx104_0 := (cell_far (p := ⟨gb103, 3, none⟩) (by first | (rw [add_block]; exact hn104_3) | (show (Addr.add _ _).block ≠ _; rw [add_block]; exact hn104_3) | exact hn104_3) (.int .i64 ((rd_T45 l0 x18_2).f3.f0))).trans hx104_0; replace hx104_0 := (cell_far (p := ⟨gb103, 4, none⟩) (by first | (rw [add_block]; exact hn104_4) | (show (Addr.add _ _).block ≠ _; rw [add_block]; exact hn104_4) | exact hn104_4) (.int .i64 ((rd_T45 l0 x18_2).f3.f1))).trans hx104_0; replace hx104_0 := (cell_far (p := ⟨gb103, 5, none⟩) (by first | (rw [add_block]; exact hn104_5) | (show (Addr.add _ _).block ≠ _; rw [add_block]; exact hn104_5) | exact hn104_5) (.int .i64 ((rd_T45 l0 x18_2).f3.f2))).trans hx104_0; replace hx104_0 := (cell_far (p := ⟨gb103, 6, none⟩) (by first | (rw [add_block]; exact hn104_6) | (show (Addr.add _ _).block ≠ _; rw [add_block]; exact hn104_6) | exact hn104_6) (.int .i64 ((rd_T45 l0 x18_2).f3.f3))).trans hx104_0; replace hx104_0 := (cell_far (p := ⟨gb103, 7, none⟩) (by first | (rw [add_block]; exact hn104_7) | (show (Addr.add _ _).block ≠ _; rw [add_block]; exact hn104_7) | exact hn104_7) (.slice A102_7 ((rd_T45 l0 x18_2).f3.f4).length c102_7)).trans hx104_0; replace hx104_0 := (cell_far (p := ⟨gb103, 8, none⟩) (by first | (rw [add_block]; exact hn104_8) | (show (Addr.add _ _).block ≠ _; rw [add_block]; exact hn104_8) | exact hn104_8) (.bool ((rd_T45 l0 x18_2).f3.f5))).trans hx104_0; clear hn104_0 hn104_1 hn104_2 hn104_3 hn104_4 hn104_5 hn104_6 hn104_7 hn104_8; replace p104 := eq_true p104; replace q104 := eq_true q104)))
           go_roundg k2
           case measure => have := HJ2.out; have := HK2.out; omega
           case rel => exact ⟨(wrap64 (x18_2 + 1)), z4458, H', ⟨by have := HJ2.out; have := HK2.out; omega⟩, ⟨zcb41⟩⟩
         · rw [if_neg c12] at H
           have c12b0 : (((rd_T45 l0 x18_2).f0).toList == ((rd_T45 l0 0).f0).toList) = false := beq_eq_false_iff_ne.mpr c12
           have c12b1 : (((rd_T45 l0 x18_2).f0).toList != ((rd_T45 l0 0).f0).toList) = true := bne_iff_ne.mpr c12
           simp only [Option.some.injEq, Prod.mk.injEq] at H
           obtain ⟨rfl, rfl⟩ := H
           have p102 : 0 ≤ (x18_2 : Int) := of_decide_eq_true z1200
           have q102 : x18_2 < (l0.length : Int) := of_decide_eq_true z1200
           obtain ⟨ad102, A102_7, c102_7, e102, hx102_0, hx102_1, hx102_2, hx102_3, hx102_4, hx102_5, hx102_6, hx102_7, hx102_8, hl102_7, hi102_7⟩ := at_T45 HR0.out x18_2 p102 q102
           cases e102
           have TW102_7 := aM hx102_7
           replace hx102_0 := (HB.out.cell (World.block_lt_of_cell? w _ hx102_0)).trans hx102_0
           replace hx102_1 := (HB.out.cell (World.block_lt_of_cell? w _ hx102_1)).trans hx102_1
           replace hx102_2 := (HB.out.cell (World.block_lt_of_cell? w _ hx102_2)).trans hx102_2
           replace hx102_3 := (HB.out.cell (World.block_lt_of_cell? w _ hx102_3)).trans hx102_3
           replace hx102_4 := (HB.out.cell (World.block_lt_of_cell? w _ hx102_4)).trans hx102_4
           replace hx102_5 := (HB.out.cell (World.block_lt_of_cell? w _ hx102_5)).trans hx102_5
           replace hx102_6 := (HB.out.cell (World.block_lt_of_cell? w _ hx102_6)).trans hx102_6
           replace hx102_7 := (HB.out.cell (World.block_lt_of_cell? w _ hx102_7)).trans hx102_7
           replace hx102_8 := (HB.out.cell (World.block_lt_of_cell? w _ hx102_8)).trans hx102_8
           have HR102_7 := aM hi102_7
           have HC102_7 := aM hl102_7
           clear hi102_7 hl102_7
           replace p102 := eq_true p102
           replace q102 := eq_true q102
           go_wp2_with (first | ((with_reducible refine gate_dst (N := 7) rfl ?_); refine box_event ?hg (N := 7) ?hd (cs := #[.string (⟨#[]⟩ : ByteArray), .int .i64 0, .int .i64 0, .int .i64 0, .int .i64 0, .int .i64 0, .int .i64 0, .slice none 0 0, .bool false]) (t := 45) ?hr ?_; (case hd => rfl); (case hg => rfl); (case hr => first | (go_simp; done) | (go_simp; rfl)); intro gb103 hg w15 hbox hb; have _ := aM (below_step hbZ hb); have _ := aM hbox; have _ := szZ hg; have _ := szZ hg; clear HB; rename_i HB BK103 GW103 GE103; clear hb hbox hg; obtain ⟨hcz16_0, hcz16_1, hcz16_2, hcz16_3, hcz16_4, hcz16_5, hcz16_6, hcz16_7, hcz16_8, hfz16_0, hfz16_1, hfz16_2, hfz16_3, hfz16_4, hfz16_5, hfz16_6, hfz16_7, hfz16_8⟩ := cellsZ9 BK103.out; have p104 : 0 ≤ (0 : Int) := (by omega); have q104 : 0 < (l0.length : Int) := of_decide_eq_true z1200; obtain ⟨ad104, A104_7, c104_7, e104, hx104_0, hx104_1, hx104_2, hx104_3, hx104_4, hx104_5, hx104_6, hx104_7, hx104_8, hl104_7, hi104_7⟩ := at_T45 HR0.out 0 p104 q104; obtain rfl : ad102 = ad104 := (by injection e104); have qi104 : (0 < l0.length) = True := eq_true (by omega); (try rw [show ((0 : Int)).toNat = 0 from rfl] at hx104_0); (try rw [show 0 * 9 = 0 from rfl] at hx104_0); (try rw [Addr.add_zero'] at hx104_0); have hn104_0 : ad102.block ≠ gb103 := Nat.ne_of_lt (Nat.lt_of_lt_of_le (by have := World.block_lt_of_cell? _ _ hx104_0; first | rwa [add_block] at this | exact this) GW103.out); have hn104_1 : ad102.block ≠ gb103 := Nat.ne_of_lt (Nat.lt_of_lt_of_le (by have := World.block_lt_of_cell? _ _ hx104_0; first | rwa [add_block] at this | exact this) GW103.out); have hn104_2 : ad102.block ≠ gb103 := Nat.ne_of_lt (Nat.lt_of_lt_of_le (by have := World.block_lt_of_cell? _ _ hx104_0; first | rwa [add_block] at this | exact this) GW103.out); have hn104_3 : ad102.block ≠ gb103 := Nat.ne_of_lt (Nat.lt_of_lt_of_le (by have := World.block_lt_of_cell? _ _ hx104_0; first | rwa [add_block] at this | exact this) GW103.out); have hn104_4 : ad102.block ≠ gb103 := Nat.ne_of_lt (Nat.lt_of_lt_of_le (by have := World.block_lt_of_cell? _ _ hx104_0; first | rwa [add_block] at this | exact this) GW103.out); have hn104_5 : ad102.block ≠ gb103 := Nat.ne_of_lt (Nat.lt_of_lt_of_le (by have := World.block_lt_of_cell? _ _ hx104_0; first | rwa [add_block] at this | exact this) GW103.out); have hn104_6 : ad102.block ≠ gb103 := Nat.ne_of_lt (Nat.lt_of_lt_of_le (by have := World.block_lt_of_cell? _ _ hx104_0; first | rwa [add_block] at this | exact this) GW103.out); have hn104_7 : ad102.block ≠ gb103 := Nat.ne_of_lt (Nat.lt_of_lt_of_le (by have := World.block_lt_of_cell? _ _ hx104_0; first | rwa [add_block] at this | exact this) GW103.out); have hn104_8 : ad102.block ≠ gb103 := Nat.ne_of_lt (Nat.lt_of_lt_of_le (by have := World.block_lt_of_cell? _ _ hx104_0; first | rwa [add_block] at this | exact this) GW103.out); replace hx104_0 := (HB.out.cell (World.block_lt_of_cell? w _ hx104_0)).trans hx104_0; have HR104_7 := aM hi104_7; have HC104_7 := aM hl104_7; clear hi104_7 hl104_7; replace hx104_0 := (cell_far (p := ⟨gb103, 0, none⟩) (by first | (rw [add_block]; exact hn104_0) | (show (Addr.add _ _).block ≠ _; rw [add_block]; exact hn104_0) | exact hn104_0) (.string ((rd_T45 l0 x18_2).f0))).trans hx104_0; replace hx104_0 := (cell_far (p := ⟨gb103, 1, none⟩) (by first | (rw [add_block]; exact hn104_1) | (show (Addr.add _ _).block ≠ _; rw [add_block]; exact hn104_1) | exact hn104_1) (.int .i64 ((rd_T45 l0 x18_2).f1))).trans hx104_0; replace hx104_0 := (cell_far (p := ⟨gb103, 2, none⟩) (by first | (rw [add_block]; exact hn104_2) | (show (Addr.add _ _).block ≠ _; rw [add_block]; exact hn104_2) | exact hn104_2) (.int .i64 ((rd_T45 l0 x18_2).f2))).trans hx104_0; replace hx104_0 := (cell_far (p := ⟨gb103, 3, none⟩) (by first | (rw [add_block]; exact hn104_3) | (show (Addr.add _ _).block ≠ _; rw [add_block]; exact hn104_3) | exact hn104_3) (.int .i64 ((rd_T45 l0 x18_2).f3.f0))).trans hx104_0; replace hx104_0 := (cell_far (p := ⟨gb103, 4, none⟩) (by first | (rw [add_block]; exact hn104_4) | (show (Addr.add _ _).block ≠ _; rw [add_block]; exact hn104_4) | exact hn104_4) (.int .i64 ((rd_T45 l0 x18_2).f3.f1))).trans hx104_0; replace hx104_0 := (cell_far (p := ⟨gb103, 5, none⟩) (by first | (rw [add_block]; exact hn104_5) | (show (Addr.add _ _).block ≠ _; rw [add_block]; exact hn104_5) | exact hn104_5) (.int .i64 ((rd_T45 l0 x18_2).f3.f2))).trans hx104_0; replace hx104_0 := (cell_far (p := ⟨gb103, 6, none⟩) (by first | (rw [add_block]; exact hn104_6) | (show (Addr.add _ _).block ≠ _; rw [add_block]; exact hn104_6) | exact hn104_6) (.int .i64 ((rd_T45 l0 x18_2).f3.f3))).trans hx104_0; replace hx104_0 := (cell_far (p := ⟨gb103, 7, none⟩) (by first | (rw [add_block]; exact hn104_7) | (show (Addr.add _ _).block ≠ _; rw [add_block]; exact hn104_7) | exact hn104_7) (.slice A102_7 ((rd_T45 l0 x18_2).f3.f4).length c102_7)).trans hx104_0; replace hx104_0 := (cell_far (p := ⟨gb103, 8, none⟩) (by first | (rw [add_block]; exact hn104_8) | (show (Addr.add _ _).block ≠ _; rw [add_block]; exact hn104_8) | exact hn104_8) (.bool ((rd_T45 l0 x18_2).f3.f5))).trans hx104_0; clear hn104_0 hn104_1 hn104_2 hn104_3 hn104_4 hn104_5 hn104_6 hn104_7 hn104_8; replace p104 := eq_true p104; replace q104 := eq_true q104))
           repeat (go_quiet (first | ((with_reducible refine gate_dst (N := 7) rfl ?_); refine box_event ?hg (N := 7) ?hd (cs := #[.string (⟨#[]⟩ : ByteArray), .int .i64 0, .int .i64 0, .int .i64 0, .int .i64 0, .int .i64 0, .int .i64 0, .slice none 0 0, .bool false]) (t := 45) ?hr ?_; (case hd => rfl); (case hg => rfl); (case hr => first | (go_simp; done) | (go_simp; rfl)); intro gb103 hg w15 hbox hb; have _ := aM (below_step hbZ hb); have _ := aM hbox; have _ := szZ hg; have _ := szZ hg; clear HB; rename_i HB BK103 GW103 GE103; clear hb hbox hg; obtain ⟨hcz16_0, hcz16_1, hcz16_2, hcz16_3, hcz16_4, hcz16_5, hcz16_6, hcz16_7, hcz16_8, hfz16_0, hfz16_1, hfz16_2, hfz16_3, hfz16_4, hfz16_5, hfz16_6, hfz16_7, hfz16_8⟩ := cellsZ9 BK103.out; have p104 : 0 ≤ (0 : Int) := (by omega); have q104 : 0 < (l0.length : Int) := of_decide_eq_true z1200; obtain ⟨ad104, A104_7, c104_7, e104, hx104_0, hx104_1, hx104_2, hx104_3, hx104_4, hx104_5, hx104_6, hx104_7, hx104_8, hl104_7, hi104_7⟩ := at_T45 HR0.out 0 p104 q104; obtain rfl : ad102 = ad104 := (by injection e104); have qi104 : (0 < l0.length) = True := eq_true (by omega); (try rw [show ((0 : Int)).toNat = 0 from rfl] at hx104_0); (try rw [show 0 * 9 = 0 from rfl] at hx104_0); (try rw [Addr.add_zero'] at hx104_0); have hn104_0 : ad102.block ≠ gb103 := Nat.ne_of_lt (Nat.lt_of_lt_of_le (by have := World.block_lt_of_cell? _ _ hx104_0; first | rwa [add_block] at this | exact this) GW103.out); have hn104_1 : ad102.block ≠ gb103 := Nat.ne_of_lt (Nat.lt_of_lt_of_le (by have := World.block_lt_of_cell? _ _ hx104_0; first | rwa [add_block] at this | exact this) GW103.out); have hn104_2 : ad102.block ≠ gb103 := Nat.ne_of_lt (Nat.lt_of_lt_of_le (by have := World.block_lt_of_cell? _ _ hx104_0; first | rwa [add_block] at this | exact this) GW103.out); have hn104_3 : ad102.block ≠ gb103 := Nat.ne_of_lt (Nat.lt_of_lt_of_le (by have := World.block_lt_of_cell? _ _ hx104_0; first | rwa [add_block] at this | exact this) GW103.out); have hn104_4 : ad102.block ≠ gb103 := Nat.ne_of_lt (Nat.lt_of_lt_of_le (by have := World.block_lt_of_cell? _ _ hx104_0; first | rwa [add_block] at this | exact this) GW103.out); have hn104_5 : ad102.block ≠ gb103 := Nat.ne_of_lt (Nat.lt_of_lt_of_le (by have := World.block_lt_of_cell? _ _ hx104_0; first | rwa [add_block] at this | exact this) GW103.out); have hn104_6 : ad102.block ≠ gb103 := Nat.ne_of_lt (Nat.lt_of_lt_of_le (by have := World.block_lt_of_cell? _ _ hx104_0; first | rwa [add_block] at this | exact this) GW103.out); have hn104_7 : ad102.block ≠ gb103 := Nat.ne_of_lt (Nat.lt_of_lt_of_le (by have := World.block_lt_of_cell? _ _ hx104_0; first | rwa [add_block] at this | exact this) GW103.out); have hn104_8 : ad102.block ≠ gb103 := Nat.ne_of_lt (Nat.lt_of_lt_of_le (by have := World.block_lt_of_cell? _ _ hx104_0; first | rwa [add_block] at this | exact this) GW103.out); replace hx104_0 := (HB.out.cell (World.block_lt_of_cell? w _ hx104_0)).trans hx104_0; have HR104_7 := aM hi104_7; have HC104_7 := aM hl104_7; clear hi104_7 hl104_7; replace hx104_0 := (cell_far (p := ⟨gb103, 0, none⟩) (by first | (rw [add_block]; exact hn104_0) | (show (Addr.add _ _).block ≠ _; rw [add_block]; exact hn104_0) | exact hn104_0) (.string ((rd_T45 l0 x18_2).f0))).trans hx104_0; replace hx104_0 := (cell_far (p := ⟨gb103, 1, none⟩) (by first | (rw [add_block]; exact hn104_1) | (show (Addr.add _ _).block ≠ _; rw [add_block]; exact hn104_1) | exact hn104_1) (.int .i64 ((rd_T45 l0 x18_2).f1))).trans hx104_0; replace hx104_0 := (cell_far (p := ⟨gb103, 2, none⟩) (by first | (rw [add_block]; exact hn104_2) | (show (Addr.add _ _).block ≠ _; rw [add_block]; exact hn104_2) | exact hn104_2) (.int .i64 ((rd_T45 l0 x18_2).f2))).trans hx104_0; replace hx104_0 := (cell_far (p := ⟨gb103, 3, none⟩) (by first | (rw [add_block]; exact hn104_3) | (show (Addr.add _ _).block ≠ _; rw [add_block]; exact hn104_3) | exact hn104_3) (.int .i64 ((rd_T45 l0 x18_2).f3.f0))).trans hx104_0; replace hx104_0 := (cell_far (p := ⟨gb103, 4, none⟩) (by first | (rw [add_block]; exact hn104_4) | (show (Addr.add _ _).block ≠ _; rw [add_block]; exact hn104_4) | exact hn104_4) (.int .i64 ((rd_T45 l0 x18_2).f3.f1))).trans hx104_0; replace hx104_0 := (cell_far (p := ⟨gb103, 5, none⟩) (by first | (rw [add_block]; exact hn104_5) | (show (Addr.add _ _).block ≠ _; rw [add_block]; exact hn104_5) | exact hn104_5) (.int .i64 ((rd_T45 l0 x18_2).f3.f2))).trans hx104_0; replace hx104_0 := (cell_far (p := ⟨gb103, 6, none⟩) (by first | (rw [add_block]; exact hn104_6) | (show (Addr.add _ _).block ≠ _; rw [add_block]; exact hn104_6) | exact hn104_6) (.int .i64 ((rd_T45 l0 x18_2).f3.f3))).trans hx104_0; replace hx104_0 := (cell_far (p := ⟨gb103, 7, none⟩) (by first | (rw [add_block]; exact hn104_7) | (show (Addr.add _ _).block ≠ _; rw [add_block]; exact hn104_7) | exact hn104_7) (.slice A102_7 ((rd_T45 l0 x18_2).f3.f4).length c102_7)).trans hx104_0; replace hx104_0 := (cell_far (p := ⟨gb103, 8, none⟩) (by first | (rw [add_block]; exact hn104_8) | (show (Addr.add _ _).block ≠ _; rw [add_block]; exact hn104_8) | exact hn104_8) (.bool ((rd_T45 l0 x18_2).f3.f5))).trans hx104_0; clear hn104_0 hn104_1 hn104_2 hn104_3 hn104_4 hn104_5 hn104_6 hn104_7 hn104_8; replace p104 := eq_true p104; replace q104 := eq_true q104)); try go_wp2_with (first | ((with_reducible refine gate_dst (N := 7) rfl ?_); refine box_event ?hg (N := 7) ?hd (cs := #[.string (⟨#[]⟩ : ByteArray), .int .i64 0, .int .i64 0, .int .i64 0, .int .i64 0, .int .i64 0, .int .i64 0, .slice none 0 0, .bool false]) (t := 45) ?hr ?_; (case hd => rfl); (case hg => rfl); (case hr => first | (go_simp; done) | (go_simp; rfl)); intro gb103 hg w15 hbox hb; have _ := aM (below_step hbZ hb); have _ := aM hbox; have _ := szZ hg; have _ := szZ hg; clear HB; rename_i HB BK103 GW103 GE103; clear hb hbox hg; obtain ⟨hcz16_0, hcz16_1, hcz16_2, hcz16_3, hcz16_4, hcz16_5, hcz16_6, hcz16_7, hcz16_8, hfz16_0, hfz16_1, hfz16_2, hfz16_3, hfz16_4, hfz16_5, hfz16_6, hfz16_7, hfz16_8⟩ := cellsZ9 BK103.out; have p104 : 0 ≤ (0 : Int) := (by omega); have q104 : 0 < (l0.length : Int) := of_decide_eq_true z1200; obtain ⟨ad104, A104_7, c104_7, e104, hx104_0, hx104_1, hx104_2, hx104_3, hx104_4, hx104_5, hx104_6, hx104_7, hx104_8, hl104_7, hi104_7⟩ := at_T45 HR0.out 0 p104 q104; obtain rfl : ad102 = ad104 := (by injection e104); have qi104 : (0 < l0.length) = True := eq_true (by omega); (try rw [show ((0 : Int)).toNat = 0 from rfl] at hx104_0); (try rw [show 0 * 9 = 0 from rfl] at hx104_0); (try rw [Addr.add_zero'] at hx104_0); (try rw [show ((0 : Int)).toNat = 0 from rfl] at hx104_1); (try rw [show 0 * 9 = 0 from rfl] at hx104_1); (try rw [Addr.add_zero'] at hx104_1); (try rw [show ((0 : Int)).toNat = 0 from rfl] at hx104_2); (try rw [show 0 * 9 = 0 from rfl] at hx104_2); (try rw [Addr.add_zero'] at hx104_2); (try rw [show ((0 : Int)).toNat = 0 from rfl] at hx104_3); (try rw [show 0 * 9 = 0 from rfl] at hx104_3); (try rw [Addr.add_zero'] at hx104_3); (try rw [show ((0 : Int)).toNat = 0 from rfl] at hx104_4); (try rw [show 0 * 9 = 0 from rfl] at hx104_4); (try rw [Addr.add_zero'] at hx104_4); (try rw [show ((0 : Int)).toNat = 0 from rfl] at hx104_5); (try rw [show 0 * 9 = 0 from rfl] at hx104_5); (try rw [Addr.add_zero'] at hx104_5); (try rw [show ((0 : Int)).toNat = 0 from rfl] at hx104_6); (try rw [show 0 * 9 = 0 from rfl] at hx104_6); (try rw [Addr.add_zero'] at hx104_6); (try rw [show ((0 : Int)).toNat = 0 from rfl] at hx104_7); (try rw [show 0 * 9 = 0 from rfl] at hx104_7); (try rw [Addr.add_zero'] at hx104_7); (try rw [show ((0 : Int)).toNat = 0 from rfl] at hx104_8); (try rw [show 0 * 9 = 0 from rfl] at hx104_8); (try rw [Addr.add_zero'] at hx104_8); have hn104_0 : ad102.block ≠ gb103 := Nat.ne_of_lt (Nat.lt_of_lt_of_le (by have := World.block_lt_of_cell? _ _ hx104_0; first | rwa [add_block] at this | exact this) GW103.out); have hn104_1 : ad102.block ≠ gb103 := Nat.ne_of_lt (Nat.lt_of_lt_of_le (by have := World.block_lt_of_cell? _ _ hx104_0; first | rwa [add_block] at this | exact this) GW103.out); have hn104_2 : ad102.block ≠ gb103 := Nat.ne_of_lt (Nat.lt_of_lt_of_le (by have := World.block_lt_of_cell? _ _ hx104_0; first | rwa [add_block] at this | exact this) GW103.out); have hn104_3 : ad102.block ≠ gb103 := Nat.ne_of_lt (Nat.lt_of_lt_of_le (by have := World.block_lt_of_cell? _ _ hx104_0; first | rwa [add_block] at this | exact this) GW103.out); have hn104_4 : ad102.block ≠ gb103 := Nat.ne_of_lt (Nat.lt_of_lt_of_le (by have := World.block_lt_of_cell? _ _ hx104_0; first | rwa [add_block] at this | exact this) GW103.out); have hn104_5 : ad102.block ≠ gb103 := Nat.ne_of_lt (Nat.lt_of_lt_of_le (by have := World.block_lt_of_cell? _ _ hx104_0; first | rwa [add_block] at this | exact this) GW103.out); have hn104_6 : ad102.block ≠ gb103 := Nat.ne_of_lt (Nat.lt_of_lt_of_le (by have := World.block_lt_of_cell? _ _ hx104_0; first | rwa [add_block] at this | exact this) GW103.out); have hn104_7 : ad102.block ≠ gb103 := Nat.ne_of_lt (Nat.lt_of_lt_of_le (by have := World.block_lt_of_cell? _ _ hx104_0; first | rwa [add_block] at this | exact this) GW103.out); have hn104_8 : ad102.block ≠ gb103 := Nat.ne_of_lt (Nat.lt_of_lt_of_le (by have := World.block_lt_of_cell? _ _ hx104_0; first | rwa [add_block] at this | exact this) GW103.out); replace hx104_0 := (HB.out.cell (World.block_lt_of_cell? w _ hx104_0)).trans hx104_0; replace hx104_1 := (HB.out.cell (World.block_lt_of_cell? w _ hx104_1)).trans hx104_1; replace hx104_2 := (HB.out.cell (World.block_lt_of_cell? w _ hx104_2)).trans hx104_2; replace hx104_3 := (HB.out.cell (World.block_lt_of_cell? w _ hx104_3)).trans hx104_3; replace hx104_4 := (HB.out.cell (World.block_lt_of_cell? w _ hx104_4)).trans hx104_4; replace hx104_5 := (HB.out.cell (World.block_lt_of_cell? w _ hx104_5)).trans hx104_5; replace hx104_6 := (HB.out.cell (World.block_lt_of_cell? w _ hx104_6)).trans hx104_6; replace hx104_7 := (HB.out.cell (World.block_lt_of_cell? w _ hx104_7)).trans hx104_7; replace hx104_8 := (HB.out.cell (World.block_lt_of_cell? w _ hx104_8)).trans hx104_8; have HR104_7 := aM hi104_7; have HC104_7 := aM hl104_7; clear hi104_7 hl104_7; replace hx104_0 := (cell_far (p := ⟨gb103, 0, none⟩) (by first | (rw [add_block]; exact hn104_0) | (show (Addr.add _ _).block ≠ _; rw [add_block]; exact hn104_0) | exact hn104_0) (.string ((rd_T45 l0 x18_2).f0))).trans hx104_0; replace hx104_0 := (cell_far (p := ⟨gb103, 1, none⟩) (by first | (rw [add_block]; exact hn104_1) | (show (Addr.add _ _).block ≠ _; rw [add_block]; exact hn104_1) | exact hn104_1) (.int .i64 ((rd_T45 l0 x18_2).f1))).trans hx104_0; replace hx104_0 := (cell_far (p := ⟨gb103, 2, none⟩) (by first | (rw [add_block]; exact hn104_2) | (show (Addr.add _ _).block ≠ _; rw [add_block]; exact hn104_2) | exact hn104_2) (.int .i64 ((rd_T45 l0 x18_2).f2))).trans hx104_0; replace hx104_0 := (cell_far (p := ⟨gb103, 3, none⟩) (by first | (rw [add_block]; exact hn104_3) | (show (Addr.add _ _).block ≠ _; rw [add_block]; exact hn104_3) | exact hn104_3) (.int .i64 ((rd_T45 l0 x18_2).f3.f0))).trans hx104_0; replace hx104_0 := (cell_far (p := ⟨gb103, 4, none⟩) (by first | (rw [add_block]; exact hn104_4) | (show (Addr.add _ _).block ≠ _; rw [add_block]; exact hn104_4) | exact hn104_4) (.int .i64 ((rd_T45 l0 x18_2).f3.f1))).trans hx104_0; replace hx104_0 := (cell_far (p := ⟨gb103, 5, none⟩) (by first | (rw [add_block]; exact hn104_5) | (show (Addr.add _ _).block ≠ _; rw [add_block]; exact hn104_5) | exact hn104_5) (.int .i64 ((rd_T45 l0 x18_2).f3.f2))).trans hx104_0; replace hx104_0 := (cell_far (p := ⟨gb103, 6, none⟩) (by first | (rw [add_block]; exact hn104_6) | (show (Addr.add _ _).block ≠ _; rw [add_block]; exact hn104_6) | exact hn104_6) (.int .i64 ((rd_T45 l0 x18_2).f3.f3))).trans hx104_0; replace hx104_0 := (cell_far (p := ⟨gb103, 7, none⟩) (by first | (rw [add_block]; exact hn104_7) | (show (Addr.add _ _).block ≠ _; rw [add_block]; exact hn104_7) | exact hn104_7) (.slice A102_7 ((rd_T45 l0 x18_2).f3.f4).length c102_7)).trans hx104_0; replace hx104_0 := (cell_far (p := ⟨gb103, 8, none⟩) (by first | (rw [add_block]; exact hn104_8) | (show (Addr.add _ _).block ≠ _; rw [add_block]; exact hn104_8) | exact hn104_8) (.bool ((rd_T45 l0 x18_2).f3.f5))).trans hx104_0; clear hn104_0 hn104_1 hn104_2 hn104_3 hn104_4 hn104_5 hn104_6 hn104_7 hn104_8; replace p104 := eq_true p104; replace q104 := eq_true q104)))
           go_ret2
           exact ⟨_, z674d, z2bfb, zcb41⟩
       · rw [if_neg c8] at H
         have c8b0 : decide (x18_2 < (l0.length : Int)) = false := decide_eq_false c8
         clear c8
         replace H := Option.bind_eq_some_iff.mp H
         obtain ⟨t105, A170, H⟩ := H
         try dsimp only at H
         have A17 := aM A170
         clear A170
         simp only [Option.some.injEq, Prod.mk.injEq] at H
         obtain ⟨rfl, rfl⟩ := H
         go_wp2_with (first | (go_at_call 40; (with_reducible refine (spec_l8Pack.calls k2 _ _ l0 a1 t105 _ ?side1 ?side2 A17.out).mono ?_); (case side1 => exact (cZ (Kd.C_below HR0.out HB.out))); (case side2 => exact HC0.out); rintro e w18 ⟨v106, rfl, ho0, hb⟩; have _ := aM (Kd.S_lower ho0 (below_size hbZ)); have _ := aM (below_step hbZ hb); clear HB; rename_i HO107 HB; (try clear hb); (try clear ho0)))
         repeat (go_quiet (first | (go_at_call 40; (with_reducible refine (spec_l8Pack.calls k2 _ _ l0 a1 t105 _ ?side1 ?side2 A17.out).mono ?_); (case side1 => exact (cZ (Kd.C_below HR0.out HB.out))); (case side2 => exact HC0.out); rintro e w18 ⟨v106, rfl, ho0, hb⟩; have _ := aM (Kd.S_lower ho0 (below_size hbZ)); have _ := aM (below_step hbZ hb); clear HB; rename_i HO107 HB; (try clear hb); (try clear ho0))); try go_wp2_with (first | (go_at_call 40; (with_reducible refine (spec_l8Pack.calls k2 _ _ l0 a1 t105 _ ?side1 ?side2 A17.out).mono ?_); (case side1 => exact (cZ (Kd.C_below HR0.out HB.out))); (case side2 => exact HC0.out); rintro e w18 ⟨v106, rfl, ho0, hb⟩; have _ := aM (Kd.S_lower ho0 (below_size hbZ)); have _ := aM (below_step hbZ hb); clear HB; rename_i HO107 HB; (try clear hb); (try clear ho0))))
         go_ret2
         exact ⟨_, z674d, by (with_reducible repeat (first | apply Kd.S_alloc | apply Kd.S_drewN | apply Kd.S_drew)); exact HO107.out, z5acd⟩

end Go.Proofs.Ytdkokfnnebdppaa.P

-- written by a program of this session's (wip/pp)
namespace Go.Proofs.Ytdkokfnnebdppaa.P
open Go.RowKit Go.Proofs.YtdkokfnnebdppaaW.PrintWords Go.Proofs.YtdkokfnnebdppaaW.PrintLast Go.Proofs.YtdkokfnnebdppaaW.PrintMore
attribute [local go_sem] max2_int min2_int max_two min_two max_three min_three max_four min_four str_geq str_gtr str_leq   -- for this text's walks alone
set_option linter.unusedVariables false
set_option linter.unusedSimpArgs false

/-! ### impl_within: function 63 -/
def impl_within.f (a0 : Int) (a1 : Int) (a2 : Int) : Option (Bool) := if a0 ≥ a1 then (some (decide (a0 ≤ a2))) else (some false)
set_option maxHeartbeats 8000000 in
set_option maxRecDepth 100000 in
theorem impl_within.calls (a0 : Int) (a1 : Int) (a2 : Int) (r : Bool) (w : World) (h : impl_within.f a0 a1 a2 = some r) :
 Calls Try.prog 63 #[.int .i64 a0, .int .i64 a1, .int .i64 a2] w fun e w' => e = .returned (.bool r) ∧ Drawn0 w w' := by
 have H : (if a0 ≥ a1 then (some (decide (a0 ≤ a2))) else (some false)) = some r := h
 clear h
 by_cases c4 : a0 ≥ a1
 · rw [if_pos c4] at H
   have c4b0 : decide (a1 ≤ a0) = true := decide_eq_true c4
   clear c4
   obtain rfl := Option.some.inj H
   go_enter Try.func63, Try.ntmps63
   go_wp2
   go_ret
   exact ⟨z4458, za9de⟩
 · rw [if_neg c4] at H
   have c4b0 : decide (a1 ≤ a0) = false := decide_eq_false c4
   clear c4
   obtain rfl := Option.some.inj H
   go_enter Try.func63, Try.ntmps63
   go_wp2
   go_ret
   exact ⟨z4458, za9de⟩

end Go.Proofs.Ytdkokfnnebdppaa.P

-- written by a program of this session's (wip/pp)
namespace Go.Proofs.Ytdkokfnnebdppaa.P
open Go.RowKit Go.Proofs.YtdkokfnnebdppaaW.PrintWords Go.Proofs.YtdkokfnnebdppaaW.PrintLast Go.Proofs.YtdkokfnnebdppaaW.PrintMore
attribute [local go_sem] max2_int min2_int max_two min_two max_three min_three max_four min_four str_geq str_gtr str_leq   -- for this text's walks alone
set_option linter.unusedVariables false
set_option linter.unusedSimpArgs false

/-! ### impl_isKeyText: function 62 -/
def impl_isKeyText.f (a0 : ByteArray) : Option (Bool) := (impl_within.f (a0.size : Int) 1 140).bind fun t101 => (some t101)
set_option maxHeartbeats 8000000 in
set_option maxRecDepth 100000 in
theorem impl_isKeyText.calls (a0 : ByteArray) (r : Bool) (w : World) (h : impl_isKeyText.f a0 = some r) :
 Calls Try.prog 62 #[.string a0] w fun e w' => e = .returned (.bool r) ∧ Drawn0 w w' := by
 have H : ((impl_within.f (a0.size : Int) 1 140).bind fun t101 => (some t101)) = some r := h
 clear h
 replace H := Option.bind_eq_some_iff.mp H
 obtain ⟨t101, A20, H⟩ := H
 try dsimp only at H
 have A2 := aM A20
 clear A20
 obtain rfl := Option.some.inj H
 go_enter Try.func62, Try.ntmps62
 go_wp2_with (first | ((with_reducible refine gate_callee (f := 63) rfl ?_); refine goesL_ (some 5) rfl rfl Try.func63 (by kernel_rfl) rfl #[.int .i64 (a0.size : Int), .int .i64 1, .int .i64 140] rfl zee81 ?_; (with_reducible refine (impl_within.calls (a0.size : Int) 1 140 t101 _ A2.out).mono ?_); rintro e w' ⟨rfl, ⟨nd, rfl⟩⟩; refine ⟨_, rfl, ?_⟩))
 go_ret
 exact ⟨z4458, za9de⟩

end Go.Proofs.Ytdkokfnnebdppaa.P

-- written by a program of this session's (wip/pp)
namespace Go.Proofs.Ytdkokfnnebdppaa.P
open Go.RowKit Go.Proofs.YtdkokfnnebdppaaW.PrintWords Go.Proofs.YtdkokfnnebdppaaW.PrintLast Go.Proofs.YtdkokfnnebdppaaW.PrintMore
attribute [local go_sem] max2_int min2_int max_two min_two max_three min_three max_four min_four str_geq str_gtr str_leq   -- for this text's walks alone
set_option linter.unusedVariables false
set_option linter.unusedSimpArgs false

/-! ### impl_Agg_isZero: function 79 -/
def impl_Agg_isZero.f (a0_0 : Int) (a0_1 : Int) (a0_2 : Int) (a0_3 : Int) (l0_4 : List Int) (a0_5 : Bool) : Option (Bool) := if a0_0 = 0 then (if a0_1 = 0 then (if a0_2 = 0 then (if a0_3 = 0 then (if (l0_4.length : Int) = 0 then (some (!a0_5)) else (some false)) else (some false)) else (some false)) else (some false)) else (some false)
set_option maxHeartbeats 8000000 in
set_option maxRecDepth 100000 in
theorem impl_Agg_isZero.calls (a0_0 : Int) (a0_1 : Int) (a0_2 : Int) (a0_3 : Int) (A0_4 : Option Addr) (c0_4 : Nat) (l0_4 : List Int) (a0_5 : Bool) (r : Bool) (w : World) (hr0_4 : Kd.C (Kd.int .i64) w A0_4 l0_4.length l0_4) (hc0_4 : l0_4.length ≤ c0_4) (h : impl_Agg_isZero.f a0_0 a0_1 a0_2 a0_3 l0_4 a0_5 = some r) :
 Calls Try.prog 79 #[.agg #[.int .i64 a0_0, .int .i64 a0_1, .int .i64 a0_2, .int .i64 a0_3, .slice A0_4 l0_4.length c0_4, .bool a0_5]] w fun e w' => e = .returned (.bool r) ∧ Below w.heap.size w w' := by
 have hu26 := Try.underlying26
 have HR0_4 := aM hr0_4
 have HC0_4 := aM hc0_4
 clear hr0_4 hc0_4
 have HB := aM (Below.refl w.heap.size w)
 have H : (if a0_0 = 0 then (if a0_1 = 0 then (if a0_2 = 0 then (if a0_3 = 0 then (if (l0_4.length : Int) = 0 then (some (!a0_5)) else (some false)) else (some false)) else (some false)) else (some false)) else (some false)) = some r := h
 clear h
 by_cases c2 : a0_0 = 0
 · rw [if_pos c2] at H
   have c2b0 : (a0_0 == 0) = true := beq_iff_eq.mpr c2
   have c2b1 : (a0_0 != 0) = false := bne_eq_false_iff_eq.mpr c2
   clear c2
   by_cases c3 : a0_1 = 0
   · rw [if_pos c3] at H
     have c3b0 : (a0_1 == 0) = true := beq_iff_eq.mpr c3
     have c3b1 : (a0_1 != 0) = false := bne_eq_false_iff_eq.mpr c3
     clear c3
     by_cases c4 : a0_2 = 0
     · rw [if_pos c4] at H
       have c4b0 : (a0_2 == 0) = true := beq_iff_eq.mpr c4
       have c4b1 : (a0_2 != 0) = false := bne_eq_false_iff_eq.mpr c4
       clear c4
       by_cases c5 : a0_3 = 0
       · rw [if_pos c5] at H
         have c5b0 : (a0_3 == 0) = true := beq_iff_eq.mpr c5
         have c5b1 : (a0_3 != 0) = false := bne_eq_false_iff_eq.mpr c5
         clear c5
         by_cases c6 : (l0_4.length : Int) = 0
         · rw [if_pos c6] at H
           have c6b0 : ((l0_4.length : Int) == 0) = true := beq_iff_eq.mpr c6
           have c6b1 : ((l0_4.length : Int) != 0) = false := bne_eq_false_iff_eq.mpr c6
           clear c6
           obtain rfl := Option.some.inj H
           go_enter Try.func79, Try.ntmps79
           go_wp2_with (first | ((with_reducible refine gate_dst (N := 1) rfl ?_); (try (refine gate_guard (by rfl) ?_; dsimp only)); refine box_event ?hg (N := 1) ?hd (cs := #[.int .i64 a0_0, .int .i64 a0_1, .int .i64 a0_2, .int .i64 a0_3, .slice A0_4 l0_4.length c0_4, .bool a0_5]) (t := 26) ?hr ?_; (case hd => rfl); (case hg => rfl); (case hr => first | (go_simp; done) | (go_simp; rfl)); intro gb101 hg w7 hbox hb; have _ := aM (below_step hbZ hb); have _ := aM hbox; have _ := szZ hg; have _ := szZ hg; clear HB; rename_i HB BK101 GW101 GE101; clear hb hbox hg; obtain ⟨hcz8_0, hcz8_1, hcz8_2, hcz8_3, hcz8_4, hcz8_5, hfz8_0, hfz8_1, hfz8_2, hfz8_3, hfz8_4, hfz8_5⟩ := cellsZ6 BK101.out))
           go_ret
           exact ⟨z674d, zcb41⟩
         · rw [if_neg c6] at H
           have c6b0 : ((l0_4.length : Int) == 0) = false := beq_eq_false_iff_ne.mpr c6
           have c6b1 : ((l0_4.length : Int) != 0) = true := bne_iff_ne.mpr c6
           have c6b2 : ¬ (l0_4 = []) := fun h_ => c6 (by rw [h_]; rfl)
           obtain rfl := Option.some.inj H
           go_enter Try.func79, Try.ntmps79
           go_wp2_with (first | ((with_reducible refine gate_dst (N := 1) rfl ?_); (try (refine gate_guard (by rfl) ?_; dsimp only)); refine box_event ?hg (N := 1) ?hd (cs := #[.int .i64 a0_0, .int .i64 a0_1, .int .i64 a0_2, .int .i64 a0_3, .slice A0_4 l0_4.length c0_4, .bool a0_5]) (t := 26) ?hr ?_; (case hd => rfl); (case hg => rfl); (case hr => first | (go_simp; done) | (go_simp; rfl)); intro gb101 hg w9 hbox hb; have _ := aM (below_step hbZ hb); have _ := aM hbox; have _ := szZ hg; have _ := szZ hg; clear HB; rename_i HB BK101 GW101 GE101; clear hb hbox hg; obtain ⟨hcz10_0, hcz10_1, hcz10_2, hcz10_3, hcz10_4, hcz10_5, hfz10_0, hfz10_1, hfz10_2, hfz10_3, hfz10_4, hfz10_5⟩ := cellsZ6 BK101.out))
           go_ret
           exact ⟨z674d, zcb41⟩
       · rw [if_neg c5] at H
         have c5b0 : (a0_3 == 0) = false := beq_eq_false_iff_ne.mpr c5
         have c5b1 : (a0_3 != 0) = true := bne_iff_ne.mpr c5
         obtain rfl := Option.some.inj H
         go_enter Try.func79, Try.ntmps79
         go_wp2_with (first | ((with_reducible refine gate_dst (N := 1) rfl ?_); (try (refine gate_guard (by rfl) ?_; dsimp only)); refine box_event ?hg (N := 1) ?hd (cs := #[.int .i64 a0_0, .int .i64 a0_1, .int .i64 a0_2, .int .i64 a0_3, .slice A0_4 l0_4.length c0_4, .bool a0_5]) (t := 26) ?hr ?_; (case hd => rfl); (case hg => rfl); (case hr => first | (go_simp; done) | (go_simp; rfl)); intro gb101 hg w11 hbox hb; have _ := aM (below_step hbZ hb); have _ := aM hbox; have _ := szZ hg; have _ := szZ hg; clear HB; rename_i HB BK101 GW101 GE101; clear hb hbox hg; obtain ⟨hcz12_0, hcz12_1, hcz12_2, hcz12_3, hcz12_4, hcz12_5, hfz12_0, hfz12_1, hfz12_2, hfz12_3, hfz12_4, hfz12_5⟩ := cellsZ6 BK101.out))
         go_ret
         exact ⟨z674d, zcb41⟩
     · rw [if_neg c4] at H
       have c4b0 : (a0_2 == 0) = false := beq_eq_false_iff_ne.mpr c4
       have c4b1 : (a0_2 != 0) = true := bne_iff_ne.mpr c4
       obtain rfl := Option.some.inj H
       go_enter Try.func79, Try.ntmps79
       go_wp2_with (first | ((with_reducible refine gate_dst (N := 1) rfl ?_); (try (refine gate_guard (by rfl) ?_; dsimp only)); refine box_event ?hg (N := 1) ?hd (cs := #[.int .i64 a0_0, .int .i64 a0_1, .int .i64 a0_2, .int .i64 a0_3, .slice A0_4 l0_4.length c0_4, .bool a0_5]) (t := 26) ?hr ?_; (case hd => rfl); (case hg => rfl); (case hr => first | (go_simp; done) | (go_simp; rfl)); intro gb101 hg w13 hbox hb; have _ := aM (below_step hbZ hb); have _ := aM hbox; have _ := szZ hg; have _ := szZ hg; clear HB; rename_i HB BK101 GW101 GE101; clear hb hbox hg; obtain ⟨hcz14_0, hcz14_1, hcz14_2, hcz14_3, hcz14_4, hcz14_5, hfz14_0, hfz14_1, hfz14_2, hfz14_3, hfz14_4, hfz14_5⟩ := cellsZ6 BK101.out))
       go_ret
       exact ⟨z674d, zcb41⟩
   · rw [if_neg c3] at H
     have c3b0 : (a0_1 == 0) = false := beq_eq_false_iff_ne.mpr c3
     have c3b1 : (a0_1 != 0) = true := bne_iff_ne.mpr c3
     obtain rfl := Option.some.inj H
     go_enter Try.func79, Try.ntmps79
     go_wp2_with (first | ((with_reducible refine gate_dst (N := 1) rfl ?_); (try (refine gate_guard (by rfl) ?_; dsimp only)); refine box_event ?hg (N := 1) ?hd (cs := #[.int .i64 a0_0, .int .i64 a0_1, .int .i64 a0_2, .int .i64 a0_3, .slice A0_4 l0_4.length c0_4, .bool a0_5]) (t := 26) ?hr ?_; (case hd => rfl); (case hg => rfl); (case hr => first | (go_simp; done) | (go_simp; rfl)); intro gb101 hg w15 hbox hb; have _ := aM (below_step hbZ hb); have _ := aM hbox; have _ := szZ hg; have _ := szZ hg; clear HB; rename_i HB BK101 GW101 GE101; clear hb hbox hg; obtain ⟨hcz16_0, hcz16_1, hcz16_2, hcz16_3, hcz16_4, hcz16_5, hfz16_0, hfz16_1, hfz16_2, hfz16_3, hfz16_4, hfz16_5⟩ := cellsZ6 BK101.out))
     go_ret
     exact ⟨z674d, zcb41⟩
 · rw [if_neg c2] at H
   have c2b0 : (a0_0 == 0) = false := beq_eq_false_iff_ne.mpr c2
   have c2b1 : (a0_0 != 0) = true := bne_iff_ne.mpr c2
   obtain rfl := Option.some.inj H
   go_enter Try.func79, Try.ntmps79
   go_wp2_with (first | ((with_reducible refine gate_dst (N := 1) rfl ?_); (try (refine gate_guard (by rfl) ?_; dsimp only)); refine box_event ?hg (N := 1) ?hd (cs := #[.int .i64 a0_0, .int .i64 a0_1, .int .i64 a0_2, .int .i64 a0_3, .slice A0_4 l0_4.length c0_4, .bool a0_5]) (t := 26) ?hr ?_; (case hd => rfl); (case hg => rfl); (case hr => first | (go_simp; done) | (go_simp; rfl)); intro gb101 hg w17 hbox hb; have _ := aM (below_step hbZ hb); have _ := aM hbox; have _ := szZ hg; have _ := szZ hg; clear HB; rename_i HB BK101 GW101 GE101; clear hb hbox hg; obtain ⟨hcz18_0, hcz18_1, hcz18_2, hcz18_3, hcz18_4, hcz18_5, hfz18_0, hfz18_1, hfz18_2, hfz18_3, hfz18_4, hfz18_5⟩ := cellsZ6 BK101.out))
   go_ret
   exact ⟨z674d, zcb41⟩

end Go.Proofs.Ytdkokfnnebdppaa.P

-- written by a program of this session's (wip/pp)
namespace Go.Proofs.Ytdkokfnnebdppaa.P
open Go.RowKit Go.Proofs.YtdkokfnnebdppaaW.PrintWords Go.Proofs.YtdkokfnnebdppaaW.PrintLast Go.Proofs.YtdkokfnnebdppaaW.PrintMore
attribute [local go_sem] max2_int min2_int max_two min_two max_three min_three max_four min_four str_geq str_gtr str_leq   -- for this text's walks alone
set_option linter.unusedVariables false
set_option linter.unusedSimpArgs false

/-! ### impl_isValue: function 95 -/
def impl_isValue.f (a0 : Int) : Option (Bool) := (impl_within.f a0 (-1000000000) 1000000000).bind fun t101 => (some t101)
set_option maxHeartbeats 8000000 in
set_option maxRecDepth 100000 in
theorem impl_isValue.calls (a0 : Int) (r : Bool) (w : World) (h : impl_isValue.f a0 = some r) :
 Calls Try.prog 95 #[.int .i64 a0] w fun e w' => e = .returned (.bool r) ∧ Drawn0 w w' := by
 have H : ((impl_within.f a0 (-1000000000) 1000000000).bind fun t101 => (some t101)) = some r := h
 clear h
 replace H := Option.bind_eq_some_iff.mp H
 obtain ⟨t101, A20, H⟩ := H
 try dsimp only at H
 have A2 := aM A20
 clear A20
 obtain rfl := Option.some.inj H
 go_enter Try.func95, Try.ntmps95
 go_wp2_with (first | ((with_reducible refine gate_callee (f := 63) rfl ?_); refine goesL_ (some 4) rfl rfl Try.func63 (by kernel_rfl) rfl #[.int .i64 a0, .int .i64 (-1000000000), .int .i64 1000000000] rfl zee81 ?_; (with_reducible refine (impl_within.calls a0 (-1000000000) 1000000000 t101 _ A2.out).mono ?_); rintro e w' ⟨rfl, ⟨nd, rfl⟩⟩; refine ⟨_, rfl, ?_⟩))
 go_ret
 exact ⟨z4458, za9de⟩

end Go.Proofs.Ytdkokfnnebdppaa.P

-- written by a program of this session's (wip/pp)
namespace Go.Proofs.Ytdkokfnnebdppaa.P
open Go.RowKit Go.Proofs.YtdkokfnnebdppaaW.PrintWords Go.Proofs.YtdkokfnnebdppaaW.PrintLast Go.Proofs.YtdkokfnnebdppaaW.PrintMore
attribute [local go_sem] max2_int min2_int max_two min_two max_three min_three max_four min_four str_geq str_gtr str_leq   -- for this text's walks alone
set_option linter.unusedVariables false
set_option linter.unusedSimpArgs false

/-! ### impl_GoodAgg: function 80 -/
mutual
def impl_GoodAgg.j0 : Nat → Bool → Int → Int → Int → Int → List Int → Bool → Option (Bool)
 | 0, _, _, _, _, _, _, _ => none
 | k + 1, x15, x102000, x102001, x102002, x102003, x102004, x102005 => if x15 = true then (some false) else (impl_GoodAgg.l0 k 0 x102004 (x102004.length : Int) 0 x102000 x102001 x102002 x102003 x102004 x102005)
def impl_GoodAgg.l0 : Nat → Int → List Int → Int → Int → Int → Int → Int → Int → List Int → Bool → Option (Bool)
 | 0, _, _, _, _, _, _, _, _, _, _ => none
 | k + 1, x3, x17, x18, x19, x102000, x102001, x102002, x102003, x102004, x102005 => if x19 < x18 then (if 0 ≤ x19 then (if x19 < (x17.length : Int) then ((impl_within.f (rd x17 x19) 0 1000000000).bind fun t104 => (if t104 = true then (impl_GoodAgg.l0 k (wrap64 (x3 + (rd x17 x19))) x17 x18 (wrap64 (x19 + 1)) x102000 x102001 x102002 x102003 x102004 x102005) else (some false))) else (none)) else (none)) else (if x102005 = true then (impl_GoodAgg.j2 k x3 (x102001 != 0) x102000 x102001 x102002 x102003 x102004 x102005) else (impl_GoodAgg.j2 k x3 false x102000 x102001 x102002 x102003 x102004 x102005))
def impl_GoodAgg.j2 : Nat → Int → Bool → Int → Int → Int → Int → List Int → Bool → Option (Bool)
 | 0, _, _, _, _, _, _, _, _ => none
 | k + 1, x3, x30, x102000, x102001, x102002, x102003, x102004, x102005 => if x30 = true then (some false) else (if x102005 = true then (impl_GoodAgg.j3 k x3 false x102000 x102001 x102002 x102003 x102004 x102005) else (if x3 = x102000 then ((impl_within.f x102001 (wrap64 ((-1000000000) * x102000)) (wrap64 (1000000000 * x102000))).bind fun t105 => (impl_GoodAgg.j3 k x3 (!t105) x102000 x102001 x102002 x102003 x102004 x102005)) else (impl_GoodAgg.j3 k x3 true x102000 x102001 x102002 x102003 x102004 x102005)))
def impl_GoodAgg.j3 : Nat → Int → Bool → Int → Int → Int → Int → List Int → Bool → Option (Bool)
 | 0, _, _, _, _, _, _, _, _ => none
 | k + 1, x3, x38, x102000, x102001, x102002, x102003, x102004, x102005 => if x38 = true then (some false) else (if x102000 = 0 then (if x102002 = 0 then (if x102003 = 0 then (if x3 = 0 then (some (!x102005)) else (some false)) else (some false)) else (some false)) else ((impl_isValue.f x102002).bind fun t106 => (if t106 = true then ((impl_isValue.f x102003).bind fun t107 => (if t107 = true then (some (decide (x102002 ≤ x102003))) else (some false))) else (some false))))
end
def impl_GoodAgg.f (k : Nat) (a0_0 : Int) (a0_1 : Int) (a0_2 : Int) (a0_3 : Int) (l0_4 : List Int) (a0_5 : Bool) : Option (Bool) := (impl_within.f a0_0 0 1000000000).bind fun t102 => (if t102 = true then (impl_GoodAgg.j0 k ((l0_4.length : Int) != 8) a0_0 a0_1 a0_2 a0_3 l0_4 a0_5) else (impl_GoodAgg.j0 k true a0_0 a0_1 a0_2 a0_3 l0_4 a0_5))
theorem impl_GoodAgg.mono_l : ∀ k, (∀ y0 y1 y2 y3 y4 y5 y6, LeO (impl_GoodAgg.j0 k y0 y1 y2 y3 y4 y5 y6) (impl_GoodAgg.j0 (k + 1) y0 y1 y2 y3 y4 y5 y6)) ∧ (∀ y0 y1 y2 y3 y4 y5 y6 y7 y8 y9, LeO (impl_GoodAgg.l0 k y0 y1 y2 y3 y4 y5 y6 y7 y8 y9) (impl_GoodAgg.l0 (k + 1) y0 y1 y2 y3 y4 y5 y6 y7 y8 y9)) ∧ (∀ y0 y1 y2 y3 y4 y5 y6 y7, LeO (impl_GoodAgg.j2 k y0 y1 y2 y3 y4 y5 y6 y7) (impl_GoodAgg.j2 (k + 1) y0 y1 y2 y3 y4 y5 y6 y7)) ∧ (∀ y0 y1 y2 y3 y4 y5 y6 y7, LeO (impl_GoodAgg.j3 k y0 y1 y2 y3 y4 y5 y6 y7) (impl_GoodAgg.j3 (k + 1) y0 y1 y2 y3 y4 y5 y6 y7))
 | 0 => ⟨fun _ _ _ _ _ _ _ r h => by simp [impl_GoodAgg.j0] at h, fun _ _ _ _ _ _ _ _ _ _ r h => by simp [impl_GoodAgg.l0] at h, fun _ _ _ _ _ _ _ _ r h => by simp [impl_GoodAgg.j2] at h, fun _ _ _ _ _ _ _ _ r h => by simp [impl_GoodAgg.j3] at h⟩
 | k + 1 => by
  obtain ⟨ih0, ih1, ih2, ih3⟩ := impl_GoodAgg.mono_l k
  refine ⟨?_, ?_, ?_, ?_⟩
  · intro y0 y1 y2 y3 y4 y5 y6
    unfold impl_GoodAgg.j0
    repeat' first
     | (with_reducible first | exact ih0 .. | exact ih1 .. | exact ih2 .. | exact ih3 .. | exact LeO.refl _ | exact LeO.none _ | refine LeO.ite ?_ ?_ | refine LeO.bind ?_ (fun _ => ?_))
     | exact LeO.none _
     | refine LeO.ite ?_ ?_
     | refine LeO.bind ?_ (fun _ => ?_)
  · intro y0 y1 y2 y3 y4 y5 y6 y7 y8 y9
    unfold impl_GoodAgg.l0
    repeat' first
     | (with_reducible first | exact ih0 .. | exact ih1 .. | exact ih2 .. | exact ih3 .. | exact LeO.refl _ | exact LeO.none _ | refine LeO.ite ?_ ?_ | refine LeO.bind ?_ (fun _ => ?_))
     | exact LeO.none _
     | refine LeO.ite ?_ ?_
     | refine LeO.bind ?_ (fun _ => ?_)
  · intro y0 y1 y2 y3 y4 y5 y6 y7
    unfold impl_GoodAgg.j2
    repeat' first
     | (with_reducible first | exact ih0 .. | exact ih1 .. | exact ih2 .. | exact ih3 .. | exact LeO.refl _ | exact LeO.none _ | refine LeO.ite ?_ ?_ | refine LeO.bind ?_ (fun _ => ?_))
     | exact LeO.none _
     | refine LeO.ite ?_ ?_
     | refine LeO.bind ?_ (fun _ => ?_)
  · intro y0 y1 y2 y3 y4 y5 y6 y7
    unfold impl_GoodAgg.j3
    repeat' first
     | (with_reducible first | exact ih0 .. | exact ih1 .. | exact ih2 .. | exact ih3 .. | exact LeO.refl _ | exact LeO.none _ | refine LeO.ite ?_ ?_ | refine LeO.bind ?_ (fun _ => ?_))
     | exact LeO.none _
     | refine LeO.ite ?_ ?_
     | refine LeO.bind ?_ (fun _ => ?_)
theorem impl_GoodAgg.mono : ∀ a0 a1 a2 a3 a4 a5 k, LeO (impl_GoodAgg.f k a0 a1 a2 a3 a4 a5) (impl_GoodAgg.f (k + 1) a0 a1 a2 a3 a4 a5) := by
 intro a0 a1 a2 a3 a4 a5 k
 obtain ⟨ih0, ih1, ih2, ih3⟩ := impl_GoodAgg.mono_l k
 unfold impl_GoodAgg.f
 repeat' first
  | (with_reducible first | exact ih0 .. | exact ih1 .. | exact ih2 .. | exact ih3 .. | exact LeO.refl _ | exact LeO.none _ | refine LeO.ite ?_ ?_ | refine LeO.bind ?_ (fun _ => ?_))
  | exact LeO.none _
  | refine LeO.ite ?_ ?_
  | refine LeO.bind ?_ (fun _ => ?_)
set_option maxHeartbeats 8000000 in
set_option maxRecDepth 100000 in
theorem impl_GoodAgg.calls (k : Nat) (a0_0 : Int) (a0_1 : Int) (a0_2 : Int) (a0_3 : Int) (A0_4 : Option Addr) (c0_4 : Nat) (l0_4 : List Int) (a0_5 : Bool) (r : Bool) (w : World) (hr0_4 : Kd.C (Kd.int .i64) w A0_4 l0_4.length l0_4) (hc0_4 : l0_4.length ≤ c0_4) (h : impl_GoodAgg.f k a0_0 a0_1 a0_2 a0_3 l0_4 a0_5 = some r) :
 Calls Try.prog 80 #[.agg #[.int .i64 a0_0, .int .i64 a0_1, .int .i64 a0_2, .int .i64 a0_3, .slice A0_4 l0_4.length c0_4, .bool a0_5]] w fun e w' => e = .returned (.bool r) ∧ Below w.heap.size w w' := by
 have hu26 := Try.underlying26
 have HR0_4 := aM hr0_4
 have HC0_4 := aM hc0_4
 clear hr0_4 hc0_4
 have HB := aM (Below.refl w.heap.size w)
 have H : ((impl_within.f a0_0 0 1000000000).bind fun t102 => (if t102 = true then (impl_GoodAgg.j0 k ((l0_4.length : Int) != 8) a0_0 a0_1 a0_2 a0_3 l0_4 a0_5) else (impl_GoodAgg.j0 k true a0_0 a0_1 a0_2 a0_3 l0_4 a0_5))) = some r := h
 clear h
 have HC2 := aM H
 clear H
 go_enter Try.func80, Try.ntmps80
 go_upto_region 1 with (first | ((with_reducible refine gate_dst (N := 1) rfl ?_); (try (refine gate_guard (by rfl) ?_; dsimp only)); refine box_event ?hg (N := 1) ?hd (cs := #[.int .i64 a0_0, .int .i64 a0_1, .int .i64 a0_2, .int .i64 a0_3, .slice A0_4 l0_4.length c0_4, .bool a0_5]) (t := 26) ?hr ?_; (case hd => rfl); (case hg => rfl); (case hr => first | (go_simp; done) | (go_simp; rfl)); intro gb101 hg w3 hbox hb; have _ := aM (below_step hbZ hb); have _ := aM hbox; have _ := szZ hg; have _ := szZ hg; clear HB; rename_i HB BK101 GW101 GE101; clear hb hbox hg))
 (try simp only [Act.put, List.setIfInBounds_toArray, List.set_cons_zero, List.set_cons_succ])
 go_cut [15] (fun v15 wc => ∃ (kq : Nat) (x15_1 : Bool), v15 = .bool x15_1 ∧ Aside0 (impl_GoodAgg.j0 kq x15_1 a0_0 a0_1 a0_2 a0_3 l0_4 a0_5 = some r) ∧ Aside0 (kq ≤ k) ∧ Aside0 (wc.heap[gb101]? = some (.cells #[.int .i64 a0_0, .int .i64 a0_1, .int .i64 a0_2, .int .i64 a0_3, (.slice A0_4 l0_4.length c0_4), .bool a0_5] 26 (0, 0))) ∧ Aside0 (Below w.heap.size w wc))
 case first =>
  have H := HC2.out
  clear HC2
  replace H := Option.bind_eq_some_iff.mp H
  obtain ⟨t102, A40, H⟩ := H
  try dsimp only at H
  have A4 := aM A40
  clear A40
  by_cases c5 : t102 = true
  · subst c5
    rw [if_pos rfl] at H
    have H' := aM H
    clear H
    obtain ⟨hcz6_0, hcz6_1, hcz6_2, hcz6_3, hcz6_4, hcz6_5, hfz6_0, hfz6_1, hfz6_2, hfz6_3, hfz6_4, hfz6_5⟩ := cellsZ6 BK101.out
    go_wp2_with (first | ((with_reducible refine gate_callee (f := 63) rfl ?_); refine goesL_ (some 8) rfl rfl Try.func63 (by kernel_rfl) rfl #[.int .i64 a0_0, .int .i64 0, .int .i64 1000000000] rfl zee81 ?_; (with_reducible refine (impl_within.calls a0_0 0 1000000000 true _ A4.out).mono ?_); rintro e w' ⟨rfl, ⟨nd, rfl⟩⟩; refine ⟨_, rfl, ?_⟩))
    go_meet
    case rel => exact ⟨_, (((l0_4.length : Int) != 8)), z4458, H', ⟨zb79b⟩, ⟨bkZ⟩, ⟨zcb41⟩⟩
  · replace c5 := Bool.eq_false_iff.mpr c5
    subst c5
    rw [if_neg (show ¬ (false = true) by decide)] at H
    have H' := aM H
    clear H
    obtain ⟨hcz7_0, hcz7_1, hcz7_2, hcz7_3, hcz7_4, hcz7_5, hfz7_0, hfz7_1, hfz7_2, hfz7_3, hfz7_4, hfz7_5⟩ := cellsZ6 BK101.out
    go_wp2_with (first | ((with_reducible refine gate_callee (f := 63) rfl ?_); refine goesL_ (some 8) rfl rfl Try.func63 (by kernel_rfl) rfl #[.int .i64 a0_0, .int .i64 0, .int .i64 1000000000] rfl zee81 ?_; (with_reducible refine (impl_within.calls a0_0 0 1000000000 false _ A4.out).mono ?_); rintro e w' ⟨rfl, ⟨nd, rfl⟩⟩; refine ⟨_, rfl, ?_⟩))
    go_meet
    case rel => exact ⟨_, (true), z4458, H', ⟨zb79b⟩, ⟨bkZ⟩, ⟨zcb41⟩⟩
 case rest =>
  clear HC2
  try clear p2
  try clear c5
  try clear c6
  try clear hcz6_0 hcz6_1 hcz6_2 hcz6_3 hcz6_4 hcz6_5
  try clear hcz7_0 hcz7_1 hcz7_2 hcz7_3 hcz7_4 hcz7_5
  try clear hfz6_0 hfz6_1 hfz6_2 hfz6_3 hfz6_4 hfz6_5
  try clear hfz7_0 hfz7_1 hfz7_2 hfz7_3 hfz7_4 hfz7_5
  obtain ⟨kq, x15_1, rfl, HA, HJ1, BK101, HB⟩ := hcut
  cases kq with
  | zero => exact absurd HA.out (by simp [impl_GoodAgg.j0])
  | succ kj1 =>
   have H := HA.out
   clear HA
   simp only [impl_GoodAgg.j0] at H
   by_cases c8 : x15_1 = true
   · subst c8
     rw [if_pos rfl] at H
     obtain rfl := Option.some.inj H
     go_wp2
     go_ret
     exact ⟨z674d, zcb41⟩
   · replace c8 := Bool.eq_false_iff.mpr c8
     subst c8
     rw [if_neg (show ¬ (false = true) by decide)] at H
     have H' := aM H
     clear H
     obtain ⟨hcz9_0, hcz9_1, hcz9_2, hcz9_3, hcz9_4, hcz9_5, hfz9_0, hfz9_1, hfz9_2, hfz9_3, hfz9_4, hfz9_5⟩ := cellsZ6 BK101.out
     go_wp2
     go_loopg [3, 19] kj1 (fun kq v3 v19 w' => ∃ (x3_2 : Int) (x19_2 : Int), v3 = .int .i64 x3_2 ∧ v19 = .int .i64 x19_2 ∧ Aside0 (impl_GoodAgg.l0 kq x3_2 l0_4 (l0_4.length : Int) x19_2 a0_0 a0_1 a0_2 a0_3 l0_4 a0_5 = some r) ∧ Aside0 (kq ≤ kj1) ∧ Aside0 (w'.heap[gb101]? = some (.cells #[.int .i64 a0_0, .int .i64 a0_1, .int .i64 a0_2, .int .i64 a0_3, (.slice A0_4 l0_4.length c0_4), .bool a0_5] 26 (0, 0))) ∧ Aside0 (Below w.heap.size w w'))
     case atStart => exact ⟨(0), (0), z4458, z4458, H', ⟨Nat.le_refl _⟩, ⟨bkZ⟩, ⟨zcb41⟩⟩
     case round =>
      clear H'
      try clear p2
      try clear c5
      try clear c6
      try clear c8
      try clear hcz6_0 hcz6_1 hcz6_2 hcz6_3 hcz6_4 hcz6_5
      try clear hcz7_0 hcz7_1 hcz7_2 hcz7_3 hcz7_4 hcz7_5
      try clear hcz9_0 hcz9_1 hcz9_2 hcz9_3 hcz9_4 hcz9_5
      try clear hfz6_0 hfz6_1 hfz6_2 hfz6_3 hfz6_4 hfz6_5
      try clear hfz7_0 hfz7_1 hfz7_2 hfz7_3 hfz7_4 hfz7_5
      try clear hfz9_0 hfz9_1 hfz9_2 hfz9_3 hfz9_4 hfz9_5
      try clear p2
      obtain ⟨x3_2, x19_2, rfl, rfl, HA, HK2, BK101, HB⟩ := hrel
      cases gk with
      | zero => exact absurd HA.out (by simp [impl_GoodAgg.l0])
      | succ k2 =>
       have H := HA.out
       clear HA
       simp only [impl_GoodAgg.l0] at H
       by_cases c10 : x19_2 < (l0_4.length : Int)
       · rw [if_pos c10] at H
         have c10b0 : decide (x19_2 < (l0_4.length : Int)) = true := decide_eq_true c10
         clear c10
         replace H := ifS H; obtain ⟨c11, H⟩ := H
         have c11b0 : decide (0 ≤ x19_2) = true := decide_eq_true c11
         clear c11
         replace H := ifS H; obtain ⟨c12, H⟩ := H
         have c12b0 : decide (x19_2 < (l0_4.length : Int)) = true := decide_eq_true c12
         clear c12
         replace H := Option.bind_eq_some_iff.mp H
         obtain ⟨t104, A130, H⟩ := H
         try dsimp only at H
         have A13 := aM A130
         clear A130
         by_cases c14 : t104 = true
         · subst c14
           rw [if_pos rfl] at H
           have H' := aM H
           clear H
           have p103 : 0 ≤ (x19_2 : Int) := of_decide_eq_true z1200
           have q103 : x19_2 < (l0_4.length : Int) := of_decide_eq_true z1200
           obtain ⟨ad103, e103, hx103_0⟩ := Kd.at_int HR0_4.out x19_2 p103 q103
           cases e103
           replace hx103_0 := (HB.out.cell (World.block_lt_of_cell? w _ hx103_0)).trans hx103_0
           replace p103 := eq_true p103
           replace q103 := eq_true q103
           go_wp2_with (first | ((with_reducible refine gate_callee (f := 63) rfl ?_); refine goesL_ (some 24) rfl rfl Try.func63 (by kernel_rfl) rfl #[.int .i64 (rd l0_4 x19_2), .int .i64 0, .int .i64 1000000000] rfl zee81 ?_; (with_reducible refine (impl_within.calls (rd l0_4 x19_2) 0 1000000000 true _ A13.out).mono ?_); rintro e w' ⟨rfl, ⟨nd, rfl⟩⟩; refine ⟨_, rfl, ?_⟩))
           go_roundg k2
           case measure => have := HJ1.out; have := HK2.out; omega
           case rel => exact ⟨(wrap64 (x3_2 + (rd l0_4 x19_2))), (wrap64 (x19_2 + 1)), z4458, z4458, H', ⟨by have := HJ1.out; have := HK2.out; omega⟩, ⟨bkZ⟩, ⟨zcb41⟩⟩
         · replace c14 := Bool.eq_false_iff.mpr c14
           subst c14
           rw [if_neg (show ¬ (false = true) by decide)] at H
           obtain rfl := Option.some.inj H
           have p103 : 0 ≤ (x19_2 : Int) := of_decide_eq_true z1200
           have q103 : x19_2 < (l0_4.length : Int) := of_decide_eq_true z1200
           obtain ⟨ad103, e103, hx103_0⟩ := Kd.at_int HR0_4.out x19_2 p103 q103
           cases e103
           replace hx103_0 := (HB.out.cell (World.block_lt_of_cell? w _ hx103_0)).trans hx103_0
           replace p103 := eq_true p103
           replace q103 := eq_true q103
           go_wp2_with (first | ((with_reducible refine gate_callee (f := 63) rfl ?_); refine goesL_ (some 24) rfl rfl Try.func63 (by kernel_rfl) rfl #[.int .i64 (rd l0_4 x19_2), .int .i64 0, .int .i64 1000000000] rfl zee81 ?_; (with_reducible refine (impl_within.calls (rd l0_4 x19_2) 0 1000000000 false _ A13.out).mono ?_); rintro e w' ⟨rfl, ⟨nd, rfl⟩⟩; refine ⟨_, rfl, ?_⟩))
           go_ret
           exact ⟨z674d, zcb41⟩
       · rw [if_neg c10] at H
         have c10b0 : decide (x19_2 < (l0_4.length : Int)) = false := decide_eq_false c10
         clear c10
         have HC15 := aM H
         clear H
         go_upto_region 11 with (fail)
         go_cut [30] (fun v30 wc => ∃ (kq : Nat) (x30_14 : Bool), v30 = .bool x30_14 ∧ Aside0 (impl_GoodAgg.j2 kq x3_2 x30_14 a0_0 a0_1 a0_2 a0_3 l0_4 a0_5 = some r) ∧ Aside0 (kq ≤ k2) ∧ Aside0 (wc.heap[gb101]? = some (.cells #[.int .i64 a0_0, .int .i64 a0_1, .int .i64 a0_2, .int .i64 a0_3, (.slice A0_4 l0_4.length c0_4), .bool a0_5] 26 (0, 0))) ∧ Aside0 (Below w.heap.size w wc))
         case first =>
          have H := HC15.out
          clear HC15
          by_cases c16 : a0_5 = true
          · subst c16
            rw [if_pos rfl] at H
            have H' := aM H
            clear H
            obtain ⟨hcz17_0, hcz17_1, hcz17_2, hcz17_3, hcz17_4, hcz17_5, hfz17_0, hfz17_1, hfz17_2, hfz17_3, hfz17_4, hfz17_5⟩ := cellsZ6 BK101.out
            go_wp2
            go_meet
            case rel => exact ⟨_, ((a0_1 != 0)), z4458, H', ⟨zdc19⟩, ⟨bkZ⟩, ⟨zcb41⟩⟩
          · replace c16 := Bool.eq_false_iff.mpr c16
            subst c16
            rw [if_neg (show ¬ (false = true) by decide)] at H
            have H' := aM H
            clear H
            obtain ⟨hcz18_0, hcz18_1, hcz18_2, hcz18_3, hcz18_4, hcz18_5, hfz18_0, hfz18_1, hfz18_2, hfz18_3, hfz18_4, hfz18_5⟩ := cellsZ6 BK101.out
            go_wp2
            go_meet
            case rel => exact ⟨_, (false), z4458, H', ⟨zdc19⟩, ⟨bkZ⟩, ⟨zcb41⟩⟩
         case rest =>
          clear HC15
          try clear c1
          try clear p1
          try clear q1
          try clear hx1
          try clear p2
          try clear c5
          try clear c6
          try clear p6
          try clear c8
          try clear c10
          try clear c10b0
          try clear p10
          try clear q10
          try clear hx10
          try clear c11
          try clear c11b0
          try clear c12
          try clear c12b0
          try clear c14
          try clear c16
          try clear hcz17_0 hcz17_1 hcz17_2 hcz17_3 hcz17_4 hcz17_5
          try clear hcz18_0 hcz18_1 hcz18_2 hcz18_3 hcz18_4 hcz18_5
          try clear hcz6_0 hcz6_1 hcz6_2 hcz6_3 hcz6_4 hcz6_5
          try clear hcz7_0 hcz7_1 hcz7_2 hcz7_3 hcz7_4 hcz7_5
          try clear hcz9_0 hcz9_1 hcz9_2 hcz9_3 hcz9_4 hcz9_5
          try clear hfz17_0 hfz17_1 hfz17_2 hfz17_3 hfz17_4 hfz17_5
          try clear hfz18_0 hfz18_1 hfz18_2 hfz18_3 hfz18_4 hfz18_5
          try clear hfz6_0 hfz6_1 hfz6_2 hfz6_3 hfz6_4 hfz6_5
          try clear hfz7_0 hfz7_1 hfz7_2 hfz7_3 hfz7_4 hfz7_5
          try clear hfz9_0 hfz9_1 hfz9_2 hfz9_3 hfz9_4 hfz9_5
          try clear hx103_0
          try clear p103
          try clear p2
          try clear q103
          obtain ⟨kq, x30_14, rfl, HA, HJ14, BK101, HB⟩ := hcut
          cases kq with
          | zero => exact absurd HA.out (by simp [impl_GoodAgg.j2])
          | succ kj14 =>
           have H := HA.out
           clear HA
           simp only [impl_GoodAgg.j2] at H
           by_cases c19 : x30_14 = true
           · subst c19
             rw [if_pos rfl] at H
             obtain rfl := Option.some.inj H
             go_wp2
             go_ret
             exact ⟨z674d, zcb41⟩
           · replace c19 := Bool.eq_false_iff.mpr c19
             subst c19
             rw [if_neg (show ¬ (false = true) by decide)] at H
             have HC20 := aM H
             clear H
             go_upto_region 13 with (fail)
             go_cut [38] (fun v38 wc => ∃ (kq : Nat) (x38_19 : Bool), v38 = .bool x38_19 ∧ Aside0 (impl_GoodAgg.j3 kq x3_2 x38_19 a0_0 a0_1 a0_2 a0_3 l0_4 a0_5 = some r) ∧ Aside0 (kq ≤ kj14) ∧ Aside0 (wc.heap[gb101]? = some (.cells #[.int .i64 a0_0, .int .i64 a0_1, .int .i64 a0_2, .int .i64 a0_3, (.slice A0_4 l0_4.length c0_4), .bool a0_5] 26 (0, 0))) ∧ Aside0 (Below w.heap.size w wc))
             case first =>
              have H := HC20.out
              clear HC20
              by_cases c21 : a0_5 = true
              · subst c21
                rw [if_pos rfl] at H
                have H' := aM H
                clear H
                obtain ⟨hcz22_0, hcz22_1, hcz22_2, hcz22_3, hcz22_4, hcz22_5, hfz22_0, hfz22_1, hfz22_2, hfz22_3, hfz22_4, hfz22_5⟩ := cellsZ6 BK101.out
                go_wp2
                go_meet
                case rel => exact ⟨_, (false), z4458, H', ⟨by have := HJ1.out; have := HK2.out; have := HJ14.out; first | omega | exact Nat.le_refl _⟩, ⟨bkZ⟩, ⟨zcb41⟩⟩
              · replace c21 := Bool.eq_false_iff.mpr c21
                subst c21
                rw [if_neg (show ¬ (false = true) by decide)] at H
                by_cases c23 : x3_2 = a0_0
                · rw [if_pos c23] at H
                  have c23b0 : (x3_2 == a0_0) = true := beq_iff_eq.mpr c23
                  have c23b1 : (x3_2 != a0_0) = false := bne_eq_false_iff_eq.mpr c23
                  clear c23
                  (first | rw [c23b0] | (simp only [i64_w, i32_w]; rw [c23b0]) | skip)
                  replace H := Option.bind_eq_some_iff.mp H
                  obtain ⟨t105, A240, H⟩ := H
                  try dsimp only at H
                  have A24 := aM A240
                  clear A240
                  have H' := aM H
                  clear H
                  obtain ⟨hcz25_0, hcz25_1, hcz25_2, hcz25_3, hcz25_4, hcz25_5, hfz25_0, hfz25_1, hfz25_2, hfz25_3, hfz25_4, hfz25_5⟩ := cellsZ6 BK101.out
                  go_wp2_with (first | (go_at_call 63; (with_reducible refine (impl_within.calls a0_1 (wrap64 ((-1000000000) * a0_0)) (wrap64 (1000000000 * a0_0)) t105 _ A24.out).mono ?_); rintro e w' ⟨rfl, ⟨nd, rfl⟩⟩))
                  go_meet
                  case rel => exact ⟨_, (!t105), z4458, H', ⟨by have := HJ1.out; have := HK2.out; have := HJ14.out; first | omega | exact Nat.le_refl _⟩, ⟨bkZ⟩, ⟨zcb41⟩⟩
                · rw [if_neg c23] at H
                  have c23b0 : (x3_2 == a0_0) = false := beq_eq_false_iff_ne.mpr c23
                  have c23b1 : (x3_2 != a0_0) = true := bne_iff_ne.mpr c23
                  (first | rw [c23b0] | (simp only [i64_w, i32_w]; rw [c23b0]) | skip)
                  have H' := aM H
                  clear H
                  obtain ⟨hcz26_0, hcz26_1, hcz26_2, hcz26_3, hcz26_4, hcz26_5, hfz26_0, hfz26_1, hfz26_2, hfz26_3, hfz26_4, hfz26_5⟩ := cellsZ6 BK101.out
                  go_wp2
                  go_meet
                  case rel => exact ⟨_, (true), z4458, H', ⟨by have := HJ1.out; have := HK2.out; have := HJ14.out; first | omega | exact Nat.le_refl _⟩, ⟨bkZ⟩, ⟨zcb41⟩⟩
             case rest =>
              clear HC20
              try clear c1
              try clear p1
              try clear q1
              try clear hx1
              try clear c2
              try clear p2
              try clear c5
              try clear c6
              try clear p6
              try clear c8
              try clear c10
              try clear c10b0
              try clear p10
              try clear q10
              try clear hx10
              try clear c11
              try clear c11b0
              try clear c12
              try clear c12b0
              try clear c14
              try clear c16
              try clear c19
              try clear c21
              try clear c23
              try clear c23b0
              try clear c23b1
              try clear hcz17_0 hcz17_1 hcz17_2 hcz17_3 hcz17_4 hcz17_5
              try clear hcz18_0 hcz18_1 hcz18_2 hcz18_3 hcz18_4 hcz18_5
              try clear hcz22_0 hcz22_1 hcz22_2 hcz22_3 hcz22_4 hcz22_5
              try clear hcz25_0 hcz25_1 hcz25_2 hcz25_3 hcz25_4 hcz25_5
              try clear hcz26_0 hcz26_1 hcz26_2 hcz26_3 hcz26_4 hcz26_5
              try clear hcz6_0 hcz6_1 hcz6_2 hcz6_3 hcz6_4 hcz6_5
              try clear hcz7_0 hcz7_1 hcz7_2 hcz7_3 hcz7_4 hcz7_5
              try clear hcz9_0 hcz9_1 hcz9_2 hcz9_3 hcz9_4 hcz9_5
              try clear hfz17_0 hfz17_1 hfz17_2 hfz17_3 hfz17_4 hfz17_5
              try clear hfz18_0 hfz18_1 hfz18_2 hfz18_3 hfz18_4 hfz18_5
              try clear hfz22_0 hfz22_1 hfz22_2 hfz22_3 hfz22_4 hfz22_5
              try clear hfz25_0 hfz25_1 hfz25_2 hfz25_3 hfz25_4 hfz25_5
              try clear hfz26_0 hfz26_1 hfz26_2 hfz26_3 hfz26_4 hfz26_5
              try clear hfz6_0 hfz6_1 hfz6_2 hfz6_3 hfz6_4 hfz6_5
              try clear hfz7_0 hfz7_1 hfz7_2 hfz7_3 hfz7_4 hfz7_5
              try clear hfz9_0 hfz9_1 hfz9_2 hfz9_3 hfz9_4 hfz9_5
              try clear hx103_0
              try clear p1
              try clear p10
              try clear p103
              try clear p2
              try clear p6
              try clear q1
              try clear q10
              try clear q103
              obtain ⟨kq, x38_19, rfl, HA, HJ19, BK101, HB⟩ := hcut
              cases kq with
              | zero => exact absurd HA.out (by simp [impl_GoodAgg.j3])
              | succ kj19 =>
               have H := HA.out
               clear HA
               simp only [impl_GoodAgg.j3] at H
               by_cases c27 : x38_19 = true
               · subst c27
                 rw [if_pos rfl] at H
                 obtain rfl := Option.some.inj H
                 go_wp2
                 go_ret
                 exact ⟨z674d, zcb41⟩
               · replace c27 := Bool.eq_false_iff.mpr c27
                 subst c27
                 rw [if_neg (show ¬ (false = true) by decide)] at H
                 by_cases c28 : a0_0 = 0
                 · rw [if_pos c28] at H
                   have c28b0 : (a0_0 == 0) = true := beq_iff_eq.mpr c28
                   have c28b1 : (a0_0 != 0) = false := bne_eq_false_iff_eq.mpr c28
                   clear c28
                   by_cases c29 : a0_2 = 0
                   · rw [if_pos c29] at H
                     have c29b0 : (a0_2 == 0) = true := beq_iff_eq.mpr c29
                     have c29b1 : (a0_2 != 0) = false := bne_eq_false_iff_eq.mpr c29
                     clear c29
                     by_cases c30 : a0_3 = 0
                     · rw [if_pos c30] at H
                       have c30b0 : (a0_3 == 0) = true := beq_iff_eq.mpr c30
                       have c30b1 : (a0_3 != 0) = false := bne_eq_false_iff_eq.mpr c30
                       clear c30
                       by_cases c31 : x3_2 = 0
                       · rw [if_pos c31] at H
                         have c31b0 : (x3_2 == 0) = true := beq_iff_eq.mpr c31
                         have c31b1 : (x3_2 != 0) = false := bne_eq_false_iff_eq.mpr c31
                         clear c31
                         obtain rfl := Option.some.inj H
                         obtain ⟨hcz32_0, hcz32_1, hcz32_2, hcz32_3, hcz32_4, hcz32_5, hfz32_0, hfz32_1, hfz32_2, hfz32_3, hfz32_4, hfz32_5⟩ := cellsZ6 BK101.out
                         go_wp2
                         go_ret
                         exact ⟨z674d, zcb41⟩
                       · rw [if_neg c31] at H
                         have c31b0 : (x3_2 == 0) = false := beq_eq_false_iff_ne.mpr c31
                         have c31b1 : (x3_2 != 0) = true := bne_iff_ne.mpr c31
                         obtain rfl := Option.some.inj H
                         obtain ⟨hcz33_0, hcz33_1, hcz33_2, hcz33_3, hcz33_4, hcz33_5, hfz33_0, hfz33_1, hfz33_2, hfz33_3, hfz33_4, hfz33_5⟩ := cellsZ6 BK101.out
                         go_wp2
                         go_ret
                         exact ⟨z674d, zcb41⟩
                     · rw [if_neg c30] at H
                       have c30b0 : (a0_3 == 0) = false := beq_eq_false_iff_ne.mpr c30
                       have c30b1 : (a0_3 != 0) = true := bne_iff_ne.mpr c30
                       obtain rfl := Option.some.inj H
                       obtain ⟨hcz34_0, hcz34_1, hcz34_2, hcz34_3, hcz34_4, hcz34_5, hfz34_0, hfz34_1, hfz34_2, hfz34_3, hfz34_4, hfz34_5⟩ := cellsZ6 BK101.out
                       go_wp2
                       go_ret
                       exact ⟨z674d, zcb41⟩
                   · rw [if_neg c29] at H
                     have c29b0 : (a0_2 == 0) = false := beq_eq_false_iff_ne.mpr c29
                     have c29b1 : (a0_2 != 0) = true := bne_iff_ne.mpr c29
                     obtain rfl := Option.some.inj H
                     obtain ⟨hcz35_0, hcz35_1, hcz35_2, hcz35_3, hcz35_4, hcz35_5, hfz35_0, hfz35_1, hfz35_2, hfz35_3, hfz35_4, hfz35_5⟩ := cellsZ6 BK101.out
                     go_wp2
                     go_ret
                     exact ⟨z674d, zcb41⟩
                 · rw [if_neg c28] at H
                   have c28b0 : (a0_0 == 0) = false := beq_eq_false_iff_ne.mpr c28
                   have c28b1 : (a0_0 != 0) = true := bne_iff_ne.mpr c28
                   replace H := Option.bind_eq_some_iff.mp H
                   obtain ⟨t106, A360, H⟩ := H
                   try dsimp only at H
                   have A36 := aM A360
                   clear A360
                   by_cases c37 : t106 = true
                   · subst c37
                     rw [if_pos rfl] at H
                     replace H := Option.bind_eq_some_iff.mp H
                     obtain ⟨t107, A380, H⟩ := H
                     try dsimp only at H
                     have A38 := aM A380
                     clear A380
                     by_cases c39 : t107 = true
                     · subst c39
                       rw [if_pos rfl] at H
                       obtain rfl := Option.some.inj H
                       obtain ⟨hcz40_0, hcz40_1, hcz40_2, hcz40_3, hcz40_4, hcz40_5, hfz40_0, hfz40_1, hfz40_2, hfz40_3, hfz40_4, hfz40_5⟩ := cellsZ6 BK101.out
                       go_wp2_with (first | ((with_reducible refine gate_callee (f := 95) rfl ?_); refine goesL_ (some 83) rfl rfl Try.func95 (by kernel_rfl) rfl #[.int .i64 a0_2] rfl zee81 ?_; (with_reducible refine (impl_isValue.calls a0_2 true _ A36.out).mono ?_); rintro e w' ⟨rfl, ⟨nd, rfl⟩⟩; refine ⟨_, rfl, ?_⟩) | (go_at_call 95; (with_reducible refine (impl_isValue.calls a0_3 true _ A38.out).mono ?_); rintro e w' ⟨rfl, ⟨nd, rfl⟩⟩))
                       go_ret
                       exact ⟨z674d, zcb41⟩
                     · replace c39 := Bool.eq_false_iff.mpr c39
                       subst c39
                       rw [if_neg (show ¬ (false = true) by decide)] at H
                       obtain rfl := Option.some.inj H
                       obtain ⟨hcz41_0, hcz41_1, hcz41_2, hcz41_3, hcz41_4, hcz41_5, hfz41_0, hfz41_1, hfz41_2, hfz41_3, hfz41_4, hfz41_5⟩ := cellsZ6 BK101.out
                       go_wp2_with (first | ((with_reducible refine gate_callee (f := 95) rfl ?_); refine goesL_ (some 83) rfl rfl Try.func95 (by kernel_rfl) rfl #[.int .i64 a0_2] rfl zee81 ?_; (with_reducible refine (impl_isValue.calls a0_2 true _ A36.out).mono ?_); rintro e w' ⟨rfl, ⟨nd, rfl⟩⟩; refine ⟨_, rfl, ?_⟩) | (go_at_call 95; (with_reducible refine (impl_isValue.calls a0_3 false _ A38.out).mono ?_); rintro e w' ⟨rfl, ⟨nd, rfl⟩⟩))
                       go_ret
                       exact ⟨z674d, zcb41⟩
                   · replace c37 := Bool.eq_false_iff.mpr c37
                     subst c37
                     rw [if_neg (show ¬ (false = true) by decide)] at H
                     obtain rfl := Option.some.inj H
                     obtain ⟨hcz42_0, hcz42_1, hcz42_2, hcz42_3, hcz42_4, hcz42_5, hfz42_0, hfz42_1, hfz42_2, hfz42_3, hfz42_4, hfz42_5⟩ := cellsZ6 BK101.out
                     go_wp2_with (first | ((with_reducible refine gate_callee (f := 95) rfl ?_); refine goesL_ (some 83) rfl rfl Try.func95 (by kernel_rfl) rfl #[.int .i64 a0_2] rfl zee81 ?_; (with_reducible refine (impl_isValue.calls a0_2 false _ A36.out).mono ?_); rintro e w' ⟨rfl, ⟨nd, rfl⟩⟩; refine ⟨_, rfl, ?_⟩))
                     go_ret
                     exact ⟨z674d, zcb41⟩

end Go.Proofs.Ytdkokfnnebdppaa.P

-- written by a program of this session's (wip/pp)
namespace Go.Proofs.Ytdkokfnnebdppaa.P
open Go.RowKit Go.Proofs.YtdkokfnnebdppaaW.PrintWords Go.Proofs.YtdkokfnnebdppaaW.PrintLast Go.Proofs.YtdkokfnnebdppaaW.PrintMore
attribute [local go_sem] max2_int min2_int max_two min_two max_three min_three max_four min_four str_geq str_gtr str_leq   -- for this text's walks alone
set_option linter.unusedVariables false
set_option linter.unusedSimpArgs false

/-! ### impl_GoodEntry: function 47 -/
def impl_GoodEntry.j0 : Nat → Bool → ByteArray → Int → Int → Int → Int → Int → Int → List Int → Bool → Option (Bool)
 | 0, _, _, _, _, _, _, _, _, _, _ => none
 | k + 1, x12, x102000, x102001, x102002, x102003, x102004, x102005, x102006, x102007, x102008 => if x12 = true then (some false) else (if x102002 = 2 then ((impl_Agg_isZero.f x102003 x102004 x102005 x102006 x102007 x102008).bind fun t104 => (some t104)) else (if x102002 = 1 then ((impl_GoodAgg.f k x102003 x102004 x102005 x102006 x102007 x102008).bind fun t105 => (some t105)) else (if x102002 = 3 then ((impl_GoodAgg.f k x102003 x102004 x102005 x102006 x102007 x102008).bind fun t106 => (some t106)) else (some false))))
def impl_GoodEntry.f (k : Nat) (a0_0 : ByteArray) (a0_1 : Int) (a0_2 : Int) (a0_3 : Int) (a0_4 : Int) (a0_5 : Int) (a0_6 : Int) (l0_7 : List Int) (a0_8 : Bool) : Option (Bool) := (impl_isKeyText.f a0_0).bind fun t102 => (if t102 = true then ((impl_within.f a0_1 1 1000000000).bind fun t103 => (impl_GoodEntry.j0 k (!t103) a0_0 a0_1 a0_2 a0_3 a0_4 a0_5 a0_6 l0_7 a0_8)) else (impl_GoodEntry.j0 k true a0_0 a0_1 a0_2 a0_3 a0_4 a0_5 a0_6 l0_7 a0_8))
theorem impl_GoodEntry.mono_l : ∀ k, (∀ y0 y1 y2 y3 y4 y5 y6 y7 y8 y9, LeO (impl_GoodEntry.j0 k y0 y1 y2 y3 y4 y5 y6 y7 y8 y9) (impl_GoodEntry.j0 (k + 1) y0 y1 y2 y3 y4 y5 y6 y7 y8 y9))
 | 0 => fun _ _ _ _ _ _ _ _ _ _ r h => by simp [impl_GoodEntry.j0] at h
 | k + 1 => by
  have ih0 := impl_GoodEntry.mono_l k
  · intro y0 y1 y2 y3 y4 y5 y6 y7 y8 y9
    unfold impl_GoodEntry.j0
    repeat' first
     | (with_reducible first | exact ih0 .. | exact impl_GoodAgg.mono .. | exact LeO.refl _ | exact LeO.none _ | refine LeO.ite ?_ ?_ | refine LeO.bind ?_ (fun _ => ?_))
     | exact LeO.none _
     | refine LeO.ite ?_ ?_
     | refine LeO.bind ?_ (fun _ => ?_)
theorem impl_GoodEntry.mono : ∀ a0 a1 a2 a3 a4 a5 a6 a7 a8 k, LeO (impl_GoodEntry.f k a0 a1 a2 a3 a4 a5 a6 a7 a8) (impl_GoodEntry.f (k + 1) a0 a1 a2 a3 a4 a5 a6 a7 a8) := by
 intro a0 a1 a2 a3 a4 a5 a6 a7 a8 k
 have ih0 := impl_GoodEntry.mono_l k
 unfold impl_GoodEntry.f
 repeat' first
  | (with_reducible first | exact ih0 .. | exact impl_GoodAgg.mono .. | exact LeO.refl _ | exact LeO.none _ | refine LeO.ite ?_ ?_ | refine LeO.bind ?_ (fun _ => ?_))
  | exact LeO.none _
  | refine LeO.ite ?_ ?_
  | refine LeO.bind ?_ (fun _ => ?_)
set_option maxHeartbeats 8000000 in
set_option maxRecDepth 100000 in
theorem impl_GoodEntry.calls (k : Nat) (a0_0 : ByteArray) (a0_1 : Int) (a0_2 : Int) (a0_3 : Int) (a0_4 : Int) (a0_5 : Int) (a0_6 : Int) (A0_7 : Option Addr) (c0_7 : Nat) (l0_7 : List Int) (a0_8 : Bool) (r : Bool) (w : World) (hr0_7 : Kd.C (Kd.int .i64) w A0_7 l0_7.length l0_7) (hc0_7 : l0_7.length ≤ c0_7) (h : impl_GoodEntry.f k a0_0 a0_1 a0_2 a0_3 a0_4 a0_5 a0_6 l0_7 a0_8 = some r) :
 Calls Try.prog 47 #[.agg #[.string a0_0, .int .i64 a0_1, .int .i64 a0_2, .int .i64 a0_3, .int .i64 a0_4, .int .i64 a0_5, .int .i64 a0_6, .slice A0_7 l0_7.length c0_7, .bool a0_8]] w fun e w' => e = .returned (.bool r) ∧ Below w.heap.size w w' := by
 have hu45 := Try.underlying45
 have hu26 := Try.underlying26
 have HR0_7 := aM hr0_7
 have HC0_7 := aM hc0_7
 clear hr0_7 hc0_7
 have HB := aM (Below.refl w.heap.size w)
 have H : ((impl_isKeyText.f a0_0).bind fun t102 => (if t102 = true then ((impl_within.f a0_1 1 1000000000).bind fun t103 => (impl_GoodEntry.j0 k (!t103) a0_0 a0_1 a0_2 a0_3 a0_4 a0_5 a0_6 l0_7 a0_8)) else (impl_GoodEntry.j0 k true a0_0 a0_1 a0_2 a0_3 a0_4 a0_5 a0_6 l0_7 a0_8))) = some r := h
 clear h
 have HC2 := aM H
 clear H
 go_enter Try.func47, Try.ntmps47
 go_upto_region 1 with (first | ((with_reducible refine gate_dst (N := 1) rfl ?_); refine box_event ?hg (N := 1) ?hd (cs := #[.string a0_0, .int .i64 a0_1, .int .i64 a0_2, .int .i64 a0_3, .int .i64 a0_4, .int .i64 a0_5, .int .i64 a0_6, .slice A0_7 l0_7.length c0_7, .bool a0_8]) (t := 45) ?hr ?_; (case hd => rfl); (case hg => rfl); (case hr => first | (go_simp; done) | (go_simp; rfl)); intro gb101 hg w3 hbox hb; have _ := aM (below_step hbZ hb); have _ := aM hbox; have _ := szZ hg; have _ := szZ hg; clear HB; rename_i HB BK101 GW101 GE101; clear hb hbox hg))
 (try simp only [Act.put, List.setIfInBounds_toArray, List.set_cons_zero, List.set_cons_succ])
 go_cut [12] (fun v12 wc => ∃ (kq : Nat) (x12_1 : Bool), v12 = .bool x12_1 ∧ Aside0 (impl_GoodEntry.j0 kq x12_1 a0_0 a0_1 a0_2 a0_3 a0_4 a0_5 a0_6 l0_7 a0_8 = some r) ∧ Aside0 (kq ≤ k) ∧ Aside0 (wc.heap[gb101]? = some (.cells #[.string a0_0, .int .i64 a0_1, .int .i64 a0_2, .int .i64 a0_3, .int .i64 a0_4, .int .i64 a0_5, .int .i64 a0_6, (.slice A0_7 l0_7.length c0_7), .bool a0_8] 45 (0, 0))) ∧ Aside0 (Below w.heap.size w wc))
 case first =>
  have H := HC2.out
  clear HC2
  replace H := Option.bind_eq_some_iff.mp H
  obtain ⟨t102, A40, H⟩ := H
  try dsimp only at H
  have A4 := aM A40
  clear A40
  by_cases c5 : t102 = true
  · subst c5
    rw [if_pos rfl] at H
    replace H := Option.bind_eq_some_iff.mp H
    obtain ⟨t103, A60, H⟩ := H
    try dsimp only at H
    have A6 := aM A60
    clear A60
    have H' := aM H
    clear H
    obtain ⟨hcz7_0, hcz7_1, hcz7_2, hcz7_3, hcz7_4, hcz7_5, hcz7_6, hcz7_7, hcz7_8, hfz7_0, hfz7_1, hfz7_2, hfz7_3, hfz7_4, hfz7_5, hfz7_6, hfz7_7, hfz7_8⟩ := cellsZ9 BK101.out
    go_wp2_with (first | ((with_reducible refine gate_callee (f := 62) rfl ?_); refine goesL_ (some 5) rfl rfl Try.func62 (by kernel_rfl) rfl #[.string a0_0] rfl zee81 ?_; (with_reducible refine (impl_isKeyText.calls a0_0 true _ A4.out).mono ?_); rintro e w' ⟨rfl, ⟨nd, rfl⟩⟩; refine ⟨_, rfl, ?_⟩) | (go_at_call 63; (with_reducible refine (impl_within.calls a0_1 1 1000000000 t103 _ A6.out).mono ?_); rintro e w' ⟨rfl, ⟨nd, rfl⟩⟩))
    go_meet
    case rel => exact ⟨_, (!t103), z4458, H', ⟨zb79b⟩, ⟨bkZ⟩, ⟨zcb41⟩⟩
  · replace c5 := Bool.eq_false_iff.mpr c5
    subst c5
    rw [if_neg (show ¬ (false = true) by decide)] at H
    have H' := aM H
    clear H
    obtain ⟨hcz8_0, hcz8_1, hcz8_2, hcz8_3, hcz8_4, hcz8_5, hcz8_6, hcz8_7, hcz8_8, hfz8_0, hfz8_1, hfz8_2, hfz8_3, hfz8_4, hfz8_5, hfz8_6, hfz8_7, hfz8_8⟩ := cellsZ9 BK101.out
    go_wp2_with (first | ((with_reducible refine gate_callee (f := 62) rfl ?_); refine goesL_ (some 5) rfl rfl Try.func62 (by kernel_rfl) rfl #[.string a0_0] rfl zee81 ?_; (with_reducible refine (impl_isKeyText.calls a0_0 false _ A4.out).mono ?_); rintro e w' ⟨rfl, ⟨nd, rfl⟩⟩; refine ⟨_, rfl, ?_⟩))
    go_meet
    case rel => exact ⟨_, (true), z4458, H', ⟨zb79b⟩, ⟨bkZ⟩, ⟨zcb41⟩⟩
 case rest =>
  clear HC2
  try clear p2
  try clear c4
  try clear c5
  try clear c6
  try clear hcz7_0 hcz7_1 hcz7_2 hcz7_3 hcz7_4 hcz7_5 hcz7_6 hcz7_7 hcz7_8
  try clear hcz8_0 hcz8_1 hcz8_2 hcz8_3 hcz8_4 hcz8_5 hcz8_6 hcz8_7 hcz8_8
  try clear hfz7_0 hfz7_1 hfz7_2 hfz7_3 hfz7_4 hfz7_5 hfz7_6 hfz7_7 hfz7_8
  try clear hfz8_0 hfz8_1 hfz8_2 hfz8_3 hfz8_4 hfz8_5 hfz8_6 hfz8_7 hfz8_8
  obtain ⟨kq, x12_1, rfl, HA, HJ1, BK101, HB⟩ := hcut
  cases kq with
  | zero => exact absurd HA.out (by simp [impl_GoodEntry.j0])
  | succ kj1 =>
   have H := HA.out
   clear HA
   simp only [impl_GoodEntry.j0] at H
   by_cases c9 : x12_1 = true
   · subst c9
     rw [if_pos rfl] at H
     obtain rfl := Option.some.inj H
     go_wp2
     go_ret
     exact ⟨z674d, zcb41⟩
   · replace c9 := Bool.eq_false_iff.mpr c9
     subst c9
     rw [if_neg (show ¬ (false = true) by decide)] at H
     by_cases c10 : a0_2 = 2
     · rw [if_pos c10] at H
       have c10b0 : (a0_2 == 2) = true := beq_iff_eq.mpr c10
       have c10b1 : (a0_2 != 2) = false := bne_eq_false_iff_eq.mpr c10
       clear c10
       replace H := Option.bind_eq_some_iff.mp H
       obtain ⟨t104, A110, H⟩ := H
       try dsimp only at H
       have A11 := aM A110
       clear A110
       obtain rfl := Option.some.inj H
       obtain ⟨hcz12_0, hcz12_1, hcz12_2, hcz12_3, hcz12_4, hcz12_5, hcz12_6, hcz12_7, hcz12_8, hfz12_0, hfz12_1, hfz12_2, hfz12_3, hfz12_4, hfz12_5, hfz12_6, hfz12_7, hfz12_8⟩ := cellsZ9 BK101.out
       go_wp2_with (first | ((with_reducible refine gate_callee (f := 79) rfl ?_); refine goesL_ (some 18) rfl rfl Try.func79 (by kernel_rfl) rfl #[.agg #[.int .i64 a0_3, .int .i64 a0_4, .int .i64 a0_5, .int .i64 a0_6, .slice A0_7 l0_7.length c0_7, .bool a0_8]] rfl zee81 ?_; (with_reducible refine (impl_Agg_isZero.calls a0_3 a0_4 a0_5 a0_6 _ _ l0_7 a0_8 t104 _ ?side1 ?side2 A11.out).mono ?_); (case side1 => exact (cZ (Kd.C_below HR0_7.out HB.out))); (case side2 => exact HC0_7.out); rintro e w13 ⟨rfl, hb⟩; refine ⟨_, rfl, ?_⟩; have _ := bB gb101 hb; have _ := aM (below_step hbZ hb); clear BK101 HB; rename_i BK101 HB; (try clear hb)))
       go_ret
       exact ⟨z674d, zcb41⟩
     · rw [if_neg c10] at H
       have c10b0 : (a0_2 == 2) = false := beq_eq_false_iff_ne.mpr c10
       have c10b1 : (a0_2 != 2) = true := bne_iff_ne.mpr c10
       by_cases c14 : a0_2 = 1
       · rw [if_pos c14] at H
         have c14b0 : (a0_2 == 1) = true := beq_iff_eq.mpr c14
         have c14b1 : (a0_2 != 1) = false := bne_eq_false_iff_eq.mpr c14
         clear c14
         replace H := Option.bind_eq_some_iff.mp H
         obtain ⟨t105, A150, H⟩ := H
         try dsimp only at H
         have A15 := aM A150
         clear A150
         obtain rfl := Option.some.inj H
         obtain ⟨hcz16_0, hcz16_1, hcz16_2, hcz16_3, hcz16_4, hcz16_5, hcz16_6, hcz16_7, hcz16_8, hfz16_0, hfz16_1, hfz16_2, hfz16_3, hfz16_4, hfz16_5, hfz16_6, hfz16_7, hfz16_8⟩ := cellsZ9 BK101.out
         go_wp2_with (first | (go_at_call 80; (with_reducible refine (impl_GoodAgg.calls kj1 a0_3 a0_4 a0_5 a0_6 _ _ l0_7 a0_8 t105 _ ?side1 ?side2 A15.out).mono ?_); (case side1 => exact (cZ (Kd.C_below HR0_7.out HB.out))); (case side2 => exact HC0_7.out); rintro e w17 ⟨rfl, hb⟩; have _ := bB gb101 hb; have _ := aM (below_step hbZ hb); clear BK101 HB; rename_i BK101 HB; (try clear hb)))
         go_ret
         exact ⟨z674d, zcb41⟩
       · rw [if_neg c14] at H
         have c14b0 : (a0_2 == 1) = false := beq_eq_false_iff_ne.mpr c14
         have c14b1 : (a0_2 != 1) = true := bne_iff_ne.mpr c14
         by_cases c18 : a0_2 = 3
         · rw [if_pos c18] at H
           have c18b0 : (a0_2 == 3) = true := beq_iff_eq.mpr c18
           have c18b1 : (a0_2 != 3) = false := bne_eq_false_iff_eq.mpr c18
           clear c18
           replace H := Option.bind_eq_some_iff.mp H
           obtain ⟨t106, A190, H⟩ := H
           try dsimp only at H
           have A19 := aM A190
           clear A190
           obtain rfl := Option.some.inj H
           obtain ⟨hcz20_0, hcz20_1, hcz20_2, hcz20_3, hcz20_4, hcz20_5, hcz20_6, hcz20_7, hcz20_8, hfz20_0, hfz20_1, hfz20_2, hfz20_3, hfz20_4, hfz20_5, hfz20_6, hfz20_7, hfz20_8⟩ := cellsZ9 BK101.out
           go_wp2_with (first | (go_at_call 80; (with_reducible refine (impl_GoodAgg.calls kj1 a0_3 a0_4 a0_5 a0_6 _ _ l0_7 a0_8 t106 _ ?side1 ?side2 A19.out).mono ?_); (case side1 => exact (cZ (Kd.C_below HR0_7.out HB.out))); (case side2 => exact HC0_7.out); rintro e w21 ⟨rfl, hb⟩; have _ := bB gb101 hb; have _ := aM (below_step hbZ hb); clear BK101 HB; rename_i BK101 HB; (try clear hb)))
           go_ret
           exact ⟨z674d, zcb41⟩
         · rw [if_neg c18] at H
           have c18b0 : (a0_2 == 3) = false := beq_eq_false_iff_ne.mpr c18
           have c18b1 : (a0_2 != 3) = true := bne_iff_ne.mpr c18
           obtain rfl := Option.some.inj H
           obtain ⟨hcz22_0, hcz22_1, hcz22_2, hcz22_3, hcz22_4, hcz22_5, hcz22_6, hcz22_7, hcz22_8, hfz22_0, hfz22_1, hfz22_2, hfz22_3, hfz22_4, hfz22_5, hfz22_6, hfz22_7, hfz22_8⟩ := cellsZ9 BK101.out
           go_wp2
           go_ret
           exact ⟨z674d, zcb41⟩

end Go.Proofs.Ytdkokfnnebdppaa.P

-- written by a program of this session's (wip/pp)
namespace Go.Proofs.Ytdkokfnnebdppaa.P
open Go.RowKit Go.Proofs.YtdkokfnnebdppaaW.PrintWords Go.Proofs.YtdkokfnnebdppaaW.PrintLast Go.Proofs.YtdkokfnnebdppaaW.PrintMore
attribute [local go_sem] max2_int min2_int max_two min_two max_three min_three max_four min_four str_geq str_gtr str_leq   -- for this text's walks alone
set_option linter.unusedVariables false
set_option linter.unusedSimpArgs false

/-! ### cmp_Or_int: function 87 -/
def cmp_Or_int.l0 : Nat → Int → List Int → Int → Int → Option (Int)
 | 0, _, _, _, _ => none
 | k + 1, x3, x6, x7, x8 => if x8 < x7 then (if 0 ≤ x8 then (if x8 < (x6.length : Int) then (if (rd x6 x8) = x3 then (cmp_Or_int.l0 k x3 x6 x7 (wrap64 (x8 + 1))) else (some (rd x6 x8))) else (none)) else (none)) else (some x3)
def cmp_Or_int.f (k : Nat) (l0 : List Int) : Option (Int) := cmp_Or_int.l0 k 0 l0 (l0.length : Int) 0
theorem cmp_Or_int.mono_l : ∀ k, (∀ y0 y1 y2 y3, LeO (cmp_Or_int.l0 k y0 y1 y2 y3) (cmp_Or_int.l0 (k + 1) y0 y1 y2 y3))
 | 0 => fun _ _ _ _ r h => by simp [cmp_Or_int.l0] at h
 | k + 1 => by
  have ih0 := cmp_Or_int.mono_l k
  · intro y0 y1 y2 y3
    unfold cmp_Or_int.l0
    repeat' first
     | (with_reducible first | exact ih0 .. | exact LeO.refl _ | exact LeO.none _ | refine LeO.ite ?_ ?_ | refine LeO.bind ?_ (fun _ => ?_))
     | exact LeO.none _
     | refine LeO.ite ?_ ?_
     | refine LeO.bind ?_ (fun _ => ?_)
theorem cmp_Or_int.mono : ∀ a0 k, LeO (cmp_Or_int.f k a0) (cmp_Or_int.f (k + 1) a0) := by
 intro a0 k
 have ih0 := cmp_Or_int.mono_l k
 unfold cmp_Or_int.f
 repeat' first
  | (with_reducible first | exact ih0 .. | exact LeO.refl _ | exact LeO.none _ | refine LeO.ite ?_ ?_ | refine LeO.bind ?_ (fun _ => ?_))
  | exact LeO.none _
  | refine LeO.ite ?_ ?_
  | refine LeO.bind ?_ (fun _ => ?_)
set_option maxHeartbeats 8000000 in
set_option maxRecDepth 100000 in
theorem cmp_Or_int.calls (k : Nat) (A0 : Option Addr) (c0 : Nat) (l0 : List Int) (r : Int) (w : World) (hr0 : Kd.C (Kd.int .i64) w A0 l0.length l0) (hc0 : l0.length ≤ c0) (h : cmp_Or_int.f k l0 = some r) :
 Calls Try.prog 87 #[.slice A0 l0.length c0] w fun e w' => e = .returned (.int .i64 r) ∧ Drawn0 w w' := by
 have HR0 := aM hr0
 have HC0 := aM hc0
 clear hr0 hc0
 have H : (cmp_Or_int.l0 k 0 l0 (l0.length : Int) 0) = some r := h
 clear h
 have H' := aM H
 clear H
 go_enter Try.func87, Try.ntmps87
 go_wp2
 go_loopg [8] k (fun kq v8 w' => ∃ (x8_1 : Int), v8 = .int .i64 x8_1 ∧ Aside0 (cmp_Or_int.l0 kq 0 l0 (l0.length : Int) x8_1 = some r) ∧ Aside0 (kq ≤ k) ∧ Drawn0 w w')
 case atStart => exact ⟨(0), z4458, H', ⟨Nat.le_refl _⟩, za9de⟩
 case round =>
  clear H'
  obtain ⟨x8_1, rfl, HA, HK1, ⟨m1, rfl⟩⟩ := hrel
  cases gk with
  | zero => exact absurd HA.out (by simp [cmp_Or_int.l0])
  | succ k1 =>
   have H := HA.out
   clear HA
   simp only [cmp_Or_int.l0] at H
   by_cases c2 : x8_1 < (l0.length : Int)
   · rw [if_pos c2] at H
     have c2b0 : decide (x8_1 < (l0.length : Int)) = true := decide_eq_true c2
     clear c2
     replace H := ifS H; obtain ⟨c3, H⟩ := H
     have c3b0 : decide (0 ≤ x8_1) = true := decide_eq_true c3
     clear c3
     replace H := ifS H; obtain ⟨c4, H⟩ := H
     have c4b0 : decide (x8_1 < (l0.length : Int)) = true := decide_eq_true c4
     clear c4
     by_cases c5 : (rd l0 x8_1) = 0
     · rw [if_pos c5] at H
       have c5b0 : ((rd l0 x8_1) == 0) = true := beq_iff_eq.mpr c5
       have c5b1 : ((rd l0 x8_1) != 0) = false := bne_eq_false_iff_eq.mpr c5
       clear c5
       have H' := aM H
       clear H
       have p101 : 0 ≤ (x8_1 : Int) := of_decide_eq_true z1200
       have q101 : x8_1 < (l0.length : Int) := of_decide_eq_true z1200
       obtain ⟨ad101, e101, hx101_0⟩ := Kd.at_int HR0.out x8_1 p101 q101
       cases e101
       replace p101 := eq_true p101
       replace q101 := eq_true q101
       go_wp2
       go_roundg k1
       case measure => have := HK1.out; omega
       case rel => exact ⟨(wrap64 (x8_1 + 1)), z4458, H', ⟨zfb39⟩, za9de⟩
     · rw [if_neg c5] at H
       have c5b0 : ((rd l0 x8_1) == 0) = false := beq_eq_false_iff_ne.mpr c5
       have c5b1 : ((rd l0 x8_1) != 0) = true := bne_iff_ne.mpr c5
       obtain rfl := Option.some.inj H
       have p101 : 0 ≤ (x8_1 : Int) := of_decide_eq_true z1200
       have q101 : x8_1 < (l0.length : Int) := of_decide_eq_true z1200
       obtain ⟨ad101, e101, hx101_0⟩ := Kd.at_int HR0.out x8_1 p101 q101
       cases e101
       replace p101 := eq_true p101
       replace q101 := eq_true q101
       go_wp2
       go_ret
       exact ⟨z4458, za9de⟩
   · rw [if_neg c2] at H
     have c2b0 : decide (x8_1 < (l0.length : Int)) = false := decide_eq_false c2
     clear c2
     obtain rfl := Option.some.inj H
     go_wp2
     go_ret
     exact ⟨z4458, za9de⟩

end Go.Proofs.Ytdkokfnnebdppaa.P

-- written by a program of this session's (wip/pp)
namespace Go.Proofs.Ytdkokfnnebdppaa.P
open Go.RowKit Go.Proofs.YtdkokfnnebdppaaW.PrintWords Go.Proofs.YtdkokfnnebdppaaW.PrintLast Go.Proofs.YtdkokfnnebdppaaW.PrintMore
attribute [local go_sem] max2_int min2_int max_two min_two max_three min_three max_four min_four str_geq str_gtr str_leq   -- for this text's walks alone
set_option linter.unusedVariables false
set_option linter.unusedSimpArgs false

/-! ### cmp_isNaN_string: function 100 -/
def cmp_isNaN_string.f (a0 : ByteArray) : Option (Bool) := some (a0.toList != a0.toList)
set_option maxHeartbeats 8000000 in
set_option maxRecDepth 100000 in
theorem cmp_isNaN_string.calls (a0 : ByteArray) (r : Bool) (w : World) (h : cmp_isNaN_string.f a0 = some r) :
 Calls Try.prog 100 #[.string a0] w fun e w' => e = .returned (.bool r) ∧ Drawn0 w w' := by
 have H : (some (a0.toList != a0.toList)) = some r := h
 clear h
 obtain rfl := Option.some.inj H
 go_enter Try.func100, Try.ntmps100
 go_wp2
 go_ret
 exact ⟨z4458, za9de⟩

end Go.Proofs.Ytdkokfnnebdppaa.P

-- written by a program of this session's (wip/pp)
namespace Go.Proofs.Ytdkokfnnebdppaa.P
open Go.RowKit Go.Proofs.YtdkokfnnebdppaaW.PrintWords Go.Proofs.YtdkokfnnebdppaaW.PrintLast Go.Proofs.YtdkokfnnebdppaaW.PrintMore
attribute [local go_sem] max2_int min2_int max_two min_two max_three min_three max_four min_four str_geq str_gtr str_leq   -- for this text's walks alone
set_option linter.unusedVariables false
set_option linter.unusedSimpArgs false

/-! ### cmp_Compare_string: function 88 -/
def cmp_Compare_string.f (a0 : ByteArray) (a1 : ByteArray) : Option (Int) := (cmp_isNaN_string.f a0).bind fun t101 => ((cmp_isNaN_string.f a1).bind fun t102 => (if t101 = true then (if t102 = true then (some 0) else (some (-1))) else (if t102 = true then (some 1) else (if (Op.bytesLess a0.toList a1.toList) = true then (some (-1)) else (if (Op.bytesLess a1.toList a0.toList) = true then (some 1) else (some 0))))))
set_option maxHeartbeats 8000000 in
set_option maxRecDepth 100000 in
theorem cmp_Compare_string.calls (a0 : ByteArray) (a1 : ByteArray) (r : Int) (w : World) (h : cmp_Compare_string.f a0 a1 = some r) :
 Calls Try.prog 88 #[.string a0, .string a1] w fun e w' => e = .returned (.int .i64 r) ∧ Drawn0 w w' := by
 have H : ((cmp_isNaN_string.f a0).bind fun t101 => ((cmp_isNaN_string.f a1).bind fun t102 => (if t101 = true then (if t102 = true then (some 0) else (some (-1))) else (if t102 = true then (some 1) else (if (Op.bytesLess a0.toList a1.toList) = true then (some (-1)) else (if (Op.bytesLess a1.toList a0.toList) = true then (some 1) else (some 0))))))) = some r := h
 clear h
 replace H := Option.bind_eq_some_iff.mp H
 obtain ⟨t101, A30, H⟩ := H
 try dsimp only at H
 have A3 := aM A30
 clear A30
 replace H := Option.bind_eq_some_iff.mp H
 obtain ⟨t102, A40, H⟩ := H
 try dsimp only at H
 have A4 := aM A40
 clear A40
 by_cases c5 : t101 = true
 · subst c5
   rw [if_pos rfl] at H
   by_cases c6 : t102 = true
   · subst c6
     rw [if_pos rfl] at H
     obtain rfl := Option.some.inj H
     go_enter Try.func88, Try.ntmps88
     go_wp2_with (first | ((with_reducible refine gate_callee (f := 100) rfl ?_); refine goesL_ (some 8) rfl rfl Try.func100 (by kernel_rfl) rfl #[.string a0] rfl zee81 ?_; (with_reducible refine (cmp_isNaN_string.calls a0 true _ A3.out).mono ?_); rintro e w' ⟨rfl, ⟨nd, rfl⟩⟩; refine ⟨_, rfl, ?_⟩) | ((with_reducible refine gate_callee (f := 100) rfl ?_); refine goesL_ (some 10) rfl rfl Try.func100 (by kernel_rfl) rfl #[.string a1] rfl zee81 ?_; (with_reducible refine (cmp_isNaN_string.calls a1 true _ A4.out).mono ?_); rintro e w' ⟨rfl, ⟨nd, rfl⟩⟩; refine ⟨_, rfl, ?_⟩))
     go_ret
     exact ⟨z4458, za9de⟩
   · replace c6 := Bool.eq_false_iff.mpr c6
     subst c6
     rw [if_neg (show ¬ (false = true) by decide)] at H
     obtain rfl := Option.some.inj H
     go_enter Try.func88, Try.ntmps88
     go_wp2_with (first | ((with_reducible refine gate_callee (f := 100) rfl ?_); refine goesL_ (some 8) rfl rfl Try.func100 (by kernel_rfl) rfl #[.string a0] rfl zee81 ?_; (with_reducible refine (cmp_isNaN_string.calls a0 true _ A3.out).mono ?_); rintro e w' ⟨rfl, ⟨nd, rfl⟩⟩; refine ⟨_, rfl, ?_⟩) | ((with_reducible refine gate_callee (f := 100) rfl ?_); refine goesL_ (some 10) rfl rfl Try.func100 (by kernel_rfl) rfl #[.string a1] rfl zee81 ?_; (with_reducible refine (cmp_isNaN_string.calls a1 false _ A4.out).mono ?_); rintro e w' ⟨rfl, ⟨nd, rfl⟩⟩; refine ⟨_, rfl, ?_⟩))
     go_ret
     exact ⟨z4458, za9de⟩
 · replace c5 := Bool.eq_false_iff.mpr c5
   subst c5
   rw [if_neg (show ¬ (false = true) by decide)] at H
   by_cases c7 : t102 = true
   · subst c7
     rw [if_pos rfl] at H
     obtain rfl := Option.some.inj H
     go_enter Try.func88, Try.ntmps88
     go_wp2_with (first | ((with_reducible refine gate_callee (f := 100) rfl ?_); refine goesL_ (some 8) rfl rfl Try.func100 (by kernel_rfl) rfl #[.string a0] rfl zee81 ?_; (with_reducible refine (cmp_isNaN_string.calls a0 false _ A3.out).mono ?_); rintro e w' ⟨rfl, ⟨nd, rfl⟩⟩; refine ⟨_, rfl, ?_⟩) | ((with_reducible refine gate_callee (f := 100) rfl ?_); refine goesL_ (some 10) rfl rfl Try.func100 (by kernel_rfl) rfl #[.string a1] rfl zee81 ?_; (with_reducible refine (cmp_isNaN_string.calls a1 true _ A4.out).mono ?_); rintro e w' ⟨rfl, ⟨nd, rfl⟩⟩; refine ⟨_, rfl, ?_⟩))
     go_ret
     exact ⟨z4458, za9de⟩
   · replace c7 := Bool.eq_false_iff.mpr c7
     subst c7
     rw [if_neg (show ¬ (false = true) by decide)] at H
     by_cases c8 : (Op.bytesLess a0.toList a1.toList) = true
     · rw [if_pos c8] at H
       have c8b0 : (Op.bytesLess a0.toList a1.toList) = true := c8
       clear c8
       obtain rfl := Option.some.inj H
       go_enter Try.func88, Try.ntmps88
       go_wp2_with (first | ((with_reducible refine gate_callee (f := 100) rfl ?_); refine goesL_ (some 8) rfl rfl Try.func100 (by kernel_rfl) rfl #[.string a0] rfl zee81 ?_; (with_reducible refine (cmp_isNaN_string.calls a0 false _ A3.out).mono ?_); rintro e w' ⟨rfl, ⟨nd, rfl⟩⟩; refine ⟨_, rfl, ?_⟩) | ((with_reducible refine gate_callee (f := 100) rfl ?_); refine goesL_ (some 10) rfl rfl Try.func100 (by kernel_rfl) rfl #[.string a1] rfl zee81 ?_; (with_reducible refine (cmp_isNaN_string.calls a1 false _ A4.out).mono ?_); rintro e w' ⟨rfl, ⟨nd, rfl⟩⟩; refine ⟨_, rfl, ?_⟩))
       go_ret
       exact ⟨z4458, za9de⟩
     · rw [if_neg c8] at H
       have c8b0 : (Op.bytesLess a0.toList a1.toList) = false := by simpa using c8
       clear c8
       by_cases c9 : (Op.bytesLess a1.toList a0.toList) = true
       · rw [if_pos c9] at H
         have c9b0 : (Op.bytesLess a1.toList a0.toList) = true := c9
         clear c9
         obtain rfl := Option.some.inj H
         go_enter Try.func88, Try.ntmps88
         go_wp2_with (first | ((with_reducible refine gate_callee (f := 100) rfl ?_); refine goesL_ (some 8) rfl rfl Try.func100 (by kernel_rfl) rfl #[.string a0] rfl zee81 ?_; (with_reducible refine (cmp_isNaN_string.calls a0 false _ A3.out).mono ?_); rintro e w' ⟨rfl, ⟨nd, rfl⟩⟩; refine ⟨_, rfl, ?_⟩) | ((with_reducible refine gate_callee (f := 100) rfl ?_); refine goesL_ (some 10) rfl rfl Try.func100 (by kernel_rfl) rfl #[.string a1] rfl zee81 ?_; (with_reducible refine (cmp_isNaN_string.calls a1 false _ A4.out).mono ?_); rintro e w' ⟨rfl, ⟨nd, rfl⟩⟩; refine ⟨_, rfl, ?_⟩))
         go_ret
         exact ⟨z4458, za9de⟩
       · rw [if_neg c9] at H
         have c9b0 : (Op.bytesLess a1.toList a0.toList) = false := by simpa using c9
         clear c9
         obtain rfl := Option.some.inj H
         go_enter Try.func88, Try.ntmps88
         go_wp2_with (first | ((with_reducible refine gate_callee (f := 100) rfl ?_); refine goesL_ (some 8) rfl rfl Try.func100 (by kernel_rfl) rfl #[.string a0] rfl zee81 ?_; (with_reducible refine (cmp_isNaN_string.calls a0 false _ A3.out).mono ?_); rintro e w' ⟨rfl, ⟨nd, rfl⟩⟩; refine ⟨_, rfl, ?_⟩) | ((with_reducible refine gate_callee (f := 100) rfl ?_); refine goesL_ (some 10) rfl rfl Try.func100 (by kernel_rfl) rfl #[.string a1] rfl zee81 ?_; (with_reducible refine (cmp_isNaN_string.calls a1 false _ A4.out).mono ?_); rintro e w' ⟨rfl, ⟨nd, rfl⟩⟩; refine ⟨_, rfl, ?_⟩))
         go_ret
         exact ⟨z4458, za9de⟩

end Go.Proofs.Ytdkokfnnebdppaa.P

-- written by a program of this session's (wip/pp)
namespace Go.Proofs.Ytdkokfnnebdppaa.P
open Go.RowKit Go.Proofs.YtdkokfnnebdppaaW.PrintWords Go.Proofs.YtdkokfnnebdppaaW.PrintLast Go.Proofs.YtdkokfnnebdppaaW.PrintMore
attribute [local go_sem] max2_int min2_int max_two min_two max_three min_three max_four min_four str_geq str_gtr str_leq   -- for this text's walks alone
set_option linter.unusedVariables false
set_option linter.unusedSimpArgs false

/-! ### cmp_isNaN_int: function 101 -/
def cmp_isNaN_int.f (a0 : Int) : Option (Bool) := some (a0 != a0)
set_option maxHeartbeats 8000000 in
set_option maxRecDepth 100000 in
theorem cmp_isNaN_int.calls (a0 : Int) (r : Bool) (w : World) (h : cmp_isNaN_int.f a0 = some r) :
 Calls Try.prog 101 #[.int .i64 a0] w fun e w' => e = .returned (.bool r) ∧ Drawn0 w w' := by
 have H : (some (a0 != a0)) = some r := h
 clear h
 obtain rfl := Option.some.inj H
 go_enter Try.func101, Try.ntmps101
 go_wp2
 go_ret
 exact ⟨z4458, za9de⟩

end Go.Proofs.Ytdkokfnnebdppaa.P

-- written by a program of this session's (wip/pp)
namespace Go.Proofs.Ytdkokfnnebdppaa.P
open Go.RowKit Go.Proofs.YtdkokfnnebdppaaW.PrintWords Go.Proofs.YtdkokfnnebdppaaW.PrintLast Go.Proofs.YtdkokfnnebdppaaW.PrintMore
attribute [local go_sem] max2_int min2_int max_two min_two max_three min_three max_four min_four str_geq str_gtr str_leq   -- for this text's walks alone
set_option linter.unusedVariables false
set_option linter.unusedSimpArgs false

/-! ### cmp_Compare_int: function 89 -/
def cmp_Compare_int.f (a0 : Int) (a1 : Int) : Option (Int) := (cmp_isNaN_int.f a0).bind fun t101 => ((cmp_isNaN_int.f a1).bind fun t102 => (if t101 = true then (if t102 = true then (some 0) else (some (-1))) else (if t102 = true then (some 1) else (if a0 < a1 then (some (-1)) else (if a0 > a1 then (some 1) else (some 0))))))
set_option maxHeartbeats 8000000 in
set_option maxRecDepth 100000 in
theorem cmp_Compare_int.calls (a0 : Int) (a1 : Int) (r : Int) (w : World) (h : cmp_Compare_int.f a0 a1 = some r) :
 Calls Try.prog 89 #[.int .i64 a0, .int .i64 a1] w fun e w' => e = .returned (.int .i64 r) ∧ Drawn0 w w' := by
 have H : ((cmp_isNaN_int.f a0).bind fun t101 => ((cmp_isNaN_int.f a1).bind fun t102 => (if t101 = true then (if t102 = true then (some 0) else (some (-1))) else (if t102 = true then (some 1) else (if a0 < a1 then (some (-1)) else (if a0 > a1 then (some 1) else (some 0))))))) = some r := h
 clear h
 replace H := Option.bind_eq_some_iff.mp H
 obtain ⟨t101, A30, H⟩ := H
 try dsimp only at H
 have A3 := aM A30
 clear A30
 replace H := Option.bind_eq_some_iff.mp H
 obtain ⟨t102, A40, H⟩ := H
 try dsimp only at H
 have A4 := aM A40
 clear A40
 by_cases c5 : t101 = true
 · subst c5
   rw [if_pos rfl] at H
   by_cases c6 : t102 = true
   · subst c6
     rw [if_pos rfl] at H
     obtain rfl := Option.some.inj H
     go_enter Try.func89, Try.ntmps89
     go_wp2_with (first | ((with_reducible refine gate_callee (f := 101) rfl ?_); refine goesL_ (some 8) rfl rfl Try.func101 (by kernel_rfl) rfl #[.int .i64 a0] rfl zee81 ?_; (with_reducible refine (cmp_isNaN_int.calls a0 true _ A3.out).mono ?_); rintro e w' ⟨rfl, ⟨nd, rfl⟩⟩; refine ⟨_, rfl, ?_⟩) | ((with_reducible refine gate_callee (f := 101) rfl ?_); refine goesL_ (some 10) rfl rfl Try.func101 (by kernel_rfl) rfl #[.int .i64 a1] rfl zee81 ?_; (with_reducible refine (cmp_isNaN_int.calls a1 true _ A4.out).mono ?_); rintro e w' ⟨rfl, ⟨nd, rfl⟩⟩; refine ⟨_, rfl, ?_⟩))
     go_ret
     exact ⟨z4458, za9de⟩
   · replace c6 := Bool.eq_false_iff.mpr c6
     subst c6
     rw [if_neg (show ¬ (false = true) by decide)] at H
     obtain rfl := Option.some.inj H
     go_enter Try.func89, Try.ntmps89
     go_wp2_with (first | ((with_reducible refine gate_callee (f := 101) rfl ?_); refine goesL_ (some 8) rfl rfl Try.func101 (by kernel_rfl) rfl #[.int .i64 a0] rfl zee81 ?_; (with_reducible refine (cmp_isNaN_int.calls a0 true _ A3.out).mono ?_); rintro e w' ⟨rfl, ⟨nd, rfl⟩⟩; refine ⟨_, rfl, ?_⟩) | ((with_reducible refine gate_callee (f := 101) rfl ?_); refine goesL_ (some 10) rfl rfl Try.func101 (by kernel_rfl) rfl #[.int .i64 a1] rfl zee81 ?_; (with_reducible refine (cmp_isNaN_int.calls a1 false _ A4.out).mono ?_); rintro e w' ⟨rfl, ⟨nd, rfl⟩⟩; refine ⟨_, rfl, ?_⟩))
     go_ret
     exact ⟨z4458, za9de⟩
 · replace c5 := Bool.eq_false_iff.mpr c5
   subst c5
   rw [if_neg (show ¬ (false = true) by decide)] at H
   by_cases c7 : t102 = true
   · subst c7
     rw [if_pos rfl] at H
     obtain rfl := Option.some.inj H
     go_enter Try.func89, Try.ntmps89
     go_wp2_with (first | ((with_reducible refine gate_callee (f := 101) rfl ?_); refine goesL_ (some 8) rfl rfl Try.func101 (by kernel_rfl) rfl #[.int .i64 a0] rfl zee81 ?_; (with_reducible refine (cmp_isNaN_int.calls a0 false _ A3.out).mono ?_); rintro e w' ⟨rfl, ⟨nd, rfl⟩⟩; refine ⟨_, rfl, ?_⟩) | ((with_reducible refine gate_callee (f := 101) rfl ?_); refine goesL_ (some 10) rfl rfl Try.func101 (by kernel_rfl) rfl #[.int .i64 a1] rfl zee81 ?_; (with_reducible refine (cmp_isNaN_int.calls a1 true _ A4.out).mono ?_); rintro e w' ⟨rfl, ⟨nd, rfl⟩⟩; refine ⟨_, rfl, ?_⟩))
     go_ret
     exact ⟨z4458, za9de⟩
   · replace c7 := Bool.eq_false_iff.mpr c7
     subst c7
     rw [if_neg (show ¬ (false = true) by decide)] at H
     by_cases c8 : a0 < a1
     · rw [if_pos c8] at H
       have c8b0 : decide (a0 < a1) = true := decide_eq_true c8
       clear c8
       obtain rfl := Option.some.inj H
       go_enter Try.func89, Try.ntmps89
       go_wp2_with (first | ((with_reducible refine gate_callee (f := 101) rfl ?_); refine goesL_ (some 8) rfl rfl Try.func101 (by kernel_rfl) rfl #[.int .i64 a0] rfl zee81 ?_; (with_reducible refine (cmp_isNaN_int.calls a0 false _ A3.out).mono ?_); rintro e w' ⟨rfl, ⟨nd, rfl⟩⟩; refine ⟨_, rfl, ?_⟩) | ((with_reducible refine gate_callee (f := 101) rfl ?_); refine goesL_ (some 10) rfl rfl Try.func101 (by kernel_rfl) rfl #[.int .i64 a1] rfl zee81 ?_; (with_reducible refine (cmp_isNaN_int.calls a1 false _ A4.out).mono ?_); rintro e w' ⟨rfl, ⟨nd, rfl⟩⟩; refine ⟨_, rfl, ?_⟩))
       go_ret
       exact ⟨z4458, za9de⟩
     · rw [if_neg c8] at H
       have c8b0 : decide (a0 < a1) = false := decide_eq_false c8
       clear c8
       by_cases c9 : a0 > a1
       · rw [if_pos c9] at H
         have c9b0 : decide (a1 < a0) = true := decide_eq_true c9
         clear c9
         obtain rfl := Option.some.inj H
         go_enter Try.func89, Try.ntmps89
         go_wp2_with (first | ((with_reducible refine gate_callee (f := 101) rfl ?_); refine goesL_ (some 8) rfl rfl Try.func101 (by kernel_rfl) rfl #[.int .i64 a0] rfl zee81 ?_; (with_reducible refine (cmp_isNaN_int.calls a0 false _ A3.out).mono ?_); rintro e w' ⟨rfl, ⟨nd, rfl⟩⟩; refine ⟨_, rfl, ?_⟩) | ((with_reducible refine gate_callee (f := 101) rfl ?_); refine goesL_ (some 10) rfl rfl Try.func101 (by kernel_rfl) rfl #[.int .i64 a1] rfl zee81 ?_; (with_reducible refine (cmp_isNaN_int.calls a1 false _ A4.out).mono ?_); rintro e w' ⟨rfl, ⟨nd, rfl⟩⟩; refine ⟨_, rfl, ?_⟩))
         go_ret
         exact ⟨z4458, za9de⟩
       · rw [if_neg c9] at H
         have c9b0 : decide (a1 < a0) = false := decide_eq_false c9
         clear c9
         obtain rfl := Option.some.inj H
         go_enter Try.func89, Try.ntmps89
         go_wp2_with (first | ((with_reducible refine gate_callee (f := 101) rfl ?_); refine goesL_ (some 8) rfl rfl Try.func101 (by kernel_rfl) rfl #[.int .i64 a0] rfl zee81 ?_; (with_reducible refine (cmp_isNaN_int.calls a0 false _ A3.out).mono ?_); rintro e w' ⟨rfl, ⟨nd, rfl⟩⟩; refine ⟨_, rfl, ?_⟩) | ((with_reducible refine gate_callee (f := 101) rfl ?_); refine goesL_ (some 10) rfl rfl Try.func101 (by kernel_rfl) rfl #[.int .i64 a1] rfl zee81 ?_; (with_reducible refine (cmp_isNaN_int.calls a1 false _ A4.out).mono ?_); rintro e w' ⟨rfl, ⟨nd, rfl⟩⟩; refine ⟨_, rfl, ?_⟩))
         go_ret
         exact ⟨z4458, za9de⟩

end Go.Proofs.Ytdkokfnnebdppaa.P

-- written by a program of this session's (wip/pp)
namespace Go.Proofs.Ytdkokfnnebdppaa.P
open Go.RowKit Go.Proofs.YtdkokfnnebdppaaW.PrintWords Go.Proofs.YtdkokfnnebdppaaW.PrintLast Go.Proofs.YtdkokfnnebdppaaW.PrintMore
attribute [local go_sem] max2_int min2_int max_two min_two max_three min_three max_four min_four str_geq str_gtr str_leq   -- for this text's walks alone
set_option linter.unusedVariables false
set_option linter.unusedSimpArgs false

/-! ### impl_compareEntries: function 57 -/
def impl_compareEntries.f (k : Nat) (a0_0 : ByteArray) (a0_1 : Int) (a0_2 : Int) (a0_3 : Int) (a0_4 : Int) (a0_5 : Int) (a0_6 : Int) (l0_7 : List Int) (a0_8 : Bool) (a1_0 : ByteArray) (a1_1 : Int) (a1_2 : Int) (a1_3 : Int) (a1_4 : Int) (a1_5 : Int) (a1_6 : Int) (l1_7 : List Int) (a1_8 : Bool) : Option (Int) := (cmp_Compare_string.f a0_0 a1_0).bind fun t103 => ((cmp_Compare_int.f a1_1 a0_1).bind fun t104 => ((cmp_Or_int.f k (([t103, t104] : List Int))).bind fun t108 => (some t108)))
theorem impl_compareEntries.mono : ∀ a0 a1 a2 a3 a4 a5 a6 a7 a8 a9 a10 a11 a12 a13 a14 a15 a16 a17 k, LeO (impl_compareEntries.f k a0 a1 a2 a3 a4 a5 a6 a7 a8 a9 a10 a11 a12 a13 a14 a15 a16 a17) (impl_compareEntries.f (k + 1) a0 a1 a2 a3 a4 a5 a6 a7 a8 a9 a10 a11 a12 a13 a14 a15 a16 a17) := by
 intro a0 a1 a2 a3 a4 a5 a6 a7 a8 a9 a10 a11 a12 a13 a14 a15 a16 a17 k
 unfold impl_compareEntries.f
 repeat' first
  | (with_reducible first | exact cmp_Or_int.mono .. | exact LeO.refl _ | exact LeO.none _ | refine LeO.ite ?_ ?_ | refine LeO.bind ?_ (fun _ => ?_))
  | exact LeO.none _
  | refine LeO.ite ?_ ?_
  | refine LeO.bind ?_ (fun _ => ?_)
def impl_compareEntries.T1 : Bool × List (List Nat × List Nat) := (true, [([], []), ([0], [0]), ([], []), ([2], [2]), ([1, 3], [1, 3]), ([], []), ([5], [5]), ([], []), ([7], [7]), ([6, 8, 4], [6, 8]), ([4, 9], [4, 9]), ([10, 9], [10]), ([11, 11, 0, 1, 2, 3, 4, 5, 6, 7, 8, 9, 10, 11], [11])])
def impl_compareEntries.B1 : List Nat := [0, 1, 0, 4, 15, 0, 32, 0, 128, 511, 1023, 2047, 4095]
theorem impl_compareEntries.tab1 : rtab .any (opsOf Try.f57 1) = impl_compareEntries.T1 := by kernel_rfl
theorem impl_compareEntries.bits1 : waitsOk impl_compareEntries.T1.2 impl_compareEntries.B1 = true := by kernel_rfl
set_option maxHeartbeats 8000000 in
set_option maxRecDepth 100000 in
theorem impl_compareEntries.calls (k : Nat) (a0_0 : ByteArray) (a0_1 : Int) (a0_2 : Int) (a0_3 : Int) (a0_4 : Int) (a0_5 : Int) (a0_6 : Int) (A0_7 : Option Addr) (c0_7 : Nat) (l0_7 : List Int) (a0_8 : Bool) (a1_0 : ByteArray) (a1_1 : Int) (a1_2 : Int) (a1_3 : Int) (a1_4 : Int) (a1_5 : Int) (a1_6 : Int) (A1_7 : Option Addr) (c1_7 : Nat) (l1_7 : List Int) (a1_8 : Bool) (r : Int) (w : World) (hr0_7 : Kd.C (Kd.int .i64) w A0_7 l0_7.length l0_7) (hc0_7 : l0_7.length ≤ c0_7) (hr1_7 : Kd.C (Kd.int .i64) w A1_7 l1_7.length l1_7) (hc1_7 : l1_7.length ≤ c1_7) (h : impl_compareEntries.f k a0_0 a0_1 a0_2 a0_3 a0_4 a0_5 a0_6 l0_7 a0_8 a1_0 a1_1 a1_2 a1_3 a1_4 a1_5 a1_6 l1_7 a1_8 = some r) :
 Calls Try.prog 57 #[.agg #[.string a0_0, .int .i64 a0_1, .int .i64 a0_2, .int .i64 a0_3, .int .i64 a0_4, .int .i64 a0_5, .int .i64 a0_6, .slice A0_7 l0_7.length c0_7, .bool a0_8], .agg #[.string a1_0, .int .i64 a1_1, .int .i64 a1_2, .int .i64 a1_3, .int .i64 a1_4, .int .i64 a1_5, .int .i64 a1_6, .slice A1_7 l1_7.length c1_7, .bool a1_8]] w fun e w' => e = .returned (.int .i64 r) ∧ Below w.heap.size w w' := by
 have hu45 := Try.underlying45
 have HR0_7 := aM hr0_7
 have HC0_7 := aM hc0_7
 clear hr0_7 hc0_7
 have HR1_7 := aM hr1_7
 have HC1_7 := aM hc1_7
 clear hr1_7 hc1_7
 have HB := aM (Below.refl w.heap.size w)
 have H : ((cmp_Compare_string.f a0_0 a1_0).bind fun t103 => ((cmp_Compare_int.f a1_1 a0_1).bind fun t104 => ((cmp_Or_int.f k (([t103, t104] : List Int))).bind fun t108 => (some t108)))) = some r := h
 clear h
 replace H := Option.bind_eq_some_iff.mp H
 obtain ⟨t103, A30, H⟩ := H
 try dsimp only at H
 have A3 := aM A30
 clear A30
 replace H := Option.bind_eq_some_iff.mp H
 obtain ⟨t104, A40, H⟩ := H
 try dsimp only at H
 have A4 := aM A40
 clear A40
 obtain ⟨y105, hy105⟩ : ∃ y_ : List Int, y_ = (([t103, t104] : List Int)) := ⟨_, rfl⟩
 first | (replace H := bindS H; rw [← hy105] at H; try dsimp only at H) | rw [← hy105] at H
 have Ny105 := aM hy105
 clear hy105
 replace H := Option.bind_eq_some_iff.mp H
 obtain ⟨t108, A50, H⟩ := H
 try dsimp only at H
 have A5 := aM A50
 clear A50
 obtain rfl := Option.some.inj H
 go_enter Try.func57, Try.ntmps57
 try go_wp2_with (first | ((with_reducible refine gate_dst (N := 2) rfl ?_); refine box_event ?hg (N := 2) ?hd (cs := #[.string a0_0, .int .i64 a0_1, .int .i64 a0_2, .int .i64 a0_3, .int .i64 a0_4, .int .i64 a0_5, .int .i64 a0_6, .slice A0_7 l0_7.length c0_7, .bool a0_8]) (t := 45) ?hr ?_; (case hd => rfl); (case hg => rfl); (case hr => first | (go_simp; done) | (go_simp; rfl)); intro gb101 hg w6 hbox hb; have _ := aM (below_step hbZ hb); have _ := aM hbox; have _ := szZ hg; have _ := szZ hg; clear HB; rename_i HB BK101 GW101 GE101; clear hb hbox hg) | ((with_reducible refine gate_dst (N := 3) rfl ?_); refine box_event ?hg (N := 3) ?hd (cs := #[.string a1_0, .int .i64 a1_1, .int .i64 a1_2, .int .i64 a1_3, .int .i64 a1_4, .int .i64 a1_5, .int .i64 a1_6, .slice A1_7 l1_7.length c1_7, .bool a1_8]) (t := 45) ?hr ?_; (case hd => rfl); (case hg => rfl); (case hr => first | (go_simp; done) | (go_simp; rfl)); intro gb102 hg w7 hbox hb; have _ := bB gb101 hb; have _ := aM (below_step hbZ hb); have _ := aM hbox; have _ := szZ hg; have _ := szZ hg; have ⟨_, _⟩ := nbB gb101 hg; clear BK101 HB; rename_i BK101 HB BK102 GW102 GE102 NB101_102 NB102_101; clear hb hbox hg))
 have _ := aM (blk_drew BK101.out)
 have _ := aM (blk_drew BK102.out)
 have _ := aM (below_drew1 HB.out)
 clear BK101
 clear BK102
 clear HB
 rename_i BK101 BK102 HB
 refine sA 13 impl_compareEntries.tab1 impl_compareEntries.bits1 (fun w' => w'.cell? ⟨gb101, 0, none⟩ = some (.string a0_0) ∧ w'.cell? ⟨gb101, 1, none⟩ = some (.int .i64 a0_1) ∧ w'.cell? ⟨gb101, 2, none⟩ = some (.int .i64 a0_2) ∧ w'.cell? ⟨gb101, 3, none⟩ = some (.int .i64 a0_3) ∧ w'.cell? ⟨gb101, 4, none⟩ = some (.int .i64 a0_4) ∧ w'.cell? ⟨gb101, 5, none⟩ = some (.int .i64 a0_5) ∧ w'.cell? ⟨gb101, 6, none⟩ = some (.int .i64 a0_6) ∧ w'.cell? ⟨gb101, 7, none⟩ = some (.slice A0_7 l0_7.length c0_7) ∧ w'.cell? ⟨gb101, 8, none⟩ = some (.bool a0_8) ∧ w'.cell? ⟨gb102, 0, none⟩ = some (.string a1_0) ∧ w'.cell? ⟨gb102, 1, none⟩ = some (.int .i64 a1_1) ∧ w'.cell? ⟨gb102, 2, none⟩ = some (.int .i64 a1_2) ∧ w'.cell? ⟨gb102, 3, none⟩ = some (.int .i64 a1_3) ∧ w'.cell? ⟨gb102, 4, none⟩ = some (.int .i64 a1_4) ∧ w'.cell? ⟨gb102, 5, none⟩ = some (.int .i64 a1_5) ∧ w'.cell? ⟨gb102, 6, none⟩ = some (.int .i64 a1_6) ∧ w'.cell? ⟨gb102, 7, none⟩ = some (.slice A1_7 l1_7.length c1_7) ∧ w'.cell? ⟨gb102, 8, none⟩ = some (.bool a1_8)) [] (fun hHeld HT_ HW_ => ?_)
 generalize w7.drew = w8 at BK101 BK102 HB hHeld ⊢
 refine pA 0 5 HT_ ?_; refine pA 2 7 HT_ ?_; refine pA 5 10 HT_ ?_; refine pA 7 12 HT_ ?_; refine tA 1 6 HT_ HW_ hHeld ?_; refine tA 3 8 HT_ HW_ hHeld ?_; refine tA 6 11 HT_ HW_ hHeld ?_; refine tA 8 13 HT_ HW_ hHeld ?_; refine oA 4 9 HT_ (fun K hK => ?_)
 refine goes_ Try.func88 (by kernel_rfl) rfl #[.string a0_0, .string a1_0] (by rfl) rfl rfl zee81 ?_
 with_reducible refine (cmp_Compare_string.calls a0_0 a1_0 t103 _ A3.out).mono ?_
 rintro e w' ⟨rfl, ⟨nd, rfl⟩⟩
 refine ⟨_, rfl, ?_⟩
 refine hK.out _ _ sZ (fun hHeld => ?_)
 clear hK K
 refine nA 9 ?_; refine oA 9 14 HT_ (fun K hK => ?_)
 refine goes_ Try.func89 (by kernel_rfl) rfl #[.int .i64 a1_1, .int .i64 a0_1] (by rfl) rfl rfl zee81 ?_
 with_reducible refine (cmp_Compare_int.calls a1_1 a0_1 t104 _ A4.out).mono ?_
 rintro e w' ⟨rfl, ⟨nd, rfl⟩⟩
 refine ⟨_, rfl, ?_⟩
 refine hK.out _ _ sZ (fun hHeld => ?_)
 clear hK K
 refine nA 14 ?_; refine oA 10 15 HT_ (fun K hK => ?_)
 refine Kd.R_lit_step (Kd.int .i64) _ 3 ?hg (N := 15) ?hd (xs := ([t103, t104] : List Int)) (inner := [.int .i64 t103, .int .i64 t104]) (ok := fun _ => True) (okp := fun _ => True) ?hr ?hp (fun _ hk => hk) trivial (Below.refl _ _) (Nat.le_refl _) (by simp) ?_; (case hd => rfl); (case hg => rfl); (case hr => first | (go_simp; done) | (go_simp; rfl)); (case hp => exact (Reps.one (show Kd.M (Kd.int .i64) _ _ _ t103 [.int .i64 t103] from rfl) (Reps.one (show Kd.M (Kd.int .i64) _ _ _ t104 [.int .i64 t104] from rfl) (Reps.none _ _))))
 intro v106 w9 ho10 hb hg_ hnew_
 clear hg_ hnew_
 (first | rw [← Ny105.out] at ho10 | (simp only [Int.reduceToNat] at ho10; rw [← Ny105.out] at ho10))
 have _ := aM (Kd.R_lower ho10 (below_size hbZ))
 have _ := bB gb101 hb
 have _ := bB gb102 hb
 have _ := aM (below_step hbZ hb)
 clear BK101
 clear BK102
 clear HB
 rename_i HO107 BK101 BK102 HB
 clear hb ho10
 obtain ⟨Ao11, co11, eo11⟩ := Kd.R_slice HO107.out
 (first | subst eo11 | (injection eo11 with f1_ f2_ f3_; have f4_ := f1_.symm; have f5_ := f3_.symm; clear f1_ f2_ f3_; subst f4_; subst f5_))
 refine hK.out _ _ sZ (fun hHeld => ?_)
 clear hK K
 refine nA 15 ?_; refine oA 11 16 HT_ (fun K hK => ?_)
 refine goes_ Try.func87 (by kernel_rfl) rfl #[.slice Ao11 y105.length co11] (by rfl) rfl rfl zee81 ?_
 with_reducible refine (cmp_Or_int.calls k _ _ y105 t108 _ ?side1 ?side2 A5.out).mono ?_
 (case side1 => exact (by repeat (first | exact (Kd.R_reads' HO107.out).2.2 | (with_reducible refine Kd.C_alloc ?_ _) | (with_reducible refine Kd.C_drewN ?_ _) | (with_reducible refine Kd.C_drew ?_))))
 (case side2 => exact (Kd.R_reads' HO107.out).2.1)
 rintro e w' ⟨rfl, ⟨nd, rfl⟩⟩
 refine ⟨_, rfl, ?_⟩
 refine hK.out _ _ sZ (fun hHeld => ?_)
 clear hK K
 refine nA 16 ?_; refine pA 12 4 HT_ ?_
 refine done_ (done_of HT_.out (by kernel_rfl)) ?_
 try go_wp2
 go_ret
 exact ⟨z674d, zcb41⟩

end Go.Proofs.Ytdkokfnnebdppaa.P

/-
  DERIVED: THE SHELF's CONTRACTS AT THIS DUMP, IN PLAIN WORDS (tools/lay-plain.mjs out of 'TryShelf.lean', which tools/lay-shelf.mjs wrote): THE SAME DECLARATIONS UNDER THE SAME NAMES: 'import', 'namespace', 'open', 'def', 'theorem' AND NOTHING ELSE: no command of the shelf's: FOR A HAND-IN. Each laying: the table of numbers ('.._ren') and one theorem, a field a fact of the dump's own or the kernel's comparison; each contract: ONE APPLICATION.
-/
namespace Go.Proofs
open Go.Shelf
def Try.lays215_ren : Go.Shelf.Ren := ⟨fun | 215 => 101 | n => n, fun | 3 => 3 | 4 => 4 | n => n, fun | n => n⟩
theorem Try.lays215 : Go.Proofs.Lays.n215 Try.prog Try.lays215_ren := {
  mixed := by kernel_rfl
  f215 := Try.func101.trans (congrArg some (by kernel_rfl))
  t3 := Try.underlying3
  a3 := Try.isAgg3
  z3 := Try.sizeOf3
  v3 := Try.zeroValue3
  t4 := Try.underlying4
  a4 := Try.isAgg4
  z4 := Try.sizeOf4
  v4 := Try.zeroValue4 }
open Go.RowKit in
/-- cmp.isNaN at int: 'x != x': false. (LAID: no walk: one application.) -/
theorem Try.cmp_isNaN_int (x : Int) (w : World) :
    Calls Try.prog 101 #[.int .i64 x] w fun e w' => e = .returned (.bool false) ∧ w' = w := Any.cmp_isNaN_int Try.lays215 x w
def Try.lays122_ren : Go.Shelf.Ren := ⟨fun | 122 => 89 | 215 => 101 | n => n, fun | 3 => 3 | 4 => 4 | n => n, fun | n => n⟩
theorem Try.lays122 : Go.Proofs.Lays.n122 Try.prog Try.lays122_ren := {
  mixed := by kernel_rfl
  f122 := Try.func89.trans (congrArg some (by kernel_rfl))
  f215 := Try.func101.trans (congrArg some (by kernel_rfl))
  t3 := Try.underlying3
  a3 := Try.isAgg3
  z3 := Try.sizeOf3
  v3 := Try.zeroValue3
  t4 := Try.underlying4
  a4 := Try.isAgg4
  z4 := Try.sizeOf4
  v4 := Try.zeroValue4 }
open Go.RowKit in
/-- cmp.Compare at int: "Compare returns -1 if x is less than y, 0 if x equals y, +1 if x is greater than y.": IT RETURNS 'Lib.compareInt x y'; the world is as it was. (LAID: no walk: one application.) -/
theorem Try.cmp_Compare_int (x y : Int) (w : World) :
    Calls Try.prog 89 #[.int .i64 x, .int .i64 y] w fun e w' => e = .returned (.int .i64 (Lib.compareInt x y)) ∧ w' = w := Any.cmp_Compare_int Try.lays122 x y w
def Try.lays189_ren : Go.Shelf.Ren := ⟨fun | 189 => 58 | 125 => 91 | 257 => 90 | 128 => 111 | 129 => 112 | 294 => 102 | 295 => 103 | 296 => 104 | 297 => 105 | 298 => 106 | 299 => 107 | 216 => 108 | 300 => 109 | 301 => 110 | 328 => 115 | 329 => 116 | 330 => 117 | 331 => 118 | 332 => 119 | 215 => 101 | 343 => 121 | n => n, fun | 28 => 24 | 3 => 3 | 46 => 105 | 0 => 0 | 51 => 117 | 53 => 74 | 4 => 4 | 183 => 110 | 182 => 109 | 131 => 95 | 5 => 5 | 9 => 9 | 218 => 119 | 222 => 123 | 228 => 126 | 229 => 127 | n => n, fun | n => n⟩
theorem Try.lays189 : Go.Proofs.Lays.n189 Try.prog Try.lays189_ren := {
  mixed := by kernel_rfl
  f125 := Try.func91.trans (congrArg some (by kernel_rfl))
  f128 := Try.func111.trans (congrArg some (by kernel_rfl))
  f129 := Try.func112.trans (congrArg some (by kernel_rfl))
  f189 := Try.func58.trans (congrArg some (by kernel_rfl))
  f215 := Try.func101.trans (congrArg some (by kernel_rfl))
  f216 := Try.func108.trans (congrArg some (by kernel_rfl))
  f257 := Try.func90.trans (congrArg some (by kernel_rfl))
  f294 := Try.func102.trans (congrArg some (by kernel_rfl))
  f295 := Try.func103.trans (congrArg some (by kernel_rfl))
  f296 := Try.func104.trans (congrArg some (by kernel_rfl))
  f297 := Try.func105.trans (congrArg some (by kernel_rfl))
  f298 := Try.func106.trans (congrArg some (by kernel_rfl))
  f299 := Try.func107.trans (congrArg some (by kernel_rfl))
  f300 := Try.func109.trans (congrArg some (by kernel_rfl))
  f301 := Try.func110.trans (congrArg some (by kernel_rfl))
  f328 := Try.func115.trans (congrArg some (by kernel_rfl))
  f329 := Try.func116.trans (congrArg some (by kernel_rfl))
  f330 := Try.func117.trans (congrArg some (by kernel_rfl))
  f331 := Try.func118.trans (congrArg some (by kernel_rfl))
  f332 := Try.func119.trans (congrArg some (by kernel_rfl))
  f343 := Try.func121.trans (congrArg some (by kernel_rfl))
  t0 := Try.underlying0
  a0 := Try.isAgg0
  z0 := Try.sizeOf0
  v0 := Try.zeroValue0
  t3 := Try.underlying3
  a3 := Try.isAgg3
  z3 := Try.sizeOf3
  v3 := Try.zeroValue3
  t4 := Try.underlying4
  a4 := Try.isAgg4
  z4 := Try.sizeOf4
  v4 := Try.zeroValue4
  t5 := Try.underlying5
  a5 := Try.isAgg5
  z5 := Try.sizeOf5
  v5 := Try.zeroValue5
  t9 := Try.underlying9
  a9 := Try.isAgg9
  z9 := Try.sizeOf9
  v9 := Try.zeroValue9
  t28 := Try.underlying24
  a28 := Try.isAgg24
  z28 := Try.sizeOf24
  v28 := Try.zeroValue24
  t46 := Try.underlying105
  a46 := Try.isAgg105
  z46 := Try.sizeOf105
  v46 := Try.zeroValue105
  t51 := Try.underlying117
  a51 := Try.isAgg117
  z51 := Try.sizeOf117
  v51 := Try.zeroValue117
  t53 := Try.underlying74
  a53 := Try.isAgg74
  z53 := Try.sizeOf74
  v53 := Try.zeroValue74
  t131 := Try.underlying95
  a131 := Try.isAgg95
  z131 := Try.sizeOf95
  v131 := Try.zeroValue95
  t182 := Try.underlying109
  a182 := Try.isAgg109
  z182 := Try.sizeOf109
  v182 := Try.zeroValue109
  t183 := Try.underlying110
  a183 := Try.isAgg110
  z183 := Try.sizeOf110
  v183 := Try.zeroValue110
  t218 := Try.underlying119
  a218 := Try.isAgg119
  z218 := Try.sizeOf119
  v218 := Try.zeroValue119
  t222 := Try.underlying123
  a222 := Try.isAgg123
  z222 := Try.sizeOf123
  v222 := Try.zeroValue123
  t228 := Try.underlying126
  a228 := Try.isAgg126
  z228 := Try.sizeOf126
  v228 := Try.zeroValue126
  t229 := Try.underlying127
  a229 := Try.isAgg127
  z229 := Try.sizeOf127
  v229 := Try.zeroValue127 }
open Go.Sort Go.RowKit in
theorem Try.slices_Sort_int (blk off cap : Nat) (zs : List Int) (w : World) (hH : Holds (Value.int .i64) w blk off zs.toArray) (hblk : blk < w.heap.size) (hsz : zs.length < 4611686018427387904) :
    Calls Try.prog 58 #[.slice (some ⟨blk, off, none⟩) zs.length cap] w fun e w' =>
      e = .returned (.tuple #[]) ∧ ∃ n os, w' = grow (putRow (Value.int .i64) (Sort.ahead w n) blk off (zs.mergeSort fun x y => decide (x ≤ y)).toArray) os := Any.slices_Sort_int Try.lays189 blk off cap zs w hH hblk hsz
def Try.laysNm220_ren : Go.Shelf.Ren := ⟨fun | 20 => 59 | n => n, fun | 22 => 24 | 3 => 3 | 4 => 4 | 0 => 0 | n => n, fun | n => n⟩
theorem Try.laysNm220 : Go.Proofs.Lays2.n20 Try.prog Try.laysNm220_ren := {
  mixed := by kernel_rfl
  f20 := Try.func59.trans (congrArg some (by kernel_rfl))
  t0 := Try.underlying0
  a0 := Try.isAgg0
  z0 := Try.sizeOf0
  v0 := Try.zeroValue0
  t3 := Try.underlying3
  a3 := Try.isAgg3
  z3 := Try.sizeOf3
  v3 := Try.zeroValue3
  t4 := Try.underlying4
  a4 := Try.isAgg4
  z4 := Try.sizeOf4
  v4 := Try.zeroValue4
  t22 := Try.underlying24
  a22 := Try.isAgg24
  z22 := Try.sizeOf24
  v22 := Try.zeroValue24
  i3 := by kernel_rfl }
open Go.RowKit Go.Lib Go.Sort in
/-- slices.Compact at []int: "Compact replaces consecutive runs of equal elements with a single copy. This is like the uniq command found on Unix. Compact modifies the contents of the slice s and returns the modified slice, which may have a smaller length. Compact zeroes the elements between the new length and the original length. The result preserves the nilness of s.": IT RETURNS THE SLICE CUT TO 'Lib.compact zs'; ITS CELLS HOLD 'Lib.compact zs', THEN ZERO VALUES up to the old length; all else is as it was, but for the count of draws. IN THE WORDS OF slices.Sort's CONTRACT ('Holds', 'putRow'): so the everyday 'slices.Sort(xs); xs = slices.Compact(xs)' goes from the one contract to the other. It asks 'zs.length ≤ cap' (every slice's: the reslicing 's[:k]' looks at it). Length 0, nil: '.._empty'. (LAID: no walk: one application.) -/
theorem Try.slices_Compact_int (blk off cap : Nat) (zs : List Int) (w : World) (hH : Holds (Value.int .i64) w blk off zs.toArray) (hsz : zs.length ≤ 9223372036854775807) (hcap : zs.length ≤ cap) :
    Calls Try.prog 59 #[.slice (some ⟨blk, off, none⟩) zs.length cap] w fun e w' => e = .returned (.slice (some ⟨blk, off, none⟩) (Lib.compact zs).length cap) ∧ ∃ q, w' = putRow (Value.int .i64) (Sort.ahead w q) blk off (Lib.compact zs ++ List.replicate (zs.length - (Lib.compact zs).length) 0).toArray := Any.slices_Compact_int Try.laysNm220 blk off cap zs w hH hsz hcap
open Go.RowKit Go.Lib Go.Sort in
/-- The same at a slice of length 0, a nil one too: it comes back as it is. (LAID: no walk: one application.) -/
theorem Try.slices_Compact_int_empty (a : Option Addr) (cap : Nat) (w : World) :
    Calls Try.prog 59 #[.slice a 0 cap] w fun e w' => e = .returned (.slice a 0 cap) ∧ w' = w := Any.slices_Compact_int_empty Try.laysNm220 a cap w
open Go.RowKit Go.Sort in
/-- .. and plain. (LAID: no walk: one application.) -/
theorem Try.slices_Sort_int_none (p : Option Addr) (cap : Nat) (w : World) :
    Calls Try.prog 58 #[.slice p 0 cap] w fun e w' => e = .returned (.tuple #[]) ∧ w' = w := Any.slices_Sort_int_none Try.lays189 p cap w
end Go.Proofs

-- written by a program of this session's (wip/pp)
namespace Go.Proofs.Ytdkokfnnebdppaa.P
open Go.RowKit Go.Proofs.YtdkokfnnebdppaaW.PrintWords Go.Proofs.YtdkokfnnebdppaaW.PrintLast Go.Proofs.YtdkokfnnebdppaaW.PrintMore
attribute [local go_sem] max2_int min2_int max_two min_two max_three min_three max_four min_four str_geq str_gtr str_leq   -- for this text's walks alone
set_option linter.unusedVariables false
set_option linter.unusedSimpArgs false

/-! ### slices_Sort_int_int: function 58 -/
def slices_Sort_int_int.f (l0 : List Int) : Option (List Int) := if l0.length < 4611686018427387904 then some (l0.mergeSort fun x y => decide (x ≤ y)) else none
theorem slices_Sort_int_int.calls (P0_ : Nat → Prop) (u9000_ : Value) (l0 : List Int) (r : List Int) (w0 w : World) (hB : Below w0.heap.size w0 w) (ho0 : Kd.R (Kd.int .i64) 3 w w0.heap.size P0_ u9000_ l0) (h : slices_Sort_int_int.f l0 = some r) :
 Calls Try.prog 58 #[u9000_] w fun e w' => e = .returned (.tuple #[]) ∧ Kd.R (Kd.int .i64) 3 w' w0.heap.size (fun k_ => (P0_ k_ ∨ w.heap.size ≤ k_)) u9000_ r ∧ Below w0.heap.size w0 w' ∧ Kept w w' (fun k_ => P0_ k_) := by
 unfold slices_Sort_int_int.f at h
 split at h
 · rename_i hlen
   obtain rfl := Option.some.inj h
   have ho : w.ownsRow w0.heap.size 3 1 u9000_ l0.length (l0.map (Value.int .i64)) := Kd.own_of_R ho0
   by_cases h0 : l0 = []
   · subst h0
     obtain ⟨A, c, rfl⟩ := Kd.R_slice ho0
     refine (Try.slices_Sort_int_none A c w).mono ?_
     rintro e w' ⟨rfl, rfl⟩
     rw [List.mergeSort_nil]
     exact ⟨rfl, Kd.R_mono ho0 (fun k hk => .inl hk), hB, Kept.refl _ _⟩
   · skip
     have hne : u9000_ ≠ .slice none 0 0 := by
      rintro rfl
      rcases ho.2 with ⟨_, hn⟩ | ⟨_, _, _, hv, _⟩
      · exact h0 (List.length_eq_zero_iff.1 hn)
      · cases hv
     obtain ⟨g', cap', e1, _, hlt, _, _, _, hH⟩ := Go.Lib.holds_of_ownsRow ho hne
     rcases ho.2 with ⟨hv, _⟩ | ⟨g, cap, cur, rfl, hbase, hgc, hn, hm, hs, ht⟩
     · exact absurd hv hne
     · obtain ⟨rfl, rfl⟩ : g = g' ∧ cap = cap' := by simpa using e1
       refine (Try.slices_Sort_int g 0 cap l0 w hH hlt hlen).mono ?_
       rintro e w' ⟨rfl, n, os, rfl⟩
       have hg := grownBy_sortedI (w := w) (g := g) (n := n) (os := os) (l0.mergeSort fun x y => decide (x ≤ y)).toArray
       have hl : (l0.mergeSort fun x y => decide (x ≤ y)).length = l0.length := List.length_mergeSort ..
       have hR := ownsRow_sortedI (n := n) (os := os) hl hbase hgc hn hm hs
       refine ⟨rfl, Kd.R_of_own (h1 := fun _ => rfl) ?_ (fun k hk => .inl (ho0.1 k hk)), hB.grown hg hB.size (fun k hk => by injection hk with hk; omega), ⟨hg.size, fun i hi hn => hg.block i hi (fun e => hn (ho0.1 i (by injection e with e; rw [e]; rfl)))⟩⟩
       rw [hl]
       exact hR
 · cases h

end Go.Proofs.Ytdkokfnnebdppaa.P

-- written by a program of this session's (wip/pp)
namespace Go.Proofs.Ytdkokfnnebdppaa.P
open Go.RowKit Go.Proofs.YtdkokfnnebdppaaW.PrintWords Go.Proofs.YtdkokfnnebdppaaW.PrintLast Go.Proofs.YtdkokfnnebdppaaW.PrintMore
attribute [local go_sem] max2_int min2_int max_two min_two max_three min_three max_four min_four str_geq str_gtr str_leq   -- for this text's walks alone
set_option linter.unusedVariables false
set_option linter.unusedSimpArgs false

/-! ### slices_Compact_int_int: function 59 -/
def slices_Compact_int_int.f (l0 : List Int) : Option (List Int) := if l0.length ≤ 9223372036854775807 then some (Go.Lib.compact l0) else none
theorem slices_Compact_int_int.calls (P0_ : Nat → Prop) (u9000_ : Value) (l0 : List Int) (r : List Int) (w0 w : World) (hB : Below w0.heap.size w0 w) (ho0 : Kd.R (Kd.int .i64) 3 w w0.heap.size P0_ u9000_ l0) (h : slices_Compact_int_int.f l0 = some r) :
 Calls Try.prog 59 #[u9000_] w fun e w' => ∃ v0_ : Value, e = .returned (v0_) ∧ Kd.R (Kd.int .i64) 3 w' w0.heap.size (fun k_ => (P0_ k_ ∨ w.heap.size ≤ k_)) v0_ r ∧ Below w0.heap.size w0 w' ∧ Kept w w' (fun k_ => P0_ k_) := by
 unfold slices_Compact_int_int.f at h
 split at h
 · rename_i hlen
   obtain rfl := Option.some.inj h
   have ho : w.ownsRow w0.heap.size 3 1 u9000_ l0.length (l0.map (Value.int .i64)) := Kd.own_of_R ho0
   by_cases h0 : l0 = []
   · subst h0
     obtain ⟨A, c, rfl⟩ := Kd.R_slice ho0
     refine (Try.slices_Compact_int_empty A c w).mono ?_
     rintro e w' ⟨rfl, rfl⟩
     exact ⟨_, rfl, Kd.R_mono ho0 (fun k hk => .inl hk), hB, Kept.refl _ _⟩
   · skip
     have hne : u9000_ ≠ .slice none 0 0 := by
      rintro rfl
      rcases ho.2 with ⟨_, hn⟩ | ⟨_, _, _, hv, _⟩
      · exact h0 (List.length_eq_zero_iff.1 hn)
      · cases hv
     obtain ⟨g, cap, rfl, hbase, hlt, hn, hm, _, hH⟩ := Go.Lib.holds_of_ownsRow ho hne
     refine (Try.slices_Compact_int g 0 cap l0 w hH hlen hn).mono ?_
     rintro e w' ⟨rfl, q, rfl⟩
     have hle : (Go.Lib.compact l0).length ≤ l0.length := Go.Lib.compact_length_le l0
     have hy : (Go.Lib.compact l0 ++ List.replicate (l0.length - (Go.Lib.compact l0).length) 0).length = l0.length := by rw [List.length_append, List.length_replicate]; omega
     have hR := Go.Lib.ownsRow_putRow (q := q) ho hy hle
     rw [List.take_left] at hR
     have hg' : w.grownBy (Go.Sort.putRow (Value.int .i64) (Go.Sort.ahead w q) g 0 (Go.Lib.compact l0 ++ List.replicate (l0.length - (Go.Lib.compact l0).length) 0).toArray) (some g) := by
      refine ⟨rfl, rfl, rfl, by simp, fun k hk hne => ?_⟩
      have : g ≠ k := fun e => hne (by rw [e])
      simp [Go.Sort.putRow, Go.Sort.mapBlock, Go.Sort.ahead, Array.getElem?_modify, this]
     exact ⟨_, rfl, Kd.R_of_own (h1 := fun _ => rfl) hR (fun k hk => .inl (ho0.1 k (by simpa [Value.ownBlock] using hk))), hB.grown hg' hB.size (fun k hk => by injection hk with hk; omega), ⟨hg'.size, fun i hi hn => hg'.block i hi (fun e => hn (ho0.1 i (by injection e with e; rw [e]; rfl)))⟩⟩
 · cases h

end Go.Proofs.Ytdkokfnnebdppaa.P

-- written by a program of this session's (wip/pp)
namespace Go.Proofs.Ytdkokfnnebdppaa.P
open Go.RowKit Go.Proofs.YtdkokfnnebdppaaW.PrintWords Go.Proofs.YtdkokfnnebdppaaW.PrintLast Go.Proofs.YtdkokfnnebdppaaW.PrintMore
attribute [local go_sem] max2_int min2_int max_two min_two max_three min_three max_four min_four str_geq str_gtr str_leq   -- for this text's walks alone
set_option linter.unusedVariables false
set_option linter.unusedSimpArgs false

/-! ### impl_GoodEntries: function 28 -/
def impl_GoodEntries.l0 : Nat → List (S45) → List Int → List (S45) → Int → Int → Option (Bool)
 | 0, _, _, _, _, _ => none
 | k + 1, x0, x3, x7, x8, x9 => if x9 < x8 then (if 0 ≤ x9 then (if x9 < (x7.length : Int) then ((impl_GoodEntry.f k ((rd_T45 x7 x9).f0) ((rd_T45 x7 x9).f1) ((rd_T45 x7 x9).f2) ((rd_T45 x7 x9).f3.f0) ((rd_T45 x7 x9).f3.f1) ((rd_T45 x7 x9).f3.f2) ((rd_T45 x7 x9).f3.f3) ((rd_T45 x7 x9).f3.f4) ((rd_T45 x7 x9).f3.f5)).bind fun t110 => (if t110 = true then (if x9 > 0 then (if 0 ≤ (wrap64 (x9 - 1)) then (if (wrap64 (x9 - 1)) < (x0.length : Int) then ((impl_compareEntries.f k ((rd_T45 x0 (wrap64 (x9 - 1))).f0) ((rd_T45 x0 (wrap64 (x9 - 1))).f1) ((rd_T45 x0 (wrap64 (x9 - 1))).f2) ((rd_T45 x0 (wrap64 (x9 - 1))).f3.f0) ((rd_T45 x0 (wrap64 (x9 - 1))).f3.f1) ((rd_T45 x0 (wrap64 (x9 - 1))).f3.f2) ((rd_T45 x0 (wrap64 (x9 - 1))).f3.f3) ((rd_T45 x0 (wrap64 (x9 - 1))).f3.f4) ((rd_T45 x0 (wrap64 (x9 - 1))).f3.f5) ((rd_T45 x7 x9).f0) ((rd_T45 x7 x9).f1) ((rd_T45 x7 x9).f2) ((rd_T45 x7 x9).f3.f0) ((rd_T45 x7 x9).f3.f1) ((rd_T45 x7 x9).f3.f2) ((rd_T45 x7 x9).f3.f3) ((rd_T45 x7 x9).f3.f4) ((rd_T45 x7 x9).f3.f5)).bind fun t112 => (if t112 ≥ 0 then (some false) else (if x3.length < 17592186044416 then (impl_GoodEntries.l0 k x0 (x3 ++ [(rd_T45 x7 x9).f1]) x7 x8 (wrap64 (x9 + 1))) else (none)))) else (none)) else (none)) else (if x3.length < 17592186044416 then (impl_GoodEntries.l0 k x0 (x3 ++ [(rd_T45 x7 x9).f1]) x7 x8 (wrap64 (x9 + 1))) else (none))) else (some false))) else (none)) else (none)) else ((slices_Sort_int_int.f x3).bind fun t104 => ((slices_Compact_int_int.f t104).bind fun t105 => (some ((t105.length : Int) == (x0.length : Int)))))
def impl_GoodEntries.f (k : Nat) (l0 : List (S45)) : Option (Bool) := impl_GoodEntries.l0 k l0 (([] : List Int)) l0 (l0.length : Int) 0
theorem impl_GoodEntries.mono_l : ∀ k, (∀ y0 y1 y2 y3 y4, LeO (impl_GoodEntries.l0 k y0 y1 y2 y3 y4) (impl_GoodEntries.l0 (k + 1) y0 y1 y2 y3 y4))
 | 0 => fun _ _ _ _ _ r h => by simp [impl_GoodEntries.l0] at h
 | k + 1 => by
  have ih0 := impl_GoodEntries.mono_l k
  · intro y0 y1 y2 y3 y4
    unfold impl_GoodEntries.l0
    repeat' first
     | (with_reducible first | exact ih0 .. | exact impl_GoodEntry.mono .. | exact impl_compareEntries.mono .. | exact LeO.refl _ | exact LeO.none _ | refine LeO.ite ?_ ?_ | refine LeO.bind ?_ (fun _ => ?_))
     | exact LeO.none _
     | refine LeO.ite ?_ ?_
     | refine LeO.bind ?_ (fun _ => ?_)
theorem impl_GoodEntries.mono : ∀ a0 k, LeO (impl_GoodEntries.f k a0) (impl_GoodEntries.f (k + 1) a0) := by
 intro a0 k
 have ih0 := impl_GoodEntries.mono_l k
 unfold impl_GoodEntries.f
 repeat' first
  | (with_reducible first | exact ih0 .. | exact impl_GoodEntry.mono .. | exact impl_compareEntries.mono .. | exact LeO.refl _ | exact LeO.none _ | refine LeO.ite ?_ ?_ | refine LeO.bind ?_ (fun _ => ?_))
  | exact LeO.none _
  | refine LeO.ite ?_ ?_
  | refine LeO.bind ?_ (fun _ => ?_)
def impl_GoodEntries.T5 : Bool × List (List Nat × List Nat) := (true, [([], []), ([0], [0]), ([1], [1]), ([2, 1], [2]), ([3], [3]), ([4, 3], [3, 4]), ([5, 3, 3], [3, 5]), ([6], [6]), ([6], [6]), ([8, 6], [6, 8]), ([7, 9, 6], [6, 7, 9]), ([10, 6], [6, 10]), ([6], [6]), ([11, 12, 6, 6], [6, 11, 12]), ([13, 6], [6, 13]), ([6, 14, 3], [3, 6, 14]), ([3, 15], [3, 15])])
def impl_GoodEntries.B5 : List Nat := [0, 1, 3, 7, 15, 31, 63, 127, 127, 383, 1023, 2047, 127, 8191, 16383, 32767, 65535]
theorem impl_GoodEntries.tab5 : rtab .any (opsOf Try.f28 5) = impl_GoodEntries.T5 := by kernel_rfl
theorem impl_GoodEntries.bits5 : waitsOk impl_GoodEntries.T5.2 impl_GoodEntries.B5 = true := by kernel_rfl
set_option maxHeartbeats 8000000 in
set_option maxRecDepth 100000 in
theorem impl_GoodEntries.calls (k : Nat) (A0 : Option Addr) (c0 : Nat) (l0 : List (S45)) (r : Bool) (w : World) (hr0 : Kd.C k45 w A0 l0.length l0) (hc0 : l0.length ≤ c0) (h : impl_GoodEntries.f k l0 = some r) :
 Calls Try.prog 28 #[.slice A0 l0.length c0] w fun e w' => e = .returned (.bool r) ∧ Below w.heap.size w w' := by
 have hu45 := Try.underlying45
 have HR0 := aM hr0
 have HC0 := aM hc0
 clear hr0 hc0
 have HB := aM (Below.refl w.heap.size w)
 have H : (impl_GoodEntries.l0 k l0 (([] : List Int)) l0 (l0.length : Int) 0) = some r := h
 clear h
 obtain ⟨y101, hy101⟩ : ∃ y_ : List Int, y_ = (([] : List Int)) := ⟨_, rfl⟩
 first | (replace H := bindS H; rw [← hy101] at H; try dsimp only at H) | rw [← hy101] at H
 have Ny101 := aM hy101
 clear hy101
 have H' := aM H
 clear H
 go_enter Try.func28, Try.ntmps28
 go_wp2_with (first | ((with_reducible refine gate_dst (N := 6) rfl ?_); refine Kd.R_lit (Kd.int .i64) _ 3 ?hg (N := 6) ?hd (xs := ([] : List Int)) (inner := []) (ok := fun _ => True) (okp := fun _ => True) ?hr ?hp (fun _ hk => hk) trivial (Below.refl _ _) (Nat.le_refl _) (by simp) ?_; (case hd => rfl); (case hg => rfl); (case hr => first | (go_simp; done) | (go_simp; rfl)); (case hp => exact (Reps.none _ _)); intro v102 w2 ho3 hb hg_ hnew_; clear hg_ hnew_; (first | rw [← Ny101.out] at ho3 | (simp only [Int.reduceToNat] at ho3; rw [← Ny101.out] at ho3)); have _ := aM (Kd.R_lower ho3 (below_size hbZ)); have _ := aM (below_step hbZ hb); clear HB; rename_i HO103 HB; clear hb ho3))
 go_loopg [3, 9] k (fun kq v3 v9 w' => ∃ (x3_1 : List Int) (x9_1 : Int), v9 = .int .i64 x9_1 ∧ Aside0 (impl_GoodEntries.l0 kq l0 x3_1 l0 (l0.length : Int) x9_1 = some r) ∧ Aside0 (kq ≤ k) ∧ Aside0 (Kd.R (Kd.int .i64) 3 w' w.heap.size (fun _ => True) v3 x3_1) ∧ Aside0 (Below w.heap.size w w'))
 case atStart => exact ⟨(y101), (0), z4458, H', ⟨Nat.le_refl _⟩, ⟨rZ HO103.out⟩, ⟨z5acd⟩⟩
 case round =>
  clear H'
  try clear c2
  try clear p2
  obtain ⟨x3_1, x9_1, rfl, HA, HK1, HO_3, HB⟩ := hrel
  cases gk with
  | zero => exact absurd HA.out (by simp [impl_GoodEntries.l0])
  | succ k1 =>
   have H := HA.out
   clear HA
   simp only [impl_GoodEntries.l0] at H
   by_cases c4 : x9_1 < (l0.length : Int)
   · rw [if_pos c4] at H
     have c4b0 : decide (x9_1 < (l0.length : Int)) = true := decide_eq_true c4
     clear c4
     replace H := ifS H; obtain ⟨c5, H⟩ := H
     have c5b0 : decide (0 ≤ x9_1) = true := decide_eq_true c5
     clear c5
     replace H := ifS H; obtain ⟨c6, H⟩ := H
     have c6b0 : decide (x9_1 < (l0.length : Int)) = true := decide_eq_true c6
     clear c6
     replace H := Option.bind_eq_some_iff.mp H
     obtain ⟨t110, A70, H⟩ := H
     try dsimp only at H
     have A7 := aM A70
     clear A70
     by_cases c8 : t110 = true
     · subst c8
       rw [if_pos rfl] at H
       by_cases c9 : x9_1 > 0
       · rw [if_pos c9] at H
         have c9b0 : decide (0 < x9_1) = true := decide_eq_true c9
         clear c9
         obtain ⟨ji10, hji10⟩ : ∃ j_ : Int, (wrap64 (x9_1 - 1)) = j_ := ⟨_, rfl⟩
         replace H : (if 0 ≤ (ji10) then (if (ji10) < (l0.length : Int) then ((impl_compareEntries.f k1 ((rd_T45 l0 (ji10)).f0) ((rd_T45 l0 (ji10)).f1) ((rd_T45 l0 (ji10)).f2) ((rd_T45 l0 (ji10)).f3.f0) ((rd_T45 l0 (ji10)).f3.f1) ((rd_T45 l0 (ji10)).f3.f2) ((rd_T45 l0 (ji10)).f3.f3) ((rd_T45 l0 (ji10)).f3.f4) ((rd_T45 l0 (ji10)).f3.f5) ((rd_T45 l0 x9_1).f0) ((rd_T45 l0 x9_1).f1) ((rd_T45 l0 x9_1).f2) ((rd_T45 l0 x9_1).f3.f0) ((rd_T45 l0 x9_1).f3.f1) ((rd_T45 l0 x9_1).f3.f2) ((rd_T45 l0 x9_1).f3.f3) ((rd_T45 l0 x9_1).f3.f4) ((rd_T45 l0 x9_1).f3.f5)).bind fun t112 => (if t112 ≥ 0 then (some false) else (if x3_1.length < 17592186044416 then (impl_GoodEntries.l0 k1 l0 (x3_1 ++ [(rd_T45 l0 x9_1).f1]) l0 (l0.length : Int) (wrap64 (x9_1 + 1))) else (none)))) else (none)) else (none)) = some r := by first | (rw [hji10] at H; exact H) | (simp only [hji10] at H ⊢; exact H)
         (try rw [hji10] at A7)
         have hji10w : (IntKind.i64.wrap (x9_1 - 1)) = ji10 := (i64_w _).trans hji10
         replace H := ifS H; obtain ⟨c11, H⟩ := H
         have c11b0 : decide (0 ≤ (ji10)) = true := decide_eq_true c11
         clear c11
         replace H := ifS H; obtain ⟨c12, H⟩ := H
         have c12b0 : decide ((ji10) < (l0.length : Int)) = true := decide_eq_true c12
         clear c12
         replace H := Option.bind_eq_some_iff.mp H
         obtain ⟨t112, A130, H⟩ := H
         try dsimp only at H
         have A13 := aM A130
         clear A130
         by_cases c14 : t112 ≥ 0
         · rw [if_pos c14] at H
           have c14b0 : decide (0 ≤ t112) = true := decide_eq_true c14
           clear c14
           obtain rfl := Option.some.inj H
           have p108 : 0 ≤ (x9_1 : Int) := of_decide_eq_true z1200
           have q108 : x9_1 < (l0.length : Int) := of_decide_eq_true z1200
           obtain ⟨ad108, A108_7, c108_7, e108, hx108_0, hx108_1, hx108_2, hx108_3, hx108_4, hx108_5, hx108_6, hx108_7, hx108_8, hl108_7, hi108_7⟩ := at_T45 HR0.out x9_1 p108 q108
           cases e108
           have TW108_7 := aM hx108_7
           replace hx108_0 := (HB.out.cell (World.block_lt_of_cell? w _ hx108_0)).trans hx108_0
           replace hx108_1 := (HB.out.cell (World.block_lt_of_cell? w _ hx108_1)).trans hx108_1
           replace hx108_2 := (HB.out.cell (World.block_lt_of_cell? w _ hx108_2)).trans hx108_2
           replace hx108_3 := (HB.out.cell (World.block_lt_of_cell? w _ hx108_3)).trans hx108_3
           replace hx108_4 := (HB.out.cell (World.block_lt_of_cell? w _ hx108_4)).trans hx108_4
           replace hx108_5 := (HB.out.cell (World.block_lt_of_cell? w _ hx108_5)).trans hx108_5
           replace hx108_6 := (HB.out.cell (World.block_lt_of_cell? w _ hx108_6)).trans hx108_6
           replace hx108_7 := (HB.out.cell (World.block_lt_of_cell? w _ hx108_7)).trans hx108_7
           replace hx108_8 := (HB.out.cell (World.block_lt_of_cell? w _ hx108_8)).trans hx108_8
           have HR108_7 := aM hi108_7
           have HC108_7 := aM hl108_7
           clear hi108_7 hl108_7
           replace p108 := eq_true p108
           replace q108 := eq_true q108
           try go_wp2_with (first | ((with_reducible refine gate_dst (N := 5) rfl ?_); refine box_event ?hg (N := 5) ?hd (cs := #[.string (⟨#[]⟩ : ByteArray), .int .i64 0, .int .i64 0, .int .i64 0, .int .i64 0, .int .i64 0, .int .i64 0, .slice none 0 0, .bool false]) (t := 45) ?hr ?_; (case hd => rfl); (case hg => rfl); (case hr => first | (go_simp; done) | (go_simp; rfl)); intro gb109 hg w15 hbox hb; have _ := aM (Kd.R_below (rZ HO_3.out) hb); have _ := aM (below_step hbZ hb); have _ := aM hbox; have _ := szZ hg; have _ := szZ hg; clear HO_3 HB; rename_i HO_3 HB BK109 GW109 GE109; clear hb hbox hg; obtain ⟨hcz16_0, hcz16_1, hcz16_2, hcz16_3, hcz16_4, hcz16_5, hcz16_6, hcz16_7, hcz16_8, hfz16_0, hfz16_1, hfz16_2, hfz16_3, hfz16_4, hfz16_5, hfz16_6, hfz16_7, hfz16_8⟩ := cellsZ9 BK109.out))
           have n0_ : Aside0 (Kd.R (Kd.int .i64) 3 (((((((((w15.setCell ⟨gb109, 0, none⟩ (.string ((rd_T45 l0 x9_1).f0))).setCell ⟨gb109, 1, none⟩ (.int .i64 ((rd_T45 l0 x9_1).f1))).setCell ⟨gb109, 2, none⟩ (.int .i64 ((rd_T45 l0 x9_1).f2))).setCell ⟨gb109, 3, none⟩ (.int .i64 ((rd_T45 l0 x9_1).f3.f0))).setCell ⟨gb109, 4, none⟩ (.int .i64 ((rd_T45 l0 x9_1).f3.f1))).setCell ⟨gb109, 5, none⟩ (.int .i64 ((rd_T45 l0 x9_1).f3.f2))).setCell ⟨gb109, 6, none⟩ (.int .i64 ((rd_T45 l0 x9_1).f3.f3))).setCell ⟨gb109, 7, none⟩ (.slice A108_7 ((rd_T45 l0 x9_1).f3.f4).length c108_7)).setCell ⟨gb109, 8, none⟩ (.bool ((rd_T45 l0 x9_1).f3.f5))) w.heap.size (fun _ => True) u3 x3_1) := ⟨by (with_reducible repeat (first | apply Kd.R_alloc | apply Kd.R_drewN | apply Kd.R_drew)); exact Kd.R_mono (Kd.R_far (p := ⟨gb109, 8, none⟩) (Kd.R_far (p := ⟨gb109, 7, none⟩) (Kd.R_far (p := ⟨gb109, 6, none⟩) (Kd.R_far (p := ⟨gb109, 5, none⟩) (Kd.R_far (p := ⟨gb109, 4, none⟩) (Kd.R_far (p := ⟨gb109, 3, none⟩) (Kd.R_far (p := ⟨gb109, 2, none⟩) (Kd.R_far (p := ⟨gb109, 1, none⟩) (Kd.R_far (p := ⟨gb109, 0, none⟩) (Kd.R_types HO_3.out BK109.out (by decide)) (fun _ hk => hk.2) (.string ((rd_T45 l0 x9_1).f0))) (fun _ hk => hk.2) (.int .i64 ((rd_T45 l0 x9_1).f1))) (fun _ hk => hk.2) (.int .i64 ((rd_T45 l0 x9_1).f2))) (fun _ hk => hk.2) (.int .i64 ((rd_T45 l0 x9_1).f3.f0))) (fun _ hk => hk.2) (.int .i64 ((rd_T45 l0 x9_1).f3.f1))) (fun _ hk => hk.2) (.int .i64 ((rd_T45 l0 x9_1).f3.f2))) (fun _ hk => hk.2) (.int .i64 ((rd_T45 l0 x9_1).f3.f3))) (fun _ hk => hk.2) (.slice A108_7 ((rd_T45 l0 x9_1).f3.f4).length c108_7)) (fun _ hk => hk.2) (.bool ((rd_T45 l0 x9_1).f3.f5))) (fun _ hk => trivial)⟩
           have n1_ : Aside0 ((((((((((w15.setCell ⟨gb109, 0, none⟩ (.string ((rd_T45 l0 x9_1).f0))).setCell ⟨gb109, 1, none⟩ (.int .i64 ((rd_T45 l0 x9_1).f1))).setCell ⟨gb109, 2, none⟩ (.int .i64 ((rd_T45 l0 x9_1).f2))).setCell ⟨gb109, 3, none⟩ (.int .i64 ((rd_T45 l0 x9_1).f3.f0))).setCell ⟨gb109, 4, none⟩ (.int .i64 ((rd_T45 l0 x9_1).f3.f1))).setCell ⟨gb109, 5, none⟩ (.int .i64 ((rd_T45 l0 x9_1).f3.f2))).setCell ⟨gb109, 6, none⟩ (.int .i64 ((rd_T45 l0 x9_1).f3.f3))).setCell ⟨gb109, 7, none⟩ (.slice A108_7 ((rd_T45 l0 x9_1).f3.f4).length c108_7)).setCell ⟨gb109, 8, none⟩ (.bool ((rd_T45 l0 x9_1).f3.f5))).heap[gb109]? = some (.cells #[.string ((rd_T45 l0 x9_1).f0), .int .i64 ((rd_T45 l0 x9_1).f1), .int .i64 ((rd_T45 l0 x9_1).f2), .int .i64 ((rd_T45 l0 x9_1).f3.f0), .int .i64 ((rd_T45 l0 x9_1).f3.f1), .int .i64 ((rd_T45 l0 x9_1).f3.f2), .int .i64 ((rd_T45 l0 x9_1).f3.f3), .slice A108_7 ((rd_T45 l0 x9_1).f3.f4).length c108_7, .bool ((rd_T45 l0 x9_1).f3.f5)] 45 (0, 0))) := ⟨bkZ⟩
           have n2_ : Aside0 (Below w.heap.size w (((((((((w15.setCell ⟨gb109, 0, none⟩ (.string ((rd_T45 l0 x9_1).f0))).setCell ⟨gb109, 1, none⟩ (.int .i64 ((rd_T45 l0 x9_1).f1))).setCell ⟨gb109, 2, none⟩ (.int .i64 ((rd_T45 l0 x9_1).f2))).setCell ⟨gb109, 3, none⟩ (.int .i64 ((rd_T45 l0 x9_1).f3.f0))).setCell ⟨gb109, 4, none⟩ (.int .i64 ((rd_T45 l0 x9_1).f3.f1))).setCell ⟨gb109, 5, none⟩ (.int .i64 ((rd_T45 l0 x9_1).f3.f2))).setCell ⟨gb109, 6, none⟩ (.int .i64 ((rd_T45 l0 x9_1).f3.f3))).setCell ⟨gb109, 7, none⟩ (.slice A108_7 ((rd_T45 l0 x9_1).f3.f4).length c108_7)).setCell ⟨gb109, 8, none⟩ (.bool ((rd_T45 l0 x9_1).f3.f5)))) := ⟨zcb41⟩
           (try clear HO_3)
           (try clear BK109)
           (try clear HB)
           generalize (((((((((w15.setCell ⟨gb109, 0, none⟩ (.string ((rd_T45 l0 x9_1).f0))).setCell ⟨gb109, 1, none⟩ (.int .i64 ((rd_T45 l0 x9_1).f1))).setCell ⟨gb109, 2, none⟩ (.int .i64 ((rd_T45 l0 x9_1).f2))).setCell ⟨gb109, 3, none⟩ (.int .i64 ((rd_T45 l0 x9_1).f3.f0))).setCell ⟨gb109, 4, none⟩ (.int .i64 ((rd_T45 l0 x9_1).f3.f1))).setCell ⟨gb109, 5, none⟩ (.int .i64 ((rd_T45 l0 x9_1).f3.f2))).setCell ⟨gb109, 6, none⟩ (.int .i64 ((rd_T45 l0 x9_1).f3.f3))).setCell ⟨gb109, 7, none⟩ (.slice A108_7 ((rd_T45 l0 x9_1).f3.f4).length c108_7)).setCell ⟨gb109, 8, none⟩ (.bool ((rd_T45 l0 x9_1).f3.f5))) = w17 at n0_ n1_ n2_ ⊢
           have HO_3 := n0_
           have BK109 := n1_
           have HB := n2_
           clear n0_ n1_ n2_
           have _ := aM (Kd.R_drew HO_3.out)
           have _ := aM (blk_drew BK109.out)
           have _ := aM (below_drew1 HB.out)
           clear HO_3
           clear BK109
           clear HB
           rename_i HO_3 BK109 HB
           have p111 : 0 ≤ ((ji10) : Int) := of_decide_eq_true z1200
           have q111 : (ji10) < (l0.length : Int) := of_decide_eq_true z1200
           obtain ⟨ad111, A111_7, c111_7, e111, hx111_0, hx111_1, hx111_2, hx111_3, hx111_4, hx111_5, hx111_6, hx111_7, hx111_8, hl111_7, hi111_7⟩ := at_T45 HR0.out (ji10) p111 q111
           have hw111_8 := hx111_8
           have hw111_7 := hx111_7
           have hw111_6 := hx111_6
           have hw111_5 := hx111_5
           have hw111_4 := hx111_4
           have hw111_3 := hx111_3
           have hw111_2 := hx111_2
           have hw111_1 := hx111_1
           have hw111_0 := hx111_0
           obtain rfl : ad108 = ad111 := (by injection e111)
           have TW111_7 := aM hx111_7
           replace hx111_0 := (HB.out.cell (World.block_lt_of_cell? w _ hx111_0)).trans hx111_0
           replace hx111_1 := (HB.out.cell (World.block_lt_of_cell? w _ hx111_1)).trans hx111_1
           replace hx111_2 := (HB.out.cell (World.block_lt_of_cell? w _ hx111_2)).trans hx111_2
           replace hx111_3 := (HB.out.cell (World.block_lt_of_cell? w _ hx111_3)).trans hx111_3
           replace hx111_4 := (HB.out.cell (World.block_lt_of_cell? w _ hx111_4)).trans hx111_4
           replace hx111_5 := (HB.out.cell (World.block_lt_of_cell? w _ hx111_5)).trans hx111_5
           replace hx111_6 := (HB.out.cell (World.block_lt_of_cell? w _ hx111_6)).trans hx111_6
           replace hx111_7 := (HB.out.cell (World.block_lt_of_cell? w _ hx111_7)).trans hx111_7
           replace hx111_8 := (HB.out.cell (World.block_lt_of_cell? w _ hx111_8)).trans hx111_8
           have HR111_7 := aM hi111_7
           have HC111_7 := aM hl111_7
           clear hi111_7 hl111_7
           replace p111 := eq_true p111
           replace q111 := eq_true q111
           refine sA 17 impl_GoodEntries.tab5 impl_GoodEntries.bits5 (fun w' => w'.cell? ⟨gb109, 0, none⟩ = some (.string ((rd_T45 l0 x9_1).f0)) ∧ w'.cell? ⟨gb109, 1, none⟩ = some (.int .i64 ((rd_T45 l0 x9_1).f1)) ∧ w'.cell? ⟨gb109, 2, none⟩ = some (.int .i64 ((rd_T45 l0 x9_1).f2)) ∧ w'.cell? ⟨gb109, 3, none⟩ = some (.int .i64 ((rd_T45 l0 x9_1).f3.f0)) ∧ w'.cell? ⟨gb109, 4, none⟩ = some (.int .i64 ((rd_T45 l0 x9_1).f3.f1)) ∧ w'.cell? ⟨gb109, 5, none⟩ = some (.int .i64 ((rd_T45 l0 x9_1).f3.f2)) ∧ w'.cell? ⟨gb109, 6, none⟩ = some (.int .i64 ((rd_T45 l0 x9_1).f3.f3)) ∧ w'.cell? ⟨gb109, 7, none⟩ = some (.slice A108_7 ((rd_T45 l0 x9_1).f3.f4).length c108_7) ∧ w'.cell? ⟨gb109, 8, none⟩ = some (.bool ((rd_T45 l0 x9_1).f3.f5)) ∧ w'.cell? (ad108.add (((ji10)).toNat * 9)) = some (.string ((rd_T45 l0 (ji10)).f0)) ∧ w'.cell? ⟨(ad108.add (((ji10)).toNat * 9)).block, (ad108.add (((ji10)).toNat * 9)).off + 1, none⟩ = some (.int .i64 ((rd_T45 l0 (ji10)).f1)) ∧ w'.cell? ⟨(ad108.add (((ji10)).toNat * 9)).block, (ad108.add (((ji10)).toNat * 9)).off + 2, none⟩ = some (.int .i64 ((rd_T45 l0 (ji10)).f2)) ∧ w'.cell? ⟨(ad108.add (((ji10)).toNat * 9)).block, (ad108.add (((ji10)).toNat * 9)).off + 3, none⟩ = some (.int .i64 ((rd_T45 l0 (ji10)).f3.f0)) ∧ w'.cell? ⟨(ad108.add (((ji10)).toNat * 9)).block, (ad108.add (((ji10)).toNat * 9)).off + 4, none⟩ = some (.int .i64 ((rd_T45 l0 (ji10)).f3.f1)) ∧ w'.cell? ⟨(ad108.add (((ji10)).toNat * 9)).block, (ad108.add (((ji10)).toNat * 9)).off + 5, none⟩ = some (.int .i64 ((rd_T45 l0 (ji10)).f3.f2)) ∧ w'.cell? ⟨(ad108.add (((ji10)).toNat * 9)).block, (ad108.add (((ji10)).toNat * 9)).off + 6, none⟩ = some (.int .i64 ((rd_T45 l0 (ji10)).f3.f3)) ∧ w'.cell? ⟨(ad108.add (((ji10)).toNat * 9)).block, (ad108.add (((ji10)).toNat * 9)).off + 7, none⟩ = some (.slice A111_7 ((rd_T45 l0 (ji10)).f3.f4).length c111_7) ∧ w'.cell? ⟨(ad108.add (((ji10)).toNat * 9)).block, (ad108.add (((ji10)).toNat * 9)).off + 8, none⟩ = some (.bool ((rd_T45 l0 (ji10)).f3.f5))) [] (fun hHeld HT_ HW_ => ?_)
           generalize w17.drew = w18 at HO_3 BK109 HB HR111_7 hx111_0 hx111_1 hx111_2 hx111_3 hx111_4 hx111_5 hx111_6 hx111_7 hx111_8 hHeld ⊢
           refine tA 0 14 HT_ HW_ hHeld ?_; refine oA 1 15 HT_ (fun K hK => ?_)
           refine goes_ Try.func47 (by kernel_rfl) rfl #[.agg #[.string ((rd_T45 l0 x9_1).f0), .int .i64 ((rd_T45 l0 x9_1).f1), .int .i64 ((rd_T45 l0 x9_1).f2), .int .i64 ((rd_T45 l0 x9_1).f3.f0), .int .i64 ((rd_T45 l0 x9_1).f3.f1), .int .i64 ((rd_T45 l0 x9_1).f3.f2), .int .i64 ((rd_T45 l0 x9_1).f3.f3), .slice A108_7 ((rd_T45 l0 x9_1).f3.f4).length c108_7, .bool ((rd_T45 l0 x9_1).f3.f5)]] (by rfl) rfl rfl zee81 ?_
           with_reducible refine (impl_GoodEntry.calls k1 ((rd_T45 l0 x9_1).f0) ((rd_T45 l0 x9_1).f1) ((rd_T45 l0 x9_1).f2) ((rd_T45 l0 x9_1).f3.f0) ((rd_T45 l0 x9_1).f3.f1) ((rd_T45 l0 x9_1).f3.f2) ((rd_T45 l0 x9_1).f3.f3) _ _ ((rd_T45 l0 x9_1).f3.f4) ((rd_T45 l0 x9_1).f3.f5) true _ ?side1 ?side2 A7.out).mono ?_
           (case side1 => exact (cZ (Kd.C_below HR108_7.out HB.out)))
           (case side2 => exact HC108_7.out)
           rintro e w19 ⟨rfl, hb⟩
           refine ⟨_, rfl, ?_⟩
           have _ := aM (Kd.R_below (rZ HO_3.out) hb)
           have _ := bB gb109 hb
           have _ := aM (below_step hbZ hb)
           clear HO_3
           clear BK109
           clear HB
           rename_i HO_3 BK109 HB
           (try clear hb)
           (try clear hb2)
           (try clear hk)
           (try clear hi)
           refine hK.out _ _ sZ (fun hHeld => ?_)
           clear hK K
           refine nA 15 ?_; refine pA 2 16 HT_ ?_; refine pA 3 17 HT_ ?_; refine pA 4 18 HT_ ?_; refine pA 5 19 HT_ ?_; refine pA 6 20 HT_ ?_; refine pA 7 21 HT_ ?_; refine pA 8 22 HT_ ?_; refine pA 9 23 HT_ ?_; refine pA 10 24 HT_ ?_; refine tA 11 25 HT_ HW_ hHeld ?_; refine tA 12 26 HT_ HW_ hHeld ?_; refine oA 13 27 HT_ (fun K hK => ?_)
           refine goes_ Try.func57 (by kernel_rfl) rfl #[.agg #[.string ((rd_T45 l0 (ji10)).f0), .int .i64 ((rd_T45 l0 (ji10)).f1), .int .i64 ((rd_T45 l0 (ji10)).f2), .int .i64 ((rd_T45 l0 (ji10)).f3.f0), .int .i64 ((rd_T45 l0 (ji10)).f3.f1), .int .i64 ((rd_T45 l0 (ji10)).f3.f2), .int .i64 ((rd_T45 l0 (ji10)).f3.f3), .slice A111_7 ((rd_T45 l0 (ji10)).f3.f4).length c111_7, .bool ((rd_T45 l0 (ji10)).f3.f5)], .agg #[.string ((rd_T45 l0 x9_1).f0), .int .i64 ((rd_T45 l0 x9_1).f1), .int .i64 ((rd_T45 l0 x9_1).f2), .int .i64 ((rd_T45 l0 x9_1).f3.f0), .int .i64 ((rd_T45 l0 x9_1).f3.f1), .int .i64 ((rd_T45 l0 x9_1).f3.f2), .int .i64 ((rd_T45 l0 x9_1).f3.f3), .slice A108_7 ((rd_T45 l0 x9_1).f3.f4).length c108_7, .bool ((rd_T45 l0 x9_1).f3.f5)]] (by rfl) rfl rfl (by (try simp only [List.map_toArray, List.map_cons, List.map_nil]); first | done | (simp only [hji10]; rfl) | rfl | (simp only [List.length_drop, List.length_take]; rfl)) ?_
           with_reducible refine (impl_compareEntries.calls k1 ((rd_T45 l0 (ji10)).f0) ((rd_T45 l0 (ji10)).f1) ((rd_T45 l0 (ji10)).f2) ((rd_T45 l0 (ji10)).f3.f0) ((rd_T45 l0 (ji10)).f3.f1) ((rd_T45 l0 (ji10)).f3.f2) ((rd_T45 l0 (ji10)).f3.f3) _ _ ((rd_T45 l0 (ji10)).f3.f4) ((rd_T45 l0 (ji10)).f3.f5) ((rd_T45 l0 x9_1).f0) ((rd_T45 l0 x9_1).f1) ((rd_T45 l0 x9_1).f2) ((rd_T45 l0 x9_1).f3.f0) ((rd_T45 l0 x9_1).f3.f1) ((rd_T45 l0 x9_1).f3.f2) ((rd_T45 l0 x9_1).f3.f3) _ _ ((rd_T45 l0 x9_1).f3.f4) ((rd_T45 l0 x9_1).f3.f5) t112 _ ?side1 ?side2 ?side3 ?side4 A13.out).mono ?_
           (case side1 => exact (cZ (Kd.C_below HR111_7.out HB.out)))
           (case side2 => exact HC111_7.out)
           (case side3 => exact (cZ (Kd.C_below HR108_7.out HB.out)))
           (case side4 => exact HC108_7.out)
           rintro e w20 ⟨rfl, hb⟩
           refine ⟨_, rfl, ?_⟩
           have _ := aM (Kd.R_below (rZ HO_3.out) hb)
           have _ := bB gb109 hb
           have _ := aM (below_step hbZ hb)
           clear HO_3
           clear BK109
           clear HB
           rename_i HO_3 BK109 HB
           (try clear hb)
           (try clear hb2)
           (try clear hk)
           (try clear hi)
           refine hK.out _ _ sZ (fun hHeld => ?_)
           clear hK K
           refine nA 27 ?_; refine pA 14 28 HT_ ?_; refine pA 15 29 HT_ ?_; refine pA 16 30 HT_ ?_
           refine done_ (done_of HT_.out (by kernel_rfl)) ?_
           try go_wp2
           go_ret
           exact ⟨by first | rfl | (simp [errW_none, errW_some] <;> rfl) | (simp only [← hji10]; first | rfl | (simp [errW_none, errW_some] <;> rfl)) | (simp [*, errW_none, errW_some] <;> rfl), zcb41⟩
         · rw [if_neg c14] at H
           have c14b0 : decide (0 ≤ t112) = false := decide_eq_false c14
           clear c14
           replace H := ifS H; obtain ⟨c21, H⟩ := H
           have LMc21 := aM c21
           clear c21
           obtain ⟨y113, hy113⟩ : ∃ y_ : List Int, y_ = (x3_1 ++ [(rd_T45 l0 x9_1).f1]) := ⟨_, rfl⟩
           first | (replace H := bindS H; rw [← hy113] at H; try dsimp only at H) | rw [← hy113] at H
           have Ny113 := aM hy113
           clear hy113
           have H' := aM H
           clear H
           have p108 : 0 ≤ (x9_1 : Int) := of_decide_eq_true z1200
           have q108 : x9_1 < (l0.length : Int) := of_decide_eq_true z1200
           obtain ⟨ad108, A108_7, c108_7, e108, hx108_0, hx108_1, hx108_2, hx108_3, hx108_4, hx108_5, hx108_6, hx108_7, hx108_8, hl108_7, hi108_7⟩ := at_T45 HR0.out x9_1 p108 q108
           cases e108
           have TW108_7 := aM hx108_7
           replace hx108_0 := (HB.out.cell (World.block_lt_of_cell? w _ hx108_0)).trans hx108_0
           replace hx108_1 := (HB.out.cell (World.block_lt_of_cell? w _ hx108_1)).trans hx108_1
           replace hx108_2 := (HB.out.cell (World.block_lt_of_cell? w _ hx108_2)).trans hx108_2
           replace hx108_3 := (HB.out.cell (World.block_lt_of_cell? w _ hx108_3)).trans hx108_3
           replace hx108_4 := (HB.out.cell (World.block_lt_of_cell? w _ hx108_4)).trans hx108_4
           replace hx108_5 := (HB.out.cell (World.block_lt_of_cell? w _ hx108_5)).trans hx108_5
           replace hx108_6 := (HB.out.cell (World.block_lt_of_cell? w _ hx108_6)).trans hx108_6
           replace hx108_7 := (HB.out.cell (World.block_lt_of_cell? w _ hx108_7)).trans hx108_7
           replace hx108_8 := (HB.out.cell (World.block_lt_of_cell? w _ hx108_8)).trans hx108_8
           have HR108_7 := aM hi108_7
           have HC108_7 := aM hl108_7
           clear hi108_7 hl108_7
           replace p108 := eq_true p108
           replace q108 := eq_true q108
           try go_wp2_with (first | ((with_reducible refine gate_dst (N := 5) rfl ?_); refine box_event ?hg (N := 5) ?hd (cs := #[.string (⟨#[]⟩ : ByteArray), .int .i64 0, .int .i64 0, .int .i64 0, .int .i64 0, .int .i64 0, .int .i64 0, .slice none 0 0, .bool false]) (t := 45) ?hr ?_; (case hd => rfl); (case hg => rfl); (case hr => first | (go_simp; done) | (go_simp; rfl)); intro gb109 hg w22 hbox hb; have _ := aM (Kd.R_below (rZ HO_3.out) hb); have _ := aM (below_step hbZ hb); have _ := aM hbox; have _ := szZ hg; have _ := szZ hg; clear HO_3 HB; rename_i HO_3 HB BK109 GW109 GE109; clear hb hbox hg; obtain ⟨hcz23_0, hcz23_1, hcz23_2, hcz23_3, hcz23_4, hcz23_5, hcz23_6, hcz23_7, hcz23_8, hfz23_0, hfz23_1, hfz23_2, hfz23_3, hfz23_4, hfz23_5, hfz23_6, hfz23_7, hfz23_8⟩ := cellsZ9 BK109.out))
           have n0_ : Aside0 (Kd.R (Kd.int .i64) 3 (((((((((w22.setCell ⟨gb109, 0, none⟩ (.string ((rd_T45 l0 x9_1).f0))).setCell ⟨gb109, 1, none⟩ (.int .i64 ((rd_T45 l0 x9_1).f1))).setCell ⟨gb109, 2, none⟩ (.int .i64 ((rd_T45 l0 x9_1).f2))).setCell ⟨gb109, 3, none⟩ (.int .i64 ((rd_T45 l0 x9_1).f3.f0))).setCell ⟨gb109, 4, none⟩ (.int .i64 ((rd_T45 l0 x9_1).f3.f1))).setCell ⟨gb109, 5, none⟩ (.int .i64 ((rd_T45 l0 x9_1).f3.f2))).setCell ⟨gb109, 6, none⟩ (.int .i64 ((rd_T45 l0 x9_1).f3.f3))).setCell ⟨gb109, 7, none⟩ (.slice A108_7 ((rd_T45 l0 x9_1).f3.f4).length c108_7)).setCell ⟨gb109, 8, none⟩ (.bool ((rd_T45 l0 x9_1).f3.f5))) w.heap.size (fun _ => True) u3 x3_1) := ⟨by (with_reducible repeat (first | apply Kd.R_alloc | apply Kd.R_drewN | apply Kd.R_drew)); exact Kd.R_mono (Kd.R_far (p := ⟨gb109, 8, none⟩) (Kd.R_far (p := ⟨gb109, 7, none⟩) (Kd.R_far (p := ⟨gb109, 6, none⟩) (Kd.R_far (p := ⟨gb109, 5, none⟩) (Kd.R_far (p := ⟨gb109, 4, none⟩) (Kd.R_far (p := ⟨gb109, 3, none⟩) (Kd.R_far (p := ⟨gb109, 2, none⟩) (Kd.R_far (p := ⟨gb109, 1, none⟩) (Kd.R_far (p := ⟨gb109, 0, none⟩) (Kd.R_types HO_3.out BK109.out (by decide)) (fun _ hk => hk.2) (.string ((rd_T45 l0 x9_1).f0))) (fun _ hk => hk.2) (.int .i64 ((rd_T45 l0 x9_1).f1))) (fun _ hk => hk.2) (.int .i64 ((rd_T45 l0 x9_1).f2))) (fun _ hk => hk.2) (.int .i64 ((rd_T45 l0 x9_1).f3.f0))) (fun _ hk => hk.2) (.int .i64 ((rd_T45 l0 x9_1).f3.f1))) (fun _ hk => hk.2) (.int .i64 ((rd_T45 l0 x9_1).f3.f2))) (fun _ hk => hk.2) (.int .i64 ((rd_T45 l0 x9_1).f3.f3))) (fun _ hk => hk.2) (.slice A108_7 ((rd_T45 l0 x9_1).f3.f4).length c108_7)) (fun _ hk => hk.2) (.bool ((rd_T45 l0 x9_1).f3.f5))) (fun _ hk => trivial)⟩
           have n1_ : Aside0 ((((((((((w22.setCell ⟨gb109, 0, none⟩ (.string ((rd_T45 l0 x9_1).f0))).setCell ⟨gb109, 1, none⟩ (.int .i64 ((rd_T45 l0 x9_1).f1))).setCell ⟨gb109, 2, none⟩ (.int .i64 ((rd_T45 l0 x9_1).f2))).setCell ⟨gb109, 3, none⟩ (.int .i64 ((rd_T45 l0 x9_1).f3.f0))).setCell ⟨gb109, 4, none⟩ (.int .i64 ((rd_T45 l0 x9_1).f3.f1))).setCell ⟨gb109, 5, none⟩ (.int .i64 ((rd_T45 l0 x9_1).f3.f2))).setCell ⟨gb109, 6, none⟩ (.int .i64 ((rd_T45 l0 x9_1).f3.f3))).setCell ⟨gb109, 7, none⟩ (.slice A108_7 ((rd_T45 l0 x9_1).f3.f4).length c108_7)).setCell ⟨gb109, 8, none⟩ (.bool ((rd_T45 l0 x9_1).f3.f5))).heap[gb109]? = some (.cells #[.string ((rd_T45 l0 x9_1).f0), .int .i64 ((rd_T45 l0 x9_1).f1), .int .i64 ((rd_T45 l0 x9_1).f2), .int .i64 ((rd_T45 l0 x9_1).f3.f0), .int .i64 ((rd_T45 l0 x9_1).f3.f1), .int .i64 ((rd_T45 l0 x9_1).f3.f2), .int .i64 ((rd_T45 l0 x9_1).f3.f3), .slice A108_7 ((rd_T45 l0 x9_1).f3.f4).length c108_7, .bool ((rd_T45 l0 x9_1).f3.f5)] 45 (0, 0))) := ⟨bkZ⟩
           have n2_ : Aside0 (Below w.heap.size w (((((((((w22.setCell ⟨gb109, 0, none⟩ (.string ((rd_T45 l0 x9_1).f0))).setCell ⟨gb109, 1, none⟩ (.int .i64 ((rd_T45 l0 x9_1).f1))).setCell ⟨gb109, 2, none⟩ (.int .i64 ((rd_T45 l0 x9_1).f2))).setCell ⟨gb109, 3, none⟩ (.int .i64 ((rd_T45 l0 x9_1).f3.f0))).setCell ⟨gb109, 4, none⟩ (.int .i64 ((rd_T45 l0 x9_1).f3.f1))).setCell ⟨gb109, 5, none⟩ (.int .i64 ((rd_T45 l0 x9_1).f3.f2))).setCell ⟨gb109, 6, none⟩ (.int .i64 ((rd_T45 l0 x9_1).f3.f3))).setCell ⟨gb109, 7, none⟩ (.slice A108_7 ((rd_T45 l0 x9_1).f3.f4).length c108_7)).setCell ⟨gb109, 8, none⟩ (.bool ((rd_T45 l0 x9_1).f3.f5)))) := ⟨zcb41⟩
           (try clear HO_3)
           (try clear BK109)
           (try clear HB)
           generalize (((((((((w22.setCell ⟨gb109, 0, none⟩ (.string ((rd_T45 l0 x9_1).f0))).setCell ⟨gb109, 1, none⟩ (.int .i64 ((rd_T45 l0 x9_1).f1))).setCell ⟨gb109, 2, none⟩ (.int .i64 ((rd_T45 l0 x9_1).f2))).setCell ⟨gb109, 3, none⟩ (.int .i64 ((rd_T45 l0 x9_1).f3.f0))).setCell ⟨gb109, 4, none⟩ (.int .i64 ((rd_T45 l0 x9_1).f3.f1))).setCell ⟨gb109, 5, none⟩ (.int .i64 ((rd_T45 l0 x9_1).f3.f2))).setCell ⟨gb109, 6, none⟩ (.int .i64 ((rd_T45 l0 x9_1).f3.f3))).setCell ⟨gb109, 7, none⟩ (.slice A108_7 ((rd_T45 l0 x9_1).f3.f4).length c108_7)).setCell ⟨gb109, 8, none⟩ (.bool ((rd_T45 l0 x9_1).f3.f5))) = w24 at n0_ n1_ n2_ ⊢
           have HO_3 := n0_
           have BK109 := n1_
           have HB := n2_
           clear n0_ n1_ n2_
           have _ := aM (Kd.R_drew HO_3.out)
           have _ := aM (blk_drew BK109.out)
           have _ := aM (below_drew1 HB.out)
           clear HO_3
           clear BK109
           clear HB
           rename_i HO_3 BK109 HB
           have p111 : 0 ≤ ((ji10) : Int) := of_decide_eq_true z1200
           have q111 : (ji10) < (l0.length : Int) := of_decide_eq_true z1200
           obtain ⟨ad111, A111_7, c111_7, e111, hx111_0, hx111_1, hx111_2, hx111_3, hx111_4, hx111_5, hx111_6, hx111_7, hx111_8, hl111_7, hi111_7⟩ := at_T45 HR0.out (ji10) p111 q111
           have hw111_8 := hx111_8
           have hw111_7 := hx111_7
           have hw111_6 := hx111_6
           have hw111_5 := hx111_5
           have hw111_4 := hx111_4
           have hw111_3 := hx111_3
           have hw111_2 := hx111_2
           have hw111_1 := hx111_1
           have hw111_0 := hx111_0
           obtain rfl : ad108 = ad111 := (by injection e111)
           have TW111_7 := aM hx111_7
           replace hx111_0 := (HB.out.cell (World.block_lt_of_cell? w _ hx111_0)).trans hx111_0
           replace hx111_1 := (HB.out.cell (World.block_lt_of_cell? w _ hx111_1)).trans hx111_1
           replace hx111_2 := (HB.out.cell (World.block_lt_of_cell? w _ hx111_2)).trans hx111_2
           replace hx111_3 := (HB.out.cell (World.block_lt_of_cell? w _ hx111_3)).trans hx111_3
           replace hx111_4 := (HB.out.cell (World.block_lt_of_cell? w _ hx111_4)).trans hx111_4
           replace hx111_5 := (HB.out.cell (World.block_lt_of_cell? w _ hx111_5)).trans hx111_5
           replace hx111_6 := (HB.out.cell (World.block_lt_of_cell? w _ hx111_6)).trans hx111_6
           replace hx111_7 := (HB.out.cell (World.block_lt_of_cell? w _ hx111_7)).trans hx111_7
           replace hx111_8 := (HB.out.cell (World.block_lt_of_cell? w _ hx111_8)).trans hx111_8
           have HR111_7 := aM hi111_7
           have HC111_7 := aM hl111_7
           clear hi111_7 hl111_7
           replace p111 := eq_true p111
           replace q111 := eq_true q111
           refine sA 17 impl_GoodEntries.tab5 impl_GoodEntries.bits5 (fun w' => w'.cell? ⟨gb109, 0, none⟩ = some (.string ((rd_T45 l0 x9_1).f0)) ∧ w'.cell? ⟨gb109, 1, none⟩ = some (.int .i64 ((rd_T45 l0 x9_1).f1)) ∧ w'.cell? ⟨gb109, 2, none⟩ = some (.int .i64 ((rd_T45 l0 x9_1).f2)) ∧ w'.cell? ⟨gb109, 3, none⟩ = some (.int .i64 ((rd_T45 l0 x9_1).f3.f0)) ∧ w'.cell? ⟨gb109, 4, none⟩ = some (.int .i64 ((rd_T45 l0 x9_1).f3.f1)) ∧ w'.cell? ⟨gb109, 5, none⟩ = some (.int .i64 ((rd_T45 l0 x9_1).f3.f2)) ∧ w'.cell? ⟨gb109, 6, none⟩ = some (.int .i64 ((rd_T45 l0 x9_1).f3.f3)) ∧ w'.cell? ⟨gb109, 7, none⟩ = some (.slice A108_7 ((rd_T45 l0 x9_1).f3.f4).length c108_7) ∧ w'.cell? ⟨gb109, 8, none⟩ = some (.bool ((rd_T45 l0 x9_1).f3.f5)) ∧ w'.cell? (ad108.add (((ji10)).toNat * 9)) = some (.string ((rd_T45 l0 (ji10)).f0)) ∧ w'.cell? ⟨(ad108.add (((ji10)).toNat * 9)).block, (ad108.add (((ji10)).toNat * 9)).off + 1, none⟩ = some (.int .i64 ((rd_T45 l0 (ji10)).f1)) ∧ w'.cell? ⟨(ad108.add (((ji10)).toNat * 9)).block, (ad108.add (((ji10)).toNat * 9)).off + 2, none⟩ = some (.int .i64 ((rd_T45 l0 (ji10)).f2)) ∧ w'.cell? ⟨(ad108.add (((ji10)).toNat * 9)).block, (ad108.add (((ji10)).toNat * 9)).off + 3, none⟩ = some (.int .i64 ((rd_T45 l0 (ji10)).f3.f0)) ∧ w'.cell? ⟨(ad108.add (((ji10)).toNat * 9)).block, (ad108.add (((ji10)).toNat * 9)).off + 4, none⟩ = some (.int .i64 ((rd_T45 l0 (ji10)).f3.f1)) ∧ w'.cell? ⟨(ad108.add (((ji10)).toNat * 9)).block, (ad108.add (((ji10)).toNat * 9)).off + 5, none⟩ = some (.int .i64 ((rd_T45 l0 (ji10)).f3.f2)) ∧ w'.cell? ⟨(ad108.add (((ji10)).toNat * 9)).block, (ad108.add (((ji10)).toNat * 9)).off + 6, none⟩ = some (.int .i64 ((rd_T45 l0 (ji10)).f3.f3)) ∧ w'.cell? ⟨(ad108.add (((ji10)).toNat * 9)).block, (ad108.add (((ji10)).toNat * 9)).off + 7, none⟩ = some (.slice A111_7 ((rd_T45 l0 (ji10)).f3.f4).length c111_7) ∧ w'.cell? ⟨(ad108.add (((ji10)).toNat * 9)).block, (ad108.add (((ji10)).toNat * 9)).off + 8, none⟩ = some (.bool ((rd_T45 l0 (ji10)).f3.f5))) [] (fun hHeld HT_ HW_ => ?_)
           generalize w24.drew = w25 at HO_3 BK109 HB HR111_7 hx111_0 hx111_1 hx111_2 hx111_3 hx111_4 hx111_5 hx111_6 hx111_7 hx111_8 hHeld ⊢
           refine tA 0 14 HT_ HW_ hHeld ?_; refine oA 1 15 HT_ (fun K hK => ?_)
           refine goes_ Try.func47 (by kernel_rfl) rfl #[.agg #[.string ((rd_T45 l0 x9_1).f0), .int .i64 ((rd_T45 l0 x9_1).f1), .int .i64 ((rd_T45 l0 x9_1).f2), .int .i64 ((rd_T45 l0 x9_1).f3.f0), .int .i64 ((rd_T45 l0 x9_1).f3.f1), .int .i64 ((rd_T45 l0 x9_1).f3.f2), .int .i64 ((rd_T45 l0 x9_1).f3.f3), .slice A108_7 ((rd_T45 l0 x9_1).f3.f4).length c108_7, .bool ((rd_T45 l0 x9_1).f3.f5)]] (by rfl) rfl rfl zee81 ?_
           with_reducible refine (impl_GoodEntry.calls k1 ((rd_T45 l0 x9_1).f0) ((rd_T45 l0 x9_1).f1) ((rd_T45 l0 x9_1).f2) ((rd_T45 l0 x9_1).f3.f0) ((rd_T45 l0 x9_1).f3.f1) ((rd_T45 l0 x9_1).f3.f2) ((rd_T45 l0 x9_1).f3.f3) _ _ ((rd_T45 l0 x9_1).f3.f4) ((rd_T45 l0 x9_1).f3.f5) true _ ?side1 ?side2 A7.out).mono ?_
           (case side1 => exact (cZ (Kd.C_below HR108_7.out HB.out)))
           (case side2 => exact HC108_7.out)
           rintro e w26 ⟨rfl, hb⟩
           refine ⟨_, rfl, ?_⟩
           have _ := aM (Kd.R_below (rZ HO_3.out) hb)
           have _ := bB gb109 hb
           have _ := aM (below_step hbZ hb)
           clear HO_3
           clear BK109
           clear HB
           rename_i HO_3 BK109 HB
           (try clear hb)
           (try clear hb2)
           (try clear hk)
           (try clear hi)
           refine hK.out _ _ sZ (fun hHeld => ?_)
           clear hK K
           refine nA 15 ?_; refine pA 2 16 HT_ ?_; refine pA 3 17 HT_ ?_; refine pA 4 18 HT_ ?_; refine pA 5 19 HT_ ?_; refine pA 6 20 HT_ ?_; refine pA 7 21 HT_ ?_; refine pA 8 22 HT_ ?_; refine pA 9 23 HT_ ?_; refine pA 10 24 HT_ ?_; refine tA 11 25 HT_ HW_ hHeld ?_; refine tA 12 26 HT_ HW_ hHeld ?_; refine oA 13 27 HT_ (fun K hK => ?_)
           refine goes_ Try.func57 (by kernel_rfl) rfl #[.agg #[.string ((rd_T45 l0 (ji10)).f0), .int .i64 ((rd_T45 l0 (ji10)).f1), .int .i64 ((rd_T45 l0 (ji10)).f2), .int .i64 ((rd_T45 l0 (ji10)).f3.f0), .int .i64 ((rd_T45 l0 (ji10)).f3.f1), .int .i64 ((rd_T45 l0 (ji10)).f3.f2), .int .i64 ((rd_T45 l0 (ji10)).f3.f3), .slice A111_7 ((rd_T45 l0 (ji10)).f3.f4).length c111_7, .bool ((rd_T45 l0 (ji10)).f3.f5)], .agg #[.string ((rd_T45 l0 x9_1).f0), .int .i64 ((rd_T45 l0 x9_1).f1), .int .i64 ((rd_T45 l0 x9_1).f2), .int .i64 ((rd_T45 l0 x9_1).f3.f0), .int .i64 ((rd_T45 l0 x9_1).f3.f1), .int .i64 ((rd_T45 l0 x9_1).f3.f2), .int .i64 ((rd_T45 l0 x9_1).f3.f3), .slice A108_7 ((rd_T45 l0 x9_1).f3.f4).length c108_7, .bool ((rd_T45 l0 x9_1).f3.f5)]] (by rfl) rfl rfl (by (try simp only [List.map_toArray, List.map_cons, List.map_nil]); first | done | (simp only [hji10]; rfl) | rfl | (simp only [List.length_drop, List.length_take]; rfl)) ?_
           with_reducible refine (impl_compareEntries.calls k1 ((rd_T45 l0 (ji10)).f0) ((rd_T45 l0 (ji10)).f1) ((rd_T45 l0 (ji10)).f2) ((rd_T45 l0 (ji10)).f3.f0) ((rd_T45 l0 (ji10)).f3.f1) ((rd_T45 l0 (ji10)).f3.f2) ((rd_T45 l0 (ji10)).f3.f3) _ _ ((rd_T45 l0 (ji10)).f3.f4) ((rd_T45 l0 (ji10)).f3.f5) ((rd_T45 l0 x9_1).f0) ((rd_T45 l0 x9_1).f1) ((rd_T45 l0 x9_1).f2) ((rd_T45 l0 x9_1).f3.f0) ((rd_T45 l0 x9_1).f3.f1) ((rd_T45 l0 x9_1).f3.f2) ((rd_T45 l0 x9_1).f3.f3) _ _ ((rd_T45 l0 x9_1).f3.f4) ((rd_T45 l0 x9_1).f3.f5) t112 _ ?side1 ?side2 ?side3 ?side4 A13.out).mono ?_
           (case side1 => exact (cZ (Kd.C_below HR111_7.out HB.out)))
           (case side2 => exact HC111_7.out)
           (case side3 => exact (cZ (Kd.C_below HR108_7.out HB.out)))
           (case side4 => exact HC108_7.out)
           rintro e w27 ⟨rfl, hb⟩
           refine ⟨_, rfl, ?_⟩
           have _ := aM (Kd.R_below (rZ HO_3.out) hb)
           have _ := bB gb109 hb
           have _ := aM (below_step hbZ hb)
           clear HO_3
           clear BK109
           clear HB
           rename_i HO_3 BK109 HB
           (try clear hb)
           (try clear hb2)
           (try clear hk)
           (try clear hi)
           refine hK.out _ _ sZ (fun hHeld => ?_)
           clear hK K
           refine nA 27 ?_; refine pA 14 28 HT_ ?_; refine pA 15 29 HT_ ?_; refine pA 16 30 HT_ ?_
           refine done_ (done_of HT_.out (by kernel_rfl)) ?_
           obtain ⟨hcz28_0, hcz28_1, hcz28_2, hcz28_3, hcz28_4, hcz28_5, hcz28_6, hcz28_7, hcz28_8, hfz28_0, hfz28_1, hfz28_2, hfz28_3, hfz28_4, hfz28_5, hfz28_6, hfz28_7, hfz28_8⟩ := cellsZ9 BK109.out
           try go_wp2_with (first | ((with_reducible refine gate_builtin (b := .append) (xs := #[.tmp 31, .tmp 34]) rfl ?_); at_builtin; refine Kd.R_append (Kd.int .i64) (w0 := w) w.heap.size rfl (.tmp 31) (.tmp 34) 24 3 (.int .i64 0) 8 rfl Try.underlying24 info3 rfl (by decide) (by omega) u3 x3_1 ((rd_T45 l0 x9_1).f1) [.int .i64 ((rd_T45 l0 x9_1).f1)] (fun _ => True) (fun _ => False) rfl rfl ?aP (fun _ hk => hk.elim) ?aF ?aO ?aB ?aS ?aL ?_; (case aP => exact rfl); (case aB => exact hbZ); (case aF => exact (fun _ _ => trivial)); (case aO => exact (rZ HO_3.out)); (case aS => exact (below_size hbZ)); (case aL => have := LMc21.out; omega); intro v114 w29 ho hb hg hat; rw [← Ny113.out] at ho; have _ := aM (blk_grown (g := gb109) bkZ hg (Kd.R_ne HO_3.out BK109.out (by decide))); have _ := aM hb; have _ := aM ho; clear BK109 HB HO_3; rename_i BK109 HB HO115; clear ho hb hg hat))
           go_roundg k1
           case measure => have := HK1.out; omega
           case rel => exact ⟨(y113), (wrap64 (x9_1 + 1)), z4458, H', ⟨zfb39⟩, ⟨rZ HO115.out⟩, ⟨zcb41⟩⟩
       · rw [if_neg c9] at H
         have c9b0 : decide (0 < x9_1) = false := decide_eq_false c9
         clear c9
         replace H := ifS H; obtain ⟨c30, H⟩ := H
         have LMc30 := aM c30
         clear c30
         obtain ⟨y116, hy116⟩ : ∃ y_ : List Int, y_ = (x3_1 ++ [(rd_T45 l0 x9_1).f1]) := ⟨_, rfl⟩
         first | (replace H := bindS H; rw [← hy116] at H; try dsimp only at H) | rw [← hy116] at H
         have Ny116 := aM hy116
         clear hy116
         have H' := aM H
         clear H
         have p108 : 0 ≤ (x9_1 : Int) := of_decide_eq_true z1200
         have q108 : x9_1 < (l0.length : Int) := of_decide_eq_true z1200
         obtain ⟨ad108, A108_7, c108_7, e108, hx108_0, hx108_1, hx108_2, hx108_3, hx108_4, hx108_5, hx108_6, hx108_7, hx108_8, hl108_7, hi108_7⟩ := at_T45 HR0.out x9_1 p108 q108
         cases e108
         have TW108_7 := aM hx108_7
         replace hx108_0 := (HB.out.cell (World.block_lt_of_cell? w _ hx108_0)).trans hx108_0
         replace hx108_1 := (HB.out.cell (World.block_lt_of_cell? w _ hx108_1)).trans hx108_1
         replace hx108_2 := (HB.out.cell (World.block_lt_of_cell? w _ hx108_2)).trans hx108_2
         replace hx108_3 := (HB.out.cell (World.block_lt_of_cell? w _ hx108_3)).trans hx108_3
         replace hx108_4 := (HB.out.cell (World.block_lt_of_cell? w _ hx108_4)).trans hx108_4
         replace hx108_5 := (HB.out.cell (World.block_lt_of_cell? w _ hx108_5)).trans hx108_5
         replace hx108_6 := (HB.out.cell (World.block_lt_of_cell? w _ hx108_6)).trans hx108_6
         replace hx108_7 := (HB.out.cell (World.block_lt_of_cell? w _ hx108_7)).trans hx108_7
         replace hx108_8 := (HB.out.cell (World.block_lt_of_cell? w _ hx108_8)).trans hx108_8
         have HR108_7 := aM hi108_7
         have HC108_7 := aM hl108_7
         clear hi108_7 hl108_7
         replace p108 := eq_true p108
         replace q108 := eq_true q108
         try go_wp2_with (first | ((with_reducible refine gate_dst (N := 5) rfl ?_); refine box_event ?hg (N := 5) ?hd (cs := #[.string (⟨#[]⟩ : ByteArray), .int .i64 0, .int .i64 0, .int .i64 0, .int .i64 0, .int .i64 0, .int .i64 0, .slice none 0 0, .bool false]) (t := 45) ?hr ?_; (case hd => rfl); (case hg => rfl); (case hr => first | (go_simp; done) | (go_simp; rfl)); intro gb109 hg w31 hbox hb; have _ := aM (Kd.R_below (rZ HO_3.out) hb); have _ := aM (below_step hbZ hb); have _ := aM hbox; have _ := szZ hg; have _ := szZ hg; clear HO_3 HB; rename_i HO_3 HB BK109 GW109 GE109; clear hb hbox hg; obtain ⟨hcz32_0, hcz32_1, hcz32_2, hcz32_3, hcz32_4, hcz32_5, hcz32_6, hcz32_7, hcz32_8, hfz32_0, hfz32_1, hfz32_2, hfz32_3, hfz32_4, hfz32_5, hfz32_6, hfz32_7, hfz32_8⟩ := cellsZ9 BK109.out))
         have n0_ : Aside0 (Kd.R (Kd.int .i64) 3 (((((((((w31.setCell ⟨gb109, 0, none⟩ (.string ((rd_T45 l0 x9_1).f0))).setCell ⟨gb109, 1, none⟩ (.int .i64 ((rd_T45 l0 x9_1).f1))).setCell ⟨gb109, 2, none⟩ (.int .i64 ((rd_T45 l0 x9_1).f2))).setCell ⟨gb109, 3, none⟩ (.int .i64 ((rd_T45 l0 x9_1).f3.f0))).setCell ⟨gb109, 4, none⟩ (.int .i64 ((rd_T45 l0 x9_1).f3.f1))).setCell ⟨gb109, 5, none⟩ (.int .i64 ((rd_T45 l0 x9_1).f3.f2))).setCell ⟨gb109, 6, none⟩ (.int .i64 ((rd_T45 l0 x9_1).f3.f3))).setCell ⟨gb109, 7, none⟩ (.slice A108_7 ((rd_T45 l0 x9_1).f3.f4).length c108_7)).setCell ⟨gb109, 8, none⟩ (.bool ((rd_T45 l0 x9_1).f3.f5))) w.heap.size (fun _ => True) u3 x3_1) := ⟨by (with_reducible repeat (first | apply Kd.R_alloc | apply Kd.R_drewN | apply Kd.R_drew)); exact Kd.R_mono (Kd.R_far (p := ⟨gb109, 8, none⟩) (Kd.R_far (p := ⟨gb109, 7, none⟩) (Kd.R_far (p := ⟨gb109, 6, none⟩) (Kd.R_far (p := ⟨gb109, 5, none⟩) (Kd.R_far (p := ⟨gb109, 4, none⟩) (Kd.R_far (p := ⟨gb109, 3, none⟩) (Kd.R_far (p := ⟨gb109, 2, none⟩) (Kd.R_far (p := ⟨gb109, 1, none⟩) (Kd.R_far (p := ⟨gb109, 0, none⟩) (Kd.R_types HO_3.out BK109.out (by decide)) (fun _ hk => hk.2) (.string ((rd_T45 l0 x9_1).f0))) (fun _ hk => hk.2) (.int .i64 ((rd_T45 l0 x9_1).f1))) (fun _ hk => hk.2) (.int .i64 ((rd_T45 l0 x9_1).f2))) (fun _ hk => hk.2) (.int .i64 ((rd_T45 l0 x9_1).f3.f0))) (fun _ hk => hk.2) (.int .i64 ((rd_T45 l0 x9_1).f3.f1))) (fun _ hk => hk.2) (.int .i64 ((rd_T45 l0 x9_1).f3.f2))) (fun _ hk => hk.2) (.int .i64 ((rd_T45 l0 x9_1).f3.f3))) (fun _ hk => hk.2) (.slice A108_7 ((rd_T45 l0 x9_1).f3.f4).length c108_7)) (fun _ hk => hk.2) (.bool ((rd_T45 l0 x9_1).f3.f5))) (fun _ hk => trivial)⟩
         have n1_ : Aside0 ((((((((((w31.setCell ⟨gb109, 0, none⟩ (.string ((rd_T45 l0 x9_1).f0))).setCell ⟨gb109, 1, none⟩ (.int .i64 ((rd_T45 l0 x9_1).f1))).setCell ⟨gb109, 2, none⟩ (.int .i64 ((rd_T45 l0 x9_1).f2))).setCell ⟨gb109, 3, none⟩ (.int .i64 ((rd_T45 l0 x9_1).f3.f0))).setCell ⟨gb109, 4, none⟩ (.int .i64 ((rd_T45 l0 x9_1).f3.f1))).setCell ⟨gb109, 5, none⟩ (.int .i64 ((rd_T45 l0 x9_1).f3.f2))).setCell ⟨gb109, 6, none⟩ (.int .i64 ((rd_T45 l0 x9_1).f3.f3))).setCell ⟨gb109, 7, none⟩ (.slice A108_7 ((rd_T45 l0 x9_1).f3.f4).length c108_7)).setCell ⟨gb109, 8, none⟩ (.bool ((rd_T45 l0 x9_1).f3.f5))).heap[gb109]? = some (.cells #[.string ((rd_T45 l0 x9_1).f0), .int .i64 ((rd_T45 l0 x9_1).f1), .int .i64 ((rd_T45 l0 x9_1).f2), .int .i64 ((rd_T45 l0 x9_1).f3.f0), .int .i64 ((rd_T45 l0 x9_1).f3.f1), .int .i64 ((rd_T45 l0 x9_1).f3.f2), .int .i64 ((rd_T45 l0 x9_1).f3.f3), .slice A108_7 ((rd_T45 l0 x9_1).f3.f4).length c108_7, .bool ((rd_T45 l0 x9_1).f3.f5)] 45 (0, 0))) := ⟨bkZ⟩
         have n2_ : Aside0 (Below w.heap.size w (((((((((w31.setCell ⟨gb109, 0, none⟩ (.string ((rd_T45 l0 x9_1).f0))).setCell ⟨gb109, 1, none⟩ (.int .i64 ((rd_T45 l0 x9_1).f1))).setCell ⟨gb109, 2, none⟩ (.int .i64 ((rd_T45 l0 x9_1).f2))).setCell ⟨gb109, 3, none⟩ (.int .i64 ((rd_T45 l0 x9_1).f3.f0))).setCell ⟨gb109, 4, none⟩ (.int .i64 ((rd_T45 l0 x9_1).f3.f1))).setCell ⟨gb109, 5, none⟩ (.int .i64 ((rd_T45 l0 x9_1).f3.f2))).setCell ⟨gb109, 6, none⟩ (.int .i64 ((rd_T45 l0 x9_1).f3.f3))).setCell ⟨gb109, 7, none⟩ (.slice A108_7 ((rd_T45 l0 x9_1).f3.f4).length c108_7)).setCell ⟨gb109, 8, none⟩ (.bool ((rd_T45 l0 x9_1).f3.f5)))) := ⟨zcb41⟩
         (try clear HO_3)
         (try clear BK109)
         (try clear HB)
         generalize (((((((((w31.setCell ⟨gb109, 0, none⟩ (.string ((rd_T45 l0 x9_1).f0))).setCell ⟨gb109, 1, none⟩ (.int .i64 ((rd_T45 l0 x9_1).f1))).setCell ⟨gb109, 2, none⟩ (.int .i64 ((rd_T45 l0 x9_1).f2))).setCell ⟨gb109, 3, none⟩ (.int .i64 ((rd_T45 l0 x9_1).f3.f0))).setCell ⟨gb109, 4, none⟩ (.int .i64 ((rd_T45 l0 x9_1).f3.f1))).setCell ⟨gb109, 5, none⟩ (.int .i64 ((rd_T45 l0 x9_1).f3.f2))).setCell ⟨gb109, 6, none⟩ (.int .i64 ((rd_T45 l0 x9_1).f3.f3))).setCell ⟨gb109, 7, none⟩ (.slice A108_7 ((rd_T45 l0 x9_1).f3.f4).length c108_7)).setCell ⟨gb109, 8, none⟩ (.bool ((rd_T45 l0 x9_1).f3.f5))) = w33 at n0_ n1_ n2_ ⊢
         have HO_3 := n0_
         have BK109 := n1_
         have HB := n2_
         clear n0_ n1_ n2_
         have _ := aM (Kd.R_drew HO_3.out)
         have _ := aM (blk_drew BK109.out)
         have _ := aM (below_drew1 HB.out)
         clear HO_3
         clear BK109
         clear HB
         rename_i HO_3 BK109 HB
         refine sA 17 impl_GoodEntries.tab5 impl_GoodEntries.bits5 (fun w' => w'.cell? ⟨gb109, 0, none⟩ = some (.string ((rd_T45 l0 x9_1).f0)) ∧ w'.cell? ⟨gb109, 1, none⟩ = some (.int .i64 ((rd_T45 l0 x9_1).f1)) ∧ w'.cell? ⟨gb109, 2, none⟩ = some (.int .i64 ((rd_T45 l0 x9_1).f2)) ∧ w'.cell? ⟨gb109, 3, none⟩ = some (.int .i64 ((rd_T45 l0 x9_1).f3.f0)) ∧ w'.cell? ⟨gb109, 4, none⟩ = some (.int .i64 ((rd_T45 l0 x9_1).f3.f1)) ∧ w'.cell? ⟨gb109, 5, none⟩ = some (.int .i64 ((rd_T45 l0 x9_1).f3.f2)) ∧ w'.cell? ⟨gb109, 6, none⟩ = some (.int .i64 ((rd_T45 l0 x9_1).f3.f3)) ∧ w'.cell? ⟨gb109, 7, none⟩ = some (.slice A108_7 ((rd_T45 l0 x9_1).f3.f4).length c108_7) ∧ w'.cell? ⟨gb109, 8, none⟩ = some (.bool ((rd_T45 l0 x9_1).f3.f5))) [] (fun hHeld HT_ HW_ => ?_)
         generalize w33.drew = w34 at HO_3 BK109 HB hHeld ⊢
         refine tA 0 14 HT_ HW_ hHeld ?_; refine oA 1 15 HT_ (fun K hK => ?_)
         refine goes_ Try.func47 (by kernel_rfl) rfl #[.agg #[.string ((rd_T45 l0 x9_1).f0), .int .i64 ((rd_T45 l0 x9_1).f1), .int .i64 ((rd_T45 l0 x9_1).f2), .int .i64 ((rd_T45 l0 x9_1).f3.f0), .int .i64 ((rd_T45 l0 x9_1).f3.f1), .int .i64 ((rd_T45 l0 x9_1).f3.f2), .int .i64 ((rd_T45 l0 x9_1).f3.f3), .slice A108_7 ((rd_T45 l0 x9_1).f3.f4).length c108_7, .bool ((rd_T45 l0 x9_1).f3.f5)]] (by rfl) rfl rfl zee81 ?_
         with_reducible refine (impl_GoodEntry.calls k1 ((rd_T45 l0 x9_1).f0) ((rd_T45 l0 x9_1).f1) ((rd_T45 l0 x9_1).f2) ((rd_T45 l0 x9_1).f3.f0) ((rd_T45 l0 x9_1).f3.f1) ((rd_T45 l0 x9_1).f3.f2) ((rd_T45 l0 x9_1).f3.f3) _ _ ((rd_T45 l0 x9_1).f3.f4) ((rd_T45 l0 x9_1).f3.f5) true _ ?side1 ?side2 A7.out).mono ?_
         (case side1 => exact (cZ (Kd.C_below HR108_7.out HB.out)))
         (case side2 => exact HC108_7.out)
         rintro e w35 ⟨rfl, hb⟩
         refine ⟨_, rfl, ?_⟩
         have _ := aM (Kd.R_below (rZ HO_3.out) hb)
         have _ := bB gb109 hb
         have _ := aM (below_step hbZ hb)
         clear HO_3
         clear BK109
         clear HB
         rename_i HO_3 BK109 HB
         (try clear hb)
         (try clear hb2)
         (try clear hk)
         (try clear hi)
         refine hK.out _ _ sZ (fun hHeld => ?_)
         clear hK K
         refine nA 15 ?_; refine pA 2 16 HT_ ?_; refine pA 3 17 HT_ ?_; refine pA 4 18 HT_ ?_; refine pA 5 19 HT_ ?_; refine pA 6 20 HT_ ?_; refine uA 7 21 HT_ ?_; refine uA 8 22 HT_ ?_; refine uA 9 23 HT_ ?_; refine uA 10 24 HT_ ?_; refine uA 11 25 HT_ ?_; refine uA 12 26 HT_ ?_; refine uA 13 27 HT_ ?_; refine uA 14 28 HT_ ?_; refine pA 15 29 HT_ ?_; refine pA 16 30 HT_ ?_
         refine done_ (done_of HT_.out (by kernel_rfl)) ?_
         obtain ⟨hcz36_0, hcz36_1, hcz36_2, hcz36_3, hcz36_4, hcz36_5, hcz36_6, hcz36_7, hcz36_8, hfz36_0, hfz36_1, hfz36_2, hfz36_3, hfz36_4, hfz36_5, hfz36_6, hfz36_7, hfz36_8⟩ := cellsZ9 BK109.out
         try go_wp2_with (first | ((with_reducible refine gate_builtin (b := .append) (xs := #[.tmp 31, .tmp 34]) rfl ?_); at_builtin; refine Kd.R_append (Kd.int .i64) (w0 := w) w.heap.size rfl (.tmp 31) (.tmp 34) 24 3 (.int .i64 0) 8 rfl Try.underlying24 info3 rfl (by decide) (by omega) u3 x3_1 ((rd_T45 l0 x9_1).f1) [.int .i64 ((rd_T45 l0 x9_1).f1)] (fun _ => True) (fun _ => False) rfl rfl ?aP (fun _ hk => hk.elim) ?aF ?aO ?aB ?aS ?aL ?_; (case aP => exact rfl); (case aB => exact hbZ); (case aF => exact (fun _ _ => trivial)); (case aO => exact (rZ HO_3.out)); (case aS => exact (below_size hbZ)); (case aL => have := LMc30.out; omega); intro v117 w37 ho hb hg hat; rw [← Ny116.out] at ho; have _ := aM (blk_grown (g := gb109) bkZ hg (Kd.R_ne HO_3.out BK109.out (by decide))); have _ := aM hb; have _ := aM ho; clear BK109 HB HO_3; rename_i BK109 HB HO118; clear ho hb hg hat))
         go_roundg k1
         case measure => have := HK1.out; omega
         case rel => exact ⟨(y116), (wrap64 (x9_1 + 1)), z4458, H', ⟨zfb39⟩, ⟨rZ HO118.out⟩, ⟨zcb41⟩⟩
     · replace c8 := Bool.eq_false_iff.mpr c8
       subst c8
       rw [if_neg (show ¬ (false = true) by decide)] at H
       obtain rfl := Option.some.inj H
       have p108 : 0 ≤ (x9_1 : Int) := of_decide_eq_true z1200
       have q108 : x9_1 < (l0.length : Int) := of_decide_eq_true z1200
       obtain ⟨ad108, A108_7, c108_7, e108, hx108_0, hx108_1, hx108_2, hx108_3, hx108_4, hx108_5, hx108_6, hx108_7, hx108_8, hl108_7, hi108_7⟩ := at_T45 HR0.out x9_1 p108 q108
       cases e108
       have TW108_7 := aM hx108_7
       replace hx108_0 := (HB.out.cell (World.block_lt_of_cell? w _ hx108_0)).trans hx108_0
       replace hx108_1 := (HB.out.cell (World.block_lt_of_cell? w _ hx108_1)).trans hx108_1
       replace hx108_2 := (HB.out.cell (World.block_lt_of_cell? w _ hx108_2)).trans hx108_2
       replace hx108_3 := (HB.out.cell (World.block_lt_of_cell? w _ hx108_3)).trans hx108_3
       replace hx108_4 := (HB.out.cell (World.block_lt_of_cell? w _ hx108_4)).trans hx108_4
       replace hx108_5 := (HB.out.cell (World.block_lt_of_cell? w _ hx108_5)).trans hx108_5
       replace hx108_6 := (HB.out.cell (World.block_lt_of_cell? w _ hx108_6)).trans hx108_6
       replace hx108_7 := (HB.out.cell (World.block_lt_of_cell? w _ hx108_7)).trans hx108_7
       replace hx108_8 := (HB.out.cell (World.block_lt_of_cell? w _ hx108_8)).trans hx108_8
       have HR108_7 := aM hi108_7
       have HC108_7 := aM hl108_7
       clear hi108_7 hl108_7
       replace p108 := eq_true p108
       replace q108 := eq_true q108
       try go_wp2_with (first | ((with_reducible refine gate_dst (N := 5) rfl ?_); refine box_event ?hg (N := 5) ?hd (cs := #[.string (⟨#[]⟩ : ByteArray), .int .i64 0, .int .i64 0, .int .i64 0, .int .i64 0, .int .i64 0, .int .i64 0, .slice none 0 0, .bool false]) (t := 45) ?hr ?_; (case hd => rfl); (case hg => rfl); (case hr => first | (go_simp; done) | (go_simp; rfl)); intro gb109 hg w38 hbox hb; have _ := aM (Kd.R_below (rZ HO_3.out) hb); have _ := aM (below_step hbZ hb); have _ := aM hbox; have _ := szZ hg; have _ := szZ hg; clear HO_3 HB; rename_i HO_3 HB BK109 GW109 GE109; clear hb hbox hg; obtain ⟨hcz39_0, hcz39_1, hcz39_2, hcz39_3, hcz39_4, hcz39_5, hcz39_6, hcz39_7, hcz39_8, hfz39_0, hfz39_1, hfz39_2, hfz39_3, hfz39_4, hfz39_5, hfz39_6, hfz39_7, hfz39_8⟩ := cellsZ9 BK109.out))
       have n0_ : Aside0 (Kd.R (Kd.int .i64) 3 (((((((((w38.setCell ⟨gb109, 0, none⟩ (.string ((rd_T45 l0 x9_1).f0))).setCell ⟨gb109, 1, none⟩ (.int .i64 ((rd_T45 l0 x9_1).f1))).setCell ⟨gb109, 2, none⟩ (.int .i64 ((rd_T45 l0 x9_1).f2))).setCell ⟨gb109, 3, none⟩ (.int .i64 ((rd_T45 l0 x9_1).f3.f0))).setCell ⟨gb109, 4, none⟩ (.int .i64 ((rd_T45 l0 x9_1).f3.f1))).setCell ⟨gb109, 5, none⟩ (.int .i64 ((rd_T45 l0 x9_1).f3.f2))).setCell ⟨gb109, 6, none⟩ (.int .i64 ((rd_T45 l0 x9_1).f3.f3))).setCell ⟨gb109, 7, none⟩ (.slice A108_7 ((rd_T45 l0 x9_1).f3.f4).length c108_7)).setCell ⟨gb109, 8, none⟩ (.bool ((rd_T45 l0 x9_1).f3.f5))) w.heap.size (fun _ => True) u3 x3_1) := ⟨by (with_reducible repeat (first | apply Kd.R_alloc | apply Kd.R_drewN | apply Kd.R_drew)); exact Kd.R_mono (Kd.R_far (p := ⟨gb109, 8, none⟩) (Kd.R_far (p := ⟨gb109, 7, none⟩) (Kd.R_far (p := ⟨gb109, 6, none⟩) (Kd.R_far (p := ⟨gb109, 5, none⟩) (Kd.R_far (p := ⟨gb109, 4, none⟩) (Kd.R_far (p := ⟨gb109, 3, none⟩) (Kd.R_far (p := ⟨gb109, 2, none⟩) (Kd.R_far (p := ⟨gb109, 1, none⟩) (Kd.R_far (p := ⟨gb109, 0, none⟩) (Kd.R_types HO_3.out BK109.out (by decide)) (fun _ hk => hk.2) (.string ((rd_T45 l0 x9_1).f0))) (fun _ hk => hk.2) (.int .i64 ((rd_T45 l0 x9_1).f1))) (fun _ hk => hk.2) (.int .i64 ((rd_T45 l0 x9_1).f2))) (fun _ hk => hk.2) (.int .i64 ((rd_T45 l0 x9_1).f3.f0))) (fun _ hk => hk.2) (.int .i64 ((rd_T45 l0 x9_1).f3.f1))) (fun _ hk => hk.2) (.int .i64 ((rd_T45 l0 x9_1).f3.f2))) (fun _ hk => hk.2) (.int .i64 ((rd_T45 l0 x9_1).f3.f3))) (fun _ hk => hk.2) (.slice A108_7 ((rd_T45 l0 x9_1).f3.f4).length c108_7)) (fun _ hk => hk.2) (.bool ((rd_T45 l0 x9_1).f3.f5))) (fun _ hk => trivial)⟩
       have n1_ : Aside0 ((((((((((w38.setCell ⟨gb109, 0, none⟩ (.string ((rd_T45 l0 x9_1).f0))).setCell ⟨gb109, 1, none⟩ (.int .i64 ((rd_T45 l0 x9_1).f1))).setCell ⟨gb109, 2, none⟩ (.int .i64 ((rd_T45 l0 x9_1).f2))).setCell ⟨gb109, 3, none⟩ (.int .i64 ((rd_T45 l0 x9_1).f3.f0))).setCell ⟨gb109, 4, none⟩ (.int .i64 ((rd_T45 l0 x9_1).f3.f1))).setCell ⟨gb109, 5, none⟩ (.int .i64 ((rd_T45 l0 x9_1).f3.f2))).setCell ⟨gb109, 6, none⟩ (.int .i64 ((rd_T45 l0 x9_1).f3.f3))).setCell ⟨gb109, 7, none⟩ (.slice A108_7 ((rd_T45 l0 x9_1).f3.f4).length c108_7)).setCell ⟨gb109, 8, none⟩ (.bool ((rd_T45 l0 x9_1).f3.f5))).heap[gb109]? = some (.cells #[.string ((rd_T45 l0 x9_1).f0), .int .i64 ((rd_T45 l0 x9_1).f1), .int .i64 ((rd_T45 l0 x9_1).f2), .int .i64 ((rd_T45 l0 x9_1).f3.f0), .int .i64 ((rd_T45 l0 x9_1).f3.f1), .int .i64 ((rd_T45 l0 x9_1).f3.f2), .int .i64 ((rd_T45 l0 x9_1).f3.f3), .slice A108_7 ((rd_T45 l0 x9_1).f3.f4).length c108_7, .bool ((rd_T45 l0 x9_1).f3.f5)] 45 (0, 0))) := ⟨bkZ⟩
       have n2_ : Aside0 (Below w.heap.size w (((((((((w38.setCell ⟨gb109, 0, none⟩ (.string ((rd_T45 l0 x9_1).f0))).setCell ⟨gb109, 1, none⟩ (.int .i64 ((rd_T45 l0 x9_1).f1))).setCell ⟨gb109, 2, none⟩ (.int .i64 ((rd_T45 l0 x9_1).f2))).setCell ⟨gb109, 3, none⟩ (.int .i64 ((rd_T45 l0 x9_1).f3.f0))).setCell ⟨gb109, 4, none⟩ (.int .i64 ((rd_T45 l0 x9_1).f3.f1))).setCell ⟨gb109, 5, none⟩ (.int .i64 ((rd_T45 l0 x9_1).f3.f2))).setCell ⟨gb109, 6, none⟩ (.int .i64 ((rd_T45 l0 x9_1).f3.f3))).setCell ⟨gb109, 7, none⟩ (.slice A108_7 ((rd_T45 l0 x9_1).f3.f4).length c108_7)).setCell ⟨gb109, 8, none⟩ (.bool ((rd_T45 l0 x9_1).f3.f5)))) := ⟨zcb41⟩
       (try clear HO_3)
       (try clear BK109)
       (try clear HB)
       generalize (((((((((w38.setCell ⟨gb109, 0, none⟩ (.string ((rd_T45 l0 x9_1).f0))).setCell ⟨gb109, 1, none⟩ (.int .i64 ((rd_T45 l0 x9_1).f1))).setCell ⟨gb109, 2, none⟩ (.int .i64 ((rd_T45 l0 x9_1).f2))).setCell ⟨gb109, 3, none⟩ (.int .i64 ((rd_T45 l0 x9_1).f3.f0))).setCell ⟨gb109, 4, none⟩ (.int .i64 ((rd_T45 l0 x9_1).f3.f1))).setCell ⟨gb109, 5, none⟩ (.int .i64 ((rd_T45 l0 x9_1).f3.f2))).setCell ⟨gb109, 6, none⟩ (.int .i64 ((rd_T45 l0 x9_1).f3.f3))).setCell ⟨gb109, 7, none⟩ (.slice A108_7 ((rd_T45 l0 x9_1).f3.f4).length c108_7)).setCell ⟨gb109, 8, none⟩ (.bool ((rd_T45 l0 x9_1).f3.f5))) = w40 at n0_ n1_ n2_ ⊢
       have HO_3 := n0_
       have BK109 := n1_
       have HB := n2_
       clear n0_ n1_ n2_
       have _ := aM (Kd.R_drew HO_3.out)
       have _ := aM (blk_drew BK109.out)
       have _ := aM (below_drew1 HB.out)
       clear HO_3
       clear BK109
       clear HB
       rename_i HO_3 BK109 HB
       refine sA 17 impl_GoodEntries.tab5 impl_GoodEntries.bits5 (fun w' => w'.cell? ⟨gb109, 0, none⟩ = some (.string ((rd_T45 l0 x9_1).f0)) ∧ w'.cell? ⟨gb109, 1, none⟩ = some (.int .i64 ((rd_T45 l0 x9_1).f1)) ∧ w'.cell? ⟨gb109, 2, none⟩ = some (.int .i64 ((rd_T45 l0 x9_1).f2)) ∧ w'.cell? ⟨gb109, 3, none⟩ = some (.int .i64 ((rd_T45 l0 x9_1).f3.f0)) ∧ w'.cell? ⟨gb109, 4, none⟩ = some (.int .i64 ((rd_T45 l0 x9_1).f3.f1)) ∧ w'.cell? ⟨gb109, 5, none⟩ = some (.int .i64 ((rd_T45 l0 x9_1).f3.f2)) ∧ w'.cell? ⟨gb109, 6, none⟩ = some (.int .i64 ((rd_T45 l0 x9_1).f3.f3)) ∧ w'.cell? ⟨gb109, 7, none⟩ = some (.slice A108_7 ((rd_T45 l0 x9_1).f3.f4).length c108_7) ∧ w'.cell? ⟨gb109, 8, none⟩ = some (.bool ((rd_T45 l0 x9_1).f3.f5))) [] (fun hHeld HT_ HW_ => ?_)
       generalize w40.drew = w41 at HO_3 BK109 HB hHeld ⊢
       refine tA 0 14 HT_ HW_ hHeld ?_; refine oA 1 15 HT_ (fun K hK => ?_)
       refine goes_ Try.func47 (by kernel_rfl) rfl #[.agg #[.string ((rd_T45 l0 x9_1).f0), .int .i64 ((rd_T45 l0 x9_1).f1), .int .i64 ((rd_T45 l0 x9_1).f2), .int .i64 ((rd_T45 l0 x9_1).f3.f0), .int .i64 ((rd_T45 l0 x9_1).f3.f1), .int .i64 ((rd_T45 l0 x9_1).f3.f2), .int .i64 ((rd_T45 l0 x9_1).f3.f3), .slice A108_7 ((rd_T45 l0 x9_1).f3.f4).length c108_7, .bool ((rd_T45 l0 x9_1).f3.f5)]] (by rfl) rfl rfl zee81 ?_
       with_reducible refine (impl_GoodEntry.calls k1 ((rd_T45 l0 x9_1).f0) ((rd_T45 l0 x9_1).f1) ((rd_T45 l0 x9_1).f2) ((rd_T45 l0 x9_1).f3.f0) ((rd_T45 l0 x9_1).f3.f1) ((rd_T45 l0 x9_1).f3.f2) ((rd_T45 l0 x9_1).f3.f3) _ _ ((rd_T45 l0 x9_1).f3.f4) ((rd_T45 l0 x9_1).f3.f5) false _ ?side1 ?side2 A7.out).mono ?_
       (case side1 => exact (cZ (Kd.C_below HR108_7.out HB.out)))
       (case side2 => exact HC108_7.out)
       rintro e w42 ⟨rfl, hb⟩
       refine ⟨_, rfl, ?_⟩
       have _ := aM (Kd.R_below (rZ HO_3.out) hb)
       have _ := bB gb109 hb
       have _ := aM (below_step hbZ hb)
       clear HO_3
       clear BK109
       clear HB
       rename_i HO_3 BK109 HB
       (try clear hb)
       (try clear hb2)
       (try clear hk)
       (try clear hi)
       refine hK.out _ _ sZ (fun hHeld => ?_)
       clear hK K
       refine nA 15 ?_; refine pA 2 16 HT_ ?_; refine pA 3 17 HT_ ?_; refine uA 4 18 HT_ ?_; refine uA 5 19 HT_ ?_; refine uA 6 20 HT_ ?_; refine uA 7 21 HT_ ?_; refine uA 8 22 HT_ ?_; refine uA 9 23 HT_ ?_; refine uA 10 24 HT_ ?_; refine uA 11 25 HT_ ?_; refine uA 12 26 HT_ ?_; refine uA 13 27 HT_ ?_; refine uA 14 28 HT_ ?_; refine uA 15 29 HT_ ?_; refine pA 16 30 HT_ ?_
       refine done_ (done_of HT_.out (by kernel_rfl)) ?_
       try go_wp2
       go_ret
       exact ⟨z674d, zcb41⟩
   · rw [if_neg c4] at H
     have c4b0 : decide (x9_1 < (l0.length : Int)) = false := decide_eq_false c4
     clear c4
     replace H := Option.bind_eq_some_iff.mp H
     obtain ⟨t104, A430, H⟩ := H
     try dsimp only at H
     have A43 := aM A430
     clear A430
     replace H := Option.bind_eq_some_iff.mp H
     obtain ⟨t105, A440, H⟩ := H
     try dsimp only at H
     have A44 := aM A440
     clear A440
     obtain rfl := Option.some.inj H
     obtain ⟨Ao45, co45, eo45⟩ := Kd.R_slice HO_3.out
     subst eo45
     go_wp2_with (first | ((with_reducible refine gate_callee (f := 58) rfl ?_); refine goesL_ (some 38) rfl rfl Try.func58 (by kernel_rfl) rfl #[.slice Ao45 x3_1.length co45] rfl zee81 ?_; (with_reducible refine (slices_Sort_int_int.calls (fun k_ => some k_ = (.slice Ao45 x3_1.length co45 : Value).ownBlock) (.slice Ao45 x3_1.length co45) x3_1 t104 w _ ?side1 ?side2 A43.out).mono ?_); (case side1 => exact z5acd); (case side2 => exact Kd.R_tight rfl HO_3.out); rintro e w46 ⟨rfl, hy0, hb, hkp⟩; refine ⟨_, rfl, ?_⟩; have _ := aM (Kd.R_reok rfl hy0 (fun k_ e_ => HO_3.out.1 k_ e_)); have _ := aM hb; clear HO_3 HB; rename_i HO_3 HB; (try clear hb); (try clear hkp); (try clear hy0)) | ((with_reducible refine gate_callee (f := 59) rfl ?_); refine goesL_ (some 40) rfl rfl Try.func59 (by kernel_rfl) rfl #[.slice Ao45 x3_1.length co45] rfl zee81 ?_; (with_reducible refine (slices_Compact_int_int.calls (fun k_ => some k_ = (.slice Ao45 x3_1.length co45 : Value).ownBlock) (.slice Ao45 x3_1.length co45) t104 t105 w _ ?side1 ?side2 A44.out).mono ?_); (case side1 => exact z5acd); (case side2 => exact Kd.R_tight rfl HO_3.out); rintro e w47 ⟨v106, rfl, ho0, hb, hkp⟩; refine ⟨_, rfl, ?_⟩; have _ := aM (Kd.R_mono (ok' := fun k_ => True) ho0 (fun k_ hk_ => trivial)); have _ := aM hb; clear HB HO_3; rename_i HO107 HB; (try clear hb); (try clear hkp); (try clear ho0); obtain ⟨Ao48, co48, eo48⟩ := Kd.R_slice HO107.out; subst eo48))
     go_ret
     exact ⟨z674d, z5acd⟩

end Go.Proofs.Ytdkokfnnebdppaa.P

-- written by a program of this session's (wip/pp)
namespace Go.Proofs.Ytdkokfnnebdppaa.P
open Go.RowKit Go.Proofs.YtdkokfnnebdppaaW.PrintWords Go.Proofs.YtdkokfnnebdppaaW.PrintLast Go.Proofs.YtdkokfnnebdppaaW.PrintMore
attribute [local go_sem] max2_int min2_int max_two min_two max_three min_three max_four min_four str_geq str_gtr str_leq   -- for this text's walks alone
set_option linter.unusedVariables false
set_option linter.unusedSimpArgs false

/-! ### slices_Clone_int_int: function 92 -/
def slices_Clone_int_int.f (l0 : List Int) : Option (List Int) := (some (([] : List Int) : List Int)).bind fun y101 => (if y101.length + l0.length < 17592186044416 then (some (y101 ++ l0)) else (none))
set_option maxHeartbeats 8000000 in
set_option maxRecDepth 100000 in
theorem slices_Clone_int_int.callsN (A0 : Option Addr) (c0 : Nat) (l0 : List Int) (r : List Int) (w : World) (hr0 : Kd.C (Kd.int .i64) w A0 l0.length l0) (hc0 : l0.length ≤ c0) (hn0 : A0 ≠ none) (h : slices_Clone_int_int.f l0 = some r) :
 Calls Try.prog 92 #[.slice A0 l0.length c0] w fun e w' => ∃ v0_ : Value, e = .returned (v0_) ∧ Kd.R (Kd.int .i64) 3 w' w.heap.size (fun _ => True) v0_ r ∧ Below w.heap.size w w' := by
 have HR0 := aM hr0
 have HC0 := aM hc0
 clear hr0 hc0
 have HB := aM (Below.refl w.heap.size w)
 have H : ((some (([] : List Int) : List Int)).bind fun y101 => (if y101.length + l0.length < 17592186044416 then (some (y101 ++ l0)) else (none))) = some r := h
 clear h
 have hnil_ : ∀ W_ : World, (Go.binOp .eql 24 (.slice A0 l0.length c0) (.slice none 0 0)).run Try.prog W_ = .ok (.bool false) W_ := fun W_ => by have hz_ : A0.isNone = false := (by cases A0 with | none => exact absurd rfl hn0 | some _ => rfl); have hy_ := Go.Lib.run_eql_slice_nil (P := Try.prog) W_ 24 3 A0 l0.length c0 0 0 Try.underlying24; rw [hz_] at hy_; exact hy_
 obtain ⟨y101, hy101⟩ : ∃ y_ : List Int, y_ = (([] : List Int)) := ⟨_, rfl⟩
 first | (replace H := bindS H; rw [← hy101] at H; try dsimp only at H) | rw [← hy101] at H
 have Ny101 := aM hy101
 clear hy101
 replace H := ifS H; obtain ⟨c2, H⟩ := H
 have LMc2 := aM c2
 clear c2
 obtain ⟨y104, hy104⟩ : ∃ y_ : List Int, y_ = (y101 ++ l0) := ⟨_, rfl⟩
 first | (replace H := bindS H; rw [← hy104] at H; try dsimp only at H) | rw [← hy104] at H
 have Ny104 := aM hy104
 clear hy104
 obtain rfl := Option.some.inj H
 go_enter Try.func92, Try.ntmps92
 go_wp2_with (first | ((with_reducible refine gate_dst (N := 5) rfl ?_); refine Kd.R_lit (Kd.int .i64) _ 3 ?hg (N := 5) ?hd (xs := ([] : List Int)) (inner := []) (ok := fun _ => True) (okp := fun _ => True) ?hr ?hp (fun _ hk => hk) trivial (Below.refl _ _) (Nat.le_refl _) (by simp) ?_; (case hd => rfl); (case hg => rfl); (case hr => first | (go_simp; done) | (go_simp; rfl)); (case hp => exact (Reps.none _ _)); intro v102 w3 ho4 hb hg_ hnew_; clear hg_ hnew_; (first | rw [← Ny101.out] at ho4 | (simp only [Int.reduceToNat] at ho4; rw [← Ny101.out] at ho4)); have _ := aM (Kd.R_lower ho4 (below_size hbZ)); have _ := aM (below_step hbZ hb); clear HB; rename_i HO103 HB; clear hb ho4) | ((with_reducible refine gate_builtin (b := .append) (xs := #[.tmp 5, .tmp 6]) rfl ?_); at_builtin; refine Kd.R_append_rows (Kd.int .i64) (w0 := w) w.heap.size rfl (.tmp 5) (.tmp 6) 24 3 (.int .i64 0) 8 rfl Try.underlying24 info3 rfl (by decide) (by omega) v102 y101 l0 _ _ _ (fun _ => True) (fun _ => False) rfl rfl ?aO ?aR (fun _ _ h => h) (fun _ h => h.elim) ?aF ?aB ?aS ?aL ?_; (case aR => repeat (first | exact (Kd.C_below HR0.out HB.out) | (with_reducible refine Kd.C_alloc ?_ _) | (with_reducible refine Kd.C_drewN ?_ _) | (with_reducible refine Kd.C_drew ?_))); (case aB => exact hbZ); (case aF => exact (fun _ _ => trivial)); (case aO => exact (rZ HO103.out)); (case aS => exact (below_size hbZ)); (case aL => have := LMc2.out; omega); intro v105 w5 ho hb hg hat; rw [← Ny104.out] at ho; have _ := aM hb; have _ := aM ho; clear HB HO103; rename_i HB HO106; clear ho hb hg hat))
 go_ret
 exact ⟨_, z674d, rZ HO106.out, z5acd⟩
set_option maxHeartbeats 400000 in
theorem slices_Clone_int_int.calls (A0 : Option Addr) (c0 : Nat) (l0 : List Int) (r : List Int) (w : World) (hr0 : Kd.C (Kd.int .i64) w A0 l0.length l0) (hc0 : l0.length ≤ c0) (h : slices_Clone_int_int.f l0 = some r) :
 Calls Try.prog 92 #[.slice A0 l0.length c0] w fun e w' => ∃ v0_ : Value, e = .returned (v0_) ∧ Kd.R (Kd.int .i64) 3 w' w.heap.size (fun _ => True) v0_ r ∧ Below w.heap.size w w' := by
 by_cases hA_ : A0 = none
 · subst hA_
   have hl_ : l0 = [] := by
    rcases Nat.eq_zero_or_pos l0.length with hz | hz
    · exact List.eq_nil_of_length_eq_zero hz
    · obtain ⟨ad, e, _⟩ := hr0.2.2 hz; cases e
   subst hl_
   have hr_ : r = [] := by
    have h2 := h
    simp [slices_Clone_int_int.f] at h2
    first | exact h2 | exact h2.symm
   subst hr_
   have hnil_ := fun W_ : World => Go.Lib.run_eql_slice_nil (P := Try.prog) W_ 24 3 none 0 c0 0 0 Try.underlying24
   go_enter Try.func92, Try.ntmps92
   go_wp2
   go_ret
   exact ⟨_, rfl, Kd.R_nil _ _ _ _ _, Below.refl _ _⟩
 · exact slices_Clone_int_int.callsN A0 c0 l0 r w hr0 hc0 hA_ h

end Go.Proofs.Ytdkokfnnebdppaa.P

-- written by a program of this session's (wip/pp)
namespace Go.Proofs.Ytdkokfnnebdppaa.P
open Go.RowKit Go.Proofs.YtdkokfnnebdppaaW.PrintWords Go.Proofs.YtdkokfnnebdppaaW.PrintLast Go.Proofs.YtdkokfnnebdppaaW.PrintMore
attribute [local go_sem] max2_int min2_int max_two min_two max_three min_three max_four min_four str_geq str_gtr str_leq   -- for this text's walks alone
set_option linter.unusedVariables false
set_option linter.unusedSimpArgs false

/-! ### impl_Entry_cloned: function 72 -/
def impl_Entry_cloned.f (a0_0 : ByteArray) (a0_1 : Int) (a0_2 : Int) (a0_3 : Int) (a0_4 : Int) (a0_5 : Int) (a0_6 : Int) (l0_7 : List Int) (a0_8 : Bool) : Option (ByteArray × Int × Int × Int × Int × Int × Int × List Int × Bool) := (slices_Clone_int_int.f l0_7).bind fun t103 => (some (a0_0, a0_1, a0_2, a0_3, a0_4, a0_5, a0_6, t103, a0_8))
set_option maxHeartbeats 8000000 in
set_option maxRecDepth 100000 in
theorem impl_Entry_cloned.calls (a0_0 : ByteArray) (a0_1 : Int) (a0_2 : Int) (a0_3 : Int) (a0_4 : Int) (a0_5 : Int) (a0_6 : Int) (A0_7 : Option Addr) (c0_7 : Nat) (l0_7 : List Int) (a0_8 : Bool) (r1 : ByteArray) (r2 : Int) (r3 : Int) (r4 : Int) (r5 : Int) (r6 : Int) (r7 : Int) (r8 : List Int) (r9 : Bool) (w : World) (hr0_7 : Kd.C (Kd.int .i64) w A0_7 l0_7.length l0_7) (hc0_7 : l0_7.length ≤ c0_7) (h : impl_Entry_cloned.f a0_0 a0_1 a0_2 a0_3 a0_4 a0_5 a0_6 l0_7 a0_8 = some (r1, r2, r3, r4, r5, r6, r7, r8, r9)) :
 Calls Try.prog 72 #[.agg #[.string a0_0, .int .i64 a0_1, .int .i64 a0_2, .int .i64 a0_3, .int .i64 a0_4, .int .i64 a0_5, .int .i64 a0_6, .slice A0_7 l0_7.length c0_7, .bool a0_8]] w fun e w' => ∃ v7_ : Value, e = .returned (.agg #[.string r1, .int .i64 r2, .int .i64 r3, .int .i64 r4, .int .i64 r5, .int .i64 r6, .int .i64 r7, v7_, .bool r9]) ∧ Kd.R (Kd.int .i64) 3 w' w.heap.size (fun _ => True) v7_ r8 ∧ Below w.heap.size w w' := by
 have hu45 := Try.underlying45
 have HR0_7 := aM hr0_7
 have HC0_7 := aM hc0_7
 clear hr0_7 hc0_7
 have HB := aM (Below.refl w.heap.size w)
 have H : ((slices_Clone_int_int.f l0_7).bind fun t103 => (some (a0_0, a0_1, a0_2, a0_3, a0_4, a0_5, a0_6, t103, a0_8))) = some (r1, r2, r3, r4, r5, r6, r7, r8, r9) := h
 clear h
 replace H := Option.bind_eq_some_iff.mp H
 obtain ⟨t103, A20, H⟩ := H
 try dsimp only at H
 have A2 := aM A20
 clear A20
 simp only [Option.some.injEq, Prod.mk.injEq] at H
 obtain ⟨rfl, rfl, rfl, rfl, rfl, rfl, rfl, rfl, rfl⟩ := H
 go_enter Try.func72, Try.ntmps72
 go_wp2_with (first | ((with_reducible refine gate_dst (N := 1) rfl ?_); refine box_event ?hg (N := 1) ?hd (cs := #[.string a0_0, .int .i64 a0_1, .int .i64 a0_2, .int .i64 a0_3, .int .i64 a0_4, .int .i64 a0_5, .int .i64 a0_6, .slice A0_7 l0_7.length c0_7, .bool a0_8]) (t := 45) ?hr ?_; (case hd => rfl); (case hg => rfl); (case hr => first | (go_simp; done) | (go_simp; rfl)); intro gb101 hg w3 hbox hb; have _ := aM (below_step hbZ hb); have _ := aM hbox; have _ := szZ hg; have _ := szZ hg; clear HB; rename_i HB BK101 GW101 GE101; clear hb hbox hg) | ((with_reducible refine gate_dst (N := 2) rfl ?_); refine box_event ?hg (N := 2) ?hd (cs := #[.string (⟨#[]⟩ : ByteArray), .int .i64 0, .int .i64 0, .int .i64 0, .int .i64 0, .int .i64 0, .int .i64 0, .slice none 0 0, .bool false]) (t := 45) ?hr ?_; (case hd => rfl); (case hg => rfl); (case hr => first | (go_simp; done) | (go_simp; rfl)); intro gb102 hg w4 hbox hb; have _ := bB gb101 hb; have _ := aM (below_step hbZ hb); have _ := aM hbox; have _ := szZ hg; have _ := szZ hg; have ⟨_, _⟩ := nbB gb101 hg; clear BK101 HB; rename_i BK101 HB BK102 GW102 GE102 NB101_102 NB102_101; clear hb hbox hg; have hnb5 := NB101_102.out; have hnc5 := NB102_101.out; obtain ⟨hcz6_0, hcz6_1, hcz6_2, hcz6_3, hcz6_4, hcz6_5, hcz6_6, hcz6_7, hcz6_8, hfz6_0, hfz6_1, hfz6_2, hfz6_3, hfz6_4, hfz6_5, hfz6_6, hfz6_7, hfz6_8⟩ := cellsZ9 BK101.out) | ((with_reducible refine gate_callee (f := 92) rfl ?_); refine goesL_ (some 6) rfl rfl Try.func92 (by kernel_rfl) rfl #[.slice A0_7 l0_7.length c0_7] rfl zee81 ?_; (with_reducible refine (slices_Clone_int_int.calls _ _ l0_7 t103 _ ?side1 ?side2 A2.out).mono ?_); (case side1 => exact (cZ (Kd.C_below HR0_7.out HB.out))); (case side2 => exact HC0_7.out); rintro e w7 ⟨v104, rfl, ho0, hb⟩; refine ⟨_, rfl, ?_⟩; have _ := aM (Kd.R_lower ho0 (below_size hbZ)); have _ := bB gb101 hb; have _ := bB gb102 hb; have _ := aM (below_step hbZ hb); clear BK101 BK102 HB; rename_i HO105 BK101 BK102 HB; (try clear hb); (try clear ho0); obtain ⟨Ao8, co8, eo8⟩ := Kd.R_slice HO105.out; subst eo8; obtain ⟨hcz9_0, hcz9_1, hcz9_2, hcz9_3, hcz9_4, hcz9_5, hcz9_6, hcz9_7, hcz9_8, hfz9_0, hfz9_1, hfz9_2, hfz9_3, hfz9_4, hfz9_5, hfz9_6, hfz9_7, hfz9_8⟩ := cellsZ9 BK101.out; obtain ⟨hcz10_0, hcz10_1, hcz10_2, hcz10_3, hcz10_4, hcz10_5, hcz10_6, hcz10_7, hcz10_8, hfz10_0, hfz10_1, hfz10_2, hfz10_3, hfz10_4, hfz10_5, hfz10_6, hfz10_7, hfz10_8⟩ := cellsZ9 BK102.out))
 refine bodyPost_ret (results_cell_row rfl _ _ gb102 45 #[.string a0_0, .int .i64 a0_1, .int .i64 a0_2, .int .i64 a0_3, .int .i64 a0_4, .int .i64 a0_5, .int .i64 a0_6, .slice Ao8 t103.length co8, .bool a0_8] (0, 0) _ rfl bkZ Try.underlying45 rfl (by kernel_rfl)) rfl ?_
 exact ⟨_, z674d, by (with_reducible repeat (first | apply Kd.R_alloc | apply Kd.R_drewN | apply Kd.R_drew)); exact Kd.R_mono (Kd.R_far (p := ⟨gb102, 8, none⟩) (Kd.R_far (p := ⟨gb102, 7, none⟩) (Kd.R_far (p := ⟨gb102, 6, none⟩) (Kd.R_far (p := ⟨gb102, 5, none⟩) (Kd.R_far (p := ⟨gb102, 4, none⟩) (Kd.R_far (p := ⟨gb102, 3, none⟩) (Kd.R_far (p := ⟨gb102, 2, none⟩) (Kd.R_far (p := ⟨gb102, 1, none⟩) (Kd.R_far (p := ⟨gb102, 0, none⟩) (Kd.R_far (p := ⟨gb101, 7, none⟩) (Kd.R_types (Kd.R_types HO105.out BK101.out (by decide)) BK102.out (by decide)) (fun _ hk => hk.1.2) (.slice Ao8 t103.length co8)) (fun _ hk => hk.2) (.string a0_0)) (fun _ hk => hk.2) (.int .i64 a0_1)) (fun _ hk => hk.2) (.int .i64 a0_2)) (fun _ hk => hk.2) (.int .i64 a0_3)) (fun _ hk => hk.2) (.int .i64 a0_4)) (fun _ hk => hk.2) (.int .i64 a0_5)) (fun _ hk => hk.2) (.int .i64 a0_6)) (fun _ hk => hk.2) (.slice Ao8 t103.length co8)) (fun _ hk => hk.2) (.bool a0_8)) (fun _ hk => trivial), zcb41⟩

end Go.Proofs.Ytdkokfnnebdppaa.P

-- written by a program of this session's (wip/pp)
namespace Go.Proofs.Ytdkokfnnebdppaa.P
open Go.RowKit Go.Proofs.YtdkokfnnebdppaaW.PrintWords Go.Proofs.YtdkokfnnebdppaaW.PrintLast Go.Proofs.YtdkokfnnebdppaaW.PrintMore
attribute [local go_sem] max2_int min2_int max_two min_two max_three min_three max_four min_four str_geq str_gtr str_leq   -- for this text's walks alone
set_option linter.unusedVariables false
set_option linter.unusedSimpArgs false

/-! ### impl_noAgg: function 71 -/
def impl_noAgg.f  : Option (Int × Int × Int × Int × List Int × Bool) := if 8 ≤ 35184372088832 then (some (0, 0, 0, 0, (List.replicate 8 0), false)) else (none)
set_option maxHeartbeats 8000000 in
set_option maxRecDepth 100000 in
theorem impl_noAgg.calls  (r1 : Int) (r2 : Int) (r3 : Int) (r4 : Int) (r5 : List Int) (r6 : Bool) (w : World) (h : impl_noAgg.f  = some (r1, r2, r3, r4, r5, r6)) :
 Calls Try.prog 71 #[] w fun e w' => ∃ v4_ : Value, e = .returned (.agg #[.int .i64 r1, .int .i64 r2, .int .i64 r3, .int .i64 r4, v4_, .bool r6]) ∧ Kd.R (Kd.int .i64) 3 w' w.heap.size (fun _ => True) v4_ r5 ∧ Below w.heap.size w w' := by
 have hu26 := Try.underlying26
 have HB := aM (Below.refl w.heap.size w)
 have H : (if 8 ≤ 35184372088832 then (some (0, 0, 0, 0, (List.replicate 8 0), false)) else (none)) = some (r1, r2, r3, r4, r5, r6) := h
 clear h
 by_cases c1 : 8 ≤ 35184372088832
 · rw [if_pos c1] at H
   have c1b0 := eq_true c1
   have c1b1 : decide (8 ≤ 35184372088832) = true := decide_eq_true c1
   clear c1
   obtain ⟨y102, hy102⟩ : ∃ y_ : List Int, y_ = (List.replicate 8 0) := ⟨_, rfl⟩
   replace H : (some (0, 0, 0, 0, y102, false)) = some (r1, r2, r3, r4, r5, r6) := by first | (rw [hy102]; with_reducible exact H) | (have H2_ := (Option.bind_some _ _).symm.trans H; rw [hy102]; with_reducible exact H2_) | (have H2_ := (Option.bind_some _ _).symm.trans H; with_reducible exact H2_) | with_reducible exact H | (rw [hy102]; exact H) | exact H
   have Ny102 := aM hy102
   clear hy102
   simp only [Option.some.injEq, Prod.mk.injEq] at H
   obtain ⟨rfl, rfl, rfl, rfl, rfl, rfl⟩ := H
   go_enter Try.func71, Try.ntmps71
   go_wp2_with (first | ((with_reducible refine gate_dst (N := 0) rfl ?_); refine box_event ?hg (N := 0) ?hd (cs := #[.int .i64 0, .int .i64 0, .int .i64 0, .int .i64 0, .slice none 0 0, .bool false]) (t := 26) ?hr ?_; (case hd => rfl); (case hg => rfl); (case hr => first | (go_simp; done) | (go_simp; rfl)); intro gb101 hg w2 hbox hb; have _ := aM (below_step hbZ hb); have _ := aM hbox; have _ := szZ hg; have _ := szZ hg; clear HB; rename_i HB BK101 GW101 GE101; clear hb hbox hg) | ((with_reducible refine gate_dst (N := 1) rfl ?_); refine Kd.R_make (Kd.int .i64) _ 3 rfl (N := 1) rfl 24 _ _ rfl 8 rfl rfl Try.underlying24 (.int .i64 0) 8 info3 rfl (by decide) (by omega) 0 (ok := fun _ => True) (okp := fun _ => True) rfl (fun _ hk => hk) trivial (by omega) (by omega) (Below.refl _ _) (Nat.le_refl _) ?_; intro v103 w3 ho4 hb hg_ hnew_; clear hg_ hnew_; (first | rw [← Ny102.out] at ho4 | (simp only [Int.reduceToNat] at ho4; rw [← Ny102.out] at ho4)); have _ := aM (Kd.R_lower ho4 (below_size hbZ)); have _ := bB gb101 hb; have _ := aM (below_step hbZ hb); clear BK101 HB; rename_i HO104 BK101 HB; clear hb ho4; obtain ⟨Ao5, co5, eo5⟩ := Kd.R_slice HO104.out; subst eo5; obtain ⟨hcz6_0, hcz6_1, hcz6_2, hcz6_3, hcz6_4, hcz6_5, hfz6_0, hfz6_1, hfz6_2, hfz6_3, hfz6_4, hfz6_5⟩ := cellsZ6 BK101.out))
   refine bodyPost_ret (results_cell_row rfl _ _ gb101 26 #[.int .i64 0, .int .i64 0, .int .i64 0, .int .i64 0, .slice Ao5 y102.length co5, .bool false] (0, 0) _ rfl bkZ Try.underlying26 rfl (by kernel_rfl)) rfl ?_
   exact ⟨_, z674d, by (with_reducible repeat (first | apply Kd.R_alloc | apply Kd.R_drewN | apply Kd.R_drew)); exact Kd.R_mono (Kd.R_far (p := ⟨gb101, 5, none⟩) (Kd.R_far (p := ⟨gb101, 4, none⟩) (Kd.R_far (p := ⟨gb101, 3, none⟩) (Kd.R_far (p := ⟨gb101, 2, none⟩) (Kd.R_far (p := ⟨gb101, 1, none⟩) (Kd.R_far (p := ⟨gb101, 0, none⟩) (Kd.R_types HO104.out BK101.out (by decide)) (fun _ hk => hk.2) (.int .i64 0)) (fun _ hk => hk.2) (.int .i64 0)) (fun _ hk => hk.2) (.int .i64 0)) (fun _ hk => hk.2) (.int .i64 0)) (fun _ hk => hk.2) (.slice Ao5 y102.length co5)) (fun _ hk => hk.2) (.bool false)) (fun _ hk => trivial), zcb41⟩
 · rw [if_neg c1] at H
   exact absurd H (by simp)

end Go.Proofs.Ytdkokfnnebdppaa.P

-- written by a program of this session's (wip/pp)
namespace Go.Proofs.Ytdkokfnnebdppaa.P
open Go.RowKit Go.Proofs.YtdkokfnnebdppaaW.PrintWords Go.Proofs.YtdkokfnnebdppaaW.PrintLast Go.Proofs.YtdkokfnnebdppaaW.PrintMore
attribute [local go_sem] max2_int min2_int max_two min_two max_three min_three max_four min_four str_geq str_gtr str_leq   -- for this text's walks alone
set_option linter.unusedVariables false
set_option linter.unusedSimpArgs false

/-! ### impl_joined_1: function 93 -/
def impl_joined_1.f (a0 : Int) (s : Bool) : Option (Int × Bool) := some (mn a0 1000000000, s || decide (a0 > 1000000000))
theorem impl_joined_1.self {w : World} {g : Nat} {t : TypeId} {cs : Array Value} (hb : w.heap[g]? = some (.cells cs t (0, 0))) (i : Nat) (u : Value) (hu : cs[i]? = some u) : w.setCell ⟨g, i, none⟩ u = w := by
 have hc : cs.setIfInBounds i u = cs := by
  apply Array.ext_getElem?
  intro j
  rw [Array.getElem?_setIfInBounds]
  split
  · rename_i e
    subst e
    split
    · exact hu.symm
    · rename_i h
      rw [Array.getElem?_eq_none (by omega)]
  · rfl
 unfold World.setCell
 have hm : ∀ f : Obj → Obj, f (.cells cs t (0, 0)) = .cells cs t (0, 0) → w.heap.modify g f = w.heap := by
  intro f hf
  apply Array.ext_getElem?
  intro j
  rw [Array.getElem?_modify]
  split
  · rename_i e
    subst e
    rw [hb, Option.map_some, hf]
  · rfl
 rw [hm _ (by simp [hc])]
theorem impl_joined_1.run {P : Program} {oi : Oper} {a : Act} {w : World} {f : FuncId} {fn : Func} {t : Operand} {xs : Array Operand} {ts : Array TypeId} {cap : Array Value} (hf : P.funcs[f]? = some fn) (hname : (fn.name == "runtime.NumGoroutine") = false) (hb : fn.body.isSome = true) (args : Array Value)
 (hop : oi.op = .call { callee := .value t, args := xs, argTypes := ts }) (hv : a.eval t = .func (.func f) #[] cap) (hargs : xs.map a.eval ++ cap = args) : (execOp a.eval oi).run P w = .ok (.enter f args) w := by
 have he := enters_ hf hname hb args w
 unfold execOp
 simp only [hop, resolve]
 rw [hv]
 simp [Deferred.ofValue, invoke, hargs, he]
theorem impl_joined_1.calls (a0 : Int) (g : Nat) (c0 c1 c2 c3 c4 : Value) (s : Bool) (r1 : Int) (r2 : Bool) (w : World) (hb : w.heap[g]? = some (.cells #[c0, c1, c2, c3, c4, .bool s] 26 (0, 0))) (h : impl_joined_1.f a0 s = some (r1, r2)) :
 Calls Try.prog 93 #[.int .i64 a0, .pointer (some ⟨g, 0, none⟩)] w fun e w' => e = .returned (.int .i64 r1) ∧ w' = w.setCell ⟨g, 5, none⟩ (.bool r2) := by
 have hz : w.cell? ⟨g, 5, none⟩ = some (.bool s) := (blk_cell hb 5).trans rfl
 have hf := blk_frozen hb 5
 unfold impl_joined_1.f at h
 injection h with h
 injection h with h1 h2
 subst h1 h2
 by_cases c : a0 > 1000000000
 · have cb : decide (a0 > 1000000000) = true := decide_eq_true c
   rw [cb, Bool.or_true, show mn a0 1000000000 = 1000000000 from by unfold mn; rw [if_pos (by omega)]]
   go_enter Try.func93, Try.ntmps93
   go_wp2
   go_ret
   exact ⟨rfl, rfl⟩
 · have cb : decide (a0 > 1000000000) = false := decide_eq_false c
   rw [cb, Bool.or_false, show mn a0 1000000000 = a0 from by unfold mn; rw [if_neg (by omega)], impl_joined_1.self hb 5 (.bool s) rfl]
   go_enter Try.func93, Try.ntmps93
   go_wp2
   go_ret
   exact ⟨rfl, rfl⟩

end Go.Proofs.Ytdkokfnnebdppaa.P
