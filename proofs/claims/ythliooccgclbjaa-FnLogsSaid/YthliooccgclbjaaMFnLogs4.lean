/- Part 4 of the walks and words that FnLogs uses. No conditions of its own. -/
import Derived.Laws.BitsAllLaws
import Derived.Test.YthliooccgclbjaaMFnLogs3

-- written by a program of this session's (wip/pp)
namespace Go.Proofs.Ythliooccgclbjaa.P
open Go.RowKit Go.Proofs.YthliooccgclbjaaW.PrintWords Go.Proofs.YthliooccgclbjaaW.PrintLast Go.Proofs.YthliooccgclbjaaW.PrintMore
attribute [local go_sem] max2_int min2_int max_two min_two max_three min_three max_four min_four   -- for this text's walks alone
set_option linter.unusedVariables false
set_option linter.unusedSimpArgs false

/-! ### spec_l3Pieces: function 53 -/
mutual
def spec_l3Pieces.l0 : Nat → Int → List Int → List Int → Bool → Option (List Int)
 | 0, _, _, _, _ => none
 | k + 1, x0, x1, x5, x6 => if (wrap64 (64 - (Int.tmod (wrap64 (x0 + (x5.length : Int))) 64))) < 6 then (if 0 ≤ (wrap64 (64 - (Int.tmod (wrap64 (x0 + (x5.length : Int))) 64))) then (if x5.length + (wrap64 (64 - (Int.tmod (wrap64 (x0 + (x5.length : Int))) 64)) : Int).toNat < 140737488355328 then (spec_l3Pieces.l0 k x0 x1 (x5 ++ List.replicate (wrap64 (64 - (Int.tmod (wrap64 (x0 + (x5.length : Int))) 64)) : Int).toNat 0) x6) else (none)) else (none)) else (if (wrap64 ((wrap64 (64 - (Int.tmod (wrap64 (x0 + (x5.length : Int))) 64))) - 6)) > (x1.length : Int) then (spec_l3Pieces.j1 k x0 x1 x5 x6 (x1.length : Int)) else (spec_l3Pieces.j1 k x0 x1 x5 x6 (wrap64 ((wrap64 (64 - (Int.tmod (wrap64 (x0 + (x5.length : Int))) 64))) - 6))))
def spec_l3Pieces.j1 : Nat → Int → List Int → List Int → Bool → Int → Option (List Int)
 | 0, _, _, _, _, _ => none
 | k + 1, x0, x1, x5, x6, x8 => if x6 = true then (spec_l3Pieces.j2 k x0 x1 x5 x6 x8 (x8 == (x1.length : Int)) 3 (x8 == (x1.length : Int))) else (spec_l3Pieces.j2 k x0 x1 x5 x6 x8 (x8 == (x1.length : Int)) 3 false)
def spec_l3Pieces.j3 : Nat → Int → List Int → List Int → Int → Bool → Int → Option (List Int)
 | 0, _, _, _, _, _, _ => none
 | k + 1, x0, x1, x5, x8, x9, x10 => (some (([(x10) % 256] : List Int) : List Int)).bind fun y104 => (if 0 ≤ x8 then (if x8 ≤ (x1.length : Int) then ((some (x1.take (x8 : Int).toNat : List Int)).bind fun y107 => (if y104.length + y107.length < 140737488355328 then ((some (y104 ++ y107 : List Int)).bind fun y112 => ((spec_l1Crc.f k y112).bind fun t115 => ((spec_l1Fixed.f k (wrap64 (t115)) 4).bind fun t116 => (if x5.length + t116.length < 140737488355328 then ((some (x5 ++ t116 : List Int)).bind fun y119 => (if y119.length < 140737488355328 then ((some (y119 ++ [(x8) % 256] : List Int)).bind fun y122 => (if y122.length + y112.length < 140737488355328 then ((some (y122 ++ y112 : List Int)).bind fun y125 => (if x9 = true then (some y125) else (spec_l3Pieces.l0 k x0 (x1.drop (x8 : Int).toNat) y125 false))) else (none))) else (none))) else (none))))) else (none))) else (none)) else (none))
def spec_l3Pieces.j2 : Nat → Int → List Int → List Int → Bool → Int → Bool → Int → Bool → Option (List Int)
 | 0, _, _, _, _, _, _, _, _ => none
 | k + 1, x0, x1, x5, x6, x8, x9, x10, x35 => if x35 = true then (spec_l3Pieces.j3 k x0 x1 x5 x8 x9 1) else (if x6 = true then (spec_l3Pieces.j3 k x0 x1 x5 x8 x9 2) else (if x9 = true then (spec_l3Pieces.j3 k x0 x1 x5 x8 x9 4) else (spec_l3Pieces.j3 k x0 x1 x5 x8 x9 x10)))
end
def spec_l3Pieces.f (k : Nat) (a0 : Int) (l1 : List Int) : Option (List Int) := spec_l3Pieces.l0 k a0 l1 ([] : List Int) true
theorem spec_l3Pieces.mono_l : ∀ k, (∀ y0 y1 y2 y3, LeO (spec_l3Pieces.l0 k y0 y1 y2 y3) (spec_l3Pieces.l0 (k + 1) y0 y1 y2 y3)) ∧ (∀ y0 y1 y2 y3 y4, LeO (spec_l3Pieces.j1 k y0 y1 y2 y3 y4) (spec_l3Pieces.j1 (k + 1) y0 y1 y2 y3 y4)) ∧ (∀ y0 y1 y2 y3 y4 y5, LeO (spec_l3Pieces.j3 k y0 y1 y2 y3 y4 y5) (spec_l3Pieces.j3 (k + 1) y0 y1 y2 y3 y4 y5)) ∧ (∀ y0 y1 y2 y3 y4 y5 y6 y7, LeO (spec_l3Pieces.j2 k y0 y1 y2 y3 y4 y5 y6 y7) (spec_l3Pieces.j2 (k + 1) y0 y1 y2 y3 y4 y5 y6 y7))
 | 0 => ⟨fun _ _ _ _ r h => by simp [spec_l3Pieces.l0] at h, fun _ _ _ _ _ r h => by simp [spec_l3Pieces.j1] at h, fun _ _ _ _ _ _ r h => by simp [spec_l3Pieces.j3] at h, fun _ _ _ _ _ _ _ _ r h => by simp [spec_l3Pieces.j2] at h⟩
 | k + 1 => by
  obtain ⟨ih0, ih1, ih2, ih3⟩ := spec_l3Pieces.mono_l k
  refine ⟨?_, ?_, ?_, ?_⟩
  · intro y0 y1 y2 y3
    unfold spec_l3Pieces.l0
    repeat' first
     | (with_reducible first | exact ih0 .. | exact ih1 .. | exact ih2 .. | exact ih3 .. | exact spec_l1Crc.mono .. | exact spec_l1Fixed.mono .. | exact LeO.refl _ | exact LeO.none _ | refine LeO.ite ?_ ?_ | refine LeO.bind ?_ (fun _ => ?_))
     | exact LeO.none _
     | refine LeO.ite ?_ ?_
     | refine LeO.bind ?_ (fun _ => ?_)
  · intro y0 y1 y2 y3 y4
    unfold spec_l3Pieces.j1
    repeat' first
     | (with_reducible first | exact ih0 .. | exact ih1 .. | exact ih2 .. | exact ih3 .. | exact spec_l1Crc.mono .. | exact spec_l1Fixed.mono .. | exact LeO.refl _ | exact LeO.none _ | refine LeO.ite ?_ ?_ | refine LeO.bind ?_ (fun _ => ?_))
     | exact LeO.none _
     | refine LeO.ite ?_ ?_
     | refine LeO.bind ?_ (fun _ => ?_)
  · intro y0 y1 y2 y3 y4 y5
    unfold spec_l3Pieces.j3
    repeat' first
     | (with_reducible first | exact ih0 .. | exact ih1 .. | exact ih2 .. | exact ih3 .. | exact spec_l1Crc.mono .. | exact spec_l1Fixed.mono .. | exact LeO.refl _ | exact LeO.none _ | refine LeO.ite ?_ ?_ | refine LeO.bind ?_ (fun _ => ?_))
     | exact LeO.none _
     | refine LeO.ite ?_ ?_
     | refine LeO.bind ?_ (fun _ => ?_)
  · intro y0 y1 y2 y3 y4 y5 y6 y7
    unfold spec_l3Pieces.j2
    repeat' first
     | (with_reducible first | exact ih0 .. | exact ih1 .. | exact ih2 .. | exact ih3 .. | exact spec_l1Crc.mono .. | exact spec_l1Fixed.mono .. | exact LeO.refl _ | exact LeO.none _ | refine LeO.ite ?_ ?_ | refine LeO.bind ?_ (fun _ => ?_))
     | exact LeO.none _
     | refine LeO.ite ?_ ?_
     | refine LeO.bind ?_ (fun _ => ?_)
theorem spec_l3Pieces.mono : ∀ a0 a1 k, LeO (spec_l3Pieces.f k a0 a1) (spec_l3Pieces.f (k + 1) a0 a1) := by
 intro a0 a1 k
 obtain ⟨ih0, ih1, ih2, ih3⟩ := spec_l3Pieces.mono_l k
 unfold spec_l3Pieces.f
 repeat' first
  | (with_reducible first | exact ih0 .. | exact ih1 .. | exact ih2 .. | exact ih3 .. | exact spec_l1Crc.mono .. | exact spec_l1Fixed.mono .. | exact LeO.refl _ | exact LeO.none _ | refine LeO.ite ?_ ?_ | refine LeO.bind ?_ (fun _ => ?_))
  | exact LeO.none _
  | refine LeO.ite ?_ ?_
  | refine LeO.bind ?_ (fun _ => ?_)
set_option maxHeartbeats 8000000 in
set_option maxRecDepth 100000 in
theorem spec_l3Pieces.calls (k : Nat) (a0 : Int) (P1_ : Nat → Prop) (A1 : Option Addr) (c1 : Nat) (l1 : List Int) (r : List Int) (w : World) (hs1 : Kd.V (Kd.int .u8) 5 w w.heap.size (fun k_ => P1_ k_) (.slice A1 l1.length c1) l1) (h : spec_l3Pieces.f k a0 l1 = some r) :
 Calls Try.prog 53 #[.int .i64 a0, .slice A1 l1.length c1] w fun e w' => ∃ v0_ : Value, e = .returned (v0_) ∧ Kd.R (Kd.int .u8) 5 w' w.heap.size (fun k_ => (w.heap.size ≤ k_)) v0_ r ∧ Below w.heap.size w w' := by
 have HO1 := Aside0.mk (show Kd.V (Kd.int .u8) 5 w w.heap.size (fun k_ => (P1_ k_ ∨ w.heap.size ≤ k_)) (.slice A1 l1.length c1) l1 from Kd.V_mono hs1 (fun k_ hk => .inl hk))
 have HB := Aside0.mk (Below.refl w.heap.size w)
 have H : (spec_l3Pieces.l0 k a0 l1 ([] : List Int) true) = some r := h
 clear h
 have H' := Aside0.mk H
 clear H
 go_enter Try.func53, Try.ntmps53
 go_wp2
 go_loopg [1, 5, 6] k (fun kq v1 v5 v6 w' => ∃ (x1_1 : List Int) (x5_1 : List Int) (x6_1 : Bool), v6 = .bool x6_1 ∧ Aside0 (spec_l3Pieces.l0 kq a0 x1_1 x5_1 x6_1 = some r) ∧ Aside0 (kq ≤ k) ∧ Aside0 (Kd.V (Kd.int .u8) 5 w' w.heap.size (fun k_ => (P1_ k_ ∨ w.heap.size ≤ k_) ∧ some k_ ≠ (v5 : Value).ownBlock) v1 x1_1) ∧ Aside0 (Kd.R (Kd.int .u8) 5 w' w.heap.size (fun k_ => (w.heap.size ≤ k_)) v5 x5_1) ∧ Aside0 (Below w.heap.size w w'))
 case atStart => exact ⟨(l1), (([] : List Int)), (true), z4458, H', ⟨Nat.le_refl _⟩, ⟨by (with_reducible repeat (first | apply Kd.V_alloc | apply Kd.V_drewN | apply Kd.V_drew)); exact Kd.V_mono HO1.out (fun _ hk => ⟨hk, (by simp [Value.ownBlock])⟩)⟩, ⟨z02fa⟩, ⟨z5acd⟩⟩
 case round =>
  clear H'
  try clear c1
  try clear p2
  obtain ⟨x1_1, x5_1, x6_1, rfl, HA, HK1, HO_1, HO_5, HB⟩ := hrel
  cases gk with
  | zero => exact absurd HA.out (by simp [spec_l3Pieces.l0])
  | succ k1 =>
   have H := HA.out
   clear HA
   simp only [spec_l3Pieces.l0] at H
   by_cases c3 : (wrap64 (64 - (Int.tmod (wrap64 (a0 + (x5_1.length : Int))) 64))) < 6
   · rw [if_pos c3] at H
     have c3b0 : decide ((wrap64 (64 - (Int.tmod (wrap64 (a0 + (x5_1.length : Int))) 64))) < 6) = true := decide_eq_true c3
     clear c3
     obtain ⟨ji4, hji4⟩ : ∃ j_ : Int, (wrap64 (64 - (Int.tmod (wrap64 (a0 + (x5_1.length : Int))) 64))) = j_ := ⟨_, rfl⟩
     replace H : (if 0 ≤ (ji4) then (if x5_1.length + (ji4 : Int).toNat < 140737488355328 then (spec_l3Pieces.l0 k1 a0 x1_1 (x5_1 ++ List.replicate (ji4 : Int).toNat 0) x6_1) else (none)) else (none)) = some r := by first | (rw [hji4] at H; exact H) | (simp only [hji4] at H ⊢; exact H)
     (try rw [hji4] at c3b0)
     have hji4w : (IntKind.i64.wrap (64 - (Int.tmod (wrap64 (a0 + (x5_1.length : Int))) 64))) = ji4 := (i64_w _).trans hji4
     by_cases c5 : 0 ≤ (ji4)
     · rw [if_pos c5] at H
       have c5b0 := eq_true c5
       have c5b1 : decide (0 ≤ (ji4)) = true := decide_eq_true c5
       clear c5
       by_cases c6 : x5_1.length + (ji4 : Int).toNat < 140737488355328
       · rw [if_pos c6] at H
         have LMc6 := Aside0.mk c6
         clear c6
         obtain ⟨y101, hy101⟩ : ∃ y_ : List Int, y_ = (x5_1 ++ List.replicate (ji4 : Int).toNat 0) := ⟨_, rfl⟩
         replace H : (spec_l3Pieces.l0 k1 a0 x1_1 y101 x6_1) = some r := by first | (rw [hy101]; with_reducible exact H) | (have H2_ := (Option.bind_some _ _).symm.trans H; rw [hy101]; with_reducible exact H2_) | (have H2_ := (Option.bind_some _ _).symm.trans H; with_reducible exact H2_) | with_reducible exact H | (rw [hy101]; exact H) | exact H
         have Ny101 := Aside0.mk hy101
         clear hy101
         have H' := Aside0.mk H
         clear H
         obtain ⟨Ao7, co7, eo7⟩ := Kd.R_slice HO_5.out
         subst eo7
         go_wp2_with (first | (at_builtin; refine Kd.R_append_zeros (Kd.int .u8) (w0 := w) w.heap.size rfl (.tmp 20) (.tmp 21) 22 3 5 (.int .u8 0) 1 rfl Try.underlying22 Try.underlying3 info5 rfl (by decide) (by omega) (.slice Ao7 x5_1.length co7) x5_1 0 (ji4 : Int) (fun k_ => (w.heap.size ≤ k_)) rfl rfl rfl ?aF ?aO (of_decide_eq_true z1200) ?aB ?aS ?aL ?_; (case aB => exact hbZ); (case aF => exact (fun k_ hk => (Nat.le_trans (below_size hbZ) hk))); (case aO => exact (rZ HO_5.out)); (case aS => exact (below_size hbZ)); (case aL => have := LMc6.out; omega); intro v102 w8 ho hb hg hat; rw [← Ny101.out] at ho; have n0_ := Aside0.mk (Kd.V_afterv (ok := (fun k_ => (P1_ k_ ∨ w.heap.size ≤ k_))) (vZ HO_1.out) hg hat); have n1_ := Aside0.mk hb; have n2_ := Aside0.mk ho; clear HO_1 HB HO_5; have HO_1 := n0_; have HB := n1_; have HO103 := n2_; clear n0_ n1_ n2_; clear ho hb hg hat))
         go_roundg k1
         case measure => have := HK1.out; omega
         case rel => exact ⟨(x1_1), (y101), (x6_1), z4458, H', ⟨zfb39⟩, ⟨vZ HO_1.out⟩, ⟨rZ HO103.out⟩, ⟨z5acd⟩⟩
       · rw [if_neg c6] at H
         exact absurd H (by simp)
     · rw [if_neg c5] at H
       exact absurd H (by simp)
   · rw [if_neg c3] at H
     have c3b0 : decide ((wrap64 (64 - (Int.tmod (wrap64 (a0 + (x5_1.length : Int))) 64))) < 6) = false := decide_eq_false c3
     clear c3
     have HC9 := Aside0.mk H
     clear H
     obtain ⟨Ao10, co10, eo10⟩ := Kd.R_slice HO_5.out
     subst eo10
     obtain ⟨Ao11, co11, eo11⟩ := Kd.V_slice HO_1.out
     subst eo11
     go_upto_if 28 with (fail)
     go_cut [8] (fun v8 wc => ∃ (kq : Nat) (x8_8 : Int), v8 = .int .i64 x8_8 ∧ Aside0 (spec_l3Pieces.j1 kq a0 x1_1 x5_1 x6_1 x8_8 = some r) ∧ Aside0 (kq ≤ k1) ∧ Aside0 (Kd.V (Kd.int .u8) 5 wc w.heap.size (fun k_ => (P1_ k_ ∨ w.heap.size ≤ k_) ∧ some k_ ≠ ((.slice Ao10 x5_1.length co10) : Value).ownBlock) (.slice Ao11 x1_1.length co11) x1_1) ∧ Aside0 (Kd.R (Kd.int .u8) 5 wc w.heap.size (fun k_ => (w.heap.size ≤ k_)) (.slice Ao10 x5_1.length co10) x5_1) ∧ Aside0 (Below w.heap.size w wc))
     case first =>
      have H := HC9.out
      clear HC9
      by_cases c12 : (wrap64 ((wrap64 (64 - (Int.tmod (wrap64 (a0 + (x5_1.length : Int))) 64))) - 6)) > (x1_1.length : Int)
      · rw [if_pos c12] at H
        have c12b0 : decide ((x1_1.length : Int) < (wrap64 ((wrap64 (64 - (Int.tmod (wrap64 (a0 + (x5_1.length : Int))) 64))) - 6))) = true := decide_eq_true c12
        clear c12
        (first | rw [c12b0] | (simp only [i64_w, i32_w]; rw [c12b0]) | skip)
        have H' := Aside0.mk H
        clear H
        go_wp2
        go_meet
        case rel => exact ⟨_, ((x1_1.length : Int)), z4458, H', ⟨ze59a⟩, ⟨vZ HO_1.out⟩, ⟨rZ HO_5.out⟩, ⟨z5acd⟩⟩
      · rw [if_neg c12] at H
        have c12b0 : decide ((x1_1.length : Int) < (wrap64 ((wrap64 (64 - (Int.tmod (wrap64 (a0 + (x5_1.length : Int))) 64))) - 6))) = false := decide_eq_false c12
        clear c12
        (first | rw [c12b0] | (simp only [i64_w, i32_w]; rw [c12b0]) | skip)
        have H' := Aside0.mk H
        clear H
        go_wp2
        go_meet
        case rel => exact ⟨_, (wrap64 ((wrap64 (64 - (Int.tmod (wrap64 (a0 + (x5_1.length : Int))) 64))) - 6)), z4458, H', ⟨ze59a⟩, ⟨vZ HO_1.out⟩, ⟨rZ HO_5.out⟩, ⟨z5acd⟩⟩
     case rest =>
      clear HC9
      try clear c1
      try clear p2
      try clear c3
      try clear c3b0
      try clear c5
      try clear c5b0
      try clear c5b1
      try clear c6
      try clear p6
      try clear c12
      try clear c12b0
      try clear p2
      obtain ⟨kq, x8_8, rfl, HA, HJ8, HO_1, HO_5, HB⟩ := hcut
      cases kq with
      | zero => exact absurd HA.out (by simp [spec_l3Pieces.j1])
      | succ kj8 =>
       have H := HA.out
       clear HA
       simp only [spec_l3Pieces.j1] at H
       have HC13 := Aside0.mk H
       clear H
       go_upto_block 2 with (fail)
       go_cut [10] (fun v10 wc => ∃ (kq : Nat) (x10_12 : Int), v10 = .int .i64 x10_12 ∧ Aside0 (spec_l3Pieces.j3 kq a0 x1_1 x5_1 x8_8 (x8_8 == (x1_1.length : Int)) x10_12 = some r) ∧ Aside0 (kq ≤ kj8) ∧ Aside0 (Kd.V (Kd.int .u8) 5 wc w.heap.size (fun k_ => (P1_ k_ ∨ w.heap.size ≤ k_) ∧ some k_ ≠ ((.slice Ao10 x5_1.length co10) : Value).ownBlock) (.slice Ao11 x1_1.length co11) x1_1) ∧ Aside0 (Kd.R (Kd.int .u8) 5 wc w.heap.size (fun k_ => (w.heap.size ≤ k_)) (.slice Ao10 x5_1.length co10) x5_1) ∧ Aside0 (Below w.heap.size w wc))
       case first =>
        have H := HC13.out
        clear HC13
        have HC14 := Aside0.mk H
        clear H
        go_upto_region 11 with (fail)
        go_cut [35] (fun v35 wc => ∃ (kq : Nat) (x35_13 : Bool), v35 = .bool x35_13 ∧ Aside0 (spec_l3Pieces.j2 kq a0 x1_1 x5_1 x6_1 x8_8 (x8_8 == (x1_1.length : Int)) 3 x35_13 = some r) ∧ Aside0 (kq ≤ kj8) ∧ Aside0 (Kd.V (Kd.int .u8) 5 wc w.heap.size (fun k_ => (P1_ k_ ∨ w.heap.size ≤ k_) ∧ some k_ ≠ ((.slice Ao10 x5_1.length co10) : Value).ownBlock) (.slice Ao11 x1_1.length co11) x1_1) ∧ Aside0 (Kd.R (Kd.int .u8) 5 wc w.heap.size (fun k_ => (w.heap.size ≤ k_)) (.slice Ao10 x5_1.length co10) x5_1) ∧ Aside0 (Below w.heap.size w wc))
        case first =>
         have H := HC14.out
         clear HC14
         by_cases c15 : x6_1 = true
         · subst c15
           have H1 : (spec_l3Pieces.j2 kj8 a0 x1_1 x5_1 true x8_8 (x8_8 == (x1_1.length : Int)) 3 (x8_8 == (x1_1.length : Int))) = some r := by rw [if_pos rfl] at H; exact H
           clear H
           have H := H1
           clear H1
           have H' := Aside0.mk H
           clear H
           go_wp2
           go_meet
           case rel => exact ⟨_, ((x8_8 == (x1_1.length : Int))), z4458, H', ⟨by have := HK1.out; have := HJ8.out; first | omega | exact Nat.le_refl _⟩, ⟨vZ HO_1.out⟩, ⟨rZ HO_5.out⟩, ⟨z5acd⟩⟩
         · replace c15 := Bool.eq_false_iff.mpr c15
           subst c15
           have H1 : (spec_l3Pieces.j2 kj8 a0 x1_1 x5_1 false x8_8 (x8_8 == (x1_1.length : Int)) 3 false) = some r := by rw [if_neg (show ¬ (false = true) by decide)] at H; exact H
           clear H
           have H := H1
           clear H1
           have H' := Aside0.mk H
           clear H
           go_wp2
           go_meet
           case rel => exact ⟨_, (false), z4458, H', ⟨by have := HK1.out; have := HJ8.out; first | omega | exact Nat.le_refl _⟩, ⟨vZ HO_1.out⟩, ⟨rZ HO_5.out⟩, ⟨z5acd⟩⟩
        case rest =>
         clear HC14
         try clear c1
         try clear p2
         try clear c3
         try clear c3b0
         try clear c5
         try clear c5b0
         try clear c5b1
         try clear c6
         try clear p6
         try clear c12
         try clear c12b0
         try clear c15
         try clear p2
         try clear p6
         obtain ⟨kq, x35_13, rfl, HA, HJ13, HO_1, HO_5, HB⟩ := hcut
         cases kq with
         | zero => exact absurd HA.out (by simp [spec_l3Pieces.j2])
         | succ kj13 =>
          have H := HA.out
          clear HA
          simp only [spec_l3Pieces.j2] at H
          by_cases c16 : x35_13 = true
          · subst c16
            have H1 : (spec_l3Pieces.j3 kj13 a0 x1_1 x5_1 x8_8 (x8_8 == (x1_1.length : Int)) 1) = some r := by rw [if_pos rfl] at H; exact H
            clear H
            have H := H1
            clear H1
            have H' := Aside0.mk H
            clear H
            go_wp2
            go_meet
            case rel => exact ⟨_, (1), z4458, H', ⟨z2f66⟩, ⟨vZ HO_1.out⟩, ⟨rZ HO_5.out⟩, ⟨z5acd⟩⟩
          · replace c16 := Bool.eq_false_iff.mpr c16
            subst c16
            have H1 : (if x6_1 = true then (spec_l3Pieces.j3 kj13 a0 x1_1 x5_1 x8_8 (x8_8 == (x1_1.length : Int)) 2) else (if (x8_8 == (x1_1.length : Int)) = true then (spec_l3Pieces.j3 kj13 a0 x1_1 x5_1 x8_8 (x8_8 == (x1_1.length : Int)) 4) else (spec_l3Pieces.j3 kj13 a0 x1_1 x5_1 x8_8 (x8_8 == (x1_1.length : Int)) 3))) = some r := by rw [if_neg (show ¬ (false = true) by decide)] at H; exact H
            clear H
            have H := H1
            clear H1
            by_cases c17 : x6_1 = true
            · subst c17
              have H1 : (spec_l3Pieces.j3 kj13 a0 x1_1 x5_1 x8_8 (x8_8 == (x1_1.length : Int)) 2) = some r := by rw [if_pos rfl] at H; exact H
              clear H
              have H := H1
              clear H1
              have H' := Aside0.mk H
              clear H
              go_wp2
              go_meet
              case rel => exact ⟨_, (2), z4458, H', ⟨z2f66⟩, ⟨vZ HO_1.out⟩, ⟨rZ HO_5.out⟩, ⟨z5acd⟩⟩
            · replace c17 := Bool.eq_false_iff.mpr c17
              subst c17
              have H1 : (if (x8_8 == (x1_1.length : Int)) = true then (spec_l3Pieces.j3 kj13 a0 x1_1 x5_1 x8_8 (x8_8 == (x1_1.length : Int)) 4) else (spec_l3Pieces.j3 kj13 a0 x1_1 x5_1 x8_8 (x8_8 == (x1_1.length : Int)) 3)) = some r := by rw [if_neg (show ¬ (false = true) by decide)] at H; exact H
              clear H
              have H := H1
              clear H1
              by_cases c18 : (x8_8 == (x1_1.length : Int)) = true
              · rw [if_pos c18] at H
                have c18b0 : (x8_8 == (x1_1.length : Int)) = true := c18
                (try (have c18b1 : decide (x8_8 = (x1_1.length : Int)) = true := by simpa using c18))
                (try (have c18b2 : (x8_8 == (x1_1.length : Int)) = true := by simpa using c18))
                clear c18
                have H' := Aside0.mk H
                clear H
                go_wp2
                go_meet
                case rel => exact ⟨_, (4), z4458, H', ⟨z2f66⟩, ⟨vZ HO_1.out⟩, ⟨rZ HO_5.out⟩, ⟨z5acd⟩⟩
              · rw [if_neg c18] at H
                have c18b0 : (x8_8 == (x1_1.length : Int)) = false := by simpa using c18
                (try (have c18b1 : decide (x8_8 = (x1_1.length : Int)) = false := by simpa using c18))
                (try (have c18b2 : (x8_8 == (x1_1.length : Int)) = false := by simpa using c18))
                (try (have c18b3 : ¬ (x8_8 = (x1_1.length : Int)) := by simpa using c18))
                clear c18
                have H' := Aside0.mk H
                clear H
                go_wp2
                go_meet
                case rel => exact ⟨_, (3), z4458, H', ⟨z2f66⟩, ⟨vZ HO_1.out⟩, ⟨rZ HO_5.out⟩, ⟨z5acd⟩⟩
       case rest =>
        clear HC13
        try clear c1
        try clear p2
        try clear c3
        try clear c3b0
        try clear c5
        try clear c5b0
        try clear c5b1
        try clear c6
        try clear p6
        try clear c12
        try clear c12b0
        try clear c15
        try clear c16
        try clear c17
        try clear c18
        try clear c18b0
        try clear c18b1
        try clear c18b2
        try clear p2
        try clear p6
        obtain ⟨kq, x10_12, rfl, HA, HJ12, HO_1, HO_5, HB⟩ := hcut
        cases kq with
        | zero => exact absurd HA.out (by simp [spec_l3Pieces.j3])
        | succ kj12 =>
         have H := HA.out
         clear HA
         simp only [spec_l3Pieces.j3] at H
         obtain ⟨y104, hy104⟩ : ∃ y_ : List Int, y_ = (([(x10_12) % 256] : List Int)) := ⟨_, rfl⟩
         replace H : (if 0 ≤ x8_8 then (if x8_8 ≤ (x1_1.length : Int) then ((some (x1_1.take (x8_8 : Int).toNat : List Int)).bind fun y107 => (if y104.length + y107.length < 140737488355328 then ((some (y104 ++ y107 : List Int)).bind fun y112 => ((spec_l1Crc.f kj12 y112).bind fun t115 => ((spec_l1Fixed.f kj12 (wrap64 (t115)) 4).bind fun t116 => (if x5_1.length + t116.length < 140737488355328 then ((some (x5_1 ++ t116 : List Int)).bind fun y119 => (if y119.length < 140737488355328 then ((some (y119 ++ [(x8_8) % 256] : List Int)).bind fun y122 => (if y122.length + y112.length < 140737488355328 then ((some (y122 ++ y112 : List Int)).bind fun y125 => (if (x8_8 == (x1_1.length : Int)) = true then (some y125) else (spec_l3Pieces.l0 kj12 a0 (x1_1.drop (x8_8 : Int).toNat) y125 false))) else (none))) else (none))) else (none))))) else (none))) else (none)) else (none)) = some r := by first | (rw [hy104]; with_reducible exact H) | (have H2_ := (Option.bind_some _ _).symm.trans H; rw [hy104]; with_reducible exact H2_) | (have H2_ := (Option.bind_some _ _).symm.trans H; with_reducible exact H2_) | with_reducible exact H | (rw [hy104]; exact H) | exact H
         have Ny104 := Aside0.mk hy104
         clear hy104
         by_cases c19 : 0 ≤ x8_8
         · rw [if_pos c19] at H
           have c19b0 := eq_true c19
           have c19b1 : decide (0 ≤ x8_8) = true := decide_eq_true c19
           clear c19
           by_cases c20 : x8_8 ≤ (x1_1.length : Int)
           · rw [if_pos c20] at H
             have c20b0 := eq_true c20
             have c20b1 : decide (x8_8 ≤ (x1_1.length : Int)) = true := decide_eq_true c20
             clear c20
             obtain ⟨y107, hy107⟩ : ∃ y_ : List Int, y_ = (x1_1.take (x8_8 : Int).toNat) := ⟨_, rfl⟩
             replace H : (if y104.length + y107.length < 140737488355328 then ((some (y104 ++ y107 : List Int)).bind fun y112 => ((spec_l1Crc.f kj12 y112).bind fun t115 => ((spec_l1Fixed.f kj12 (wrap64 (t115)) 4).bind fun t116 => (if x5_1.length + t116.length < 140737488355328 then ((some (x5_1 ++ t116 : List Int)).bind fun y119 => (if y119.length < 140737488355328 then ((some (y119 ++ [(x8_8) % 256] : List Int)).bind fun y122 => (if y122.length + y112.length < 140737488355328 then ((some (y122 ++ y112 : List Int)).bind fun y125 => (if (x8_8 == (x1_1.length : Int)) = true then (some y125) else (spec_l3Pieces.l0 kj12 a0 (x1_1.drop (x8_8 : Int).toNat) y125 false))) else (none))) else (none))) else (none))))) else (none)) = some r := by first | (rw [hy107]; with_reducible exact H) | (have H2_ := (Option.bind_some _ _).symm.trans H; rw [hy107]; with_reducible exact H2_) | (have H2_ := (Option.bind_some _ _).symm.trans H; with_reducible exact H2_) | with_reducible exact H | (rw [hy107]; exact H) | exact H
             have Ny107 := Aside0.mk hy107
             clear hy107
             by_cases c21 : y104.length + y107.length < 140737488355328
             · rw [if_pos c21] at H
               have LMc21 := Aside0.mk c21
               clear c21
               obtain ⟨y112, hy112⟩ : ∃ y_ : List Int, y_ = (y104 ++ y107) := ⟨_, rfl⟩
               replace H : ((spec_l1Crc.f kj12 y112).bind fun t115 => ((spec_l1Fixed.f kj12 (wrap64 (t115)) 4).bind fun t116 => (if x5_1.length + t116.length < 140737488355328 then ((some (x5_1 ++ t116 : List Int)).bind fun y119 => (if y119.length < 140737488355328 then ((some (y119 ++ [(x8_8) % 256] : List Int)).bind fun y122 => (if y122.length + y112.length < 140737488355328 then ((some (y122 ++ y112 : List Int)).bind fun y125 => (if (x8_8 == (x1_1.length : Int)) = true then (some y125) else (spec_l3Pieces.l0 kj12 a0 (x1_1.drop (x8_8 : Int).toNat) y125 false))) else (none))) else (none))) else (none)))) = some r := by first | (rw [hy112]; with_reducible exact H) | (have H2_ := (Option.bind_some _ _).symm.trans H; rw [hy112]; with_reducible exact H2_) | (have H2_ := (Option.bind_some _ _).symm.trans H; with_reducible exact H2_) | with_reducible exact H | (rw [hy112]; exact H) | exact H
               have Ny112 := Aside0.mk hy112
               clear hy112
               replace H := Option.bind_eq_some_iff.mp H
               obtain ⟨t115, A220, H⟩ := H
               try dsimp only at H
               have A22 := Aside0.mk A220
               clear A220
               replace H := Option.bind_eq_some_iff.mp H
               obtain ⟨t116, A230, H⟩ := H
               try dsimp only at H
               have A23 := Aside0.mk A230
               clear A230
               by_cases c24 : x5_1.length + t116.length < 140737488355328
               · rw [if_pos c24] at H
                 have LMc24 := Aside0.mk c24
                 clear c24
                 obtain ⟨y119, hy119⟩ : ∃ y_ : List Int, y_ = (x5_1 ++ t116) := ⟨_, rfl⟩
                 replace H : (if y119.length < 140737488355328 then ((some (y119 ++ [(x8_8) % 256] : List Int)).bind fun y122 => (if y122.length + y112.length < 140737488355328 then ((some (y122 ++ y112 : List Int)).bind fun y125 => (if (x8_8 == (x1_1.length : Int)) = true then (some y125) else (spec_l3Pieces.l0 kj12 a0 (x1_1.drop (x8_8 : Int).toNat) y125 false))) else (none))) else (none)) = some r := by first | (rw [hy119]; with_reducible exact H) | (have H2_ := (Option.bind_some _ _).symm.trans H; rw [hy119]; with_reducible exact H2_) | (have H2_ := (Option.bind_some _ _).symm.trans H; with_reducible exact H2_) | with_reducible exact H | (rw [hy119]; exact H) | exact H
                 have Ny119 := Aside0.mk hy119
                 clear hy119
                 by_cases c25 : y119.length < 140737488355328
                 · rw [if_pos c25] at H
                   have LMc25 := Aside0.mk c25
                   clear c25
                   obtain ⟨y122, hy122⟩ : ∃ y_ : List Int, y_ = (y119 ++ [(x8_8) % 256]) := ⟨_, rfl⟩
                   replace H : (if y122.length + y112.length < 140737488355328 then ((some (y122 ++ y112 : List Int)).bind fun y125 => (if (x8_8 == (x1_1.length : Int)) = true then (some y125) else (spec_l3Pieces.l0 kj12 a0 (x1_1.drop (x8_8 : Int).toNat) y125 false))) else (none)) = some r := by first | (rw [hy122]; with_reducible exact H) | (have H2_ := (Option.bind_some _ _).symm.trans H; rw [hy122]; with_reducible exact H2_) | (have H2_ := (Option.bind_some _ _).symm.trans H; with_reducible exact H2_) | with_reducible exact H | (rw [hy122]; exact H) | exact H
                   have Ny122 := Aside0.mk hy122
                   clear hy122
                   by_cases c26 : y122.length + y112.length < 140737488355328
                   · rw [if_pos c26] at H
                     have LMc26 := Aside0.mk c26
                     clear c26
                     obtain ⟨y125, hy125⟩ : ∃ y_ : List Int, y_ = (y122 ++ y112) := ⟨_, rfl⟩
                     replace H : (if (x8_8 == (x1_1.length : Int)) = true then (some y125) else (spec_l3Pieces.l0 kj12 a0 (x1_1.drop (x8_8 : Int).toNat) y125 false)) = some r := by first | (rw [hy125]; with_reducible exact H) | (have H2_ := (Option.bind_some _ _).symm.trans H; rw [hy125]; with_reducible exact H2_) | (have H2_ := (Option.bind_some _ _).symm.trans H; with_reducible exact H2_) | with_reducible exact H | (rw [hy125]; exact H) | exact H
                     have Ny125 := Aside0.mk hy125
                     clear hy125
                     have c27b0 := eq_true (of_decide_eq_true z1200 : 0 ≤ x8_8)
                     have c28b0 := eq_true (of_decide_eq_true z1200 : x8_8 ≤ (x1_1.length : Int))
                     obtain ⟨y128, hy128⟩ : ∃ y_ : List Int, y_ = (x1_1.drop (x8_8 : Int).toNat) := ⟨_, rfl⟩
                     replace H : (if (x8_8 == (x1_1.length : Int)) = true then (some y125) else (spec_l3Pieces.l0 kj12 a0 y128 y125 false)) = some r := by first | (rw [hy128]; with_reducible exact H) | (have H2_ := (Option.bind_some _ _).symm.trans H; rw [hy128]; with_reducible exact H2_) | (have H2_ := (Option.bind_some _ _).symm.trans H; with_reducible exact H2_) | with_reducible exact H | (rw [hy128]; exact H) | exact H
                     have Ny128 := Aside0.mk hy128
                     clear hy128
                     by_cases c29 : (x8_8 == (x1_1.length : Int)) = true
                     · rw [if_pos c29] at H
                       have c29b0 : (x8_8 == (x1_1.length : Int)) = true := c29
                       (try (have c29b1 : decide (x8_8 = (x1_1.length : Int)) = true := by simpa using c29))
                       (try (have c29b2 : (x8_8 == (x1_1.length : Int)) = true := by simpa using c29))
                       clear c29
                       obtain rfl := Option.some.inj H
                       go_wp2_with (first | ((with_reducible refine gate_dst (N := 46) rfl ?_); refine Kd.R_lit (Kd.int .u8) _ 5 ?hg (N := 46) ?hd (xs := ([(x10_12) % 256] : List Int)) (inner := [.int .u8 ((x10_12) % 256)]) (ok := fun _ => True) (okp := fun _ => True) ?hr ?hp (fun _ hk => hk) trivial (Below.refl _ _) (Nat.le_refl _) (by simp) ?_; (case hd => rfl); (case hg => rfl); (case hr => first | (go_simp; done) | (go_simp; rfl)); (case hp => exact (Reps.one (show Kd.M (Kd.int .u8) _ _ _ ((x10_12) % 256) [.int .u8 ((x10_12) % 256)] from rfl) (Reps.none _ _))); intro v105 w30 ho31 hb hg_ hnew_; clear hg_ hnew_; (first | rw [← Ny104.out] at ho31 | (simp only [Int.reduceToNat] at ho31; rw [← Ny104.out] at ho31)); have n0_ := Aside0.mk (Kd.V_elder' (vZ HO_1.out) (Kd.R_base ho31) hb); have n1_ := Aside0.mk (Kd.R_elder' (rZ HO_5.out) (Kd.R_base ho31) hb); have n2_ := Aside0.mk (Kd.R_lower (Kd.R_new' (Kd.R_newM (M := fun k_ => (w.heap.size ≤ k_)) ho31 (below_size hbZ) (fun k_ h_ => h_)) (Kd.R_lt (rZ HO_5.out))) (below_size hbZ)); have n3_ := Aside0.mk (below_step hbZ hb); clear HO_1 HO_5 HB; have HO_1 := n0_; have HO_5 := n1_; have HO106 := n2_; have HB := n3_; clear n0_ n1_ n2_ n3_; clear hb ho31; have q32 : (x8_8 : Int) ≤ ((x1_1.length : Int) : Int) := of_decide_eq_true z1200; obtain ⟨i032, hi032, _, hsz32, _⟩ := info_parts info5; have hroom32 : x1_1.length ≤ co11 := (Kd.V_reads' HO_1.out).2.1; have hC32 : Kd.F (Kd.int .u8) _ _ Ao11 x1_1.length x1_1 := (Kd.V_at (base := w.heap.size) HO_1.out).2.2; have hcut32 := cut_to (P := Try.prog) 22 5 .i64 Try.underlying22 hi032 Ao11 x1_1.length co11 x8_8 (of_decide_eq_true z1200) q32 hroom32; have hr32 := Kd.F_take (m := (x8_8 : Int).toNat) hC32 (by omega); have hy32 : y107.length = (x8_8 : Int).toNat := (by rw [Ny107.out, List.length_take]; omega); rw [← Ny107.out] at hr32; rw [← hy32] at hcut32; have HO111 := Aside0.mk (show Kd.V (Kd.int .u8) 5 _ w.heap.size _ (.slice Ao11 y107.length co11) y107 from Kd.V_mk (by omega) hr32); have HC111 := Aside0.mk (show y107.length ≤ co11 from by omega); clear hr32 hC32 hroom32 hi032 hsz32; have KY32 := Aside0.mk hy32; clear hy32; replace q32 := eq_true q32) | ((with_reducible refine gate_builtin (b := .append) (xs := #[.tmp 46, .tmp 49]) rfl ?_); at_builtin; refine Kd.R_append_rows (Kd.int .u8) (w0 := w) w.heap.size rfl (.tmp 46) (.tmp 49) 22 5 (.int .u8 0) 1 rfl Try.underlying22 info5 rfl (by decide) (by omega) v105 y104 y107 _ _ _ (fun k_ => (w.heap.size ≤ k_) ∧ some k_ ≠ (.slice Ao10 x5_1.length co10 : Value).ownBlock) (fun _ => False) rfl rfl ?aO ?aR (fun _ _ h => h) (fun _ h => h.elim) ?aF ?aB ?aS ?aL ?_; (case aR => repeat (first | exact (Kd.V_reads' HO111.out).2.2 | (with_reducible refine Kd.C_alloc ?_ _) | (with_reducible refine Kd.C_drewN ?_ _) | (with_reducible refine Kd.C_drew ?_))); (case aB => exact hbZ); (case aF => exact (fun k_ hk => ⟨(Nat.le_trans (below_size hbZ) hk), Kd.fresh' (Kd.R_lt (rZ HO_5.out)) k_ hk⟩)); (case aO => exact (by (with_reducible repeat (first | apply Kd.R_alloc | apply Kd.R_drewN | apply Kd.R_drew)); exact Kd.R_mono HO106.out (fun _ hk => ⟨hk.1.1, hk.2⟩))); (case aS => exact (below_size hbZ)); (case aL => have := LMc21.out; omega); intro v113 w33 ho hb hg hat; rw [← Ny112.out] at ho; have n0_ := Aside0.mk (Kd.V_afterv (ok := (fun k_ => (P1_ k_ ∨ w.heap.size ≤ k_) ∧ some k_ ≠ (.slice Ao10 x5_1.length co10 : Value).ownBlock)) (vZ HO_1.out) hg hat); have n1_ := Aside0.mk (Kd.R_after (ok := (fun k_ => (w.heap.size ≤ k_))) (rZ HO_5.out) hg hat); have n2_ := Aside0.mk (Kd.V_afterv (ok := (fun k_ => (P1_ k_ ∨ w.heap.size ≤ k_) ∧ some k_ ≠ (.slice Ao10 x5_1.length co10 : Value).ownBlock)) (vZ HO111.out) hg hat); have n3_ := Aside0.mk hb; have n4_ := Aside0.mk ho; clear HO_1 HO_5 HO111 HB HO106; have HO_1 := n0_; have HO_5 := n1_; have HO111 := n2_; have HB := n3_; have HO114 := n4_; clear n0_ n1_ n2_ n3_ n4_; clear ho hb hg hat; obtain ⟨Ao34, co34, eo34⟩ := Kd.R_slice HO114.out; subst eo34) | ((with_reducible refine gate_callee (f := 72) rfl ?_); refine goesL_ (some 53) rfl rfl Try.func72 (by kernel_rfl) rfl #[.slice Ao34 y112.length co34] rfl zee81 ?_; (with_reducible refine (spec_l1Crc.calls kj12 _ _ y112 t115 _ ?side1 ?side2 A22.out).mono ?_); (case side1 => exact (by repeat (first | exact (Kd.R_reads' HO114.out).2.2 | (with_reducible refine Kd.C_alloc ?_ _) | (with_reducible refine Kd.C_drewN ?_ _) | (with_reducible refine Kd.C_drew ?_)))); (case side2 => exact (Kd.R_reads' HO114.out).2.1); rintro e w' ⟨rfl, ⟨nd, rfl⟩⟩; refine ⟨_, rfl, ?_⟩) | ((with_reducible refine gate_callee (f := 42) rfl ?_); refine goesL_ (some 55) rfl rfl Try.func42 (by kernel_rfl) rfl #[.int .i64 (wrap64 (t115)), .int .i64 4] rfl zee81 ?_; (with_reducible refine (spec_l1Fixed.calls kj12 (wrap64 (t115)) 4 t116 _ A23.out).mono ?_); rintro e w35 ⟨v117, rfl, ho0, hb⟩; refine ⟨_, rfl, ?_⟩; have n0_ := Aside0.mk (Kd.V_elder' (vZ HO_1.out) (Kd.R_base ho0) hb); have n1_ := Aside0.mk (Kd.R_elder' (rZ HO_5.out) (Kd.R_base ho0) hb); have n2_ := Aside0.mk (Kd.V_elder' (vZ HO111.out) (Kd.R_base ho0) hb); have n3_ := Aside0.mk (Kd.R_elder' (rZ HO114.out) (Kd.R_base ho0) hb); have n4_ := Aside0.mk (Kd.R_lower (Kd.R_new' (Kd.R_new' (Kd.R_newM (M := fun k_ => (w.heap.size ≤ k_)) ho0 (below_size hbZ) (fun k_ h_ => h_)) (Kd.R_lt (rZ HO_5.out))) (Kd.R_lt (rZ HO114.out))) (below_size hbZ)); have n5_ := Aside0.mk (below_step hbZ hb); clear HO_1 HO_5 HO111 HO114 HB; have HO_1 := n0_; have HO_5 := n1_; have HO111 := n2_; have HO114 := n3_; have HO118 := n4_; have HB := n5_; clear n0_ n1_ n2_ n3_ n4_ n5_; (try clear hb); (try clear hb2); (try clear hk); (try clear hi); (try clear ho0); obtain ⟨Ao37, co37, eo37⟩ := Kd.R_slice HO118.out; subst eo37) | ((with_reducible refine gate_builtin (b := .append) (xs := #[.tmp 51, .tmp 55]) rfl ?_); at_builtin; refine Kd.R_append_rows (Kd.int .u8) (w0 := w) w.heap.size rfl (.tmp 51) (.tmp 55) 22 5 (.int .u8 0) 1 rfl Try.underlying22 info5 rfl (by decide) (by omega) (.slice Ao10 x5_1.length co10) x5_1 t116 _ _ _ (fun k_ => (w.heap.size ≤ k_) ∧ some k_ ≠ (.slice Ao34 y112.length co34 : Value).ownBlock ∧ some k_ ≠ (.slice Ao37 t116.length co37 : Value).ownBlock) (fun _ => False) rfl rfl ?aO ?aR (fun _ _ h => h) (fun _ h => h.elim) ?aF ?aB ?aS ?aL ?_; (case aR => repeat (first | exact (Kd.R_reads' HO118.out).2.2 | (with_reducible refine Kd.C_alloc ?_ _) | (with_reducible refine Kd.C_drewN ?_ _) | (with_reducible refine Kd.C_drew ?_))); (case aB => exact hbZ); (case aF => exact (fun k_ hk => ⟨(Nat.le_trans (below_size hbZ) hk), Kd.fresh' (Kd.R_lt (rZ HO114.out)) k_ hk, Kd.fresh' (Kd.R_lt (rZ HO118.out)) k_ hk⟩)); (case aO => exact (by (with_reducible repeat (first | apply Kd.R_alloc | apply Kd.R_drewN | apply Kd.R_drew)); exact Kd.R_mono HO_5.out (fun _ hk => ⟨hk.1.1, ⟨hk.1.2, hk.2⟩⟩))); (case aS => exact (below_size hbZ)); (case aL => have := LMc24.out; omega); intro v120 w36 ho hb hg hat; rw [← Ny119.out] at ho; have n0_ := Aside0.mk (Kd.V_afterv (ok := (fun k_ => (P1_ k_ ∨ w.heap.size ≤ k_) ∧ some k_ ≠ (.slice Ao34 y112.length co34 : Value).ownBlock ∧ some k_ ≠ (.slice Ao37 t116.length co37 : Value).ownBlock)) (by (with_reducible repeat (first | apply Kd.V_alloc | apply Kd.V_drewN | apply Kd.V_drew)); exact Kd.V_mono HO_1.out (fun _ hk => ⟨⟨hk.1.1.1, ⟨hk.1.2, hk.2⟩⟩, hk.1.1.2⟩)) hg hat); have n1_ := Aside0.mk (Kd.V_afterv (ok := (fun k_ => (P1_ k_ ∨ w.heap.size ≤ k_) ∧ some k_ ≠ (.slice Ao34 y112.length co34 : Value).ownBlock ∧ some k_ ≠ (.slice Ao37 t116.length co37 : Value).ownBlock)) (by (with_reducible repeat (first | apply Kd.V_alloc | apply Kd.V_drewN | apply Kd.V_drew)); exact Kd.V_mono HO111.out (fun _ hk => ⟨⟨hk.1.1.1, ⟨hk.1.2, hk.2⟩⟩, hk.1.1.2⟩)) hg hat); have n2_ := Aside0.mk (Kd.R_after (ok := (fun k_ => (w.heap.size ≤ k_) ∧ some k_ ≠ (.slice Ao37 t116.length co37 : Value).ownBlock)) (by (with_reducible repeat (first | apply Kd.R_alloc | apply Kd.R_drewN | apply Kd.R_drew)); exact Kd.R_mono HO114.out (fun _ hk => ⟨⟨hk.1.1, hk.2⟩, hk.1.2⟩)) hg hat); have n3_ := Aside0.mk (Kd.R_after (ok := (fun k_ => (w.heap.size ≤ k_) ∧ some k_ ≠ (.slice Ao34 y112.length co34 : Value).ownBlock)) (by (with_reducible repeat (first | apply Kd.R_alloc | apply Kd.R_drewN | apply Kd.R_drew)); exact Kd.R_mono HO118.out (fun _ hk => ⟨⟨hk.1.1.1, hk.2⟩, hk.1.2⟩)) hg hat); have n4_ := Aside0.mk hb; have n5_ := Aside0.mk ho; clear HO_1 HO111 HO114 HO118 HB HO_5; have HO_1 := n0_; have HO111 := n1_; have HO114 := n2_; have HO118 := n3_; have HB := n4_; have HO121 := n5_; clear n0_ n1_ n2_ n3_ n4_ n5_; clear ho hb hg hat) | ((with_reducible refine gate_builtin (b := .append) (xs := #[.tmp 57, .tmp 60]) rfl ?_); at_builtin; refine Kd.R_append (Kd.int .u8) (w0 := w) w.heap.size rfl (.tmp 57) (.tmp 60) 22 5 (.int .u8 0) 1 rfl Try.underlying22 info5 rfl (by decide) (by omega) v120 y119 ((x8_8) % 256) [.int .u8 ((x8_8) % 256)] (fun k_ => (w.heap.size ≤ k_) ∧ some k_ ≠ (.slice Ao34 y112.length co34 : Value).ownBlock ∧ some k_ ≠ (.slice Ao37 t116.length co37 : Value).ownBlock) (fun _ => False) rfl rfl ?aP (fun _ hk => hk.elim) ?aF ?aO ?aB ?aS ?aL ?_; (case aP => exact rfl); (case aB => exact hbZ); (case aF => exact (fun k_ hk => ⟨(Nat.le_trans (below_size hbZ) hk), Kd.fresh' (Kd.R_lt (rZ HO114.out)) k_ hk, Kd.fresh' (Kd.R_lt (rZ HO118.out)) k_ hk⟩)); (case aO => exact (rZ HO121.out)); (case aS => exact (below_size hbZ)); (case aL => have := LMc25.out; omega); intro v123 w38 ho hb hg hat; rw [← Ny122.out] at ho; have n0_ := Aside0.mk (Kd.V_afterv (ok := (fun k_ => (P1_ k_ ∨ w.heap.size ≤ k_) ∧ some k_ ≠ (.slice Ao34 y112.length co34 : Value).ownBlock ∧ some k_ ≠ (.slice Ao37 t116.length co37 : Value).ownBlock)) (vZ HO_1.out) hg hat); have n1_ := Aside0.mk (Kd.V_afterv (ok := (fun k_ => (P1_ k_ ∨ w.heap.size ≤ k_) ∧ some k_ ≠ (.slice Ao34 y112.length co34 : Value).ownBlock ∧ some k_ ≠ (.slice Ao37 t116.length co37 : Value).ownBlock)) (vZ HO111.out) hg hat); have n2_ := Aside0.mk (Kd.R_after (ok := (fun k_ => (w.heap.size ≤ k_) ∧ some k_ ≠ (.slice Ao37 t116.length co37 : Value).ownBlock)) (rZ HO114.out) hg hat); have n3_ := Aside0.mk (Kd.R_after (ok := (fun k_ => (w.heap.size ≤ k_) ∧ some k_ ≠ (.slice Ao34 y112.length co34 : Value).ownBlock)) (rZ HO118.out) hg hat); have n4_ := Aside0.mk hb; have n5_ := Aside0.mk ho; clear HO_1 HO111 HO114 HO118 HB HO121; have HO_1 := n0_; have HO111 := n1_; have HO114 := n2_; have HO118 := n3_; have HB := n4_; have HO124 := n5_; clear n0_ n1_ n2_ n3_ n4_ n5_; clear ho hb hg hat) | ((with_reducible refine gate_builtin (b := .append) (xs := #[.tmp 62, .tmp 63]) rfl ?_); at_builtin; refine Kd.R_append_rows (Kd.int .u8) (w0 := w) w.heap.size rfl (.tmp 62) (.tmp 63) 22 5 (.int .u8 0) 1 rfl Try.underlying22 info5 rfl (by decide) (by omega) v123 y122 y112 _ _ _ (fun k_ => (w.heap.size ≤ k_) ∧ some k_ ≠ (.slice Ao34 y112.length co34 : Value).ownBlock ∧ some k_ ≠ (.slice Ao37 t116.length co37 : Value).ownBlock) (fun _ => False) rfl rfl ?aO ?aR (fun _ _ h => h) (fun _ h => h.elim) ?aF ?aB ?aS ?aL ?_; (case aR => repeat (first | exact (Kd.R_reads' HO114.out).2.2 | (with_reducible refine Kd.C_alloc ?_ _) | (with_reducible refine Kd.C_drewN ?_ _) | (with_reducible refine Kd.C_drew ?_))); (case aB => exact hbZ); (case aF => exact (fun k_ hk => ⟨(Nat.le_trans (below_size hbZ) hk), Kd.fresh' (Kd.R_lt (rZ HO114.out)) k_ hk, Kd.fresh' (Kd.R_lt (rZ HO118.out)) k_ hk⟩)); (case aO => exact (rZ HO124.out)); (case aS => exact (below_size hbZ)); (case aL => have := LMc26.out; omega); intro v126 w39 ho hb hg hat; rw [← Ny125.out] at ho; have n0_ := Aside0.mk (Kd.V_afterv (ok := (fun k_ => (P1_ k_ ∨ w.heap.size ≤ k_) ∧ some k_ ≠ (.slice Ao34 y112.length co34 : Value).ownBlock ∧ some k_ ≠ (.slice Ao37 t116.length co37 : Value).ownBlock)) (vZ HO_1.out) hg hat); have n1_ := Aside0.mk (Kd.V_afterv (ok := (fun k_ => (P1_ k_ ∨ w.heap.size ≤ k_) ∧ some k_ ≠ (.slice Ao34 y112.length co34 : Value).ownBlock ∧ some k_ ≠ (.slice Ao37 t116.length co37 : Value).ownBlock)) (vZ HO111.out) hg hat); have n2_ := Aside0.mk (Kd.R_after (ok := (fun k_ => (w.heap.size ≤ k_) ∧ some k_ ≠ (.slice Ao37 t116.length co37 : Value).ownBlock)) (rZ HO114.out) hg hat); have n3_ := Aside0.mk (Kd.R_after (ok := (fun k_ => (w.heap.size ≤ k_) ∧ some k_ ≠ (.slice Ao34 y112.length co34 : Value).ownBlock)) (rZ HO118.out) hg hat); have n4_ := Aside0.mk hb; have n5_ := Aside0.mk ho; clear HO_1 HO111 HO114 HO118 HB HO124; have HO_1 := n0_; have HO111 := n1_; have HO114 := n2_; have HO118 := n3_; have HB := n4_; have HO127 := n5_; clear n0_ n1_ n2_ n3_ n4_ n5_; clear ho hb hg hat; have q40 : (x8_8 : Int) ≤ ((x1_1.length : Int) : Int) := of_decide_eq_true z1200; obtain ⟨i040, hi040, _, hsz40, _⟩ := info_parts info5; have hroom40 : x1_1.length ≤ co11 := (Kd.V_reads' HO_1.out).2.1; have hC40 : Kd.F (Kd.int .u8) _ _ Ao11 x1_1.length x1_1 := (Kd.V_at (base := w.heap.size) HO_1.out).2.2; have q040 : (0 : Int) ≤ (x8_8 : Int) := of_decide_eq_true z1200; have hcut40 := cut_from (P := Try.prog) 22 5 .i64 Try.underlying22 hi040 1 hsz40 Ao11 x1_1.length co11 x8_8 q040 q40; have hr40 := Kd.F_cut (m := (x8_8 : Int).toNat) (c := co11) hC40 (by omega) hroom40; obtain ⟨A40, hA40⟩ : ∃ A1, A1 = (if co11 = (x8_8 : Int).toNat then Ao11 else (Ao11 : Option Addr).map (·.add ((x8_8 : Int).toNat * 1))) := ⟨_, rfl⟩; obtain ⟨c40, hc40⟩ : ∃ c1, c1 = co11 - (x8_8 : Int).toNat := ⟨_, rfl⟩; have hy40 : y128.length = x1_1.length - (x8_8 : Int).toNat := (by rw [Ny128.out, List.length_drop] <;> omega); rw [show (x1_1).drop (x8_8 : Int).toNat = y128 from Ny128.out.symm] at hr40; replace hr40 : Kd.F (Kd.int .u8) _ _ A40 y128.length y128 := (by rw [hA40]; exact hr40); rw [← hy40, ← hA40, ← hc40] at hcut40; have HO132 := Aside0.mk (show Kd.V (Kd.int .u8) 5 _ w.heap.size _ (.slice A40 y128.length c40) y128 from Kd.V_mk (by rw [hy40, hc40]; exact Nat.sub_le_sub_right hroom40 _) hr40); have HC132 := Aside0.mk (show y128.length ≤ c40 from by rw [hy40, hc40]; exact Nat.sub_le_sub_right hroom40 _); clear hr40 hC40 hroom40 hi040 hsz40 hc40; have KY40 := Aside0.mk hy40; have KA40 := Aside0.mk hA40; clear hy40 hA40; replace q40 := eq_true q40))
                       go_ret
                       exact ⟨_, z674d, by (with_reducible repeat (first | apply Kd.R_alloc | apply Kd.R_drewN | apply Kd.R_drew)); exact Kd.R_mono HO127.out (fun _ hk => hk.1), z5acd⟩
                     · rw [if_neg c29] at H
                       have c29b0 : (x8_8 == (x1_1.length : Int)) = false := by simpa using c29
                       (try (have c29b1 : decide (x8_8 = (x1_1.length : Int)) = false := by simpa using c29))
                       (try (have c29b2 : (x8_8 == (x1_1.length : Int)) = false := by simpa using c29))
                       (try (have c29b3 : ¬ (x8_8 = (x1_1.length : Int)) := by simpa using c29))
                       clear c29
                       have H' := Aside0.mk H
                       clear H
                       go_wp2_with (first | ((with_reducible refine gate_dst (N := 46) rfl ?_); refine Kd.R_lit (Kd.int .u8) _ 5 ?hg (N := 46) ?hd (xs := ([(x10_12) % 256] : List Int)) (inner := [.int .u8 ((x10_12) % 256)]) (ok := fun _ => True) (okp := fun _ => True) ?hr ?hp (fun _ hk => hk) trivial (Below.refl _ _) (Nat.le_refl _) (by simp) ?_; (case hd => rfl); (case hg => rfl); (case hr => first | (go_simp; done) | (go_simp; rfl)); (case hp => exact (Reps.one (show Kd.M (Kd.int .u8) _ _ _ ((x10_12) % 256) [.int .u8 ((x10_12) % 256)] from rfl) (Reps.none _ _))); intro v105 w41 ho42 hb hg_ hnew_; clear hg_ hnew_; (first | rw [← Ny104.out] at ho42 | (simp only [Int.reduceToNat] at ho42; rw [← Ny104.out] at ho42)); have n0_ := Aside0.mk (Kd.V_elder' (vZ HO_1.out) (Kd.R_base ho42) hb); have n1_ := Aside0.mk (Kd.R_elder' (rZ HO_5.out) (Kd.R_base ho42) hb); have n2_ := Aside0.mk (Kd.R_lower (Kd.R_new' (Kd.R_newM (M := fun k_ => (w.heap.size ≤ k_)) ho42 (below_size hbZ) (fun k_ h_ => h_)) (Kd.R_lt (rZ HO_5.out))) (below_size hbZ)); have n3_ := Aside0.mk (below_step hbZ hb); clear HO_1 HO_5 HB; have HO_1 := n0_; have HO_5 := n1_; have HO106 := n2_; have HB := n3_; clear n0_ n1_ n2_ n3_; clear hb ho42; have q43 : (x8_8 : Int) ≤ ((x1_1.length : Int) : Int) := of_decide_eq_true z1200; obtain ⟨i043, hi043, _, hsz43, _⟩ := info_parts info5; have hroom43 : x1_1.length ≤ co11 := (Kd.V_reads' HO_1.out).2.1; have hC43 : Kd.F (Kd.int .u8) _ _ Ao11 x1_1.length x1_1 := (Kd.V_at (base := w.heap.size) HO_1.out).2.2; (try clear hcut32); (try clear hcut43); have hcut43 := cut_to (P := Try.prog) 22 5 .i64 Try.underlying22 hi043 Ao11 x1_1.length co11 x8_8 (of_decide_eq_true z1200) q43 hroom43; have hr43 := Kd.F_take (m := (x8_8 : Int).toNat) hC43 (by omega); have hy43 : y107.length = (x8_8 : Int).toNat := (by rw [Ny107.out, List.length_take]; omega); rw [← Ny107.out] at hr43; rw [← hy43] at hcut43; have HO111 := Aside0.mk (show Kd.V (Kd.int .u8) 5 _ w.heap.size _ (.slice Ao11 y107.length co11) y107 from Kd.V_mk (by omega) hr43); have HC111 := Aside0.mk (show y107.length ≤ co11 from by omega); clear hr43 hC43 hroom43 hi043 hsz43; have KY43 := Aside0.mk hy43; clear hy43; replace q43 := eq_true q43) | ((with_reducible refine gate_builtin (b := .append) (xs := #[.tmp 46, .tmp 49]) rfl ?_); at_builtin; refine Kd.R_append_rows (Kd.int .u8) (w0 := w) w.heap.size rfl (.tmp 46) (.tmp 49) 22 5 (.int .u8 0) 1 rfl Try.underlying22 info5 rfl (by decide) (by omega) v105 y104 y107 _ _ _ (fun k_ => (w.heap.size ≤ k_) ∧ some k_ ≠ (.slice Ao10 x5_1.length co10 : Value).ownBlock) (fun _ => False) rfl rfl ?aO ?aR (fun _ _ h => h) (fun _ h => h.elim) ?aF ?aB ?aS ?aL ?_; (case aR => repeat (first | exact (Kd.V_reads' HO111.out).2.2 | (with_reducible refine Kd.C_alloc ?_ _) | (with_reducible refine Kd.C_drewN ?_ _) | (with_reducible refine Kd.C_drew ?_))); (case aB => exact hbZ); (case aF => exact (fun k_ hk => ⟨(Nat.le_trans (below_size hbZ) hk), Kd.fresh' (Kd.R_lt (rZ HO_5.out)) k_ hk⟩)); (case aO => exact (by (with_reducible repeat (first | apply Kd.R_alloc | apply Kd.R_drewN | apply Kd.R_drew)); exact Kd.R_mono HO106.out (fun _ hk => ⟨hk.1.1, hk.2⟩))); (case aS => exact (below_size hbZ)); (case aL => have := LMc21.out; omega); intro v113 w44 ho hb hg hat; rw [← Ny112.out] at ho; have n0_ := Aside0.mk (Kd.V_afterv (ok := (fun k_ => (P1_ k_ ∨ w.heap.size ≤ k_) ∧ some k_ ≠ (.slice Ao10 x5_1.length co10 : Value).ownBlock)) (vZ HO_1.out) hg hat); have n1_ := Aside0.mk (Kd.R_after (ok := (fun k_ => (w.heap.size ≤ k_))) (rZ HO_5.out) hg hat); have n2_ := Aside0.mk (Kd.V_afterv (ok := (fun k_ => (P1_ k_ ∨ w.heap.size ≤ k_) ∧ some k_ ≠ (.slice Ao10 x5_1.length co10 : Value).ownBlock)) (vZ HO111.out) hg hat); have n3_ := Aside0.mk hb; have n4_ := Aside0.mk ho; clear HO_1 HO_5 HO111 HB HO106; have HO_1 := n0_; have HO_5 := n1_; have HO111 := n2_; have HB := n3_; have HO114 := n4_; clear n0_ n1_ n2_ n3_ n4_; clear ho hb hg hat; obtain ⟨Ao45, co45, eo45⟩ := Kd.R_slice HO114.out; subst eo45) | ((with_reducible refine gate_callee (f := 72) rfl ?_); refine goesL_ (some 53) rfl rfl Try.func72 (by kernel_rfl) rfl #[.slice Ao45 y112.length co45] rfl zee81 ?_; (with_reducible refine (spec_l1Crc.calls kj12 _ _ y112 t115 _ ?side1 ?side2 A22.out).mono ?_); (case side1 => exact (by repeat (first | exact (Kd.R_reads' HO114.out).2.2 | (with_reducible refine Kd.C_alloc ?_ _) | (with_reducible refine Kd.C_drewN ?_ _) | (with_reducible refine Kd.C_drew ?_)))); (case side2 => exact (Kd.R_reads' HO114.out).2.1); rintro e w' ⟨rfl, ⟨nd, rfl⟩⟩; refine ⟨_, rfl, ?_⟩) | ((with_reducible refine gate_callee (f := 42) rfl ?_); refine goesL_ (some 55) rfl rfl Try.func42 (by kernel_rfl) rfl #[.int .i64 (wrap64 (t115)), .int .i64 4] rfl zee81 ?_; (with_reducible refine (spec_l1Fixed.calls kj12 (wrap64 (t115)) 4 t116 _ A23.out).mono ?_); rintro e w46 ⟨v117, rfl, ho0, hb⟩; refine ⟨_, rfl, ?_⟩; have n0_ := Aside0.mk (Kd.V_elder' (vZ HO_1.out) (Kd.R_base ho0) hb); have n1_ := Aside0.mk (Kd.R_elder' (rZ HO_5.out) (Kd.R_base ho0) hb); have n2_ := Aside0.mk (Kd.V_elder' (vZ HO111.out) (Kd.R_base ho0) hb); have n3_ := Aside0.mk (Kd.R_elder' (rZ HO114.out) (Kd.R_base ho0) hb); have n4_ := Aside0.mk (Kd.R_lower (Kd.R_new' (Kd.R_new' (Kd.R_newM (M := fun k_ => (w.heap.size ≤ k_)) ho0 (below_size hbZ) (fun k_ h_ => h_)) (Kd.R_lt (rZ HO_5.out))) (Kd.R_lt (rZ HO114.out))) (below_size hbZ)); have n5_ := Aside0.mk (below_step hbZ hb); clear HO_1 HO_5 HO111 HO114 HB; have HO_1 := n0_; have HO_5 := n1_; have HO111 := n2_; have HO114 := n3_; have HO118 := n4_; have HB := n5_; clear n0_ n1_ n2_ n3_ n4_ n5_; (try clear hb); (try clear hb2); (try clear hk); (try clear hi); (try clear ho0); obtain ⟨Ao48, co48, eo48⟩ := Kd.R_slice HO118.out; subst eo48) | ((with_reducible refine gate_builtin (b := .append) (xs := #[.tmp 51, .tmp 55]) rfl ?_); at_builtin; refine Kd.R_append_rows (Kd.int .u8) (w0 := w) w.heap.size rfl (.tmp 51) (.tmp 55) 22 5 (.int .u8 0) 1 rfl Try.underlying22 info5 rfl (by decide) (by omega) (.slice Ao10 x5_1.length co10) x5_1 t116 _ _ _ (fun k_ => (w.heap.size ≤ k_) ∧ some k_ ≠ (.slice Ao45 y112.length co45 : Value).ownBlock ∧ some k_ ≠ (.slice Ao48 t116.length co48 : Value).ownBlock) (fun _ => False) rfl rfl ?aO ?aR (fun _ _ h => h) (fun _ h => h.elim) ?aF ?aB ?aS ?aL ?_; (case aR => repeat (first | exact (Kd.R_reads' HO118.out).2.2 | (with_reducible refine Kd.C_alloc ?_ _) | (with_reducible refine Kd.C_drewN ?_ _) | (with_reducible refine Kd.C_drew ?_))); (case aB => exact hbZ); (case aF => exact (fun k_ hk => ⟨(Nat.le_trans (below_size hbZ) hk), Kd.fresh' (Kd.R_lt (rZ HO114.out)) k_ hk, Kd.fresh' (Kd.R_lt (rZ HO118.out)) k_ hk⟩)); (case aO => exact (by (with_reducible repeat (first | apply Kd.R_alloc | apply Kd.R_drewN | apply Kd.R_drew)); exact Kd.R_mono HO_5.out (fun _ hk => ⟨hk.1.1, ⟨hk.1.2, hk.2⟩⟩))); (case aS => exact (below_size hbZ)); (case aL => have := LMc24.out; omega); intro v120 w47 ho hb hg hat; rw [← Ny119.out] at ho; have n0_ := Aside0.mk (Kd.V_afterv (ok := (fun k_ => (P1_ k_ ∨ w.heap.size ≤ k_) ∧ some k_ ≠ (.slice Ao45 y112.length co45 : Value).ownBlock ∧ some k_ ≠ (.slice Ao48 t116.length co48 : Value).ownBlock)) (by (with_reducible repeat (first | apply Kd.V_alloc | apply Kd.V_drewN | apply Kd.V_drew)); exact Kd.V_mono HO_1.out (fun _ hk => ⟨⟨hk.1.1.1, ⟨hk.1.2, hk.2⟩⟩, hk.1.1.2⟩)) hg hat); have n1_ := Aside0.mk (Kd.V_afterv (ok := (fun k_ => (P1_ k_ ∨ w.heap.size ≤ k_) ∧ some k_ ≠ (.slice Ao45 y112.length co45 : Value).ownBlock ∧ some k_ ≠ (.slice Ao48 t116.length co48 : Value).ownBlock)) (by (with_reducible repeat (first | apply Kd.V_alloc | apply Kd.V_drewN | apply Kd.V_drew)); exact Kd.V_mono HO111.out (fun _ hk => ⟨⟨hk.1.1.1, ⟨hk.1.2, hk.2⟩⟩, hk.1.1.2⟩)) hg hat); have n2_ := Aside0.mk (Kd.R_after (ok := (fun k_ => (w.heap.size ≤ k_) ∧ some k_ ≠ (.slice Ao48 t116.length co48 : Value).ownBlock)) (by (with_reducible repeat (first | apply Kd.R_alloc | apply Kd.R_drewN | apply Kd.R_drew)); exact Kd.R_mono HO114.out (fun _ hk => ⟨⟨hk.1.1, hk.2⟩, hk.1.2⟩)) hg hat); have n3_ := Aside0.mk (Kd.R_after (ok := (fun k_ => (w.heap.size ≤ k_) ∧ some k_ ≠ (.slice Ao45 y112.length co45 : Value).ownBlock)) (by (with_reducible repeat (first | apply Kd.R_alloc | apply Kd.R_drewN | apply Kd.R_drew)); exact Kd.R_mono HO118.out (fun _ hk => ⟨⟨hk.1.1.1, hk.2⟩, hk.1.2⟩)) hg hat); have n4_ := Aside0.mk hb; have n5_ := Aside0.mk ho; clear HO_1 HO111 HO114 HO118 HB HO_5; have HO_1 := n0_; have HO111 := n1_; have HO114 := n2_; have HO118 := n3_; have HB := n4_; have HO121 := n5_; clear n0_ n1_ n2_ n3_ n4_ n5_; clear ho hb hg hat) | ((with_reducible refine gate_builtin (b := .append) (xs := #[.tmp 57, .tmp 60]) rfl ?_); at_builtin; refine Kd.R_append (Kd.int .u8) (w0 := w) w.heap.size rfl (.tmp 57) (.tmp 60) 22 5 (.int .u8 0) 1 rfl Try.underlying22 info5 rfl (by decide) (by omega) v120 y119 ((x8_8) % 256) [.int .u8 ((x8_8) % 256)] (fun k_ => (w.heap.size ≤ k_) ∧ some k_ ≠ (.slice Ao45 y112.length co45 : Value).ownBlock ∧ some k_ ≠ (.slice Ao48 t116.length co48 : Value).ownBlock) (fun _ => False) rfl rfl ?aP (fun _ hk => hk.elim) ?aF ?aO ?aB ?aS ?aL ?_; (case aP => exact rfl); (case aB => exact hbZ); (case aF => exact (fun k_ hk => ⟨(Nat.le_trans (below_size hbZ) hk), Kd.fresh' (Kd.R_lt (rZ HO114.out)) k_ hk, Kd.fresh' (Kd.R_lt (rZ HO118.out)) k_ hk⟩)); (case aO => exact (rZ HO121.out)); (case aS => exact (below_size hbZ)); (case aL => have := LMc25.out; omega); intro v123 w49 ho hb hg hat; rw [← Ny122.out] at ho; have n0_ := Aside0.mk (Kd.V_afterv (ok := (fun k_ => (P1_ k_ ∨ w.heap.size ≤ k_) ∧ some k_ ≠ (.slice Ao45 y112.length co45 : Value).ownBlock ∧ some k_ ≠ (.slice Ao48 t116.length co48 : Value).ownBlock)) (vZ HO_1.out) hg hat); have n1_ := Aside0.mk (Kd.V_afterv (ok := (fun k_ => (P1_ k_ ∨ w.heap.size ≤ k_) ∧ some k_ ≠ (.slice Ao45 y112.length co45 : Value).ownBlock ∧ some k_ ≠ (.slice Ao48 t116.length co48 : Value).ownBlock)) (vZ HO111.out) hg hat); have n2_ := Aside0.mk (Kd.R_after (ok := (fun k_ => (w.heap.size ≤ k_) ∧ some k_ ≠ (.slice Ao48 t116.length co48 : Value).ownBlock)) (rZ HO114.out) hg hat); have n3_ := Aside0.mk (Kd.R_after (ok := (fun k_ => (w.heap.size ≤ k_) ∧ some k_ ≠ (.slice Ao45 y112.length co45 : Value).ownBlock)) (rZ HO118.out) hg hat); have n4_ := Aside0.mk hb; have n5_ := Aside0.mk ho; clear HO_1 HO111 HO114 HO118 HB HO121; have HO_1 := n0_; have HO111 := n1_; have HO114 := n2_; have HO118 := n3_; have HB := n4_; have HO124 := n5_; clear n0_ n1_ n2_ n3_ n4_ n5_; clear ho hb hg hat) | ((with_reducible refine gate_builtin (b := .append) (xs := #[.tmp 62, .tmp 63]) rfl ?_); at_builtin; refine Kd.R_append_rows (Kd.int .u8) (w0 := w) w.heap.size rfl (.tmp 62) (.tmp 63) 22 5 (.int .u8 0) 1 rfl Try.underlying22 info5 rfl (by decide) (by omega) v123 y122 y112 _ _ _ (fun k_ => (w.heap.size ≤ k_) ∧ some k_ ≠ (.slice Ao45 y112.length co45 : Value).ownBlock ∧ some k_ ≠ (.slice Ao48 t116.length co48 : Value).ownBlock) (fun _ => False) rfl rfl ?aO ?aR (fun _ _ h => h) (fun _ h => h.elim) ?aF ?aB ?aS ?aL ?_; (case aR => repeat (first | exact (Kd.R_reads' HO114.out).2.2 | (with_reducible refine Kd.C_alloc ?_ _) | (with_reducible refine Kd.C_drewN ?_ _) | (with_reducible refine Kd.C_drew ?_))); (case aB => exact hbZ); (case aF => exact (fun k_ hk => ⟨(Nat.le_trans (below_size hbZ) hk), Kd.fresh' (Kd.R_lt (rZ HO114.out)) k_ hk, Kd.fresh' (Kd.R_lt (rZ HO118.out)) k_ hk⟩)); (case aO => exact (rZ HO124.out)); (case aS => exact (below_size hbZ)); (case aL => have := LMc26.out; omega); intro v126 w50 ho hb hg hat; rw [← Ny125.out] at ho; have n0_ := Aside0.mk (Kd.V_afterv (ok := (fun k_ => (P1_ k_ ∨ w.heap.size ≤ k_) ∧ some k_ ≠ (.slice Ao45 y112.length co45 : Value).ownBlock ∧ some k_ ≠ (.slice Ao48 t116.length co48 : Value).ownBlock)) (vZ HO_1.out) hg hat); have n1_ := Aside0.mk (Kd.V_afterv (ok := (fun k_ => (P1_ k_ ∨ w.heap.size ≤ k_) ∧ some k_ ≠ (.slice Ao45 y112.length co45 : Value).ownBlock ∧ some k_ ≠ (.slice Ao48 t116.length co48 : Value).ownBlock)) (vZ HO111.out) hg hat); have n2_ := Aside0.mk (Kd.R_after (ok := (fun k_ => (w.heap.size ≤ k_) ∧ some k_ ≠ (.slice Ao48 t116.length co48 : Value).ownBlock)) (rZ HO114.out) hg hat); have n3_ := Aside0.mk (Kd.R_after (ok := (fun k_ => (w.heap.size ≤ k_) ∧ some k_ ≠ (.slice Ao45 y112.length co45 : Value).ownBlock)) (rZ HO118.out) hg hat); have n4_ := Aside0.mk hb; have n5_ := Aside0.mk ho; clear HO_1 HO111 HO114 HO118 HB HO124; have HO_1 := n0_; have HO111 := n1_; have HO114 := n2_; have HO118 := n3_; have HB := n4_; have HO127 := n5_; clear n0_ n1_ n2_ n3_ n4_ n5_; clear ho hb hg hat; have q51 : (x8_8 : Int) ≤ ((x1_1.length : Int) : Int) := of_decide_eq_true z1200; obtain ⟨i051, hi051, _, hsz51, _⟩ := info_parts info5; have hroom51 : x1_1.length ≤ co11 := (Kd.V_reads' HO_1.out).2.1; have hC51 : Kd.F (Kd.int .u8) _ _ Ao11 x1_1.length x1_1 := (Kd.V_at (base := w.heap.size) HO_1.out).2.2; have q051 : (0 : Int) ≤ (x8_8 : Int) := of_decide_eq_true z1200; (try clear hcut40); (try clear hcut51); have hcut51 := cut_from (P := Try.prog) 22 5 .i64 Try.underlying22 hi051 1 hsz51 Ao11 x1_1.length co11 x8_8 q051 q51; have hr51 := Kd.F_cut (m := (x8_8 : Int).toNat) (c := co11) hC51 (by omega) hroom51; obtain ⟨A51, hA51⟩ : ∃ A1, A1 = (if co11 = (x8_8 : Int).toNat then Ao11 else (Ao11 : Option Addr).map (·.add ((x8_8 : Int).toNat * 1))) := ⟨_, rfl⟩; obtain ⟨c51, hc51⟩ : ∃ c1, c1 = co11 - (x8_8 : Int).toNat := ⟨_, rfl⟩; have hy51 : y128.length = x1_1.length - (x8_8 : Int).toNat := (by rw [Ny128.out, List.length_drop] <;> omega); rw [show (x1_1).drop (x8_8 : Int).toNat = y128 from Ny128.out.symm] at hr51; replace hr51 : Kd.F (Kd.int .u8) _ _ A51 y128.length y128 := (by rw [hA51]; exact hr51); rw [← hy51, ← hA51, ← hc51] at hcut51; have HO132 := Aside0.mk (show Kd.V (Kd.int .u8) 5 _ w.heap.size _ (.slice A51 y128.length c51) y128 from Kd.V_mk (by rw [hy51, hc51]; exact Nat.sub_le_sub_right hroom51 _) hr51); have HC132 := Aside0.mk (show y128.length ≤ c51 from by rw [hy51, hc51]; exact Nat.sub_le_sub_right hroom51 _); clear hr51 hC51 hroom51 hi051 hsz51 hc51; have KY51 := Aside0.mk hy51; have KA51 := Aside0.mk hA51; clear hy51 hA51; replace q51 := eq_true q51))
                       go_roundg kj12
                       case measure => have := HK1.out; have := HJ8.out; have := HJ12.out; omega
                       case rel => exact ⟨(y128), (y125), (false), z4458, H', ⟨by have := HK1.out; have := HJ8.out; have := HJ12.out; omega⟩, ⟨by (with_reducible repeat (first | apply Kd.V_alloc | apply Kd.V_drewN | apply Kd.V_drew)); exact Kd.V_mono HO132.out (fun _ hk => ⟨hk.1.1, hk.2⟩)⟩, ⟨by (with_reducible repeat (first | apply Kd.R_alloc | apply Kd.R_drewN | apply Kd.R_drew)); exact Kd.R_mono HO127.out (fun _ hk => hk.1)⟩, ⟨z5acd⟩⟩
                   · rw [if_neg c26] at H
                     exact absurd H (by simp)
                 · rw [if_neg c25] at H
                   exact absurd H (by simp)
               · rw [if_neg c24] at H
                 exact absurd H (by simp)
             · rw [if_neg c21] at H
               exact absurd H (by simp)
           · rw [if_neg c20] at H
             exact absurd H (by simp)
         · rw [if_neg c19] at H
           exact absurd H (by simp)

end Go.Proofs.Ythliooccgclbjaa.P

-- written by a program of this session's (wip/pp)
namespace Go.Proofs.Ythliooccgclbjaa.P
open Go.RowKit Go.Proofs.YthliooccgclbjaaW.PrintWords Go.Proofs.YthliooccgclbjaaW.PrintLast Go.Proofs.YthliooccgclbjaaW.PrintMore
attribute [local go_sem] max2_int min2_int max_two min_two max_three min_three max_four min_four   -- for this text's walks alone
set_option linter.unusedVariables false
set_option linter.unusedSimpArgs false

/-! ### spec_LogOf: function 23 -/
def spec_LogOf.l0 : Nat → List Int → List (List Int) → Int → Int → Option (List Int × Bool)
 | 0, _, _, _, _ => none
 | k + 1, x4, x10, x11, x12 => if x12 < x11 then (if 0 ≤ x12 then (if x12 < (x10.length : Int) then (if ((rd_L4 x10 x12).length : Int) > 2000 then (some (([] : List Int), false)) else ((spec_l3Pieces.f k (x4.length : Int) (rd_L4 x10 x12)).bind fun t102 => (if x4.length + t102.length < 140737488355328 then ((some (x4 ++ t102 : List Int)).bind fun y105 => (if (y105.length : Int) > 20000 then (some (([] : List Int), false)) else (spec_LogOf.l0 k y105 x10 x11 (wrap64 (x12 + 1))))) else (none)))) else (none)) else (none)) else (some (x4, true))
def spec_LogOf.f (k : Nat) (l0 : List (List Int)) : Option (List Int × Bool) := if (l0.length : Int) > 60 then (some (([] : List Int), false)) else (spec_LogOf.l0 k ([] : List Int) l0 (l0.length : Int) 0)
theorem spec_LogOf.mono_l : ∀ k, (∀ y0 y1 y2 y3, LeO (spec_LogOf.l0 k y0 y1 y2 y3) (spec_LogOf.l0 (k + 1) y0 y1 y2 y3))
 | 0 => fun _ _ _ _ r h => by simp [spec_LogOf.l0] at h
 | k + 1 => by
  have ih0 := spec_LogOf.mono_l k
  · intro y0 y1 y2 y3
    unfold spec_LogOf.l0
    repeat' first
     | (with_reducible first | exact ih0 .. | exact spec_l3Pieces.mono .. | exact LeO.refl _ | exact LeO.none _ | refine LeO.ite ?_ ?_ | refine LeO.bind ?_ (fun _ => ?_))
     | exact LeO.none _
     | refine LeO.ite ?_ ?_
     | refine LeO.bind ?_ (fun _ => ?_)
theorem spec_LogOf.mono : ∀ a0 k, LeO (spec_LogOf.f k a0) (spec_LogOf.f (k + 1) a0) := by
 intro a0 k
 have ih0 := spec_LogOf.mono_l k
 unfold spec_LogOf.f
 repeat' first
  | (with_reducible first | exact ih0 .. | exact spec_l3Pieces.mono .. | exact LeO.refl _ | exact LeO.none _ | refine LeO.ite ?_ ?_ | refine LeO.bind ?_ (fun _ => ?_))
  | exact LeO.none _
  | refine LeO.ite ?_ ?_
  | refine LeO.bind ?_ (fun _ => ?_)
set_option maxHeartbeats 8000000 in
set_option maxRecDepth 100000 in
theorem spec_LogOf.calls (k : Nat) (A0 : Option Addr) (c0 : Nat) (l0 : List (List Int)) (r1 : List Int) (r2 : Bool) (w : World) (hr0 : Kd.C (Kd.slice 5 (Kd.int .u8)) w A0 l0.length l0) (hc0 : l0.length ≤ c0) (h : spec_LogOf.f k l0 = some (r1, r2)) :
 Calls Try.prog 23 #[.slice A0 l0.length c0] w fun e w' => ∃ v0_ : Value, e = .returned (.tuple #[v0_, .bool r2]) ∧ Kd.R (Kd.int .u8) 5 w' w.heap.size (fun _ => True) v0_ r1 ∧ Below w.heap.size w w' := by
 have HR0 := Aside0.mk hr0
 have HC0 := Aside0.mk hc0
 clear hr0 hc0
 have HB := Aside0.mk (Below.refl w.heap.size w)
 have H : (if (l0.length : Int) > 60 then (some (([] : List Int), false)) else (spec_LogOf.l0 k ([] : List Int) l0 (l0.length : Int) 0)) = some (r1, r2) := h
 clear h
 by_cases c2 : (l0.length : Int) > 60
 · rw [if_pos c2] at H
   have c2b0 : decide (60 < (l0.length : Int)) = true := decide_eq_true c2
   have c2b1 : decide (60 < l0.length) = true := decide_eq_true (by omega)
   clear c2
   simp only [Option.some.injEq, Prod.mk.injEq] at H
   obtain ⟨rfl, rfl⟩ := H
   go_enter Try.func23, Try.ntmps23
   go_wp2
   go_ret2
   exact ⟨_, z674d, z02fa, z5acd⟩
 · rw [if_neg c2] at H
   have c2b0 : decide (60 < (l0.length : Int)) = false := decide_eq_false c2
   have c2b1 : decide (60 < l0.length) = false := decide_eq_false (by omega)
   clear c2
   have H' := Aside0.mk H
   clear H
   go_enter Try.func23, Try.ntmps23
   go_wp2
   go_loopg [4, 12] k (fun kq v4 v12 w' => ∃ (x4_1 : List Int) (x12_1 : Int), v12 = .int .i64 x12_1 ∧ Aside0 (spec_LogOf.l0 kq x4_1 l0 (l0.length : Int) x12_1 = some (r1, r2)) ∧ Aside0 (kq ≤ k) ∧ Aside0 (Kd.R (Kd.int .u8) 5 w' w.heap.size (fun _ => True) v4 x4_1) ∧ Aside0 (Below w.heap.size w w'))
   case atStart => exact ⟨(([] : List Int)), (0), z4458, H', ⟨Nat.le_refl _⟩, ⟨z02fa⟩, ⟨z5acd⟩⟩
   case round =>
    clear H'
    try clear c2
    try clear c2b0
    try clear c2b1
    try clear p2
    obtain ⟨x4_1, x12_1, rfl, HA, HK1, HO_4, HB⟩ := hrel
    cases gk with
    | zero => exact absurd HA.out (by simp [spec_LogOf.l0])
    | succ k1 =>
     have H := HA.out
     clear HA
     simp only [spec_LogOf.l0] at H
     by_cases c3 : x12_1 < (l0.length : Int)
     · rw [if_pos c3] at H
       have c3b0 : decide (x12_1 < (l0.length : Int)) = true := decide_eq_true c3
       clear c3
       by_cases c4 : 0 ≤ x12_1
       · rw [if_pos c4] at H
         have c4b0 : decide (0 ≤ x12_1) = true := decide_eq_true c4
         clear c4
         by_cases c5 : x12_1 < (l0.length : Int)
         · rw [if_pos c5] at H
           have c5b0 : decide (x12_1 < (l0.length : Int)) = true := decide_eq_true c5
           clear c5
           by_cases c6 : ((rd_L4 l0 x12_1).length : Int) > 2000
           · rw [if_pos c6] at H
             have c6b0 : decide (2000 < ((rd_L4 l0 x12_1).length : Int)) = true := decide_eq_true c6
             have c6b1 : decide (2000 < (rd_L4 l0 x12_1).length) = true := decide_eq_true (by omega)
             clear c6
             simp only [Option.some.injEq, Prod.mk.injEq] at H
             obtain ⟨rfl, rfl⟩ := H
             have p101 : 0 ≤ (x12_1 : Int) := of_decide_eq_true z1200
             have q101 : x12_1 < (l0.length : Int) := of_decide_eq_true z1200
             obtain ⟨ad101, A101_0, c101_0, e101, hx101_0, hl101_0, hi101_0⟩ := at_L4 HR0.out x12_1 p101 q101
             cases e101
             replace hx101_0 := (HB.out.cell (World.block_lt_of_cell? w _ hx101_0)).trans hx101_0
             have HR101_0 := Aside0.mk hi101_0
             have HC101_0 := Aside0.mk hl101_0
             clear hi101_0 hl101_0
             replace p101 := eq_true p101
             replace q101 := eq_true q101
             go_wp2
             go_ret2
             exact ⟨_, z674d, z02fa, z5acd⟩
           · rw [if_neg c6] at H
             have c6b0 : decide (2000 < ((rd_L4 l0 x12_1).length : Int)) = false := decide_eq_false c6
             have c6b1 : decide (2000 < (rd_L4 l0 x12_1).length) = false := decide_eq_false (by omega)
             clear c6
             replace H := Option.bind_eq_some_iff.mp H
             obtain ⟨t102, A70, H⟩ := H
             try dsimp only at H
             have A7 := Aside0.mk A70
             clear A70
             by_cases c8 : x4_1.length + t102.length < 140737488355328
             · rw [if_pos c8] at H
               have LMc8 := Aside0.mk c8
               clear c8
               obtain ⟨y105, hy105⟩ : ∃ y_ : List Int, y_ = (x4_1 ++ t102) := ⟨_, rfl⟩
               replace H : (if (y105.length : Int) > 20000 then (some (([] : List Int), false)) else (spec_LogOf.l0 k1 y105 l0 (l0.length : Int) (wrap64 (x12_1 + 1)))) = some (r1, r2) := by first | (rw [hy105]; with_reducible exact H) | (have H2_ := (Option.bind_some _ _).symm.trans H; rw [hy105]; with_reducible exact H2_) | (have H2_ := (Option.bind_some _ _).symm.trans H; with_reducible exact H2_) | with_reducible exact H | (rw [hy105]; exact H) | exact H
               have Ny105 := Aside0.mk hy105
               clear hy105
               by_cases c9 : (y105.length : Int) > 20000
               · rw [if_pos c9] at H
                 have c9b0 : decide (20000 < (y105.length : Int)) = true := decide_eq_true c9
                 have c9b1 : decide (20000 < y105.length) = true := decide_eq_true (by omega)
                 clear c9
                 simp only [Option.some.injEq, Prod.mk.injEq] at H
                 obtain ⟨rfl, rfl⟩ := H
                 have p101 : 0 ≤ (x12_1 : Int) := of_decide_eq_true z1200
                 have q101 : x12_1 < (l0.length : Int) := of_decide_eq_true z1200
                 obtain ⟨ad101, A101_0, c101_0, e101, hx101_0, hl101_0, hi101_0⟩ := at_L4 HR0.out x12_1 p101 q101
                 cases e101
                 replace hx101_0 := (HB.out.cell (World.block_lt_of_cell? w _ hx101_0)).trans hx101_0
                 have HR101_0 := Aside0.mk hi101_0
                 have HC101_0 := Aside0.mk hl101_0
                 clear hi101_0 hl101_0
                 replace p101 := eq_true p101
                 replace q101 := eq_true q101
                 obtain ⟨Ao10, co10, eo10⟩ := Kd.R_slice HO_4.out
                 subst eo10
                 go_wp2_with (first | ((with_reducible refine gate_callee (f := 53) rfl ?_); refine goesL_ (some 23) rfl rfl Try.func53 (by kernel_rfl) rfl #[.int .i64 (x4_1.length : Int), .slice A101_0 (rd_L4 l0 x12_1).length c101_0] rfl zee81 ?_; (with_reducible refine (spec_l3Pieces.calls k1 (x4_1.length : Int) (fun k_ => k_ < w.heap.size) _ _ (rd_L4 l0 x12_1) t102 _ ?side1 A7.out).mono ?_); (case side1 => exact Kd.V_mk HC101_0.out (Kd.F_below (Kd.C_F (Kd.heap_int .u8) HR101_0.out) hbZ)); rintro e w11 ⟨v103, rfl, ho0, hb⟩; refine ⟨_, rfl, ?_⟩; have n0_ := Aside0.mk (Kd.R_elder' (rZ HO_4.out) (Kd.R_base ho0) hb); have n1_ := Aside0.mk (Kd.R_lower (Kd.R_new' (Kd.R_mono (ok' := fun k_ => True) ho0 (fun _ hk_ => trivial)) (Kd.R_lt (rZ HO_4.out))) (below_size hbZ)); have n2_ := Aside0.mk (below_step hbZ hb); clear HO_4 HB; have HO_4 := n0_; have HO104 := n1_; have HB := n2_; clear n0_ n1_ n2_; (try clear hb); (try clear hb2); (try clear hk); (try clear hi); (try clear ho0); obtain ⟨Ao13, co13, eo13⟩ := Kd.R_slice HO104.out; subst eo13) | ((with_reducible refine gate_builtin (b := .append) (xs := #[.tmp 19, .tmp 23]) rfl ?_); at_builtin; refine Kd.R_append_rows (Kd.int .u8) (w0 := w) w.heap.size rfl (.tmp 19) (.tmp 23) 22 5 (.int .u8 0) 1 rfl Try.underlying22 info5 rfl (by decide) (by omega) (.slice Ao10 x4_1.length co10) x4_1 t102 _ _ _ (fun k_ => some k_ ≠ (.slice Ao13 t102.length co13 : Value).ownBlock) (fun _ => False) rfl rfl ?aO ?aR (fun _ _ h => h) (fun _ h => h.elim) ?aF ?aB ?aS ?aL ?_; (case aR => repeat (first | exact (Kd.R_reads' HO104.out).2.2 | (with_reducible refine Kd.C_alloc ?_ _) | (with_reducible refine Kd.C_drewN ?_ _) | (with_reducible refine Kd.C_drew ?_))); (case aB => exact hbZ); (case aF => exact (fun k_ hk => Kd.fresh' (Kd.R_lt (rZ HO104.out)) k_ hk)); (case aO => exact (by (with_reducible repeat (first | apply Kd.R_alloc | apply Kd.R_drewN | apply Kd.R_drew)); exact Kd.R_mono HO_4.out (fun _ hk => hk.2))); (case aS => exact (below_size hbZ)); (case aL => have := LMc8.out; omega); intro v106 w12 ho hb hg hat; rw [← Ny105.out] at ho; have n0_ := Aside0.mk (Kd.R_after (ok := (fun _ => True)) (rZ HO104.out) hg hat); have n1_ := Aside0.mk hb; have n2_ := Aside0.mk ho; clear HO104 HB HO_4; have HO104 := n0_; have HB := n1_; have HO107 := n2_; clear n0_ n1_ n2_; clear ho hb hg hat; obtain ⟨Ao14, co14, eo14⟩ := Kd.R_slice HO107.out; subst eo14))
                 go_ret2
                 exact ⟨_, z674d, z02fa, z5acd⟩
               · rw [if_neg c9] at H
                 have c9b0 : decide (20000 < (y105.length : Int)) = false := decide_eq_false c9
                 have c9b1 : decide (20000 < y105.length) = false := decide_eq_false (by omega)
                 clear c9
                 have H' := Aside0.mk H
                 clear H
                 have p101 : 0 ≤ (x12_1 : Int) := of_decide_eq_true z1200
                 have q101 : x12_1 < (l0.length : Int) := of_decide_eq_true z1200
                 obtain ⟨ad101, A101_0, c101_0, e101, hx101_0, hl101_0, hi101_0⟩ := at_L4 HR0.out x12_1 p101 q101
                 cases e101
                 replace hx101_0 := (HB.out.cell (World.block_lt_of_cell? w _ hx101_0)).trans hx101_0
                 have HR101_0 := Aside0.mk hi101_0
                 have HC101_0 := Aside0.mk hl101_0
                 clear hi101_0 hl101_0
                 replace p101 := eq_true p101
                 replace q101 := eq_true q101
                 obtain ⟨Ao15, co15, eo15⟩ := Kd.R_slice HO_4.out
                 subst eo15
                 go_wp2_with (first | ((with_reducible refine gate_callee (f := 53) rfl ?_); refine goesL_ (some 23) rfl rfl Try.func53 (by kernel_rfl) rfl #[.int .i64 (x4_1.length : Int), .slice A101_0 (rd_L4 l0 x12_1).length c101_0] rfl zee81 ?_; (with_reducible refine (spec_l3Pieces.calls k1 (x4_1.length : Int) (fun k_ => k_ < w.heap.size) _ _ (rd_L4 l0 x12_1) t102 _ ?side1 A7.out).mono ?_); (case side1 => exact Kd.V_mk HC101_0.out (Kd.F_below (Kd.C_F (Kd.heap_int .u8) HR101_0.out) hbZ)); rintro e w16 ⟨v103, rfl, ho0, hb⟩; refine ⟨_, rfl, ?_⟩; have n0_ := Aside0.mk (Kd.R_elder' (rZ HO_4.out) (Kd.R_base ho0) hb); have n1_ := Aside0.mk (Kd.R_lower (Kd.R_new' (Kd.R_mono (ok' := fun k_ => True) ho0 (fun _ hk_ => trivial)) (Kd.R_lt (rZ HO_4.out))) (below_size hbZ)); have n2_ := Aside0.mk (below_step hbZ hb); clear HO_4 HB; have HO_4 := n0_; have HO104 := n1_; have HB := n2_; clear n0_ n1_ n2_; (try clear hb); (try clear hb2); (try clear hk); (try clear hi); (try clear ho0); obtain ⟨Ao18, co18, eo18⟩ := Kd.R_slice HO104.out; subst eo18) | ((with_reducible refine gate_builtin (b := .append) (xs := #[.tmp 19, .tmp 23]) rfl ?_); at_builtin; refine Kd.R_append_rows (Kd.int .u8) (w0 := w) w.heap.size rfl (.tmp 19) (.tmp 23) 22 5 (.int .u8 0) 1 rfl Try.underlying22 info5 rfl (by decide) (by omega) (.slice Ao15 x4_1.length co15) x4_1 t102 _ _ _ (fun k_ => some k_ ≠ (.slice Ao18 t102.length co18 : Value).ownBlock) (fun _ => False) rfl rfl ?aO ?aR (fun _ _ h => h) (fun _ h => h.elim) ?aF ?aB ?aS ?aL ?_; (case aR => repeat (first | exact (Kd.R_reads' HO104.out).2.2 | (with_reducible refine Kd.C_alloc ?_ _) | (with_reducible refine Kd.C_drewN ?_ _) | (with_reducible refine Kd.C_drew ?_))); (case aB => exact hbZ); (case aF => exact (fun k_ hk => Kd.fresh' (Kd.R_lt (rZ HO104.out)) k_ hk)); (case aO => exact (by (with_reducible repeat (first | apply Kd.R_alloc | apply Kd.R_drewN | apply Kd.R_drew)); exact Kd.R_mono HO_4.out (fun _ hk => hk.2))); (case aS => exact (below_size hbZ)); (case aL => have := LMc8.out; omega); intro v106 w17 ho hb hg hat; rw [← Ny105.out] at ho; have n0_ := Aside0.mk (Kd.R_after (ok := (fun _ => True)) (rZ HO104.out) hg hat); have n1_ := Aside0.mk hb; have n2_ := Aside0.mk ho; clear HO104 HB HO_4; have HO104 := n0_; have HB := n1_; have HO107 := n2_; clear n0_ n1_ n2_; clear ho hb hg hat; obtain ⟨Ao19, co19, eo19⟩ := Kd.R_slice HO107.out; subst eo19))
                 go_roundg k1
                 case measure => have := HK1.out; omega
                 case rel => exact ⟨(y105), (wrap64 (x12_1 + 1)), z4458, H', ⟨zfb39⟩, ⟨zf72a⟩, ⟨z5acd⟩⟩
             · rw [if_neg c8] at H
               exact absurd H (by simp)
         · rw [if_neg c5] at H
           exact absurd H (by simp)
       · rw [if_neg c4] at H
         exact absurd H (by simp)
     · rw [if_neg c3] at H
       have c3b0 : decide (x12_1 < (l0.length : Int)) = false := decide_eq_false c3
       clear c3
       simp only [Option.some.injEq, Prod.mk.injEq] at H
       obtain ⟨rfl, rfl⟩ := H
       go_wp2
       go_ret2
       exact ⟨_, z674d, rZ HO_4.out, z5acd⟩

end Go.Proofs.Ythliooccgclbjaa.P

-- written by a program of this session's (wip/pp)
namespace Go.Proofs.Ythliooccgclbjaa.P
open Go.RowKit Go.Proofs.YthliooccgclbjaaW.PrintWords Go.Proofs.YthliooccgclbjaaW.PrintLast Go.Proofs.YthliooccgclbjaaW.PrintMore
attribute [local go_sem] max2_int min2_int max_two min_two max_three min_three max_four min_four   -- for this text's walks alone
set_option linter.unusedVariables false
set_option linter.unusedSimpArgs false

/-! ### slices_Equal_byte_byte: function 86 -/
def slices_Equal_byte_byte.l0 : Nat → List Int → List Int → Int → Int → Option (Bool)
 | 0, _, _, _, _ => none
 | k + 1, x0, x1, x12, x13 => if x13 < x12 then (if 0 ≤ x13 then (if x13 < (x0.length : Int) then (if x13 < (x1.length : Int) then (if (rd x0 x13) = (rd x1 x13) then (slices_Equal_byte_byte.l0 k x0 x1 x12 (wrap64 (x13 + 1))) else (some false)) else (none)) else (none)) else (none)) else (some true)
def slices_Equal_byte_byte.f (k : Nat) (l0 : List Int) (l1 : List Int) : Option (Bool) := if (l0.length : Int) = (l1.length : Int) then (slices_Equal_byte_byte.l0 k l0 l1 (l0.length : Int) 0) else (some false)
theorem slices_Equal_byte_byte.mono_l : ∀ k, (∀ y0 y1 y2 y3, LeO (slices_Equal_byte_byte.l0 k y0 y1 y2 y3) (slices_Equal_byte_byte.l0 (k + 1) y0 y1 y2 y3))
 | 0 => fun _ _ _ _ r h => by simp [slices_Equal_byte_byte.l0] at h
 | k + 1 => by
  have ih0 := slices_Equal_byte_byte.mono_l k
  · intro y0 y1 y2 y3
    unfold slices_Equal_byte_byte.l0
    repeat' first
     | (with_reducible first | exact ih0 .. | exact LeO.refl _ | exact LeO.none _ | refine LeO.ite ?_ ?_ | refine LeO.bind ?_ (fun _ => ?_))
     | exact LeO.none _
     | refine LeO.ite ?_ ?_
     | refine LeO.bind ?_ (fun _ => ?_)
theorem slices_Equal_byte_byte.mono : ∀ a0 a1 k, LeO (slices_Equal_byte_byte.f k a0 a1) (slices_Equal_byte_byte.f (k + 1) a0 a1) := by
 intro a0 a1 k
 have ih0 := slices_Equal_byte_byte.mono_l k
 unfold slices_Equal_byte_byte.f
 repeat' first
  | (with_reducible first | exact ih0 .. | exact LeO.refl _ | exact LeO.none _ | refine LeO.ite ?_ ?_ | refine LeO.bind ?_ (fun _ => ?_))
  | exact LeO.none _
  | refine LeO.ite ?_ ?_
  | refine LeO.bind ?_ (fun _ => ?_)
set_option maxHeartbeats 8000000 in
set_option maxRecDepth 100000 in
theorem slices_Equal_byte_byte.calls (k : Nat) (A0 : Option Addr) (c0 : Nat) (l0 : List Int) (A1 : Option Addr) (c1 : Nat) (l1 : List Int) (r : Bool) (w : World) (hr0 : Kd.C (Kd.int .u8) w A0 l0.length l0) (hc0 : l0.length ≤ c0) (hr1 : Kd.C (Kd.int .u8) w A1 l1.length l1) (hc1 : l1.length ≤ c1) (h : slices_Equal_byte_byte.f k l0 l1 = some r) :
 Calls Try.prog 86 #[.slice A0 l0.length c0, .slice A1 l1.length c1] w fun e w' => e = .returned (.bool r) ∧ Drawn0 w w' := by
 have HR0 := Aside0.mk hr0
 have HC0 := Aside0.mk hc0
 clear hr0 hc0
 have HR1 := Aside0.mk hr1
 have HC1 := Aside0.mk hc1
 clear hr1 hc1
 have H : (if (l0.length : Int) = (l1.length : Int) then (slices_Equal_byte_byte.l0 k l0 l1 (l0.length : Int) 0) else (some false)) = some r := h
 clear h
 by_cases c3 : (l0.length : Int) = (l1.length : Int)
 · rw [if_pos c3] at H
   have c3b0 : ((l0.length : Int) == (l1.length : Int)) = true := beq_iff_eq.mpr c3
   have c3b1 : ((l0.length : Int) != (l1.length : Int)) = false := bne_eq_false_iff_eq.mpr c3
   have c3b2 : (l0.length == l1.length) = true := by first | simpa using c3 | (simp at c3 ⊢; omega)
   clear c3
   have H' := Aside0.mk H
   clear H
   go_enter Try.func86, Try.ntmps86
   go_wp2
   repeat (go_quiet (fail); try go_wp2)
   go_loopg [13] k (fun kq v13 w' => ∃ (x13_1 : Int), v13 = .int .i64 x13_1 ∧ Aside0 (slices_Equal_byte_byte.l0 kq l0 l1 (l0.length : Int) x13_1 = some r) ∧ Aside0 (kq ≤ k) ∧ Drawn0 w w')
   case atStart => exact ⟨(0), z4458, H', ⟨Nat.le_refl _⟩, za9de⟩
   case round =>
    clear H'
    try clear c1
    try clear p2
    try clear c3
    try clear c3b0
    try clear c3b1
    try clear c3b2
    obtain ⟨x13_1, rfl, HA, HK1, ⟨m1, rfl⟩⟩ := hrel
    cases gk with
    | zero => exact absurd HA.out (by simp [slices_Equal_byte_byte.l0])
    | succ k1 =>
     have H := HA.out
     clear HA
     simp only [slices_Equal_byte_byte.l0] at H
     by_cases c4 : x13_1 < (l0.length : Int)
     · rw [if_pos c4] at H
       have c4b0 : decide (x13_1 < (l0.length : Int)) = true := decide_eq_true c4
       clear c4
       by_cases c5 : 0 ≤ x13_1
       · rw [if_pos c5] at H
         have c5b0 : decide (0 ≤ x13_1) = true := decide_eq_true c5
         clear c5
         by_cases c6 : x13_1 < (l0.length : Int)
         · rw [if_pos c6] at H
           have c6b0 : decide (x13_1 < (l0.length : Int)) = true := decide_eq_true c6
           clear c6
           by_cases c7 : x13_1 < (l1.length : Int)
           · rw [if_pos c7] at H
             have c7b0 : decide (x13_1 < (l1.length : Int)) = true := decide_eq_true c7
             clear c7
             by_cases c8 : (rd l0 x13_1) = (rd l1 x13_1)
             · rw [if_pos c8] at H
               have c8b0 : ((rd l0 x13_1) == (rd l1 x13_1)) = true := beq_iff_eq.mpr c8
               have c8b1 : ((rd l0 x13_1) != (rd l1 x13_1)) = false := bne_eq_false_iff_eq.mpr c8
               clear c8
               have H' := Aside0.mk H
               clear H
               have p101 : 0 ≤ (x13_1 : Int) := of_decide_eq_true z1200
               have q101 : x13_1 < (l0.length : Int) := of_decide_eq_true z1200
               obtain ⟨ad101, e101, hx101_0⟩ := Kd.at_int HR0.out x13_1 p101 q101
               cases e101
               replace p101 := eq_true p101
               replace q101 := eq_true q101
               have p102 : 0 ≤ (x13_1 : Int) := of_decide_eq_true z1200
               have q102 : x13_1 < (l1.length : Int) := of_decide_eq_true z1200
               obtain ⟨ad102, e102, hx102_0⟩ := Kd.at_int HR1.out x13_1 p102 q102
               cases e102
               replace p102 := eq_true p102
               replace q102 := eq_true q102
               go_wp2
               repeat (go_quiet (fail); try go_wp2)
               go_roundg k1
               case measure => have := HK1.out; omega
               case rel => exact ⟨(wrap64 (x13_1 + 1)), z4458, H', ⟨zfb39⟩, za9de⟩
             · rw [if_neg c8] at H
               have c8b0 : ((rd l0 x13_1) == (rd l1 x13_1)) = false := beq_eq_false_iff_ne.mpr c8
               have c8b1 : ((rd l0 x13_1) != (rd l1 x13_1)) = true := bne_iff_ne.mpr c8
               obtain rfl := Option.some.inj H
               have p101 : 0 ≤ (x13_1 : Int) := of_decide_eq_true z1200
               have q101 : x13_1 < (l0.length : Int) := of_decide_eq_true z1200
               obtain ⟨ad101, e101, hx101_0⟩ := Kd.at_int HR0.out x13_1 p101 q101
               cases e101
               replace p101 := eq_true p101
               replace q101 := eq_true q101
               have p102 : 0 ≤ (x13_1 : Int) := of_decide_eq_true z1200
               have q102 : x13_1 < (l1.length : Int) := of_decide_eq_true z1200
               obtain ⟨ad102, e102, hx102_0⟩ := Kd.at_int HR1.out x13_1 p102 q102
               cases e102
               replace p102 := eq_true p102
               replace q102 := eq_true q102
               go_wp2
               repeat (go_quiet (fail); try go_wp2)
               go_ret
               exact ⟨z4458, za9de⟩
           · rw [if_neg c7] at H
             exact absurd H (by simp)
         · rw [if_neg c6] at H
           exact absurd H (by simp)
       · rw [if_neg c5] at H
         exact absurd H (by simp)
     · rw [if_neg c4] at H
       have c4b0 : decide (x13_1 < (l0.length : Int)) = false := decide_eq_false c4
       clear c4
       obtain rfl := Option.some.inj H
       go_wp2
       repeat (go_quiet (fail); try go_wp2)
       go_ret
       exact ⟨z4458, za9de⟩
 · rw [if_neg c3] at H
   have c3b0 : ((l0.length : Int) == (l1.length : Int)) = false := beq_eq_false_iff_ne.mpr c3
   have c3b1 : ((l0.length : Int) != (l1.length : Int)) = true := bne_iff_ne.mpr c3
   have c3b2 : (l0.length == l1.length) = false := by first | simpa using c3 | (simp at c3 ⊢; omega)
   obtain rfl := Option.some.inj H
   go_enter Try.func86, Try.ntmps86
   go_wp2
   repeat (go_quiet (fail); try go_wp2)
   go_ret
   exact ⟨z4458, za9de⟩

end Go.Proofs.Ythliooccgclbjaa.P

-- written by a program of this session's (wip/pp)
namespace Go.Proofs.Ythliooccgclbjaa.P
open Go.RowKit Go.Proofs.YthliooccgclbjaaW.PrintWords Go.Proofs.YthliooccgclbjaaW.PrintLast Go.Proofs.YthliooccgclbjaaW.PrintMore
attribute [local go_sem] max2_int min2_int max_two min_two max_three min_three max_four min_four   -- for this text's walks alone
set_option linter.unusedVariables false
set_option linter.unusedSimpArgs false

/-! ### impl_piece: function 75 -/
def impl_piece.j0 : Nat → List Int → Int → Int → Int → Bool → Option (Int × List Int × Bool)
 | 0, _, _, _, _, _ => none
 | k + 1, x0, x1, x8, x9, x50 => if x50 = true then (some (0, ([] : List Int), false)) else (if 0 ≤ (wrap64 (x1 + 6)) then (if (wrap64 (x1 + 6)) ≤ x9 then (if x9 ≤ (x0.length : Int) then ((some ((x0.take (x9 : Int).toNat).drop ((wrap64 (x1 + 6)) : Int).toNat : List Int)).bind fun y103 => ((impl_check.f k x8 y103).bind fun t108 => (if 0 ≤ x1 then (if x1 ≤ (wrap64 (x1 + 4)) then (if (wrap64 (x1 + 4)) ≤ (x0.length : Int) then ((slices_Equal_byte_byte.f k t108 ((x0.take ((wrap64 (x1 + 4)) : Int).toNat).drop (x1 : Int).toNat)).bind fun t116 => (some (x8, y103, t116))) else (none)) else (none)) else (none)))) else (none)) else (none)) else (none))
def impl_piece.f (k : Nat) (l0 : List Int) (a1 : Int) : Option (Int × List Int × Bool) := if (wrap64 ((l0.length : Int) - a1)) < 6 then (some (0, ([] : List Int), false)) else (if 0 ≤ (wrap64 (a1 + 4)) then (if (wrap64 (a1 + 4)) < (l0.length : Int) then (if 0 ≤ (wrap64 (a1 + 5)) then (if (wrap64 (a1 + 5)) < (l0.length : Int) then (if (wrap64 ((wrap64 ((Int.tmod a1 64) + 6)) + (wrap64 (rd l0 (wrap64 (a1 + 4)))))) > 64 then (impl_piece.j0 k l0 a1 (rd l0 (wrap64 (a1 + 5))) (wrap64 ((wrap64 (a1 + 6)) + (wrap64 (rd l0 (wrap64 (a1 + 4)))))) true) else (if (wrap64 ((wrap64 (a1 + 6)) + (wrap64 (rd l0 (wrap64 (a1 + 4)))))) > (l0.length : Int) then (impl_piece.j0 k l0 a1 (rd l0 (wrap64 (a1 + 5))) (wrap64 ((wrap64 (a1 + 6)) + (wrap64 (rd l0 (wrap64 (a1 + 4)))))) true) else (if (rd l0 (wrap64 (a1 + 5))) < 1 then (impl_piece.j0 k l0 a1 (rd l0 (wrap64 (a1 + 5))) (wrap64 ((wrap64 (a1 + 6)) + (wrap64 (rd l0 (wrap64 (a1 + 4)))))) true) else (impl_piece.j0 k l0 a1 (rd l0 (wrap64 (a1 + 5))) (wrap64 ((wrap64 (a1 + 6)) + (wrap64 (rd l0 (wrap64 (a1 + 4)))))) (decide ((rd l0 (wrap64 (a1 + 5))) > 4)))))) else (none)) else (none)) else (none)) else (none))
theorem impl_piece.mono_l : ∀ k, (∀ y0 y1 y2 y3 y4, LeO (impl_piece.j0 k y0 y1 y2 y3 y4) (impl_piece.j0 (k + 1) y0 y1 y2 y3 y4))
 | 0 => fun _ _ _ _ _ r h => by simp [impl_piece.j0] at h
 | k + 1 => by
  have ih0 := impl_piece.mono_l k
  · intro y0 y1 y2 y3 y4
    unfold impl_piece.j0
    repeat' first
     | (with_reducible first | exact ih0 .. | exact impl_check.mono .. | exact slices_Equal_byte_byte.mono .. | exact LeO.refl _ | exact LeO.none _ | refine LeO.ite ?_ ?_ | refine LeO.bind ?_ (fun _ => ?_))
     | exact LeO.none _
     | refine LeO.ite ?_ ?_
     | refine LeO.bind ?_ (fun _ => ?_)
theorem impl_piece.mono : ∀ a0 a1 k, LeO (impl_piece.f k a0 a1) (impl_piece.f (k + 1) a0 a1) := by
 intro a0 a1 k
 have ih0 := impl_piece.mono_l k
 unfold impl_piece.f
 repeat' first
  | (with_reducible first | exact ih0 .. | exact impl_check.mono .. | exact slices_Equal_byte_byte.mono .. | exact LeO.refl _ | exact LeO.none _ | refine LeO.ite ?_ ?_ | refine LeO.bind ?_ (fun _ => ?_))
  | exact LeO.none _
  | refine LeO.ite ?_ ?_
  | refine LeO.bind ?_ (fun _ => ?_)
def impl_piece.T3 : Bool × List (List Nat × List Nat) := (true, [([], []), ([], []), ([1], [1]), ([0, 2], [0, 2]), ([3], [3]), ([4], [4]), ([], []), ([], []), ([7], [7]), ([6, 8], [6, 8]), ([9], [9]), ([5, 0, 1, 2, 3, 4, 5], [5]), ([10, 11, 0, 1, 2, 3, 4, 5, 6, 7, 8, 9, 10, 11], [10])])
def impl_piece.B3 : List Nat := [0, 0, 2, 7, 15, 31, 0, 0, 128, 448, 960, 63, 4095]
theorem impl_piece.tab3 : rtab .any (opsOf Try.f75 3) = impl_piece.T3 := by kernel_rfl
theorem impl_piece.bits3 : waitsOk impl_piece.T3.2 impl_piece.B3 = true := by kernel_rfl
def impl_piece.T8 : Bool × List (List Nat × List Nat) := (true, [([], []), ([], []), ([], []), ([], []), ([2, 3], [2, 3]), ([], []), ([], []), ([], []), ([7], [7]), ([5, 6, 8], [5, 6, 8]), ([4, 9, 4], [4, 9]), ([0, 10, 0], [0]), ([1, 11, 0, 1, 11], [1]), ([10, 12, 0, 1, 2, 3, 4, 5, 6, 7, 8, 9, 10, 11, 12], [10])])
def impl_piece.B8 : List Nat := [0, 0, 0, 0, 12, 0, 0, 0, 128, 480, 1020, 2045, 4095, 8191]
theorem impl_piece.tab8 : rtab .any (opsOf Try.f75 8) = impl_piece.T8 := by kernel_rfl
theorem impl_piece.bits8 : waitsOk impl_piece.T8.2 impl_piece.B8 = true := by kernel_rfl
set_option maxHeartbeats 8000000 in
set_option maxRecDepth 100000 in
theorem impl_piece.calls (k : Nat) (P0_ : Nat → Prop) (A0 : Option Addr) (c0 : Nat) (l0 : List Int) (a1 : Int) (r1 : Int) (r2 : List Int) (r3 : Bool) (w : World) (hs0 : Kd.V (Kd.int .u8) 5 w w.heap.size (fun k_ => P0_ k_) (.slice A0 l0.length c0) l0) (h : impl_piece.f k l0 a1 = some (r1, r2, r3)) :
 Calls Try.prog 75 #[.slice A0 l0.length c0, .int .i64 a1] w fun e w' => ∃ v1_ : Value, e = .returned (.tuple #[.int .u8 r1, v1_, .bool r3]) ∧ Kd.V (Kd.int .u8) 5 w' w.heap.size (fun k_ => (P0_ k_ ∨ w.heap.size ≤ k_)) v1_ r2 ∧ Below w.heap.size w w' := by
 have HO0 := Aside0.mk (show Kd.V (Kd.int .u8) 5 w w.heap.size (fun k_ => (P0_ k_ ∨ w.heap.size ≤ k_)) (.slice A0 l0.length c0) l0 from Kd.V_mono hs0 (fun k_ hk => .inl hk))
 have HB := Aside0.mk (Below.refl w.heap.size w)
 have H : (if (wrap64 ((l0.length : Int) - a1)) < 6 then (some (0, ([] : List Int), false)) else (if 0 ≤ (wrap64 (a1 + 4)) then (if (wrap64 (a1 + 4)) < (l0.length : Int) then (if 0 ≤ (wrap64 (a1 + 5)) then (if (wrap64 (a1 + 5)) < (l0.length : Int) then (if (wrap64 ((wrap64 ((Int.tmod a1 64) + 6)) + (wrap64 (rd l0 (wrap64 (a1 + 4)))))) > 64 then (impl_piece.j0 k l0 a1 (rd l0 (wrap64 (a1 + 5))) (wrap64 ((wrap64 (a1 + 6)) + (wrap64 (rd l0 (wrap64 (a1 + 4)))))) true) else (if (wrap64 ((wrap64 (a1 + 6)) + (wrap64 (rd l0 (wrap64 (a1 + 4)))))) > (l0.length : Int) then (impl_piece.j0 k l0 a1 (rd l0 (wrap64 (a1 + 5))) (wrap64 ((wrap64 (a1 + 6)) + (wrap64 (rd l0 (wrap64 (a1 + 4)))))) true) else (if (rd l0 (wrap64 (a1 + 5))) < 1 then (impl_piece.j0 k l0 a1 (rd l0 (wrap64 (a1 + 5))) (wrap64 ((wrap64 (a1 + 6)) + (wrap64 (rd l0 (wrap64 (a1 + 4)))))) true) else (impl_piece.j0 k l0 a1 (rd l0 (wrap64 (a1 + 5))) (wrap64 ((wrap64 (a1 + 6)) + (wrap64 (rd l0 (wrap64 (a1 + 4)))))) (decide ((rd l0 (wrap64 (a1 + 5))) > 4)))))) else (none)) else (none)) else (none)) else (none))) = some (r1, r2, r3) := h
 clear h
 by_cases c3 : (wrap64 ((l0.length : Int) - a1)) < 6
 · rw [if_pos c3] at H
   have c3b0 : decide ((wrap64 ((l0.length : Int) - a1)) < 6) = true := decide_eq_true c3
   clear c3
   simp only [Option.some.injEq, Prod.mk.injEq] at H
   obtain ⟨rfl, rfl, rfl⟩ := H
   go_enter Try.func75, Try.ntmps75
   go_wp2
   go_ret3
   exact ⟨_, z674d, by exact Kd.V_nil _ _ _ _ _, z5acd⟩
 · rw [if_neg c3] at H
   have c3b0 : decide ((wrap64 ((l0.length : Int) - a1)) < 6) = false := decide_eq_false c3
   clear c3
   obtain ⟨ji4, hji4⟩ : ∃ j_ : Int, (wrap64 (a1 + 4)) = j_ := ⟨_, rfl⟩
   replace H : (if 0 ≤ (ji4) then (if (ji4) < (l0.length : Int) then (if 0 ≤ (wrap64 (a1 + 5)) then (if (wrap64 (a1 + 5)) < (l0.length : Int) then (if (wrap64 ((wrap64 ((Int.tmod a1 64) + 6)) + (wrap64 (rd l0 (ji4))))) > 64 then (impl_piece.j0 k l0 a1 (rd l0 (wrap64 (a1 + 5))) (wrap64 ((wrap64 (a1 + 6)) + (wrap64 (rd l0 (ji4))))) true) else (if (wrap64 ((wrap64 (a1 + 6)) + (wrap64 (rd l0 (ji4))))) > (l0.length : Int) then (impl_piece.j0 k l0 a1 (rd l0 (wrap64 (a1 + 5))) (wrap64 ((wrap64 (a1 + 6)) + (wrap64 (rd l0 (ji4))))) true) else (if (rd l0 (wrap64 (a1 + 5))) < 1 then (impl_piece.j0 k l0 a1 (rd l0 (wrap64 (a1 + 5))) (wrap64 ((wrap64 (a1 + 6)) + (wrap64 (rd l0 (ji4))))) true) else (impl_piece.j0 k l0 a1 (rd l0 (wrap64 (a1 + 5))) (wrap64 ((wrap64 (a1 + 6)) + (wrap64 (rd l0 (ji4))))) (decide ((rd l0 (wrap64 (a1 + 5))) > 4)))))) else (none)) else (none)) else (none)) else (none)) = some (r1, r2, r3) := by first | (rw [hji4] at H; exact H) | (simp only [hji4] at H ⊢; exact H)
   have hji4w : (IntKind.i64.wrap (a1 + 4)) = ji4 := (i64_w _).trans hji4
   by_cases c5 : 0 ≤ (ji4)
   · rw [if_pos c5] at H
     have c5b0 : decide (0 ≤ (ji4)) = true := decide_eq_true c5
     clear c5
     by_cases c6 : (ji4) < (l0.length : Int)
     · rw [if_pos c6] at H
       have c6b0 : decide ((ji4) < (l0.length : Int)) = true := decide_eq_true c6
       clear c6
       obtain ⟨ji7, hji7⟩ : ∃ j_ : Int, (wrap64 (a1 + 5)) = j_ := ⟨_, rfl⟩
       replace H : (if 0 ≤ (ji7) then (if (ji7) < (l0.length : Int) then (if (wrap64 ((wrap64 ((Int.tmod a1 64) + 6)) + (wrap64 (rd l0 (ji4))))) > 64 then (impl_piece.j0 k l0 a1 (rd l0 (ji7)) (wrap64 ((wrap64 (a1 + 6)) + (wrap64 (rd l0 (ji4))))) true) else (if (wrap64 ((wrap64 (a1 + 6)) + (wrap64 (rd l0 (ji4))))) > (l0.length : Int) then (impl_piece.j0 k l0 a1 (rd l0 (ji7)) (wrap64 ((wrap64 (a1 + 6)) + (wrap64 (rd l0 (ji4))))) true) else (if (rd l0 (ji7)) < 1 then (impl_piece.j0 k l0 a1 (rd l0 (ji7)) (wrap64 ((wrap64 (a1 + 6)) + (wrap64 (rd l0 (ji4))))) true) else (impl_piece.j0 k l0 a1 (rd l0 (ji7)) (wrap64 ((wrap64 (a1 + 6)) + (wrap64 (rd l0 (ji4))))) (decide ((rd l0 (ji7)) > 4)))))) else (none)) else (none)) = some (r1, r2, r3) := by first | (rw [hji7] at H; exact H) | (simp only [hji7] at H ⊢; exact H)
       have hji7w : (IntKind.i64.wrap (a1 + 5)) = ji7 := (i64_w _).trans hji7
       by_cases c8 : 0 ≤ (ji7)
       · rw [if_pos c8] at H
         have c8b0 : decide (0 ≤ (ji7)) = true := decide_eq_true c8
         clear c8
         by_cases c9 : (ji7) < (l0.length : Int)
         · rw [if_pos c9] at H
           have c9b0 : decide ((ji7) < (l0.length : Int)) = true := decide_eq_true c9
           clear c9
           have HC10 := Aside0.mk H
           clear H
           go_enter Try.func75, Try.ntmps75
           try go_wp2
           have n0_ := Aside0.mk (Kd.V_drew HO0.out)
           have n1_ := Aside0.mk (below_drew1 HB.out)
           clear HO0
           clear HB
           have HO0 := n0_
           have HB := n1_
           clear n0_ n1_
           have p101 : 0 ≤ ((ji4) : Int) := of_decide_eq_true z1200
           have q101 : (ji4) < (l0.length : Int) := of_decide_eq_true z1200
           obtain ⟨ad101, e101, hx101_0⟩ := Kd.at_int (Kd.V_reads' HO0.out).2.2 (ji4) p101 q101
           cases e101
           replace p101 := eq_true p101
           replace q101 := eq_true q101
           have p102 : 0 ≤ ((ji7) : Int) := of_decide_eq_true z1200
           have q102 : (ji7) < (l0.length : Int) := of_decide_eq_true z1200
           obtain ⟨ad102, e102, hx102_0⟩ := Kd.at_int (Kd.V_reads' HO0.out).2.2 (ji7) p102 q102
           obtain rfl : ad101 = ad102 := (by injection e102)
           replace p102 := eq_true p102
           replace q102 := eq_true q102
           refine start_ (n := 13) (S := fun w' => w'.cell? (ad101.add ((ji4)).toNat) = some (.int .u8 (rd l0 (ji4))) ∧ w'.cell? (ad101.add ((ji7)).toNat) = some (.int .u8 (rd l0 (ji7)))) (ds := []) #[false, false, false, false, false, false, false, false, false, false, false, false, false] (by kernel_rfl) rfl rfl ⟨hx101_0, hx102_0⟩ (fun hHeld => ?_); refine with_tabW impl_piece.tab3 impl_piece.bits3 (fun HT_ HW_ => ?_)
           generalize w.drew = w11 at HO0 HB hx101_0 hx102_0 hHeld ⊢
           refine pure_ (i := 0) (N := some 16) (v := ?_) (a' := ?_) #[true, false, false, false, false, false, false, false, false, false, false, false, false] rfl rfl (any_of HT_.out (by kernel_rfl)) (fun _ _ _ h => h) (Or.inl ⟨by rfl, ?_⟩) ?_ ?_
           rotate_left
           · intro w'
             go_simp
             with_reducible rfl
           rotate_left
           · simp only [Act.put, List.setIfInBounds_toArray, List.set_cons_zero, List.set_cons_succ, i64_w, i32_w]
             rfl
           refine pure_ (i := 1) (N := some 17) (v := ?_) (a' := ?_) #[true, true, false, false, false, false, false, false, false, false, false, false, false] rfl rfl (any_of HT_.out (by kernel_rfl)) (fun _ _ _ h => h) (Or.inl ⟨by rfl, ?_⟩) ?_ ?_
           rotate_left
           · intro w'
             go_simp
             with_reducible rfl
           rotate_left
           · simp only [Act.put, List.setIfInBounds_toArray, List.set_cons_zero, List.set_cons_succ, i64_w, i32_w]
             rfl
           refine pure_ (i := 2) (N := some 18) (v := ?_) (a' := ?_) #[true, true, true, false, false, false, false, false, false, false, false, false, false] rfl rfl (any_of HT_.out (by kernel_rfl)) (fun _ _ _ h => h) (Or.inl ⟨by rfl, ?_⟩) ?_ ?_
           rotate_left
           · intro w'
             go_simp
             with_reducible rfl
           rotate_left
           · simp only [Act.put, List.setIfInBounds_toArray, List.set_cons_zero, List.set_cons_succ, i64_w, i32_w]
             rfl
           refine pure_ (i := 3) (N := some 19) (v := ?_) (a' := ?_) #[true, true, true, true, false, false, false, false, false, false, false, false, false] rfl rfl (any_of HT_.out (by kernel_rfl)) (fun _ _ _ h => h) (Or.inl ⟨by rfl, ?_⟩) ?_ ?_
           rotate_left
           · intro w'
             go_simp
             with_reducible rfl
           rotate_left
           · simp only [Act.put, List.setIfInBounds_toArray, List.set_cons_zero, List.set_cons_succ, i64_w, i32_w]
             rfl
           refine pure_ (i := 6) (N := some 22) (v := ?_) (a' := ?_) #[true, true, true, true, false, false, true, false, false, false, false, false, false] rfl rfl (any_of HT_.out (by kernel_rfl)) (fun _ _ _ h => h) (Or.inl ⟨by rfl, ?_⟩) ?_ ?_
           rotate_left
           · intro w'
             go_simp
             with_reducible rfl
           rotate_left
           · simp only [Act.put, List.setIfInBounds_toArray, List.set_cons_zero, List.set_cons_succ, i64_w, i32_w]
             rfl
           refine pure_ (i := 7) (N := some 23) (v := ?_) (a' := ?_) #[true, true, true, true, false, false, true, true, false, false, false, false, false] rfl rfl (any_of HT_.out (by kernel_rfl)) (fun _ _ _ h => h) (Or.inl ⟨by rfl, ?_⟩) ?_ ?_
           rotate_left
           · intro w'
             go_simp
             with_reducible rfl
           rotate_left
           · simp only [Act.put, List.setIfInBounds_toArray, List.set_cons_zero, List.set_cons_succ, i64_w, i32_w]
             rfl
           refine pure_ (i := 8) (N := some 24) (v := ?_) (a' := ?_) #[true, true, true, true, false, false, true, true, true, false, false, false, false] rfl rfl (any_of HT_.out (by kernel_rfl)) (fun _ _ _ h => h) (Or.inl ⟨by rfl, ?_⟩) ?_ ?_
           rotate_left
           · intro w'
             go_simp
             with_reducible rfl
           rotate_left
           · simp only [Act.put, List.setIfInBounds_toArray, List.set_cons_zero, List.set_cons_succ, i64_w, i32_w]
             rfl
           refine pure_ (i := 9) (N := some 25) (v := ?_) (a' := ?_) #[true, true, true, true, false, false, true, true, true, true, false, false, false] rfl rfl (any_of HT_.out (by kernel_rfl)) (fun _ _ _ h => h) (Or.inl ⟨by rfl, ?_⟩) ?_ ?_
           rotate_left
           · intro w'
             go_simp
             with_reducible rfl
           rotate_left
           · simp only [Act.put, List.setIfInBounds_toArray, List.set_cons_zero, List.set_cons_succ, i64_w, i32_w]
             rfl
           refine take_ (i := 4) (N := some 20) (v := ?_) (a' := ?_) #[true, true, true, true, true, false, true, true, true, true, false, false, false] rfl rfl (take_ofW HT_.out HW_.out (by kernel_rfl)) (fun _ _ _ h => h) (Or.inl ⟨by rfl, ?_⟩) hHeld ?_ ?_
           rotate_left
           · rintro w' ⟨s0, s1⟩
             go_simp
             with_reducible rfl
           rotate_left
           · simp only [Act.put, List.setIfInBounds_toArray, List.set_cons_zero, List.set_cons_succ, i64_w, i32_w]
             rfl
           refine pure_ (i := 5) (N := some 21) (v := ?_) (a' := ?_) #[true, true, true, true, true, true, true, true, true, true, false, false, false] rfl rfl (any_of HT_.out (by kernel_rfl)) (fun _ _ _ h => h) (Or.inl ⟨by rfl, ?_⟩) ?_ ?_
           rotate_left
           · intro w'
             go_simp
             with_reducible rfl
           rotate_left
           · simp only [Act.put, List.setIfInBounds_toArray, List.set_cons_zero, List.set_cons_succ, i64_w, i32_w]
             rfl
           refine pure_ (i := 11) (N := some 7) (v := ?_) (a' := ?_) #[true, true, true, true, true, true, true, true, true, true, false, true, false] rfl rfl (any_of HT_.out (by kernel_rfl)) (fun _ _ _ h => h) (Or.inl ⟨by rfl, ?_⟩) ?_ ?_
           rotate_left
           · intro w'
             go_simp
             with_reducible rfl
           rotate_left
           · simp only [Act.put, List.setIfInBounds_toArray, List.set_cons_zero, List.set_cons_succ, i64_w, i32_w]
             rfl
           refine take_ (i := 10) (N := some 26) (v := ?_) (a' := ?_) #[true, true, true, true, true, true, true, true, true, true, true, true, false] rfl rfl (take_ofW HT_.out HW_.out (by kernel_rfl)) (fun _ _ _ h => h) (Or.inl ⟨by rfl, ?_⟩) hHeld ?_ ?_
           rotate_left
           · rintro w' ⟨s0, s1⟩
             go_simp
             with_reducible rfl
           rotate_left
           · simp only [Act.put, List.setIfInBounds_toArray, List.set_cons_zero, List.set_cons_succ, i64_w, i32_w]
             rfl
           refine pure_ (i := 12) (N := some 8) (v := ?_) (a' := ?_) #[true, true, true, true, true, true, true, true, true, true, true, true, true] rfl rfl (any_of HT_.out (by kernel_rfl)) (fun _ _ _ h => h) (Or.inl ⟨by rfl, ?_⟩) ?_ ?_
           rotate_left
           · intro w'
             go_simp
             with_reducible rfl
           rotate_left
           · simp only [Act.put, List.setIfInBounds_toArray, List.set_cons_zero, List.set_cons_succ, i64_w, i32_w]
             rfl
           refine done_ (done_of HT_.out (by kernel_rfl)) ?_
           go_upto_region 5 with (fail)
           go_cut [50] (fun v50 wc => ∃ (kq : Nat) (x50_9 : Bool), v50 = .bool x50_9 ∧ Aside0 (impl_piece.j0 kq l0 a1 (rd l0 (ji7)) (wrap64 ((wrap64 (a1 + 6)) + (wrap64 (rd l0 (ji4))))) x50_9 = some (r1, r2, r3)) ∧ Aside0 (kq ≤ k) ∧ Aside0 (Kd.V (Kd.int .u8) 5 wc w.heap.size (fun k_ => (P0_ k_ ∨ w.heap.size ≤ k_)) (.slice (some ad101) l0.length c0) l0) ∧ Aside0 (Below w.heap.size w wc))
           case first =>
            have H := HC10.out
            clear HC10
            by_cases c12 : (wrap64 ((wrap64 ((Int.tmod a1 64) + 6)) + (wrap64 (rd l0 (ji4))))) > 64
            · rw [if_pos c12] at H
              have c12b0 : decide (64 < (wrap64 ((wrap64 ((Int.tmod a1 64) + 6)) + (wrap64 (rd l0 (ji4)))))) = true := decide_eq_true c12
              clear c12
              (first | rw [c12b0] | (simp only [i64_w, i32_w]; rw [c12b0]) | skip)
              have H' := Aside0.mk H
              clear H
              go_wp2
              go_meet
              case rel => exact ⟨_, (true), z4458, H', ⟨zb79b⟩, ⟨vZ HO0.out⟩, ⟨z5acd⟩⟩
            · rw [if_neg c12] at H
              have c12b0 : decide (64 < (wrap64 ((wrap64 ((Int.tmod a1 64) + 6)) + (wrap64 (rd l0 (ji4)))))) = false := decide_eq_false c12
              clear c12
              (first | rw [c12b0] | (simp only [i64_w, i32_w]; rw [c12b0]) | skip)
              by_cases c13 : (wrap64 ((wrap64 (a1 + 6)) + (wrap64 (rd l0 (ji4))))) > (l0.length : Int)
              · rw [if_pos c13] at H
                have c13b0 : decide ((l0.length : Int) < (wrap64 ((wrap64 (a1 + 6)) + (wrap64 (rd l0 (ji4)))))) = true := decide_eq_true c13
                clear c13
                have H' := Aside0.mk H
                clear H
                go_wp2
                go_meet
                case rel => exact ⟨_, (true), z4458, H', ⟨zb79b⟩, ⟨vZ HO0.out⟩, ⟨z5acd⟩⟩
              · rw [if_neg c13] at H
                have c13b0 : decide ((l0.length : Int) < (wrap64 ((wrap64 (a1 + 6)) + (wrap64 (rd l0 (ji4)))))) = false := decide_eq_false c13
                clear c13
                by_cases c14 : (rd l0 (ji7)) < 1
                · rw [if_pos c14] at H
                  have c14b0 : decide ((rd l0 (ji7)) < 1) = true := decide_eq_true c14
                  clear c14
                  have H' := Aside0.mk H
                  clear H
                  go_wp2
                  go_meet
                  case rel => exact ⟨_, (true), z4458, H', ⟨zb79b⟩, ⟨vZ HO0.out⟩, ⟨z5acd⟩⟩
                · rw [if_neg c14] at H
                  have c14b0 : decide ((rd l0 (ji7)) < 1) = false := decide_eq_false c14
                  clear c14
                  have H' := Aside0.mk H
                  clear H
                  go_wp2
                  go_meet
                  case rel => exact ⟨_, (decide ((rd l0 (ji7)) > 4)), (by first | rfl | (simp; done) | (simp only [← hji7] <;> (first | rfl | (simp; done))) | (simp [*]; done)), H', ⟨zb79b⟩, ⟨vZ HO0.out⟩, ⟨z5acd⟩⟩
           case rest =>
            clear HC10
            try clear c1
            try clear p1
            try clear q1
            try clear hx1
            try clear p2
            try clear c3
            try clear c3b0
            try clear c5
            try clear c5b0
            try clear c6
            try clear c6b0
            try clear p6
            try clear c7
            try clear c8
            try clear c8b0
            try clear c9
            try clear c9b0
            try clear p10
            try clear q10
            try clear hx10
            try clear c12
            try clear c12b0
            try clear c13
            try clear c13b0
            try clear c14
            try clear c14b0
            try clear hx101_0
            try clear hx102_0
            try clear p101
            try clear p102
            try clear q101
            try clear q102
            obtain ⟨kq, x50_9, rfl, HA, HJ9, HO_0, HB⟩ := hcut
            cases kq with
            | zero => exact absurd HA.out (by simp [impl_piece.j0])
            | succ kj9 =>
             have H := HA.out
             clear HA
             simp only [impl_piece.j0] at H
             by_cases c15 : x50_9 = true
             · subst c15
               have H1 : (some (0, ([] : List Int), false)) = some (r1, r2, r3) := by rw [if_pos rfl] at H; exact H
               clear H
               have H := H1
               clear H1
               simp only [Option.some.injEq, Prod.mk.injEq] at H
               obtain ⟨rfl, rfl, rfl⟩ := H
               go_wp2
               go_ret3
               exact ⟨_, by first | rfl | (simp [errW_none, errW_some] <;> rfl) | (simp only [← hji4, ← hji7]; first | rfl | (simp [errW_none, errW_some] <;> rfl)) | (simp [*, errW_none, errW_some] <;> rfl), by exact Kd.V_nil _ _ _ _ _, z5acd⟩
             · replace c15 := Bool.eq_false_iff.mpr c15
               subst c15
               have H1 : (if 0 ≤ (wrap64 (a1 + 6)) then (if (wrap64 (a1 + 6)) ≤ (wrap64 ((wrap64 (a1 + 6)) + (wrap64 (rd l0 (ji4))))) then (if (wrap64 ((wrap64 (a1 + 6)) + (wrap64 (rd l0 (ji4))))) ≤ (l0.length : Int) then ((some ((l0.take ((wrap64 ((wrap64 (a1 + 6)) + (wrap64 (rd l0 (ji4))))) : Int).toNat).drop ((wrap64 (a1 + 6)) : Int).toNat : List Int)).bind fun y103 => ((impl_check.f kj9 (rd l0 (ji7)) y103).bind fun t108 => (if 0 ≤ a1 then (if a1 ≤ (wrap64 (a1 + 4)) then (if (wrap64 (a1 + 4)) ≤ (l0.length : Int) then ((slices_Equal_byte_byte.f kj9 t108 ((l0.take ((wrap64 (a1 + 4)) : Int).toNat).drop (a1 : Int).toNat)).bind fun t116 => (some ((rd l0 (ji7)), y103, t116))) else (none)) else (none)) else (none)))) else (none)) else (none)) else (none)) = some (r1, r2, r3) := by rw [if_neg (show ¬ (false = true) by decide)] at H; exact H
               clear H
               have H := H1
               clear H1
               obtain ⟨ji16, hji16⟩ : ∃ j_ : Int, (wrap64 (a1 + 6)) = j_ := ⟨_, rfl⟩
               replace H : (if 0 ≤ (ji16) then (if (ji16) ≤ (wrap64 ((ji16) + (wrap64 (rd l0 (ji4))))) then (if (wrap64 ((ji16) + (wrap64 (rd l0 (ji4))))) ≤ (l0.length : Int) then ((some ((l0.take ((wrap64 ((ji16) + (wrap64 (rd l0 (ji4))))) : Int).toNat).drop ((ji16) : Int).toNat : List Int)).bind fun y103 => ((impl_check.f kj9 (rd l0 (ji7)) y103).bind fun t108 => (if 0 ≤ a1 then (if a1 ≤ (wrap64 (a1 + 4)) then (if (wrap64 (a1 + 4)) ≤ (l0.length : Int) then ((slices_Equal_byte_byte.f kj9 t108 ((l0.take ((wrap64 (a1 + 4)) : Int).toNat).drop (a1 : Int).toNat)).bind fun t116 => (some ((rd l0 (ji7)), y103, t116))) else (none)) else (none)) else (none)))) else (none)) else (none)) else (none)) = some (r1, r2, r3) := by first | (rw [hji16] at H; exact H) | (simp only [hji16] at H ⊢; exact H)
               have hji16w : (IntKind.i64.wrap (a1 + 6)) = ji16 := (i64_w _).trans hji16
               by_cases c17 : 0 ≤ (ji16)
               · rw [if_pos c17] at H
                 have c17b0 := eq_true c17
                 have c17b1 : decide (0 ≤ (ji16)) = true := decide_eq_true c17
                 clear c17
                 by_cases c18 : (ji16) ≤ (wrap64 ((ji16) + (wrap64 (rd l0 (ji4)))))
                 · rw [if_pos c18] at H
                   have c18b0 := eq_true c18
                   have c18b1 : decide ((ji16) ≤ (wrap64 ((ji16) + (wrap64 (rd l0 (ji4)))))) = true := decide_eq_true c18
                   by_cases c19 : (wrap64 ((ji16) + (wrap64 (rd l0 (ji4))))) ≤ (l0.length : Int)
                   · rw [if_pos c19] at H
                     have c19b0 := eq_true c19
                     have c19b1 : decide ((wrap64 ((ji16) + (wrap64 (rd l0 (ji4))))) ≤ (l0.length : Int)) = true := decide_eq_true c19
                     obtain ⟨y103, hy103⟩ : ∃ y_ : List Int, y_ = ((l0.take ((wrap64 ((ji16) + (wrap64 (rd l0 (ji4))))) : Int).toNat).drop ((ji16) : Int).toNat) := ⟨_, rfl⟩
                     replace H : ((impl_check.f kj9 (rd l0 (ji7)) y103).bind fun t108 => (if 0 ≤ a1 then (if a1 ≤ (wrap64 (a1 + 4)) then (if (wrap64 (a1 + 4)) ≤ (l0.length : Int) then ((slices_Equal_byte_byte.f kj9 t108 ((l0.take ((wrap64 (a1 + 4)) : Int).toNat).drop (a1 : Int).toNat)).bind fun t116 => (some ((rd l0 (ji7)), y103, t116))) else (none)) else (none)) else (none))) = some (r1, r2, r3) := by first | (rw [hy103]; with_reducible exact H) | (have H2_ := (Option.bind_some _ _).symm.trans H; rw [hy103]; with_reducible exact H2_) | (have H2_ := (Option.bind_some _ _).symm.trans H; with_reducible exact H2_) | with_reducible exact H | (rw [hy103]; exact H) | exact H
                     have Ny103 := Aside0.mk hy103
                     clear hy103
                     replace H := Option.bind_eq_some_iff.mp H
                     obtain ⟨t108, A200, H⟩ := H
                     try dsimp only at H
                     have A20 := Aside0.mk A200
                     clear A200
                     by_cases c21 : 0 ≤ a1
                     · rw [if_pos c21] at H
                       have c21b0 := eq_true c21
                       have c21b1 : decide (0 ≤ a1) = true := decide_eq_true c21
                       clear c21
                       replace H : (if a1 ≤ (ji4) then (if (ji4) ≤ (l0.length : Int) then ((slices_Equal_byte_byte.f kj9 t108 ((l0.take ((ji4) : Int).toNat).drop (a1 : Int).toNat)).bind fun t116 => (some ((rd l0 (ji7)), y103, t116))) else (none)) else (none)) = some (r1, r2, r3) := by first | (rw [hji4] at H; exact H) | (simp only [hji4] at H ⊢; exact H)
                       by_cases c22 : a1 ≤ (ji4)
                       · rw [if_pos c22] at H
                         have c22b0 := eq_true c22
                         have c22b1 : decide (a1 ≤ (ji4)) = true := decide_eq_true c22
                         clear c22
                         by_cases c23 : (ji4) ≤ (l0.length : Int)
                         · rw [if_pos c23] at H
                           have c23b0 := eq_true c23
                           have c23b1 : decide ((ji4) ≤ (l0.length : Int)) = true := decide_eq_true c23
                           clear c23
                           obtain ⟨y111, hy111⟩ : ∃ y_ : List Int, y_ = ((l0.take ((ji4) : Int).toNat).drop (a1 : Int).toNat) := ⟨_, rfl⟩
                           replace H : ((slices_Equal_byte_byte.f kj9 t108 y111).bind fun t116 => (some ((rd l0 (ji7)), y103, t116))) = some (r1, r2, r3) := by first | (rw [hy111]; with_reducible exact H) | (have H2_ := (Option.bind_some _ _).symm.trans H; rw [hy111]; with_reducible exact H2_) | (have H2_ := (Option.bind_some _ _).symm.trans H; with_reducible exact H2_) | with_reducible exact H | (rw [hy111]; exact H) | exact H
                           have Ny111 := Aside0.mk hy111
                           clear hy111
                           replace H := Option.bind_eq_some_iff.mp H
                           obtain ⟨t116, A240, H⟩ := H
                           try dsimp only at H
                           have A24 := Aside0.mk A240
                           clear A240
                           simp only [Option.some.injEq, Prod.mk.injEq] at H
                           obtain ⟨rfl, rfl, rfl⟩ := H
                           have q25 : ((wrap64 ((ji16) + (wrap64 (rd l0 (ji4))))) : Int) ≤ ((l0.length : Int) : Int) := of_decide_eq_true z1200
                           obtain ⟨i025, hi025, _, hsz25, _⟩ := info_parts info5
                           have hroom25 : l0.length ≤ c0 := (Kd.V_reads' HO_0.out).2.1
                           have hC25 : Kd.F (Kd.int .u8) _ _ (some ad101) l0.length l0 := (Kd.V_at (base := w.heap.size) HO_0.out).2.2
                           have ql25 : ((ji16) : Int) ≤ ((wrap64 ((ji16) + (wrap64 (rd l0 (ji4))))) : Int) := of_decide_eq_true z1200
                           have q025 : (0 : Int) ≤ ((ji16) : Int) := of_decide_eq_true z1200
                           have hcut25 := cut_mid (P := Try.prog) 22 5 .i64 .i64 Try.underlying22 hi025 1 hsz25 (some ad101) l0.length c0 (ji16) (wrap64 ((ji16) + (wrap64 (rd l0 (ji4))))) q025 ql25 q25 hroom25
                           have hr25 := Kd.F_mid (lo := ((ji16) : Int).toNat) (hi := ((wrap64 ((ji16) + (wrap64 (rd l0 (ji4))))) : Int).toNat) (c := c0) hC25 (by omega) (by omega) hroom25
                           obtain ⟨A25, hA25⟩ : ∃ A1, A1 = (if c0 = ((ji16) : Int).toNat then (some ad101) else ((some ad101) : Option Addr).map (·.add (((ji16) : Int).toNat * 1))) := ⟨_, rfl⟩
                           obtain ⟨c25, hc25⟩ : ∃ c1, c1 = c0 - ((ji16) : Int).toNat := ⟨_, rfl⟩
                           have hy25 : y103.length = ((wrap64 ((ji16) + (wrap64 (rd l0 (ji4))))) : Int).toNat - ((ji16) : Int).toNat := (by rw [Ny103.out, List.length_drop, List.length_take] <;> omega)
                           rw [show ((l0).take ((wrap64 ((ji16) + (wrap64 (rd l0 (ji4))))) : Int).toNat).drop ((ji16) : Int).toNat = y103 from Ny103.out.symm] at hr25
                           replace hr25 : Kd.F (Kd.int .u8) _ _ A25 y103.length y103 := (by rw [hA25]; exact hr25)
                           rw [← hy25, ← hA25, ← hc25] at hcut25
                           have HO107 := Aside0.mk (show Kd.V (Kd.int .u8) 5 _ w.heap.size _ (.slice A25 y103.length c25) y103 from Kd.V_mk (by rw [hy25, hc25]; exact Nat.sub_le_sub_right (Nat.le_trans (by omega) hroom25) _) hr25)
                           have HC107 := Aside0.mk (show y103.length ≤ c25 from by rw [hy25, hc25]; exact Nat.sub_le_sub_right (Nat.le_trans (by omega) hroom25) _)
                           clear hr25 hC25 hroom25 hi025 hsz25 hc25
                           have KY25 := Aside0.mk hy25
                           have KA25 := Aside0.mk hA25
                           clear hy25 hA25
                           replace q25 := eq_true q25
                           try go_wp2
                           have n0_ := Aside0.mk (Kd.V_drew HO_0.out)
                           have n1_ := Aside0.mk (Kd.V_drew HO107.out)
                           have n2_ := Aside0.mk (below_drew1 HB.out)
                           clear HO_0
                           clear HO107
                           clear HB
                           have HO_0 := n0_
                           have HO107 := n1_
                           have HB := n2_
                           clear n0_ n1_ n2_
                           have q27 : ((ji4) : Int) ≤ ((l0.length : Int) : Int) := of_decide_eq_true z1200
                           obtain ⟨i027, hi027, _, hsz27, _⟩ := info_parts info5
                           have hroom27 : l0.length ≤ c0 := (Kd.V_reads' HO_0.out).2.1
                           have hC27 : Kd.F (Kd.int .u8) _ _ (some ad101) l0.length l0 := (Kd.V_at (base := w.heap.size) HO_0.out).2.2
                           have ql27 : (a1 : Int) ≤ ((ji4) : Int) := of_decide_eq_true z1200
                           have q027 : (0 : Int) ≤ (a1 : Int) := of_decide_eq_true z1200
                           have hcut27 := cut_mid (P := Try.prog) 22 5 .i64 .i64 Try.underlying22 hi027 1 hsz27 (some ad101) l0.length c0 a1 (ji4) q027 ql27 q27 hroom27
                           have hr27 := Kd.F_mid (lo := (a1 : Int).toNat) (hi := ((ji4) : Int).toNat) (c := c0) hC27 (by omega) (by omega) hroom27
                           obtain ⟨A27, hA27⟩ : ∃ A1, A1 = (if c0 = (a1 : Int).toNat then (some ad101) else ((some ad101) : Option Addr).map (·.add ((a1 : Int).toNat * 1))) := ⟨_, rfl⟩
                           obtain ⟨c27, hc27⟩ : ∃ c1, c1 = c0 - (a1 : Int).toNat := ⟨_, rfl⟩
                           have hy27 : y111.length = ((ji4) : Int).toNat - (a1 : Int).toNat := (by rw [Ny111.out, List.length_drop, List.length_take] <;> omega)
                           rw [show ((l0).take ((ji4) : Int).toNat).drop (a1 : Int).toNat = y111 from Ny111.out.symm] at hr27
                           replace hr27 : Kd.F (Kd.int .u8) _ _ A27 y111.length y111 := (by rw [hA27]; exact hr27)
                           rw [← hy27, ← hA27, ← hc27] at hcut27
                           have HO115 := Aside0.mk (show Kd.V (Kd.int .u8) 5 _ w.heap.size _ (.slice A27 y111.length c27) y111 from Kd.V_mk (by rw [hy27, hc27]; exact Nat.sub_le_sub_right (Nat.le_trans (by omega) hroom27) _) hr27)
                           have HC115 := Aside0.mk (show y111.length ≤ c27 from by rw [hy27, hc27]; exact Nat.sub_le_sub_right (Nat.le_trans (by omega) hroom27) _)
                           clear hr27 hC27 hroom27 hi027 hsz27 hc27
                           have KY27 := Aside0.mk hy27
                           have KA27 := Aside0.mk hA27
                           clear hy27 hA27
                           replace q27 := eq_true q27
                           refine start_ (n := 14) (S := fun w' => True) (ds := []) #[false, false, false, false, false, false, false, false, false, false, false, false, false, false] (by kernel_rfl) rfl rfl trivial (fun hHeld => ?_); refine with_tabW impl_piece.tab8 impl_piece.bits8 (fun HT_ HW_ => ?_)
                           generalize wc.drew = w26 at HO_0 HO107 HB HO115 hHeld ⊢
                           refine pure_ (i := 0) (N := some 56) (v := ?_) (a' := ?_) #[true, false, false, false, false, false, false, false, false, false, false, false, false, false] rfl rfl (any_of HT_.out (by kernel_rfl)) (fun _ _ _ h => h) (Or.inl ⟨by rfl, ?_⟩) ?_ ?_
                           rotate_left
                           · intro w'
                             go_simp
                             with_reducible rfl
                           rotate_left
                           · simp only [Act.put, List.setIfInBounds_toArray, List.set_cons_zero, List.set_cons_succ, i64_w, i32_w]
                             rfl
                           refine pure_ (i := 1) (N := some 57) (v := ?_) (a' := ?_) #[true, true, false, false, false, false, false, false, false, false, false, false, false, false] rfl rfl (any_of HT_.out (by kernel_rfl)) (fun _ _ _ h => h) (Or.inl ⟨by rfl, ?_⟩) ?_ ?_
                           rotate_left
                           · intro w'
                             go_simp
                             with_reducible rfl
                           rotate_left
                           · simp only [Act.put, List.setIfInBounds_toArray, List.set_cons_zero, List.set_cons_succ, i64_w, i32_w]
                             rfl
                           refine pure_ (i := 2) (N := some 58) (v := ?_) (a' := ?_) #[true, true, true, false, false, false, false, false, false, false, false, false, false, false] rfl rfl (any_of HT_.out (by kernel_rfl)) (fun _ _ _ h => h) (Or.inl ⟨by rfl, ?_⟩) ?_ ?_
                           rotate_left
                           · intro w'
                             go_simp
                             with_reducible rfl
                           rotate_left
                           · simp only [Act.put, List.setIfInBounds_toArray, List.set_cons_zero, List.set_cons_succ, i64_w, i32_w]
                             rfl
                           refine pure_ (i := 3) (N := some 59) (v := ?_) (a' := ?_) #[true, true, true, true, false, false, false, false, false, false, false, false, false, false] rfl rfl (any_of HT_.out (by kernel_rfl)) (fun _ _ _ h => h) (Or.inl ⟨by rfl, ?_⟩) ?_ ?_
                           rotate_left
                           · intro w'
                             go_simp
                             with_reducible rfl
                           rotate_left
                           · simp only [Act.put, List.setIfInBounds_toArray, List.set_cons_zero, List.set_cons_succ, i64_w, i32_w]
                             rfl
                           refine pure_ (i := 5) (N := some 61) (v := ?_) (a' := ?_) #[true, true, true, true, false, true, false, false, false, false, false, false, false, false] rfl rfl (any_of HT_.out (by kernel_rfl)) (fun _ _ _ h => h) (Or.inl ⟨by rfl, ?_⟩) ?_ ?_
                           rotate_left
                           · intro w'
                             go_simp
                             with_reducible rfl
                           rotate_left
                           · simp only [Act.put, List.setIfInBounds_toArray, List.set_cons_zero, List.set_cons_succ, i64_w, i32_w]
                             rfl
                           refine pure_ (i := 6) (N := some 62) (v := ?_) (a' := ?_) #[true, true, true, true, false, true, true, false, false, false, false, false, false, false] rfl rfl (any_of HT_.out (by kernel_rfl)) (fun _ _ _ h => h) (Or.inl ⟨by rfl, ?_⟩) ?_ ?_
                           rotate_left
                           · intro w'
                             go_simp
                             with_reducible rfl
                           rotate_left
                           · simp only [Act.put, List.setIfInBounds_toArray, List.set_cons_zero, List.set_cons_succ, i64_w, i32_w]
                             rfl
                           refine pure_ (i := 7) (N := some 63) (v := ?_) (a' := ?_) #[true, true, true, true, false, true, true, true, false, false, false, false, false, false] rfl rfl (any_of HT_.out (by kernel_rfl)) (fun _ _ _ h => h) (Or.inl ⟨by rfl, ?_⟩) ?_ ?_
                           rotate_left
                           · intro w'
                             go_simp
                             with_reducible rfl
                           rotate_left
                           · simp only [Act.put, List.setIfInBounds_toArray, List.set_cons_zero, List.set_cons_succ, i64_w, i32_w]
                             rfl
                           refine pure_ (i := 8) (N := some 64) (v := ?_) (a' := ?_) #[true, true, true, true, false, true, true, true, true, false, false, false, false, false] rfl rfl (any_of HT_.out (by kernel_rfl)) (fun _ _ _ h => h) (Or.inl ⟨by rfl, ?_⟩) ?_ ?_
                           rotate_left
                           · intro w'
                             go_simp
                             with_reducible rfl
                           rotate_left
                           · simp only [Act.put, List.setIfInBounds_toArray, List.set_cons_zero, List.set_cons_succ, i64_w, i32_w]
                             rfl
                           refine pure_ (i := 9) (N := some 65) (v := ?_) (a' := ?_) #[true, true, true, true, false, true, true, true, true, true, false, false, false, false] rfl rfl (any_of HT_.out (by kernel_rfl)) (fun _ _ _ h => h) (Or.inl ⟨by rfl, ?_⟩) ?_ ?_
                           rotate_left
                           · intro w'
                             go_simp
                             with_reducible rfl
                           rotate_left
                           · simp only [Act.put, List.setIfInBounds_toArray, List.set_cons_zero, List.set_cons_succ, i64_w, i32_w]
                             rfl
                           refine one_ (i := 4) (N := some 60) #[true, true, true, true, true, true, true, true, true, true, false, false, false, false] rfl rfl (one_of HT_.out (by kernel_rfl)) (by decide) (fun K hK => ?_)
                           refine goes_ Try.func71 (by kernel_rfl) rfl #[.int .u8 (rd l0 (ji7)), .slice A25 y103.length c25] (by rfl) rfl rfl (by (try simp only [List.map_toArray, List.map_cons, List.map_nil]); first | done | (simp only [hji7]; rfl) | rfl | (simp only [List.length_drop, List.length_take]; rfl)) ?_
                           with_reducible refine (impl_check.calls kj9 (rd l0 (ji7)) _ _ y103 t108 _ ?side1 ?side2 A20.out).mono ?_
                           (case side1 => exact (by repeat (first | exact (Kd.V_reads' HO107.out).2.2 | (with_reducible refine Kd.C_alloc ?_ _) | (with_reducible refine Kd.C_drewN ?_ _) | (with_reducible refine Kd.C_drew ?_))))
                           (case side2 => exact (Kd.V_reads' HO107.out).2.1)
                           rintro e w28 ⟨v109, rfl, ho0, hb⟩
                           refine ⟨_, rfl, ?_⟩
                           have n0_ := Aside0.mk (Kd.V_elder' (vZ HO_0.out) (Kd.R_base ho0) hb)
                           have n1_ := Aside0.mk (Kd.V_elder' (vZ HO107.out) (Kd.R_base ho0) hb)
                           have n2_ := Aside0.mk (Kd.V_elder' (vZ HO115.out) (Kd.R_base ho0) hb)
                           have n3_ := Aside0.mk (Kd.R_lower (Kd.R_newM (M := fun k_ => (w.heap.size ≤ k_)) ho0 (below_size hbZ) (fun k_ h_ => h_)) (below_size hbZ))
                           have n4_ := Aside0.mk (below_step hbZ hb)
                           clear HO_0
                           clear HO107
                           clear HO115
                           clear HB
                           have HO_0 := n0_
                           have HO107 := n1_
                           have HO115 := n2_
                           have HO110 := n3_
                           have HB := n4_
                           clear n0_ n1_ n2_ n3_ n4_
                           (try clear hb)
                           (try clear hb2)
                           (try clear hk)
                           (try clear hi)
                           (try clear ho0)
                           obtain ⟨Ao29, co29, eo29⟩ := Kd.R_slice HO110.out
                           (first | subst eo29 | (injection eo29 with f1_ f2_ f3_; have f4_ := f1_.symm; have f5_ := f3_.symm; clear f1_ f2_ f3_; subst f4_; subst f5_))
                           refine hK.out _ _ trivial (fun hHeld => ?_)
                           clear hK K
                           refine norm_ (a' := ?_) ?_ ?_
                           rotate_left
                           · show Act.put _ (some 60) _ = _
                             simp only [Act.put, List.setIfInBounds_toArray, List.set_cons_zero, List.set_cons_succ, i64_w, i32_w]
                             rfl
                           refine one_ (i := 10) (N := some 66) #[true, true, true, true, true, true, true, true, true, true, true, false, false, false] rfl rfl (one_of HT_.out (by kernel_rfl)) (by decide) (fun K hK => ?_)
                           refine goes_ Try.func86 (by kernel_rfl) rfl #[.slice Ao29 t108.length co29, .slice A27 y111.length c27] (by rfl) rfl rfl zee81 ?_
                           with_reducible refine (slices_Equal_byte_byte.calls kj9 _ _ t108 _ _ y111 t116 _ ?side1 ?side2 ?side3 ?side4 A24.out).mono ?_
                           (case side1 => exact (by repeat (first | exact (Kd.R_reads' HO110.out).2.2 | (with_reducible refine Kd.C_alloc ?_ _) | (with_reducible refine Kd.C_drewN ?_ _) | (with_reducible refine Kd.C_drew ?_))))
                           (case side2 => exact (Kd.R_reads' HO110.out).2.1)
                           (case side3 => exact (by repeat (first | exact (Kd.V_reads' HO115.out).2.2 | (with_reducible refine Kd.C_alloc ?_ _) | (with_reducible refine Kd.C_drewN ?_ _) | (with_reducible refine Kd.C_drew ?_))))
                           (case side4 => exact (Kd.V_reads' HO115.out).2.1)
                           rintro e w' ⟨rfl, ⟨nd, rfl⟩⟩
                           refine ⟨_, rfl, ?_⟩
                           refine hK.out _ _ trivial (fun hHeld => ?_)
                           clear hK K
                           refine norm_ (a' := ?_) ?_ ?_
                           rotate_left
                           · show Act.put _ (some 66) _ = _
                             simp only [Act.put, List.setIfInBounds_toArray, List.set_cons_zero, List.set_cons_succ, i64_w, i32_w]
                             rfl
                           refine pure_ (i := 11) (N := some 4) (v := ?_) (a' := ?_) #[true, true, true, true, true, true, true, true, true, true, true, true, false, false] rfl rfl (any_of HT_.out (by kernel_rfl)) (fun _ _ _ h => h) (Or.inl ⟨by rfl, ?_⟩) ?_ ?_
                           rotate_left
                           · intro w'
                             go_simp
                             with_reducible rfl
                           rotate_left
                           · simp only [Act.put, List.setIfInBounds_toArray, List.set_cons_zero, List.set_cons_succ, i64_w, i32_w]
                             rfl
                           refine pure_ (i := 12) (N := some 5) (v := ?_) (a' := ?_) #[true, true, true, true, true, true, true, true, true, true, true, true, true, false] rfl rfl (any_of HT_.out (by kernel_rfl)) (fun _ _ _ h => h) (Or.inl ⟨by rfl, ?_⟩) ?_ ?_
                           rotate_left
                           · intro w'
                             go_simp
                             with_reducible rfl
                           rotate_left
                           · simp only [Act.put, List.setIfInBounds_toArray, List.set_cons_zero, List.set_cons_succ, i64_w, i32_w]
                             rfl
                           refine pure_ (i := 13) (N := some 6) (v := ?_) (a' := ?_) #[true, true, true, true, true, true, true, true, true, true, true, true, true, true] rfl rfl (any_of HT_.out (by kernel_rfl)) (fun _ _ _ h => h) (Or.inl ⟨by rfl, ?_⟩) ?_ ?_
                           rotate_left
                           · intro w'
                             go_simp
                             with_reducible rfl
                           rotate_left
                           · simp only [Act.put, List.setIfInBounds_toArray, List.set_cons_zero, List.set_cons_succ, i64_w, i32_w]
                             rfl
                           refine done_ (done_of HT_.out (by kernel_rfl)) ?_
                           try go_wp2
                           go_ret3
                           exact ⟨_, by first | rfl | (simp [errW_none, errW_some] <;> rfl) | (simp only [← hji4, ← hji7, ← hji16]; first | rfl | (simp [errW_none, errW_some] <;> rfl)) | (simp [*, errW_none, errW_some] <;> rfl), by (with_reducible repeat (first | apply Kd.V_alloc | apply Kd.V_drewN | apply Kd.V_drew)); exact Kd.V_mono HO107.out (fun _ hk => hk.1), z5acd⟩
                         · rw [if_neg c23] at H
                           exact absurd H (by simp)
                       · rw [if_neg c22] at H
                         exact absurd H (by simp)
                     · rw [if_neg c21] at H
                       exact absurd H (by simp)
                   · rw [if_neg c19] at H
                     exact absurd H (by simp)
                 · rw [if_neg c18] at H
                   exact absurd H (by simp)
               · rw [if_neg c17] at H
                 exact absurd H (by simp)
         · rw [if_neg c9] at H
           exact absurd H (by simp)
       · rw [if_neg c8] at H
         exact absurd H (by simp)
     · rw [if_neg c6] at H
       exact absurd H (by simp)
   · rw [if_neg c5] at H
     exact absurd H (by simp)

end Go.Proofs.Ythliooccgclbjaa.P

-- written by a program of this session's (wip/pp)
namespace Go.Proofs.Ythliooccgclbjaa.P
open Go.RowKit Go.Proofs.YthliooccgclbjaaW.PrintWords Go.Proofs.YthliooccgclbjaaW.PrintLast Go.Proofs.YthliooccgclbjaaW.PrintMore
attribute [local go_sem] max2_int min2_int max_two min_two max_three min_three max_four min_four   -- for this text's walks alone
set_option linter.unusedVariables false
set_option linter.unusedSimpArgs false

/-! ### impl_readLog_1: function 74 -/
def impl_readLog_1.f (a0 : Int) : Option (Bool) := some (a0 != 0)
set_option maxHeartbeats 8000000 in
set_option maxRecDepth 100000 in
theorem impl_readLog_1.calls (a0 : Int) (r : Bool) (w : World) (h : impl_readLog_1.f a0 = some r) :
 Calls Try.prog 74 #[.int .u8 a0] w fun e w' => e = .returned (.bool r) ∧ Drawn0 w w' := by
 have H : (some (a0 != 0)) = some r := h
 clear h
 obtain rfl := Option.some.inj H
 go_enter Try.func74, Try.ntmps74
 go_wp2
 go_ret
 exact ⟨z4458, za9de⟩

end Go.Proofs.Ythliooccgclbjaa.P

-- written by a program of this session's (wip/pp)
namespace Go.Proofs.Ythliooccgclbjaa.P
open Go.RowKit Go.Proofs.YthliooccgclbjaaW.PrintWords Go.Proofs.YthliooccgclbjaaW.PrintLast Go.Proofs.YthliooccgclbjaaW.PrintMore
attribute [local go_sem] max2_int min2_int max_two min_two max_three min_three max_four min_four   -- for this text's walks alone
set_option linter.unusedVariables false
set_option linter.unusedSimpArgs false

/-! ### slices_IndexFunc_byte_byte_with_impl_readLog_1: function 10085074 -/
def slices_IndexFunc_byte_byte_with_impl_readLog_1.l0 : Nat → List Int → Int → Int → Option (Int)
 | 0, _, _, _ => none
 | k + 1, x0, x7, x8 => if x8 < x7 then (if 0 ≤ x8 then (if x8 < (x0.length : Int) then ((impl_readLog_1.f (rd x0 x8)).bind fun t102 => (if t102 = true then (some x8) else (slices_IndexFunc_byte_byte_with_impl_readLog_1.l0 k x0 x7 (wrap64 (x8 + 1))))) else (none)) else (none)) else (some (-1))
def slices_IndexFunc_byte_byte_with_impl_readLog_1.f (k : Nat) (l0 : List Int)  : Option (Int) := slices_IndexFunc_byte_byte_with_impl_readLog_1.l0 k l0 (l0.length : Int) 0
theorem slices_IndexFunc_byte_byte_with_impl_readLog_1.mono_l : ∀ k, (∀ y0 y1 y2, LeO (slices_IndexFunc_byte_byte_with_impl_readLog_1.l0 k y0 y1 y2) (slices_IndexFunc_byte_byte_with_impl_readLog_1.l0 (k + 1) y0 y1 y2))
 | 0 => fun _ _ _ r h => by simp [slices_IndexFunc_byte_byte_with_impl_readLog_1.l0] at h
 | k + 1 => by
  have ih0 := slices_IndexFunc_byte_byte_with_impl_readLog_1.mono_l k
  · intro y0 y1 y2
    unfold slices_IndexFunc_byte_byte_with_impl_readLog_1.l0
    repeat' first
     | (with_reducible first | exact ih0 .. | exact LeO.refl _ | exact LeO.none _ | refine LeO.ite ?_ ?_ | refine LeO.bind ?_ (fun _ => ?_))
     | exact LeO.none _
     | refine LeO.ite ?_ ?_
     | refine LeO.bind ?_ (fun _ => ?_)
theorem slices_IndexFunc_byte_byte_with_impl_readLog_1.mono : ∀ a0 k, LeO (slices_IndexFunc_byte_byte_with_impl_readLog_1.f k a0) (slices_IndexFunc_byte_byte_with_impl_readLog_1.f (k + 1) a0) := by
 intro a0 k
 have ih0 := slices_IndexFunc_byte_byte_with_impl_readLog_1.mono_l k
 unfold slices_IndexFunc_byte_byte_with_impl_readLog_1.f
 repeat' first
  | (with_reducible first | exact ih0 .. | exact LeO.refl _ | exact LeO.none _ | refine LeO.ite ?_ ?_ | refine LeO.bind ?_ (fun _ => ?_))
  | exact LeO.none _
  | refine LeO.ite ?_ ?_
  | refine LeO.bind ?_ (fun _ => ?_)
set_option maxHeartbeats 8000000 in
set_option maxRecDepth 100000 in
theorem slices_IndexFunc_byte_byte_with_impl_readLog_1.calls (k : Nat) (A0 : Option Addr) (c0 : Nat) (l0 : List Int)  (r : Int) (w : World) (hr0 : Kd.C (Kd.int .u8) w A0 l0.length l0) (hc0 : l0.length ≤ c0) (h : slices_IndexFunc_byte_byte_with_impl_readLog_1.f k l0 = some r) :
 Calls Try.prog 85 #[.slice A0 l0.length c0, .func (.func 74) #[] #[]] w fun e w' => e = .returned (.int .i64 r) ∧ Drawn0 w w' := by
 have HR0 := Aside0.mk hr0
 have HC0 := Aside0.mk hc0
 clear hr0 hc0
 have H : (slices_IndexFunc_byte_byte_with_impl_readLog_1.l0 k l0 (l0.length : Int) 0) = some r := h
 clear h
 have H' := Aside0.mk H
 clear H
 go_enter Try.func85, Try.ntmps85
 go_wp2
 go_loopg [8] k (fun kq v8 w' => ∃ (x8_1 : Int), v8 = .int .i64 x8_1 ∧ Aside0 (slices_IndexFunc_byte_byte_with_impl_readLog_1.l0 kq l0 (l0.length : Int) x8_1 = some r) ∧ Aside0 (kq ≤ k) ∧ Drawn0 w w')
 case atStart => exact ⟨(0), z4458, H', ⟨Nat.le_refl _⟩, za9de⟩
 case round =>
  clear H'
  try clear p2
  obtain ⟨x8_1, rfl, HA, HK1, ⟨m1, rfl⟩⟩ := hrel
  cases gk with
  | zero => exact absurd HA.out (by simp [slices_IndexFunc_byte_byte_with_impl_readLog_1.l0])
  | succ k1 =>
   have H := HA.out
   clear HA
   simp only [slices_IndexFunc_byte_byte_with_impl_readLog_1.l0] at H
   by_cases c3 : x8_1 < (l0.length : Int)
   · rw [if_pos c3] at H
     have c3b0 : decide (x8_1 < (l0.length : Int)) = true := decide_eq_true c3
     clear c3
     by_cases c4 : 0 ≤ x8_1
     · rw [if_pos c4] at H
       have c4b0 : decide (0 ≤ x8_1) = true := decide_eq_true c4
       clear c4
       by_cases c5 : x8_1 < (l0.length : Int)
       · rw [if_pos c5] at H
         have c5b0 : decide (x8_1 < (l0.length : Int)) = true := decide_eq_true c5
         clear c5
         replace H := Option.bind_eq_some_iff.mp H
         obtain ⟨t102, A60, H⟩ := H
         try dsimp only at H
         have A6 := Aside0.mk A60
         clear A60
         by_cases c7 : t102 = true
         · subst c7
           have H1 : (some x8_1) = some r := by rw [if_pos rfl] at H; exact H
           clear H
           have H := H1
           clear H1
           obtain rfl := Option.some.inj H
           have p101 : 0 ≤ (x8_1 : Int) := of_decide_eq_true z1200
           have q101 : x8_1 < (l0.length : Int) := of_decide_eq_true z1200
           obtain ⟨ad101, e101, hx101_0⟩ := Kd.at_int HR0.out x8_1 p101 q101
           cases e101
           replace p101 := eq_true p101
           replace q101 := eq_true q101
           go_wp2_with (first | (go_at_call 74; (with_reducible refine (impl_readLog_1.calls (rd l0 x8_1) true _ A6.out).mono ?_); rintro e w' ⟨rfl, ⟨nd, rfl⟩⟩))
           go_ret
           exact ⟨z4458, za9de⟩
         · replace c7 := Bool.eq_false_iff.mpr c7
           subst c7
           have H1 : (slices_IndexFunc_byte_byte_with_impl_readLog_1.l0 k1 l0 (l0.length : Int) (wrap64 (x8_1 + 1))) = some r := by rw [if_neg (show ¬ (false = true) by decide)] at H; exact H
           clear H
           have H := H1
           clear H1
           have H' := Aside0.mk H
           clear H
           have p101 : 0 ≤ (x8_1 : Int) := of_decide_eq_true z1200
           have q101 : x8_1 < (l0.length : Int) := of_decide_eq_true z1200
           obtain ⟨ad101, e101, hx101_0⟩ := Kd.at_int HR0.out x8_1 p101 q101
           cases e101
           replace p101 := eq_true p101
           replace q101 := eq_true q101
           go_wp2_with (first | (go_at_call 74; (with_reducible refine (impl_readLog_1.calls (rd l0 x8_1) false _ A6.out).mono ?_); rintro e w' ⟨rfl, ⟨nd, rfl⟩⟩))
           go_roundg k1
           case measure => have := HK1.out; omega
           case rel => exact ⟨(wrap64 (x8_1 + 1)), z4458, H', ⟨zfb39⟩, za9de⟩
       · rw [if_neg c5] at H
         exact absurd H (by simp)
     · rw [if_neg c4] at H
       exact absurd H (by simp)
   · rw [if_neg c3] at H
     have c3b0 : decide (x8_1 < (l0.length : Int)) = false := decide_eq_false c3
     clear c3
     obtain rfl := Option.some.inj H
     go_wp2
     go_ret
     exact ⟨z4458, za9de⟩

end Go.Proofs.Ythliooccgclbjaa.P

-- written by a program of this session's (wip/pp)
namespace Go.Proofs.Ythliooccgclbjaa.P
open Go.RowKit Go.Proofs.YthliooccgclbjaaW.PrintWords Go.Proofs.YthliooccgclbjaaW.PrintLast Go.Proofs.YthliooccgclbjaaW.PrintMore
attribute [local go_sem] max2_int min2_int max_two min_two max_three min_three max_four min_four   -- for this text's walks alone
set_option linter.unusedVariables false
set_option linter.unusedSimpArgs false

/-! ### slices_ContainsFunc_byte_byte_with_impl_readLog_1: function 10073074 -/
def slices_ContainsFunc_byte_byte_with_impl_readLog_1.f (k : Nat) (l0 : List Int)  : Option (Bool) := (slices_IndexFunc_byte_byte_with_impl_readLog_1.f k l0).bind fun t101 => (some (decide (t101 ≥ 0)))
theorem slices_ContainsFunc_byte_byte_with_impl_readLog_1.mono : ∀ a0 k, LeO (slices_ContainsFunc_byte_byte_with_impl_readLog_1.f k a0) (slices_ContainsFunc_byte_byte_with_impl_readLog_1.f (k + 1) a0) := by
 intro a0 k
 unfold slices_ContainsFunc_byte_byte_with_impl_readLog_1.f
 repeat' first
  | (with_reducible first | exact slices_IndexFunc_byte_byte_with_impl_readLog_1.mono .. | exact LeO.refl _ | exact LeO.none _ | refine LeO.ite ?_ ?_ | refine LeO.bind ?_ (fun _ => ?_))
  | exact LeO.none _
  | refine LeO.ite ?_ ?_
  | refine LeO.bind ?_ (fun _ => ?_)
set_option maxHeartbeats 8000000 in
set_option maxRecDepth 100000 in
theorem slices_ContainsFunc_byte_byte_with_impl_readLog_1.calls (k : Nat) (A0 : Option Addr) (c0 : Nat) (l0 : List Int)  (r : Bool) (w : World) (hr0 : Kd.C (Kd.int .u8) w A0 l0.length l0) (hc0 : l0.length ≤ c0) (h : slices_ContainsFunc_byte_byte_with_impl_readLog_1.f k l0 = some r) :
 Calls Try.prog 73 #[.slice A0 l0.length c0, .func (.func 74) #[] #[]] w fun e w' => e = .returned (.bool r) ∧ Drawn0 w w' := by
 have HR0 := Aside0.mk hr0
 have HC0 := Aside0.mk hc0
 clear hr0 hc0
 have H : ((slices_IndexFunc_byte_byte_with_impl_readLog_1.f k l0).bind fun t101 => (some (decide (t101 ≥ 0)))) = some r := h
 clear h
 replace H := Option.bind_eq_some_iff.mp H
 obtain ⟨t101, A30, H⟩ := H
 try dsimp only at H
 have A3 := Aside0.mk A30
 clear A30
 obtain rfl := Option.some.inj H
 go_enter Try.func73, Try.ntmps73
 go_wp2_with (first | ((with_reducible refine gate_callee (f := 85) rfl ?_); refine goesL_ (some 7) rfl rfl Try.func85 (by kernel_rfl) rfl #[.slice A0 l0.length c0, .func (.func 74) #[] #[]] rfl zee81 ?_; (with_reducible refine (slices_IndexFunc_byte_byte_with_impl_readLog_1.calls k _ _ l0  t101 _ ?side1 ?side2 A3.out).mono ?_); (case side1 => exact z4195); (case side2 => exact HC0.out); rintro e w' ⟨rfl, ⟨nd, rfl⟩⟩; refine ⟨_, rfl, ?_⟩))
 go_ret
 exact ⟨z4458, za9de⟩

end Go.Proofs.Ythliooccgclbjaa.P

-- written by a program of this session's (wip/pp)
namespace Go.Proofs.Ythliooccgclbjaa.P
open Go.RowKit Go.Proofs.YthliooccgclbjaaW.PrintWords Go.Proofs.YthliooccgclbjaaW.PrintLast Go.Proofs.YthliooccgclbjaaW.PrintMore
attribute [local go_sem] max2_int min2_int max_two min_two max_three min_three max_four min_four   -- for this text's walks alone
set_option linter.unusedVariables false
set_option linter.unusedSimpArgs false

/-! ### impl_readLog: function 54 -/
mutual
def impl_readLog.l0 : Nat → List Int → List (List Int) → Int → Bool → List Int → Int → Option ((List (List Int)) × Int)
 | 0, _, _, _, _, _, _ => none
 | k + 1, x0, x4, x5, x6, x7, x8 => (impl_padding.f x8).bind fun t107 => (if (wrap64 (x8 + t107)) > (x0.length : Int) then (impl_readLog.j1 k x0 x4 x5 x6 x7 x8 t107 true) else (if 0 ≤ x8 then (if x8 ≤ (wrap64 (x8 + t107)) then (if (wrap64 (x8 + t107)) ≤ (x0.length : Int) then ((slices_ContainsFunc_byte_byte_with_impl_readLog_1.f k ((x0.take ((wrap64 (x8 + t107)) : Int).toNat).drop (x8 : Int).toNat)).bind fun t112 => (impl_readLog.j1 k x0 x4 x5 x6 x7 x8 t107 t112)) else (none)) else (none)) else (none)))
def impl_readLog.j1 : Nat → List Int → List (List Int) → Int → Bool → List Int → Int → Int → Bool → Option ((List (List Int)) × Int)
 | 0, _, _, _, _, _, _, _, _ => none
 | k + 1, x0, x4, x5, x6, x7, x8, x9, x31 => if x31 = true then (some (x4, x5)) else ((impl_piece.f k x0 (wrap64 (x8 + x9))).bind fun bt113 => (if bt113.2.2 = true then (if bt113.1 = 3 then (impl_readLog.j2 k x0 x4 x5 x7 x8 x9 bt113.1 bt113.2.1 (x6 != true)) else (impl_readLog.j2 k x0 x4 x5 x7 x8 x9 bt113.1 bt113.2.1 (x6 != (bt113.1 == 4)))) else (impl_readLog.j2 k x0 x4 x5 x7 x8 x9 bt113.1 bt113.2.1 true)))
def impl_readLog.j2 : Nat → List Int → List (List Int) → Int → List Int → Int → Int → Int → List Int → Bool → Option ((List (List Int)) × Int)
 | 0, _, _, _, _, _, _, _, _, _ => none
 | k + 1, x0, x4, x5, x7, x8, x9, x10, x11, x54 => if x54 = true then (some (x4, x5)) else (if x7.length + x11.length < 140737488355328 then ((some (x7 ++ x11 : List Int)).bind fun y118 => (if x10 = 2 then (impl_readLog.l0 k x0 x4 x5 true y118 (wrap64 (x8 + (wrap64 ((wrap64 (x9 + 6)) + (x11.length : Int)))))) else (if x10 = 3 then (impl_readLog.l0 k x0 x4 x5 (x10 == 3) y118 (wrap64 (x8 + (wrap64 ((wrap64 (x9 + 6)) + (x11.length : Int)))))) else (if x4.length < 5864062014805 then (impl_readLog.l0 k x0 (x4 ++ [y118]) (wrap64 (x8 + (wrap64 ((wrap64 (x9 + 6)) + (x11.length : Int))))) (x10 == 3) (([] : List Int)) (wrap64 (x8 + (wrap64 ((wrap64 (x9 + 6)) + (x11.length : Int)))))) else (none))))) else (none))
end
def impl_readLog.f (k : Nat) (l0 : List Int) : Option ((List (List Int)) × Int) := impl_readLog.l0 k l0 (([] : List (List Int))) 0 false (([] : List Int)) 0
theorem impl_readLog.mono_l : ∀ k, (∀ y0 y1 y2 y3 y4 y5, LeO (impl_readLog.l0 k y0 y1 y2 y3 y4 y5) (impl_readLog.l0 (k + 1) y0 y1 y2 y3 y4 y5)) ∧ (∀ y0 y1 y2 y3 y4 y5 y6 y7, LeO (impl_readLog.j1 k y0 y1 y2 y3 y4 y5 y6 y7) (impl_readLog.j1 (k + 1) y0 y1 y2 y3 y4 y5 y6 y7)) ∧ (∀ y0 y1 y2 y3 y4 y5 y6 y7 y8, LeO (impl_readLog.j2 k y0 y1 y2 y3 y4 y5 y6 y7 y8) (impl_readLog.j2 (k + 1) y0 y1 y2 y3 y4 y5 y6 y7 y8))
 | 0 => ⟨fun _ _ _ _ _ _ r h => by simp [impl_readLog.l0] at h, fun _ _ _ _ _ _ _ _ r h => by simp [impl_readLog.j1] at h, fun _ _ _ _ _ _ _ _ _ r h => by simp [impl_readLog.j2] at h⟩
 | k + 1 => by
  obtain ⟨ih0, ih1, ih2⟩ := impl_readLog.mono_l k
  refine ⟨?_, ?_, ?_⟩
  · intro y0 y1 y2 y3 y4 y5
    unfold impl_readLog.l0
    repeat' first
     | (with_reducible first | exact ih0 .. | exact ih1 .. | exact ih2 .. | exact impl_piece.mono .. | exact slices_ContainsFunc_byte_byte_with_impl_readLog_1.mono .. | exact LeO.refl _ | exact LeO.none _ | refine LeO.ite ?_ ?_ | refine LeO.bind ?_ (fun _ => ?_))
     | exact LeO.none _
     | refine LeO.ite ?_ ?_
     | refine LeO.bind ?_ (fun _ => ?_)
  · intro y0 y1 y2 y3 y4 y5 y6 y7
    unfold impl_readLog.j1
    repeat' first
     | (with_reducible first | exact ih0 .. | exact ih1 .. | exact ih2 .. | exact impl_piece.mono .. | exact slices_ContainsFunc_byte_byte_with_impl_readLog_1.mono .. | exact LeO.refl _ | exact LeO.none _ | refine LeO.ite ?_ ?_ | refine LeO.bind ?_ (fun _ => ?_))
     | exact LeO.none _
     | refine LeO.ite ?_ ?_
     | refine LeO.bind ?_ (fun _ => ?_)
  · intro y0 y1 y2 y3 y4 y5 y6 y7 y8
    unfold impl_readLog.j2
    repeat' first
     | (with_reducible first | exact ih0 .. | exact ih1 .. | exact ih2 .. | exact impl_piece.mono .. | exact slices_ContainsFunc_byte_byte_with_impl_readLog_1.mono .. | exact LeO.refl _ | exact LeO.none _ | refine LeO.ite ?_ ?_ | refine LeO.bind ?_ (fun _ => ?_))
     | exact LeO.none _
     | refine LeO.ite ?_ ?_
     | refine LeO.bind ?_ (fun _ => ?_)
theorem impl_readLog.mono : ∀ a0 k, LeO (impl_readLog.f k a0) (impl_readLog.f (k + 1) a0) := by
 intro a0 k
 obtain ⟨ih0, ih1, ih2⟩ := impl_readLog.mono_l k
 unfold impl_readLog.f
 repeat' first
  | (with_reducible first | exact ih0 .. | exact ih1 .. | exact ih2 .. | exact impl_piece.mono .. | exact slices_ContainsFunc_byte_byte_with_impl_readLog_1.mono .. | exact LeO.refl _ | exact LeO.none _ | refine LeO.ite ?_ ?_ | refine LeO.bind ?_ (fun _ => ?_))
  | exact LeO.none _
  | refine LeO.ite ?_ ?_
  | refine LeO.bind ?_ (fun _ => ?_)
set_option maxHeartbeats 8000000 in
set_option maxRecDepth 100000 in
theorem impl_readLog.calls (k : Nat) (A0 : Option Addr) (c0 : Nat) (l0 : List Int) (r1 : List (List Int)) (r2 : Int) (w : World) (hr0 : Kd.C (Kd.int .u8) w A0 l0.length l0) (hc0 : l0.length ≤ c0) (h : impl_readLog.f k l0 = some (r1, r2)) :
 Calls Try.prog 54 #[.slice A0 l0.length c0] w fun e w' => ∃ v0_ : Value, e = .returned (.tuple #[v0_, .int .i64 r2]) ∧ Kd.S (Kd.slice 5 (Kd.int .u8)) 22 w' w.heap.size (fun _ => True) v0_ r1 ∧ Below w.heap.size w w' := by
 have HR0 := Aside0.mk hr0
 have HC0 := Aside0.mk hc0
 clear hr0 hc0
 have HB := Aside0.mk (Below.refl w.heap.size w)
 have H : (impl_readLog.l0 k l0 (([] : List (List Int))) 0 false (([] : List Int)) 0) = some (r1, r2) := h
 clear h
 obtain ⟨y101, hy101⟩ : ∃ y_ : List (List Int), y_ = (([] : List (List Int))) := ⟨_, rfl⟩
 replace H : (impl_readLog.l0 k l0 y101 0 false (([] : List Int)) 0) = some (r1, r2) := by first | (rw [hy101]; with_reducible exact H) | (have H2_ := (Option.bind_some _ _).symm.trans H; rw [hy101]; with_reducible exact H2_) | (have H2_ := (Option.bind_some _ _).symm.trans H; with_reducible exact H2_) | with_reducible exact H | (rw [hy101]; exact H) | exact H
 have Ny101 := Aside0.mk hy101
 clear hy101
 obtain ⟨y104, hy104⟩ : ∃ y_ : List Int, y_ = (([] : List Int)) := ⟨_, rfl⟩
 replace H : (impl_readLog.l0 k l0 y101 0 false y104 0) = some (r1, r2) := by first | (rw [hy104]; with_reducible exact H) | (have H2_ := (Option.bind_some _ _).symm.trans H; rw [hy104]; with_reducible exact H2_) | (have H2_ := (Option.bind_some _ _).symm.trans H; with_reducible exact H2_) | with_reducible exact H | (rw [hy104]; exact H) | exact H
 have Ny104 := Aside0.mk hy104
 clear hy104
 have H' := Aside0.mk H
 clear H
 go_enter Try.func54, Try.ntmps54
 go_wp2_with (first | ((with_reducible refine gate_dst (N := 13) rfl ?_); refine Kd.S_lit (Kd.slice 5 (Kd.int .u8)) _ 22 ?hg (N := 13) ?hd (xs := ([] : List (List Int))) (inner := []) (ok := fun _ => True) (okp := fun _ => True) ?hr ?hp (fun _ hk => hk) trivial (Below.refl _ _) (Nat.le_refl _) (by simp) ?_; (case hd => rfl); (case hg => rfl); (case hr => first | (go_simp; done) | (go_simp; rfl)); (case hp => exact (Reps.none _ _)); intro v102 w2 ho3 hb hg_ hnew_; clear hg_ hnew_; (first | rw [← Ny101.out] at ho3 | (simp only [Int.reduceToNat] at ho3; rw [← Ny101.out] at ho3)); have n0_ := Aside0.mk (Kd.S_lower ho3 (below_size hbZ)); have n1_ := Aside0.mk (below_step hbZ hb); clear HB; have HO103 := n0_; have HB := n1_; clear n0_ n1_; clear hb ho3) | ((with_reducible refine gate_dst (N := 14) rfl ?_); refine Kd.R_lit (Kd.int .u8) _ 5 ?hg (N := 14) ?hd (xs := ([] : List Int)) (inner := []) (ok := fun _ => True) (okp := fun _ => True) ?hr ?hp (fun _ hk => hk) trivial (Below.refl _ _) (Nat.le_refl _) (by simp) ?_; (case hd => rfl); (case hg => rfl); (case hr => first | (go_simp; done) | (go_simp; rfl)); (case hp => exact (Reps.none _ _)); intro v105 w4 ho5 hb hg_ hnew_; clear hg_ hnew_; (first | rw [← Ny104.out] at ho5 | (simp only [Int.reduceToNat] at ho5; rw [← Ny104.out] at ho5)); have n0_ := Aside0.mk (Kd.S_elder' z1bd3 (Kd.R_base ho5) hb); have n1_ := Aside0.mk (Kd.R_lower ho5 (below_size hbZ)); have n2_ := Aside0.mk (below_step hbZ hb); clear HO103 HB; have HO103 := n0_; have HO106 := n1_; have HB := n2_; clear n0_ n1_ n2_; clear hb ho5))
 go_loopg [4, 5, 6, 7, 8] k (fun kq v4 v5 v6 v7 v8 w' => ∃ (x4_1 : List (List Int)) (x5_1 : Int) (x6_1 : Bool) (x7_1 : List Int) (x8_1 : Int), v5 = .int .i64 x5_1 ∧ v6 = .bool x6_1 ∧ v8 = .int .i64 x8_1 ∧ Aside0 (impl_readLog.l0 kq l0 x4_1 x5_1 x6_1 x7_1 x8_1 = some (r1, r2)) ∧ Aside0 (kq ≤ k) ∧ Aside0 (Kd.S (Kd.slice 5 (Kd.int .u8)) 22 w' w.heap.size (fun k_ => some k_ ≠ (v7 : Value).ownBlock) v4 x4_1) ∧ Aside0 (Kd.R (Kd.int .u8) 5 w' w.heap.size (fun _ => True) v7 x7_1) ∧ Aside0 (Below w.heap.size w w'))
 case atStart => exact ⟨(y101), (0), (false), (y104), (0), z4458, z4458, z4458, H', ⟨Nat.le_refl _⟩, ⟨by (with_reducible repeat (first | apply Kd.S_alloc | apply Kd.S_drewN | apply Kd.S_drew)); exact Kd.S_mono HO103.out (fun _ hk => hk.2)⟩, ⟨rZ HO106.out⟩, ⟨z5acd⟩⟩
 case round =>
  clear H'
  try clear p2
  try clear c5
  obtain ⟨x4_1, x5_1, x6_1, x7_1, x8_1, rfl, rfl, rfl, HA, HK1, HO_4, HO_7, HB⟩ := hrel
  cases gk with
  | zero => exact absurd HA.out (by simp [impl_readLog.l0])
  | succ k1 =>
   have H := HA.out
   clear HA
   simp only [impl_readLog.l0] at H
   replace H := Option.bind_eq_some_iff.mp H
   obtain ⟨t107, A60, H⟩ := H
   try dsimp only at H
   have A6 := Aside0.mk A60
   clear A60
   have HC7 := Aside0.mk H
   clear H
   go_upto_region 4 with (first | ((with_reducible refine gate_callee (f := 70) rfl ?_); refine goesL_ (some 16) rfl rfl Try.func70 (by kernel_rfl) rfl #[.int .i64 x8_1] rfl zee81 ?_; (with_reducible refine (impl_padding.calls x8_1 t107 _ A6.out).mono ?_); rintro e w' ⟨rfl, ⟨nd, rfl⟩⟩; refine ⟨_, rfl, ?_⟩))
   (try simp only [Act.put, List.setIfInBounds_toArray, List.set_cons_zero, List.set_cons_succ])
   go_cut [31] (fun v31 wc => ∃ (kq : Nat) (x31_6 : Bool), v31 = .bool x31_6 ∧ Aside0 (impl_readLog.j1 kq l0 x4_1 x5_1 x6_1 x7_1 x8_1 t107 x31_6 = some (r1, r2)) ∧ Aside0 (kq ≤ k1) ∧ Aside0 (Kd.S (Kd.slice 5 (Kd.int .u8)) 22 wc w.heap.size (fun k_ => some k_ ≠ (u7 : Value).ownBlock) u4 x4_1) ∧ Aside0 (Kd.R (Kd.int .u8) 5 wc w.heap.size (fun _ => True) u7 x7_1) ∧ Aside0 (Below w.heap.size w wc))
   case first =>
    have H := HC7.out
    clear HC7
    by_cases c8 : (wrap64 (x8_1 + t107)) > (l0.length : Int)
    · rw [if_pos c8] at H
      have c8b0 : decide ((l0.length : Int) < (wrap64 (x8_1 + t107))) = true := decide_eq_true c8
      clear c8
      (first | rw [c8b0] | (simp only [i64_w, i32_w]; rw [c8b0]) | skip)
      have H' := Aside0.mk H
      clear H
      go_wp2
      go_meet
      case rel => exact ⟨_, (true), z4458, H', ⟨ze59a⟩, ⟨zd4eb⟩, ⟨rZ HO_7.out⟩, ⟨z5acd⟩⟩
    · rw [if_neg c8] at H
      have c8b0 : decide ((l0.length : Int) < (wrap64 (x8_1 + t107))) = false := decide_eq_false c8
      clear c8
      (first | rw [c8b0] | (simp only [i64_w, i32_w]; rw [c8b0]) | skip)
      by_cases c9 : 0 ≤ x8_1
      · rw [if_pos c9] at H
        have c9b0 := eq_true c9
        have c9b1 : decide (0 ≤ x8_1) = true := decide_eq_true c9
        clear c9
        by_cases c10 : x8_1 ≤ (wrap64 (x8_1 + t107))
        · rw [if_pos c10] at H
          have c10b0 := eq_true c10
          have c10b1 : decide (x8_1 ≤ (wrap64 (x8_1 + t107))) = true := decide_eq_true c10
          by_cases c11 : (wrap64 (x8_1 + t107)) ≤ (l0.length : Int)
          · rw [if_pos c11] at H
            have c11b0 := eq_true c11
            have c11b1 : decide ((wrap64 (x8_1 + t107)) ≤ (l0.length : Int)) = true := decide_eq_true c11
            obtain ⟨y108, hy108⟩ : ∃ y_ : List Int, y_ = ((l0.take ((wrap64 (x8_1 + t107)) : Int).toNat).drop (x8_1 : Int).toNat) := ⟨_, rfl⟩
            replace H : ((slices_ContainsFunc_byte_byte_with_impl_readLog_1.f k1 y108).bind fun t112 => (impl_readLog.j1 k1 l0 x4_1 x5_1 x6_1 x7_1 x8_1 t107 t112)) = some (r1, r2) := by first | (rw [hy108]; with_reducible exact H) | (have H2_ := (Option.bind_some _ _).symm.trans H; rw [hy108]; with_reducible exact H2_) | (have H2_ := (Option.bind_some _ _).symm.trans H; with_reducible exact H2_) | with_reducible exact H | (rw [hy108]; exact H) | exact H
            have Ny108 := Aside0.mk hy108
            clear hy108
            replace H := Option.bind_eq_some_iff.mp H
            obtain ⟨t112, A120, H⟩ := H
            try dsimp only at H
            have A12 := Aside0.mk A120
            clear A120
            have H' := Aside0.mk H
            clear H
            have q13 : ((wrap64 (x8_1 + t107)) : Int) ≤ ((l0.length : Int) : Int) := of_decide_eq_true z1200
            obtain ⟨i013, hi013, _, hsz13, _⟩ := info_parts info5
            have hroom13 : l0.length ≤ c0 := HC0.out
            have hC13 : Kd.C (Kd.int .u8) _ A0 l0.length l0 := HR0.out
            have ql13 : (x8_1 : Int) ≤ ((wrap64 (x8_1 + t107)) : Int) := of_decide_eq_true z1200
            have q013 : (0 : Int) ≤ (x8_1 : Int) := of_decide_eq_true z1200
            have hcut13 := cut_mid (P := Try.prog) 22 5 .i64 .i64 Try.underlying22 hi013 1 hsz13 A0 l0.length c0 x8_1 (wrap64 (x8_1 + t107)) q013 ql13 q13 hroom13
            have hr13 := Kd.C_mid (lo := (x8_1 : Int).toNat) (hi := ((wrap64 (x8_1 + t107)) : Int).toNat) (c := c0) hC13 (by omega) (by omega) hroom13
            obtain ⟨A13, hA13⟩ : ∃ A1, A1 = (if c0 = (x8_1 : Int).toNat then A0 else (A0 : Option Addr).map (·.add ((x8_1 : Int).toNat * 1))) := ⟨_, rfl⟩
            obtain ⟨c13, hc13⟩ : ∃ c1, c1 = c0 - (x8_1 : Int).toNat := ⟨_, rfl⟩
            have hy13 : y108.length = ((wrap64 (x8_1 + t107)) : Int).toNat - (x8_1 : Int).toNat := (by rw [Ny108.out, List.length_drop, List.length_take] <;> omega)
            rw [show ((l0).take ((wrap64 (x8_1 + t107)) : Int).toNat).drop (x8_1 : Int).toNat = y108 from Ny108.out.symm] at hr13
            replace hr13 : Kd.C (Kd.int .u8) _ A13 y108.length y108 := (by rw [hA13]; exact hr13)
            rw [← hy13, ← hA13, ← hc13] at hcut13
            have HR111 := Aside0.mk hr13
            have HC111 := Aside0.mk (show y108.length ≤ c13 from by rw [hy13, hc13]; exact Nat.sub_le_sub_right (Nat.le_trans (by omega) hroom13) _)
            clear hr13 hC13 hroom13 hi013 hsz13 hc13
            have KY13 := Aside0.mk hy13
            have KA13 := Aside0.mk hA13
            clear hy13 hA13
            replace q13 := eq_true q13
            go_wp2_with (first | (go_at_call 73; (with_reducible refine (slices_ContainsFunc_byte_byte_with_impl_readLog_1.calls k1 _ _ y108  t112 _ ?side1 ?side2 A12.out).mono ?_); (case side1 => exact (by repeat (first | exact (Kd.C_below HR111.out HB.out) | (with_reducible refine Kd.C_alloc ?_ _) | (with_reducible refine Kd.C_drewN ?_ _) | (with_reducible refine Kd.C_drew ?_)))); (case side2 => exact HC111.out); rintro e w' ⟨rfl, ⟨nd, rfl⟩⟩))
            go_meet
            case rel => exact ⟨_, (t112), z4458, H', ⟨ze59a⟩, ⟨zd4eb⟩, ⟨rZ HO_7.out⟩, ⟨z5acd⟩⟩
          · rw [if_neg c11] at H
            exact absurd H (by simp)
        · rw [if_neg c10] at H
          exact absurd H (by simp)
      · rw [if_neg c9] at H
        exact absurd H (by simp)
   case rest =>
    clear HC7
    try clear c1
    try clear q1
    try clear p2
    try clear c5
    try clear p6
    try clear c7
    try clear c8
    try clear c8b0
    try clear c9
    try clear c9b0
    try clear c9b1
    try clear c10
    try clear c10b0
    try clear c10b1
    try clear c11
    try clear c11b0
    try clear c11b1
    try clear c13
    try clear q13
    try clear p2
    try clear q013
    try clear q13
    obtain ⟨kq, x31_6, rfl, HA, HJ6, HO_4, HO_7, HB⟩ := hcut
    cases kq with
    | zero => exact absurd HA.out (by simp [impl_readLog.j1])
    | succ kj6 =>
     have H := HA.out
     clear HA
     simp only [impl_readLog.j1] at H
     by_cases c14 : x31_6 = true
     · subst c14
       have H1 : (some (x4_1, x5_1)) = some (r1, r2) := by rw [if_pos rfl] at H; exact H
       clear H
       have H := H1
       clear H1
       simp only [Option.some.injEq, Prod.mk.injEq] at H
       obtain ⟨rfl, rfl⟩ := H
       go_wp2
       go_ret2
       exact ⟨_, z674d, by (with_reducible repeat (first | apply Kd.S_alloc | apply Kd.S_drewN | apply Kd.S_drew)); exact Kd.S_mono HO_4.out (fun _ hk => trivial), z5acd⟩
     · replace c14 := Bool.eq_false_iff.mpr c14
       subst c14
       have H1 : ((impl_piece.f kj6 l0 (wrap64 (x8_1 + t107))).bind fun bt113 => (if bt113.2.2 = true then (if bt113.1 = 3 then (impl_readLog.j2 kj6 l0 x4_1 x5_1 x7_1 x8_1 t107 bt113.1 bt113.2.1 (x6_1 != true)) else (impl_readLog.j2 kj6 l0 x4_1 x5_1 x7_1 x8_1 t107 bt113.1 bt113.2.1 (x6_1 != (bt113.1 == 4)))) else (impl_readLog.j2 kj6 l0 x4_1 x5_1 x7_1 x8_1 t107 bt113.1 bt113.2.1 true))) = some (r1, r2) := by rw [if_neg (show ¬ (false = true) by decide)] at H; exact H
       clear H
       have H := H1
       clear H1
       replace H := Option.bind_eq_some_iff.mp H
       obtain ⟨⟨t113, t114, t117⟩, A150, H⟩ := H
       try dsimp only at H
       have A15 := Aside0.mk A150
       clear A150
       have HC16 := Aside0.mk H
       clear H
       go_upto_region 7 with (first | ((with_reducible refine gate_callee (f := 75) rfl ?_); refine goesL_ (some 39) rfl rfl Try.func75 (by kernel_rfl) rfl #[.slice A0 l0.length c0, .int .i64 (wrap64 (x8_1 + t107))] rfl zee81 ?_; (with_reducible refine (impl_piece.calls kj6 (fun k_ => k_ < w.heap.size) _ _ l0 (wrap64 (x8_1 + t107)) t113 t114 t117 _ ?side1 A15.out).mono ?_); (case side1 => exact Kd.V_mk HC0.out (Kd.F_below (Kd.C_F (Kd.heap_int .u8) HR0.out) hbZ)); rintro e w17 ⟨v115, rfl, ho0, hb⟩; refine ⟨_, rfl, ?_⟩; have n0_ := Aside0.mk (Kd.S_below zd4eb hb); have n1_ := Aside0.mk (Kd.R_below (rZ HO_7.out) hb); have n2_ := Aside0.mk (Kd.V_lower (Kd.V_mono (ok' := fun k_ => some k_ ≠ (u4 : Value).ownBlock ∧ some k_ ≠ (u7 : Value).ownBlock) ho0 (fun k_ hk_ => ⟨Or.elim hk_ (fun hs_ => fun e_ => Nat.not_le.2 hs_ (Kd.S_base HO_4.out k_ e_.symm)) (fun hn_ => (Kd.fresh' (Kd.S_lt zd4eb) k_ hn_)), Or.elim hk_ (fun hs_ => fun e_ => Nat.not_le.2 hs_ (Kd.R_base HO_7.out k_ e_.symm)) (fun hn_ => (Kd.fresh' (Kd.R_lt (rZ HO_7.out)) k_ hn_))⟩)) (below_size hbZ)); have n3_ := Aside0.mk (below_step hbZ hb); clear HO_4 HO_7 HB; have HO_4 := n0_; have HO_7 := n1_; have HO116 := n2_; have HB := n3_; clear n0_ n1_ n2_ n3_; (try clear hb); (try clear hb2); (try clear hk); (try clear hi); (try clear ho0)))
       (try simp only [Act.put, List.setIfInBounds_toArray, List.set_cons_zero, List.set_cons_succ])
       go_cut [54] (fun v54 wc => ∃ (kq : Nat) (x54_15 : Bool), v54 = .bool x54_15 ∧ Aside0 (impl_readLog.j2 kq l0 x4_1 x5_1 x7_1 x8_1 t107 t113 t114 x54_15 = some (r1, r2)) ∧ Aside0 (kq ≤ kj6) ∧ Aside0 (Kd.S (Kd.slice 5 (Kd.int .u8)) 22 wc w.heap.size (fun k_ => some k_ ≠ (u7 : Value).ownBlock) u4 x4_1) ∧ Aside0 (Kd.R (Kd.int .u8) 5 wc w.heap.size (fun _ => True) u7 x7_1) ∧ Aside0 (Kd.V (Kd.int .u8) 5 wc w.heap.size (fun k_ => some k_ ≠ (u4 : Value).ownBlock ∧ some k_ ≠ (u7 : Value).ownBlock) v115 t114) ∧ Aside0 (Below w.heap.size w wc))
       case first =>
        have H := HC16.out
        clear HC16
        by_cases c18 : t117 = true
        · subst c18
          have H1 : (if t113 = 3 then (impl_readLog.j2 kj6 l0 x4_1 x5_1 x7_1 x8_1 t107 t113 t114 (x6_1 != true)) else (impl_readLog.j2 kj6 l0 x4_1 x5_1 x7_1 x8_1 t107 t113 t114 (x6_1 != (t113 == 4)))) = some (r1, r2) := by rw [if_pos rfl] at H; exact H
          clear H
          have H := H1
          clear H1
          by_cases c19 : t113 = 3
          · rw [if_pos c19] at H
            have c19b0 : (t113 == 3) = true := beq_iff_eq.mpr c19
            have c19b1 : (t113 != 3) = false := bne_eq_false_iff_eq.mpr c19
            clear c19
            (first | rw [c19b0] | (simp only [i64_w, i32_w]; rw [c19b0]) | skip)
            have H' := Aside0.mk H
            clear H
            go_wp2
            go_meet
            case rel => exact ⟨_, ((x6_1 != true)), z4458, H', ⟨by have := HK1.out; have := HJ6.out; first | omega | exact Nat.le_refl _⟩, ⟨zd4eb⟩, ⟨rZ HO_7.out⟩, ⟨vZ HO116.out⟩, ⟨z5acd⟩⟩
          · rw [if_neg c19] at H
            have c19b0 : (t113 == 3) = false := beq_eq_false_iff_ne.mpr c19
            have c19b1 : (t113 != 3) = true := bne_iff_ne.mpr c19
            (first | rw [c19b0] | (simp only [i64_w, i32_w]; rw [c19b0]) | skip)
            have H' := Aside0.mk H
            clear H
            go_wp2
            go_meet
            case rel => exact ⟨_, ((x6_1 != (t113 == 4))), z4458, H', ⟨by have := HK1.out; have := HJ6.out; first | omega | exact Nat.le_refl _⟩, ⟨zd4eb⟩, ⟨rZ HO_7.out⟩, ⟨vZ HO116.out⟩, ⟨z5acd⟩⟩
        · replace c18 := Bool.eq_false_iff.mpr c18
          subst c18
          have H1 : (impl_readLog.j2 kj6 l0 x4_1 x5_1 x7_1 x8_1 t107 t113 t114 true) = some (r1, r2) := by rw [if_neg (show ¬ (false = true) by decide)] at H; exact H
          clear H
          have H := H1
          clear H1
          have H' := Aside0.mk H
          clear H
          go_wp2
          go_meet
          case rel => exact ⟨_, (true), z4458, H', ⟨by have := HK1.out; have := HJ6.out; first | omega | exact Nat.le_refl _⟩, ⟨zd4eb⟩, ⟨rZ HO_7.out⟩, ⟨vZ HO116.out⟩, ⟨z5acd⟩⟩
       case rest =>
        clear HC16
        try clear c1
        try clear q1
        try clear p2
        try clear c5
        try clear p6
        try clear c7
        try clear c8
        try clear c8b0
        try clear c9
        try clear c9b0
        try clear c9b1
        try clear c10
        try clear c10b0
        try clear c10b1
        try clear c11
        try clear c11b0
        try clear c11b1
        try clear c13
        try clear q13
        try clear c14
        try clear c18
        try clear c19
        try clear c19b0
        try clear c19b1
        try clear p2
        try clear p6
        try clear q013
        try clear q1
        try clear q13
        obtain ⟨kq, x54_15, rfl, HA, HJ15, HO_4, HO_7, HO_11, HB⟩ := hcut
        cases kq with
        | zero => exact absurd HA.out (by simp [impl_readLog.j2])
        | succ kj15 =>
         have H := HA.out
         clear HA
         simp only [impl_readLog.j2] at H
         by_cases c20 : x54_15 = true
         · subst c20
           have H1 : (some (x4_1, x5_1)) = some (r1, r2) := by rw [if_pos rfl] at H; exact H
           clear H
           have H := H1
           clear H1
           simp only [Option.some.injEq, Prod.mk.injEq] at H
           obtain ⟨rfl, rfl⟩ := H
           go_wp2
           go_ret2
           exact ⟨_, z674d, by (with_reducible repeat (first | apply Kd.S_alloc | apply Kd.S_drewN | apply Kd.S_drew)); exact Kd.S_mono HO_4.out (fun _ hk => trivial), z5acd⟩
         · replace c20 := Bool.eq_false_iff.mpr c20
           subst c20
           have H1 : (if x7_1.length + t114.length < 140737488355328 then ((some (x7_1 ++ t114 : List Int)).bind fun y118 => (if t113 = 2 then (impl_readLog.l0 kj15 l0 x4_1 x5_1 true y118 (wrap64 (x8_1 + (wrap64 ((wrap64 (t107 + 6)) + (t114.length : Int)))))) else (if t113 = 3 then (impl_readLog.l0 kj15 l0 x4_1 x5_1 (t113 == 3) y118 (wrap64 (x8_1 + (wrap64 ((wrap64 (t107 + 6)) + (t114.length : Int)))))) else (if x4_1.length < 5864062014805 then (impl_readLog.l0 kj15 l0 (x4_1 ++ [y118]) (wrap64 (x8_1 + (wrap64 ((wrap64 (t107 + 6)) + (t114.length : Int))))) (t113 == 3) (([] : List Int)) (wrap64 (x8_1 + (wrap64 ((wrap64 (t107 + 6)) + (t114.length : Int)))))) else (none))))) else (none)) = some (r1, r2) := by rw [if_neg (show ¬ (false = true) by decide)] at H; exact H
           clear H
           have H := H1
           clear H1
           by_cases c21 : x7_1.length + t114.length < 140737488355328
           · rw [if_pos c21] at H
             have LMc21 := Aside0.mk c21
             clear c21
             obtain ⟨y118, hy118⟩ : ∃ y_ : List Int, y_ = (x7_1 ++ t114) := ⟨_, rfl⟩
             replace H : (if t113 = 2 then (impl_readLog.l0 kj15 l0 x4_1 x5_1 true y118 (wrap64 (x8_1 + (wrap64 ((wrap64 (t107 + 6)) + (t114.length : Int)))))) else (if t113 = 3 then (impl_readLog.l0 kj15 l0 x4_1 x5_1 (t113 == 3) y118 (wrap64 (x8_1 + (wrap64 ((wrap64 (t107 + 6)) + (t114.length : Int)))))) else (if x4_1.length < 5864062014805 then (impl_readLog.l0 kj15 l0 (x4_1 ++ [y118]) (wrap64 (x8_1 + (wrap64 ((wrap64 (t107 + 6)) + (t114.length : Int))))) (t113 == 3) (([] : List Int)) (wrap64 (x8_1 + (wrap64 ((wrap64 (t107 + 6)) + (t114.length : Int)))))) else (none)))) = some (r1, r2) := by first | (rw [hy118]; with_reducible exact H) | (have H2_ := (Option.bind_some _ _).symm.trans H; rw [hy118]; with_reducible exact H2_) | (have H2_ := (Option.bind_some _ _).symm.trans H; with_reducible exact H2_) | with_reducible exact H | (rw [hy118]; exact H) | exact H
             have Ny118 := Aside0.mk hy118
             clear hy118
             by_cases c22 : t113 = 2
             · rw [if_pos c22] at H
               have c22b0 : (t113 == 2) = true := beq_iff_eq.mpr c22
               have c22b1 : (t113 != 2) = false := bne_eq_false_iff_eq.mpr c22
               clear c22
               have H' := Aside0.mk H
               clear H
               obtain ⟨Ao23, co23, eo23⟩ := Kd.V_slice HO_11.out
               subst eo23
               go_wp2_with (first | ((with_reducible refine gate_builtin (b := .append) (xs := #[.tmp 64, .tmp 65]) rfl ?_); at_builtin; refine Kd.R_append_rows (Kd.int .u8) (w0 := w) w.heap.size rfl (.tmp 64) (.tmp 65) 22 5 (.int .u8 0) 1 rfl Try.underlying22 info5 rfl (by decide) (by omega) u7 x7_1 t114 _ _ _ (fun _ => True) (fun _ => False) rfl rfl ?aO ?aR (fun _ _ h => h) (fun _ h => h.elim) ?aF ?aB ?aS ?aL ?_; (case aR => repeat (first | exact (Kd.V_reads' HO_11.out).2.2 | (with_reducible refine Kd.C_alloc ?_ _) | (with_reducible refine Kd.C_drewN ?_ _) | (with_reducible refine Kd.C_drew ?_))); (case aB => exact hbZ); (case aF => exact (fun _ _ => trivial)); (case aO => exact (rZ HO_7.out)); (case aS => exact (below_size hbZ)); (case aL => have := LMc21.out; omega); intro v119 w24 ho hb hg hat; rw [← Ny118.out] at ho; have n0_ := Aside0.mk (Kd.S_after (ok := (fun _ => True)) z8f43 hg hat); have n1_ := Aside0.mk (Kd.V_afterv (ok := (fun k_ => some k_ ≠ (u4 : Value).ownBlock)) (vZ HO_11.out) hg hat); have n2_ := Aside0.mk hb; have n3_ := Aside0.mk ho; clear HO_4 HO_11 HB HO_7; have HO_4 := n0_; have HO_11 := n1_; have HB := n2_; have HO120 := n3_; clear n0_ n1_ n2_ n3_; clear ho hb hg hat))
               go_roundg kj15
               case measure => have := HK1.out; have := HJ6.out; have := HJ15.out; omega
               case rel => exact ⟨(x4_1), (x5_1), (true), (y118), (wrap64 (x8_1 + (wrap64 ((wrap64 (t107 + 6)) + (t114.length : Int))))), z4458, z4458, z4458, H', ⟨by have := HK1.out; have := HJ6.out; have := HJ15.out; omega⟩, ⟨by (with_reducible repeat (first | apply Kd.S_alloc | apply Kd.S_drewN | apply Kd.S_drew)); exact Kd.S_mono HO_4.out (fun _ hk => hk.2)⟩, ⟨rZ HO120.out⟩, ⟨z5acd⟩⟩
             · rw [if_neg c22] at H
               have c22b0 : (t113 == 2) = false := beq_eq_false_iff_ne.mpr c22
               have c22b1 : (t113 != 2) = true := bne_iff_ne.mpr c22
               by_cases c25 : t113 = 3
               · rw [if_pos c25] at H
                 have c25b0 : (t113 == 3) = true := beq_iff_eq.mpr c25
                 have c25b1 : (t113 != 3) = false := bne_eq_false_iff_eq.mpr c25
                 clear c25
                 have H' := Aside0.mk H
                 clear H
                 obtain ⟨Ao26, co26, eo26⟩ := Kd.V_slice HO_11.out
                 subst eo26
                 go_wp2_with (first | ((with_reducible refine gate_builtin (b := .append) (xs := #[.tmp 64, .tmp 65]) rfl ?_); at_builtin; refine Kd.R_append_rows (Kd.int .u8) (w0 := w) w.heap.size rfl (.tmp 64) (.tmp 65) 22 5 (.int .u8 0) 1 rfl Try.underlying22 info5 rfl (by decide) (by omega) u7 x7_1 t114 _ _ _ (fun _ => True) (fun _ => False) rfl rfl ?aO ?aR (fun _ _ h => h) (fun _ h => h.elim) ?aF ?aB ?aS ?aL ?_; (case aR => repeat (first | exact (Kd.V_reads' HO_11.out).2.2 | (with_reducible refine Kd.C_alloc ?_ _) | (with_reducible refine Kd.C_drewN ?_ _) | (with_reducible refine Kd.C_drew ?_))); (case aB => exact hbZ); (case aF => exact (fun _ _ => trivial)); (case aO => exact (rZ HO_7.out)); (case aS => exact (below_size hbZ)); (case aL => have := LMc21.out; omega); intro v119 w27 ho hb hg hat; rw [← Ny118.out] at ho; have n0_ := Aside0.mk (Kd.S_after (ok := (fun _ => True)) z8f43 hg hat); have n1_ := Aside0.mk (Kd.V_afterv (ok := (fun k_ => some k_ ≠ (u4 : Value).ownBlock)) (vZ HO_11.out) hg hat); have n2_ := Aside0.mk hb; have n3_ := Aside0.mk ho; clear HO_4 HO_11 HB HO_7; have HO_4 := n0_; have HO_11 := n1_; have HB := n2_; have HO120 := n3_; clear n0_ n1_ n2_ n3_; clear ho hb hg hat))
                 go_roundg kj15
                 case measure => have := HK1.out; have := HJ6.out; have := HJ15.out; omega
                 case rel => exact ⟨(x4_1), (x5_1), ((t113 == 3)), (y118), (wrap64 (x8_1 + (wrap64 ((wrap64 (t107 + 6)) + (t114.length : Int))))), z4458, z4458, z4458, H', ⟨by have := HK1.out; have := HJ6.out; have := HJ15.out; omega⟩, ⟨by (with_reducible repeat (first | apply Kd.S_alloc | apply Kd.S_drewN | apply Kd.S_drew)); exact Kd.S_mono HO_4.out (fun _ hk => hk.2)⟩, ⟨rZ HO120.out⟩, ⟨z5acd⟩⟩
               · rw [if_neg c25] at H
                 have c25b0 : (t113 == 3) = false := beq_eq_false_iff_ne.mpr c25
                 have c25b1 : (t113 != 3) = true := bne_iff_ne.mpr c25
                 by_cases c28 : x4_1.length < 5864062014805
                 · rw [if_pos c28] at H
                   have LMc28 := Aside0.mk c28
                   clear c28
                   obtain ⟨y121, hy121⟩ : ∃ y_ : List (List Int), y_ = (x4_1 ++ [y118]) := ⟨_, rfl⟩
                   replace H : (impl_readLog.l0 kj15 l0 y121 (wrap64 (x8_1 + (wrap64 ((wrap64 (t107 + 6)) + (t114.length : Int))))) (t113 == 3) (([] : List Int)) (wrap64 (x8_1 + (wrap64 ((wrap64 (t107 + 6)) + (t114.length : Int)))))) = some (r1, r2) := by first | (rw [hy121]; with_reducible exact H) | (have H2_ := (Option.bind_some _ _).symm.trans H; rw [hy121]; with_reducible exact H2_) | (have H2_ := (Option.bind_some _ _).symm.trans H; with_reducible exact H2_) | with_reducible exact H | (rw [hy121]; exact H) | exact H
                   have Ny121 := Aside0.mk hy121
                   clear hy121
                   obtain ⟨y124, hy124⟩ : ∃ y_ : List Int, y_ = (([] : List Int)) := ⟨_, rfl⟩
                   replace H : (impl_readLog.l0 kj15 l0 y121 (wrap64 (x8_1 + (wrap64 ((wrap64 (t107 + 6)) + (t114.length : Int))))) (t113 == 3) y124 (wrap64 (x8_1 + (wrap64 ((wrap64 (t107 + 6)) + (t114.length : Int)))))) = some (r1, r2) := by first | (rw [hy124]; with_reducible exact H) | (have H2_ := (Option.bind_some _ _).symm.trans H; rw [hy124]; with_reducible exact H2_) | (have H2_ := (Option.bind_some _ _).symm.trans H; with_reducible exact H2_) | with_reducible exact H | (rw [hy124]; exact H) | exact H
                   have Ny124 := Aside0.mk hy124
                   clear hy124
                   have H' := Aside0.mk H
                   clear H
                   obtain ⟨Ao29, co29, eo29⟩ := Kd.V_slice HO_11.out
                   subst eo29
                   go_wp2_with (first | ((with_reducible refine gate_builtin (b := .append) (xs := #[.tmp 64, .tmp 65]) rfl ?_); at_builtin; refine Kd.R_append_rows (Kd.int .u8) (w0 := w) w.heap.size rfl (.tmp 64) (.tmp 65) 22 5 (.int .u8 0) 1 rfl Try.underlying22 info5 rfl (by decide) (by omega) u7 x7_1 t114 _ _ _ (fun _ => True) (fun _ => False) rfl rfl ?aO ?aR (fun _ _ h => h) (fun _ h => h.elim) ?aF ?aB ?aS ?aL ?_; (case aR => repeat (first | exact (Kd.V_reads' HO_11.out).2.2 | (with_reducible refine Kd.C_alloc ?_ _) | (with_reducible refine Kd.C_drewN ?_ _) | (with_reducible refine Kd.C_drew ?_))); (case aB => exact hbZ); (case aF => exact (fun _ _ => trivial)); (case aO => exact (rZ HO_7.out)); (case aS => exact (below_size hbZ)); (case aL => have := LMc21.out; omega); intro v119 w30 ho hb hg hat; rw [← Ny118.out] at ho; have n0_ := Aside0.mk (Kd.S_after (ok := (fun _ => True)) z8f43 hg hat); have n1_ := Aside0.mk (Kd.V_afterv (ok := (fun k_ => some k_ ≠ (u4 : Value).ownBlock)) (vZ HO_11.out) hg hat); have n2_ := Aside0.mk hb; have n3_ := Aside0.mk ho; clear HO_4 HO_11 HB HO_7; have HO_4 := n0_; have HO_11 := n1_; have HB := n2_; have HO120 := n3_; clear n0_ n1_ n2_ n3_; clear ho hb hg hat; obtain ⟨Ao32, co32, eo32⟩ := Kd.R_slice HO120.out; subst eo32) | ((with_reducible refine gate_builtin (b := .append) (xs := #[.tmp 75, .tmp 77]) rfl ?_); at_builtin; refine Kd.S_append (Kd.slice 5 (Kd.int .u8)) (w0 := w) w.heap.size rfl (.tmp 75) (.tmp 77) 46 22 (.slice none 0 0) 24 rfl Try.underlying46 info22 rfl (by decide) (by omega) u4 x4_1 y118 [.slice Ao32 y118.length co32] (fun _ => True) (fun k_ => some k_ = (.slice Ao32 y118.length co32 : Value).ownBlock) rfl rfl ?aP (fun k_ hk_ => ((Kd.R_mono (ok' := fun k_ => ((fun _ => True)) k_ ∧ some k_ ≠ (u4 : Value).ownBlock) (Kd.R_apart' (HO120.out) (Kd.S_typed HO_4.out) (by decide)) (fun k_ hk => ⟨trivial, hk.2⟩))).1 k_ hk_.symm) ?aF ?aO ?aB ?aS ?aL ?_; (case aP => exact Kd.M_row (Kd.R_mono (Kd.R_tight rfl (Kd.R_mono (ok' := fun k_ => ((fun _ => True)) k_ ∧ some k_ ≠ (u4 : Value).ownBlock) (Kd.R_apart' (HO120.out) (Kd.S_typed HO_4.out) (by decide)) (fun k_ hk => ⟨trivial, hk.2⟩))) (fun _ h_ => h_))); (case aB => exact hbZ); (case aF => exact (fun _ _ => trivial)); (case aO => exact (by (with_reducible repeat (first | apply Kd.S_alloc | apply Kd.S_drewN | apply Kd.S_drew)); exact Kd.S_mono HO_4.out (fun k_ hk => ⟨trivial, fun e_ => hk.2 e_⟩))); (case aS => exact (below_size hbZ)); (case aL => have := LMc28.out; omega); intro v122 w31 ho hb hg hat; rw [← Ny121.out] at ho; have n0_ := Aside0.mk (Kd.V_afterv (ok := (fun k_ => some k_ ≠ (.slice Ao32 y118.length co32 : Value).ownBlock)) (by (with_reducible repeat (first | apply Kd.V_alloc | apply Kd.V_drewN | apply Kd.V_drew)); exact Kd.V_mono HO_11.out (fun _ hk => ⟨hk.2, hk.1⟩)) hg hat); have n1_ := Aside0.mk hb; have n2_ := Aside0.mk ho; clear HO_11 HB HO_4 HO120; have HO_11 := n0_; have HB := n1_; have HO123 := n2_; clear n0_ n1_ n2_; clear ho hb hg hat) | ((with_reducible refine gate_dst (N := 80) rfl ?_); refine Kd.R_lit (Kd.int .u8) _ 5 ?hg (N := 80) ?hd (xs := ([] : List Int)) (inner := []) (ok := fun _ => True) (okp := fun _ => True) ?hr ?hp (fun _ hk => hk) trivial (Below.refl _ _) (Nat.le_refl _) (by simp) ?_; (case hd => rfl); (case hg => rfl); (case hr => first | (go_simp; done) | (go_simp; rfl)); (case hp => exact (Reps.none _ _)); intro v125 w33 ho34 hb hg_ hnew_; clear hg_ hnew_; (first | rw [← Ny124.out] at ho34 | (simp only [Int.reduceToNat] at ho34; rw [← Ny124.out] at ho34)); have n0_ := Aside0.mk (Kd.V_elder' (vZ HO_11.out) (Kd.R_base ho34) hb); have n1_ := Aside0.mk (Kd.S_elder' (by (with_reducible repeat (first | apply Kd.S_alloc | apply Kd.S_drewN | apply Kd.S_drew)); exact HO123.out) (Kd.R_base ho34) hb); have n2_ := Aside0.mk (Kd.R_lower ho34 (below_size hbZ)); have n3_ := Aside0.mk (below_step hbZ hb); clear HO_11 HO123 HB; have HO_11 := n0_; have HO123 := n1_; have HO126 := n2_; have HB := n3_; clear n0_ n1_ n2_ n3_; clear hb ho34))
                   go_roundg kj15
                   case measure => have := HK1.out; have := HJ6.out; have := HJ15.out; omega
                   case rel => exact ⟨(y121), (wrap64 (x8_1 + (wrap64 ((wrap64 (t107 + 6)) + (t114.length : Int))))), ((t113 == 3)), (y124), (wrap64 (x8_1 + (wrap64 ((wrap64 (t107 + 6)) + (t114.length : Int))))), z4458, z4458, z4458, H', ⟨by have := HK1.out; have := HJ6.out; have := HJ15.out; omega⟩, ⟨by (with_reducible repeat (first | apply Kd.S_alloc | apply Kd.S_drewN | apply Kd.S_drew)); exact Kd.S_mono HO123.out (fun _ hk => hk.2)⟩, ⟨rZ HO126.out⟩, ⟨z5acd⟩⟩
                 · rw [if_neg c28] at H
                   exact absurd H (by simp)
           · rw [if_neg c21] at H
             exact absurd H (by simp)

end Go.Proofs.Ythliooccgclbjaa.P

-- written by a program of this session's (wip/pp)
namespace Go.Proofs.Ythliooccgclbjaa.P
open Go.RowKit Go.Proofs.YthliooccgclbjaaW.PrintWords Go.Proofs.YthliooccgclbjaaW.PrintLast Go.Proofs.YthliooccgclbjaaW.PrintMore
attribute [local go_sem] max2_int min2_int max_two min_two max_three min_three max_four min_four   -- for this text's walks alone
set_option linter.unusedVariables false
set_option linter.unusedSimpArgs false

/-! ### impl_ReadLog: function 24 -/
def impl_ReadLog.f (k : Nat) (l0 : List Int) : Option ((List (List Int)) × Int × Bool) := if (l0.length : Int) > 20000 then (some (([] : List (List Int)), 0, false)) else ((impl_readLog.f k l0).bind fun bt101 => (some (bt101.1, bt101.2, true)))
theorem impl_ReadLog.mono : ∀ a0 k, LeO (impl_ReadLog.f k a0) (impl_ReadLog.f (k + 1) a0) := by
 intro a0 k
 unfold impl_ReadLog.f
 repeat' first
  | (with_reducible first | exact impl_readLog.mono .. | exact LeO.refl _ | exact LeO.none _ | refine LeO.ite ?_ ?_ | refine LeO.bind ?_ (fun _ => ?_))
  | exact LeO.none _
  | refine LeO.ite ?_ ?_
  | refine LeO.bind ?_ (fun _ => ?_)
set_option maxHeartbeats 8000000 in
set_option maxRecDepth 100000 in
theorem impl_ReadLog.calls (k : Nat) (A0 : Option Addr) (c0 : Nat) (l0 : List Int) (r1 : List (List Int)) (r2 : Int) (r3 : Bool) (w : World) (hr0 : Kd.C (Kd.int .u8) w A0 l0.length l0) (hc0 : l0.length ≤ c0) (h : impl_ReadLog.f k l0 = some (r1, r2, r3)) :
 Calls Try.prog 24 #[.slice A0 l0.length c0] w fun e w' => ∃ v0_ : Value, e = .returned (.tuple #[v0_, .int .i64 r2, .bool r3]) ∧ Kd.S (Kd.slice 5 (Kd.int .u8)) 22 w' w.heap.size (fun _ => True) v0_ r1 ∧ Below w.heap.size w w' := by
 have HR0 := Aside0.mk hr0
 have HC0 := Aside0.mk hc0
 clear hr0 hc0
 have HB := Aside0.mk (Below.refl w.heap.size w)
 have H : (if (l0.length : Int) > 20000 then (some (([] : List (List Int)), 0, false)) else ((impl_readLog.f k l0).bind fun bt101 => (some (bt101.1, bt101.2, true)))) = some (r1, r2, r3) := h
 clear h
 by_cases c2 : (l0.length : Int) > 20000
 · rw [if_pos c2] at H
   have c2b0 : decide (20000 < (l0.length : Int)) = true := decide_eq_true c2
   have c2b1 : decide (20000 < l0.length) = true := decide_eq_true (by omega)
   clear c2
   simp only [Option.some.injEq, Prod.mk.injEq] at H
   obtain ⟨rfl, rfl, rfl⟩ := H
   go_enter Try.func24, Try.ntmps24
   go_wp2
   go_ret3
   exact ⟨_, z674d, z2bfb, z5acd⟩
 · rw [if_neg c2] at H
   have c2b0 : decide (20000 < (l0.length : Int)) = false := decide_eq_false c2
   have c2b1 : decide (20000 < l0.length) = false := decide_eq_false (by omega)
   clear c2
   replace H := Option.bind_eq_some_iff.mp H
   obtain ⟨⟨t101, t102⟩, A30, H⟩ := H
   try dsimp only at H
   have A3 := Aside0.mk A30
   clear A30
   simp only [Option.some.injEq, Prod.mk.injEq] at H
   obtain ⟨rfl, rfl, rfl⟩ := H
   go_enter Try.func24, Try.ntmps24
   go_wp2_with (first | ((with_reducible refine gate_callee (f := 54) rfl ?_); refine goesL_ (some 12) rfl rfl Try.func54 (by kernel_rfl) rfl #[.slice A0 l0.length c0] rfl zee81 ?_; (with_reducible refine (impl_readLog.calls k _ _ l0 t101 t102 _ ?side1 ?side2 A3.out).mono ?_); (case side1 => exact z4195); (case side2 => exact HC0.out); rintro e w4 ⟨v103, rfl, ho0, hb⟩; refine ⟨_, rfl, ?_⟩; have n0_ := Aside0.mk (Kd.S_lower ho0 (below_size hbZ)); have n1_ := Aside0.mk (below_step hbZ hb); clear HB; have HO104 := n0_; have HB := n1_; clear n0_ n1_; (try clear hb); (try clear hb2); (try clear hk); (try clear hi); (try clear ho0)))
   go_ret3
   exact ⟨_, z674d, by (with_reducible repeat (first | apply Kd.S_alloc | apply Kd.S_drewN | apply Kd.S_drew)); exact HO104.out, z5acd⟩

end Go.Proofs.Ythliooccgclbjaa.P

-- written by a program of this session's (wip/pp)
namespace Go.Proofs.Ythliooccgclbjaa.P
open Go.RowKit Go.Proofs.YthliooccgclbjaaW.PrintWords Go.Proofs.YthliooccgclbjaaW.PrintLast Go.Proofs.YthliooccgclbjaaW.PrintMore
attribute [local go_sem] max2_int min2_int max_two min_two max_three min_three max_four min_four   -- for this text's walks alone
set_option linter.unusedVariables false
set_option linter.unusedSimpArgs false

/-! ### laws_numberOf: function 25 -/
def laws_numberOf.l0 : Nat → Int → List Int → Int → Int → Option (Int)
 | 0, _, _, _, _ => none
 | k + 1, x3, x6, x7, x8 => if x8 < x7 then (if 0 ≤ x8 then (if x8 < (x6.length : Int) then (laws_numberOf.l0 k (Int.tmod (wrap64 ((wrap64 (31 * x3)) + (wrap64 (rd x6 x8)))) 1000003) x6 x7 (wrap64 (x8 + 1))) else (none)) else (none)) else (some x3)
def laws_numberOf.f (k : Nat) (l0 : List Int) : Option (Int) := laws_numberOf.l0 k 0 l0 (l0.length : Int) 0
theorem laws_numberOf.mono_l : ∀ k, (∀ y0 y1 y2 y3, LeO (laws_numberOf.l0 k y0 y1 y2 y3) (laws_numberOf.l0 (k + 1) y0 y1 y2 y3))
 | 0 => fun _ _ _ _ r h => by simp [laws_numberOf.l0] at h
 | k + 1 => by
  have ih0 := laws_numberOf.mono_l k
  · intro y0 y1 y2 y3
    unfold laws_numberOf.l0
    repeat' first
     | (with_reducible first | exact ih0 .. | exact LeO.refl _ | exact LeO.none _ | refine LeO.ite ?_ ?_ | refine LeO.bind ?_ (fun _ => ?_))
     | exact LeO.none _
     | refine LeO.ite ?_ ?_
     | refine LeO.bind ?_ (fun _ => ?_)
theorem laws_numberOf.mono : ∀ a0 k, LeO (laws_numberOf.f k a0) (laws_numberOf.f (k + 1) a0) := by
 intro a0 k
 have ih0 := laws_numberOf.mono_l k
 unfold laws_numberOf.f
 repeat' first
  | (with_reducible first | exact ih0 .. | exact LeO.refl _ | exact LeO.none _ | refine LeO.ite ?_ ?_ | refine LeO.bind ?_ (fun _ => ?_))
  | exact LeO.none _
  | refine LeO.ite ?_ ?_
  | refine LeO.bind ?_ (fun _ => ?_)
set_option maxHeartbeats 8000000 in
set_option maxRecDepth 100000 in
theorem laws_numberOf.calls (k : Nat) (A0 : Option Addr) (c0 : Nat) (l0 : List Int) (r : Int) (w : World) (hr0 : Kd.C (Kd.int .u8) w A0 l0.length l0) (hc0 : l0.length ≤ c0) (h : laws_numberOf.f k l0 = some r) :
 Calls Try.prog 25 #[.slice A0 l0.length c0] w fun e w' => e = .returned (.int .i64 r) ∧ Drawn0 w w' := by
 have HR0 := Aside0.mk hr0
 have HC0 := Aside0.mk hc0
 clear hr0 hc0
 have H : (laws_numberOf.l0 k 0 l0 (l0.length : Int) 0) = some r := h
 clear h
 have H' := Aside0.mk H
 clear H
 go_enter Try.func25, Try.ntmps25
 go_wp2
 go_loopg [3, 8] k (fun kq v3 v8 w' => ∃ (x3_1 : Int) (x8_1 : Int), v3 = .int .i64 x3_1 ∧ v8 = .int .i64 x8_1 ∧ Aside0 (laws_numberOf.l0 kq x3_1 l0 (l0.length : Int) x8_1 = some r) ∧ Aside0 (kq ≤ k) ∧ Drawn0 w w')
 case atStart => exact ⟨(0), (0), z4458, z4458, H', ⟨Nat.le_refl _⟩, za9de⟩
 case round =>
  clear H'
  obtain ⟨x3_1, x8_1, rfl, rfl, HA, HK1, ⟨m1, rfl⟩⟩ := hrel
  cases gk with
  | zero => exact absurd HA.out (by simp [laws_numberOf.l0])
  | succ k1 =>
   have H := HA.out
   clear HA
   simp only [laws_numberOf.l0] at H
   by_cases c2 : x8_1 < (l0.length : Int)
   · rw [if_pos c2] at H
     have c2b0 : decide (x8_1 < (l0.length : Int)) = true := decide_eq_true c2
     clear c2
     by_cases c3 : 0 ≤ x8_1
     · rw [if_pos c3] at H
       have c3b0 : decide (0 ≤ x8_1) = true := decide_eq_true c3
       clear c3
       by_cases c4 : x8_1 < (l0.length : Int)
       · rw [if_pos c4] at H
         have c4b0 : decide (x8_1 < (l0.length : Int)) = true := decide_eq_true c4
         clear c4
         have H' := Aside0.mk H
         clear H
         have p101 : 0 ≤ (x8_1 : Int) := of_decide_eq_true z1200
         have q101 : x8_1 < (l0.length : Int) := of_decide_eq_true z1200
         obtain ⟨ad101, e101, hx101_0⟩ := Kd.at_int HR0.out x8_1 p101 q101
         cases e101
         replace p101 := eq_true p101
         replace q101 := eq_true q101
         go_wp2
         go_roundg k1
         case measure => have := HK1.out; omega
         case rel => exact ⟨(Int.tmod (wrap64 ((wrap64 (31 * x3_1)) + (wrap64 (rd l0 x8_1)))) 1000003), (wrap64 (x8_1 + 1)), z4458, z4458, H', ⟨zfb39⟩, za9de⟩
       · rw [if_neg c4] at H
         exact absurd H (by simp)
     · rw [if_neg c3] at H
       exact absurd H (by simp)
   · rw [if_neg c2] at H
     have c2b0 : decide (x8_1 < (l0.length : Int)) = false := decide_eq_false c2
     clear c2
     obtain rfl := Option.some.inj H
     go_wp2
     go_ret
     exact ⟨z4458, za9de⟩

end Go.Proofs.Ythliooccgclbjaa.P

-- written by a program of this session's (wip/pp)
namespace Go.Proofs.Ythliooccgclbjaa.P
open Go.RowKit Go.Proofs.YthliooccgclbjaaW.PrintWords Go.Proofs.YthliooccgclbjaaW.PrintLast Go.Proofs.YthliooccgclbjaaW.PrintMore
attribute [local go_sem] max2_int min2_int max_two min_two max_three min_three max_four min_four   -- for this text's walks alone
set_option linter.unusedVariables false
set_option linter.unusedSimpArgs false

/-! ### laws_FnLogs: function 5 -/
mutual
def laws_FnLogs.j0 : Nat → List Int → List (List Int) → List Int → Bool → Bool → Option (Bool)
 | 0, _, _, _, _, _ => none
 | k + 1, x1, x5, x6, x7, x46 => if x46 = true then (some false) else (if x7 = true then ((impl_ReadLog.f k x6).bind fun bt112 => (if bt112.2.2 = true then (if bt112.2.1 = (x6.length : Int) then (laws_FnLogs.j1 k x1 x5 x6 bt112.1 ((bt112.1.length : Int) != (x5.length : Int))) else (laws_FnLogs.j1 k x1 x5 x6 bt112.1 true)) else (laws_FnLogs.j1 k x1 x5 x6 bt112.1 true))) else (some ((x6.length : Int) == 0)))
def laws_FnLogs.j1 : Nat → List Int → List (List Int) → List Int → List (List Int) → Bool → Option (Bool)
 | 0, _, _, _, _, _ => none
 | k + 1, x1, x5, x6, x10, x72 => if x72 = true then (some false) else (laws_FnLogs.l0 k x1 x5 x6 x10 (x5.length : Int) 0)
def laws_FnLogs.l0 : Nat → List Int → List (List Int) → List Int → List (List Int) → Int → Int → Option (Bool)
 | 0, _, _, _, _, _, _ => none
 | k + 1, x1, x5, x6, x10, x74, x75 => if x75 < x74 then (if 0 ≤ x75 then (if x75 < (x10.length : Int) then (if x75 < (x5.length : Int) then (if (strOfNums (rd_L4 x10 x75)).toList = (strOfNums (rd_L4 x5 x75)).toList then (laws_FnLogs.l0 k x1 x5 x6 x10 x74 (wrap64 (x75 + 1))) else (some false)) else (none)) else (none)) else (none)) else ((laws_numberOf.f k x1).bind fun t119 => (if (wrap64 ((x6.length : Int) + 1)) = 0 then (none) else (if 0 ≤ (Int.tmod t119 (wrap64 ((x6.length : Int) + 1))) then (if (Int.tmod t119 (wrap64 ((x6.length : Int) + 1))) ≤ (x6.length : Int) then ((impl_ReadLog.f k (x6.take ((Int.tmod t119 (wrap64 ((x6.length : Int) + 1))) : Int).toNat)).bind fun bt124 => (if bt124.2.2 = true then (if bt124.2.1 > (Int.tmod t119 (wrap64 ((x6.length : Int) + 1))) then (laws_FnLogs.j3 k x5 bt124.1 true) else (laws_FnLogs.j3 k x5 bt124.1 (decide ((bt124.1.length : Int) > (x5.length : Int))))) else (laws_FnLogs.j3 k x5 bt124.1 true))) else (none)) else (none))))
def laws_FnLogs.j3 : Nat → List (List Int) → List (List Int) → Bool → Option (Bool)
 | 0, _, _, _ => none
 | k + 1, x5, x15, x117 => if x117 = true then (some false) else (laws_FnLogs.l1 k x5 x15 (x15.length : Int) 0)
def laws_FnLogs.l1 : Nat → List (List Int) → List (List Int) → Int → Int → Option (Bool)
 | 0, _, _, _, _ => none
 | k + 1, x5, x15, x119, x120 => if x120 < x119 then (if 0 ≤ x120 then (if x120 < (x15.length : Int) then (if x120 < (x5.length : Int) then (if (strOfNums (rd_L4 x15 x120)).toList = (strOfNums (rd_L4 x5 x120)).toList then (laws_FnLogs.l1 k x5 x15 x119 (wrap64 (x120 + 1))) else (some false)) else (none)) else (none)) else (none)) else (some true)
end
def laws_FnLogs.f (k : Nat) (l0 : List Int) (l1 : List Int) : Option (Bool) := if (wrap64 ((l0.length : Int) + (l1.length : Int))) > 1048576 then (some true) else ((spec_DrawLogOf.f k l0).bind fun t101 => ((impl_LogOf.f k t101).bind fun bt104 => ((spec_LogOf.f k t101).bind fun bt108 => (if (bt104.2 != bt108.2) = true then (laws_FnLogs.j0 k l1 t101 bt104.1 bt104.2 true) else (laws_FnLogs.j0 k l1 t101 bt104.1 bt104.2 ((strOfNums bt104.1).toList != (strOfNums bt108.1).toList))))))
theorem laws_FnLogs.mono_l : ∀ k, (∀ y0 y1 y2 y3 y4, LeO (laws_FnLogs.j0 k y0 y1 y2 y3 y4) (laws_FnLogs.j0 (k + 1) y0 y1 y2 y3 y4)) ∧ (∀ y0 y1 y2 y3 y4, LeO (laws_FnLogs.j1 k y0 y1 y2 y3 y4) (laws_FnLogs.j1 (k + 1) y0 y1 y2 y3 y4)) ∧ (∀ y0 y1 y2 y3 y4 y5, LeO (laws_FnLogs.l0 k y0 y1 y2 y3 y4 y5) (laws_FnLogs.l0 (k + 1) y0 y1 y2 y3 y4 y5)) ∧ (∀ y0 y1 y2, LeO (laws_FnLogs.j3 k y0 y1 y2) (laws_FnLogs.j3 (k + 1) y0 y1 y2)) ∧ (∀ y0 y1 y2 y3, LeO (laws_FnLogs.l1 k y0 y1 y2 y3) (laws_FnLogs.l1 (k + 1) y0 y1 y2 y3))
 | 0 => ⟨fun _ _ _ _ _ r h => by simp [laws_FnLogs.j0] at h, fun _ _ _ _ _ r h => by simp [laws_FnLogs.j1] at h, fun _ _ _ _ _ _ r h => by simp [laws_FnLogs.l0] at h, fun _ _ _ r h => by simp [laws_FnLogs.j3] at h, fun _ _ _ _ r h => by simp [laws_FnLogs.l1] at h⟩
 | k + 1 => by
  obtain ⟨ih0, ih1, ih2, ih3, ih4⟩ := laws_FnLogs.mono_l k
  refine ⟨?_, ?_, ?_, ?_, ?_⟩
  · intro y0 y1 y2 y3 y4
    unfold laws_FnLogs.j0
    repeat' first
     | (with_reducible first | exact ih0 .. | exact ih1 .. | exact ih2 .. | exact ih3 .. | exact ih4 .. | exact impl_LogOf.mono .. | exact impl_ReadLog.mono .. | exact laws_numberOf.mono .. | exact spec_DrawLogOf.mono .. | exact spec_LogOf.mono .. | exact LeO.refl _ | exact LeO.none _ | refine LeO.ite ?_ ?_ | refine LeO.bind ?_ (fun _ => ?_))
     | exact LeO.none _
     | refine LeO.ite ?_ ?_
     | refine LeO.bind ?_ (fun _ => ?_)
  · intro y0 y1 y2 y3 y4
    unfold laws_FnLogs.j1
    repeat' first
     | (with_reducible first | exact ih0 .. | exact ih1 .. | exact ih2 .. | exact ih3 .. | exact ih4 .. | exact impl_LogOf.mono .. | exact impl_ReadLog.mono .. | exact laws_numberOf.mono .. | exact spec_DrawLogOf.mono .. | exact spec_LogOf.mono .. | exact LeO.refl _ | exact LeO.none _ | refine LeO.ite ?_ ?_ | refine LeO.bind ?_ (fun _ => ?_))
     | exact LeO.none _
     | refine LeO.ite ?_ ?_
     | refine LeO.bind ?_ (fun _ => ?_)
  · intro y0 y1 y2 y3 y4 y5
    unfold laws_FnLogs.l0
    repeat' first
     | (with_reducible first | exact ih0 .. | exact ih1 .. | exact ih2 .. | exact ih3 .. | exact ih4 .. | exact impl_LogOf.mono .. | exact impl_ReadLog.mono .. | exact laws_numberOf.mono .. | exact spec_DrawLogOf.mono .. | exact spec_LogOf.mono .. | exact LeO.refl _ | exact LeO.none _ | refine LeO.ite ?_ ?_ | refine LeO.bind ?_ (fun _ => ?_))
     | exact LeO.none _
     | refine LeO.ite ?_ ?_
     | refine LeO.bind ?_ (fun _ => ?_)
  · intro y0 y1 y2
    unfold laws_FnLogs.j3
    repeat' first
     | (with_reducible first | exact ih0 .. | exact ih1 .. | exact ih2 .. | exact ih3 .. | exact ih4 .. | exact impl_LogOf.mono .. | exact impl_ReadLog.mono .. | exact laws_numberOf.mono .. | exact spec_DrawLogOf.mono .. | exact spec_LogOf.mono .. | exact LeO.refl _ | exact LeO.none _ | refine LeO.ite ?_ ?_ | refine LeO.bind ?_ (fun _ => ?_))
     | exact LeO.none _
     | refine LeO.ite ?_ ?_
     | refine LeO.bind ?_ (fun _ => ?_)
  · intro y0 y1 y2 y3
    unfold laws_FnLogs.l1
    repeat' first
     | (with_reducible first | exact ih0 .. | exact ih1 .. | exact ih2 .. | exact ih3 .. | exact ih4 .. | exact impl_LogOf.mono .. | exact impl_ReadLog.mono .. | exact laws_numberOf.mono .. | exact spec_DrawLogOf.mono .. | exact spec_LogOf.mono .. | exact LeO.refl _ | exact LeO.none _ | refine LeO.ite ?_ ?_ | refine LeO.bind ?_ (fun _ => ?_))
     | exact LeO.none _
     | refine LeO.ite ?_ ?_
     | refine LeO.bind ?_ (fun _ => ?_)
theorem laws_FnLogs.mono : ∀ a0 a1 k, LeO (laws_FnLogs.f k a0 a1) (laws_FnLogs.f (k + 1) a0 a1) := by
 intro a0 a1 k
 obtain ⟨ih0, ih1, ih2, ih3, ih4⟩ := laws_FnLogs.mono_l k
 unfold laws_FnLogs.f
 repeat' first
  | (with_reducible first | exact ih0 .. | exact ih1 .. | exact ih2 .. | exact ih3 .. | exact ih4 .. | exact impl_LogOf.mono .. | exact impl_ReadLog.mono .. | exact laws_numberOf.mono .. | exact spec_DrawLogOf.mono .. | exact spec_LogOf.mono .. | exact LeO.refl _ | exact LeO.none _ | refine LeO.ite ?_ ?_ | refine LeO.bind ?_ (fun _ => ?_))
  | exact LeO.none _
  | refine LeO.ite ?_ ?_
  | refine LeO.bind ?_ (fun _ => ?_)
set_option maxHeartbeats 8000000 in
set_option maxRecDepth 100000 in
theorem laws_FnLogs.calls (k : Nat) (A0 : Option Addr) (c0 : Nat) (l0 : List Int) (A1 : Option Addr) (c1 : Nat) (l1 : List Int) (r : Bool) (w : World) (hr0 : Kd.C (Kd.int .u8) w A0 l0.length l0) (hc0 : l0.length ≤ c0) (hr1 : Kd.C (Kd.int .u8) w A1 l1.length l1) (hc1 : l1.length ≤ c1) (h : laws_FnLogs.f k l0 l1 = some r) :
 Calls Try.prog 5 #[.slice A0 l0.length c0, .slice A1 l1.length c1] w fun e w' => e = .returned (.bool r) ∧ Below w.heap.size w w' := by
 have HR0 := Aside0.mk hr0
 have HC0 := Aside0.mk hc0
 clear hr0 hc0
 have HR1 := Aside0.mk hr1
 have HC1 := Aside0.mk hc1
 clear hr1 hc1
 have HB := Aside0.mk (Below.refl w.heap.size w)
 have H : (if (wrap64 ((l0.length : Int) + (l1.length : Int))) > 1048576 then (some true) else ((spec_DrawLogOf.f k l0).bind fun t101 => ((impl_LogOf.f k t101).bind fun bt104 => ((spec_LogOf.f k t101).bind fun bt108 => (if (bt104.2 != bt108.2) = true then (laws_FnLogs.j0 k l1 t101 bt104.1 bt104.2 true) else (laws_FnLogs.j0 k l1 t101 bt104.1 bt104.2 ((strOfNums bt104.1).toList != (strOfNums bt108.1).toList))))))) = some r := h
 clear h
 by_cases c3 : (wrap64 ((l0.length : Int) + (l1.length : Int))) > 1048576
 · rw [if_pos c3] at H
   have c3b0 : decide (1048576 < (wrap64 ((l0.length : Int) + (l1.length : Int)))) = true := decide_eq_true c3
   clear c3
   obtain rfl := Option.some.inj H
   go_enter Try.func5, Try.ntmps5
   go_wp2
   repeat (go_quiet (fail); try go_wp2)
   go_ret
   exact ⟨z674d, z5acd⟩
 · rw [if_neg c3] at H
   have c3b0 : decide (1048576 < (wrap64 ((l0.length : Int) + (l1.length : Int)))) = false := decide_eq_false c3
   clear c3
   replace H := Option.bind_eq_some_iff.mp H
   obtain ⟨t101, A40, H⟩ := H
   try dsimp only at H
   have A4 := Aside0.mk A40
   clear A40
   replace H := Option.bind_eq_some_iff.mp H
   obtain ⟨⟨t104, t105⟩, A50, H⟩ := H
   try dsimp only at H
   have A5 := Aside0.mk A50
   clear A50
   replace H := Option.bind_eq_some_iff.mp H
   obtain ⟨⟨t108, t109⟩, A60, H⟩ := H
   try dsimp only at H
   have A6 := Aside0.mk A60
   clear A60
   have HC7 := Aside0.mk H
   clear H
   go_enter Try.func5, Try.ntmps5
   go_upto_region 6 with (first | (go_at_call 21; (with_reducible refine (spec_DrawLogOf.calls k _ _ l0 t101 _ ?side1 ?side2 A4.out).mono ?_); (case side1 => exact z4195); (case side2 => exact HC0.out); rintro e w8 ⟨v102, rfl, ho0, hb⟩; have n0_ := Aside0.mk (Kd.S_lower ho0 (below_size hbZ)); have n1_ := Aside0.mk (below_step hbZ hb); clear HB; have HO103 := n0_; have HB := n1_; clear n0_ n1_; (try clear hb); (try clear hb2); (try clear hk); (try clear hi); (try clear ho0); obtain ⟨Ao9, co9, eo9⟩ := Kd.S_slice HO103.out; subst eo9) | (go_at_call 22; (with_reducible refine (impl_LogOf.calls k _ _ t101 t104 t105 _ ?side1 ?side2 A5.out).mono ?_); (case side1 => exact z395e); (case side2 => exact (Kd.S_reads' HO103.out).2.1); rintro e w10 ⟨v106, rfl, ho0, hb⟩; have n0_ := Aside0.mk (Kd.S_elder' z1bd3 (Kd.R_base ho0) hb); have n1_ := Aside0.mk (Kd.R_lower ho0 (below_size hbZ)); have n2_ := Aside0.mk (below_step hbZ hb); clear HO103 HB; have HO103 := n0_; have HO107 := n1_; have HB := n2_; clear n0_ n1_ n2_; (try clear hb); (try clear hb2); (try clear hk); (try clear hi); (try clear ho0)) | (go_at_call 23; (with_reducible refine (spec_LogOf.calls k _ _ t101 t108 t109 _ ?side1 ?side2 A6.out).mono ?_); (case side1 => exact z395e); (case side2 => exact (Kd.S_reads' HO103.out).2.1); rintro e w11 ⟨v110, rfl, ho0, hb⟩; have n0_ := Aside0.mk (Kd.S_elder' z1bd3 (Kd.R_base ho0) hb); have n1_ := Aside0.mk (Kd.R_elder' (rZ HO107.out) (Kd.R_base ho0) hb); have n2_ := Aside0.mk (Kd.R_lower (Kd.R_new' ho0 (Kd.R_lt (rZ HO107.out))) (below_size hbZ)); have n3_ := Aside0.mk (below_step hbZ hb); clear HO103 HO107 HB; have HO103 := n0_; have HO107 := n1_; have HO111 := n2_; have HB := n3_; clear n0_ n1_ n2_ n3_; (try clear hb); (try clear hb2); (try clear hk); (try clear hi); (try clear ho0)))
   repeat (go_quiet (first | (go_at_call 21; (with_reducible refine (spec_DrawLogOf.calls k _ _ l0 t101 _ ?side1 ?side2 A4.out).mono ?_); (case side1 => exact z4195); (case side2 => exact HC0.out); rintro e w8 ⟨v102, rfl, ho0, hb⟩; have n0_ := Aside0.mk (Kd.S_lower ho0 (below_size hbZ)); have n1_ := Aside0.mk (below_step hbZ hb); clear HB; have HO103 := n0_; have HB := n1_; clear n0_ n1_; (try clear hb); (try clear hb2); (try clear hk); (try clear hi); (try clear ho0); obtain ⟨Ao9, co9, eo9⟩ := Kd.S_slice HO103.out; subst eo9) | (go_at_call 22; (with_reducible refine (impl_LogOf.calls k _ _ t101 t104 t105 _ ?side1 ?side2 A5.out).mono ?_); (case side1 => exact z395e); (case side2 => exact (Kd.S_reads' HO103.out).2.1); rintro e w10 ⟨v106, rfl, ho0, hb⟩; have n0_ := Aside0.mk (Kd.S_elder' z1bd3 (Kd.R_base ho0) hb); have n1_ := Aside0.mk (Kd.R_lower ho0 (below_size hbZ)); have n2_ := Aside0.mk (below_step hbZ hb); clear HO103 HB; have HO103 := n0_; have HO107 := n1_; have HB := n2_; clear n0_ n1_ n2_; (try clear hb); (try clear hb2); (try clear hk); (try clear hi); (try clear ho0)) | (go_at_call 23; (with_reducible refine (spec_LogOf.calls k _ _ t101 t108 t109 _ ?side1 ?side2 A6.out).mono ?_); (case side1 => exact z395e); (case side2 => exact (Kd.S_reads' HO103.out).2.1); rintro e w11 ⟨v110, rfl, ho0, hb⟩; have n0_ := Aside0.mk (Kd.S_elder' z1bd3 (Kd.R_base ho0) hb); have n1_ := Aside0.mk (Kd.R_elder' (rZ HO107.out) (Kd.R_base ho0) hb); have n2_ := Aside0.mk (Kd.R_lower (Kd.R_new' ho0 (Kd.R_lt (rZ HO107.out))) (below_size hbZ)); have n3_ := Aside0.mk (below_step hbZ hb); clear HO103 HO107 HB; have HO103 := n0_; have HO107 := n1_; have HO111 := n2_; have HB := n3_; clear n0_ n1_ n2_ n3_; (try clear hb); (try clear hb2); (try clear hk); (try clear hi); (try clear ho0))); go_upto_region 6 with (first | (go_at_call 21; (with_reducible refine (spec_DrawLogOf.calls k _ _ l0 t101 _ ?side1 ?side2 A4.out).mono ?_); (case side1 => exact z4195); (case side2 => exact HC0.out); rintro e w8 ⟨v102, rfl, ho0, hb⟩; have n0_ := Aside0.mk (Kd.S_lower ho0 (below_size hbZ)); have n1_ := Aside0.mk (below_step hbZ hb); clear HB; have HO103 := n0_; have HB := n1_; clear n0_ n1_; (try clear hb); (try clear hb2); (try clear hk); (try clear hi); (try clear ho0); obtain ⟨Ao9, co9, eo9⟩ := Kd.S_slice HO103.out; subst eo9) | (go_at_call 22; (with_reducible refine (impl_LogOf.calls k _ _ t101 t104 t105 _ ?side1 ?side2 A5.out).mono ?_); (case side1 => exact z395e); (case side2 => exact (Kd.S_reads' HO103.out).2.1); rintro e w10 ⟨v106, rfl, ho0, hb⟩; have n0_ := Aside0.mk (Kd.S_elder' z1bd3 (Kd.R_base ho0) hb); have n1_ := Aside0.mk (Kd.R_lower ho0 (below_size hbZ)); have n2_ := Aside0.mk (below_step hbZ hb); clear HO103 HB; have HO103 := n0_; have HO107 := n1_; have HB := n2_; clear n0_ n1_ n2_; (try clear hb); (try clear hb2); (try clear hk); (try clear hi); (try clear ho0)) | (go_at_call 23; (with_reducible refine (spec_LogOf.calls k _ _ t101 t108 t109 _ ?side1 ?side2 A6.out).mono ?_); (case side1 => exact z395e); (case side2 => exact (Kd.S_reads' HO103.out).2.1); rintro e w11 ⟨v110, rfl, ho0, hb⟩; have n0_ := Aside0.mk (Kd.S_elder' z1bd3 (Kd.R_base ho0) hb); have n1_ := Aside0.mk (Kd.R_elder' (rZ HO107.out) (Kd.R_base ho0) hb); have n2_ := Aside0.mk (Kd.R_lower (Kd.R_new' ho0 (Kd.R_lt (rZ HO107.out))) (below_size hbZ)); have n3_ := Aside0.mk (below_step hbZ hb); clear HO103 HO107 HB; have HO103 := n0_; have HO107 := n1_; have HO111 := n2_; have HB := n3_; clear n0_ n1_ n2_ n3_; (try clear hb); (try clear hb2); (try clear hk); (try clear hi); (try clear ho0))))
   (try simp only [Act.put, List.setIfInBounds_toArray, List.set_cons_zero, List.set_cons_succ])
   go_cut [46] (fun v46 wc => ∃ (kq : Nat) (x46_6 : Bool), v46 = .bool x46_6 ∧ Aside0 (laws_FnLogs.j0 kq l1 t101 t104 t105 x46_6 = some r) ∧ Aside0 (kq ≤ k) ∧ Aside0 (Kd.S (Kd.slice 5 (Kd.int .u8)) 22 wc w.heap.size (fun k_ => some k_ ≠ (v106 : Value).ownBlock) (.slice Ao9 t101.length co9) t101) ∧ Aside0 (Kd.R (Kd.int .u8) 5 wc w.heap.size (fun _ => True) v106 t104) ∧ Aside0 (Below w.heap.size w wc))
   case first =>
    have H := HC7.out
    clear HC7
    by_cases c12 : (t105 != t109) = true
    · rw [if_pos c12] at H
      have c12b0 : (t105 != t109) = true := c12
      (try (have c12b1 : decide (t105 = t109) = false := by simpa using c12))
      (try (have c12b2 : (t105 == t109) = false := by simpa using c12))
      (try (have c12b3 : ¬ (t105 = t109) := by simpa using c12))
      clear c12
      (first | rw [c12b0] | (simp only [i64_w, i32_w]; rw [c12b0]) | skip)
      have H' := Aside0.mk H
      clear H
      go_wp2
      repeat (go_quiet (fail); try go_wp2)
      go_meet
      case rel => exact ⟨_, (true), z4458, H', ⟨zb79b⟩, ⟨by (with_reducible repeat (first | apply Kd.S_alloc | apply Kd.S_drewN | apply Kd.S_drew)); exact Kd.S_mono HO103.out (fun _ hk => hk.1.2)⟩, ⟨zf72a⟩, ⟨z5acd⟩⟩
    · rw [if_neg c12] at H
      have c12b0 : (t105 != t109) = false := by simpa using c12
      (try (have c12b1 : decide (t105 = t109) = true := by simpa using c12))
      (try (have c12b2 : (t105 == t109) = true := by simpa using c12))
      clear c12
      (first | rw [c12b0] | (simp only [i64_w, i32_w]; rw [c12b0]) | skip)
      have H' := Aside0.mk H
      clear H
      have hcv13 := own_string (P := Try.prog) Try.underlying22 Try.underlying5 Try.underlying9 (Kd.own_of_R HO107.out)
      have hcv14 := own_string (P := Try.prog) Try.underlying22 Try.underlying5 Try.underlying9 (Kd.own_of_R HO111.out)
      go_wp2
      repeat (go_quiet (fail); try go_wp2)
      go_meet
      case rel => exact ⟨_, (((strOfNums t104).toList != (strOfNums t108).toList)), z4458, H', ⟨zb79b⟩, ⟨by (with_reducible repeat (first | apply Kd.S_alloc | apply Kd.S_drewN | apply Kd.S_drew)); exact Kd.S_mono HO103.out (fun _ hk => hk.1.2)⟩, ⟨zf72a⟩, ⟨z5acd⟩⟩
   case rest =>
    clear HC7
    try clear c1
    try clear hcv1
    try clear p2
    try clear c3
    try clear c3b0
    try clear c5
    try clear p6
    try clear c12
    try clear c12b0
    try clear c12b1
    try clear c12b2
    try clear hcv13
    try clear hcv14
    obtain ⟨kq, x46_6, rfl, HA, HJ6, HO_5, HO_6, HB⟩ := hcut
    cases kq with
    | zero => exact absurd HA.out (by simp [laws_FnLogs.j0])
    | succ kj6 =>
     have H := HA.out
     clear HA
     simp only [laws_FnLogs.j0] at H
     by_cases c15 : x46_6 = true
     · subst c15
       have H1 : (some false) = some r := by rw [if_pos rfl] at H; exact H
       clear H
       have H := H1
       clear H1
       obtain rfl := Option.some.inj H
       go_wp2
       repeat (go_quiet (fail); try go_wp2)
       go_ret
       exact ⟨z674d, z5acd⟩
     · replace c15 := Bool.eq_false_iff.mpr c15
       subst c15
       have H1 : (if t105 = true then ((impl_ReadLog.f kj6 t104).bind fun bt112 => (if bt112.2.2 = true then (if bt112.2.1 = (t104.length : Int) then (laws_FnLogs.j1 kj6 l1 t101 t104 bt112.1 ((bt112.1.length : Int) != (t101.length : Int))) else (laws_FnLogs.j1 kj6 l1 t101 t104 bt112.1 true)) else (laws_FnLogs.j1 kj6 l1 t101 t104 bt112.1 true))) else (some ((t104.length : Int) == 0))) = some r := by rw [if_neg (show ¬ (false = true) by decide)] at H; exact H
       clear H
       have H := H1
       clear H1
       by_cases c16 : t105 = true
       · subst c16
         have H1 : ((impl_ReadLog.f kj6 t104).bind fun bt112 => (if bt112.2.2 = true then (if bt112.2.1 = (t104.length : Int) then (laws_FnLogs.j1 kj6 l1 t101 t104 bt112.1 ((bt112.1.length : Int) != (t101.length : Int))) else (laws_FnLogs.j1 kj6 l1 t101 t104 bt112.1 true)) else (laws_FnLogs.j1 kj6 l1 t101 t104 bt112.1 true))) = some r := by rw [if_pos rfl] at H; exact H
         clear H
         have H := H1
         clear H1
         replace H := Option.bind_eq_some_iff.mp H
         obtain ⟨⟨t112, t113, t114⟩, A170, H⟩ := H
         try dsimp only at H
         have A17 := Aside0.mk A170
         clear A170
         have HC18 := Aside0.mk H
         clear H
         obtain ⟨Ao19, co19, eo19⟩ := Kd.R_slice HO_6.out
         subst eo19
         go_upto_region 11 with (first | (go_at_call 24; (with_reducible refine (impl_ReadLog.calls kj6 _ _ t104 t112 t113 t114 _ ?side1 ?side2 A17.out).mono ?_); (case side1 => exact z7793); (case side2 => exact (Kd.R_reads' HO_6.out).2.1); rintro e w20 ⟨v115, rfl, ho0, hb⟩; have n0_ := Aside0.mk (Kd.S_elder' z423e (Kd.S_base ho0) hb); have n1_ := Aside0.mk (Kd.R_below (rZ HO_6.out) hb); have n2_ := Aside0.mk (Kd.S_lower (Kd.S_new' (Kd.S_new' ho0 (Kd.S_lt z423e)) (Kd.R_lt (rZ HO_6.out))) (below_size hbZ)); have n3_ := Aside0.mk (below_step hbZ hb); clear HO_5 HO_6 HB; have HO_5 := n0_; have HO_6 := n1_; have HO116 := n2_; have HB := n3_; clear n0_ n1_ n2_ n3_; (try clear hb); (try clear hb2); (try clear hk); (try clear hi); (try clear ho0)))
         repeat (go_quiet (first | (go_at_call 24; (with_reducible refine (impl_ReadLog.calls kj6 _ _ t104 t112 t113 t114 _ ?side1 ?side2 A17.out).mono ?_); (case side1 => exact z7793); (case side2 => exact (Kd.R_reads' HO_6.out).2.1); rintro e w20 ⟨v115, rfl, ho0, hb⟩; have n0_ := Aside0.mk (Kd.S_elder' z423e (Kd.S_base ho0) hb); have n1_ := Aside0.mk (Kd.R_below (rZ HO_6.out) hb); have n2_ := Aside0.mk (Kd.S_lower (Kd.S_new' (Kd.S_new' ho0 (Kd.S_lt z423e)) (Kd.R_lt (rZ HO_6.out))) (below_size hbZ)); have n3_ := Aside0.mk (below_step hbZ hb); clear HO_5 HO_6 HB; have HO_5 := n0_; have HO_6 := n1_; have HO116 := n2_; have HB := n3_; clear n0_ n1_ n2_ n3_; (try clear hb); (try clear hb2); (try clear hk); (try clear hi); (try clear ho0))); go_upto_region 11 with (first | (go_at_call 24; (with_reducible refine (impl_ReadLog.calls kj6 _ _ t104 t112 t113 t114 _ ?side1 ?side2 A17.out).mono ?_); (case side1 => exact z7793); (case side2 => exact (Kd.R_reads' HO_6.out).2.1); rintro e w20 ⟨v115, rfl, ho0, hb⟩; have n0_ := Aside0.mk (Kd.S_elder' z423e (Kd.S_base ho0) hb); have n1_ := Aside0.mk (Kd.R_below (rZ HO_6.out) hb); have n2_ := Aside0.mk (Kd.S_lower (Kd.S_new' (Kd.S_new' ho0 (Kd.S_lt z423e)) (Kd.R_lt (rZ HO_6.out))) (below_size hbZ)); have n3_ := Aside0.mk (below_step hbZ hb); clear HO_5 HO_6 HB; have HO_5 := n0_; have HO_6 := n1_; have HO116 := n2_; have HB := n3_; clear n0_ n1_ n2_ n3_; (try clear hb); (try clear hb2); (try clear hk); (try clear hi); (try clear ho0))))
         (try simp only [Act.put, List.setIfInBounds_toArray, List.set_cons_zero, List.set_cons_succ])
         go_cut [72] (fun v72 wc => ∃ (kq : Nat) (x72_17 : Bool), v72 = .bool x72_17 ∧ Aside0 (laws_FnLogs.j1 kq l1 t101 t104 t112 x72_17 = some r) ∧ Aside0 (kq ≤ kj6) ∧ Aside0 (Kd.S (Kd.slice 5 (Kd.int .u8)) 22 wc w.heap.size (fun k_ => some k_ ≠ ((.slice Ao19 t104.length co19) : Value).ownBlock ∧ some k_ ≠ (v115 : Value).ownBlock) (.slice Ao9 t101.length co9) t101) ∧ Aside0 (Kd.R (Kd.int .u8) 5 wc w.heap.size (fun _ => True) (.slice Ao19 t104.length co19) t104) ∧ Aside0 (Kd.S (Kd.slice 5 (Kd.int .u8)) 22 wc w.heap.size (fun k_ => some k_ ≠ ((.slice Ao9 t101.length co9) : Value).ownBlock ∧ some k_ ≠ ((.slice Ao19 t104.length co19) : Value).ownBlock) v115 t112) ∧ Aside0 (Below w.heap.size w wc))
         case first =>
          have H := HC18.out
          clear HC18
          by_cases c21 : t114 = true
          · subst c21
            have H1 : (if t113 = (t104.length : Int) then (laws_FnLogs.j1 kj6 l1 t101 t104 t112 ((t112.length : Int) != (t101.length : Int))) else (laws_FnLogs.j1 kj6 l1 t101 t104 t112 true)) = some r := by rw [if_pos rfl] at H; exact H
            clear H
            have H := H1
            clear H1
            by_cases c22 : t113 = (t104.length : Int)
            · rw [if_pos c22] at H
              have c22b0 : (t113 == (t104.length : Int)) = true := beq_iff_eq.mpr c22
              have c22b1 : (t113 != (t104.length : Int)) = false := bne_eq_false_iff_eq.mpr c22
              clear c22
              (first | rw [c22b0] | (simp only [i64_w, i32_w]; rw [c22b0]) | skip)
              have H' := Aside0.mk H
              clear H
              obtain ⟨Ao23, co23, eo23⟩ := Kd.S_slice HO116.out
              subst eo23
              go_wp2
              repeat (go_quiet (fail); try go_wp2)
              go_meet
              case rel => exact ⟨_, (((t112.length : Int) != (t101.length : Int))), z4458, H', ⟨by have := HJ6.out; first | omega | exact Nat.le_refl _⟩, ⟨z423e⟩, ⟨rZ HO_6.out⟩, ⟨z951f⟩, ⟨z5acd⟩⟩
            · rw [if_neg c22] at H
              have c22b0 : (t113 == (t104.length : Int)) = false := beq_eq_false_iff_ne.mpr c22
              have c22b1 : (t113 != (t104.length : Int)) = true := bne_iff_ne.mpr c22
              (first | rw [c22b0] | (simp only [i64_w, i32_w]; rw [c22b0]) | skip)
              have H' := Aside0.mk H
              clear H
              go_wp2
              repeat (go_quiet (fail); try go_wp2)
              go_meet
              case rel => exact ⟨_, (true), z4458, H', ⟨by have := HJ6.out; first | omega | exact Nat.le_refl _⟩, ⟨z423e⟩, ⟨rZ HO_6.out⟩, ⟨z951f⟩, ⟨z5acd⟩⟩
          · replace c21 := Bool.eq_false_iff.mpr c21
            subst c21
            have H1 : (laws_FnLogs.j1 kj6 l1 t101 t104 t112 true) = some r := by rw [if_neg (show ¬ (false = true) by decide)] at H; exact H
            clear H
            have H := H1
            clear H1
            have H' := Aside0.mk H
            clear H
            go_wp2
            repeat (go_quiet (fail); try go_wp2)
            go_meet
            case rel => exact ⟨_, (true), z4458, H', ⟨by have := HJ6.out; first | omega | exact Nat.le_refl _⟩, ⟨z423e⟩, ⟨rZ HO_6.out⟩, ⟨z951f⟩, ⟨z5acd⟩⟩
         case rest =>
          clear HC18
          try clear c1
          try clear hcv1
          try clear c2
          try clear p2
          try clear c3
          try clear c3b0
          try clear c5
          try clear p6
          try clear c12
          try clear c12b0
          try clear c12b1
          try clear c12b2
          try clear hcv13
          try clear hcv14
          try clear c15
          try clear c16
          try clear c21
          try clear c22
          try clear c22b0
          try clear c22b1
          try clear p2
          try clear p6
          obtain ⟨kq, x72_17, rfl, HA, HJ17, HO_5, HO_6, HO_10, HB⟩ := hcut
          cases kq with
          | zero => exact absurd HA.out (by simp [laws_FnLogs.j1])
          | succ kj17 =>
           have H := HA.out
           clear HA
           simp only [laws_FnLogs.j1] at H
           by_cases c24 : x72_17 = true
           · subst c24
             have H1 : (some false) = some r := by rw [if_pos rfl] at H; exact H
             clear H
             have H := H1
             clear H1
             obtain rfl := Option.some.inj H
             go_wp2
             repeat (go_quiet (fail); try go_wp2)
             go_ret
             exact ⟨z674d, z5acd⟩
           · replace c24 := Bool.eq_false_iff.mpr c24
             subst c24
             have H1 : (laws_FnLogs.l0 kj17 l1 t101 t104 t112 (t101.length : Int) 0) = some r := by rw [if_neg (show ¬ (false = true) by decide)] at H; exact H
             clear H
             have H := H1
             clear H1
             have H' := Aside0.mk H
             clear H
             go_wp2
             repeat (go_quiet (fail); try go_wp2)
             go_loopg [75] kj17 (fun kq v75 w' => ∃ (x75_3 : Int), v75 = .int .i64 x75_3 ∧ Aside0 (laws_FnLogs.l0 kq l1 t101 t104 t112 (t101.length : Int) x75_3 = some r) ∧ Aside0 (kq ≤ kj17) ∧ Aside0 (Kd.S (Kd.slice 5 (Kd.int .u8)) 22 w' w.heap.size (fun k_ => some k_ ≠ ((.slice Ao19 t104.length co19) : Value).ownBlock ∧ some k_ ≠ (v115 : Value).ownBlock) (.slice Ao9 t101.length co9) t101) ∧ Aside0 (Kd.R (Kd.int .u8) 5 w' w.heap.size (fun _ => True) (.slice Ao19 t104.length co19) t104) ∧ Aside0 (Kd.S (Kd.slice 5 (Kd.int .u8)) 22 w' w.heap.size (fun k_ => some k_ ≠ ((.slice Ao9 t101.length co9) : Value).ownBlock ∧ some k_ ≠ ((.slice Ao19 t104.length co19) : Value).ownBlock) v115 t112) ∧ Aside0 (Below w.heap.size w w'))
             case atStart => exact ⟨(0), z4458, H', ⟨Nat.le_refl _⟩, ⟨z423e⟩, ⟨rZ HO_6.out⟩, ⟨zd8ff⟩, ⟨z5acd⟩⟩
             case round =>
              clear H'
              try clear c1
              try clear hcv1
              try clear c2
              try clear p2
              try clear c3
              try clear c3b0
              try clear c5
              try clear p6
              try clear c12
              try clear c12b0
              try clear c12b1
              try clear c12b2
              try clear hcv13
              try clear hcv14
              try clear c15
              try clear c16
              try clear c21
              try clear c22
              try clear c22b0
              try clear c22b1
              try clear c24
              try clear p2
              try clear p6
              obtain ⟨x75_3, rfl, HA, HK3, HO_5, HO_6, HO_10, HB⟩ := hrel
              cases gk with
              | zero => exact absurd HA.out (by simp [laws_FnLogs.l0])
              | succ k3 =>
               have H := HA.out
               clear HA
               simp only [laws_FnLogs.l0] at H
               by_cases c25 : x75_3 < (t101.length : Int)
               · rw [if_pos c25] at H
                 have c25b0 : decide (x75_3 < (t101.length : Int)) = true := decide_eq_true c25
                 clear c25
                 by_cases c26 : 0 ≤ x75_3
                 · rw [if_pos c26] at H
                   have c26b0 : decide (0 ≤ x75_3) = true := decide_eq_true c26
                   clear c26
                   by_cases c27 : x75_3 < (t112.length : Int)
                   · rw [if_pos c27] at H
                     have c27b0 : decide (x75_3 < (t112.length : Int)) = true := decide_eq_true c27
                     clear c27
                     by_cases c28 : x75_3 < (t101.length : Int)
                     · rw [if_pos c28] at H
                       have c28b0 : decide (x75_3 < (t101.length : Int)) = true := decide_eq_true c28
                       clear c28
                       by_cases c29 : (strOfNums (rd_L4 t112 x75_3)).toList = (strOfNums (rd_L4 t101 x75_3)).toList
                       · rw [if_pos c29] at H
                         have c29b0 : ((strOfNums (rd_L4 t112 x75_3)).toList == (strOfNums (rd_L4 t101 x75_3)).toList) = true := beq_iff_eq.mpr c29
                         have c29b1 : ((strOfNums (rd_L4 t112 x75_3)).toList != (strOfNums (rd_L4 t101 x75_3)).toList) = false := bne_eq_false_iff_eq.mpr c29
                         clear c29
                         have H' := Aside0.mk H
                         clear H
                         obtain ⟨Ao30, co30, eo30⟩ := Kd.S_slice HO_10.out
                         subst eo30
                         have p117 : 0 ≤ (x75_3 : Int) := of_decide_eq_true z1200
                         have q117 : x75_3 < (t112.length : Int) := of_decide_eq_true z1200
                         obtain ⟨ad117, A117_0, c117_0, e117, hx117_0, hl117_0, hi117_0⟩ := at_L4 (Kd.S_reads' HO_10.out).2.2 x75_3 p117 q117
                         cases e117
                         obtain ⟨ce117, hce117, hMe117, hcc117⟩ := Kd.S_get HO_10.out [] x75_3 p117 (by first | exact q117 | exact of_decide_eq_true z1200 | (have e_ := (Kd.S_reads' HO_10.out).1; omega))
                         obtain ⟨ve117_0, rfl, ge117_0⟩ := hMe117
                         have hv117_0 := hcc117 0 _ rfl
                         rw [Nat.add_zero, show ((Kd.slice 5 (Kd.int .u8))).sz = 1 from rfl, Nat.mul_one] at hv117_0
                         replace hv117_0 := Option.some.inj (hv117_0.symm.trans hx117_0)
                         rw [hv117_0] at ge117_0
                         have HL117_0 := Aside0.mk (show Kd.R (Kd.int .u8) 5 _ _ _ _ (rd_L4 t112 x75_3) from ge117_0)
                         clear hv117_0 ge117_0
                         clear hcc117 hce117
                         have HR117_0 := Aside0.mk hi117_0
                         have HC117_0 := Aside0.mk hl117_0
                         clear hi117_0 hl117_0
                         replace p117 := eq_true p117
                         replace q117 := eq_true q117
                         have hcv31 := Kd.C_string (P := Try.prog) (A := A117_0) (c := c117_0) Try.underlying22 Try.underlying5 Try.underlying9 (by repeat (first | (with_reducible exact HR117_0.out) | (with_reducible refine Kd.C_alloc ?_ _) | (with_reducible refine Kd.C_drewN ?_ _) | (with_reducible refine Kd.C_drew ?_) | exact HR117_0.out))
                         have hcvq32 := fun n_ : Nat => Kd.C_string (P := Try.prog) (A := A117_0) (c := c117_0) Try.underlying22 Try.underlying5 Try.underlying9 (Kd.C_drewN (by repeat (first | (with_reducible exact HR117_0.out) | (with_reducible refine Kd.C_alloc ?_ _) | (with_reducible refine Kd.C_drewN ?_ _) | (with_reducible refine Kd.C_drew ?_) | exact HR117_0.out)) n_)
                         have p118 : 0 ≤ (x75_3 : Int) := of_decide_eq_true z1200
                         have q118 : x75_3 < (t101.length : Int) := of_decide_eq_true z1200
                         obtain ⟨ad118, A118_0, c118_0, e118, hx118_0, hl118_0, hi118_0⟩ := at_L4 (Kd.S_reads' HO_5.out).2.2 x75_3 p118 q118
                         cases e118
                         obtain ⟨ce118, hce118, hMe118, hcc118⟩ := Kd.S_get HO_5.out [] x75_3 p118 (by first | exact q118 | exact of_decide_eq_true z1200 | (have e_ := (Kd.S_reads' HO_5.out).1; omega))
                         obtain ⟨ve118_0, rfl, ge118_0⟩ := hMe118
                         have hv118_0 := hcc118 0 _ rfl
                         rw [Nat.add_zero, show ((Kd.slice 5 (Kd.int .u8))).sz = 1 from rfl, Nat.mul_one] at hv118_0
                         replace hv118_0 := Option.some.inj (hv118_0.symm.trans hx118_0)
                         rw [hv118_0] at ge118_0
                         have HL118_0 := Aside0.mk (show Kd.R (Kd.int .u8) 5 _ _ _ _ (rd_L4 t101 x75_3) from ge118_0)
                         clear hv118_0 ge118_0
                         clear hcc118 hce118
                         have HR118_0 := Aside0.mk hi118_0
                         have HC118_0 := Aside0.mk hl118_0
                         clear hi118_0 hl118_0
                         replace p118 := eq_true p118
                         replace q118 := eq_true q118
                         have hcv33 := Kd.C_string (P := Try.prog) (A := A118_0) (c := c118_0) Try.underlying22 Try.underlying5 Try.underlying9 (by repeat (first | (with_reducible exact HR118_0.out) | (with_reducible refine Kd.C_alloc ?_ _) | (with_reducible refine Kd.C_drewN ?_ _) | (with_reducible refine Kd.C_drew ?_) | exact HR118_0.out))
                         have hcvq34 := fun n_ : Nat => Kd.C_string (P := Try.prog) (A := A118_0) (c := c118_0) Try.underlying22 Try.underlying5 Try.underlying9 (Kd.C_drewN (by repeat (first | (with_reducible exact HR118_0.out) | (with_reducible refine Kd.C_alloc ?_ _) | (with_reducible refine Kd.C_drewN ?_ _) | (with_reducible refine Kd.C_drew ?_) | exact HR118_0.out)) n_)
                         go_wp2
                         repeat (go_quiet (fail); try go_wp2)
                         go_roundg k3
                         case measure => have := HJ6.out; have := HJ17.out; have := HK3.out; omega
                         case rel => exact ⟨(wrap64 (x75_3 + 1)), z4458, H', ⟨by have := HJ6.out; have := HJ17.out; have := HK3.out; omega⟩, ⟨z423e⟩, ⟨rZ HO_6.out⟩, ⟨zd8ff⟩, ⟨z5acd⟩⟩
                       · rw [if_neg c29] at H
                         have c29b0 : ((strOfNums (rd_L4 t112 x75_3)).toList == (strOfNums (rd_L4 t101 x75_3)).toList) = false := beq_eq_false_iff_ne.mpr c29
                         have c29b1 : ((strOfNums (rd_L4 t112 x75_3)).toList != (strOfNums (rd_L4 t101 x75_3)).toList) = true := bne_iff_ne.mpr c29
                         obtain rfl := Option.some.inj H
                         obtain ⟨Ao35, co35, eo35⟩ := Kd.S_slice HO_10.out
                         subst eo35
                         have p117 : 0 ≤ (x75_3 : Int) := of_decide_eq_true z1200
                         have q117 : x75_3 < (t112.length : Int) := of_decide_eq_true z1200
                         obtain ⟨ad117, A117_0, c117_0, e117, hx117_0, hl117_0, hi117_0⟩ := at_L4 (Kd.S_reads' HO_10.out).2.2 x75_3 p117 q117
                         cases e117
                         obtain ⟨ce117, hce117, hMe117, hcc117⟩ := Kd.S_get HO_10.out [] x75_3 p117 (by first | exact q117 | exact of_decide_eq_true z1200 | (have e_ := (Kd.S_reads' HO_10.out).1; omega))
                         obtain ⟨ve117_0, rfl, ge117_0⟩ := hMe117
                         have hv117_0 := hcc117 0 _ rfl
                         rw [Nat.add_zero, show ((Kd.slice 5 (Kd.int .u8))).sz = 1 from rfl, Nat.mul_one] at hv117_0
                         replace hv117_0 := Option.some.inj (hv117_0.symm.trans hx117_0)
                         rw [hv117_0] at ge117_0
                         have HL117_0 := Aside0.mk (show Kd.R (Kd.int .u8) 5 _ _ _ _ (rd_L4 t112 x75_3) from ge117_0)
                         clear hv117_0 ge117_0
                         clear hcc117 hce117
                         have HR117_0 := Aside0.mk hi117_0
                         have HC117_0 := Aside0.mk hl117_0
                         clear hi117_0 hl117_0
                         replace p117 := eq_true p117
                         replace q117 := eq_true q117
                         have hcv36 := Kd.C_string (P := Try.prog) (A := A117_0) (c := c117_0) Try.underlying22 Try.underlying5 Try.underlying9 (by repeat (first | (with_reducible exact HR117_0.out) | (with_reducible refine Kd.C_alloc ?_ _) | (with_reducible refine Kd.C_drewN ?_ _) | (with_reducible refine Kd.C_drew ?_) | exact HR117_0.out))
                         have hcvq37 := fun n_ : Nat => Kd.C_string (P := Try.prog) (A := A117_0) (c := c117_0) Try.underlying22 Try.underlying5 Try.underlying9 (Kd.C_drewN (by repeat (first | (with_reducible exact HR117_0.out) | (with_reducible refine Kd.C_alloc ?_ _) | (with_reducible refine Kd.C_drewN ?_ _) | (with_reducible refine Kd.C_drew ?_) | exact HR117_0.out)) n_)
                         have p118 : 0 ≤ (x75_3 : Int) := of_decide_eq_true z1200
                         have q118 : x75_3 < (t101.length : Int) := of_decide_eq_true z1200
                         obtain ⟨ad118, A118_0, c118_0, e118, hx118_0, hl118_0, hi118_0⟩ := at_L4 (Kd.S_reads' HO_5.out).2.2 x75_3 p118 q118
                         cases e118
                         obtain ⟨ce118, hce118, hMe118, hcc118⟩ := Kd.S_get HO_5.out [] x75_3 p118 (by first | exact q118 | exact of_decide_eq_true z1200 | (have e_ := (Kd.S_reads' HO_5.out).1; omega))
                         obtain ⟨ve118_0, rfl, ge118_0⟩ := hMe118
                         have hv118_0 := hcc118 0 _ rfl
                         rw [Nat.add_zero, show ((Kd.slice 5 (Kd.int .u8))).sz = 1 from rfl, Nat.mul_one] at hv118_0
                         replace hv118_0 := Option.some.inj (hv118_0.symm.trans hx118_0)
                         rw [hv118_0] at ge118_0
                         have HL118_0 := Aside0.mk (show Kd.R (Kd.int .u8) 5 _ _ _ _ (rd_L4 t101 x75_3) from ge118_0)
                         clear hv118_0 ge118_0
                         clear hcc118 hce118
                         have HR118_0 := Aside0.mk hi118_0
                         have HC118_0 := Aside0.mk hl118_0
                         clear hi118_0 hl118_0
                         replace p118 := eq_true p118
                         replace q118 := eq_true q118
                         have hcv38 := Kd.C_string (P := Try.prog) (A := A118_0) (c := c118_0) Try.underlying22 Try.underlying5 Try.underlying9 (by repeat (first | (with_reducible exact HR118_0.out) | (with_reducible refine Kd.C_alloc ?_ _) | (with_reducible refine Kd.C_drewN ?_ _) | (with_reducible refine Kd.C_drew ?_) | exact HR118_0.out))
                         have hcvq39 := fun n_ : Nat => Kd.C_string (P := Try.prog) (A := A118_0) (c := c118_0) Try.underlying22 Try.underlying5 Try.underlying9 (Kd.C_drewN (by repeat (first | (with_reducible exact HR118_0.out) | (with_reducible refine Kd.C_alloc ?_ _) | (with_reducible refine Kd.C_drewN ?_ _) | (with_reducible refine Kd.C_drew ?_) | exact HR118_0.out)) n_)
                         go_wp2
                         repeat (go_quiet (fail); try go_wp2)
                         go_ret
                         exact ⟨z674d, z5acd⟩
                     · rw [if_neg c28] at H
                       exact absurd H (by simp)
                   · rw [if_neg c27] at H
                     exact absurd H (by simp)
                 · rw [if_neg c26] at H
                   exact absurd H (by simp)
               · rw [if_neg c25] at H
                 have c25b0 : decide (x75_3 < (t101.length : Int)) = false := decide_eq_false c25
                 clear c25
                 replace H := Option.bind_eq_some_iff.mp H
                 obtain ⟨t119, A400, H⟩ := H
                 try dsimp only at H
                 have A40 := Aside0.mk A400
                 clear A400
                 by_cases c41 : (wrap64 ((t104.length : Int) + 1)) = 0
                 · rw [if_pos c41] at H
                   exact absurd H (by simp)
                 · rw [if_neg c41] at H
                   have c41b0 : ((wrap64 ((t104.length : Int) + 1)) == 0) = false := beq_eq_false_iff_ne.mpr c41
                   have c41b1 : ((wrap64 ((t104.length : Int) + 1)) != 0) = true := bne_iff_ne.mpr c41
                   obtain ⟨ji42, hji42⟩ : ∃ j_ : Int, (Int.tmod t119 (wrap64 ((t104.length : Int) + 1))) = j_ := ⟨_, rfl⟩
                   replace H : (if 0 ≤ (ji42) then (if (ji42) ≤ (t104.length : Int) then ((impl_ReadLog.f k3 (t104.take ((ji42) : Int).toNat)).bind fun bt124 => (if bt124.2.2 = true then (if bt124.2.1 > (ji42) then (laws_FnLogs.j3 k3 t101 bt124.1 true) else (laws_FnLogs.j3 k3 t101 bt124.1 (decide ((bt124.1.length : Int) > (t101.length : Int))))) else (laws_FnLogs.j3 k3 t101 bt124.1 true))) else (none)) else (none)) = some r := by first | (rw [hji42] at H; exact H) | (simp only [hji42] at H ⊢; exact H)
                   (try rw [hji42] at A40)
                   by_cases c43 : 0 ≤ (ji42)
                   · rw [if_pos c43] at H
                     have c43b0 := eq_true c43
                     have c43b1 : decide (0 ≤ (ji42)) = true := decide_eq_true c43
                     clear c43
                     by_cases c44 : (ji42) ≤ (t104.length : Int)
                     · rw [if_pos c44] at H
                       have c44b0 := eq_true c44
                       have c44b1 : decide ((ji42) ≤ (t104.length : Int)) = true := decide_eq_true c44
                       clear c44
                       obtain ⟨y120, hy120⟩ : ∃ y_ : List Int, y_ = (t104.take ((ji42) : Int).toNat) := ⟨_, rfl⟩
                       replace H : ((impl_ReadLog.f k3 y120).bind fun bt124 => (if bt124.2.2 = true then (if bt124.2.1 > (ji42) then (laws_FnLogs.j3 k3 t101 bt124.1 true) else (laws_FnLogs.j3 k3 t101 bt124.1 (decide ((bt124.1.length : Int) > (t101.length : Int))))) else (laws_FnLogs.j3 k3 t101 bt124.1 true))) = some r := by first | (rw [hy120]; with_reducible exact H) | (have H2_ := (Option.bind_some _ _).symm.trans H; rw [hy120]; with_reducible exact H2_) | (have H2_ := (Option.bind_some _ _).symm.trans H; with_reducible exact H2_) | with_reducible exact H | (rw [hy120]; exact H) | exact H
                       have Ny120 := Aside0.mk hy120
                       clear hy120
                       replace H := Option.bind_eq_some_iff.mp H
                       obtain ⟨⟨t124, t125, t126⟩, A450, H⟩ := H
                       try dsimp only at H
                       have A45 := Aside0.mk A450
                       clear A450
                       have HC46 := Aside0.mk H
                       clear H
                       go_upto_region 21 with (first | (go_at_call 25; (with_reducible refine (laws_numberOf.calls k3 _ _ l1 t119 _ ?side1 ?side2 A40.out).mono ?_); (case side1 => exact z5d5d); (case side2 => exact HC1.out); rintro e w' ⟨rfl, ⟨nd, rfl⟩⟩; (try first | exact ⟨rfl, _, World.drewN_drewN _ _ _⟩ | exact ⟨rfl, _, Eq.trans (World.drewN_drewN _ _ _) (congrArg (World.drewN _) (Nat.add_assoc _ _ _))⟩); have q47 : ((ji42) : Int) ≤ ((t104.length : Int) : Int) := of_decide_eq_true z1200; obtain ⟨i047, hi047, _, hsz47, _⟩ := info_parts info5; have hroom47 : t104.length ≤ co19 := (Kd.R_reads' HO_6.out).2.1; have hC47 : Kd.C (Kd.int .u8) _ Ao19 t104.length t104 := (Kd.R_reads' HO_6.out).2.2; have hcut47 := cut_to (P := Try.prog) 22 5 .i64 Try.underlying22 hi047 Ao19 t104.length co19 (ji42) (of_decide_eq_true z1200) q47 hroom47; have hr47 := Kd.C_take (m := ((ji42) : Int).toNat) hC47 (by omega); have hy47 : y120.length = ((ji42) : Int).toNat := (by rw [Ny120.out, List.length_take]; omega); rw [← Ny120.out] at hr47; rw [← hy47] at hcut47; have HR123 := Aside0.mk hr47; have HC123 := Aside0.mk (show y120.length ≤ co19 from by omega); clear hr47 hC47 hroom47 hi047 hsz47; have KY47 := Aside0.mk hy47; clear hy47; have KL47 := Aside0.mk (show ((ji42) : Int).toNat ≤ t104.length from by omega); replace q47 := eq_true q47) | (go_at_call 24; (with_reducible refine (impl_ReadLog.calls k3 _ _ y120 t124 t125 t126 _ ?side1 ?side2 A45.out).mono ?_); (case side1 => exact z419f); (case side2 => exact HC123.out); rintro e w48 ⟨v127, rfl, ho0, hb⟩; have n0_ := Aside0.mk (Kd.S_elder' z423e (Kd.S_base ho0) hb); have n1_ := Aside0.mk (Kd.R_below (rZ HO_6.out) hb); have n2_ := Aside0.mk (Kd.S_elder' zd8ff (Kd.S_base ho0) hb); have n3_ := Aside0.mk (Kd.S_lower (Kd.S_new' (Kd.S_new' (Kd.S_new' ho0 (Kd.S_lt z423e)) (Kd.R_lt (rZ HO_6.out))) (Kd.S_lt zd8ff)) (below_size hbZ)); have n4_ := Aside0.mk (Kd.C_below z5618 hb); have n5_ := Aside0.mk (below_step hbZ hb); clear HO_5 HO_6 HO_10 HR123 HB; have HO_5 := n0_; have HO_6 := n1_; have HO_10 := n2_; have HO128 := n3_; have HR123 := n4_; have HB := n5_; clear n0_ n1_ n2_ n3_ n4_ n5_; (try clear hb); (try clear hb2); (try clear hk); (try clear hi); (try clear ho0)))
                       repeat (go_quiet (first | (go_at_call 25; (with_reducible refine (laws_numberOf.calls k3 _ _ l1 t119 _ ?side1 ?side2 A40.out).mono ?_); (case side1 => exact z5d5d); (case side2 => exact HC1.out); rintro e w' ⟨rfl, ⟨nd, rfl⟩⟩; (try first | exact ⟨rfl, _, World.drewN_drewN _ _ _⟩ | exact ⟨rfl, _, Eq.trans (World.drewN_drewN _ _ _) (congrArg (World.drewN _) (Nat.add_assoc _ _ _))⟩); have q47 : ((ji42) : Int) ≤ ((t104.length : Int) : Int) := of_decide_eq_true z1200; obtain ⟨i047, hi047, _, hsz47, _⟩ := info_parts info5; have hroom47 : t104.length ≤ co19 := (Kd.R_reads' HO_6.out).2.1; have hC47 : Kd.C (Kd.int .u8) _ Ao19 t104.length t104 := (Kd.R_reads' HO_6.out).2.2; (try clear hcut47); (try clear hcut47); have hcut47 := cut_to (P := Try.prog) 22 5 .i64 Try.underlying22 hi047 Ao19 t104.length co19 (ji42) (of_decide_eq_true z1200) q47 hroom47; have hr47 := Kd.C_take (m := ((ji42) : Int).toNat) hC47 (by omega); have hy47 : y120.length = ((ji42) : Int).toNat := (by rw [Ny120.out, List.length_take]; omega); rw [← Ny120.out] at hr47; rw [← hy47] at hcut47; have HR123 := Aside0.mk hr47; have HC123 := Aside0.mk (show y120.length ≤ co19 from by omega); clear hr47 hC47 hroom47 hi047 hsz47; have KY47 := Aside0.mk hy47; clear hy47; have KL47 := Aside0.mk (show ((ji42) : Int).toNat ≤ t104.length from by omega); replace q47 := eq_true q47) | (go_at_call 24; (with_reducible refine (impl_ReadLog.calls k3 _ _ y120 t124 t125 t126 _ ?side1 ?side2 A45.out).mono ?_); (case side1 => exact z419f); (case side2 => exact HC123.out); rintro e w48 ⟨v127, rfl, ho0, hb⟩; have n0_ := Aside0.mk (Kd.S_elder' z423e (Kd.S_base ho0) hb); have n1_ := Aside0.mk (Kd.R_below (rZ HO_6.out) hb); have n2_ := Aside0.mk (Kd.S_elder' zd8ff (Kd.S_base ho0) hb); have n3_ := Aside0.mk (Kd.S_lower (Kd.S_new' (Kd.S_new' (Kd.S_new' ho0 (Kd.S_lt z423e)) (Kd.R_lt (rZ HO_6.out))) (Kd.S_lt zd8ff)) (below_size hbZ)); have n4_ := Aside0.mk (Kd.C_below z5618 hb); have n5_ := Aside0.mk (below_step hbZ hb); clear HO_5 HO_6 HO_10 HR123 HB; have HO_5 := n0_; have HO_6 := n1_; have HO_10 := n2_; have HO128 := n3_; have HR123 := n4_; have HB := n5_; clear n0_ n1_ n2_ n3_ n4_ n5_; (try clear hb); (try clear hb2); (try clear hk); (try clear hi); (try clear ho0))); go_upto_region 21 with (first | (go_at_call 25; (with_reducible refine (laws_numberOf.calls k3 _ _ l1 t119 _ ?side1 ?side2 A40.out).mono ?_); (case side1 => exact z5d5d); (case side2 => exact HC1.out); rintro e w' ⟨rfl, ⟨nd, rfl⟩⟩; (try first | exact ⟨rfl, _, World.drewN_drewN _ _ _⟩ | exact ⟨rfl, _, Eq.trans (World.drewN_drewN _ _ _) (congrArg (World.drewN _) (Nat.add_assoc _ _ _))⟩); have q47 : ((ji42) : Int) ≤ ((t104.length : Int) : Int) := of_decide_eq_true z1200; obtain ⟨i047, hi047, _, hsz47, _⟩ := info_parts info5; have hroom47 : t104.length ≤ co19 := (Kd.R_reads' HO_6.out).2.1; have hC47 : Kd.C (Kd.int .u8) _ Ao19 t104.length t104 := (Kd.R_reads' HO_6.out).2.2; (try clear hcut47); (try clear hcut47); (try clear hcut47); have hcut47 := cut_to (P := Try.prog) 22 5 .i64 Try.underlying22 hi047 Ao19 t104.length co19 (ji42) (of_decide_eq_true z1200) q47 hroom47; have hr47 := Kd.C_take (m := ((ji42) : Int).toNat) hC47 (by omega); have hy47 : y120.length = ((ji42) : Int).toNat := (by rw [Ny120.out, List.length_take]; omega); rw [← Ny120.out] at hr47; rw [← hy47] at hcut47; have HR123 := Aside0.mk hr47; have HC123 := Aside0.mk (show y120.length ≤ co19 from by omega); clear hr47 hC47 hroom47 hi047 hsz47; have KY47 := Aside0.mk hy47; clear hy47; have KL47 := Aside0.mk (show ((ji42) : Int).toNat ≤ t104.length from by omega); replace q47 := eq_true q47) | (go_at_call 24; (with_reducible refine (impl_ReadLog.calls k3 _ _ y120 t124 t125 t126 _ ?side1 ?side2 A45.out).mono ?_); (case side1 => exact z419f); (case side2 => exact HC123.out); rintro e w48 ⟨v127, rfl, ho0, hb⟩; have n0_ := Aside0.mk (Kd.S_elder' z423e (Kd.S_base ho0) hb); have n1_ := Aside0.mk (Kd.R_below (rZ HO_6.out) hb); have n2_ := Aside0.mk (Kd.S_elder' zd8ff (Kd.S_base ho0) hb); have n3_ := Aside0.mk (Kd.S_lower (Kd.S_new' (Kd.S_new' (Kd.S_new' ho0 (Kd.S_lt z423e)) (Kd.R_lt (rZ HO_6.out))) (Kd.S_lt zd8ff)) (below_size hbZ)); have n4_ := Aside0.mk (Kd.C_below z5618 hb); have n5_ := Aside0.mk (below_step hbZ hb); clear HO_5 HO_6 HO_10 HR123 HB; have HO_5 := n0_; have HO_6 := n1_; have HO_10 := n2_; have HO128 := n3_; have HR123 := n4_; have HB := n5_; clear n0_ n1_ n2_ n3_ n4_ n5_; (try clear hb); (try clear hb2); (try clear hk); (try clear hi); (try clear ho0))))
                       (try simp only [Act.put, List.setIfInBounds_toArray, List.set_cons_zero, List.set_cons_succ])
                       go_cut [117] (fun v117 wc => ∃ (kq : Nat) (x117_45 : Bool), v117 = .bool x117_45 ∧ Aside0 (laws_FnLogs.j3 kq t101 t124 x117_45 = some r) ∧ Aside0 (kq ≤ k3) ∧ Aside0 (Kd.S (Kd.slice 5 (Kd.int .u8)) 22 wc w.heap.size (fun k_ => some k_ ≠ (v127 : Value).ownBlock) (.slice Ao9 t101.length co9) t101) ∧ Aside0 (Kd.S (Kd.slice 5 (Kd.int .u8)) 22 wc w.heap.size (fun k_ => some k_ ≠ ((.slice Ao9 t101.length co9) : Value).ownBlock) v127 t124) ∧ Aside0 (Kd.C (Kd.int .u8) wc Ao19 y120.length y120) ∧ Aside0 (Below w.heap.size w wc))
                       case first =>
                        have H := HC46.out
                        clear HC46
                        by_cases c49 : t126 = true
                        · subst c49
                          have H1 : (if t125 > (ji42) then (laws_FnLogs.j3 k3 t101 t124 true) else (laws_FnLogs.j3 k3 t101 t124 (decide ((t124.length : Int) > (t101.length : Int))))) = some r := by rw [if_pos rfl] at H; exact H
                          clear H
                          have H := H1
                          clear H1
                          by_cases c50 : t125 > (ji42)
                          · rw [if_pos c50] at H
                            have c50b0 : decide ((ji42) < t125) = true := decide_eq_true c50
                            clear c50
                            (first | rw [c50b0] | (simp only [i64_w, i32_w]; rw [c50b0]) | skip)
                            have H' := Aside0.mk H
                            clear H
                            go_wp2
                            repeat (go_quiet (fail); try go_wp2)
                            go_meet
                            case rel => exact ⟨_, (true), z4458, H', ⟨by have := HJ6.out; have := HJ17.out; have := HK3.out; first | omega | exact Nat.le_refl _⟩, ⟨by (with_reducible repeat (first | apply Kd.S_alloc | apply Kd.S_drewN | apply Kd.S_drew)); exact Kd.S_mono HO_5.out (fun _ hk => hk.2)⟩, ⟨z7234⟩, ⟨z5618⟩, ⟨z5acd⟩⟩
                          · rw [if_neg c50] at H
                            have c50b0 : decide ((ji42) < t125) = false := decide_eq_false c50
                            clear c50
                            (first | rw [c50b0] | (simp only [i64_w, i32_w]; rw [c50b0]) | skip)
                            have H' := Aside0.mk H
                            clear H
                            obtain ⟨Ao51, co51, eo51⟩ := Kd.S_slice HO128.out
                            subst eo51
                            go_wp2
                            repeat (go_quiet (fail); try go_wp2)
                            go_meet
                            case rel => exact ⟨_, (decide ((t124.length : Int) > (t101.length : Int))), z4458, H', ⟨by have := HJ6.out; have := HJ17.out; have := HK3.out; first | omega | exact Nat.le_refl _⟩, ⟨by (with_reducible repeat (first | apply Kd.S_alloc | apply Kd.S_drewN | apply Kd.S_drew)); exact Kd.S_mono HO_5.out (fun _ hk => hk.2)⟩, ⟨z7234⟩, ⟨z5618⟩, ⟨z5acd⟩⟩
                        · replace c49 := Bool.eq_false_iff.mpr c49
                          subst c49
                          have H1 : (laws_FnLogs.j3 k3 t101 t124 true) = some r := by rw [if_neg (show ¬ (false = true) by decide)] at H; exact H
                          clear H
                          have H := H1
                          clear H1
                          have H' := Aside0.mk H
                          clear H
                          go_wp2
                          repeat (go_quiet (fail); try go_wp2)
                          go_meet
                          case rel => exact ⟨_, (true), z4458, H', ⟨by have := HJ6.out; have := HJ17.out; have := HK3.out; first | omega | exact Nat.le_refl _⟩, ⟨by (with_reducible repeat (first | apply Kd.S_alloc | apply Kd.S_drewN | apply Kd.S_drew)); exact Kd.S_mono HO_5.out (fun _ hk => hk.2)⟩, ⟨z7234⟩, ⟨z5618⟩, ⟨z5acd⟩⟩
                       case rest =>
                        clear HC46
                        try clear c1
                        try clear p1
                        try clear q1
                        try clear hx1
                        try clear hcv1
                        try clear c2
                        try clear p2
                        try clear c3
                        try clear c3b0
                        try clear q3
                        try clear hcv3
                        try clear c4
                        try clear q4
                        try clear c5
                        try clear p6
                        try clear c11
                        try clear p11
                        try clear q11
                        try clear hx11
                        try clear c12
                        try clear c12b0
                        try clear c12b1
                        try clear c12b2
                        try clear hcv13
                        try clear hcv14
                        try clear c15
                        try clear c16
                        try clear c21
                        try clear c22
                        try clear c22b0
                        try clear c22b1
                        try clear c24
                        try clear c25
                        try clear c25b0
                        try clear c26
                        try clear c26b0
                        try clear c27
                        try clear c27b0
                        try clear c28
                        try clear c28b0
                        try clear c29
                        try clear c29b0
                        try clear c29b1
                        try clear hcv31
                        try clear q32
                        try clear hcv33
                        try clear q34
                        try clear hcv36
                        try clear q37
                        try clear hcv38
                        try clear q39
                        try clear c41
                        try clear c41b0
                        try clear c41b1
                        try clear c43
                        try clear c43b0
                        try clear c43b1
                        try clear c44
                        try clear c44b0
                        try clear c44b1
                        try clear q47
                        try clear c49
                        try clear c50
                        try clear c50b0
                        try clear hx117_0
                        try clear hx118_0
                        try clear p117
                        try clear p118
                        try clear p2
                        try clear p6
                        try clear q117
                        try clear q118
                        try clear q47
                        obtain ⟨kq, x117_45, rfl, HA, HJ45, HO_5, HO_15, HR123, HB⟩ := hcut
                        cases kq with
                        | zero => exact absurd HA.out (by simp [laws_FnLogs.j3])
                        | succ kj45 =>
                         have H := HA.out
                         clear HA
                         simp only [laws_FnLogs.j3] at H
                         by_cases c52 : x117_45 = true
                         · subst c52
                           have H1 : (some false) = some r := by rw [if_pos rfl] at H; exact H
                           clear H
                           have H := H1
                           clear H1
                           obtain rfl := Option.some.inj H
                           go_wp2
                           repeat (go_quiet (fail); try go_wp2)
                           go_ret
                           exact ⟨by first | rfl | (simp [errW_none, errW_some] <;> rfl) | (simp only [← hji42]; first | rfl | (simp [errW_none, errW_some] <;> rfl)) | (simp [*, errW_none, errW_some] <;> rfl), z5acd⟩
                         · replace c52 := Bool.eq_false_iff.mpr c52
                           subst c52
                           have H1 : (laws_FnLogs.l1 kj45 t101 t124 (t124.length : Int) 0) = some r := by rw [if_neg (show ¬ (false = true) by decide)] at H; exact H
                           clear H
                           have H := H1
                           clear H1
                           have H' := Aside0.mk H
                           clear H
                           obtain ⟨Ao53, co53, eo53⟩ := Kd.S_slice HO_15.out
                           subst eo53
                           go_wp2
                           repeat (go_quiet (fail); try go_wp2)
                           go_loopg [120] kj45 (fun kq v120 w' => ∃ (x120_5 : Int), v120 = .int .i64 x120_5 ∧ Aside0 (laws_FnLogs.l1 kq t101 t124 (t124.length : Int) x120_5 = some r) ∧ Aside0 (kq ≤ kj45) ∧ Aside0 (Kd.S (Kd.slice 5 (Kd.int .u8)) 22 w' w.heap.size (fun k_ => some k_ ≠ ((.slice Ao53 t124.length co53) : Value).ownBlock) (.slice Ao9 t101.length co9) t101) ∧ Aside0 (Kd.S (Kd.slice 5 (Kd.int .u8)) 22 w' w.heap.size (fun k_ => some k_ ≠ ((.slice Ao9 t101.length co9) : Value).ownBlock) (.slice Ao53 t124.length co53) t124) ∧ Aside0 (Kd.C (Kd.int .u8) w' Ao19 y120.length y120) ∧ Aside0 (Below w.heap.size w w'))
                           case atStart => exact ⟨(0), z4458, H', ⟨Nat.le_refl _⟩, ⟨z423e⟩, ⟨by (with_reducible repeat (first | apply Kd.S_alloc | apply Kd.S_drewN | apply Kd.S_drew)); exact HO_15.out⟩, ⟨z5618⟩, ⟨z5acd⟩⟩
                           case round =>
                            clear H'
                            try clear c1
                            try clear p1
                            try clear q1
                            try clear hx1
                            try clear hcv1
                            try clear c2
                            try clear p2
                            try clear c3
                            try clear c3b0
                            try clear q3
                            try clear hcv3
                            try clear c4
                            try clear q4
                            try clear c5
                            try clear p6
                            try clear c11
                            try clear p11
                            try clear q11
                            try clear hx11
                            try clear c12
                            try clear c12b0
                            try clear c12b1
                            try clear c12b2
                            try clear hcv13
                            try clear hcv14
                            try clear c15
                            try clear c16
                            try clear c21
                            try clear c22
                            try clear c22b0
                            try clear c22b1
                            try clear c24
                            try clear c25
                            try clear c25b0
                            try clear c26
                            try clear c26b0
                            try clear c27
                            try clear c27b0
                            try clear c28
                            try clear c28b0
                            try clear c29
                            try clear c29b0
                            try clear c29b1
                            try clear hcv31
                            try clear q32
                            try clear hcv33
                            try clear q34
                            try clear hcv36
                            try clear q37
                            try clear hcv38
                            try clear q39
                            try clear c41
                            try clear c41b0
                            try clear c41b1
                            try clear c43
                            try clear c43b0
                            try clear c43b1
                            try clear c44
                            try clear c44b0
                            try clear c44b1
                            try clear q47
                            try clear c49
                            try clear c50
                            try clear c50b0
                            try clear c52
                            try clear hx117_0
                            try clear hx118_0
                            try clear p1
                            try clear p11
                            try clear p117
                            try clear p118
                            try clear p2
                            try clear p6
                            try clear q1
                            try clear q11
                            try clear q117
                            try clear q118
                            try clear q3
                            try clear q32
                            try clear q34
                            try clear q37
                            try clear q39
                            try clear q4
                            try clear q47
                            obtain ⟨x120_5, rfl, HA, HK5, HO_5, HO_15, HR123, HB⟩ := hrel
                            cases gk with
                            | zero => exact absurd HA.out (by simp [laws_FnLogs.l1])
                            | succ k5 =>
                             have H := HA.out
                             clear HA
                             simp only [laws_FnLogs.l1] at H
                             by_cases c54 : x120_5 < (t124.length : Int)
                             · rw [if_pos c54] at H
                               have c54b0 : decide (x120_5 < (t124.length : Int)) = true := decide_eq_true c54
                               clear c54
                               by_cases c55 : 0 ≤ x120_5
                               · rw [if_pos c55] at H
                                 have c55b0 : decide (0 ≤ x120_5) = true := decide_eq_true c55
                                 clear c55
                                 by_cases c56 : x120_5 < (t124.length : Int)
                                 · rw [if_pos c56] at H
                                   have c56b0 : decide (x120_5 < (t124.length : Int)) = true := decide_eq_true c56
                                   clear c56
                                   by_cases c57 : x120_5 < (t101.length : Int)
                                   · rw [if_pos c57] at H
                                     have c57b0 : decide (x120_5 < (t101.length : Int)) = true := decide_eq_true c57
                                     clear c57
                                     by_cases c58 : (strOfNums (rd_L4 t124 x120_5)).toList = (strOfNums (rd_L4 t101 x120_5)).toList
                                     · rw [if_pos c58] at H
                                       have c58b0 : ((strOfNums (rd_L4 t124 x120_5)).toList == (strOfNums (rd_L4 t101 x120_5)).toList) = true := beq_iff_eq.mpr c58
                                       have c58b1 : ((strOfNums (rd_L4 t124 x120_5)).toList != (strOfNums (rd_L4 t101 x120_5)).toList) = false := bne_eq_false_iff_eq.mpr c58
                                       clear c58
                                       have H' := Aside0.mk H
                                       clear H
                                       have p129 : 0 ≤ (x120_5 : Int) := of_decide_eq_true z1200
                                       have q129 : x120_5 < (t124.length : Int) := of_decide_eq_true z1200
                                       obtain ⟨ad129, A129_0, c129_0, e129, hx129_0, hl129_0, hi129_0⟩ := at_L4 (Kd.S_reads' HO_15.out).2.2 x120_5 p129 q129
                                       cases e129
                                       obtain ⟨ce129, hce129, hMe129, hcc129⟩ := Kd.S_get HO_15.out [] x120_5 p129 (by first | exact q129 | exact of_decide_eq_true z1200 | (have e_ := (Kd.S_reads' HO_15.out).1; omega))
                                       obtain ⟨ve129_0, rfl, ge129_0⟩ := hMe129
                                       have hv129_0 := hcc129 0 _ rfl
                                       rw [Nat.add_zero, show ((Kd.slice 5 (Kd.int .u8))).sz = 1 from rfl, Nat.mul_one] at hv129_0
                                       replace hv129_0 := Option.some.inj (hv129_0.symm.trans hx129_0)
                                       rw [hv129_0] at ge129_0
                                       have HL129_0 := Aside0.mk (show Kd.R (Kd.int .u8) 5 _ _ _ _ (rd_L4 t124 x120_5) from ge129_0)
                                       clear hv129_0 ge129_0
                                       clear hcc129 hce129
                                       have HR129_0 := Aside0.mk hi129_0
                                       have HC129_0 := Aside0.mk hl129_0
                                       clear hi129_0 hl129_0
                                       replace p129 := eq_true p129
                                       replace q129 := eq_true q129
                                       have hcv59 := Kd.C_string (P := Try.prog) (A := A129_0) (c := c129_0) Try.underlying22 Try.underlying5 Try.underlying9 (by repeat (first | (with_reducible exact HR129_0.out) | (with_reducible refine Kd.C_alloc ?_ _) | (with_reducible refine Kd.C_drewN ?_ _) | (with_reducible refine Kd.C_drew ?_) | exact HR129_0.out))
                                       have hcvq60 := fun n_ : Nat => Kd.C_string (P := Try.prog) (A := A129_0) (c := c129_0) Try.underlying22 Try.underlying5 Try.underlying9 (Kd.C_drewN (by repeat (first | (with_reducible exact HR129_0.out) | (with_reducible refine Kd.C_alloc ?_ _) | (with_reducible refine Kd.C_drewN ?_ _) | (with_reducible refine Kd.C_drew ?_) | exact HR129_0.out)) n_)
                                       have p130 : 0 ≤ (x120_5 : Int) := of_decide_eq_true z1200
                                       have q130 : x120_5 < (t101.length : Int) := of_decide_eq_true z1200
                                       obtain ⟨ad130, A130_0, c130_0, e130, hx130_0, hl130_0, hi130_0⟩ := at_L4 (Kd.S_reads' HO_5.out).2.2 x120_5 p130 q130
                                       cases e130
                                       obtain ⟨ce130, hce130, hMe130, hcc130⟩ := Kd.S_get HO_5.out [] x120_5 p130 (by first | exact q130 | exact of_decide_eq_true z1200 | (have e_ := (Kd.S_reads' HO_5.out).1; omega))
                                       obtain ⟨ve130_0, rfl, ge130_0⟩ := hMe130
                                       have hv130_0 := hcc130 0 _ rfl
                                       rw [Nat.add_zero, show ((Kd.slice 5 (Kd.int .u8))).sz = 1 from rfl, Nat.mul_one] at hv130_0
                                       replace hv130_0 := Option.some.inj (hv130_0.symm.trans hx130_0)
                                       rw [hv130_0] at ge130_0
                                       have HL130_0 := Aside0.mk (show Kd.R (Kd.int .u8) 5 _ _ _ _ (rd_L4 t101 x120_5) from ge130_0)
                                       clear hv130_0 ge130_0
                                       clear hcc130 hce130
                                       have HR130_0 := Aside0.mk hi130_0
                                       have HC130_0 := Aside0.mk hl130_0
                                       clear hi130_0 hl130_0
                                       replace p130 := eq_true p130
                                       replace q130 := eq_true q130
                                       have hcv61 := Kd.C_string (P := Try.prog) (A := A130_0) (c := c130_0) Try.underlying22 Try.underlying5 Try.underlying9 (by repeat (first | (with_reducible exact HR130_0.out) | (with_reducible refine Kd.C_alloc ?_ _) | (with_reducible refine Kd.C_drewN ?_ _) | (with_reducible refine Kd.C_drew ?_) | exact HR130_0.out))
                                       have hcvq62 := fun n_ : Nat => Kd.C_string (P := Try.prog) (A := A130_0) (c := c130_0) Try.underlying22 Try.underlying5 Try.underlying9 (Kd.C_drewN (by repeat (first | (with_reducible exact HR130_0.out) | (with_reducible refine Kd.C_alloc ?_ _) | (with_reducible refine Kd.C_drewN ?_ _) | (with_reducible refine Kd.C_drew ?_) | exact HR130_0.out)) n_)
                                       go_wp2
                                       repeat (go_quiet (fail); try go_wp2)
                                       go_roundg k5
                                       case measure => have := HJ6.out; have := HJ17.out; have := HK3.out; have := HJ45.out; have := HK5.out; omega
                                       case rel => exact ⟨(wrap64 (x120_5 + 1)), z4458, H', ⟨by have := HJ6.out; have := HJ17.out; have := HK3.out; have := HJ45.out; have := HK5.out; omega⟩, ⟨z423e⟩, ⟨by (with_reducible repeat (first | apply Kd.S_alloc | apply Kd.S_drewN | apply Kd.S_drew)); exact HO_15.out⟩, ⟨z5618⟩, ⟨z5acd⟩⟩
                                     · rw [if_neg c58] at H
                                       have c58b0 : ((strOfNums (rd_L4 t124 x120_5)).toList == (strOfNums (rd_L4 t101 x120_5)).toList) = false := beq_eq_false_iff_ne.mpr c58
                                       have c58b1 : ((strOfNums (rd_L4 t124 x120_5)).toList != (strOfNums (rd_L4 t101 x120_5)).toList) = true := bne_iff_ne.mpr c58
                                       obtain rfl := Option.some.inj H
                                       have p129 : 0 ≤ (x120_5 : Int) := of_decide_eq_true z1200
                                       have q129 : x120_5 < (t124.length : Int) := of_decide_eq_true z1200
                                       obtain ⟨ad129, A129_0, c129_0, e129, hx129_0, hl129_0, hi129_0⟩ := at_L4 (Kd.S_reads' HO_15.out).2.2 x120_5 p129 q129
                                       cases e129
                                       obtain ⟨ce129, hce129, hMe129, hcc129⟩ := Kd.S_get HO_15.out [] x120_5 p129 (by first | exact q129 | exact of_decide_eq_true z1200 | (have e_ := (Kd.S_reads' HO_15.out).1; omega))
                                       obtain ⟨ve129_0, rfl, ge129_0⟩ := hMe129
                                       have hv129_0 := hcc129 0 _ rfl
                                       rw [Nat.add_zero, show ((Kd.slice 5 (Kd.int .u8))).sz = 1 from rfl, Nat.mul_one] at hv129_0
                                       replace hv129_0 := Option.some.inj (hv129_0.symm.trans hx129_0)
                                       rw [hv129_0] at ge129_0
                                       have HL129_0 := Aside0.mk (show Kd.R (Kd.int .u8) 5 _ _ _ _ (rd_L4 t124 x120_5) from ge129_0)
                                       clear hv129_0 ge129_0
                                       clear hcc129 hce129
                                       have HR129_0 := Aside0.mk hi129_0
                                       have HC129_0 := Aside0.mk hl129_0
                                       clear hi129_0 hl129_0
                                       replace p129 := eq_true p129
                                       replace q129 := eq_true q129
                                       have hcv63 := Kd.C_string (P := Try.prog) (A := A129_0) (c := c129_0) Try.underlying22 Try.underlying5 Try.underlying9 (by repeat (first | (with_reducible exact HR129_0.out) | (with_reducible refine Kd.C_alloc ?_ _) | (with_reducible refine Kd.C_drewN ?_ _) | (with_reducible refine Kd.C_drew ?_) | exact HR129_0.out))
                                       have hcvq64 := fun n_ : Nat => Kd.C_string (P := Try.prog) (A := A129_0) (c := c129_0) Try.underlying22 Try.underlying5 Try.underlying9 (Kd.C_drewN (by repeat (first | (with_reducible exact HR129_0.out) | (with_reducible refine Kd.C_alloc ?_ _) | (with_reducible refine Kd.C_drewN ?_ _) | (with_reducible refine Kd.C_drew ?_) | exact HR129_0.out)) n_)
                                       have p130 : 0 ≤ (x120_5 : Int) := of_decide_eq_true z1200
                                       have q130 : x120_5 < (t101.length : Int) := of_decide_eq_true z1200
                                       obtain ⟨ad130, A130_0, c130_0, e130, hx130_0, hl130_0, hi130_0⟩ := at_L4 (Kd.S_reads' HO_5.out).2.2 x120_5 p130 q130
                                       cases e130
                                       obtain ⟨ce130, hce130, hMe130, hcc130⟩ := Kd.S_get HO_5.out [] x120_5 p130 (by first | exact q130 | exact of_decide_eq_true z1200 | (have e_ := (Kd.S_reads' HO_5.out).1; omega))
                                       obtain ⟨ve130_0, rfl, ge130_0⟩ := hMe130
                                       have hv130_0 := hcc130 0 _ rfl
                                       rw [Nat.add_zero, show ((Kd.slice 5 (Kd.int .u8))).sz = 1 from rfl, Nat.mul_one] at hv130_0
                                       replace hv130_0 := Option.some.inj (hv130_0.symm.trans hx130_0)
                                       rw [hv130_0] at ge130_0
                                       have HL130_0 := Aside0.mk (show Kd.R (Kd.int .u8) 5 _ _ _ _ (rd_L4 t101 x120_5) from ge130_0)
                                       clear hv130_0 ge130_0
                                       clear hcc130 hce130
                                       have HR130_0 := Aside0.mk hi130_0
                                       have HC130_0 := Aside0.mk hl130_0
                                       clear hi130_0 hl130_0
                                       replace p130 := eq_true p130
                                       replace q130 := eq_true q130
                                       have hcv65 := Kd.C_string (P := Try.prog) (A := A130_0) (c := c130_0) Try.underlying22 Try.underlying5 Try.underlying9 (by repeat (first | (with_reducible exact HR130_0.out) | (with_reducible refine Kd.C_alloc ?_ _) | (with_reducible refine Kd.C_drewN ?_ _) | (with_reducible refine Kd.C_drew ?_) | exact HR130_0.out))
                                       have hcvq66 := fun n_ : Nat => Kd.C_string (P := Try.prog) (A := A130_0) (c := c130_0) Try.underlying22 Try.underlying5 Try.underlying9 (Kd.C_drewN (by repeat (first | (with_reducible exact HR130_0.out) | (with_reducible refine Kd.C_alloc ?_ _) | (with_reducible refine Kd.C_drewN ?_ _) | (with_reducible refine Kd.C_drew ?_) | exact HR130_0.out)) n_)
                                       go_wp2
                                       repeat (go_quiet (fail); try go_wp2)
                                       go_ret
                                       exact ⟨by first | rfl | (simp [errW_none, errW_some] <;> rfl) | (simp only [← hji42]; first | rfl | (simp [errW_none, errW_some] <;> rfl)) | (simp [*, errW_none, errW_some] <;> rfl), z5acd⟩
                                   · rw [if_neg c57] at H
                                     exact absurd H (by simp)
                                 · rw [if_neg c56] at H
                                   exact absurd H (by simp)
                               · rw [if_neg c55] at H
                                 exact absurd H (by simp)
                             · rw [if_neg c54] at H
                               have c54b0 : decide (x120_5 < (t124.length : Int)) = false := decide_eq_false c54
                               clear c54
                               obtain rfl := Option.some.inj H
                               go_wp2
                               repeat (go_quiet (fail); try go_wp2)
                               go_ret
                               exact ⟨by first | rfl | (simp [errW_none, errW_some] <;> rfl) | (simp only [← hji42]; first | rfl | (simp [errW_none, errW_some] <;> rfl)) | (simp [*, errW_none, errW_some] <;> rfl), z5acd⟩
                     · rw [if_neg c44] at H
                       exact absurd H (by simp)
                   · rw [if_neg c43] at H
                     exact absurd H (by simp)
       · replace c16 := Bool.eq_false_iff.mpr c16
         subst c16
         have H1 : (some ((t104.length : Int) == 0)) = some r := by rw [if_neg (show ¬ (false = true) by decide)] at H; exact H
         clear H
         have H := H1
         clear H1
         obtain rfl := Option.some.inj H
         obtain ⟨Ao67, co67, eo67⟩ := Kd.R_slice HO_6.out
         subst eo67
         go_wp2
         repeat (go_quiet (fail); try go_wp2)
         go_ret
         exact ⟨z674d, z5acd⟩

/-- THE ONE PURE STATEMENT of laws_FnLogs: yours. -/
def laws_FnLogs.Pure : Prop := ∀ (l0 : List Int) (l1 : List Int), l0.length ≤ maxLen → l0.length * 1 ≤ 140737488351232 → (∀ x ∈ l0, (Lit.int .u8 x).wf = true) → l1.length ≤ maxLen → l1.length * 1 ≤ 140737488351232 → (∀ x ∈ l1, (Lit.int .u8 x).wf = true) → ∃ k, laws_FnLogs.f k l0 l1 = some true
theorem laws_FnLogs.walk (P : laws_FnLogs.Pure) (a0 : Option Addr) (len0 cap0 : Nat) (z0 : List Int) (a1 : Option Addr) (len1 cap1 : Nat) (z1 : List Int) (w : World) (w0 : (a0 = none ∧ len0 = 0 ∧ cap0 = 0 ∧ z0 = []) ∨ ∃ x, a0 = some x ∧ len0 ≤ cap0 ∧ cap0 ≤ maxLen ∧ z0.length = cap0 ∧ (∀ i, i < z0.length → w.cell? (x.add i) = some (.int .u8 (z0.getD i 0))) ∧ ∀ n ∈ z0, (Lit.int .u8 n).wf = true) (y0 : len0 * 1 ≤ 140737488351232) (w1 : (a1 = none ∧ len1 = 0 ∧ cap1 = 0 ∧ z1 = []) ∨ ∃ x, a1 = some x ∧ len1 ≤ cap1 ∧ cap1 ≤ maxLen ∧ z1.length = cap1 ∧ (∀ i, i < z1.length → w.cell? (x.add i) = some (.int .u8 (z1.getD i 0))) ∧ ∀ n ∈ z1, (Lit.int .u8 n).wf = true) (y1 : len1 * 1 ≤ 140737488351232) :
 Calls Try.prog 5 #[.slice a0 len0 cap0, .slice a1 len1 cap1] w fun e w' => e = .returned (.bool true) ∧ Below w.heap.size w w' := by
 obtain ⟨l0, rfl, hr0, hm0, hw0, hc0⟩ := ReadsInt.ofRowC w0
 obtain ⟨l1, rfl, hr1, hm1, hw1, hc1⟩ := ReadsInt.ofRowC w1
 obtain ⟨k, h⟩ := P l0 l1 hm0 y0 hw0 hm1 y1 hw1
 refine (laws_FnLogs.calls k _ _ l0 _ _ l1 true w (Kd.C_of_reads (d := (0 : Int)) (h1 := fun _ => rfl) hr0) hc0 (Kd.C_of_reads (d := (0 : Int)) (h1 := fun _ => rfl) hr1) hc1 h).mono ?_
 rintro e w' ⟨rfl, hd⟩
 exact ⟨rfl, hd⟩

end Go.Proofs.Ythliooccgclbjaa.P

namespace Go.Proofs.Ythliooccgclbjaa.Lem
open Go.RowKit Go.Proofs.YthliooccgclbjaaW.PrintWords Go.Proofs.YthliooccgclbjaaW.PrintLast Go.Proofs.YthliooccgclbjaaW.PrintMore

theorem w64 {x : Int} (h0 : -9223372036854775808 ≤ x) (h1 : x < 9223372036854775808) : wrap64 x = x := by
  unfold wrap64; omega
theorem wu64 {x : Int} (h0 : 0 ≤ x) (h1 : x < 18446744073709551616) : IntKind.u64.wrap x = x := by
  rw [IntKind.wrap_u64]; omega
theorem wu64_lo (x : Int) : 0 ≤ IntKind.u64.wrap x := by rw [IntKind.wrap_u64]; omega
theorem wu64_hi (x : Int) : IntKind.u64.wrap x < 18446744073709551616 := by rw [IntKind.wrap_u64]; omega

/-- A list of bytes. -/
def Bytes (l : List Int) : Prop := ∀ x ∈ l, 0 ≤ x ∧ x < 256

theorem Bytes.of_wf {l : List Int} (h : ∀ x ∈ l, (Lit.int .u8 x).wf = true) : Bytes l := by
  intro x hx
  have := h x hx
  simp [Lit.wf, IntKind.min, IntKind.max, IntKind.signed, IntKind.bits] at this
  omega
theorem Bytes.append {a b : List Int} (ha : Bytes a) (hb : Bytes b) : Bytes (a ++ b) := by
  intro x hx
  rcases List.mem_append.1 hx with h | h
  · exact ha x h
  · exact hb x h
theorem Bytes.nil : Bytes [] := fun x hx => by simp at hx
theorem Bytes.cons {x : Int} {l : List Int} (h0 : 0 ≤ x) (h1 : x < 256) (hl : Bytes l) : Bytes (x :: l) := by
  intro y hy
  rcases List.mem_cons.1 hy with rfl | h
  · exact ⟨h0, h1⟩
  · exact hl y h
theorem Bytes.rd {l : List Int} (h : Bytes l) (i : Int) : 0 ≤ rd l i ∧ rd l i < 256 := by
  unfold Go.Proofs.YthliooccgclbjaaW.PrintWords.rd
  rcases Nat.lt_or_ge i.toNat l.length with hl | hl
  · rw [List.getD_eq_getElem?_getD, List.getElem?_eq_getElem hl]
    exact h _ (List.getElem_mem hl)
  · rw [List.getD_eq_getElem?_getD, List.getElem?_eq_none hl]
    simp
theorem Bytes.take {l : List Int} (h : Bytes l) (n : Nat) : Bytes (l.take n) := fun x hx => h x (List.mem_of_mem_take hx)
theorem Bytes.drop {l : List Int} (h : Bytes l) (n : Nat) : Bytes (l.drop n) := fun x hx => h x (List.mem_of_mem_drop hx)

theorem and255 {x : Int} (h0 : 0 ≤ x) (h1 : x < 18446744073709551616) : 0 ≤ Go.bits .and .u64 x 255 ∧ Go.bits .and .u64 x 255 < 256 := by
  rw [u64_and x 255 h0 h1 (by decide) (by decide)]
  have : x.toNat &&& (255 : Int).toNat ≤ (255 : Int).toNat := Nat.and_le_right
  have e : (255 : Int).toNat = 255 := rfl
  omega

theorem shr_lo {k : IntKind} {x y : Int} (h : 0 ≤ x) : 0 ≤ shr k x y := by
  unfold shr
  exact Int.ediv_nonneg h (Int.le_of_lt (Int.pow_pos (by decide)))
theorem shr_hi {k : IntKind} {x y B : Int} (h : 0 ≤ x) (h1 : x < B) : shr k x y < B := by
  unfold shr
  have : x / 2 ^ min y.toNat k.bits ≤ x := Int.ediv_le_self _ h
  omega

end Go.Proofs.Ythliooccgclbjaa.Lem
