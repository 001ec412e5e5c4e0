/- Part 6 of the walks and words that FE uses. No conditions of its own. -/
import Derived.Laws.BitsAllLaws
import Derived.Lib.SlTrimSet
import Derived.Lib.SlicesCompact
import Derived.Test.YtdkokfnnebdppaaMFE5
set_option maxHeartbeats 8000000
set_option maxRecDepth 100000
namespace Go.Proofs.Ytdkokfnnebdppaa.P
open Go.RowKit Go.Proofs.YtdkokfnnebdppaaW.PrintWords Go.Proofs.YtdkokfnnebdppaaW.PrintLast Go.Proofs.YtdkokfnnebdppaaW.PrintMore
attribute [local go_sem] max2_int min2_int max_two min_two max_three min_three max_four min_four str_geq str_gtr str_leq
set_option linter.unusedVariables false
set_option linter.unusedSimpArgs false
mutual
def impl_TowerPath.j0 : Nat → List ByteArray → List Int → ByteArray → Bool → Option (List Int × Int × Bool)
 | 0, _, _, _, _ => none
 | k + 1, x0, x1, x2, x25 => if x25 = true then (some (([] : List Int), 0, false)) else (impl_TowerPath.l0 k x0 x1 x2 x0 (x0.length : Int) 0)
def impl_TowerPath.l0 : Nat → List ByteArray → List Int → ByteArray → List ByteArray → Int → Int → Option (List Int × Int × Bool)
 | 0, _, _, _, _, _, _ => none
 | k + 1, x0, x1, x2, x26, x27, x28 => if x28 < x27 then (if 0 ≤ x28 then (if x28 < (x26.length : Int) then ((impl_isKeyText.f (rdOf ByteArray.empty x26 x28)).bind fun t102 => (if t102 = true then (if x28 > 0 then (if 0 ≤ (wrap64 (x28 - 1)) then (if (wrap64 (x28 - 1)) < (x0.length : Int) then (if ((Op.bytesLess ((rdOf ByteArray.empty x0 (wrap64 (x28 - 1))).toList) ((rdOf ByteArray.empty x26 x28).toList)) = true) then (if x28 < (x1.length : Int) then ((impl_within.f (rd x1 x28) 1 6).bind fun t105 => (if t105 = true then (impl_TowerPath.l0 k x0 x1 x2 x26 x27 (wrap64 (x28 + 1))) else (some (([] : List Int), 0, false)))) else (none)) else (some (([] : List Int), 0, false))) else (none)) else (none)) else (if x28 < (x1.length : Int) then ((impl_within.f (rd x1 x28) 1 6).bind fun t107 => (if t107 = true then (impl_TowerPath.l0 k x0 x1 x2 x26 x27 (wrap64 (x28 + 1))) else (some (([] : List Int), 0, false)))) else (none))) else (some (([] : List Int), 0, false)))) else (none)) else (none)) else (impl_TowerPath.l1 k x0 x1 x2 (([] : List Int)) 0 6)
def impl_TowerPath.l1 : Nat → List ByteArray → List Int → ByteArray → List Int → Int → Int → Option (List Int × Int × Bool)
 | 0, _, _, _, _, _, _ => none
 | k + 1, x0, x1, x2, x11, x12, x13 => if x13 ≥ 1 then (impl_TowerPath.l2 k x0 x1 x2 x11 x12 x13 x12) else (impl_TowerPath.l3 k x0 x2 x11 0)
def impl_TowerPath.l2 : Nat → List ByteArray → List Int → ByteArray → List Int → Int → Int → Int → Option (List Int × Int × Bool)
 | 0, _, _, _, _, _, _, _ => none
 | k + 1, x0, x1, x2, x11, x12, x13, x14 => if x14 < (x0.length : Int) then (if 0 ≤ x14 then (if x14 < (x1.length : Int) then (if (rd x1 x14) < x13 then (impl_TowerPath.l2 k x0 x1 x2 x11 x12 x13 (wrap64 (x14 + 1))) else (if ((Op.bytesLess ((rdOf ByteArray.empty x0 x14).toList) x2.toList) = true) then (if x11.length < 17592186044416 then (impl_TowerPath.l2 k x0 x1 x2 (x11 ++ [x14]) (wrap64 (x14 + 1)) x13 (wrap64 (x14 + 1))) else (none)) else (impl_TowerPath.l1 k x0 x1 x2 x11 x12 (wrap64 (x13 - 1))))) else (none)) else (none)) else (impl_TowerPath.l1 k x0 x1 x2 x11 x12 (wrap64 (x13 - 1)))
def impl_TowerPath.l3 : Nat → List ByteArray → ByteArray → List Int → Int → Option (List Int × Int × Bool)
 | 0, _, _, _, _ => none
 | k + 1, x0, x2, x11, x15 => if x15 < (x0.length : Int) then (if 0 ≤ x15 then (if (Op.bytesLess ((rdOf ByteArray.empty x0 x15).toList) x2.toList) = true then (impl_TowerPath.l3 k x0 x2 x11 (wrap64 (x15 + 1))) else (some (x11, x15, true))) else (none)) else (some (x11, x15, true))
end
def impl_TowerPath.f (k : Nat) (l0 : List ByteArray) (l1 : List Int) (a2 : ByteArray) : Option (List Int × Int × Bool) := if (l0.length : Int) > 30 then (impl_TowerPath.j0 k l0 l1 a2 true) else (impl_TowerPath.j0 k l0 l1 a2 ((l1.length : Int) != (l0.length : Int)))
theorem impl_TowerPath.mono_l : ∀ k, (∀ y0 y1 y2 y3, LeO (impl_TowerPath.j0 k y0 y1 y2 y3) (impl_TowerPath.j0 (k + 1) y0 y1 y2 y3)) ∧ (∀ y0 y1 y2 y3 y4 y5, LeO (impl_TowerPath.l0 k y0 y1 y2 y3 y4 y5) (impl_TowerPath.l0 (k + 1) y0 y1 y2 y3 y4 y5)) ∧ (∀ y0 y1 y2 y3 y4 y5, LeO (impl_TowerPath.l1 k y0 y1 y2 y3 y4 y5) (impl_TowerPath.l1 (k + 1) y0 y1 y2 y3 y4 y5)) ∧ (∀ y0 y1 y2 y3 y4 y5 y6, LeO (impl_TowerPath.l2 k y0 y1 y2 y3 y4 y5 y6) (impl_TowerPath.l2 (k + 1) y0 y1 y2 y3 y4 y5 y6)) ∧ (∀ y0 y1 y2 y3, LeO (impl_TowerPath.l3 k y0 y1 y2 y3) (impl_TowerPath.l3 (k + 1) y0 y1 y2 y3))
 | 0 => ⟨fun _ _ _ _ r h => by simp [impl_TowerPath.j0] at h, fun _ _ _ _ _ _ r h => by simp [impl_TowerPath.l0] at h, fun _ _ _ _ _ _ r h => by simp [impl_TowerPath.l1] at h, fun _ _ _ _ _ _ _ r h => by simp [impl_TowerPath.l2] at h, fun _ _ _ _ r h => by simp [impl_TowerPath.l3] at h⟩
 | k + 1 => by
  obtain ⟨ih0, ih1, ih2, ih3, ih4⟩ := impl_TowerPath.mono_l k
  refine ⟨?_, ?_, ?_, ?_, ?_⟩
  · intro y0 y1 y2 y3
    unfold impl_TowerPath.j0
    exact moZ
  · intro y0 y1 y2 y3 y4 y5
    unfold impl_TowerPath.l0
    exact moZ
  · intro y0 y1 y2 y3 y4 y5
    unfold impl_TowerPath.l1
    exact moZ
  · intro y0 y1 y2 y3 y4 y5 y6
    unfold impl_TowerPath.l2
    exact moZ
  · intro y0 y1 y2 y3
    unfold impl_TowerPath.l3
    exact moZ
theorem impl_TowerPath.mono : ∀ a0 a1 a2 k, LeO (impl_TowerPath.f k a0 a1 a2) (impl_TowerPath.f (k + 1) a0 a1 a2) := by
 intro a0 a1 a2 k
 obtain ⟨ih0, ih1, ih2, ih3, ih4⟩ := impl_TowerPath.mono_l k
 unfold impl_TowerPath.f
 exact moZ
theorem impl_TowerPath.calls (k : Nat) (A0 : Option Addr) (c0 : Nat) (l0 : List ByteArray) (A1 : Option Addr) (c1 : Nat) (l1 : List Int) (a2 : ByteArray) (r1 : List Int) (r2 : Int) (r3 : Bool) (w : World) (hr0 : Kd.C Kd.string w A0 l0.length l0) (hc0 : l0.length ≤ c0) (hr1 : Kd.C (Kd.int .i64) w A1 l1.length l1) (hc1 : l1.length ≤ c1) (h : impl_TowerPath.f k l0 l1 a2 = some (r1, r2, r3)) :
 Calls Try.prog 30 #[.slice A0 l0.length c0, .slice A1 l1.length c1, .string a2] w fun e w' => ∃ v0_ : Value, e = .returned (.tuple #[v0_, .int .i64 r2, .bool r3]) ∧ Kd.R (Kd.int .i64) 3 w' w.heap.size (fun _ => True) v0_ r1 ∧ Below w.heap.size w w' := by
 have HR0 := aM hr0
 have HC0 := aM hc0
 clear hr0 hc0
 have HR1 := aM hr1
 have HC1 := aM hc1
 clear hr1 hc1
 have HB := aM (Below.refl w.heap.size w)
 have H : (if (l0.length : Int) > 30 then (impl_TowerPath.j0 k l0 l1 a2 true) else (impl_TowerPath.j0 k l0 l1 a2 ((l1.length : Int) != (l0.length : Int)))) = some (r1, r2, r3) := h
 clear h
 have HC4 := aM H
 clear H
 go_enter Try.func30, Try.ntmps30
 go_upto_region 1 with (fail)
 go_cut [25] (fun v25 wc => ∃ (kq : Nat) (x25_3 : Bool), v25 = .bool x25_3 ∧ Aside0 (impl_TowerPath.j0 kq l0 l1 a2 x25_3 = some (r1, r2, r3)) ∧ Aside0 (kq ≤ k) ∧ Aside0 (Below w.heap.size w wc))
 case first =>
  have H := HC4.out
  clear HC4
  by_cases c5 : (l0.length : Int) > 30
  · rw [if_pos c5] at H
    have c5b0 : decide (30 < (l0.length : Int)) = true := decide_eq_true c5
    have c5b1 : decide (30 < l0.length) = true := decide_eq_true (by omega)
    clear c5
    (first | rw [c5b0] | (simp only [i64_w, i32_w]; rw [c5b0]) | skip)
    have H' := aM H
    clear H
    go_wp2
    go_meet
    case rel => exact ⟨_, (true), z4458, H', ⟨zb79b⟩, ⟨z5acd⟩⟩
  · rw [if_neg c5] at H
    have c5b0 : decide (30 < (l0.length : Int)) = false := decide_eq_false c5
    have c5b1 : decide (30 < l0.length) = false := decide_eq_false (by omega)
    clear c5
    (first | rw [c5b0] | (simp only [i64_w, i32_w]; rw [c5b0]) | skip)
    have H' := aM H
    clear H
    go_wp2
    go_meet
    case rel => exact ⟨_, (((l1.length : Int) != (l0.length : Int))), z4458, H', ⟨zb79b⟩, ⟨z5acd⟩⟩
 case rest =>
  clear HC4
  (try clear c1)
  obtain ⟨kq, x25_3, rfl, HA, HJ3, HB⟩ := hcut
  cases kq with
  | zero => exact absurd HA.out (by simp [impl_TowerPath.j0])
  | succ kj3 =>
   have H := HA.out
   clear HA
   simp only [impl_TowerPath.j0] at H
   by_cases c6 : x25_3 = true
   · subst c6
     rw [if_pos rfl] at H
     simp only [Option.some.injEq, Prod.mk.injEq] at H
     obtain ⟨rfl, rfl, rfl⟩ := H
     go_wp2
     go_ret3
     exact ⟨_, z674d, z02fa, z5acd⟩
   · replace c6 := Bool.eq_false_iff.mpr c6
     subst c6
     rw [if_neg (show ¬ (false = true) by decide)] at H
     have H' := aM H
     clear H
     go_wp2
     go_loopg [28] kj3 (fun kq v28 w' => ∃ (x28_2 : Int), v28 = .int .i64 x28_2 ∧ Aside0 (impl_TowerPath.l0 kq l0 l1 a2 l0 (l0.length : Int) x28_2 = some (r1, r2, r3)) ∧ Aside0 (kq ≤ kj3) ∧ Aside0 (Below w.heap.size w w'))
     case atStart => exact ⟨(0), z4458, H', ⟨Nat.le_refl _⟩, ⟨z5acd⟩⟩
     case round =>
      clear H'
      (try clear c6)
      obtain ⟨x28_2, rfl, HA, HK2, HB⟩ := hrel
      cases gk with
      | zero => exact absurd HA.out (by simp [impl_TowerPath.l0])
      | succ k2 =>
       have H := HA.out
       clear HA
       simp only [impl_TowerPath.l0] at H
       by_cases c7 : x28_2 < (l0.length : Int)
       · rw [if_pos c7] at H
         have c7b0 := dL c7
         clear c7
         obtain ⟨c8b0, H⟩ := sE H
         obtain ⟨c9b0, H⟩ := sL H
         obtain ⟨t102, A10, H⟩ := bS H; try dsimp only at H
         by_cases c11 : t102 = true
         · subst c11
           rw [if_pos rfl] at H
           by_cases c12 : x28_2 > 0
           · rw [if_pos c12] at H
             have c12b0 := dL c12
             clear c12
             obtain ⟨ji13, hji13⟩ : ∃ j_ : Int, (wrap64 (x28_2 - 1)) = j_ := ⟨_, rfl⟩
             replace H : (if 0 ≤ (ji13) then (if (ji13) < (l0.length : Int) then (if ((Op.bytesLess ((rdOf ByteArray.empty l0 (ji13)).toList) ((rdOf ByteArray.empty l0 x28_2).toList)) = true) then (if x28_2 < (l1.length : Int) then ((impl_within.f (rd l1 x28_2) 1 6).bind fun t105 => (if t105 = true then (impl_TowerPath.l0 k2 l0 l1 a2 l0 (l0.length : Int) (wrap64 (x28_2 + 1))) else (some (([] : List Int), 0, false)))) else (none)) else (some (([] : List Int), 0, false))) else (none)) else (none)) = some (r1, r2, r3) := by first | (rw [hji13] at H; exact H) | (simp only [hji13] at H ⊢; exact H)
             (try rw [hji13] at A10)
             have hji13w : (IntKind.i64.wrap (x28_2 - 1)) = ji13 := (i64_w _).trans hji13
             obtain ⟨c14b0, H⟩ := sE H
             obtain ⟨c15b0, H⟩ := sL H
             by_cases c16 : ((Op.bytesLess ((rdOf ByteArray.empty l0 (ji13)).toList) ((rdOf ByteArray.empty l0 x28_2).toList)) = true)
             · rw [if_pos c16] at H
               have c16b0 : (Op.bytesLess ((rdOf ByteArray.empty l0 (ji13)).toList) ((rdOf ByteArray.empty l0 x28_2).toList)) = true := c16
               clear c16
               obtain ⟨c17b0, H⟩ := sL H
               obtain ⟨t105, A18, H⟩ := bS H; try dsimp only at H
               by_cases c19 : t105 = true
               · subst c19
                 rw [if_pos rfl] at H
                 have H' := aM H
                 clear H
                 have p101 : 0 ≤ (x28_2 : Int) := of_decide_eq_true z1200
                 have q101 : x28_2 < (l0.length : Int) := of_decide_eq_true z1200
                 obtain ⟨ad101, e101, hx101_0⟩ := Kd.at_string HR0.out x28_2 p101 q101
                 cases e101
                 replace hx101_0 := (HB.out.cell (World.block_lt_of_cell? w _ hx101_0)).trans hx101_0
                 replace p101 := eq_true p101
                 replace q101 := eq_true q101
                 go_wp2_with (first | ((with_reducible refine gate_callee (f := 62) rfl ?_); refine gL 34 Try.func62 #[.string (rdOf ByteArray.empty l0 x28_2)] ?_; (with_reducible refine (impl_isKeyText.calls (rdOf ByteArray.empty l0 x28_2) true _ A10.out).mono ?_); rintro e w' ⟨rfl, ⟨nd, rfl⟩⟩; refine ⟨_, rfl, ?_⟩; have p103 : 0 ≤ ((ji13) : Int) := of_decide_eq_true z1200; have q103 : (ji13) < (l0.length : Int) := of_decide_eq_true z1200; obtain ⟨ad103, e103, hx103_0⟩ := Kd.at_string HR0.out (ji13) p103 q103; obtain rfl : ad101 = ad103 := (by injection e103); replace hx103_0 := (HB.out.cell (World.block_lt_of_cell? w _ hx103_0)).trans hx103_0; replace p103 := eq_true p103; replace q103 := eq_true q103; have p104 : 0 ≤ (x28_2 : Int) := of_decide_eq_true z1200; have q104 : x28_2 < (l1.length : Int) := of_decide_eq_true z1200; obtain ⟨ad104, e104, hx104_0⟩ := Kd.at_int HR1.out x28_2 p104 q104; cases e104; replace hx104_0 := (HB.out.cell (World.block_lt_of_cell? w _ hx104_0)).trans hx104_0; replace p104 := eq_true p104; replace q104 := eq_true q104) | (go_at_call 63; (with_reducible refine (impl_within.calls (rd l1 x28_2) 1 6 true _ A18.out).mono ?_); rintro e w' ⟨rfl, ⟨nd, rfl⟩⟩))
                 go_roundg k2
                 case measure => have := HJ3.out; have := HK2.out; omega
                 case rel => exact ⟨(wrap64 (x28_2 + 1)), z4458, H', ⟨by have := HJ3.out; have := HK2.out; omega⟩, ⟨z5acd⟩⟩
               · replace c19 := Bool.eq_false_iff.mpr c19
                 subst c19
                 rw [if_neg (show ¬ (false = true) by decide)] at H
                 simp only [Option.some.injEq, Prod.mk.injEq] at H
                 obtain ⟨rfl, rfl, rfl⟩ := H
                 have p101 : 0 ≤ (x28_2 : Int) := of_decide_eq_true z1200
                 have q101 : x28_2 < (l0.length : Int) := of_decide_eq_true z1200
                 obtain ⟨ad101, e101, hx101_0⟩ := Kd.at_string HR0.out x28_2 p101 q101
                 cases e101
                 replace hx101_0 := (HB.out.cell (World.block_lt_of_cell? w _ hx101_0)).trans hx101_0
                 replace p101 := eq_true p101
                 replace q101 := eq_true q101
                 go_wp2_with (first | ((with_reducible refine gate_callee (f := 62) rfl ?_); refine gL 34 Try.func62 #[.string (rdOf ByteArray.empty l0 x28_2)] ?_; (with_reducible refine (impl_isKeyText.calls (rdOf ByteArray.empty l0 x28_2) true _ A10.out).mono ?_); rintro e w' ⟨rfl, ⟨nd, rfl⟩⟩; refine ⟨_, rfl, ?_⟩; have p103 : 0 ≤ ((ji13) : Int) := of_decide_eq_true z1200; have q103 : (ji13) < (l0.length : Int) := of_decide_eq_true z1200; obtain ⟨ad103, e103, hx103_0⟩ := Kd.at_string HR0.out (ji13) p103 q103; obtain rfl : ad101 = ad103 := (by injection e103); replace hx103_0 := (HB.out.cell (World.block_lt_of_cell? w _ hx103_0)).trans hx103_0; replace p103 := eq_true p103; replace q103 := eq_true q103; have p104 : 0 ≤ (x28_2 : Int) := of_decide_eq_true z1200; have q104 : x28_2 < (l1.length : Int) := of_decide_eq_true z1200; obtain ⟨ad104, e104, hx104_0⟩ := Kd.at_int HR1.out x28_2 p104 q104; cases e104; replace hx104_0 := (HB.out.cell (World.block_lt_of_cell? w _ hx104_0)).trans hx104_0; replace p104 := eq_true p104; replace q104 := eq_true q104) | (go_at_call 63; (with_reducible refine (impl_within.calls (rd l1 x28_2) 1 6 false _ A18.out).mono ?_); rintro e w' ⟨rfl, ⟨nd, rfl⟩⟩))
                 go_ret3
                 exact ⟨_, by first | rfl | (simp [errW_none, errW_some] <;> rfl) | (simp only [← hji13]; first | rfl | (simp [errW_none, errW_some] <;> rfl)) | (simp [*, errW_none, errW_some] <;> rfl), z02fa, z5acd⟩
             · rw [if_neg c16] at H
               have c16b0 : (Op.bytesLess ((rdOf ByteArray.empty l0 (ji13)).toList) ((rdOf ByteArray.empty l0 x28_2).toList)) = false := by simpa using c16
               clear c16
               simp only [Option.some.injEq, Prod.mk.injEq] at H
               obtain ⟨rfl, rfl, rfl⟩ := H
               have p101 : 0 ≤ (x28_2 : Int) := of_decide_eq_true z1200
               have q101 : x28_2 < (l0.length : Int) := of_decide_eq_true z1200
               obtain ⟨ad101, e101, hx101_0⟩ := Kd.at_string HR0.out x28_2 p101 q101
               cases e101
               replace hx101_0 := (HB.out.cell (World.block_lt_of_cell? w _ hx101_0)).trans hx101_0
               replace p101 := eq_true p101
               replace q101 := eq_true q101
               go_wp2_with (first | ((with_reducible refine gate_callee (f := 62) rfl ?_); refine gL 34 Try.func62 #[.string (rdOf ByteArray.empty l0 x28_2)] ?_; (with_reducible refine (impl_isKeyText.calls (rdOf ByteArray.empty l0 x28_2) true _ A10.out).mono ?_); rintro e w' ⟨rfl, ⟨nd, rfl⟩⟩; refine ⟨_, rfl, ?_⟩; have p103 : 0 ≤ ((ji13) : Int) := of_decide_eq_true z1200; have q103 : (ji13) < (l0.length : Int) := of_decide_eq_true z1200; obtain ⟨ad103, e103, hx103_0⟩ := Kd.at_string HR0.out (ji13) p103 q103; obtain rfl : ad101 = ad103 := (by injection e103); replace hx103_0 := (HB.out.cell (World.block_lt_of_cell? w _ hx103_0)).trans hx103_0; replace p103 := eq_true p103; replace q103 := eq_true q103))
               go_ret3
               exact ⟨_, by first | rfl | (simp [errW_none, errW_some] <;> rfl) | (simp only [← hji13]; first | rfl | (simp [errW_none, errW_some] <;> rfl)) | (simp [*, errW_none, errW_some] <;> rfl), z02fa, z5acd⟩
           · rw [if_neg c12] at H
             have c12b0 := nL c12
             clear c12
             obtain ⟨c20b0, H⟩ := sL H
             obtain ⟨t107, A21, H⟩ := bS H; try dsimp only at H
             by_cases c22 : t107 = true
             · subst c22
               rw [if_pos rfl] at H
               have H' := aM H
               clear H
               have p101 : 0 ≤ (x28_2 : Int) := of_decide_eq_true z1200
               have q101 : x28_2 < (l0.length : Int) := of_decide_eq_true z1200
               obtain ⟨ad101, e101, hx101_0⟩ := Kd.at_string HR0.out x28_2 p101 q101
               cases e101
               replace hx101_0 := (HB.out.cell (World.block_lt_of_cell? w _ hx101_0)).trans hx101_0
               replace p101 := eq_true p101
               replace q101 := eq_true q101
               go_wp2_with (first | ((with_reducible refine gate_callee (f := 62) rfl ?_); refine gL 34 Try.func62 #[.string (rdOf ByteArray.empty l0 x28_2)] ?_; (with_reducible refine (impl_isKeyText.calls (rdOf ByteArray.empty l0 x28_2) true _ A10.out).mono ?_); rintro e w' ⟨rfl, ⟨nd, rfl⟩⟩; refine ⟨_, rfl, ?_⟩; have p106 : 0 ≤ (x28_2 : Int) := of_decide_eq_true z1200; have q106 : x28_2 < (l1.length : Int) := of_decide_eq_true z1200; obtain ⟨ad106, e106, hx106_0⟩ := Kd.at_int HR1.out x28_2 p106 q106; cases e106; replace hx106_0 := (HB.out.cell (World.block_lt_of_cell? w _ hx106_0)).trans hx106_0; replace p106 := eq_true p106; replace q106 := eq_true q106) | (go_at_call 63; (with_reducible refine (impl_within.calls (rd l1 x28_2) 1 6 true _ A21.out).mono ?_); rintro e w' ⟨rfl, ⟨nd, rfl⟩⟩))
               go_roundg k2
               case measure => have := HJ3.out; have := HK2.out; omega
               case rel => exact ⟨(wrap64 (x28_2 + 1)), z4458, H', ⟨by have := HJ3.out; have := HK2.out; omega⟩, ⟨z5acd⟩⟩
             · replace c22 := Bool.eq_false_iff.mpr c22
               subst c22
               rw [if_neg (show ¬ (false = true) by decide)] at H
               simp only [Option.some.injEq, Prod.mk.injEq] at H
               obtain ⟨rfl, rfl, rfl⟩ := H
               have p101 : 0 ≤ (x28_2 : Int) := of_decide_eq_true z1200
               have q101 : x28_2 < (l0.length : Int) := of_decide_eq_true z1200
               obtain ⟨ad101, e101, hx101_0⟩ := Kd.at_string HR0.out x28_2 p101 q101
               cases e101
               replace hx101_0 := (HB.out.cell (World.block_lt_of_cell? w _ hx101_0)).trans hx101_0
               replace p101 := eq_true p101
               replace q101 := eq_true q101
               go_wp2_with (first | ((with_reducible refine gate_callee (f := 62) rfl ?_); refine gL 34 Try.func62 #[.string (rdOf ByteArray.empty l0 x28_2)] ?_; (with_reducible refine (impl_isKeyText.calls (rdOf ByteArray.empty l0 x28_2) true _ A10.out).mono ?_); rintro e w' ⟨rfl, ⟨nd, rfl⟩⟩; refine ⟨_, rfl, ?_⟩; have p106 : 0 ≤ (x28_2 : Int) := of_decide_eq_true z1200; have q106 : x28_2 < (l1.length : Int) := of_decide_eq_true z1200; obtain ⟨ad106, e106, hx106_0⟩ := Kd.at_int HR1.out x28_2 p106 q106; cases e106; replace hx106_0 := (HB.out.cell (World.block_lt_of_cell? w _ hx106_0)).trans hx106_0; replace p106 := eq_true p106; replace q106 := eq_true q106) | (go_at_call 63; (with_reducible refine (impl_within.calls (rd l1 x28_2) 1 6 false _ A21.out).mono ?_); rintro e w' ⟨rfl, ⟨nd, rfl⟩⟩))
               go_ret3
               exact ⟨_, z674d, z02fa, z5acd⟩
         · replace c11 := Bool.eq_false_iff.mpr c11
           subst c11
           rw [if_neg (show ¬ (false = true) by decide)] at H
           simp only [Option.some.injEq, Prod.mk.injEq] at H
           obtain ⟨rfl, rfl, rfl⟩ := H
           have p101 : 0 ≤ (x28_2 : Int) := of_decide_eq_true z1200
           have q101 : x28_2 < (l0.length : Int) := of_decide_eq_true z1200
           obtain ⟨ad101, e101, hx101_0⟩ := Kd.at_string HR0.out x28_2 p101 q101
           cases e101
           replace hx101_0 := (HB.out.cell (World.block_lt_of_cell? w _ hx101_0)).trans hx101_0
           replace p101 := eq_true p101
           replace q101 := eq_true q101
           go_wp2_with (first | ((with_reducible refine gate_callee (f := 62) rfl ?_); refine gL 34 Try.func62 #[.string (rdOf ByteArray.empty l0 x28_2)] ?_; (with_reducible refine (impl_isKeyText.calls (rdOf ByteArray.empty l0 x28_2) false _ A10.out).mono ?_); rintro e w' ⟨rfl, ⟨nd, rfl⟩⟩; refine ⟨_, rfl, ?_⟩))
           go_ret3
           exact ⟨_, z674d, z02fa, z5acd⟩
       · rw [if_neg c7] at H
         have c7b0 := nL c7
         clear c7
         obtain ⟨y108, hy108⟩ : ∃ y_ : List Int, y_ = (([] : List Int)) := ⟨_, rfl⟩
         first | (replace H := bindS H; rw [← hy108] at H; try dsimp only at H) | rw [← hy108] at H
         have Ny108 := aM hy108
         clear hy108
         have H' := aM H
         clear H
         go_wp2_with (first | ((with_reducible refine gate_dst (N := 58) rfl ?_); (try (refine gate_guard (by rfl) ?_; dsimp only)); refine Kd.R_lit (Kd.int .i64) _ 3 ?hg (N := 58) ?hd (xs := ([] : List Int)) (inner := []) (ok := fun _ => True) (okp := fun _ => True) ?hr ?hp (fun _ hk => hk) trivial (Below.refl _ _) (Nat.le_refl _) (by simp) ?_; (case hd => rfl); (case hg => rfl); (case hr => first | (go_simp; done) | (go_simp; rfl)); (case hp => exact (Reps.none _ _)); intro v109 w23 ho24 hb hg_ hnew_; clear hg_ hnew_; (first | rw [← Ny108.out] at ho24 | (simp only [Int.reduceToNat] at ho24; rw [← Ny108.out] at ho24)); have _ := aM (Kd.R_lower ho24 (below_size hbZ)); have _ := aM (below_step hbZ hb); clear HB; rename_i HO110 HB; clear hb ho24))
         go_loopg [11, 12, 13] k2 (fun kq v11 v12 v13 w' => ∃ (x11_3 : List Int) (x12_3 : Int) (x13_3 : Int), v12 = .int .i64 x12_3 ∧ v13 = .int .i64 x13_3 ∧ Aside0 (impl_TowerPath.l1 kq l0 l1 a2 x11_3 x12_3 x13_3 = some (r1, r2, r3)) ∧ Aside0 (kq ≤ k2) ∧ Aside0 (Kd.R (Kd.int .i64) 3 w' w.heap.size (fun _ => True) v11 x11_3) ∧ Aside0 (Below w.heap.size w w'))
         case atStart => exact ⟨(y108), (0), (6), z4458, z4458, H', ⟨Nat.le_refl _⟩, ⟨rZ HO110.out⟩, ⟨z5acd⟩⟩
         case round =>
          clear H'
          (try clear c7b0)
          obtain ⟨x11_3, x12_3, x13_3, rfl, rfl, HA, HK3, HO_11, HB⟩ := hrel
          cases gk with
          | zero => exact absurd HA.out (by simp [impl_TowerPath.l1])
          | succ k3 =>
           have H := HA.out
           clear HA
           simp only [impl_TowerPath.l1] at H
           by_cases c25 : x13_3 ≥ 1
           · rw [if_pos c25] at H
             have c25b0 := dE c25
             clear c25
             have H' := aM H
             clear H
             go_wp2
             go_loopg [11, 12, 14] k3 (fun kq v11 v12 v14 w' => ∃ (x11_4 : List Int) (x12_4 : Int) (x14_4 : Int), v12 = .int .i64 x12_4 ∧ v14 = .int .i64 x14_4 ∧ Aside0 (impl_TowerPath.l2 kq l0 l1 a2 x11_4 x12_4 x13_3 x14_4 = some (r1, r2, r3)) ∧ Aside0 (kq ≤ k3) ∧ Aside0 (Kd.R (Kd.int .i64) 3 w' w.heap.size (fun _ => True) v11 x11_4) ∧ Aside0 (Below w.heap.size w w'))
             case atStart => exact ⟨(x11_3), (x12_3), (x12_3), z4458, z4458, H', ⟨Nat.le_refl _⟩, ⟨rZ HO_11.out⟩, ⟨z5acd⟩⟩
             case round =>
              clear H'
              (try clear c25b0)
              obtain ⟨x11_4, x12_4, x14_4, rfl, rfl, HA, HK4, HO_11, HB⟩ := hrel
              cases gk with
              | zero => exact absurd HA.out (by simp [impl_TowerPath.l2])
              | succ k4 =>
               have H := HA.out
               clear HA
               simp only [impl_TowerPath.l2] at H
               by_cases c26 : x14_4 < (l0.length : Int)
               · rw [if_pos c26] at H
                 have c26b0 := dL c26
                 clear c26
                 obtain ⟨c27b0, H⟩ := sE H
                 obtain ⟨c28b0, H⟩ := sL H
                 by_cases c29 : (rd l1 x14_4) < x13_3
                 · rw [if_pos c29] at H
                   have c29b0 := dL c29
                   clear c29
                   have H' := aM H
                   clear H
                   have p111 : 0 ≤ (x14_4 : Int) := of_decide_eq_true z1200
                   have q111 : x14_4 < (l1.length : Int) := of_decide_eq_true z1200
                   obtain ⟨ad111, e111, hx111_0⟩ := Kd.at_int HR1.out x14_4 p111 q111
                   cases e111
                   replace hx111_0 := (HB.out.cell (World.block_lt_of_cell? w _ hx111_0)).trans hx111_0
                   replace p111 := eq_true p111
                   replace q111 := eq_true q111
                   go_wp2
                   go_roundg k4
                   case measure => have := HJ3.out; have := HK2.out; have := HK3.out; have := HK4.out; omega
                   case rel => exact ⟨(x11_4), (x12_4), (wrap64 (x14_4 + 1)), z4458, z4458, H', ⟨z002d⟩, ⟨rZ HO_11.out⟩, ⟨z5acd⟩⟩
                 · rw [if_neg c29] at H
                   have c29b0 := nL c29
                   clear c29
                   by_cases c30 : ((Op.bytesLess ((rdOf ByteArray.empty l0 x14_4).toList) a2.toList) = true)
                   · rw [if_pos c30] at H
                     have c30b0 : (Op.bytesLess ((rdOf ByteArray.empty l0 x14_4).toList) a2.toList) = true := c30
                     clear c30
                     obtain ⟨LMc31, H⟩ := sM H
                     obtain ⟨y113, hy113⟩ : ∃ y_ : List Int, y_ = (x11_4 ++ [x14_4]) := ⟨_, rfl⟩
                     first | (replace H := bindS H; rw [← hy113] at H; try dsimp only at H) | rw [← hy113] at H
                     have Ny113 := aM hy113
                     clear hy113
                     have H' := aM H
                     clear H
                     have p111 : 0 ≤ (x14_4 : Int) := of_decide_eq_true z1200
                     have q111 : x14_4 < (l1.length : Int) := of_decide_eq_true z1200
                     obtain ⟨ad111, e111, hx111_0⟩ := Kd.at_int HR1.out x14_4 p111 q111
                     cases e111
                     replace hx111_0 := (HB.out.cell (World.block_lt_of_cell? w _ hx111_0)).trans hx111_0
                     replace p111 := eq_true p111
                     replace q111 := eq_true q111
                     have p112 : 0 ≤ (x14_4 : Int) := of_decide_eq_true z1200
                     have q112 : x14_4 < (l0.length : Int) := of_decide_eq_true z1200
                     obtain ⟨ad112, e112, hx112_0⟩ := Kd.at_string HR0.out x14_4 p112 q112
                     cases e112
                     replace hx112_0 := (HB.out.cell (World.block_lt_of_cell? w _ hx112_0)).trans hx112_0
                     replace p112 := eq_true p112
                     replace q112 := eq_true q112
                     go_wp2_with (first | ((with_reducible refine gate_builtin (b := .append) (xs := #[.tmp 82, .tmp 84]) rfl ?_); (try (refine gate_guard (by rfl) ?_; dsimp only)); at_builtin; refine Kd.R_append (Kd.int .i64) (w0 := w) w.heap.size rfl (.tmp 82) (.tmp 84) 24 3 (.int .i64 0) 8 rfl Try.underlying24 info3 rfl (by decide) (by omega) u11 x11_4 x14_4 [.int .i64 x14_4] (fun _ => True) (fun _ => False) rfl rfl ?aP (fun _ hk => hk.elim) ?aF ?aO ?aB ?aS ?aL ?_; (case aP => exact rfl); (case aB => exact hbZ); (case aF => exact (fun _ _ => trivial)); (case aO => exact (rZ HO_11.out)); (case aS => exact (below_size hbZ)); (case aL => have := LMc31.out; omega); intro v114 w32 ho hb hg hat; rw [← Ny113.out] at ho; have _ := aM hb; have _ := aM ho; clear HB HO_11; rename_i HB HO115; clear ho hb hg hat))
                     go_roundg k4
                     case measure => have := HJ3.out; have := HK2.out; have := HK3.out; have := HK4.out; omega
                     case rel => exact ⟨(y113), (wrap64 (x14_4 + 1)), (wrap64 (x14_4 + 1)), z4458, z4458, H', ⟨z002d⟩, ⟨rZ HO115.out⟩, ⟨z5acd⟩⟩
                   · rw [if_neg c30] at H
                     have c30b0 : (Op.bytesLess ((rdOf ByteArray.empty l0 x14_4).toList) a2.toList) = false := by simpa using c30
                     clear c30
                     have H' := aM H
                     clear H
                     have p111 : 0 ≤ (x14_4 : Int) := of_decide_eq_true z1200
                     have q111 : x14_4 < (l1.length : Int) := of_decide_eq_true z1200
                     obtain ⟨ad111, e111, hx111_0⟩ := Kd.at_int HR1.out x14_4 p111 q111
                     cases e111
                     replace hx111_0 := (HB.out.cell (World.block_lt_of_cell? w _ hx111_0)).trans hx111_0
                     replace p111 := eq_true p111
                     replace q111 := eq_true q111
                     have p112 : 0 ≤ (x14_4 : Int) := of_decide_eq_true z1200
                     have q112 : x14_4 < (l0.length : Int) := of_decide_eq_true z1200
                     obtain ⟨ad112, e112, hx112_0⟩ := Kd.at_string HR0.out x14_4 p112 q112
                     cases e112
                     replace hx112_0 := (HB.out.cell (World.block_lt_of_cell? w _ hx112_0)).trans hx112_0
                     replace p112 := eq_true p112
                     replace q112 := eq_true q112
                     go_wp2
                     go_roundg k4
                     case measure => have := HJ3.out; have := HK2.out; have := HK3.out; have := HK4.out; omega
                     case rel => exact ⟨(x11_4), (x12_4), (wrap64 (x13_3 - 1)), z4458, z4458, H', ⟨z002d⟩, ⟨rZ HO_11.out⟩, ⟨z5acd⟩⟩
               · rw [if_neg c26] at H
                 have c26b0 := nL c26
                 clear c26
                 have H' := aM H
                 clear H
                 go_wp2
                 go_roundg k4
                 case measure => have := HJ3.out; have := HK2.out; have := HK3.out; have := HK4.out; omega
                 case rel => exact ⟨(x11_4), (x12_4), (wrap64 (x13_3 - 1)), z4458, z4458, H', ⟨z002d⟩, ⟨rZ HO_11.out⟩, ⟨z5acd⟩⟩
           · rw [if_neg c25] at H
             have c25b0 := nE c25
             clear c25
             have H' := aM H
             clear H
             go_wp2
             go_loopg [15] k3 (fun kq v15 w' => ∃ (x15_4 : Int), v15 = .int .i64 x15_4 ∧ Aside0 (impl_TowerPath.l3 kq l0 a2 x11_3 x15_4 = some (r1, r2, r3)) ∧ Aside0 (kq ≤ k3) ∧ Aside0 (Kd.R (Kd.int .i64) 3 w' w.heap.size (fun _ => True) u11 x11_3) ∧ Aside0 (Below w.heap.size w w'))
             case atStart => exact ⟨(0), z4458, H', ⟨Nat.le_refl _⟩, ⟨rZ HO_11.out⟩, ⟨z5acd⟩⟩
             case round =>
              clear H'
              (try clear c25b0)
              obtain ⟨x15_4, rfl, HA, HK4, HO_11, HB⟩ := hrel
              cases gk with
              | zero => exact absurd HA.out (by simp [impl_TowerPath.l3])
              | succ k4 =>
               have H := HA.out
               clear HA
               simp only [impl_TowerPath.l3] at H
               by_cases c33 : x15_4 < (l0.length : Int)
               · rw [if_pos c33] at H
                 have c33b0 := dL c33
                 clear c33
                 obtain ⟨c34b0, H⟩ := sE H
                 by_cases c35 : (Op.bytesLess ((rdOf ByteArray.empty l0 x15_4).toList) a2.toList) = true
                 · rw [if_pos c35] at H
                   have c35b0 : (Op.bytesLess ((rdOf ByteArray.empty l0 x15_4).toList) a2.toList) = true := c35
                   clear c35
                   have H' := aM H
                   clear H
                   have p116 : 0 ≤ (x15_4 : Int) := of_decide_eq_true z1200
                   have q116 : x15_4 < (l0.length : Int) := of_decide_eq_true z1200
                   obtain ⟨ad116, e116, hx116_0⟩ := Kd.at_string HR0.out x15_4 p116 q116
                   cases e116
                   replace hx116_0 := (HB.out.cell (World.block_lt_of_cell? w _ hx116_0)).trans hx116_0
                   replace p116 := eq_true p116
                   replace q116 := eq_true q116
                   go_wp2
                   go_roundg k4
                   case measure => have := HJ3.out; have := HK2.out; have := HK3.out; have := HK4.out; omega
                   case rel => exact ⟨(wrap64 (x15_4 + 1)), z4458, H', ⟨z002d⟩, ⟨rZ HO_11.out⟩, ⟨z5acd⟩⟩
                 · rw [if_neg c35] at H
                   have c35b0 : (Op.bytesLess ((rdOf ByteArray.empty l0 x15_4).toList) a2.toList) = false := by simpa using c35
                   clear c35
                   simp only [Option.some.injEq, Prod.mk.injEq] at H
                   obtain ⟨rfl, rfl, rfl⟩ := H
                   have p116 : 0 ≤ (x15_4 : Int) := of_decide_eq_true z1200
                   have q116 : x15_4 < (l0.length : Int) := of_decide_eq_true z1200
                   obtain ⟨ad116, e116, hx116_0⟩ := Kd.at_string HR0.out x15_4 p116 q116
                   cases e116
                   replace hx116_0 := (HB.out.cell (World.block_lt_of_cell? w _ hx116_0)).trans hx116_0
                   replace p116 := eq_true p116
                   replace q116 := eq_true q116
                   go_wp2
                   go_ret3
                   exact ⟨_, z674d, rZ HO_11.out, z5acd⟩
               · rw [if_neg c33] at H
                 have c33b0 := nL c33
                 clear c33
                 simp only [Option.some.injEq, Prod.mk.injEq] at H
                 obtain ⟨rfl, rfl, rfl⟩ := H
                 go_wp2
                 go_ret3
                 exact ⟨_, z674d, rZ HO_11.out, z5acd⟩
mutual
def spec_TowerPath.j0 : Nat → List ByteArray → List Int → ByteArray → Bool → Option (List Int × Int × Bool)
 | 0, _, _, _, _ => none
 | k + 1, x0, x1, x2, x24 => if x24 = true then (some (([] : List Int), 0, false)) else (spec_TowerPath.l0 k x0 x1 x2 x0 (x0.length : Int) 0)
def spec_TowerPath.l0 : Nat → List ByteArray → List Int → ByteArray → List ByteArray → Int → Int → Option (List Int × Int × Bool)
 | 0, _, _, _, _, _, _ => none
 | k + 1, x0, x1, x2, x25, x26, x27 => if x27 < x26 then (if 0 ≤ x27 then (if x27 < (x25.length : Int) then ((spec_l1In.f ((rdOf ByteArray.empty x25 x27).size : Int) 1 140).bind fun t102 => (if t102 = true then (if x27 < (x1.length : Int) then ((spec_l1In.f (rd x1 x27) 1 6).bind fun t104 => (if t104 = true then (if x27 > 0 then (if 0 ≤ (wrap64 (x27 - 1)) then (if (wrap64 (x27 - 1)) < (x0.length : Int) then (if ((Op.bytesLess ((rdOf ByteArray.empty x0 (wrap64 (x27 - 1))).toList) ((rdOf ByteArray.empty x25 x27).toList)) = true) then (spec_TowerPath.l0 k x0 x1 x2 x25 x26 (wrap64 (x27 + 1))) else (some (([] : List Int), 0, false))) else (none)) else (none)) else (spec_TowerPath.l0 k x0 x1 x2 x25 x26 (wrap64 (x27 + 1)))) else (some (([] : List Int), 0, false)))) else (none)) else (some (([] : List Int), 0, false)))) else (none)) else (none)) else (spec_TowerPath.l1 k x0 x1 x2 ([] : List Int) (-1) 6)
def spec_TowerPath.l1 : Nat → List ByteArray → List Int → ByteArray → List Int → Int → Int → Option (List Int × Int × Bool)
 | 0, _, _, _, _, _, _ => none
 | k + 1, x0, x1, x2, x11, x12, x13 => if x13 > 0 then (spec_TowerPath.l2 k x0 x1 x2 x11 x12 x13) else (some (x11, wrap64 (x12 + 1), true))
def spec_TowerPath.l2 : Nat → List ByteArray → List Int → ByteArray → List Int → Int → Int → Option (List Int × Int × Bool)
 | 0, _, _, _, _, _, _ => none
 | k + 1, x0, x1, x2, x11, x12, x13 => spec_TowerPath.l3 k x0 x1 x2 x11 x12 x13 (wrap64 (x12 + 1))
def spec_TowerPath.l3 : Nat → List ByteArray → List Int → ByteArray → List Int → Int → Int → Int → Option (List Int × Int × Bool)
 | 0, _, _, _, _, _, _, _ => none
 | k + 1, x0, x1, x2, x11, x12, x13, x14 => if x14 < (x0.length : Int) then (if 0 ≤ x14 then (if x14 < (x1.length : Int) then (if (rd x1 x14) < x13 then (spec_TowerPath.l3 k x0 x1 x2 x11 x12 x13 (wrap64 (x14 + 1))) else (if x14 = (x0.length : Int) then (spec_TowerPath.l1 k x0 x1 x2 x11 x12 (wrap64 (x13 - 1))) else (if ((Op.bytesLess ((rdOf ByteArray.empty x0 x14).toList) x2.toList) = true) then (if x11.length < 17592186044416 then (spec_TowerPath.l2 k x0 x1 x2 (x11 ++ [x14]) x14 x13) else (none)) else (spec_TowerPath.l1 k x0 x1 x2 x11 x12 (wrap64 (x13 - 1)))))) else (none)) else (none)) else (if x14 = (x0.length : Int) then (spec_TowerPath.l1 k x0 x1 x2 x11 x12 (wrap64 (x13 - 1))) else (if 0 ≤ x14 then (none) else (none)))
end
def spec_TowerPath.f (k : Nat) (l0 : List ByteArray) (l1 : List Int) (a2 : ByteArray) : Option (List Int × Int × Bool) := if (l0.length : Int) > 30 then (spec_TowerPath.j0 k l0 l1 a2 true) else (spec_TowerPath.j0 k l0 l1 a2 ((l1.length : Int) != (l0.length : Int)))
theorem spec_TowerPath.mono_l : ∀ k, (∀ y0 y1 y2 y3, LeO (spec_TowerPath.j0 k y0 y1 y2 y3) (spec_TowerPath.j0 (k + 1) y0 y1 y2 y3)) ∧ (∀ y0 y1 y2 y3 y4 y5, LeO (spec_TowerPath.l0 k y0 y1 y2 y3 y4 y5) (spec_TowerPath.l0 (k + 1) y0 y1 y2 y3 y4 y5)) ∧ (∀ y0 y1 y2 y3 y4 y5, LeO (spec_TowerPath.l1 k y0 y1 y2 y3 y4 y5) (spec_TowerPath.l1 (k + 1) y0 y1 y2 y3 y4 y5)) ∧ (∀ y0 y1 y2 y3 y4 y5, LeO (spec_TowerPath.l2 k y0 y1 y2 y3 y4 y5) (spec_TowerPath.l2 (k + 1) y0 y1 y2 y3 y4 y5)) ∧ (∀ y0 y1 y2 y3 y4 y5 y6, LeO (spec_TowerPath.l3 k y0 y1 y2 y3 y4 y5 y6) (spec_TowerPath.l3 (k + 1) y0 y1 y2 y3 y4 y5 y6))
 | 0 => ⟨fun _ _ _ _ r h => by simp [spec_TowerPath.j0] at h, fun _ _ _ _ _ _ r h => by simp [spec_TowerPath.l0] at h, fun _ _ _ _ _ _ r h => by simp [spec_TowerPath.l1] at h, fun _ _ _ _ _ _ r h => by simp [spec_TowerPath.l2] at h, fun _ _ _ _ _ _ _ r h => by simp [spec_TowerPath.l3] at h⟩
 | k + 1 => by
  obtain ⟨ih0, ih1, ih2, ih3, ih4⟩ := spec_TowerPath.mono_l k
  refine ⟨?_, ?_, ?_, ?_, ?_⟩
  · intro y0 y1 y2 y3
    unfold spec_TowerPath.j0
    exact moZ
  · intro y0 y1 y2 y3 y4 y5
    unfold spec_TowerPath.l0
    exact moZ
  · intro y0 y1 y2 y3 y4 y5
    unfold spec_TowerPath.l1
    exact moZ
  · intro y0 y1 y2 y3 y4 y5
    unfold spec_TowerPath.l2
    exact moZ
  · intro y0 y1 y2 y3 y4 y5 y6
    unfold spec_TowerPath.l3
    exact moZ
theorem spec_TowerPath.mono : ∀ a0 a1 a2 k, LeO (spec_TowerPath.f k a0 a1 a2) (spec_TowerPath.f (k + 1) a0 a1 a2) := by
 intro a0 a1 a2 k
 obtain ⟨ih0, ih1, ih2, ih3, ih4⟩ := spec_TowerPath.mono_l k
 unfold spec_TowerPath.f
 exact moZ
theorem spec_TowerPath.calls (k : Nat) (A0 : Option Addr) (c0 : Nat) (l0 : List ByteArray) (A1 : Option Addr) (c1 : Nat) (l1 : List Int) (a2 : ByteArray) (r1 : List Int) (r2 : Int) (r3 : Bool) (w : World) (hr0 : Kd.C Kd.string w A0 l0.length l0) (hc0 : l0.length ≤ c0) (hr1 : Kd.C (Kd.int .i64) w A1 l1.length l1) (hc1 : l1.length ≤ c1) (h : spec_TowerPath.f k l0 l1 a2 = some (r1, r2, r3)) :
 Calls Try.prog 31 #[.slice A0 l0.length c0, .slice A1 l1.length c1, .string a2] w fun e w' => ∃ v0_ : Value, e = .returned (.tuple #[v0_, .int .i64 r2, .bool r3]) ∧ Kd.R (Kd.int .i64) 3 w' w.heap.size (fun _ => True) v0_ r1 ∧ Below w.heap.size w w' := by
 have HR0 := aM hr0
 have HC0 := aM hc0
 clear hr0 hc0
 have HR1 := aM hr1
 have HC1 := aM hc1
 clear hr1 hc1
 have HB := aM (Below.refl w.heap.size w)
 have H : (if (l0.length : Int) > 30 then (spec_TowerPath.j0 k l0 l1 a2 true) else (spec_TowerPath.j0 k l0 l1 a2 ((l1.length : Int) != (l0.length : Int)))) = some (r1, r2, r3) := h
 clear h
 have HC4 := aM H
 clear H
 go_enter Try.func31, Try.ntmps31
 go_upto_region 1 with (fail)
 go_cut [24] (fun v24 wc => ∃ (kq : Nat) (x24_3 : Bool), v24 = .bool x24_3 ∧ Aside0 (spec_TowerPath.j0 kq l0 l1 a2 x24_3 = some (r1, r2, r3)) ∧ Aside0 (kq ≤ k) ∧ Aside0 (Below w.heap.size w wc))
 case first =>
  have H := HC4.out
  clear HC4
  by_cases c5 : (l0.length : Int) > 30
  · rw [if_pos c5] at H
    have c5b0 : decide (30 < (l0.length : Int)) = true := decide_eq_true c5
    have c5b1 : decide (30 < l0.length) = true := decide_eq_true (by omega)
    clear c5
    (first | rw [c5b0] | (simp only [i64_w, i32_w]; rw [c5b0]) | skip)
    have H' := aM H
    clear H
    go_wp2
    go_meet
    case rel => exact ⟨_, (true), z4458, H', ⟨zb79b⟩, ⟨z5acd⟩⟩
  · rw [if_neg c5] at H
    have c5b0 : decide (30 < (l0.length : Int)) = false := decide_eq_false c5
    have c5b1 : decide (30 < l0.length) = false := decide_eq_false (by omega)
    clear c5
    (first | rw [c5b0] | (simp only [i64_w, i32_w]; rw [c5b0]) | skip)
    have H' := aM H
    clear H
    go_wp2
    go_meet
    case rel => exact ⟨_, (((l1.length : Int) != (l0.length : Int))), z4458, H', ⟨zb79b⟩, ⟨z5acd⟩⟩
 case rest =>
  clear HC4
  (try clear c1)
  obtain ⟨kq, x24_3, rfl, HA, HJ3, HB⟩ := hcut
  cases kq with
  | zero => exact absurd HA.out (by simp [spec_TowerPath.j0])
  | succ kj3 =>
   have H := HA.out
   clear HA
   simp only [spec_TowerPath.j0] at H
   by_cases c6 : x24_3 = true
   · subst c6
     rw [if_pos rfl] at H
     simp only [Option.some.injEq, Prod.mk.injEq] at H
     obtain ⟨rfl, rfl, rfl⟩ := H
     go_wp2
     go_ret3
     exact ⟨_, z674d, z02fa, z5acd⟩
   · replace c6 := Bool.eq_false_iff.mpr c6
     subst c6
     rw [if_neg (show ¬ (false = true) by decide)] at H
     have H' := aM H
     clear H
     go_wp2
     go_loopg [27] kj3 (fun kq v27 w' => ∃ (x27_2 : Int), v27 = .int .i64 x27_2 ∧ Aside0 (spec_TowerPath.l0 kq l0 l1 a2 l0 (l0.length : Int) x27_2 = some (r1, r2, r3)) ∧ Aside0 (kq ≤ kj3) ∧ Aside0 (Below w.heap.size w w'))
     case atStart => exact ⟨(0), z4458, H', ⟨Nat.le_refl _⟩, ⟨z5acd⟩⟩
     case round =>
      clear H'
      (try clear c6)
      obtain ⟨x27_2, rfl, HA, HK2, HB⟩ := hrel
      cases gk with
      | zero => exact absurd HA.out (by simp [spec_TowerPath.l0])
      | succ k2 =>
       have H := HA.out
       clear HA
       simp only [spec_TowerPath.l0] at H
       by_cases c7 : x27_2 < (l0.length : Int)
       · rw [if_pos c7] at H
         have c7b0 := dL c7
         clear c7
         obtain ⟨c8b0, H⟩ := sE H
         obtain ⟨c9b0, H⟩ := sL H
         obtain ⟨t102, A10, H⟩ := bS H; try dsimp only at H
         by_cases c11 : t102 = true
         · subst c11
           rw [if_pos rfl] at H
           obtain ⟨c12b0, H⟩ := sL H
           obtain ⟨t104, A13, H⟩ := bS H; try dsimp only at H
           by_cases c14 : t104 = true
           · subst c14
             rw [if_pos rfl] at H
             by_cases c15 : x27_2 > 0
             · rw [if_pos c15] at H
               have c15b0 := dL c15
               clear c15
               obtain ⟨ji16, hji16⟩ : ∃ j_ : Int, (wrap64 (x27_2 - 1)) = j_ := ⟨_, rfl⟩
               replace H : (if 0 ≤ (ji16) then (if (ji16) < (l0.length : Int) then (if ((Op.bytesLess ((rdOf ByteArray.empty l0 (ji16)).toList) ((rdOf ByteArray.empty l0 x27_2).toList)) = true) then (spec_TowerPath.l0 k2 l0 l1 a2 l0 (l0.length : Int) (wrap64 (x27_2 + 1))) else (some (([] : List Int), 0, false))) else (none)) else (none)) = some (r1, r2, r3) := by first | (rw [hji16] at H; exact H) | (simp only [hji16] at H ⊢; exact H)
               (try rw [hji16] at A10)
               (try rw [hji16] at A13)
               have hji16w : (IntKind.i64.wrap (x27_2 - 1)) = ji16 := (i64_w _).trans hji16
               obtain ⟨c17b0, H⟩ := sE H
               obtain ⟨c18b0, H⟩ := sL H
               by_cases c19 : ((Op.bytesLess ((rdOf ByteArray.empty l0 (ji16)).toList) ((rdOf ByteArray.empty l0 x27_2).toList)) = true)
               · rw [if_pos c19] at H
                 have c19b0 : (Op.bytesLess ((rdOf ByteArray.empty l0 (ji16)).toList) ((rdOf ByteArray.empty l0 x27_2).toList)) = true := c19
                 clear c19
                 have H' := aM H
                 clear H
                 have p101 : 0 ≤ (x27_2 : Int) := of_decide_eq_true z1200
                 have q101 : x27_2 < (l0.length : Int) := of_decide_eq_true z1200
                 obtain ⟨ad101, e101, hx101_0⟩ := Kd.at_string HR0.out x27_2 p101 q101
                 cases e101
                 replace hx101_0 := (HB.out.cell (World.block_lt_of_cell? w _ hx101_0)).trans hx101_0
                 replace p101 := eq_true p101
                 replace q101 := eq_true q101
                 go_wp2_with (first | ((with_reducible refine gate_callee (f := 64) rfl ?_); refine gL 34 Try.func64 #[.int .i64 ((rdOf ByteArray.empty l0 x27_2).size : Int), .int .i64 1, .int .i64 140] ?_; (with_reducible refine (spec_l1In.calls ((rdOf ByteArray.empty l0 x27_2).size : Int) 1 140 true _ A10.out).mono ?_); rintro e w' ⟨rfl, ⟨nd, rfl⟩⟩; refine ⟨_, rfl, ?_⟩; have p103 : 0 ≤ (x27_2 : Int) := of_decide_eq_true z1200; have q103 : x27_2 < (l1.length : Int) := of_decide_eq_true z1200; obtain ⟨ad103, e103, hx103_0⟩ := Kd.at_int HR1.out x27_2 p103 q103; cases e103; replace hx103_0 := (HB.out.cell (World.block_lt_of_cell? w _ hx103_0)).trans hx103_0; replace p103 := eq_true p103; replace q103 := eq_true q103) | (go_at_call 64; (with_reducible refine (spec_l1In.calls (rd l1 x27_2) 1 6 true _ A13.out).mono ?_); rintro e w' ⟨rfl, ⟨nd, rfl⟩⟩; have p105 : 0 ≤ ((ji16) : Int) := of_decide_eq_true z1200; have q105 : (ji16) < (l0.length : Int) := of_decide_eq_true z1200; obtain ⟨ad105, e105, hx105_0⟩ := Kd.at_string HR0.out (ji16) p105 q105; obtain rfl : ad101 = ad105 := (by injection e105); replace hx105_0 := (HB.out.cell (World.block_lt_of_cell? w _ hx105_0)).trans hx105_0; replace p105 := eq_true p105; replace q105 := eq_true q105))
                 go_roundg k2
                 case measure => have := HJ3.out; have := HK2.out; omega
                 case rel => exact ⟨(wrap64 (x27_2 + 1)), z4458, H', ⟨by have := HJ3.out; have := HK2.out; omega⟩, ⟨z5acd⟩⟩
               · rw [if_neg c19] at H
                 have c19b0 : (Op.bytesLess ((rdOf ByteArray.empty l0 (ji16)).toList) ((rdOf ByteArray.empty l0 x27_2).toList)) = false := by simpa using c19
                 clear c19
                 simp only [Option.some.injEq, Prod.mk.injEq] at H
                 obtain ⟨rfl, rfl, rfl⟩ := H
                 have p101 : 0 ≤ (x27_2 : Int) := of_decide_eq_true z1200
                 have q101 : x27_2 < (l0.length : Int) := of_decide_eq_true z1200
                 obtain ⟨ad101, e101, hx101_0⟩ := Kd.at_string HR0.out x27_2 p101 q101
                 cases e101
                 replace hx101_0 := (HB.out.cell (World.block_lt_of_cell? w _ hx101_0)).trans hx101_0
                 replace p101 := eq_true p101
                 replace q101 := eq_true q101
                 go_wp2_with (first | ((with_reducible refine gate_callee (f := 64) rfl ?_); refine gL 34 Try.func64 #[.int .i64 ((rdOf ByteArray.empty l0 x27_2).size : Int), .int .i64 1, .int .i64 140] ?_; (with_reducible refine (spec_l1In.calls ((rdOf ByteArray.empty l0 x27_2).size : Int) 1 140 true _ A10.out).mono ?_); rintro e w' ⟨rfl, ⟨nd, rfl⟩⟩; refine ⟨_, rfl, ?_⟩; have p103 : 0 ≤ (x27_2 : Int) := of_decide_eq_true z1200; have q103 : x27_2 < (l1.length : Int) := of_decide_eq_true z1200; obtain ⟨ad103, e103, hx103_0⟩ := Kd.at_int HR1.out x27_2 p103 q103; cases e103; replace hx103_0 := (HB.out.cell (World.block_lt_of_cell? w _ hx103_0)).trans hx103_0; replace p103 := eq_true p103; replace q103 := eq_true q103) | (go_at_call 64; (with_reducible refine (spec_l1In.calls (rd l1 x27_2) 1 6 true _ A13.out).mono ?_); rintro e w' ⟨rfl, ⟨nd, rfl⟩⟩; have p105 : 0 ≤ ((ji16) : Int) := of_decide_eq_true z1200; have q105 : (ji16) < (l0.length : Int) := of_decide_eq_true z1200; obtain ⟨ad105, e105, hx105_0⟩ := Kd.at_string HR0.out (ji16) p105 q105; obtain rfl : ad101 = ad105 := (by injection e105); replace hx105_0 := (HB.out.cell (World.block_lt_of_cell? w _ hx105_0)).trans hx105_0; replace p105 := eq_true p105; replace q105 := eq_true q105))
                 go_ret3
                 exact ⟨_, by first | rfl | (simp [errW_none, errW_some] <;> rfl) | (simp only [← hji16]; first | rfl | (simp [errW_none, errW_some] <;> rfl)) | (simp [*, errW_none, errW_some] <;> rfl), z02fa, z5acd⟩
             · rw [if_neg c15] at H
               have c15b0 := nL c15
               clear c15
               have H' := aM H
               clear H
               have p101 : 0 ≤ (x27_2 : Int) := of_decide_eq_true z1200
               have q101 : x27_2 < (l0.length : Int) := of_decide_eq_true z1200
               obtain ⟨ad101, e101, hx101_0⟩ := Kd.at_string HR0.out x27_2 p101 q101
               cases e101
               replace hx101_0 := (HB.out.cell (World.block_lt_of_cell? w _ hx101_0)).trans hx101_0
               replace p101 := eq_true p101
               replace q101 := eq_true q101
               go_wp2_with (first | ((with_reducible refine gate_callee (f := 64) rfl ?_); refine gL 34 Try.func64 #[.int .i64 ((rdOf ByteArray.empty l0 x27_2).size : Int), .int .i64 1, .int .i64 140] ?_; (with_reducible refine (spec_l1In.calls ((rdOf ByteArray.empty l0 x27_2).size : Int) 1 140 true _ A10.out).mono ?_); rintro e w' ⟨rfl, ⟨nd, rfl⟩⟩; refine ⟨_, rfl, ?_⟩; have p103 : 0 ≤ (x27_2 : Int) := of_decide_eq_true z1200; have q103 : x27_2 < (l1.length : Int) := of_decide_eq_true z1200; obtain ⟨ad103, e103, hx103_0⟩ := Kd.at_int HR1.out x27_2 p103 q103; cases e103; replace hx103_0 := (HB.out.cell (World.block_lt_of_cell? w _ hx103_0)).trans hx103_0; replace p103 := eq_true p103; replace q103 := eq_true q103) | (go_at_call 64; (with_reducible refine (spec_l1In.calls (rd l1 x27_2) 1 6 true _ A13.out).mono ?_); rintro e w' ⟨rfl, ⟨nd, rfl⟩⟩))
               go_roundg k2
               case measure => have := HJ3.out; have := HK2.out; omega
               case rel => exact ⟨(wrap64 (x27_2 + 1)), z4458, H', ⟨by have := HJ3.out; have := HK2.out; omega⟩, ⟨z5acd⟩⟩
           · replace c14 := Bool.eq_false_iff.mpr c14
             subst c14
             rw [if_neg (show ¬ (false = true) by decide)] at H
             simp only [Option.some.injEq, Prod.mk.injEq] at H
             obtain ⟨rfl, rfl, rfl⟩ := H
             have p101 : 0 ≤ (x27_2 : Int) := of_decide_eq_true z1200
             have q101 : x27_2 < (l0.length : Int) := of_decide_eq_true z1200
             obtain ⟨ad101, e101, hx101_0⟩ := Kd.at_string HR0.out x27_2 p101 q101
             cases e101
             replace hx101_0 := (HB.out.cell (World.block_lt_of_cell? w _ hx101_0)).trans hx101_0
             replace p101 := eq_true p101
             replace q101 := eq_true q101
             go_wp2_with (first | ((with_reducible refine gate_callee (f := 64) rfl ?_); refine gL 34 Try.func64 #[.int .i64 ((rdOf ByteArray.empty l0 x27_2).size : Int), .int .i64 1, .int .i64 140] ?_; (with_reducible refine (spec_l1In.calls ((rdOf ByteArray.empty l0 x27_2).size : Int) 1 140 true _ A10.out).mono ?_); rintro e w' ⟨rfl, ⟨nd, rfl⟩⟩; refine ⟨_, rfl, ?_⟩; have p103 : 0 ≤ (x27_2 : Int) := of_decide_eq_true z1200; have q103 : x27_2 < (l1.length : Int) := of_decide_eq_true z1200; obtain ⟨ad103, e103, hx103_0⟩ := Kd.at_int HR1.out x27_2 p103 q103; cases e103; replace hx103_0 := (HB.out.cell (World.block_lt_of_cell? w _ hx103_0)).trans hx103_0; replace p103 := eq_true p103; replace q103 := eq_true q103) | (go_at_call 64; (with_reducible refine (spec_l1In.calls (rd l1 x27_2) 1 6 false _ A13.out).mono ?_); rintro e w' ⟨rfl, ⟨nd, rfl⟩⟩))
             go_ret3
             exact ⟨_, z674d, z02fa, z5acd⟩
         · replace c11 := Bool.eq_false_iff.mpr c11
           subst c11
           rw [if_neg (show ¬ (false = true) by decide)] at H
           simp only [Option.some.injEq, Prod.mk.injEq] at H
           obtain ⟨rfl, rfl, rfl⟩ := H
           have p101 : 0 ≤ (x27_2 : Int) := of_decide_eq_true z1200
           have q101 : x27_2 < (l0.length : Int) := of_decide_eq_true z1200
           obtain ⟨ad101, e101, hx101_0⟩ := Kd.at_string HR0.out x27_2 p101 q101
           cases e101
           replace hx101_0 := (HB.out.cell (World.block_lt_of_cell? w _ hx101_0)).trans hx101_0
           replace p101 := eq_true p101
           replace q101 := eq_true q101
           go_wp2_with (first | ((with_reducible refine gate_callee (f := 64) rfl ?_); refine gL 34 Try.func64 #[.int .i64 ((rdOf ByteArray.empty l0 x27_2).size : Int), .int .i64 1, .int .i64 140] ?_; (with_reducible refine (spec_l1In.calls ((rdOf ByteArray.empty l0 x27_2).size : Int) 1 140 false _ A10.out).mono ?_); rintro e w' ⟨rfl, ⟨nd, rfl⟩⟩; refine ⟨_, rfl, ?_⟩))
           go_ret3
           exact ⟨_, z674d, z02fa, z5acd⟩
       · rw [if_neg c7] at H
         have c7b0 := nL c7
         clear c7
         have H' := aM H
         clear H
         go_wp2
         go_loopg [11, 12, 13] k2 (fun kq v11 v12 v13 w' => ∃ (x11_3 : List Int) (x12_3 : Int) (x13_3 : Int), v12 = .int .i64 x12_3 ∧ v13 = .int .i64 x13_3 ∧ Aside0 (spec_TowerPath.l1 kq l0 l1 a2 x11_3 x12_3 x13_3 = some (r1, r2, r3)) ∧ Aside0 (kq ≤ k2) ∧ Aside0 (Kd.R (Kd.int .i64) 3 w' w.heap.size (fun _ => True) v11 x11_3) ∧ Aside0 (Below w.heap.size w w'))
         case atStart => exact ⟨(([] : List Int)), ((-1)), (6), z4458, z4458, H', ⟨Nat.le_refl _⟩, ⟨z02fa⟩, ⟨z5acd⟩⟩
         case round =>
          clear H'
          (try clear c7b0)
          obtain ⟨x11_3, x12_3, x13_3, rfl, rfl, HA, HK3, HO_11, HB⟩ := hrel
          cases gk with
          | zero => exact absurd HA.out (by simp [spec_TowerPath.l1])
          | succ k3 =>
           have H := HA.out
           clear HA
           simp only [spec_TowerPath.l1] at H
           by_cases c20 : x13_3 > 0
           · rw [if_pos c20] at H
             have c20b0 := dL c20
             clear c20
             have H' := aM H
             clear H
             go_wp2
             go_loopg [11, 12] k3 (fun kq v11 v12 w' => ∃ (x11_4 : List Int) (x12_4 : Int), v12 = .int .i64 x12_4 ∧ Aside0 (spec_TowerPath.l2 kq l0 l1 a2 x11_4 x12_4 x13_3 = some (r1, r2, r3)) ∧ Aside0 (kq ≤ k3) ∧ Aside0 (Kd.R (Kd.int .i64) 3 w' w.heap.size (fun _ => True) v11 x11_4) ∧ Aside0 (Below w.heap.size w w'))
             case atStart => exact ⟨(x11_3), (x12_3), z4458, H', ⟨Nat.le_refl _⟩, ⟨rZ HO_11.out⟩, ⟨z5acd⟩⟩
             case round =>
              clear H'
              (try clear c20b0)
              obtain ⟨x11_4, x12_4, rfl, HA, HK4, HO_11, HB⟩ := hrel
              cases gk with
              | zero => exact absurd HA.out (by simp [spec_TowerPath.l2])
              | succ k4 =>
               have H := HA.out
               clear HA
               simp only [spec_TowerPath.l2] at H
               have H' := aM H
               clear H
               go_wp2
               go_loopg [14] k4 (fun kq v14 w' => ∃ (x14_5 : Int), v14 = .int .i64 x14_5 ∧ Aside0 (spec_TowerPath.l3 kq l0 l1 a2 x11_4 x12_4 x13_3 x14_5 = some (r1, r2, r3)) ∧ Aside0 (kq ≤ k4) ∧ Aside0 (Kd.R (Kd.int .i64) 3 w' w.heap.size (fun _ => True) u11 x11_4) ∧ Aside0 (Below w.heap.size w w'))
               case atStart => exact ⟨(wrap64 (x12_4 + 1)), z4458, H', ⟨Nat.le_refl _⟩, ⟨rZ HO_11.out⟩, ⟨z5acd⟩⟩
               case round =>
                clear H'
                obtain ⟨x14_5, rfl, HA, HK5, HO_11, HB⟩ := hrel
                cases gk with
                | zero => exact absurd HA.out (by simp [spec_TowerPath.l3])
                | succ k5 =>
                 have H := HA.out
                 clear HA
                 simp only [spec_TowerPath.l3] at H
                 by_cases c21 : x14_5 < (l0.length : Int)
                 · rw [if_pos c21] at H
                   have c21b0 := dL c21
                   clear c21
                   obtain ⟨c22b0, H⟩ := sE H
                   obtain ⟨c23b0, H⟩ := sL H
                   by_cases c24 : (rd l1 x14_5) < x13_3
                   · rw [if_pos c24] at H
                     have c24b0 := dL c24
                     clear c24
                     have H' := aM H
                     clear H
                     have p106 : 0 ≤ (x14_5 : Int) := of_decide_eq_true z1200
                     have q106 : x14_5 < (l1.length : Int) := of_decide_eq_true z1200
                     obtain ⟨ad106, e106, hx106_0⟩ := Kd.at_int HR1.out x14_5 p106 q106
                     cases e106
                     replace hx106_0 := (HB.out.cell (World.block_lt_of_cell? w _ hx106_0)).trans hx106_0
                     replace p106 := eq_true p106
                     replace q106 := eq_true q106
                     go_wp2
                     go_roundg k5
                     case measure => have := HJ3.out; have := HK2.out; have := HK3.out; have := HK4.out; have := HK5.out; omega
                     case rel => exact ⟨(wrap64 (x14_5 + 1)), z4458, H', ⟨z1484⟩, ⟨rZ HO_11.out⟩, ⟨z5acd⟩⟩
                   · rw [if_neg c24] at H
                     have c24b0 := nL c24
                     clear c24
                     by_cases c25 : x14_5 = (l0.length : Int)
                     · rw [if_pos c25] at H
                       have c25b0 : (x14_5 == (l0.length : Int)) = true := beq_iff_eq.mpr c25
                       have c25b1 : (x14_5 != (l0.length : Int)) = false := bne_eq_false_iff_eq.mpr c25
                       clear c25
                       have H' := aM H
                       clear H
                       have p106 : 0 ≤ (x14_5 : Int) := of_decide_eq_true z1200
                       have q106 : x14_5 < (l1.length : Int) := of_decide_eq_true z1200
                       obtain ⟨ad106, e106, hx106_0⟩ := Kd.at_int HR1.out x14_5 p106 q106
                       cases e106
                       replace hx106_0 := (HB.out.cell (World.block_lt_of_cell? w _ hx106_0)).trans hx106_0
                       replace p106 := eq_true p106
                       replace q106 := eq_true q106
                       go_wp2
                       go_roundg k5
                       case measure => have := HJ3.out; have := HK2.out; have := HK3.out; have := HK4.out; have := HK5.out; omega
                       case rel => exact ⟨(x11_4), (x12_4), (wrap64 (x13_3 - 1)), z4458, z4458, H', ⟨z1484⟩, ⟨rZ HO_11.out⟩, ⟨z5acd⟩⟩
                     · rw [if_neg c25] at H
                       have c25b0 := eqN c25
                       by_cases c26 : ((Op.bytesLess ((rdOf ByteArray.empty l0 x14_5).toList) a2.toList) = true)
                       · rw [if_pos c26] at H
                         have c26b0 : (Op.bytesLess ((rdOf ByteArray.empty l0 x14_5).toList) a2.toList) = true := c26
                         clear c26
                         obtain ⟨LMc27, H⟩ := sM H
                         obtain ⟨y108, hy108⟩ : ∃ y_ : List Int, y_ = (x11_4 ++ [x14_5]) := ⟨_, rfl⟩
                         first | (replace H := bindS H; rw [← hy108] at H; try dsimp only at H) | rw [← hy108] at H
                         have Ny108 := aM hy108
                         clear hy108
                         have H' := aM H
                         clear H
                         have p106 : 0 ≤ (x14_5 : Int) := of_decide_eq_true z1200
                         have q106 : x14_5 < (l1.length : Int) := of_decide_eq_true z1200
                         obtain ⟨ad106, e106, hx106_0⟩ := Kd.at_int HR1.out x14_5 p106 q106
                         cases e106
                         replace hx106_0 := (HB.out.cell (World.block_lt_of_cell? w _ hx106_0)).trans hx106_0
                         replace p106 := eq_true p106
                         replace q106 := eq_true q106
                         have p107 : 0 ≤ (x14_5 : Int) := of_decide_eq_true z1200
                         have q107 : x14_5 < (l0.length : Int) := of_decide_eq_true z1200
                         obtain ⟨ad107, e107, hx107_0⟩ := Kd.at_string HR0.out x14_5 p107 q107
                         cases e107
                         replace hx107_0 := (HB.out.cell (World.block_lt_of_cell? w _ hx107_0)).trans hx107_0
                         replace p107 := eq_true p107
                         replace q107 := eq_true q107
                         go_wp2_with (first | ((with_reducible refine gate_builtin (b := .append) (xs := #[.tmp 91, .tmp 93]) rfl ?_); (try (refine gate_guard (by rfl) ?_; dsimp only)); at_builtin; refine Kd.R_append (Kd.int .i64) (w0 := w) w.heap.size rfl (.tmp 91) (.tmp 93) 24 3 (.int .i64 0) 8 rfl Try.underlying24 info3 rfl (by decide) (by omega) u11 x11_4 x14_5 [.int .i64 x14_5] (fun _ => True) (fun _ => False) rfl rfl ?aP (fun _ hk => hk.elim) ?aF ?aO ?aB ?aS ?aL ?_; (case aP => exact rfl); (case aB => exact hbZ); (case aF => exact (fun _ _ => trivial)); (case aO => exact (rZ HO_11.out)); (case aS => exact (below_size hbZ)); (case aL => have := LMc27.out; omega); intro v109 w28 ho hb hg hat; rw [← Ny108.out] at ho; have _ := aM hb; have _ := aM ho; clear HB HO_11; rename_i HB HO110; clear ho hb hg hat))
                         go_roundg k5
                         case measure => have := HJ3.out; have := HK2.out; have := HK3.out; have := HK4.out; have := HK5.out; omega
                         case rel => exact ⟨(y108), (x14_5), z4458, H', ⟨z1484⟩, ⟨rZ HO110.out⟩, ⟨z5acd⟩⟩
                       · rw [if_neg c26] at H
                         have c26b0 : (Op.bytesLess ((rdOf ByteArray.empty l0 x14_5).toList) a2.toList) = false := by simpa using c26
                         clear c26
                         have H' := aM H
                         clear H
                         have p106 : 0 ≤ (x14_5 : Int) := of_decide_eq_true z1200
                         have q106 : x14_5 < (l1.length : Int) := of_decide_eq_true z1200
                         obtain ⟨ad106, e106, hx106_0⟩ := Kd.at_int HR1.out x14_5 p106 q106
                         cases e106
                         replace hx106_0 := (HB.out.cell (World.block_lt_of_cell? w _ hx106_0)).trans hx106_0
                         replace p106 := eq_true p106
                         replace q106 := eq_true q106
                         have p107 : 0 ≤ (x14_5 : Int) := of_decide_eq_true z1200
                         have q107 : x14_5 < (l0.length : Int) := of_decide_eq_true z1200
                         obtain ⟨ad107, e107, hx107_0⟩ := Kd.at_string HR0.out x14_5 p107 q107
                         cases e107
                         replace hx107_0 := (HB.out.cell (World.block_lt_of_cell? w _ hx107_0)).trans hx107_0
                         replace p107 := eq_true p107
                         replace q107 := eq_true q107
                         go_wp2
                         go_roundg k5
                         case measure => have := HJ3.out; have := HK2.out; have := HK3.out; have := HK4.out; have := HK5.out; omega
                         case rel => exact ⟨(x11_4), (x12_4), (wrap64 (x13_3 - 1)), z4458, z4458, H', ⟨z1484⟩, ⟨rZ HO_11.out⟩, ⟨z5acd⟩⟩
                 · rw [if_neg c21] at H
                   have c21b0 := nL c21
                   clear c21
                   by_cases c29 : x14_5 = (l0.length : Int)
                   · rw [if_pos c29] at H
                     have c29b0 : (x14_5 == (l0.length : Int)) = true := beq_iff_eq.mpr c29
                     have c29b1 : (x14_5 != (l0.length : Int)) = false := bne_eq_false_iff_eq.mpr c29
                     clear c29
                     have H' := aM H
                     clear H
                     go_wp2
                     go_roundg k5
                     case measure => have := HJ3.out; have := HK2.out; have := HK3.out; have := HK4.out; have := HK5.out; omega
                     case rel => exact ⟨(x11_4), (x12_4), (wrap64 (x13_3 - 1)), z4458, z4458, H', ⟨z1484⟩, ⟨rZ HO_11.out⟩, ⟨z5acd⟩⟩
                   · rw [if_neg c29] at H
                     have c29b0 := eqN c29
                     replace H := ifS H; obtain ⟨c30, H⟩ := H
                     exact absurd H (by simp)
           · rw [if_neg c20] at H
             have c20b0 := nL c20
             clear c20
             simp only [Option.some.injEq, Prod.mk.injEq] at H
             obtain ⟨rfl, rfl, rfl⟩ := H
             go_wp2
             go_ret3
             exact ⟨_, z674d, rZ HO_11.out, z5acd⟩
mutual
def laws_FnEntries.j0 : Nat → List Int → List (S45) → List (S45) → Bool → Bool → ByteArray → Int → Int → Int → Int → Int → Int → List Int → Bool → Option (Bool)
 | 0, _, _, _, _, _, _, _, _, _, _, _, _, _, _ => none
 | k + 1, x1, x5, x7, x8, x54, x116000, x116001, x116002, x116003, x116004, x116005, x116006, x116007, x116008 => if x54 = true then (none) else (if x8 = true then ((impl_EntriesOf.f k x7 x116000).bind fun bt125 => (if bt125.2 = true then ((impl_GoodEntries.f k x7).bind fun t129 => (if t129 = true then (if (x7.length : Int) = (wrap64 ((x5.length : Int) + 1)) then (if (bt125.1.length : Int) = 0 then (none) else (laws_FnEntries.j1 k x1)) else (none)) else (none))) else (none))) else (laws_FnEntries.j1 k x1))
def laws_FnEntries.j1 : Nat → List Int → Option (Bool)
 | 0, _ => none
 | k + 1, x1 => (spec_DrawTowerPath.f k x1).bind fun bt130 => ((impl_TowerPath.f k bt130.1 bt130.2.1 bt130.2.2).bind fun bt137 => ((spec_TowerPath.f k bt130.1 bt130.2.1 bt130.2.2).bind fun bt142 => (if (bt137.2.2 != bt142.2.2) = true then (laws_FnEntries.j2 k bt130.1 bt130.2.2 bt137.1 bt137.2.1 bt137.2.2 true) else (if bt137.2.1 = bt142.2.1 then ((laws_sameInts.f k bt137.1 bt142.1).bind fun t147 => (laws_FnEntries.j2 k bt130.1 bt130.2.2 bt137.1 bt137.2.1 bt137.2.2 (!t147))) else (laws_FnEntries.j2 k bt130.1 bt130.2.2 bt137.1 bt137.2.1 bt137.2.2 true)))))
def laws_FnEntries.j2 : Nat → List ByteArray → ByteArray → List Int → Int → Bool → Bool → Option (Bool)
 | 0, _, _, _, _, _, _ => none
 | k + 1, x13, x15, x16, x17, x18, x118 => if x118 = true then (none) else (if x18 = true then (laws_FnEntries.l0 k x13 x15 x16 x17 0) else (some ((x16.length : Int) == 0)))
def laws_FnEntries.l0 : Nat → List ByteArray → ByteArray → List Int → Int → Int → Option (Bool)
 | 0, _, _, _, _, _ => none
 | k + 1, x13, x15, x16, x17, x22 => if x22 < (x13.length : Int) then (if 0 ≤ x22 then (if (Op.bytesLess ((rdOf ByteArray.empty x13 x22).toList) x15.toList) = true then (laws_FnEntries.l0 k x13 x15 x16 x17 (wrap64 (x22 + 1))) else (if x17 = x22 then (some (decide ((x16.length : Int) ≤ x22))) else (none))) else (none)) else (if x17 = x22 then (some (decide ((x16.length : Int) ≤ x22))) else (none))
end
def laws_FnEntries.f (k : Nat) (l0 : List Int) (l1 : List Int) : Option (Bool) := if (wrap64 ((l0.length : Int) + (l1.length : Int))) > 1048576 then (some true) else ((spec_DrawPutEntry.f k l0).bind fun bt101 => ((impl_PutEntry.f k bt101.1 bt101.2.1 bt101.2.2.1 bt101.2.2.2.1 bt101.2.2.2.2.1 bt101.2.2.2.2.2.1 bt101.2.2.2.2.2.2.1 bt101.2.2.2.2.2.2.2.1 bt101.2.2.2.2.2.2.2.2.1 bt101.2.2.2.2.2.2.2.2.2).bind fun bt116 => ((spec_PutEntry.f k bt101.1 bt101.2.1 bt101.2.2.1 bt101.2.2.2.1 bt101.2.2.2.2.1 bt101.2.2.2.2.2.1 bt101.2.2.2.2.2.2.1 bt101.2.2.2.2.2.2.2.1 bt101.2.2.2.2.2.2.2.2.1 bt101.2.2.2.2.2.2.2.2.2).bind fun bt120 => (if (bt116.2 != bt120.2) = true then (laws_FnEntries.j0 k l1 bt101.1 bt116.1 bt116.2 true bt101.2.1 bt101.2.2.1 bt101.2.2.2.1 bt101.2.2.2.2.1 bt101.2.2.2.2.2.1 bt101.2.2.2.2.2.2.1 bt101.2.2.2.2.2.2.2.1 bt101.2.2.2.2.2.2.2.2.1 bt101.2.2.2.2.2.2.2.2.2) else ((laws_sameEntries.f k bt116.1 bt120.1).bind fun t124 => (laws_FnEntries.j0 k l1 bt101.1 bt116.1 bt116.2 (!t124) bt101.2.1 bt101.2.2.1 bt101.2.2.2.1 bt101.2.2.2.2.1 bt101.2.2.2.2.2.1 bt101.2.2.2.2.2.2.1 bt101.2.2.2.2.2.2.2.1 bt101.2.2.2.2.2.2.2.2.1 bt101.2.2.2.2.2.2.2.2.2))))))
theorem laws_FnEntries.mono_l : ∀ k, (∀ y0 y1 y2 y3 y4 y5 y6 y7 y8 y9 y10 y11 y12 y13, LeO (laws_FnEntries.j0 k y0 y1 y2 y3 y4 y5 y6 y7 y8 y9 y10 y11 y12 y13) (laws_FnEntries.j0 (k + 1) y0 y1 y2 y3 y4 y5 y6 y7 y8 y9 y10 y11 y12 y13)) ∧ (∀ y0, LeO (laws_FnEntries.j1 k y0) (laws_FnEntries.j1 (k + 1) y0)) ∧ (∀ y0 y1 y2 y3 y4 y5, LeO (laws_FnEntries.j2 k y0 y1 y2 y3 y4 y5) (laws_FnEntries.j2 (k + 1) y0 y1 y2 y3 y4 y5)) ∧ (∀ y0 y1 y2 y3 y4, LeO (laws_FnEntries.l0 k y0 y1 y2 y3 y4) (laws_FnEntries.l0 (k + 1) y0 y1 y2 y3 y4))
 | 0 => ⟨fun _ _ _ _ _ _ _ _ _ _ _ _ _ _ r h => by simp [laws_FnEntries.j0] at h, fun _ r h => by simp [laws_FnEntries.j1] at h, fun _ _ _ _ _ _ r h => by simp [laws_FnEntries.j2] at h, fun _ _ _ _ _ r h => by simp [laws_FnEntries.l0] at h⟩
 | k + 1 => by
  obtain ⟨ih0, ih1, ih2, ih3⟩ := laws_FnEntries.mono_l k; have m0 := @impl_EntriesOf.mono; have m1 := @impl_GoodEntries.mono; have m2 := @impl_PutEntry.mono; have m3 := @impl_TowerPath.mono; have m4 := @laws_sameEntries.mono; have m5 := @laws_sameInts.mono; have m6 := @spec_DrawPutEntry.mono; have m7 := @spec_DrawTowerPath.mono; have m8 := @spec_PutEntry.mono; have m9 := @spec_TowerPath.mono
  refine ⟨?_, ?_, ?_, ?_⟩
  · intro y0 y1 y2 y3 y4 y5 y6 y7 y8 y9 y10 y11 y12 y13
    unfold laws_FnEntries.j0
    exact moZ
  · intro y0
    unfold laws_FnEntries.j1
    exact moZ
  · intro y0 y1 y2 y3 y4 y5
    unfold laws_FnEntries.j2
    exact moZ
  · intro y0 y1 y2 y3 y4
    unfold laws_FnEntries.l0
    exact moZ
theorem laws_FnEntries.mono : ∀ a0 a1 k, LeO (laws_FnEntries.f k a0 a1) (laws_FnEntries.f (k + 1) a0 a1) := by
 intro a0 a1 k
 obtain ⟨ih0, ih1, ih2, ih3⟩ := laws_FnEntries.mono_l k
 have m0 := @impl_EntriesOf.mono; have m1 := @impl_GoodEntries.mono; have m2 := @impl_PutEntry.mono; have m3 := @impl_TowerPath.mono; have m4 := @laws_sameEntries.mono; have m5 := @laws_sameInts.mono; have m6 := @spec_DrawPutEntry.mono; have m7 := @spec_DrawTowerPath.mono; have m8 := @spec_PutEntry.mono; have m9 := @spec_TowerPath.mono
 unfold laws_FnEntries.f
 exact moZ
theorem laws_FnEntries.calls (k : Nat) (A0 : Option Addr) (c0 : Nat) (l0 : List Int) (A1 : Option Addr) (c1 : Nat) (l1 : List Int) (r : Bool) (w : World) (hr0 : Kd.C (Kd.int .u8) w A0 l0.length l0) (hc0 : l0.length ≤ c0) (hr1 : Kd.C (Kd.int .u8) w A1 l1.length l1) (hc1 : l1.length ≤ c1) (h : laws_FnEntries.f k l0 l1 = some r) :
 Calls Try.prog 6 #[.slice A0 l0.length c0, .slice A1 l1.length c1] w fun e w' => e = .returned (.bool r) ∧ Below w.heap.size w w' := by
 have hu45 := Try.underlying45
 have HR0 := aM hr0
 have HC0 := aM hc0
 clear hr0 hc0
 have HR1 := aM hr1
 have HC1 := aM hc1
 clear hr1 hc1
 have HB := aM (Below.refl w.heap.size w)
 have H : (if (wrap64 ((l0.length : Int) + (l1.length : Int))) > 1048576 then (some true) else ((spec_DrawPutEntry.f k l0).bind fun bt101 => ((impl_PutEntry.f k bt101.1 bt101.2.1 bt101.2.2.1 bt101.2.2.2.1 bt101.2.2.2.2.1 bt101.2.2.2.2.2.1 bt101.2.2.2.2.2.2.1 bt101.2.2.2.2.2.2.2.1 bt101.2.2.2.2.2.2.2.2.1 bt101.2.2.2.2.2.2.2.2.2).bind fun bt116 => ((spec_PutEntry.f k bt101.1 bt101.2.1 bt101.2.2.1 bt101.2.2.2.1 bt101.2.2.2.2.1 bt101.2.2.2.2.2.1 bt101.2.2.2.2.2.2.1 bt101.2.2.2.2.2.2.2.1 bt101.2.2.2.2.2.2.2.2.1 bt101.2.2.2.2.2.2.2.2.2).bind fun bt120 => (if (bt116.2 != bt120.2) = true then (laws_FnEntries.j0 k l1 bt101.1 bt116.1 bt116.2 true bt101.2.1 bt101.2.2.1 bt101.2.2.2.1 bt101.2.2.2.2.1 bt101.2.2.2.2.2.1 bt101.2.2.2.2.2.2.1 bt101.2.2.2.2.2.2.2.1 bt101.2.2.2.2.2.2.2.2.1 bt101.2.2.2.2.2.2.2.2.2) else ((laws_sameEntries.f k bt116.1 bt120.1).bind fun t124 => (laws_FnEntries.j0 k l1 bt101.1 bt116.1 bt116.2 (!t124) bt101.2.1 bt101.2.2.1 bt101.2.2.2.1 bt101.2.2.2.2.1 bt101.2.2.2.2.2.1 bt101.2.2.2.2.2.2.1 bt101.2.2.2.2.2.2.2.1 bt101.2.2.2.2.2.2.2.2.1 bt101.2.2.2.2.2.2.2.2.2))))))) = some r := h
 clear h
 by_cases c3 : (wrap64 ((l0.length : Int) + (l1.length : Int))) > 1048576
 · rw [if_pos c3] at H
   have c3b0 := dL c3
   clear c3
   obtain rfl := Option.some.inj H
   go_enter Try.func6, Try.ntmps6
   go_wp2
   go_ret
   exact ⟨z674d, z5acd⟩
 · rw [if_neg c3] at H
   have c3b0 := nL c3
   clear c3
   obtain ⟨⟨t101, t104, t105, t106, t107, t108, t109, t110, t111, t114⟩, A4, H⟩ := bS H; try dsimp only at H
   obtain ⟨⟨t116, t119⟩, A5, H⟩ := bS H; try dsimp only at H
   obtain ⟨⟨t120, t123⟩, A6, H⟩ := bS H; try dsimp only at H
   have HC7 := aM H
   clear H
   go_enter Try.func6, Try.ntmps6
   go_upto_region 6 with (first | ((with_reducible refine gate_callee (f := 25) rfl ?_); refine gL 31 Try.func25 #[.slice A0 l0.length c0] ?_; (with_reducible refine (spec_DrawPutEntry.calls k _ _ l0 t101 t104 t105 t106 t107 t108 t109 t110 t111 t114 _ ?side1 ?side2 A4.out).mono ?_); (case side1 => exact z4195); (case side2 => exact HC0.out); rintro e w8 ⟨v102, v112, rfl, ho0, ho1, hb⟩; refine ⟨_, rfl, ?_⟩; have _ := aM (Kd.N_lower (Kd.N_mono (ok' := fun k_ => some k_ ≠ (v112 : Value).ownBlock) ho0 (fun k_ hk_ => hk_.2)) (below_size hbZ)); have _ := aM (Kd.Q_lower (Kd.Q_mono (ok' := fun k_ => True) ho1 (fun _ hk_ => trivial)) (below_size hbZ)); have _ := aM (below_step hbZ hb); clear HB; rename_i HO103 HO113 HB; (try clear hb); (try clear ho0); (try clear ho1)) | ((with_reducible refine gate_dst (N := 6) rfl ?_); (try (refine gate_guard (by rfl) ?_; dsimp only)); refine bX 6 45 #[.string (⟨#[]⟩ : ByteArray), .int .i64 0, .int .i64 0, .int .i64 0, .int .i64 0, .int .i64 0, .int .i64 0, .slice none 0 0, .bool false] ?_; intro gb115 hg w9 hbox hb; have _ := aM (Kd.N_below (Kd.N_elderB (by (with_reducible repeat (first | apply Kd.N_alloc | apply Kd.N_drewN | apply Kd.N_drew)); exact HO103.out) gb115 (Nat.le_of_eq hg.symm)) hb); have _ := aM (Kd.Q_below (kZ HO113.out) hb); have _ := aM (below_step hbZ hb); have _ := aM hbox; have _ := szZ hg; have _ := szZ hg; clear HO103 HO113 HB; rename_i HO103 HO113 HB BK115 GW115 GE115; clear hb hbox hg; have hz10 := cellsZ9 BK115.out; obtain ⟨Ao11, co11, eo11, _⟩ := Kd.Q_slice HO113.out; subst eo11; obtain ⟨Ao12, co12, eo12⟩ := Kd.N_slice HO103.out; subst eo12) | ((with_reducible refine gate_callee (f := 22) rfl ?_); refine gL 37 Try.func22 #[.slice Ao12 t101.length co12, .agg #[.string t104, .int .i64 t105, .int .i64 t106, .int .i64 t107, .int .i64 t108, .int .i64 t109, .int .i64 t110, .slice Ao11 t111.length co11, .bool t114]] ?_; (with_reducible refine (impl_PutEntry.calls k _ _ t101 t104 t105 t106 t107 t108 t109 t110 _ _ t111 t114 t116 t119 _ ?side1 ?side2 ?side3 ?side4 A5.out).mono ?_); (case side1 => refine (Kd.N_reads' (e := 45) (base := w.heap.size) (ok := fun k_ => (some k_ ≠ (.slice Ao11 t111.length co11 : Value).ownBlock ∧ k_ ≠ gb115)) (n := t101.length) (c := co12) ?_).2.2; exact (by (with_reducible repeat (first | apply Kd.N_alloc | apply Kd.N_drewN | apply Kd.N_drew)); exact (Kd.N_mono (Kd.N_far (p := ⟨gb115, 8, none⟩) (Kd.N_far (p := ⟨gb115, 7, none⟩) (Kd.N_far (p := ⟨gb115, 6, none⟩) (Kd.N_far (p := ⟨gb115, 5, none⟩) (Kd.N_far (p := ⟨gb115, 4, none⟩) (Kd.N_far (p := ⟨gb115, 3, none⟩) (Kd.N_far (p := ⟨gb115, 2, none⟩) (Kd.N_far (p := ⟨gb115, 1, none⟩) (Kd.N_far (p := ⟨gb115, 0, none⟩) (Kd.N_mono HO103.out (fun k_ hk => (⟨hk, hk.2⟩ : _ ∧ k_ ≠ gb115))) (fun _ hk => hk.2) (.string t104)) (fun _ hk => hk.2) (.int .i64 t105)) (fun _ hk => hk.2) (.int .i64 t106)) (fun _ hk => hk.2) (.int .i64 t107)) (fun _ hk => hk.2) (.int .i64 t108)) (fun _ hk => hk.2) (.int .i64 t109)) (fun _ hk => hk.2) (.int .i64 t110)) (fun _ hk => hk.2) (.slice Ao11 t111.length co11)) (fun _ hk => hk.2) (.bool t114)) (fun _ h_ => h_.1)))); (case side2 => exact (Kd.N_reads' HO103.out).2.1); (case side3 => refine (Kd.Q_reads' (e := 3) (base := w.heap.size) (ok := fun k_ => True) (n := t111.length) (c := co11) ?_).2.2; exact z8d7a); (case side4 => exact (Kd.Q_reads' HO113.out).2.1); rintro e w13 ⟨v117, rfl, ho0, hb⟩; refine ⟨_, rfl, ?_⟩; have _ := aM (Kd.N_elder' (by (with_reducible repeat (first | apply Kd.N_alloc | apply Kd.N_drewN | apply Kd.N_drew)); exact (Kd.N_mono (Kd.N_far (p := ⟨gb115, 8, none⟩) (Kd.N_far (p := ⟨gb115, 7, none⟩) (Kd.N_far (p := ⟨gb115, 6, none⟩) (Kd.N_far (p := ⟨gb115, 5, none⟩) (Kd.N_far (p := ⟨gb115, 4, none⟩) (Kd.N_far (p := ⟨gb115, 3, none⟩) (Kd.N_far (p := ⟨gb115, 2, none⟩) (Kd.N_far (p := ⟨gb115, 1, none⟩) (Kd.N_far (p := ⟨gb115, 0, none⟩) (Kd.N_mono HO103.out (fun k_ hk => (⟨hk, hk.2⟩ : _ ∧ k_ ≠ gb115))) (fun _ hk => hk.2) (.string t104)) (fun _ hk => hk.2) (.int .i64 t105)) (fun _ hk => hk.2) (.int .i64 t106)) (fun _ hk => hk.2) (.int .i64 t107)) (fun _ hk => hk.2) (.int .i64 t108)) (fun _ hk => hk.2) (.int .i64 t109)) (fun _ hk => hk.2) (.int .i64 t110)) (fun _ hk => hk.2) (.slice Ao11 t111.length co11)) (fun _ hk => hk.2) (.bool t114)) (fun _ h_ => h_.1))) (Kd.S_base ho0) hb); have _ := aM (Kd.Q_below z8d7a hb); have _ := aM (Kd.N_lower (Kd.N_mono (ok' := fun k_ => some k_ ≠ (.slice Ao12 t101.length co12 : Value).ownBlock ∧ some k_ ≠ (.slice Ao11 t111.length co11 : Value).ownBlock ∧ k_ ≠ gb115) (Kd.S_N (Kd.S_bound ho0)) (fun k_ hk_ => ⟨(Kd.fresh' (Kd.N_lt (by (with_reducible repeat (first | apply Kd.N_alloc | apply Kd.N_drewN | apply Kd.N_drew)); exact (Kd.N_mono (Kd.N_far (p := ⟨gb115, 8, none⟩) (Kd.N_far (p := ⟨gb115, 7, none⟩) (Kd.N_far (p := ⟨gb115, 6, none⟩) (Kd.N_far (p := ⟨gb115, 5, none⟩) (Kd.N_far (p := ⟨gb115, 4, none⟩) (Kd.N_far (p := ⟨gb115, 3, none⟩) (Kd.N_far (p := ⟨gb115, 2, none⟩) (Kd.N_far (p := ⟨gb115, 1, none⟩) (Kd.N_far (p := ⟨gb115, 0, none⟩) (Kd.N_mono HO103.out (fun k_ hk => (⟨hk, hk.2⟩ : _ ∧ k_ ≠ gb115))) (fun _ hk => hk.2) (.string t104)) (fun _ hk => hk.2) (.int .i64 t105)) (fun _ hk => hk.2) (.int .i64 t106)) (fun _ hk => hk.2) (.int .i64 t107)) (fun _ hk => hk.2) (.int .i64 t108)) (fun _ hk => hk.2) (.int .i64 t109)) (fun _ hk => hk.2) (.int .i64 t110)) (fun _ hk => hk.2) (.slice Ao11 t111.length co11)) (fun _ hk => hk.2) (.bool t114)) (fun _ h_ => h_.1)))) k_ hk_.2.1), (Kd.fresh' (Kd.Q_lt z8d7a) k_ hk_.2.1), (Kd.freshB (g := gb115) (o := .cells #[.string t104, .int .i64 t105, .int .i64 t106, .int .i64 t107, .int .i64 t108, .int .i64 t109, .int .i64 t110, .slice Ao11 t111.length co11, .bool t114] 45 (0, 0)) bkZ k_ hk_.2.1)⟩)) (below_size hbZ)); have _ := aM (blk_below (g := gb115) (o := .cells #[.string t104, .int .i64 t105, .int .i64 t106, .int .i64 t107, .int .i64 t108, .int .i64 t109, .int .i64 t110, .slice Ao11 t111.length co11, .bool t114] 45 (0, 0)) bkZ hb); have _ := aM (below_step hbZ hb); clear HO103 HO113 BK115 HB; rename_i HO103 HO113 HO118 BK115 HB; (try clear hb); (try clear ho0); have hz14 := cellsZ9 BK115.out) | ((with_reducible refine gate_callee (f := 20) rfl ?_); refine gL 43 Try.func20 #[.slice Ao12 t101.length co12, .agg #[.string t104, .int .i64 t105, .int .i64 t106, .int .i64 t107, .int .i64 t108, .int .i64 t109, .int .i64 t110, .slice Ao11 t111.length co11, .bool t114]] ?_; (with_reducible refine (spec_PutEntry.calls k (fun k_ => ((some k_ ≠ (.slice Ao11 t111.length co11 : Value).ownBlock ∧ k_ ≠ gb115) ∧ some k_ ≠ (v117 : Value).ownBlock)) _ _ t101 t104 t105 t106 t107 t108 t109 t110 (fun k_ => some k_ = (.slice Ao11 t111.length co11 : Value).ownBlock) _ _ t111 t114 t120 t123 _ ?side1 ?side2 A6.out).mono ?_); (case side1 => exact Kd.N_V (HO103.out)); (case side2 => exact Kd.Q_V (Kd.Q_tight rfl (Kd.Q_types (Kd.Q_apart' (Kd.Q_apart' (HO113.out) (Kd.N_typed HO103.out) (by decide)) (Kd.N_typed HO118.out) (by decide)) BK115.out (by decide)))); rintro e w15 ⟨v121, rfl, ho0, hb⟩; refine ⟨_, rfl, ?_⟩; have _ := aM (Kd.N_elder' (by (with_reducible repeat (first | apply Kd.N_alloc | apply Kd.N_drewN | apply Kd.N_drew)); exact HO103.out) (Kd.N_base ho0) hb); have _ := aM (Kd.Q_below (kZ HO113.out) hb); have _ := aM (Kd.N_elder' (by (with_reducible repeat (first | apply Kd.N_alloc | apply Kd.N_drewN | apply Kd.N_drew)); exact HO118.out) (Kd.N_base ho0) hb); have _ := aM (Kd.N_lower (Kd.N_mono (ok' := fun k_ => some k_ ≠ (v117 : Value).ownBlock ∧ k_ ≠ gb115) ho0 (fun k_ hk_ => ⟨Or.elim hk_ (fun hs_ => Or.elim hs_ (fun hs_ => hs_.2) (fun hs_ => ((Kd.Q_types (Kd.Q_apart' (Kd.Q_apart' (HO113.out) (Kd.N_typed HO103.out) (by decide)) (Kd.N_typed HO118.out) (by decide)) BK115.out (by decide)).1 k_ hs_.symm).1.2)) (fun hn_ => (Kd.fresh' (Kd.N_lt (by (with_reducible repeat (first | apply Kd.N_alloc | apply Kd.N_drewN | apply Kd.N_drew)); exact HO118.out)) k_ hn_)), Or.elim hk_ (fun hs_ => Or.elim hs_ (fun hs_ => hs_.1.2) (fun hs_ => ((Kd.Q_types (Kd.Q_apart' (Kd.Q_apart' (HO113.out) (Kd.N_typed HO103.out) (by decide)) (Kd.N_typed HO118.out) (by decide)) BK115.out (by decide)).1 k_ hs_.symm).2)) (fun hn_ => (Kd.freshB (g := gb115) bkZ k_ hn_))⟩)) (below_size hbZ)); have _ := bB gb115 hb; have _ := aM (below_step hbZ hb); clear HO103 HO113 HO118 BK115 HB; rename_i HO103 HO113 HO118 HO122 BK115 HB; (try clear hb); (try clear ho0)))
   (try simp only [Act.put, List.setIfInBounds_toArray, List.set_cons_zero, List.set_cons_succ])
   go_cut [54] (fun v54 wc => ∃ (kq : Nat) (x54_6 : Bool), v54 = .bool x54_6 ∧ Aside0 (laws_FnEntries.j0 kq l1 t101 t116 t119 x54_6 t104 t105 t106 t107 t108 t109 t110 t111 t114 = some r) ∧ Aside0 (kq ≤ k) ∧ Aside0 (Kd.N k45 45 wc w.heap.size (fun k_ => some k_ ≠ (v117 : Value).ownBlock ∧ some k_ ≠ ((.slice Ao11 t111.length co11) : Value).ownBlock ∧ k_ ≠ gb115) (.slice Ao12 t101.length co12) t101) ∧ Aside0 (Kd.N k45 45 wc w.heap.size (fun k_ => some k_ ≠ ((.slice Ao12 t101.length co12) : Value).ownBlock ∧ some k_ ≠ ((.slice Ao11 t111.length co11) : Value).ownBlock ∧ k_ ≠ gb115) v117 t116) ∧ Aside0 (Kd.Q (Kd.int .i64) 3 wc w.heap.size (fun _ => True) (.slice Ao11 t111.length co11) t111) ∧ Aside0 (wc.heap[gb115]? = some (.cells #[.string t104, .int .i64 t105, .int .i64 t106, .int .i64 t107, .int .i64 t108, .int .i64 t109, .int .i64 t110, (.slice Ao11 t111.length co11), .bool t114] 45 (0, 0))) ∧ Aside0 (Below w.heap.size w wc))
   case first =>
    have H := HC7.out
    clear HC7
    by_cases c16 : (t119 != t123) = true
    · rw [if_pos c16] at H
      have c16b0 : (t119 != t123) = true := c16
      (try (have c16b1 : decide (t119 = t123) = false := by simpa using c16))
      (try (have c16b2 : (t119 == t123) = false := by simpa using c16))
      (try (have c16b3 : ¬ (t119 = t123) := by simpa using c16))
      clear c16
      (first | rw [c16b0] | (simp only [i64_w, i32_w]; rw [c16b0]) | skip)
      have H' := aM H
      clear H
      go_wp2
      go_meet
      case rel => exact ⟨_, (true), z4458, H', ⟨zb79b⟩, ⟨by (with_reducible repeat (first | apply Kd.N_alloc | apply Kd.N_drewN | apply Kd.N_drew)); exact Kd.N_mono HO103.out (fun _ hk => ⟨hk.1.2, ⟨hk.1.1.1, hk.1.1.2⟩⟩)⟩, ⟨by (with_reducible repeat (first | apply Kd.N_alloc | apply Kd.N_drewN | apply Kd.N_drew)); exact Kd.N_mono HO118.out (fun _ hk => ⟨hk.1.1, ⟨hk.1.2.1, hk.1.2.2⟩⟩)⟩, ⟨kZ HO113.out⟩, ⟨bkZ⟩, ⟨zcb41⟩⟩
    · rw [if_neg c16] at H
      have c16b0 : (t119 != t123) = false := by simpa using c16
      (try (have c16b1 : decide (t119 = t123) = true := by simpa using c16))
      (try (have c16b2 : (t119 == t123) = true := by simpa using c16))
      clear c16
      (first | rw [c16b0] | (simp only [i64_w, i32_w]; rw [c16b0]) | skip)
      obtain ⟨t124, A17, H⟩ := bS H; try dsimp only at H
      have H' := aM H
      clear H
      obtain ⟨Ao18, co18, eo18⟩ := Kd.N_slice HO118.out
      subst eo18
      obtain ⟨Ao19, co19, eo19⟩ := Kd.N_slice HO122.out
      subst eo19
      go_wp2_with (first | (go_at_call 26; (with_reducible refine (laws_sameEntries.calls k _ _ t116 _ _ t120 t124 _ ?side1 ?side2 ?side3 ?side4 A17.out).mono ?_); (case side1 => exact (by repeat (first | exact (Kd.N_reads' HO118.out).2.2 | (with_reducible refine Kd.C_alloc ?_ _) | (with_reducible refine Kd.C_drewN ?_ _) | (with_reducible refine Kd.C_drew ?_)))); (case side2 => exact (Kd.N_reads' HO118.out).2.1); (case side3 => exact (by repeat (first | exact (Kd.N_reads' HO122.out).2.2 | (with_reducible refine Kd.C_alloc ?_ _) | (with_reducible refine Kd.C_drewN ?_ _) | (with_reducible refine Kd.C_drew ?_)))); (case side4 => exact (Kd.N_reads' HO122.out).2.1); rintro e w20 ⟨rfl, hb⟩; have _ := aM (Kd.N_below (by (with_reducible repeat (first | apply Kd.N_alloc | apply Kd.N_drewN | apply Kd.N_drew)); exact HO103.out) hb); have _ := aM (Kd.Q_below (kZ HO113.out) hb); have _ := aM (Kd.N_below (by (with_reducible repeat (first | apply Kd.N_alloc | apply Kd.N_drewN | apply Kd.N_drew)); exact HO118.out) hb); have _ := aM (Kd.N_below (by (with_reducible repeat (first | apply Kd.N_alloc | apply Kd.N_drewN | apply Kd.N_drew)); exact HO122.out) hb); have _ := bB gb115 hb; have _ := aM (below_step hbZ hb); clear HO103 HO113 HO118 HO122 BK115 HB; rename_i HO103 HO113 HO118 HO122 BK115 HB; (try clear hb)))
      go_meet
      case rel => exact ⟨_, (!t124), z4458, H', ⟨zb79b⟩, ⟨by (with_reducible repeat (first | apply Kd.N_alloc | apply Kd.N_drewN | apply Kd.N_drew)); exact Kd.N_mono HO103.out (fun _ hk => ⟨hk.1.2, ⟨hk.1.1.1, hk.1.1.2⟩⟩)⟩, ⟨by (with_reducible repeat (first | apply Kd.N_alloc | apply Kd.N_drewN | apply Kd.N_drew)); exact Kd.N_mono HO118.out (fun _ hk => ⟨hk.1.1, ⟨hk.1.2.1, hk.1.2.2⟩⟩)⟩, ⟨kZ HO113.out⟩, ⟨bkZ⟩, ⟨zcb41⟩⟩
   case rest =>
    clear HC7
    (try clear c1); (try clear c3b0); (try clear hz10); (try clear hz14)
    obtain ⟨kq, x54_6, rfl, HA, HJ6, HO_5, HO_7, HO_116007, BK115, HB⟩ := hcut
    cases kq with
    | zero => exact absurd HA.out (by simp [laws_FnEntries.j0])
    | succ kj6 =>
     have H := HA.out
     clear HA
     simp only [laws_FnEntries.j0] at H
     by_cases c21 : x54_6 = true
     · subst c21
       rw [if_pos rfl] at H
       exact absurd H (by simp)
     · replace c21 := Bool.eq_false_iff.mpr c21
       subst c21
       rw [if_neg (show ¬ (false = true) by decide)] at H
       have HC22 := aM H
       clear H
       go_upto_if 55 with (fail)
       go_cut [] (fun wc => ∃ (kq : Nat), Aside0 (laws_FnEntries.j1 kq l1 = some r) ∧ Aside0 (kq ≤ kj6) ∧ Aside0 (Kd.Q (Kd.int .i64) 3 wc w.heap.size (fun _ => True) (.slice Ao11 t111.length co11) t111) ∧ Aside0 (wc.heap[gb115]? = some (.cells #[.string t104, .int .i64 t105, .int .i64 t106, .int .i64 t107, .int .i64 t108, .int .i64 t109, .int .i64 t110, (.slice Ao11 t111.length co11), .bool t114] 45 (0, 0))) ∧ Aside0 (Below w.heap.size w wc))
       case first =>
        have H := HC22.out
        clear HC22
        by_cases c23 : t119 = true
        · subst c23
          rw [if_pos rfl] at H
          obtain ⟨⟨t125, t126⟩, A24, H⟩ := bS H; try dsimp only at H
          by_cases c25 : t126 = true
          · subst c25
            rw [if_pos rfl] at H
            obtain ⟨t129, A26, H⟩ := bS H; try dsimp only at H
            by_cases c27 : t129 = true
            · subst c27
              rw [if_pos rfl] at H
              replace H := ifS H; obtain ⟨c28, H⟩ := H
              have c28b0 : ((t116.length : Int) == (wrap64 ((t101.length : Int) + 1))) = true := beq_iff_eq.mpr c28
              have c28b1 : ((t116.length : Int) != (wrap64 ((t101.length : Int) + 1))) = false := bne_eq_false_iff_eq.mpr c28
              clear c28
              (first | rw [c28b0] | (simp only [i64_w, i32_w]; rw [c28b0]) | skip)
              replace H := ifN H; obtain ⟨c29, H⟩ := H
              have c29b0 := eqN c29
              have c29b2 : ¬ (t125 = []) := fun h_ => c29 (by rw [h_]; rfl)
              have H' := aM H
              clear H
              have hz30 := cellsZ9 BK115.out
              obtain ⟨Ao31, co31, eo31⟩ := Kd.N_slice HO_7.out
              subst eo31
              go_wp2_with (first | ((with_reducible refine gate_callee (f := 27) rfl ?_); refine gL 60 Try.func27 #[.slice Ao31 t116.length co31, .string t104] ?_; (with_reducible refine (impl_EntriesOf.calls kj6 _ _ t116 t104 t125 true _ ?side1 ?side2 A24.out).mono ?_); (case side1 => exact (by repeat (first | exact (Kd.N_reads' HO_7.out).2.2 | (with_reducible refine Kd.C_alloc ?_ _) | (with_reducible refine Kd.C_drewN ?_ _) | (with_reducible refine Kd.C_drew ?_)))); (case side2 => exact (Kd.N_reads' HO_7.out).2.1); rintro e w32 ⟨v127, rfl, ho0, hb⟩; refine ⟨_, rfl, ?_⟩; have _ := aM (Kd.N_elder' z52d0 (Kd.S_base ho0) hb); have _ := aM (Kd.N_elder' (by (with_reducible repeat (first | apply Kd.N_alloc | apply Kd.N_drewN | apply Kd.N_drew)); exact HO_7.out) (Kd.S_base ho0) hb); have _ := aM (Kd.Q_below (kZ HO_116007.out) hb); have _ := aM (Kd.N_lower (Kd.N_mono (ok' := fun k_ => some k_ ≠ (.slice Ao12 t101.length co12 : Value).ownBlock ∧ some k_ ≠ (.slice Ao31 t116.length co31 : Value).ownBlock ∧ some k_ ≠ (.slice Ao11 t111.length co11 : Value).ownBlock ∧ k_ ≠ gb115) (Kd.S_N (Kd.S_bound ho0)) (fun k_ hk_ => ⟨(Kd.fresh' (Kd.N_lt z52d0) k_ hk_.2.1), (Kd.fresh' (Kd.N_lt (by (with_reducible repeat (first | apply Kd.N_alloc | apply Kd.N_drewN | apply Kd.N_drew)); exact HO_7.out)) k_ hk_.2.1), (Kd.fresh' (Kd.Q_lt (kZ HO_116007.out)) k_ hk_.2.1), (Kd.freshB (g := gb115) bkZ k_ hk_.2.1)⟩)) (below_size hbZ)); have _ := bB gb115 hb; have _ := aM (below_step hbZ hb); clear HO_5 HO_7 HO_116007 BK115 HB; rename_i HO_5 HO_7 HO_116007 HO128 BK115 HB; (try clear hb); (try clear ho0)) | (go_at_call 28; (with_reducible refine (impl_GoodEntries.calls kj6 _ _ t116 true _ ?side1 ?side2 A26.out).mono ?_); (case side1 => exact (by repeat (first | exact (Kd.N_reads' HO_7.out).2.2 | (with_reducible refine Kd.C_alloc ?_ _) | (with_reducible refine Kd.C_drewN ?_ _) | (with_reducible refine Kd.C_drew ?_)))); (case side2 => exact (Kd.N_reads' HO_7.out).2.1); rintro e w33 ⟨rfl, hb⟩; have _ := aM (Kd.N_below z52d0 hb); have _ := aM (Kd.N_below (by (with_reducible repeat (first | apply Kd.N_alloc | apply Kd.N_drewN | apply Kd.N_drew)); exact HO_7.out) hb); have _ := aM (Kd.Q_below (kZ HO_116007.out) hb); have _ := aM (Kd.N_below (by (with_reducible repeat (first | apply Kd.N_alloc | apply Kd.N_drewN | apply Kd.N_drew)); exact HO128.out) hb); have _ := bB gb115 hb; have _ := aM (below_step hbZ hb); clear HO_5 HO_7 HO_116007 HO128 BK115 HB; rename_i HO_5 HO_7 HO_116007 HO128 BK115 HB; (try clear hb); obtain ⟨Ao34, co34, eo34⟩ := Kd.N_slice HO128.out; subst eo34))
              go_meet
              case rel => exact ⟨_, H', ⟨by have := HJ6.out; first | omega | exact Nat.le_refl _⟩, ⟨kZ HO_116007.out⟩, ⟨bkZ⟩, ⟨zcb41⟩⟩
            · replace c27 := Bool.eq_false_iff.mpr c27
              subst c27
              rw [if_neg (show ¬ (false = true) by decide)] at H
              exact absurd H (by simp)
          · replace c25 := Bool.eq_false_iff.mpr c25
            subst c25
            rw [if_neg (show ¬ (false = true) by decide)] at H
            exact absurd H (by simp)
        · replace c23 := Bool.eq_false_iff.mpr c23
          subst c23
          rw [if_neg (show ¬ (false = true) by decide)] at H
          have H' := aM H
          clear H
          go_wp2
          go_meet
          case rel => exact ⟨_, H', ⟨by have := HJ6.out; first | omega | exact Nat.le_refl _⟩, ⟨kZ HO_116007.out⟩, ⟨bkZ⟩, ⟨zcb41⟩⟩
       case rest =>
        clear HC22
        (try clear c21)
        obtain ⟨kq, HA, HJ21, HO_116007, BK115, HB⟩ := hcut
        cases kq with
        | zero => exact absurd HA.out (by simp [laws_FnEntries.j1])
        | succ kj21 =>
         have H := HA.out
         clear HA
         simp only [laws_FnEntries.j1] at H
         obtain ⟨⟨t130, t131, t132⟩, A35, H⟩ := bS H; try dsimp only at H
         obtain ⟨⟨t137, t138, t139⟩, A36, H⟩ := bS H; try dsimp only at H
         obtain ⟨⟨t142, t143, t144⟩, A37, H⟩ := bS H; try dsimp only at H
         have HC38 := aM H
         clear H
         go_upto_region 15 with (first | ((with_reducible refine gate_callee (f := 29) rfl ?_); refine gL 85 Try.func29 #[.slice A1 l1.length c1] ?_; (with_reducible refine (spec_DrawTowerPath.calls kj21 _ _ l1 t130 t131 t132 _ ?side1 ?side2 A35.out).mono ?_); (case side1 => exact (cZ (Kd.C_below HR1.out HB.out))); (case side2 => exact HC1.out); rintro e w39 ⟨v133, v135, rfl, ho0, ho1, hb⟩; refine ⟨_, rfl, ?_⟩; have _ := aM (Kd.Q_elder' (kZ HO_116007.out) (Kd.R_base ho1) hb); have _ := aM (Kd.R_lower ho0 (below_size hbZ)); have _ := aM (Kd.R_lower (Kd.R_new' ho1 (Kd.Q_lt (kZ HO_116007.out))) (below_size hbZ)); have _ := bB gb115 hb; have _ := aM (below_step hbZ hb); clear HO_116007 BK115 HB; rename_i HO_116007 HO134 HO136 BK115 HB; (try clear hb); (try clear ho0); (try clear ho1); obtain ⟨Ao40, co40, eo40⟩ := Kd.R_slice HO134.out; subst eo40; obtain ⟨Ao41, co41, eo41⟩ := Kd.R_slice HO136.out; subst eo41) | ((with_reducible refine gate_callee (f := 30) rfl ?_); refine gL 93 Try.func30 #[.slice Ao40 t130.length co40, .slice Ao41 t131.length co41, .string t132] ?_; (with_reducible refine (impl_TowerPath.calls kj21 _ _ t130 _ _ t131 t132 t137 t138 t139 _ ?side1 ?side2 ?side3 ?side4 A36.out).mono ?_); (case side1 => exact (by repeat (first | exact (Kd.R_reads' HO134.out).2.2 | (with_reducible refine Kd.C_alloc ?_ _) | (with_reducible refine Kd.C_drewN ?_ _) | (with_reducible refine Kd.C_drew ?_)))); (case side2 => exact (Kd.R_reads' HO134.out).2.1); (case side3 => exact z3e8a); (case side4 => exact (Kd.R_reads' HO136.out).2.1); rintro e w42 ⟨v140, rfl, ho0, hb⟩; refine ⟨_, rfl, ?_⟩; have _ := aM (Kd.Q_elder' (kZ HO_116007.out) (Kd.R_base ho0) hb); have _ := aM (Kd.R_below (rZ HO134.out) hb); have _ := aM (Kd.R_elder' (rZ HO136.out) (Kd.R_base ho0) hb); have _ := aM (Kd.R_lower (Kd.R_new' (Kd.R_new' ho0 (Kd.Q_lt (kZ HO_116007.out))) (Kd.R_lt (rZ HO136.out))) (below_size hbZ)); have _ := bB gb115 hb; have _ := aM (below_step hbZ hb); clear HO_116007 HO134 HO136 BK115 HB; rename_i HO_116007 HO134 HO136 HO141 BK115 HB; (try clear hb); (try clear ho0)) | ((with_reducible refine gate_callee (f := 31) rfl ?_); refine gL 101 Try.func31 #[.slice Ao40 t130.length co40, .slice Ao41 t131.length co41, .string t132] ?_; (with_reducible refine (spec_TowerPath.calls kj21 _ _ t130 _ _ t131 t132 t142 t143 t144 _ ?side1 ?side2 ?side3 ?side4 A37.out).mono ?_); (case side1 => exact (by repeat (first | exact (Kd.R_reads' HO134.out).2.2 | (with_reducible refine Kd.C_alloc ?_ _) | (with_reducible refine Kd.C_drewN ?_ _) | (with_reducible refine Kd.C_drew ?_)))); (case side2 => exact (Kd.R_reads' HO134.out).2.1); (case side3 => exact z3e8a); (case side4 => exact (Kd.R_reads' HO136.out).2.1); rintro e w43 ⟨v145, rfl, ho0, hb⟩; refine ⟨_, rfl, ?_⟩; have _ := aM (Kd.Q_elder' (kZ HO_116007.out) (Kd.R_base ho0) hb); have _ := aM (Kd.R_below (rZ HO134.out) hb); have _ := aM (Kd.R_elder' (rZ HO136.out) (Kd.R_base ho0) hb); have _ := aM (Kd.R_elder' (rZ HO141.out) (Kd.R_base ho0) hb); have _ := aM (Kd.R_lower (Kd.R_new' (Kd.R_new' (Kd.R_new' ho0 (Kd.Q_lt (kZ HO_116007.out))) (Kd.R_lt (rZ HO136.out))) (Kd.R_lt (rZ HO141.out))) (below_size hbZ)); have _ := bB gb115 hb; have _ := aM (below_step hbZ hb); clear HO_116007 HO134 HO136 HO141 BK115 HB; rename_i HO_116007 HO134 HO136 HO141 HO146 BK115 HB; (try clear hb); (try clear ho0)))
         (try simp only [Act.put, List.setIfInBounds_toArray, List.set_cons_zero, List.set_cons_succ])
         go_cut [118] (fun v118 wc => ∃ (kq : Nat) (x118_37 : Bool), v118 = .bool x118_37 ∧ Aside0 (laws_FnEntries.j2 kq t130 t132 t137 t138 t139 x118_37 = some r) ∧ Aside0 (kq ≤ kj21) ∧ Aside0 (Kd.R Kd.string 9 wc w.heap.size (fun _ => True) (.slice Ao40 t130.length co40) t130) ∧ Aside0 (Kd.R (Kd.int .i64) 3 wc w.heap.size (fun k_ => some k_ ≠ ((.slice Ao11 t111.length co11) : Value).ownBlock) v140 t137) ∧ Aside0 (Kd.Q (Kd.int .i64) 3 wc w.heap.size (fun k_ => some k_ ≠ (v140 : Value).ownBlock) (.slice Ao11 t111.length co11) t111) ∧ Aside0 (wc.heap[gb115]? = some (.cells #[.string t104, .int .i64 t105, .int .i64 t106, .int .i64 t107, .int .i64 t108, .int .i64 t109, .int .i64 t110, (.slice Ao11 t111.length co11), .bool t114] 45 (0, 0))) ∧ Aside0 (Below w.heap.size w wc))
         case first =>
          have H := HC38.out
          clear HC38
          by_cases c44 : (t139 != t144) = true
          · rw [if_pos c44] at H
            have c44b0 : (t139 != t144) = true := c44
            (try (have c44b1 : decide (t139 = t144) = false := by simpa using c44))
            (try (have c44b2 : (t139 == t144) = false := by simpa using c44))
            (try (have c44b3 : ¬ (t139 = t144) := by simpa using c44))
            clear c44
            (first | rw [c44b0] | (simp only [i64_w, i32_w]; rw [c44b0]) | skip)
            have H' := aM H
            clear H
            go_wp2
            go_meet
            case rel => exact ⟨_, (true), z4458, H', ⟨by have := HJ6.out; have := HJ21.out; first | omega | exact Nat.le_refl _⟩, ⟨rZ HO134.out⟩, ⟨z10d8⟩, ⟨ze16d⟩, ⟨bkZ⟩, ⟨zcb41⟩⟩
          · rw [if_neg c44] at H
            have c44b0 : (t139 != t144) = false := by simpa using c44
            (try (have c44b1 : decide (t139 = t144) = true := by simpa using c44))
            (try (have c44b2 : (t139 == t144) = true := by simpa using c44))
            clear c44
            (first | rw [c44b0] | (simp only [i64_w, i32_w]; rw [c44b0]) | skip)
            by_cases c45 : t138 = t143
            · rw [if_pos c45] at H
              have c45b0 : (t138 == t143) = true := beq_iff_eq.mpr c45
              have c45b1 : (t138 != t143) = false := bne_eq_false_iff_eq.mpr c45
              clear c45
              obtain ⟨t147, A46, H⟩ := bS H; try dsimp only at H
              have H' := aM H
              clear H
              obtain ⟨Ao47, co47, eo47⟩ := Kd.R_slice HO141.out
              subst eo47
              obtain ⟨Ao48, co48, eo48⟩ := Kd.R_slice HO146.out
              subst eo48
              go_wp2_with (first | (go_at_call 32; (with_reducible refine (laws_sameInts.calls kj21 _ _ t137 _ _ t142 t147 _ ?side1 ?side2 ?side3 ?side4 A46.out).mono ?_); (case side1 => exact (by repeat (first | exact (Kd.R_reads' HO141.out).2.2 | (with_reducible refine Kd.C_alloc ?_ _) | (with_reducible refine Kd.C_drewN ?_ _) | (with_reducible refine Kd.C_drew ?_)))); (case side2 => exact (Kd.R_reads' HO141.out).2.1); (case side3 => exact (by repeat (first | exact (Kd.R_reads' HO146.out).2.2 | (with_reducible refine Kd.C_alloc ?_ _) | (with_reducible refine Kd.C_drewN ?_ _) | (with_reducible refine Kd.C_drew ?_)))); (case side4 => exact (Kd.R_reads' HO146.out).2.1); rintro e w' ⟨rfl, ⟨nd, rfl⟩⟩))
              go_meet
              case rel => exact ⟨_, (!t147), z4458, H', ⟨by have := HJ6.out; have := HJ21.out; first | omega | exact Nat.le_refl _⟩, ⟨rZ HO134.out⟩, ⟨z10d8⟩, ⟨ze16d⟩, ⟨bkZ⟩, ⟨zcb41⟩⟩
            · rw [if_neg c45] at H
              have c45b0 := eqN c45
              have H' := aM H
              clear H
              go_wp2
              go_meet
              case rel => exact ⟨_, (true), z4458, H', ⟨by have := HJ6.out; have := HJ21.out; first | omega | exact Nat.le_refl _⟩, ⟨rZ HO134.out⟩, ⟨z10d8⟩, ⟨ze16d⟩, ⟨bkZ⟩, ⟨zcb41⟩⟩
         case rest =>
          clear HC38
          obtain ⟨kq, x118_37, rfl, HA, HJ37, HO_13, HO_16, HO_116007, BK115, HB⟩ := hcut
          cases kq with
          | zero => exact absurd HA.out (by simp [laws_FnEntries.j2])
          | succ kj37 =>
           have H := HA.out
           clear HA
           simp only [laws_FnEntries.j2] at H
           by_cases c49 : x118_37 = true
           · subst c49
             rw [if_pos rfl] at H
             exact absurd H (by simp)
           · replace c49 := Bool.eq_false_iff.mpr c49
             subst c49
             rw [if_neg (show ¬ (false = true) by decide)] at H
             by_cases c50 : t139 = true
             · subst c50
               rw [if_pos rfl] at H
               have H' := aM H
               clear H
               go_wp2
               go_loopg [22] kj37 (fun kq v22 w' => ∃ (x22_4 : Int), v22 = .int .i64 x22_4 ∧ Aside0 (laws_FnEntries.l0 kq t130 t132 t137 t138 x22_4 = some r) ∧ Aside0 (kq ≤ kj37) ∧ Aside0 (Kd.R Kd.string 9 w' w.heap.size (fun _ => True) (.slice Ao40 t130.length co40) t130) ∧ Aside0 (Kd.R (Kd.int .i64) 3 w' w.heap.size (fun k_ => some k_ ≠ ((.slice Ao11 t111.length co11) : Value).ownBlock) v140 t137) ∧ Aside0 (Kd.Q (Kd.int .i64) 3 w' w.heap.size (fun k_ => some k_ ≠ (v140 : Value).ownBlock) (.slice Ao11 t111.length co11) t111) ∧ Aside0 (w'.heap[gb115]? = some (.cells #[.string t104, .int .i64 t105, .int .i64 t106, .int .i64 t107, .int .i64 t108, .int .i64 t109, .int .i64 t110, (.slice Ao11 t111.length co11), .bool t114] 45 (0, 0))) ∧ Aside0 (Below w.heap.size w w'))
               case atStart => exact ⟨(0), z4458, H', ⟨Nat.le_refl _⟩, ⟨rZ HO_13.out⟩, ⟨rZ HO_16.out⟩, ⟨kZ HO_116007.out⟩, ⟨bkZ⟩, ⟨zcb41⟩⟩
               case round =>
                clear H'
                (try clear c49); (try clear c50)
                obtain ⟨x22_4, rfl, HA, HK4, HO_13, HO_16, HO_116007, BK115, HB⟩ := hrel
                cases gk with
                | zero => exact absurd HA.out (by simp [laws_FnEntries.l0])
                | succ k4 =>
                 have H := HA.out
                 clear HA
                 simp only [laws_FnEntries.l0] at H
                 by_cases c51 : x22_4 < (t130.length : Int)
                 · rw [if_pos c51] at H
                   have c51b0 := dL c51
                   clear c51
                   obtain ⟨c52b0, H⟩ := sE H
                   by_cases c53 : (Op.bytesLess ((rdOf ByteArray.empty t130 x22_4).toList) t132.toList) = true
                   · rw [if_pos c53] at H
                     have c53b0 : (Op.bytesLess ((rdOf ByteArray.empty t130 x22_4).toList) t132.toList) = true := c53
                     clear c53
                     have H' := aM H
                     clear H
                     have p148 : 0 ≤ (x22_4 : Int) := of_decide_eq_true z1200
                     have q148 : x22_4 < (t130.length : Int) := of_decide_eq_true z1200
                     obtain ⟨ad148, e148, hx148_0⟩ := Kd.at_string (Kd.R_reads' HO_13.out).2.2 x22_4 p148 q148
                     cases e148
                     replace p148 := eq_true p148
                     replace q148 := eq_true q148
                     go_wp2
                     go_roundg k4
                     case measure => have := HJ6.out; have := HJ21.out; have := HJ37.out; have := HK4.out; omega
                     case rel => exact ⟨(wrap64 (x22_4 + 1)), z4458, H', ⟨by have := HJ6.out; have := HJ21.out; have := HJ37.out; have := HK4.out; omega⟩, ⟨rZ HO_13.out⟩, ⟨rZ HO_16.out⟩, ⟨kZ HO_116007.out⟩, ⟨bkZ⟩, ⟨zcb41⟩⟩
                   · rw [if_neg c53] at H
                     have c53b0 : (Op.bytesLess ((rdOf ByteArray.empty t130 x22_4).toList) t132.toList) = false := by simpa using c53
                     clear c53
                     replace H := ifS H; obtain ⟨c54, H⟩ := H
                     have c54b0 := eqE c54
                     clear c54
                     obtain rfl := Option.some.inj H
                     have p148 : 0 ≤ (x22_4 : Int) := of_decide_eq_true z1200
                     have q148 : x22_4 < (t130.length : Int) := of_decide_eq_true z1200
                     obtain ⟨ad148, e148, hx148_0⟩ := Kd.at_string (Kd.R_reads' HO_13.out).2.2 x22_4 p148 q148
                     cases e148
                     replace p148 := eq_true p148
                     replace q148 := eq_true q148
                     obtain ⟨Ao55, co55, eo55⟩ := Kd.R_slice HO_16.out
                     subst eo55
                     go_wp2
                     go_ret
                     exact ⟨z674d, zcb41⟩
                 · rw [if_neg c51] at H
                   have c51b0 := nL c51
                   clear c51
                   replace H := ifS H; obtain ⟨c56, H⟩ := H
                   have c56b0 := eqE c56
                   clear c56
                   obtain rfl := Option.some.inj H
                   obtain ⟨Ao57, co57, eo57⟩ := Kd.R_slice HO_16.out
                   subst eo57
                   go_wp2
                   go_ret
                   exact ⟨z674d, zcb41⟩
             · replace c50 := Bool.eq_false_iff.mpr c50
               subst c50
               rw [if_neg (show ¬ (false = true) by decide)] at H
               obtain rfl := Option.some.inj H
               obtain ⟨Ao58, co58, eo58⟩ := Kd.R_slice HO_16.out
               subst eo58
               go_wp2
               go_ret
               exact ⟨z674d, zcb41⟩
def laws_FnEntries.Pure : Prop := ∀ (l0 : List Int) (l1 : List Int), l0.length ≤ maxLen → l0.length * 1 ≤ 140737488351232 → (∀ x ∈ l0, (Lit.int .u8 x).wf = true) → l1.length ≤ maxLen → l1.length * 1 ≤ 140737488351232 → (∀ x ∈ l1, (Lit.int .u8 x).wf = true) → ∃ k, laws_FnEntries.f k l0 l1 = some true
theorem laws_FnEntries.walk (P : laws_FnEntries.Pure) (a0 : Option Addr) (len0 cap0 : Nat) (z0 : List Int) (a1 : Option Addr) (len1 cap1 : Nat) (z1 : List Int) (w : World) (w0 : (a0 = none ∧ len0 = 0 ∧ cap0 = 0 ∧ z0 = []) ∨ ∃ x, a0 = some x ∧ len0 ≤ cap0 ∧ cap0 ≤ maxLen ∧ z0.length = cap0 ∧ (∀ i, i < z0.length → w.cell? (x.add i) = some (.int .u8 (z0.getD i 0))) ∧ ∀ n ∈ z0, (Lit.int .u8 n).wf = true) (y0 : len0 * 1 ≤ 140737488351232) (w1 : (a1 = none ∧ len1 = 0 ∧ cap1 = 0 ∧ z1 = []) ∨ ∃ x, a1 = some x ∧ len1 ≤ cap1 ∧ cap1 ≤ maxLen ∧ z1.length = cap1 ∧ (∀ i, i < z1.length → w.cell? (x.add i) = some (.int .u8 (z1.getD i 0))) ∧ ∀ n ∈ z1, (Lit.int .u8 n).wf = true) (y1 : len1 * 1 ≤ 140737488351232) :
 Calls Try.prog 6 #[.slice a0 len0 cap0, .slice a1 len1 cap1] w fun e w' => e = .returned (.bool true) ∧ Below w.heap.size w w' := by
 obtain ⟨l0, rfl, hr0, hm0, hw0, hc0⟩ := ReadsInt.ofRowC w0
 obtain ⟨l1, rfl, hr1, hm1, hw1, hc1⟩ := ReadsInt.ofRowC w1
 obtain ⟨k, h⟩ := P l0 l1 hm0 y0 hw0 hm1 y1 hw1
 refine (laws_FnEntries.calls k _ _ l0 _ _ l1 true w (Kd.C_of_reads (d := (0 : Int)) (h1 := fun _ => rfl) hr0) hc0 (Kd.C_of_reads (d := (0 : Int)) (h1 := fun _ => rfl) hr1) hc1 h).mono ?_
 rintro e w' ⟨rfl, hd⟩
 exact ⟨rfl, hd⟩
end Go.Proofs.Ytdkokfnnebdppaa.P
namespace Go.Proofs.Ytdkokfnnebdppaa.Lem
open Go.RowKit Go.Proofs.YtdkokfnnebdppaaW.PrintWords Go.Proofs.YtdkokfnnebdppaaW.PrintLast Go.Proofs.YtdkokfnnebdppaaW.PrintMore
theorem w64 {x : Int} (h0 : -9223372036854775808 ≤ x) (h1 : x < 9223372036854775808) : wrap64 x = x := by
  unfold wrap64; omega
theorem wu64 {x : Int} (h0 : 0 ≤ x) (h1 : x < 18446744073709551616) : IntKind.u64.wrap x = x := by
  rw [IntKind.wrap_u64]; omega
theorem wu64_lo (x : Int) : 0 ≤ IntKind.u64.wrap x := by rw [IntKind.wrap_u64]; omega
theorem wu64_hi (x : Int) : IntKind.u64.wrap x < 18446744073709551616 := by rw [IntKind.wrap_u64]; omega
def Bytes (l : List Int) : Prop := ∀ x ∈ l, 0 ≤ x ∧ x < 256
theorem Bytes.of_wf {l : List Int} (h : ∀ x ∈ l, (Lit.int .u8 x).wf = true) : Bytes l := by
  intro x hx
  have := h x hx
  simp [Lit.wf, IntKind.min, IntKind.max, IntKind.signed, IntKind.bits] at this
  omega
theorem Bytes.append {a b : List Int} (ha : Bytes a) (hb : Bytes b) : Bytes (a ++ b) := by
  intro x hx
  rcases List.mem_append.1 hx with h | h
  · exact ha x h
  · exact hb x h
theorem Bytes.nil : Bytes [] := fun x hx => by simp at hx
theorem Bytes.cons {x : Int} {l : List Int} (h0 : 0 ≤ x) (h1 : x < 256) (hl : Bytes l) : Bytes (x :: l) := by
  intro y hy
  rcases List.mem_cons.1 hy with rfl | h
  · exact ⟨h0, h1⟩
  · exact hl y h
theorem Bytes.rd {l : List Int} (h : Bytes l) (i : Int) : 0 ≤ rd l i ∧ rd l i < 256 := by
  unfold Go.Proofs.YtdkokfnnebdppaaW.PrintWords.rd
  rcases Nat.lt_or_ge i.toNat l.length with hl | hl
  · rw [List.getD_eq_getElem?_getD, List.getElem?_eq_getElem hl]
    exact h _ (List.getElem_mem hl)
  · rw [List.getD_eq_getElem?_getD, List.getElem?_eq_none hl]
    simp
theorem Bytes.take {l : List Int} (h : Bytes l) (n : Nat) : Bytes (l.take n) := fun x hx => h x (List.mem_of_mem_take hx)
theorem Bytes.drop {l : List Int} (h : Bytes l) (n : Nat) : Bytes (l.drop n) := fun x hx => h x (List.mem_of_mem_drop hx)
theorem and255 {x : Int} (h0 : 0 ≤ x) (h1 : x < 18446744073709551616) : 0 ≤ Go.bits .and .u64 x 255 ∧ Go.bits .and .u64 x 255 < 256 := by
  rw [u64_and x 255 h0 h1 (by decide) (by decide)]
  have : x.toNat &&& (255 : Int).toNat ≤ (255 : Int).toNat := Nat.and_le_right
  have e : (255 : Int).toNat = 255 := rfl
  omega
theorem shr_lo {k : IntKind} {x y : Int} (h : 0 ≤ x) : 0 ≤ shr k x y := by
  unfold shr
  exact Int.ediv_nonneg h (Int.le_of_lt (Int.pow_pos (by decide)))
theorem shr_hi {k : IntKind} {x y B : Int} (h : 0 ≤ x) (h1 : x < B) : shr k x y < B := by
  unfold shr
  have : x / 2 ^ min y.toNat k.bits ≤ x := Int.ediv_le_self _ h
  omega
structure Ag where
  c : Int
  s : Int
  mi : Int
  ma : Int
  h : List Int
  f : Bool
def cap (x : Int) : Int := if x > 1000000000 then 1000000000 else x
theorem cap_le (x : Int) : cap x ≤ 1000000000 := by unfold cap; split <;> omega
theorem cap_of {x : Int} (h : x ≤ 1000000000) : cap x = x := by unfold cap; rw [if_neg (by omega)]
theorem cap_nonneg {x : Int} (h : 0 ≤ x) : 0 ≤ cap x := by unfold cap; split <;> omega
theorem cap_cap (x y : Int) (h0 : 0 ≤ y) : cap (cap x + y) = cap (x + y) := by unfold cap; split <;> split <;> omega
theorem cap_cap' (x y : Int) (h0 : 0 ≤ x) : cap (x + cap y) = cap (x + y) := by unfold cap; split <;> split <;> omega
theorem cap_over (x y : Int) (h0 : 0 ≤ y) : (decide (x > 1000000000) || decide (cap x + y > 1000000000)) = decide (x + y > 1000000000) := by
  unfold cap
  by_cases h : x > 1000000000
  · rw [decide_eq_true h, Bool.true_or, decide_eq_true (by omega)]
  · rw [decide_eq_false h, Bool.false_or, if_neg h]
theorem cap_over' (x y : Int) (h0 : 0 ≤ x) : (decide (y > 1000000000) || decide (x + cap y > 1000000000)) = decide (x + y > 1000000000) := by
  rw [Int.add_comm x (cap y), Int.add_comm x y]
  exact cap_over y x h0
def addH : List Int → List Int → List Int
  | x :: xs, y :: ys => cap (x + y) :: addH xs ys
  | _, _ => []
def overH : List Int → List Int → Bool
  | x :: xs, y :: ys => decide (x + y > 1000000000) || overH xs ys
  | _, _ => false
def Nums (l : List Int) : Prop := ∀ x ∈ l, 0 ≤ x ∧ x ≤ 1000000000
theorem Nums.tail {x : Int} {l : List Int} (h : Nums (x :: l)) : Nums l := fun y hy => h y (List.mem_cons_of_mem _ hy)
theorem Nums.head {x : Int} {l : List Int} (h : Nums (x :: l)) : 0 ≤ x ∧ x ≤ 1000000000 := h x (List.mem_cons_self ..)
theorem Nums.cons {x : Int} {l : List Int} (h0 : 0 ≤ x) (h1 : x ≤ 1000000000) (h : Nums l) : Nums (x :: l) := by
  intro y hy
  rcases List.mem_cons.1 hy with rfl | h'
  · exact ⟨h0, h1⟩
  · exact h y h'
theorem addH_comm : ∀ a b, addH a b = addH b a
  | [], [] => rfl
  | [], _ :: _ => rfl
  | _ :: _, [] => rfl
  | x :: xs, y :: ys => by simp only [addH]; rw [addH_comm xs ys, Int.add_comm]
theorem overH_comm : ∀ a b, overH a b = overH b a
  | [], [] => rfl
  | [], _ :: _ => rfl
  | _ :: _, [] => rfl
  | x :: xs, y :: ys => by simp only [overH]; rw [overH_comm xs ys, Int.add_comm]
theorem addH_length : ∀ {a b : List Int}, a.length = b.length → (addH a b).length = a.length
  | [], [], _ => rfl
  | [], _ :: _, h => by simp at h
  | _ :: _, [], h => by simp at h
  | x :: xs, y :: ys, h => by simp only [addH, List.length_cons]; rw [addH_length (by simpa using h)]
theorem addH_nums : ∀ {a b : List Int}, Nums a → Nums b → Nums (addH a b)
  | [], _, _, _ => fun _ h => by simp [addH] at h
  | _ :: _, [], _, _ => fun _ h => by simp [addH] at h
  | x :: xs, y :: ys, ha, hb => Nums.cons (cap_nonneg (by have := ha.head; have := hb.head; omega)) (cap_le _) (addH_nums ha.tail hb.tail)
theorem addH_assoc : ∀ {a b c : List Int}, Nums a → Nums b → Nums c → addH (addH a b) c = addH a (addH b c)
  | [], _, _, _, _, _ => by simp [addH]
  | _ :: _, [], _, _, _, _ => by simp [addH]
  | _ :: _, _ :: _, [], _, _, _ => by simp [addH]
  | x :: xs, y :: ys, z :: zs, ha, hb, hc => by
    have := ha.head; have := hb.head; have := hc.head
    simp only [addH]
    rw [addH_assoc ha.tail hb.tail hc.tail, cap_cap _ _ (by omega), cap_cap' _ _ (by omega), Int.add_assoc]
theorem overH_assoc : ∀ {a b c : List Int}, a.length = b.length → b.length = c.length → Nums a → Nums b → Nums c → (overH a b || overH (addH a b) c) = (overH b c || overH a (addH b c))
  | [], [], [], _, _, _, _, _ => by simp [addH, overH]
  | [], _ :: _, _, h, _, _, _, _ => by simp at h
  | _ :: _, [], _, h, _, _, _, _ => by simp at h
  | _, [], _ :: _, _, h, _, _, _ => by simp at h
  | _, _ :: _, [], _, h, _, _, _ => by simp at h
  | x :: xs, y :: ys, z :: zs, h1, h2, ha, hb, hc => by
    have := ha.head; have := hb.head; have := hc.head
    simp only [addH, overH]
    have ih := overH_assoc (by simpa using h1) (by simpa using h2) ha.tail hb.tail hc.tail
    have e1 := cap_over (x + y) z (by omega)
    have e2 := cap_over' x (y + z) (by omega)
    rw [← Int.add_assoc] at e2
    generalize decide (x + y > 1000000000) = p at *
    generalize decide (cap (x + y) + z > 1000000000) = q at *
    generalize decide (y + z > 1000000000) = r at *
    generalize decide (x + cap (y + z) > 1000000000) = t at *
    generalize overH xs ys = u at *
    generalize overH (addH xs ys) zs = v at *
    generalize overH ys zs = m at *
    generalize overH xs (addH ys zs) = n at *
    rw [← e2] at e1
    revert e1 ih
    cases p <;> cases q <;> cases r <;> cases t <;> cases u <;> cases v <;> cases m <;> cases n <;> decide
theorem addH_zero : ∀ {a b : List Int}, a.length = b.length → (∀ x ∈ a, x = 0) → Nums b → addH a b = b ∧ overH a b = false
  | [], [], _, _, _ => ⟨rfl, rfl⟩
  | [], _ :: _, h, _, _ => by simp at h
  | _ :: _, [], h, _, _ => by simp at h
  | x :: xs, y :: ys, h, h0, hb => by
    have hx : x = 0 := h0 x (List.mem_cons_self ..)
    have := hb.head
    obtain ⟨i1, i2⟩ := addH_zero (by simpa using h) (fun z hz => h0 z (List.mem_cons_of_mem _ hz)) hb.tail
    simp only [addH, overH]
    rw [i1, i2, hx, Int.zero_add, cap_of (by omega), decide_eq_false (by omega)]
    exact ⟨rfl, rfl⟩
theorem sum_addH : ∀ {a b : List Int}, a.length = b.length → overH a b = false → (addH a b).sum = a.sum + b.sum
  | [], [], _, _ => by simp [addH]
  | [], _ :: _, h, _ => by simp at h
  | _ :: _, [], h, _ => by simp at h
  | x :: xs, y :: ys, h, ho => by
    simp only [overH, Bool.or_eq_false_iff, decide_eq_false_iff_not] at ho
    have ih := sum_addH (a := xs) (b := ys) (by simpa using h) ho.2
    simp only [addH, List.sum_cons]
    rw [ih, cap_of (by omega)]
    omega
theorem Nums.sum_bound : ∀ {a : List Int}, Nums a → 0 ≤ a.sum ∧ a.sum ≤ 1000000000 * (a.length : Int)
  | [], _ => by simp
  | x :: xs, h => by
    have := h.head
    have ih := Nums.sum_bound h.tail
    simp only [List.sum_cons, List.length_cons]
    omega
theorem Nums.sum_zero : ∀ {a : List Int}, Nums a → a.sum = 0 → ∀ x ∈ a, x = 0
  | [], _, _ => by simp
  | x :: xs, h, hs => by
    have := h.head
    have ih := Nums.sum_bound h.tail
    simp only [List.sum_cons] at hs
    intro y hy
    rcases List.mem_cons.1 hy with rfl | h'
    · omega
    · exact Nums.sum_zero h.tail (by omega) y h'
structure Good (a : Ag) : Prop where
  c0 : 0 ≤ a.c
  c1 : a.c ≤ 1000000000
  len : a.h.length = 8
  nums : Nums a.h
  full : a.f = true → a.s = 0
  notfull : a.f = false → a.h.sum = a.c ∧ -1000000000 * a.c ≤ a.s ∧ a.s ≤ 1000000000 * a.c
  zero : a.c = 0 → a.mi = 0 ∧ a.ma = 0 ∧ a.h.sum = 0 ∧ a.f = false
  some : a.c ≠ 0 → -1000000000 ≤ a.mi ∧ a.mi ≤ a.ma ∧ a.ma ≤ 1000000000
def join (a b : Ag) : Ag :=
  let f := a.f || b.f || decide (a.c + b.c > 1000000000) || overH a.h b.h
  { c := cap (a.c + b.c), s := if f then 0 else a.s + b.s,
    mi := if a.c = 0 then b.mi else if b.c = 0 then a.mi else mn a.mi b.mi,
    ma := if a.c = 0 then b.ma else if b.c = 0 then a.ma else mx a.ma b.ma,
    h := addH a.h b.h, f := f }
theorem Ag.ext' {a b : Ag} (h1 : a.c = b.c) (h2 : a.s = b.s) (h3 : a.mi = b.mi) (h4 : a.ma = b.ma) (h5 : a.h = b.h) (h6 : a.f = b.f) : a = b := by
  cases a; cases b; simp_all
theorem mn_comm (a b : Int) : mn a b = mn b a := by unfold mn; split <;> split <;> omega
theorem mx_comm (a b : Int) : mx a b = mx b a := by unfold mx; split <;> split <;> omega
theorem mn_assoc (a b c : Int) : mn (mn a b) c = mn a (mn b c) := by unfold mn; (repeat' split) <;> omega
theorem mx_assoc (a b c : Int) : mx (mx a b) c = mx a (mx b c) := by unfold mx; (repeat' split) <;> omega
theorem join_comm {a b : Ag} (ha : Good a) (hb : Good b) : join a b = join b a := by
  have hf : (a.f || b.f || decide (a.c + b.c > 1000000000) || overH a.h b.h) = (b.f || a.f || decide (b.c + a.c > 1000000000) || overH b.h a.h) := by
    rw [overH_comm, Int.add_comm, Bool.or_comm a.f b.f]
  unfold join
  apply Ag.ext'
  · show cap (a.c + b.c) = cap (b.c + a.c)
    rw [Int.add_comm]
  · simp only [hf, Int.add_comm]
  · simp only
    by_cases h1 : a.c = 0
    · by_cases h2 : b.c = 0
      · rw [if_pos h1, if_pos h2, (ha.zero h1).1, (hb.zero h2).1]
      · rw [if_pos h1, if_neg h2, if_pos h1]
    · by_cases h2 : b.c = 0
      · rw [if_neg h1, if_pos h2, if_pos h2]
      · rw [if_neg h1, if_neg h2, if_neg h2, if_neg h1, mn_comm]
  · simp only
    by_cases h1 : a.c = 0
    · by_cases h2 : b.c = 0
      · rw [if_pos h1, if_pos h2, (ha.zero h1).2.1, (hb.zero h2).2.1]
      · rw [if_pos h1, if_neg h2, if_pos h1]
    · by_cases h2 : b.c = 0
      · rw [if_neg h1, if_pos h2, if_pos h2]
      · rw [if_neg h1, if_neg h2, if_neg h2, if_neg h1, mx_comm]
  · exact addH_comm _ _
  · exact hf
theorem join_zero {a b : Ag} (ha : Good a) (hb : Good b) (h : a.c = 0) : join a b = b := by
  obtain ⟨_, _, z3, z4⟩ := ha.zero h
  obtain ⟨e1, e2⟩ := addH_zero (a := a.h) (b := b.h) (by rw [ha.len, hb.len]) (ha.nums.sum_zero z3) hb.nums
  have hc := hb.c1
  have hs : a.s = 0 := by
    have := ha.notfull z4
    rw [h] at this
    omega
  have hf : (a.f || b.f || decide (a.c + b.c > 1000000000) || overH a.h b.h) = b.f := by
    rw [z4, e2, h, Int.zero_add, decide_eq_false (by omega), Bool.false_or, Bool.or_false, Bool.or_false]
  unfold join
  apply Ag.ext'
  · show cap (a.c + b.c) = b.c
    rw [h, Int.zero_add, cap_of hc]
  · simp only [hf]
    by_cases hb' : b.f = true
    · rw [if_pos hb', hb.full hb']
    · rw [if_neg hb', hs, Int.zero_add]
  · simp only; rw [if_pos h]
  · simp only; rw [if_pos h]
  · exact e1
  · exact hf
theorem join_good {a b : Ag} (ha : Good a) (hb : Good b) : Good (join a b) := by
  have a0 := ha.c0; have a1 := ha.c1; have b0 := hb.c0; have b1 := hb.c1
  by_cases h1 : a.c = 0
  · rw [join_zero ha hb h1]; exact hb
  by_cases h2 : b.c = 0
  · rw [join_comm ha hb, join_zero hb ha h2]; exact ha
  have hcc : cap (a.c + b.c) ≠ 0 := by unfold cap; split <;> omega
  obtain ⟨am1, am2, am3⟩ := ha.some h1
  obtain ⟨bm1, bm2, bm3⟩ := hb.some h2
  have hlen : a.h.length = b.h.length := by rw [ha.len, hb.len]
  refine ⟨cap_nonneg (by omega), cap_le _, (addH_length hlen).trans ha.len, addH_nums ha.nums hb.nums, ?_, ?_, fun h => absurd h hcc, fun _ => ?_⟩
  · intro hf
    show (if (join a b).f = true then (0 : Int) else a.s + b.s) = 0
    rw [if_pos hf]
  · intro hf
    have hf' : (a.f || b.f || decide (a.c + b.c > 1000000000) || overH a.h b.h) = false := hf
    simp only [Bool.or_eq_false_iff, decide_eq_false_iff_not] at hf'
    obtain ⟨⟨⟨f1, f2⟩, f3⟩, f4⟩ := hf'
    obtain ⟨x1, x2, x3⟩ := ha.notfull f1
    obtain ⟨y1, y2, y3⟩ := hb.notfull f2
    have hc : (join a b).c = a.c + b.c := cap_of (by omega)
    have hs : (join a b).s = a.s + b.s := by
      show (if (join a b).f = true then (0 : Int) else a.s + b.s) = _
      rw [if_neg (by rw [hf]; decide)]
    rw [hc, hs]
    refine ⟨?_, by omega, by omega⟩
    show (addH a.h b.h).sum = _
    rw [sum_addH hlen f4, x1, y1]
  · show -1000000000 ≤ (if a.c = 0 then b.mi else if b.c = 0 then a.mi else mn a.mi b.mi) ∧ (if a.c = 0 then b.mi else if b.c = 0 then a.mi else mn a.mi b.mi) ≤ (if a.c = 0 then b.ma else if b.c = 0 then a.ma else mx a.ma b.ma) ∧ (if a.c = 0 then b.ma else if b.c = 0 then a.ma else mx a.ma b.ma) ≤ 1000000000
    rw [if_neg h1, if_neg h2, if_neg h1, if_neg h2]
    unfold mn mx
    split <;> split <;> omega
theorem join_assoc {a b c : Ag} (ha : Good a) (hb : Good b) (hc : Good c) : join (join a b) c = join a (join b c) := by
  have a0 := ha.c0; have a1 := ha.c1; have b0 := hb.c0; have b1 := hb.c1; have d0 := hc.c0; have d1 := hc.c1
  by_cases h1 : a.c = 0
  · rw [join_zero ha hb h1, join_zero ha (join_good hb hc) h1]
  by_cases h2 : b.c = 0
  · rw [join_comm ha hb, join_zero hb ha h2, join_zero hb hc h2]
  by_cases h3 : c.c = 0
  · rw [join_comm (join_good ha hb) hc, join_zero hc (join_good ha hb) h3, join_comm hb hc, join_zero hc hb h3]
  have n1 : cap (a.c + b.c) ≠ 0 := by unfold cap; split <;> omega
  have n2 : cap (b.c + c.c) ≠ 0 := by unfold cap; split <;> omega
  have l1 : a.h.length = b.h.length := by rw [ha.len, hb.len]
  have l2 : b.h.length = c.h.length := by rw [hb.len, hc.len]
  have hover := overH_assoc l1 l2 ha.nums hb.nums hc.nums
  have o1 := cap_over (a.c + b.c) c.c d0
  have o2 := cap_over' a.c (b.c + c.c) a0
  rw [← Int.add_assoc, ← o1] at o2
  have hf : (join (join a b) c).f = (join a (join b c)).f := by
    show ((a.f || b.f || decide (a.c + b.c > 1000000000) || overH a.h b.h) || c.f || decide (cap (a.c + b.c) + c.c > 1000000000) || overH (addH a.h b.h) c.h) = (a.f || (b.f || c.f || decide (b.c + c.c > 1000000000) || overH b.h c.h) || decide (a.c + cap (b.c + c.c) > 1000000000) || overH a.h (addH b.h c.h))
    generalize decide (a.c + b.c > 1000000000) = p at *
    generalize decide (cap (a.c + b.c) + c.c > 1000000000) = q at *
    generalize decide (b.c + c.c > 1000000000) = r at *
    generalize decide (a.c + cap (b.c + c.c) > 1000000000) = t at *
    generalize overH a.h b.h = u at *
    generalize overH (addH a.h b.h) c.h = v at *
    generalize overH b.h c.h = m at *
    generalize overH a.h (addH b.h c.h) = n at *
    generalize a.f = x
    generalize b.f = y
    generalize c.f = z
    clear ha hb hc a0 a1 b0 b1 d0 d1 h1 h2 h3 n1 n2 l1 l2 o1
    revert o2 hover
    cases p <;> cases q <;> cases r <;> cases t <;> cases u <;> cases v <;> cases m <;> cases n <;> simp <;> cases x <;> cases y <;> cases z <;> decide
  have hs : (join (join a b) c).s = (join a (join b c)).s := by
    by_cases hF : (join (join a b) c).f = true
    · have hG := hf ▸ hF
      show (if (join (join a b) c).f = true then (0 : Int) else (join a b).s + c.s) = (if (join a (join b c)).f = true then (0 : Int) else a.s + (join b c).s)
      rw [if_pos hF, if_pos hG]
    · have hG : ¬ (join a (join b c)).f = true := hf ▸ hF
      have e1 : (join a b).f = false := by
        have : ((join a b).f || c.f || decide (cap (a.c + b.c) + c.c > 1000000000) || overH (addH a.h b.h) c.h) = false := Bool.eq_false_iff.2 hF
        simp only [Bool.or_eq_false_iff] at this
        exact this.1.1.1
      have e2 : (join b c).f = false := by
        have : (a.f || (join b c).f || decide (a.c + cap (b.c + c.c) > 1000000000) || overH a.h (addH b.h c.h)) = false := Bool.eq_false_iff.2 hG
        simp only [Bool.or_eq_false_iff] at this
        exact this.1.1.2
      show (if (join (join a b) c).f = true then (0 : Int) else (if (join a b).f = true then (0 : Int) else a.s + b.s) + c.s) = (if (join a (join b c)).f = true then (0 : Int) else a.s + (if (join b c).f = true then (0 : Int) else b.s + c.s))
      rw [if_neg hF, if_neg hG, if_neg (by rw [e1]; decide), if_neg (by rw [e2]; decide), Int.add_assoc]
  apply Ag.ext'
  · show cap (cap (a.c + b.c) + c.c) = cap (a.c + cap (b.c + c.c))
    rw [cap_cap _ _ d0, cap_cap' _ _ a0, Int.add_assoc]
  · exact hs
  · show (if cap (a.c + b.c) = 0 then c.mi else if c.c = 0 then (join a b).mi else mn (if a.c = 0 then b.mi else if b.c = 0 then a.mi else mn a.mi b.mi) c.mi) = (if a.c = 0 then (join b c).mi else if cap (b.c + c.c) = 0 then a.mi else mn a.mi (if b.c = 0 then c.mi else if c.c = 0 then b.mi else mn b.mi c.mi))
    rw [if_neg n1, if_neg h3, if_neg h1, if_neg h2, if_neg h1, if_neg n2, if_neg h2, if_neg h3]
    exact mn_assoc _ _ _
  · show (if cap (a.c + b.c) = 0 then c.ma else if c.c = 0 then (join a b).ma else mx (if a.c = 0 then b.ma else if b.c = 0 then a.ma else mx a.ma b.ma) c.ma) = (if a.c = 0 then (join b c).ma else if cap (b.c + c.c) = 0 then a.ma else mx a.ma (if b.c = 0 then c.ma else if c.c = 0 then b.ma else mx b.ma c.ma))
    rw [if_neg n1, if_neg h3, if_neg h1, if_neg h2, if_neg h1, if_neg n2, if_neg h2, if_neg h3]
    exact mx_assoc _ _ _
  · exact addH_assoc ha.nums hb.nums hc.nums
  · exact hf
end Go.Proofs.Ytdkokfnnebdppaa.Lem
namespace Go.Proofs.Ytdkokfnnebdppaa.Lem
open Go.RowKit Go.Proofs.Ytdkokfnnebdppaa.P Go.Proofs.YtdkokfnnebdppaaW.PrintWords Go.Proofs.YtdkokfnnebdppaaW.PrintLast Go.Proofs.YtdkokfnnebdppaaW.PrintMore
theorem within_ok (a b c : Int) : impl_within.f a b c = some (decide (b ≤ a ∧ a ≤ c)) := by
  unfold impl_within.f
  by_cases h : a ≥ b
  · rw [if_pos h]
    congr 1
    simp [show b ≤ a from h]
  · rw [if_neg h]
    congr 1
    simp [show ¬ b ≤ a from h]
theorem l1In_ok (a b c : Int) : spec_l1In.f a b c = some (decide (b ≤ a ∧ a ≤ c)) := by
  unfold spec_l1In.f
  by_cases h : a ≥ b
  · rw [if_pos h]
    congr 1
    exact decide_eq_decide.2 ⟨fun h' => ⟨h, h'⟩, fun h' => h'.2⟩
  · rw [if_neg h]
    congr 1
    exact (decide_eq_false (fun h' => h h'.1)).symm
theorem isValue_ok (v : Int) : impl_isValue.f v = some (decide (-1000000000 ≤ v ∧ v ≤ 1000000000)) := by
  unfold impl_isValue.f
  rw [within_ok, Option.bind_some]
theorem l4Value_ok (v : Int) : spec_l4Value.f v = some (decide (-1000000000 ≤ v ∧ v ≤ 1000000000)) := by
  unfold spec_l4Value.f
  rw [l1In_ok, Option.bind_some]
structure Rg (a : Ag) : Prop where
  c : -4000000000 ≤ a.c ∧ a.c ≤ 4000000000
  s : -4000000000000000000 ≤ a.s ∧ a.s ≤ 4000000000000000000
  mi : -4000000000 ≤ a.mi ∧ a.mi ≤ 4000000000
  ma : -4000000000 ≤ a.ma ∧ a.ma ≤ 4000000000
  len : a.h.length ≤ 8
  nums : ∀ x ∈ a.h, -4000000000 ≤ x ∧ x ≤ 4000000000
theorem Good.rg {a : Ag} (h : Good a) : Rg a := by
  have h0 := h.c0; have h1 := h.c1
  refine ⟨by omega, ?_, ?_, ?_, by rw [h.len]; decide, fun x hx => by have := h.nums x hx; omega⟩
  · by_cases hf : a.f = true
    · rw [h.full hf]; decide
    · have := h.notfull (Bool.eq_false_iff.2 hf)
      omega
  · by_cases hc : a.c = 0
    · have := h.zero hc; omega
    · have := h.some hc; omega
  · by_cases hc : a.c = 0
    · have := h.zero hc; omega
    · have := h.some hc; omega
theorem rd_at0 {l : List Int} {i : Nat} (h : i < l.length) : l.drop i = rd l (i : Int) :: l.drop (i + 1) := by
  rw [List.drop_eq_getElem_cons h]
  unfold Go.Proofs.YtdkokfnnebdppaaW.PrintWords.rd
  rw [Int.toNat_natCast, List.getD_eq_getElem?_getD, List.getElem?_eq_getElem h]
  rfl
theorem gi_l0 {h : List Int} (hl : h.length ≤ 8) (c s mi ma : Int) (hh : List Int) (f : Bool) (d : Nat) : ∀ (k i : Nat) (x : Int), i + d = h.length → 0 ≤ x → x ≤ 1000000000 * (i : Int) →
    (Nums (h.drop i) → impl_GoodAgg.l0 (k + d) x h (h.length : Int) (i : Int) c s mi ma hh f = impl_GoodAgg.l0 k (x + (h.drop i).sum) h (h.length : Int) (h.length : Int) c s mi ma hh f) ∧
    (¬ Nums (h.drop i) → impl_GoodAgg.l0 (k + d + 1) x h (h.length : Int) (i : Int) c s mi ma hh f = some false) := by
  induction d with
  | zero =>
    intro k i x hi h0 h1
    have hd : h.drop i = [] := List.drop_eq_nil_of_le (by omega)
    have hi' : i = h.length := by omega
    refine ⟨fun _ => ?_, fun hn => ?_⟩
    · rw [hd, List.sum_nil, Int.add_zero, hi']; rfl
    · rw [hd] at hn; exact absurd (fun x hx => by simp at hx) hn
  | succ d ih =>
    intro k i x hi h0 h1
    have hd := rd_at0 (l := h) (i := i) (by omega)
    have e1 : wrap64 ((i : Int) + 1) = ((i + 1 : Nat) : Int) := by rw [w64 (by omega) (by omega)]; omega
    by_cases hw : 0 ≤ rd h (i : Int) ∧ rd h (i : Int) ≤ 1000000000
    · have ew : wrap64 (x + rd h (i : Int)) = x + rd h (i : Int) := w64 (by omega) (by omega)
      obtain ⟨i1, i2⟩ := ih k (i + 1) (x + rd h (i : Int)) (by omega) (by omega) (by omega)
      refine ⟨fun hn => ?_, fun hn => ?_⟩
      · rw [hd] at hn
        rw [show k + (d + 1) = (k + d) + 1 by omega]
        conv => lhs; unfold impl_GoodAgg.l0
        rw [if_pos (by omega), if_pos (by omega), if_pos (by omega), within_ok, decide_eq_true hw, Option.bind_some, if_pos rfl, ew, e1, i1 hn.tail, hd, List.sum_cons, Int.add_assoc]
      · rw [hd] at hn
        have hn' : ¬ Nums (h.drop (i + 1)) := fun hn' => hn (Nums.cons hw.1 hw.2 hn')
        rw [show k + (d + 1) + 1 = (k + d + 1) + 1 by omega]
        conv => lhs; unfold impl_GoodAgg.l0
        rw [if_pos (by omega), if_pos (by omega), if_pos (by omega), within_ok, decide_eq_true hw, Option.bind_some, if_pos rfl, ew, e1, i2 hn']
    · refine ⟨fun hn => ?_, fun _ => ?_⟩
      · rw [hd] at hn; exact absurd hn.head hw
      · rw [show k + (d + 1) + 1 = (k + d + 1) + 1 by omega]
        conv => lhs; unfold impl_GoodAgg.l0
        rw [if_pos (by omega), if_pos (by omega), if_pos (by omega), within_ok, decide_eq_false hw, Option.bind_some, if_neg (by decide)]
theorem gs_l0 {h : List Int} (hl : h.length ≤ 8) (c s mi ma : Int) (hh : List Int) (f : Bool) (d : Nat) : ∀ (k i : Nat) (x : Int), i + d = h.length → 0 ≤ x → x ≤ 1000000000 * (i : Int) →
    (Nums (h.drop i) → spec_GoodAgg.l0 (k + d) x h (h.length : Int) (i : Int) c s mi ma hh f = spec_GoodAgg.l0 k (x + (h.drop i).sum) h (h.length : Int) (h.length : Int) c s mi ma hh f) ∧
    (¬ Nums (h.drop i) → spec_GoodAgg.l0 (k + d + 1) x h (h.length : Int) (i : Int) c s mi ma hh f = some false) := by
  induction d with
  | zero =>
    intro k i x hi h0 h1
    have hd : h.drop i = [] := List.drop_eq_nil_of_le (by omega)
    have hi' : i = h.length := by omega
    refine ⟨fun _ => ?_, fun hn => ?_⟩
    · rw [hd, List.sum_nil, Int.add_zero, hi']; rfl
    · rw [hd] at hn; exact absurd (fun x hx => by simp at hx) hn
  | succ d ih =>
    intro k i x hi h0 h1
    have hd := rd_at0 (l := h) (i := i) (by omega)
    have e1 : wrap64 ((i : Int) + 1) = ((i + 1 : Nat) : Int) := by rw [w64 (by omega) (by omega)]; omega
    by_cases hw : 0 ≤ rd h (i : Int) ∧ rd h (i : Int) ≤ 1000000000
    · have ew : wrap64 (x + rd h (i : Int)) = x + rd h (i : Int) := w64 (by omega) (by omega)
      obtain ⟨i1, i2⟩ := ih k (i + 1) (x + rd h (i : Int)) (by omega) (by omega) (by omega)
      refine ⟨fun hn => ?_, fun hn => ?_⟩
      · rw [hd] at hn
        rw [show k + (d + 1) = (k + d) + 1 by omega]
        conv => lhs; unfold spec_GoodAgg.l0
        rw [if_pos (by omega), if_pos (by omega), if_pos (by omega), l1In_ok, decide_eq_true hw, Option.bind_some, if_pos rfl, ew, e1, i1 hn.tail, hd, List.sum_cons, Int.add_assoc]
      · rw [hd] at hn
        have hn' : ¬ Nums (h.drop (i + 1)) := fun hn' => hn (Nums.cons hw.1 hw.2 hn')
        rw [show k + (d + 1) + 1 = (k + d + 1) + 1 by omega]
        conv => lhs; unfold spec_GoodAgg.l0
        rw [if_pos (by omega), if_pos (by omega), if_pos (by omega), l1In_ok, decide_eq_true hw, Option.bind_some, if_pos rfl, ew, e1, i2 hn']
    · refine ⟨fun hn => ?_, fun _ => ?_⟩
      · rw [hd] at hn; exact absurd hn.head hw
      · rw [show k + (d + 1) + 1 = (k + d + 1) + 1 by omega]
        conv => lhs; unfold spec_GoodAgg.l0
        rw [if_pos (by omega), if_pos (by omega), if_pos (by omega), l1In_ok, decide_eq_false hw, Option.bind_some, if_neg (by decide)]
def Tells (p : Prop) (r : Option Bool) : Prop := (p → r = some true) ∧ (¬ p → r = some false)
theorem Tells.yes {p : Prop} (h : p) : Tells p (some true) := ⟨fun _ => rfl, fun h' => absurd h h'⟩
theorem Tells.no {p : Prop} (h : ¬ p) : Tells p (some false) := ⟨fun h' => absurd h' h, fun _ => rfl⟩
theorem impl_goodAll (a : Ag) {k : Nat} (hk : 20 < k) : Tells (Good a) (impl_GoodAgg.f k a.c a.s a.mi a.ma a.h a.f) := by
  obtain ⟨c, s, mi, ma, h, f⟩ := a
  simp only
  obtain ⟨k, rfl⟩ : ∃ m, k = m + 15 := ⟨k - 15, by omega⟩
  unfold impl_GoodAgg.f
  rw [within_ok, Option.bind_some]
  by_cases hc : 0 ≤ c ∧ c ≤ 1000000000
  · rw [decide_eq_true hc, if_pos rfl]
    rw [show k + 15 = (k + 14) + 1 from rfl, impl_GoodAgg.j0]
    by_cases hl : h.length = 8
    · rw [if_neg (by simp [hl])]
      have hs := gi_l0 (h := h) (by omega) c s mi ma h f 8
      by_cases hn : Nums h
      · obtain ⟨i1, _⟩ := hs (k + 6) 0 0 (by omega) (by omega) (by omega)
        have i1' := i1 (by rw [List.drop_zero]; exact hn)
        rw [List.drop_zero, Int.zero_add] at i1'
        have e0 : ((0 : Nat) : Int) = 0 := rfl
        rw [e0] at i1'
        rw [show k + 14 = k + 6 + 8 from rfl, i1']
        have hsum := hn.sum_bound
        conv => arg 2; unfold impl_GoodAgg.l0
        rw [if_neg (by omega)]
        have em : wrap64 (-1000000000 * c) = -1000000000 * c := w64 (by omega) (by omega)
        have ep : wrap64 (1000000000 * c) = 1000000000 * c := w64 (by omega) (by omega)
        have hj3 : ∀ (b : Bool), (b = false → (f = true → s = 0) ∧ (f = false → h.sum = c ∧ -1000000000 * c ≤ s ∧ s ≤ 1000000000 * c)) → (b = true → ¬ Good ⟨c, s, mi, ma, h, f⟩) → Tells (Good ⟨c, s, mi, ma, h, f⟩) (impl_GoodAgg.j3 (k + 4) h.sum b c s mi ma h f) := by
          intro b hb hb'
          rw [show k + 4 = (k + 3) + 1 from rfl, impl_GoodAgg.j3]
          by_cases b0 : b = true
          · rw [if_pos b0]; exact .no (hb' b0)
          obtain ⟨q1, q2⟩ := hb (Bool.eq_false_iff.2 b0)
          rw [if_neg b0]
          by_cases c0 : c = 0
          · rw [if_pos c0]
            by_cases m0 : mi = 0
            · rw [if_pos m0]
              by_cases m1 : ma = 0
              · rw [if_pos m1]
                by_cases s0 : h.sum = 0
                · rw [if_pos s0]
                  cases f
                  · exact .yes ⟨hc.1, hc.2, hl, hn, q1, q2, fun _ => ⟨m0, m1, s0, rfl⟩, fun h' => absurd c0 h'⟩
                  · exact .no (fun g => absurd (g.zero c0).2.2.2 (by simp))
                · rw [if_neg s0]; exact .no (fun g => s0 (g.zero c0).2.2.1)
              · rw [if_neg m1]; exact .no (fun g => m1 (g.zero c0).2.1)
            · rw [if_neg m0]; exact .no (fun g => m0 (g.zero c0).1)
          · rw [if_neg c0, isValue_ok, Option.bind_some]
            by_cases v1 : -1000000000 ≤ mi ∧ mi ≤ 1000000000
            · rw [decide_eq_true v1, if_pos rfl, isValue_ok, Option.bind_some]
              by_cases v2 : -1000000000 ≤ ma ∧ ma ≤ 1000000000
              · rw [decide_eq_true v2, if_pos rfl]
                by_cases v3 : mi ≤ ma
                · rw [decide_eq_true v3]
                  exact .yes ⟨hc.1, hc.2, hl, hn, q1, q2, fun h' => absurd h' c0, fun _ => ⟨v1.1, v3, v2.2⟩⟩
                · rw [decide_eq_false v3]; exact .no (fun g => v3 (g.some c0).2.1)
              · rw [decide_eq_false v2, if_neg (by decide)]
                exact .no (fun g => v2 (by have := g.some c0; simp only at this; omega))
            · rw [decide_eq_false v1, if_neg (by decide)]
              exact .no (fun g => v1 (by have := g.some c0; simp only at this; omega))
        cases f
        · rw [if_neg (by decide), impl_GoodAgg.j2, if_neg (by decide), if_neg (by decide)]
          by_cases hsc : h.sum = c
          · rw [if_pos hsc, within_ok, Option.bind_some, em, ep]
            by_cases hs' : -1000000000 * c ≤ s ∧ s ≤ 1000000000 * c
            · rw [decide_eq_true hs']
              exact hj3 false (fun _ => ⟨fun h' => absurd h' (by decide), fun _ => ⟨hsc, hs'.1, hs'.2⟩⟩) (fun h' => absurd h' (by decide))
            · rw [decide_eq_false hs']
              exact hj3 true (fun h' => absurd h' (by decide)) (fun _ g => hs' (g.notfull rfl).2)
          · rw [if_neg hsc]
            exact hj3 true (fun h' => absurd h' (by decide)) (fun _ g => hsc (g.notfull rfl).1)
        · rw [if_pos rfl, impl_GoodAgg.j2]
          by_cases s0 : s = 0
          · rw [if_neg (by simp [s0]), if_pos rfl]
            exact hj3 false (fun _ => ⟨fun _ => s0, fun h' => absurd h' (by simp)⟩) (fun h' => absurd h' (by decide))
          · rw [if_pos (by simp [s0])]
            exact .no (fun g => s0 (g.full rfl))
      · obtain ⟨_, i2⟩ := hs (k + 5) 0 0 (by omega) (by omega) (by omega)
        have i2' := i2 (by rw [List.drop_zero]; exact hn)
        have e0 : ((0 : Nat) : Int) = 0 := rfl
        rw [e0] at i2'
        rw [show k + 14 = k + 5 + 8 + 1 from rfl, i2']
        exact .no (fun g => hn g.nums)
    · rw [if_pos (by simp only [bne_iff_ne, ne_eq]; omega)]
      exact .no (fun g => hl g.len)
  · rw [decide_eq_false hc, if_neg (by decide)]
    rw [show k + 15 = (k + 14) + 1 from rfl, impl_GoodAgg.j0, if_pos rfl]
    exact .no (fun g => hc ⟨g.c0, g.c1⟩)
theorem impl_good {a : Ag} (_hr : Rg a) {k : Nat} (hk : 20 < k) : Tells (Good a) (impl_GoodAgg.f k a.c a.s a.mi a.ma a.h a.f) := impl_goodAll a hk
theorem spec_goodAll (a : Ag) {k : Nat} (hk : 20 < k) : Tells (Good a) (spec_GoodAgg.f k a.c a.s a.mi a.ma a.h a.f) := by
  obtain ⟨c, s, mi, ma, h, f⟩ := a
  simp only
  obtain ⟨k, rfl⟩ : ∃ m, k = m + 15 := ⟨k - 15, by omega⟩
  unfold spec_GoodAgg.f
  rw [l1In_ok, Option.bind_some]
  by_cases hc : 0 ≤ c ∧ c ≤ 1000000000
  · rw [decide_eq_true hc, if_pos rfl]
    rw [show k + 15 = (k + 14) + 1 from rfl, spec_GoodAgg.j0]
    by_cases hl : h.length = 8
    · rw [if_neg (by simp [hl])]
      have hs := gs_l0 (h := h) (by omega) c s mi ma h f 8
      by_cases hn : Nums h
      · obtain ⟨i1, _⟩ := hs (k + 6) 0 0 (by omega) (by omega) (by omega)
        have i1' := i1 (by rw [List.drop_zero]; exact hn)
        rw [List.drop_zero, Int.zero_add] at i1'
        have e0 : ((0 : Nat) : Int) = 0 := rfl
        rw [e0] at i1'
        rw [show k + 14 = k + 6 + 8 from rfl, i1']
        have hsum := hn.sum_bound
        conv => arg 2; unfold spec_GoodAgg.l0
        rw [if_neg (by omega)]
        have em : wrap64 (-1000000000 * c) = -1000000000 * c := w64 (by omega) (by omega)
        have ep : wrap64 (1000000000 * c) = 1000000000 * c := w64 (by omega) (by omega)
        by_cases c0 : c = 0
        · rw [if_pos c0]
          by_cases s0 : h.sum = 0
          · rw [if_pos s0]
            by_cases m0 : mi = 0
            · rw [if_pos m0]
              by_cases m1 : ma = 0
              · rw [if_pos m1]
                by_cases t0 : s = 0
                · rw [if_pos t0]
                  cases f
                  · exact .yes ⟨hc.1, hc.2, hl, hn, fun _ => t0, fun _ => ⟨by simp only; omega, by simp only; omega, by simp only; omega⟩, fun _ => ⟨m0, m1, s0, rfl⟩, fun h' => absurd c0 h'⟩
                  · exact .no (fun g => absurd (g.zero c0).2.2.2 (by simp))
                · rw [if_neg t0]
                  exact .no (fun g => t0 (by have h1 := g.notfull (g.zero c0).2.2.2; simp only at h1; omega))
              · rw [if_neg m1]; exact .no (fun g => m1 (g.zero c0).2.1)
            · rw [if_neg m0]; exact .no (fun g => m0 (g.zero c0).1)
          · rw [if_neg s0]; exact .no (fun g => s0 (g.zero c0).2.2.1)
        · have hj2 : ∀ (b : Bool), (b = false → -1000000000 ≤ mi ∧ mi ≤ ma ∧ ma ≤ 1000000000) → (b = true → ¬ Good ⟨c, s, mi, ma, h, f⟩) → Tells (Good ⟨c, s, mi, ma, h, f⟩) (spec_GoodAgg.j2 (k + 5) h.sum b c s mi ma h f) := by
            intro b hb hb'
            rw [show k + 5 = (k + 4) + 1 from rfl, spec_GoodAgg.j2]
            by_cases b0 : b = true
            · rw [if_pos b0]; exact .no (hb' b0)
            have hv := hb (Bool.eq_false_iff.2 b0)
            rw [if_neg b0]
            cases f
            · rw [if_neg (by decide)]
              by_cases hsc : h.sum = c
              · rw [if_pos hsc, l1In_ok, Option.bind_some, em, ep]
                by_cases hs' : -1000000000 * c ≤ s ∧ s ≤ 1000000000 * c
                · rw [decide_eq_true hs']
                  exact .yes ⟨hc.1, hc.2, hl, hn, fun h' => absurd h' (by simp), fun _ => ⟨hsc, hs'.1, hs'.2⟩, fun h' => absurd h' c0, fun _ => hv⟩
                · rw [decide_eq_false hs']; exact .no (fun g => hs' (g.notfull rfl).2)
              · rw [if_neg hsc]; exact .no (fun g => hsc (g.notfull rfl).1)
            · rw [if_pos rfl]
              by_cases t0 : s = 0
              · rw [show (s == 0) = true from beq_iff_eq.2 t0]
                exact .yes ⟨hc.1, hc.2, hl, hn, fun _ => t0, fun h' => absurd h' (by simp), fun h' => absurd h' c0, fun _ => hv⟩
              · rw [show (s == 0) = false from beq_eq_false_iff_ne.2 t0]; exact .no (fun g => t0 (g.full rfl))
          rw [if_neg c0, l4Value_ok, Option.bind_some]
          by_cases v1 : -1000000000 ≤ mi ∧ mi ≤ 1000000000
          · rw [decide_eq_true v1, if_pos rfl, l4Value_ok, Option.bind_some]
            by_cases v2 : -1000000000 ≤ ma ∧ ma ≤ 1000000000
            · rw [decide_eq_true v2, if_pos rfl]
              by_cases v3 : mi > ma
              · rw [decide_eq_true v3]
                exact hj2 true (fun h' => absurd h' (by decide)) (fun _ g => by have := g.some c0; simp only at this; omega)
              · rw [decide_eq_false v3]
                exact hj2 false (fun _ => ⟨v1.1, by omega, v2.2⟩) (fun h' => absurd h' (by decide))
            · rw [decide_eq_false v2, if_neg (by decide)]
              exact hj2 true (fun h' => absurd h' (by decide)) (fun _ g => v2 (by have := g.some c0; simp only at this; omega))
          · rw [decide_eq_false v1, if_neg (by decide)]
            exact hj2 true (fun h' => absurd h' (by decide)) (fun _ g => v1 (by have := g.some c0; simp only at this; omega))
      · obtain ⟨_, i2⟩ := hs (k + 5) 0 0 (by omega) (by omega) (by omega)
        have i2' := i2 (by rw [List.drop_zero]; exact hn)
        have e0 : ((0 : Nat) : Int) = 0 := rfl
        rw [e0] at i2'
        rw [show k + 14 = k + 5 + 8 + 1 from rfl, i2']
        exact .no (fun g => hn g.nums)
    · rw [if_pos (by simp only [bne_iff_ne, ne_eq]; omega)]
      exact .no (fun g => hl g.len)
  · rw [decide_eq_false hc, if_neg (by decide)]
    rw [show k + 15 = (k + 14) + 1 from rfl, spec_GoodAgg.j0, if_pos rfl]
    exact .no (fun g => hc ⟨g.c0, g.c1⟩)
theorem spec_good {a : Ag} (_hr : Rg a) {k : Nat} (hk : 20 < k) : Tells (Good a) (spec_GoodAgg.f k a.c a.s a.mi a.ma a.h a.f) := spec_goodAll a hk
theorem mn_cap (x : Int) : mn x 1000000000 = cap x := by unfold mn cap; (repeat' split) <;> omega
theorem addH_snoc : ∀ {a b : List Int} (x y : Int), a.length = b.length → addH (a ++ [x]) (b ++ [y]) = addH a b ++ [cap (x + y)] ∧ overH (a ++ [x]) (b ++ [y]) = (overH a b || decide (x + y > 1000000000))
  | [], [], x, y, _ => by simp [addH, overH]
  | [], _ :: _, _, _, h => by simp at h
  | _ :: _, [], _, _, h => by simp at h
  | p :: ps, q :: qs, x, y, h => by
    obtain ⟨i1, i2⟩ := addH_snoc (a := ps) (b := qs) x y (by simpa using h)
    simp only [List.cons_append, addH, overH, i1, i2, Bool.or_assoc]
    exact ⟨trivial, trivial⟩
theorem add_take {a b : List Int} (h : a.length = b.length) {i : Nat} (hi : i < a.length) :
    addH (a.take (i + 1)) (b.take (i + 1)) = addH (a.take i) (b.take i) ++ [cap (rd a (i : Int) + rd b (i : Int))] ∧ overH (a.take (i + 1)) (b.take (i + 1)) = (overH (a.take i) (b.take i) || decide (rd a (i : Int) + rd b (i : Int) > 1000000000)) := by
  have ea : a.take (i + 1) = a.take i ++ [rd a (i : Int)] := by
    rw [List.take_add_one, List.getElem?_eq_getElem hi]
    unfold Go.Proofs.YtdkokfnnebdppaaW.PrintWords.rd
    rw [Int.toNat_natCast, List.getD_eq_getElem?_getD, List.getElem?_eq_getElem hi]
    rfl
  have eb : b.take (i + 1) = b.take i ++ [rd b (i : Int)] := by
    rw [List.take_add_one, List.getElem?_eq_getElem (by omega)]
    unfold Go.Proofs.YtdkokfnnebdppaaW.PrintWords.rd
    rw [Int.toNat_natCast, List.getD_eq_getElem?_getD, List.getElem?_eq_getElem (by omega)]
    rfl
  rw [ea, eb]
  exact addH_snoc _ _ (by rw [List.length_take, List.length_take, h])
theorem nums_rd {l : List Int} (h : Nums l) (i : Int) : 0 ≤ rd l i ∧ rd l i ≤ 1000000000 := by
  unfold Go.Proofs.YtdkokfnnebdppaaW.PrintWords.rd
  rcases Nat.lt_or_ge i.toNat l.length with hl | hl
  · rw [List.getD_eq_getElem?_getD, List.getElem?_eq_getElem hl]
    exact h _ (List.getElem_mem hl)
  · rw [List.getD_eq_getElem?_getD, List.getElem?_eq_none hl]
    simp
def endJ (a b : Ag) (c : Int) (h : List Int) (f : Bool) : Int × Int × Int × Int × List Int × Bool :=
  (c, if f then 0 else a.s + b.s, if a.c = 0 then b.mi else if b.c = 0 then a.mi else mn a.mi b.mi, if a.c = 0 then b.ma else if b.c = 0 then a.ma else mx a.ma b.ma, h, f)
def Ag.t (a : Ag) : Int × Int × Int × Int × List Int × Bool := (a.c, a.s, a.mi, a.ma, a.h, a.f)
theorem l4Own_ok {a : Ag} (ha : Good a) : spec_l4Own.f a.c a.s a.mi a.ma a.h a.f = some a.t := by
  unfold spec_l4Own.f
  rw [Option.bind_some, if_pos (by rw [ha.len]; decide), List.nil_append]
  rfl
theorem l4Join_l0 {a b : Ag} (ha : Good a) (hb : Good b) (c s mi ma : Int) (d : Nat) : ∀ (k i : Nat) (f : Bool), i + d = 8 → d < k →
    spec_l4Join.l0 k a.h (a.h.length : Int) (i : Int) b.c b.s b.mi b.ma b.h b.f c s mi ma (addH (a.h.take i) (b.h.take i)) (f || overH (a.h.take i) (b.h.take i)) = some (c, if f || overH a.h b.h then 0 else s, mi, ma, addH a.h b.h, f || overH a.h b.h) := by
  have la := ha.len
  have lb := hb.len
  induction d with
  | zero =>
    intro k i f hi hk
    obtain ⟨k, rfl⟩ : ∃ m, k = m + 1 := ⟨k - 1, by omega⟩
    have ta : a.h.take i = a.h := List.take_of_length_le (by omega)
    have tb : b.h.take i = b.h := List.take_of_length_le (by omega)
    rw [ta, tb]
    conv => lhs; unfold spec_l4Join.l0
    rw [if_neg (by omega)]
    generalize (f || overH a.h b.h) = F
    cases F <;> rfl
  | succ d ih =>
    intro k i f hi hk
    obtain ⟨k, rfl⟩ : ∃ m, k = m + 1 := ⟨k - 1, by omega⟩
    obtain ⟨e1, e2⟩ := add_take (a := a.h) (b := b.h) (by omega) (i := i) (by omega)
    have ra := nums_rd ha.nums (i : Int)
    have rb := nums_rd hb.nums (i : Int)
    have hl : (addH (a.h.take i) (b.h.take i)).length = i := by rw [addH_length (by rw [List.length_take, List.length_take, la, lb]), List.length_take]; omega
    have hnext := ih k (i + 1) f (by omega) (by omega)
    rw [e1, e2, ← Bool.or_assoc] at hnext
    have ei : wrap64 ((i : Int) + 1) = ((i + 1 : Nat) : Int) := by rw [w64 (by omega) (by omega)]; omega
    conv => lhs; unfold spec_l4Join.l0
    rw [if_pos (by omega), if_pos (by omega), if_pos (by omega), if_pos (by omega), w64 (x := rd a.h (i : Int) + rd b.h (i : Int)) (by omega) (by omega), ei]
    by_cases hc : rd a.h (i : Int) + rd b.h (i : Int) > 1000000000
    · rw [if_pos hc, if_pos (by rw [hl]; omega)]
      rw [decide_eq_true hc, Bool.or_true, show cap (rd a.h (i : Int) + rd b.h (i : Int)) = 1000000000 from by unfold cap; rw [if_pos hc]] at hnext
      exact hnext
    · rw [if_neg hc, if_pos (by rw [hl]; omega)]
      rw [decide_eq_false hc, Bool.or_false, show cap (rd a.h (i : Int) + rd b.h (i : Int)) = rd a.h (i : Int) + rd b.h (i : Int) from by unfold cap; rw [if_neg hc]] at hnext
      exact hnext
theorem l4Join_ok {a b : Ag} (ha : Good a) (hb : Good b) {k : Nat} (hk : 20 < k) : spec_l4Join.f k a.c a.s a.mi a.ma a.h a.f b.c b.s b.mi b.ma b.h b.f = some (join a b).t := by
  obtain ⟨k, rfl⟩ : ∃ m, k = m + 3 := ⟨k - 3, by omega⟩
  have a0 := ha.c0; have a1 := ha.c1; have b0 := hb.c0; have b1 := hb.c1
  unfold spec_l4Join.f
  by_cases h1 : a.c = 0
  · rw [if_pos h1, l4Own_ok hb, Option.bind_some, join_zero ha hb h1]
  rw [if_neg h1]
  by_cases h2 : b.c = 0
  · rw [if_pos h2, l4Own_ok ha, Option.bind_some, join_comm ha hb, join_zero hb ha h2]
  rw [if_neg h2]
  have ew : wrap64 (a.s + b.s) = a.s + b.s := by
    have := ha.rg.s
    have := hb.rg.s
    exact w64 (by omega) (by omega)
  rw [w64 (x := a.c + b.c) (by omega) (by omega), ew]
  have hmn : mn a.mi b.mi = if b.mi < a.mi then b.mi else a.mi := rfl
  have hmx : mx a.ma b.ma = if b.ma > a.ma then b.ma else a.ma := by unfold mx; (repeat' split) <;> omega
  have fin : ∀ (c : Int) (F : Bool), spec_l4Join.l0 k a.h (a.h.length : Int) 0 b.c b.s b.mi b.ma b.h b.f c (a.s + b.s) (mn a.mi b.mi) (mx a.ma b.ma) [] F = some (c, if F || overH a.h b.h then 0 else a.s + b.s, mn a.mi b.mi, mx a.ma b.ma, addH a.h b.h, F || overH a.h b.h) := by
    intro c F
    have := l4Join_l0 ha hb c (a.s + b.s) (mn a.mi b.mi) (mx a.ma b.ma) 8 k 0 F (by omega) (by omega)
    rw [List.take_zero, List.take_zero, show overH ([] : List Int) [] = false from rfl, Bool.or_false] at this
    exact this
  have viaJ0 : ∀ (c : Int) (F : Bool), spec_l4Join.j0 (k + 3) a.c a.s a.mi a.ma a.h a.f b.c b.s b.mi b.ma b.h b.f c (a.s + b.s) a.mi a.ma F = some (c, if F || overH a.h b.h then 0 else a.s + b.s, mn a.mi b.mi, mx a.ma b.ma, addH a.h b.h, F || overH a.h b.h) := by
    intro c F
    rw [← fin c F]
    rw [show k + 3 = (k + 2) + 1 from rfl, spec_l4Join.j0]
    have j1 : ∀ m : Int, spec_l4Join.j1 (k + 2) a.c a.s a.mi a.ma a.h a.f b.c b.s b.mi b.ma b.h b.f c (a.s + b.s) m a.ma F = spec_l4Join.l0 k a.h (a.h.length : Int) 0 b.c b.s b.mi b.ma b.h b.f c (a.s + b.s) m (mx a.ma b.ma) [] F := by
      intro m
      rw [show k + 2 = (k + 1) + 1 from rfl, spec_l4Join.j1, hmx]
      split
      · rw [spec_l4Join.j2]
      · rw [spec_l4Join.j2]
    rw [hmn]
    split
    · exact j1 _
    · exact j1 _
  have viaJ4 : ∀ (c : Int) (F : Bool), spec_l4Join.j4 (k + 3) a.c a.s a.mi a.ma a.h a.f b.c b.s b.mi b.ma b.h b.f c (a.s + b.s) a.mi a.ma F = some (c, if F || overH a.h b.h then 0 else a.s + b.s, mn a.mi b.mi, mx a.ma b.ma, addH a.h b.h, F || overH a.h b.h) := by
    intro c F
    rw [← fin c F]
    rw [show k + 3 = (k + 2) + 1 from rfl, spec_l4Join.j4]
    have j1 : ∀ m : Int, spec_l4Join.j5 (k + 2) a.c a.s a.mi a.ma a.h a.f b.c b.s b.mi b.ma b.h b.f c (a.s + b.s) m a.ma F = spec_l4Join.l0 k a.h (a.h.length : Int) 0 b.c b.s b.mi b.ma b.h b.f c (a.s + b.s) m (mx a.ma b.ma) [] F := by
      intro m
      rw [show k + 2 = (k + 1) + 1 from rfl, spec_l4Join.j5, hmx]
      split
      · rw [spec_l4Join.j6]
      · rw [spec_l4Join.j6]
    rw [hmn]
    split
    · exact j1 _
    · exact j1 _
  have he : ∀ F : Bool, F = (a.f || b.f || decide (a.c + b.c > 1000000000)) → some (join a b).t = some (cap (a.c + b.c), if F || overH a.h b.h then 0 else a.s + b.s, mn a.mi b.mi, mx a.ma b.ma, addH a.h b.h, F || overH a.h b.h) := by
    intro F hF
    subst hF
    unfold Ag.t join
    rw [if_neg h1, if_neg h2, if_neg h1, if_neg h2]
  by_cases hf : a.f = true
  · rw [if_pos hf, he true (by rw [hf, Bool.true_or, Bool.true_or])]
    by_cases hc : a.c + b.c > 1000000000
    · rw [if_pos hc, viaJ0, show cap (a.c + b.c) = 1000000000 from by unfold cap; rw [if_pos hc]]
    · rw [if_neg hc, viaJ0, show cap (a.c + b.c) = a.c + b.c from by unfold cap; rw [if_neg hc]]
  · rw [if_neg hf]
    have hf' := Bool.eq_false_iff.2 hf
    by_cases hc : a.c + b.c > 1000000000
    · rw [if_pos hc, viaJ4, he true (by rw [decide_eq_true hc, Bool.or_true]), show cap (a.c + b.c) = 1000000000 from by unfold cap; rw [if_pos hc]]
    · rw [if_neg hc, viaJ4, he b.f (by rw [hf', decide_eq_false hc, Bool.false_or, Bool.or_false]), show cap (a.c + b.c) = a.c + b.c from by unfold cap; rw [if_neg hc]]
theorem next_ok {l : List Int} (hl : Bytes l) (at_ s : Int) (h0 : 0 ≤ at_) (h1 : at_ < 4611686018427387904) :
    ∃ r s', spec_l1Cur_next.f l at_ s = some (r, at_ + 1, s') ∧ 0 ≤ r ∧ r < 256 := by
  have hw : wrap64 (at_ + 1) = at_ + 1 := w64 (by omega) (by omega)
  have hb := hl.rd at_
  have hwr : wrap64 (rd l at_) = rd l at_ := w64 (by omega) (by omega)
  unfold spec_l1Cur_next.f
  rw [hw, hwr]
  have key : ∀ x : Int, 0 ≤ wrap64 (Go.bits .and .u64 (IntKind.u64.wrap x / 1099511627776) 255) ∧ wrap64 (Go.bits .and .u64 (IntKind.u64.wrap x / 1099511627776) 255) < 256 := by
    intro x
    have hx := wu64_lo x
    have hy := wu64_hi x
    have := and255 (x := IntKind.u64.wrap x / 1099511627776) (by omega) (by omega)
    rw [w64 (by omega) (by omega)]
    exact this
  by_cases c1 : at_ < (l.length : Int)
  · rw [if_pos c1, if_pos h0]
    by_cases c2 : at_ + 1 ≤ (l.length : Int)
    · rw [if_pos c2]
      exact ⟨_, _, rfl, hb.1, hb.2⟩
    · rw [if_neg c2]
      exact ⟨_, _, rfl, key _⟩
  · rw [if_neg c1]
    by_cases c2 : at_ + 1 ≤ (l.length : Int)
    · rw [if_pos c2]
      exact ⟨_, _, rfl, by decide, by decide⟩
    · rw [if_neg c2]
      exact ⟨_, _, rfl, key _⟩
theorem tmod_ok {x n : Int} (hx : 0 ≤ x) (hn : 0 < n) : 0 ≤ Int.tmod x n ∧ Int.tmod x n < n := by
  rw [Int.tmod_eq_emod_of_nonneg hx]
  exact ⟨Int.emod_nonneg _ (by omega), Int.emod_lt_of_pos _ hn⟩
theorem pick_ok {l : List Int} (hl : Bytes l) (at_ s n : Int) (h0 : 0 ≤ at_) (h1 : at_ < 4611686018427387900) :
    ∃ r a' s', spec_l1Cur_pick.f l at_ s n = some (r, a', s') ∧ at_ ≤ a' ∧ a' ≤ at_ + 2 ∧ 0 ≤ r ∧ (1 ≤ n → r < n) ∧ (n ≤ 1 → r = 0) := by
  unfold spec_l1Cur_pick.f
  by_cases c1 : n ≤ 1
  · rw [if_pos c1]
    exact ⟨0, at_, s, rfl, by omega, by omega, by omega, fun _ => by omega, fun _ => rfl⟩
  · rw [if_neg c1]
    obtain ⟨r, s1, e, r0, r1⟩ := next_ok hl at_ s h0 (by omega)
    rw [e]
    simp only [Option.bind_some]
    by_cases c2 : n > 200
    · rw [if_pos c2]
      obtain ⟨q, s2, e2, q0, q1⟩ := next_ok hl (at_ + 1) s1 (by omega) (by omega)
      rw [e2]
      simp only [Option.bind_some]
      rw [if_neg (by omega)]
      have hw1 : wrap64 (r * 256) = r * 256 := w64 (by omega) (by omega)
      rw [hw1]
      have hw2 : wrap64 (r * 256 + q) = r * 256 + q := w64 (by omega) (by omega)
      rw [hw2]
      have ht := tmod_ok (x := r * 256 + q) (n := n) (by omega) (by omega)
      exact ⟨_, _, _, rfl, by omega, by omega, ht.1, fun _ => ht.2, fun h => by omega⟩
    · rw [if_neg c2, if_neg (by omega)]
      have ht := tmod_ok (x := r) (n := n) (by omega) (by omega)
      exact ⟨_, _, _, rfl, by omega, by omega, ht.1, fun _ => ht.2, fun h => by omega⟩
theorem one_ok {l : List Int} (hl : Bytes l) (at_ s n : Int) (h0 : 0 ≤ at_) (h1 : at_ < 4611686018427387900) :
    ∃ b a' s', spec_l1Cur_one.f l at_ s n = some (b, a', s') ∧ at_ ≤ a' ∧ a' ≤ at_ + 2 := by
  unfold spec_l1Cur_one.f
  obtain ⟨r, a', s', e, ha, hb, _⟩ := pick_ok hl at_ s n h0 h1
  rw [e]
  exact ⟨_, _, _, rfl, ha, hb⟩
theorem rd_mem {l : List Int} {i : Int} (h0 : 0 ≤ i) (h1 : i < (l.length : Int)) : rd l i ∈ l := by
  unfold Go.Proofs.YtdkokfnnebdppaaW.PrintWords.rd
  rw [List.getD_eq_getElem?_getD, List.getElem?_eq_getElem (by omega)]
  exact List.getElem_mem _
theorem among_ok {l : List Int} (hl : Bytes l) (ws : List Int) (hw : 1 ≤ ws.length) (at_ s : Int) (h0 : 0 ≤ at_) (h1 : at_ < 4611686018427387900) :
    ∃ t a' s', spec_l1Cur_among.f l at_ s ws = some (t, a', s') ∧ t ∈ ws ∧ at_ ≤ a' ∧ a' ≤ at_ + 2 := by
  unfold spec_l1Cur_among.f
  obtain ⟨r, a1, s1, e1, g1, g1', r0, r1, _⟩ := pick_ok hl at_ s (ws.length : Int) h0 h1
  have hr := r1 (by omega)
  rw [e1, Option.bind_some]; try dsimp only
  rw [if_pos r0, if_pos hr]
  exact ⟨_, _, _, rfl, rd_mem r0 hr, g1, g1'⟩
theorem bucket_l0 (v : Int) (d : Nat) : ∀ (k b : Nat) (top : Int), b + d = 7 → 1 ≤ b → d < k → ∃ r : Nat, spec_l4Bucket.l0 k v (b : Int) top = some (r : Int) ∧ 1 ≤ r ∧ r ≤ 7 := by
  induction d with
  | zero =>
    intro k b top hb h1 hk
    obtain ⟨k, rfl⟩ : ∃ m, k = m + 1 := ⟨k - 1, by omega⟩
    refine ⟨b, ?_, h1, by omega⟩
    conv => lhs; unfold spec_l4Bucket.l0
    rw [if_neg (by omega)]
  | succ d ih =>
    intro k b top hb h1 hk
    obtain ⟨k, rfl⟩ : ∃ m, k = m + 1 := ⟨k - 1, by omega⟩
    obtain ⟨r, hr, r1, r2⟩ := ih k (b + 1) (wrap64 (top * 10)) (by omega) (by omega) (by omega)
    have ei : wrap64 ((b : Int) + 1) = ((b + 1 : Nat) : Int) := by rw [w64 (by omega) (by omega)]; omega
    by_cases hv : v ≥ top
    · refine ⟨r, ?_, r1, r2⟩
      conv => lhs; unfold spec_l4Bucket.l0
      rw [if_pos (by omega), if_pos hv, ei]
      exact hr
    · refine ⟨b, ?_, h1, by omega⟩
      conv => lhs; unfold spec_l4Bucket.l0
      rw [if_pos (by omega), if_neg hv]
theorem bucket_ok (v : Int) {k : Nat} (hk : 10 < k) : ∃ r : Nat, spec_l4Bucket.f k v = some (r : Int) ∧ r ≤ 7 := by
  unfold spec_l4Bucket.f
  by_cases h : v < 0
  · rw [if_pos h]
    exact ⟨0, rfl, by omega⟩
  · rw [if_neg h]
    obtain ⟨r, hr, _, r2⟩ := bucket_l0 v 6 k 1 1 (by omega) (by omega) (by omega)
    exact ⟨r, hr, r2⟩
theorem set_good : ∀ r : Fin 8, ((List.replicate 8 (0 : Int)).set r.val 1).sum = 1 ∧ ((List.replicate 8 (0 : Int)).set r.val 1).length = 8 ∧ ∀ x ∈ (List.replicate 8 (0 : Int)).set r.val 1, 0 ≤ x ∧ x ≤ 1000000000 := by decide +kernel
theorem of_good {v : Int} (h0 : -1000000000 ≤ v) (h1 : v ≤ 1000000000) {r : Nat} (hr : r ≤ 7) : Good ⟨1, v, v, v, (List.replicate 8 0).set r 1, false⟩ := by
  obtain ⟨e1, e2, e3⟩ := set_good ⟨r, by omega⟩
  exact ⟨by simp, by simp, e2, e3, fun h => by simp at h, fun _ => ⟨e1, by simp only; omega, by simp only; omega⟩, fun h => by simp at h, fun _ => ⟨h0, Int.le_refl _, h1⟩⟩
theorem zero_good : Good ⟨0, 0, 0, 0, List.replicate 8 0, false⟩ :=
  ⟨by simp, by simp, rfl, fun x hx => by rw [List.eq_of_mem_replicate hx]; decide, fun h => by simp at h, fun _ => ⟨rfl, by simp, by simp⟩, fun _ => ⟨rfl, rfl, rfl, rfl⟩, fun h => by simp at h⟩
theorem l4Of_ok {v : Int} (h0 : -1000000000 ≤ v) (h1 : v ≤ 1000000000) {k : Nat} (hk : 10 < k) : ∃ a : Ag, Good a ∧ spec_l4Of.f k v = some a.t := by
  obtain ⟨r, hr, r7⟩ := bucket_ok v hk
  refine ⟨_, of_good h0 h1 r7, ?_⟩
  unfold spec_l4Of.f
  rw [if_pos (by decide), Option.bind_some, hr, Option.bind_some, if_pos (by omega), if_pos (by rw [List.length_replicate]; omega), Int.toNat_natCast]
  rfl
theorem value_ok {l : List Int} (hl : Bytes l) (at_ s : Int) (h0 : 0 ≤ at_) (h1 : at_ < 4611686018427380000) :
    ∃ v a' s', spec_l1Cur_value.f l at_ s = some (v, a', s') ∧ -1000000000 ≤ v ∧ v ≤ 1000000000 ∧ at_ ≤ a' ∧ a' ≤ at_ + 4 := by
  unfold spec_l1Cur_value.f
  obtain ⟨b, a1, s1, e1, g1, g1'⟩ := one_ok hl at_ s 16 h0 (by omega)
  rw [e1, Option.bind_some]; try dsimp only
  by_cases hb : b = true
  · rw [if_pos hb]
    obtain ⟨t, a2, s2, e2, m2, g2, g2'⟩ := among_ok hl [1000000000, -1000000000, 999999999] (by simp) a1 s1 (by omega) (by omega)
    have ht : -1000000000 ≤ t ∧ t ≤ 1000000000 := by simp at m2; omega
    rw [e2, Option.bind_some]
    exact ⟨t, a2, s2, rfl, ht.1, ht.2, by omega, by omega⟩
  · rw [if_neg hb]
    obtain ⟨t, a2, s2, e2, m2, g2, g2'⟩ := among_ok hl [0, 1, 9, 10, 99, 100, 1000, 99999, 100000, -1, -50, 7] (by simp) a1 s1 (by omega) (by omega)
    have ht : -1000000000 ≤ t ∧ t ≤ 1000000000 := by simp at m2; omega
    rw [e2, Option.bind_some]
    exact ⟨t, a2, s2, rfl, ht.1, ht.2, by omega, by omega⟩
structure Rg0 (a : Ag) : Prop where
  c : 0 ≤ a.c ∧ a.c ≤ 1000000000
  s : -1000000000000000000 ≤ a.s ∧ a.s ≤ 1000000000000000000
  mi : -1000000000 ≤ a.mi ∧ a.mi ≤ 1000000000
  ma : -1000000000 ≤ a.ma ∧ a.ma ≤ 1000000000
  len : a.h.length = 8
  nums : ∀ x ∈ a.h, 0 ≤ x ∧ x ≤ 2000000000
theorem Rg0.rg {a : Ag} (h : Rg0 a) : Rg a := by
  obtain ⟨r1, r2, r3, r4, r5, r6⟩ := h
  exact ⟨by omega, by omega, by omega, by omega, by omega, fun x hx => by have := r6 x hx; omega⟩
theorem Good.rg0 {a : Ag} (h : Good a) : Rg0 a := by
  have h0 := h.c0; have h1 := h.c1
  refine ⟨⟨h0, h1⟩, ?_, ?_, ?_, h.len, fun x hx => by have := h.nums x hx; omega⟩
  · by_cases hf : a.f = true
    · rw [h.full hf]; decide
    · have := h.notfull (Bool.eq_false_iff.2 hf)
      omega
  · by_cases hc : a.c = 0
    · have := h.zero hc; omega
    · have := h.some hc; omega
  · by_cases hc : a.c = 0
    · have := h.zero hc; omega
    · have := h.some hc; omega
def TellsAg (at_ : Int) (n : Int) (r : Option (Int × Int × Int × Int × List Int × Bool × Int × Int)) : Prop :=
  ∃ (a : Ag) (at' s' : Int), r = some (a.c, a.s, a.mi, a.ma, a.h, a.f, at', s') ∧ Rg a ∧ at_ ≤ at' ∧ at' ≤ at_ + n
theorem agg_j2 {l : List Int} (hl : Bytes l) {a : Ag} (ha : Rg0 a) {at_ s : Int} (h0 : 0 ≤ at_) (h1 : at_ < 4611686018427300000) (k : Nat) : TellsAg at_ 2 (spec_l1Cur_agg.j2 (k + 1) l at_ s a.c a.s a.mi a.ma a.h a.f) := by
  obtain ⟨r1, r2, r3, r4, r5, r6⟩ := ha
  obtain ⟨p, a1, s1, e1, g1, g1', _⟩ := pick_ok hl at_ s 60 h0 (by omega)
  rw [spec_l1Cur_agg.j2, e1, Option.bind_some]
  try dsimp only
  by_cases p0 : p = 0
  · rw [if_pos p0, if_pos (by omega)]
    exact ⟨⟨a.c, a.s, a.mi, a.ma, a.h.drop (1 : Int).toNat, a.f⟩, a1, s1, rfl, ⟨by simp only; omega, by simp only; omega, by simp only; omega, by simp only; omega, by simp only [List.length_drop]; omega, fun x hx => by have := r6 x (List.mem_of_mem_drop hx); omega⟩, g1, g1'⟩
  rw [if_neg p0]
  by_cases p1 : p = 1
  · rw [if_pos p1]
    have ew : wrap64 (a.ma + 1) = a.ma + 1 := w64 (by omega) (by omega)
    exact ⟨⟨a.c, a.s, wrap64 (a.ma + 1), a.ma, a.h, a.f⟩, a1, s1, rfl, ⟨by simp only; omega, by simp only; omega, by simp only [ew]; omega, by simp only; omega, by simp only; omega, fun x hx => by have := r6 x hx; omega⟩, g1, g1'⟩
  rw [if_neg p1]
  by_cases p2 : p = 2
  · rw [if_pos p2]
    exact ⟨⟨a.c, a.s, a.mi, a.ma, a.h, true⟩, a1, s1, rfl, ⟨by simp only; omega, by simp only; omega, by simp only; omega, by simp only; omega, by simp only; omega, fun x hx => by have := r6 x hx; omega⟩, g1, g1'⟩
  rw [if_neg p2]
  by_cases p3 : p = 3
  · rw [if_pos p3]
    have ew : wrap64 (a.c + 1) = a.c + 1 := w64 (by omega) (by omega)
    exact ⟨⟨wrap64 (a.c + 1), a.s, a.mi, a.ma, a.h, a.f⟩, a1, s1, rfl, ⟨by simp only [ew]; omega, by simp only; omega, by simp only; omega, by simp only; omega, by simp only; omega, fun x hx => by have := r6 x hx; omega⟩, g1, g1'⟩
  · rw [if_neg p3]
    exact ⟨a, a1, s1, rfl, ⟨by omega, by omega, by omega, by omega, by omega, fun x hx => by have := r6 x hx; omega⟩, g1, g1'⟩
theorem set_nums {l : List Int} (h : ∀ x ∈ l, 0 ≤ x ∧ x ≤ 2000000000) (n : Nat) {y : Int} (h0 : 0 ≤ y) (h1 : y ≤ 2000000000) : ∀ x ∈ l.set n y, 0 ≤ x ∧ x ≤ 2000000000 := by
  intro x hx
  rcases List.mem_or_eq_of_mem_set hx with h' | rfl
  · exact h x h'
  · exact ⟨h0, h1⟩
theorem agg_j1 {l : List Int} (hl : Bytes l) {a : Ag} (ha : Good a) {at_ s : Int} (h0 : 0 ≤ at_) (h1 : at_ < 4611686018427300000) (b : Bool) {k : Nat} (hk : 30 < k) : TellsAg at_ 2 (spec_l1Cur_agg.j1 (k + 1 + 1) b l at_ s a.c a.s a.mi a.ma a.h a.f) := by
  rw [spec_l1Cur_agg.j1]
  by_cases hb : b = true
  · have hlen := ha.len
    have h3 := nums_rd ha.nums 3
    have hc0 := ha.c0; have hc1 := ha.c1
    have e1 : wrap64 (1000000000 - a.c) = 1000000000 - a.c := w64 (by omega) (by omega)
    have e2 : wrap64 (rd a.h 3 + (1000000000 - a.c)) = rd a.h 3 + (1000000000 - a.c) := w64 (by omega) (by omega)
    have hr0 := ha.rg0
    have hset := set_nums hr0.nums (3 : Int).toNat (y := rd a.h 3 + (1000000000 - a.c)) (by omega) (by omega)
    have hr1 : Rg0 ⟨1000000000, a.s, a.mi, a.ma, a.h.set (3 : Int).toNat (rd a.h 3 + (1000000000 - a.c)), a.f⟩ := ⟨by simp, hr0.s, hr0.mi, hr0.ma, by simp only [List.length_set]; exact hlen, hset⟩
    rw [if_pos hb, if_pos (by omega), Option.bind_some, e1, e2]
    by_cases hg : Good ⟨1000000000, a.s, a.mi, a.ma, a.h.set (3 : Int).toNat (rd a.h 3 + (1000000000 - a.c)), a.f⟩
    · have := (spec_good hr1.rg (k := k + 1) (by omega)).1 hg
      simp only at this
      rw [this, Option.bind_some, if_pos rfl]
      exact agg_j2 hl hr1 h0 h1 k
    · have := (spec_good hr1.rg (k := k + 1) (by omega)).2 hg
      simp only at this
      rw [this, Option.bind_some, if_neg (by decide)]
      have hr2 : Rg0 ⟨1000000000, a.s, a.mi, a.ma, (a.h.set (3 : Int).toNat (rd a.h 3 + (1000000000 - a.c))).set (3 : Int).toNat 0, a.f⟩ := ⟨by simp, hr0.s, hr0.mi, hr0.ma, by simp only [List.length_set]; exact hlen, set_nums hset _ (by decide) (by decide)⟩
      exact agg_j2 hl hr2 h0 h1 k
  · rw [if_neg hb]
    exact agg_j2 hl ha.rg0 h0 h1 k
theorem agg_l0 {l : List Int} (hl : Bytes l) (d : Nat) : ∀ (k : Nat) (a : Ag) (at_ s : Int), Good a → 0 ≤ at_ → at_ + 10 * d < 4611686018427200000 → 50 + d < k → TellsAg at_ (10 * d + 10) (spec_l1Cur_agg.l0 k (d : Int) l at_ s a.c a.s a.mi a.ma a.h a.f) := by
  induction d with
  | zero =>
    intro k a at_ s ha h0 h1 hk
    obtain ⟨k, rfl⟩ : ∃ m, k = m + 1 + 1 + 1 := ⟨k - 3, by omega⟩
    obtain ⟨b, a1, s1, e1, g1, g1'⟩ := one_ok hl at_ s 30 h0 (by omega)
    have go : ∀ b', TellsAg at_ (10 * (0 : Nat) + 10) (spec_l1Cur_agg.j1 (k + 1 + 1) b' l a1 s1 a.c a.s a.mi a.ma a.h a.f) := by
      intro b'
      obtain ⟨x, at', s', e, r, q1, q2⟩ := agg_j1 hl ha (at_ := a1) (s := s1) (by omega) (by omega) b' (k := k) (by omega)
      exact ⟨x, at', s', e, r, by omega, by omega⟩
    conv => arg 3; unfold spec_l1Cur_agg.l0
    rw [if_neg (by omega), e1, Option.bind_some]
    try dsimp only
    by_cases hb : b = true
    · rw [if_pos hb]; exact go _
    · rw [if_neg hb]; exact go _
  | succ d ih =>
    intro k a at_ s ha h0 h1 hk
    obtain ⟨k, rfl⟩ : ∃ m, k = m + 1 := ⟨k - 1, by omega⟩
    obtain ⟨v, a1, s1, e1, v0, v1, g1, g1'⟩ := value_ok hl at_ s h0 (by omega)
    obtain ⟨y, hy, e2⟩ := l4Of_ok v0 v1 (k := k) (by omega)
    have e3 := l4Join_ok ha hy (k := k) (by omega)
    obtain ⟨x, at', s', e, r, q1, q2⟩ := ih k (join a y) a1 s1 (join_good ha hy) (by omega) (by omega) (by omega)
    refine ⟨x, at', s', ?_, r, by omega, by omega⟩
    conv => lhs; unfold spec_l1Cur_agg.l0
    rw [if_pos (by omega), e1, Option.bind_some]
    try dsimp only
    rw [e2, Option.bind_some]
    unfold Ag.t at e3 ⊢
    try dsimp only
    rw [e3, Option.bind_some]
    try dsimp only
    rw [show wrap64 (((d + 1 : Nat) : Int) - 1) = (d : Int) from by rw [w64 (by omega) (by omega)]; omega]
    exact e
theorem agg_ok {l : List Int} (hl : Bytes l) {at_ s : Int} (h0 : 0 ≤ at_) (h1 : at_ < 4611686018427100000) {k : Nat} (hk : 100 < k) : TellsAg at_ 100 (spec_l1Cur_agg.f k l at_ s) := by
  unfold spec_l1Cur_agg.f spec_l4Zero.f
  rw [if_pos (by decide), Option.bind_some]
  try dsimp only
  obtain ⟨p, a1, s1, e1, g1, g1', p0, p1, _⟩ := pick_ok hl at_ s 5 h0 (by omega)
  have hp := p1 (by omega)
  rw [e1, Option.bind_some]
  try dsimp only
  obtain ⟨x, at', s', e, r, q1, q2⟩ := agg_l0 hl p.toNat k ⟨0, 0, 0, 0, List.replicate 8 0, false⟩ a1 s1 zero_good (by omega) (by omega) (by omega)
  refine ⟨x, at', s', ?_, r, by omega, by omega⟩
  rw [show p = (p.toNat : Int) by omega]
  exact e
end Go.Proofs.Ytdkokfnnebdppaa.Lem
namespace Go.Proofs.Ytdkokfnnebdppaa.Lem
open Go
theorem less_irrefl : ∀ x : List UInt8, Op.bytesLess x x = false
  | [] => rfl
  | a :: x => by
    rw [Op.bytesLess, less_irrefl x, Bool.and_false, Bool.or_false]
    exact decide_eq_false (by rw [UInt8.lt_iff_toNat_lt]; omega)
theorem less_cons (a b : UInt8) (x y : List UInt8) : Op.bytesLess (a :: x) (b :: y) = if a = b then Op.bytesLess x y else decide (a < b) := by
  rw [Op.bytesLess]
  by_cases h : a = b
  · subst h
    rw [if_pos rfl, beq_self_eq_true, Bool.true_and, decide_eq_false (by rw [UInt8.lt_iff_toNat_lt]; omega), Bool.false_or]
  · rw [if_neg h, beq_eq_false_iff_ne.2 h, Bool.false_and, Bool.or_false]
def ord (x y : List UInt8) : Int := if Op.bytesLess x y = true then -1 else if Op.bytesLess y x = true then 1 else 0
theorem ord_self (x : List UInt8) : ord x x = 0 := by
  unfold ord
  rw [less_irrefl, if_neg (by decide), if_neg (by decide)]
theorem ord_cons (a b : UInt8) (x y : List UInt8) : ord (a :: x) (b :: y) = if a = b then ord x y else if a < b then -1 else 1 := by
  unfold ord
  rw [less_cons, less_cons]
  by_cases h : a = b
  · subst h
    rw [if_pos rfl, if_pos rfl, if_pos rfl]
  · rw [if_neg h, if_neg (Ne.symm h), if_neg h]
    have hn : a.toNat ≠ b.toNat := fun e => h (UInt8.toNat_inj.1 e)
    by_cases hl : a < b
    · rw [if_pos (decide_eq_true hl), if_pos hl]
    · rw [if_neg (by simpa using hl), if_neg hl]
      rw [UInt8.lt_iff_toNat_lt] at hl
      rw [if_pos (decide_eq_true (by rw [UInt8.lt_iff_toNat_lt]; omega))]
theorem ord_nil_cons (b : UInt8) (y : List UInt8) : ord [] (b :: y) = -1 := rfl
theorem ord_cons_nil (b : UInt8) (y : List UInt8) : ord (b :: y) [] = 1 := rfl
theorem ord_ends : ∀ (a b : List UInt8) (c d : UInt8) (x y : List UInt8), (∀ h ∈ a, d < h) → (∀ h ∈ b, c < h) →
    ord (a ++ c :: x) (b ++ d :: y) = if a = b then ord (c :: x) (d :: y) else ord a b
  | [], [], c, d, x, y, _, _ => by rw [if_pos rfl]; rfl
  | [], g :: b, c, d, x, y, _, hb => by
    have h1 : c < g := hb g (List.mem_cons_self ..)
    have hne : c ≠ g := fun e => by subst e; rw [UInt8.lt_iff_toNat_lt] at h1; omega
    rw [if_neg (by simp), ord_nil_cons, List.nil_append, List.cons_append, ord_cons, if_neg hne, if_pos h1]
  | h :: a, [], c, d, x, y, ha, _ => by
    have h1 : d < h := ha h (List.mem_cons_self ..)
    have h2 : ¬ h < d := by rw [UInt8.lt_iff_toNat_lt] at h1 ⊢; omega
    have hne : h ≠ d := fun e => by subst e; exact h2 h1
    rw [if_neg (by simp), ord_cons_nil, List.nil_append, List.cons_append, ord_cons, if_neg hne, if_neg h2]
  | h :: a, g :: b, c, d, x, y, ha, hb => by
    have ih := ord_ends a b c d x y (fun q hq => ha q (List.mem_cons_of_mem _ hq)) (fun q hq => hb q (List.mem_cons_of_mem _ hq))
    rw [List.cons_append, List.cons_append, ord_cons h g (a ++ c :: x) (b ++ d :: y), ord_cons h g a b, ih]
    by_cases e : h = g
    · subst e
      rw [if_pos rfl, if_pos rfl]
      by_cases e2 : a = b
      · rw [if_pos e2, if_pos (by rw [e2])]
      · rw [if_neg e2, if_neg (by simpa using e2)]
    · rw [if_neg e, if_neg e, if_neg (show ¬ (h :: a = g :: b) from fun q => e (by injection q))]
theorem ord_eq_zero : ∀ {a b : List UInt8}, ord a b = 0 → a = b
  | [], [], _ => rfl
  | [], g :: b, h => by rw [ord_nil_cons] at h; exact absurd h (by decide)
  | x :: a, [], h => by rw [ord_cons_nil] at h; exact absurd h (by decide)
  | x :: a, g :: b, h => by
    rw [ord_cons] at h
    by_cases e : x = g
    · subst e
      rw [if_pos rfl] at h
      rw [ord_eq_zero h]
    · rw [if_neg e] at h
      split at h <;> exact absurd h (by decide)
end Go.Proofs.Ytdkokfnnebdppaa.Lem
namespace Go.Proofs.Ytdkokfnnebdppaa.Lem
open Go Go.RowKit Go.Proofs.Ytdkokfnnebdppaa.P Go.Proofs.YtdkokfnnebdppaaW.PrintWords Go.Proofs.YtdkokfnnebdppaaW.PrintLast Go.Proofs.YtdkokfnnebdppaaW.PrintMore
def ordB (a b : ByteArray) : Int := ord a.data.toList b.data.toList
def sgnI (a b : Int) : Int := if a < b then -1 else if a > b then 1 else 0
theorem cmpS_ok (a b : ByteArray) : cmp_Compare_string.f a b = some (ordB a b) := by
  unfold cmp_Compare_string.f cmp_isNaN_string.f
  rw [bne_self_eq_false, bne_self_eq_false, Option.bind_some, Option.bind_some, if_neg (by decide), if_neg (by decide)]
  unfold ordB ord
  rw [Go.Lib.toList_data, Go.Lib.toList_data]
  split
  · rfl
  · split <;> rfl
theorem cmpI_ok (a b : Int) : cmp_Compare_int.f a b = some (sgnI a b) := by
  unfold cmp_Compare_int.f cmp_isNaN_int.f
  rw [bne_self_eq_false, bne_self_eq_false, Option.bind_some, Option.bind_some, if_neg (by decide), if_neg (by decide)]
  unfold sgnI
  split
  · rfl
  · split <;> rfl
theorem or2_ok (x y : Int) (k : Nat) : cmp_Or_int.f (k + 3) [x, y] = some (if x = 0 then y else x) := by
  unfold cmp_Or_int.f
  show cmp_Or_int.l0 (k + 3) 0 [x, y] 2 0 = _
  rw [cmp_Or_int.l0, if_pos (by decide), if_pos (by decide), if_pos (show (0 : Int) < ([x, y].length : Int) from (by decide : (0 : Int) < ((2 : Nat) : Int))), show rd [x, y] 0 = x from rfl]
  by_cases h : x = 0
  · rw [if_pos h, if_pos h, show wrap64 (0 + 1) = 1 from w64 (by decide) (by decide), cmp_Or_int.l0, if_pos (by decide), if_pos (by decide), if_pos (show (1 : Int) < ([x, y].length : Int) from (by decide : (1 : Int) < ((2 : Nat) : Int))), show rd [x, y] 1 = y from rfl]
    by_cases h2 : y = 0
    · rw [if_pos h2, show wrap64 (1 + 1) = 2 from w64 (by decide) (by decide), cmp_Or_int.l0, if_neg (by decide), h2]
    · rw [if_neg h2]
  · rw [if_neg h, if_neg h]
theorem or3_ok (x y z : Int) (k : Nat) : cmp_Or_int.f (k + 4) [x, y, z] = some (if x = 0 then (if y = 0 then z else y) else x) := by
  unfold cmp_Or_int.f
  show cmp_Or_int.l0 (k + 4) 0 [x, y, z] 3 0 = _
  rw [cmp_Or_int.l0, if_pos (by decide), if_pos (by decide), if_pos (show (0 : Int) < ([x, y, z].length : Int) from (by decide : (0 : Int) < ((3 : Nat) : Int))), show rd [x, y, z] 0 = x from rfl]
  by_cases h : x = 0
  · rw [if_pos h, if_pos h, show wrap64 (0 + 1) = 1 from w64 (by decide) (by decide), cmp_Or_int.l0, if_pos (by decide), if_pos (by decide), if_pos (show (1 : Int) < ([x, y, z].length : Int) from (by decide : (1 : Int) < ((3 : Nat) : Int))), show rd [x, y, z] 1 = y from rfl]
    by_cases h2 : y = 0
    · rw [if_pos h2, if_pos h2, show wrap64 (1 + 1) = 2 from w64 (by decide) (by decide), cmp_Or_int.l0, if_pos (by decide), if_pos (by decide), if_pos (show (2 : Int) < ([x, y, z].length : Int) from (by decide : (2 : Int) < ((3 : Nat) : Int))), show rd [x, y, z] 2 = z from rfl]
      by_cases h3 : z = 0
      · rw [if_pos h3, show wrap64 (2 + 1) = 3 from w64 (by decide) (by decide), cmp_Or_int.l0, if_neg (by decide), h3]
      · rw [if_neg h3]
    · rw [if_neg h2, if_neg h2]
  · rw [if_neg h, if_neg h]
theorem drop_get {α : Type} {l : List α} {i : Nat} (h : i < l.length) : l.drop i = l[i] :: l.drop (i + 1) := (List.drop_eq_getElem_cons h)
theorem set_copy {α β : Type} (f : α → β) (z : β) {l : List α} {i d : Nat} (h : i < l.length) : ((l.take i).map f ++ List.replicate (d + 1) z).set i (f l[i]) = (l.take (i + 1)).map f ++ List.replicate d z := by
  have hl : ((l.take i).map f).length = i := by rw [List.length_map, List.length_take]; omega
  rw [List.set_append_right _ _ (by omega), hl, Nat.sub_self, List.replicate_succ, List.set_cons_zero, List.take_succ_eq_append_getElem h, List.map_append, List.append_assoc]
  rfl
theorem set_mid {α : Type} (pre : List α) (a v : α) (rest : List α) {i : Nat} (h : i = pre.length) : (pre ++ a :: rest).set i v = pre ++ v :: rest := by
  subst h
  rw [List.set_append_right _ _ (Nat.le_refl _), Nat.sub_self, List.set_cons_zero]
theorem getD_mid {α : Type} (pre : List α) (a : α) (rest : List α) (d : α) {i : Nat} (h : i = pre.length) : (pre ++ a :: rest).getD i d = a := by
  subst h
  rw [List.getD_eq_getElem?_getD, List.getElem?_append_right (Nat.le_refl _), Nat.sub_self]
  rfl
abbrev En := S45
theorem rdE_get {l : List En} {i : Nat} (h : i < l.length) : rd_T45 l (i : Int) = l[i] := by
  unfold rd_T45
  rw [Int.toNat_natCast, List.getD_eq_getElem?_getD, List.getElem?_eq_getElem h]
  rfl
theorem wrapS {i n : Nat} (h : i < n) (hn : n ≤ 1000000000000) : wrap64 ((i : Int) + 1) = ((i + 1 : Nat) : Int) := by rw [w64 (by omega) (by omega)]; omega
def RowsE (l : List En) : Prop := ∀ e ∈ l, e.f3.f4.length ≤ 1048576
abbrev Ga := S26
def aggOf (a : Ga) : Ag := ⟨a.f0, a.f1, a.f2, a.f3, a.f4, a.f5⟩
def ZeroA (a : Ga) : Prop := a.f0 = 0 ∧ a.f1 = 0 ∧ a.f2 = 0 ∧ a.f3 = 0 ∧ a.f4.length = 0 ∧ a.f5 = false
def GoodE (e : En) : Prop := (1 ≤ (e.f0.size : Int) ∧ (e.f0.size : Int) ≤ 140) ∧ (1 ≤ e.f1 ∧ e.f1 ≤ 1000000000) ∧ (((e.f2 = 1 ∨ e.f2 = 3) ∧ Good (aggOf e.f3)) ∨ (e.f2 = 2 ∧ ZeroA e.f3))
theorem Tells.bind_id {p : Prop} {r : Option Bool} (h : Tells p r) : Tells p (r.bind fun t => some t) := by
  have e : (r.bind fun t => some t) = r := by cases r <;> rfl
  rw [e]; exact h
theorem Tells.iff {p q : Prop} {r : Option Bool} (h : Tells p r) (e : p ↔ q) : Tells q r := ⟨fun hq => h.1 (e.2 hq), fun hq => h.2 (fun hp => hq (e.1 hp))⟩
theorem Tells.both {p : Prop} {r s : Option Bool} (h : Tells p r) (h' : Tells p s) : ∃ b : Bool, r = some b ∧ s = some b ∧ (b = true ↔ p) := by
  by_cases c : p
  · exact ⟨true, h.1 c, h'.1 c, by simp [c]⟩
  · exact ⟨false, h.2 c, h'.2 c, by simp [c]⟩
theorem l5Zero_ok (a : Ga) : Tells (ZeroA a) (spec_l5Zero.f a.f0 a.f1 a.f2 a.f3 a.f4 a.f5) := by
  unfold spec_l5Zero.f ZeroA
  by_cases h0 : a.f0 = 0
  · rw [if_pos h0]
    by_cases h1 : a.f1 = 0
    · rw [if_pos h1]
      by_cases h2 : a.f2 = 0
      · rw [if_pos h2]
        by_cases h3 : a.f3 = 0
        · rw [if_pos h3]
          by_cases h4 : a.f4.length = 0
          · rw [if_pos (by omega)]
            cases h5 : a.f5
            · exact .yes ⟨h0, h1, h2, h3, h4, rfl⟩
            · exact .no (fun h => by have := h.2.2.2.2.2; simp at this)
          · rw [if_neg (by omega)]; exact .no (fun h => h4 h.2.2.2.2.1)
        · rw [if_neg h3]; exact .no (fun h => h3 h.2.2.2.1)
      · rw [if_neg h2]; exact .no (fun h => h2 h.2.2.1)
    · rw [if_neg h1]; exact .no (fun h => h1 h.2.1)
  · rw [if_neg h0]; exact .no (fun h => h0 h.1)
theorem isZero_ok (a : Ga) : Tells (ZeroA a) (impl_Agg_isZero.f a.f0 a.f1 a.f2 a.f3 a.f4 a.f5) := l5Zero_ok a
theorem spec_goodE (e : En) {k : Nat} (hk : 30 < k) : Tells (GoodE e) (spec_GoodEntry.f k e.f0 e.f1 e.f2 e.f3.f0 e.f3.f1 e.f3.f2 e.f3.f3 e.f3.f4 e.f3.f5) := by
  obtain ⟨k, rfl⟩ : ∃ q, k = q + 1 + 1 := ⟨k - 2, by omega⟩
  unfold spec_GoodEntry.f
  rw [l1In_ok, Option.bind_some]
  by_cases h0 : 1 ≤ (e.f0.size : Int) ∧ (e.f0.size : Int) ≤ 140
  · rw [decide_eq_true h0, if_pos rfl, l1In_ok, Option.bind_some]
    by_cases h1 : 1 ≤ e.f1 ∧ e.f1 ≤ 1000000000
    · rw [decide_eq_true h1, spec_GoodEntry.j0, if_neg (by decide)]
      have g := spec_goodAll (aggOf e.f3) (k := k) (by omega)
      by_cases h2 : e.f2 = 1
      · rw [if_pos h2, spec_GoodEntry.j1, if_pos (by rw [h2]; rfl)]
        exact g.bind_id.iff ⟨fun q => ⟨h0, h1, .inl ⟨.inl h2, q⟩⟩, fun q => by rcases q.2.2 with q | q; exact q.2; have := q.1; omega⟩
      · rw [if_neg h2, spec_GoodEntry.j1]
        by_cases h3 : e.f2 = 3
        · rw [if_pos (by rw [h3]; rfl)]
          exact g.bind_id.iff ⟨fun q => ⟨h0, h1, .inl ⟨.inr h3, q⟩⟩, fun q => by rcases q.2.2 with q | q; exact q.2; have := q.1; omega⟩
        · rw [if_neg (by simpa using h3)]
          by_cases h4 : e.f2 = 2
          · rw [if_pos h4]
            exact (l5Zero_ok e.f3).bind_id.iff ⟨fun q => ⟨h0, h1, .inr ⟨h4, q⟩⟩, fun q => by rcases q.2.2 with q | q; have := q.1; omega; exact q.2⟩
          · rw [if_neg h4]
            exact .no (fun q => by rcases q.2.2 with q | q; have := q.1; omega; exact h4 q.1)
    · rw [decide_eq_false h1, spec_GoodEntry.j0, if_pos (by decide)]
      exact .no (fun q => h1 q.2.1)
  · rw [decide_eq_false h0, if_neg (by decide), spec_GoodEntry.j0, if_pos rfl]
    exact .no (fun q => h0 q.1)
theorem impl_goodE (e : En) {k : Nat} (hk : 30 < k) : Tells (GoodE e) (impl_GoodEntry.f k e.f0 e.f1 e.f2 e.f3.f0 e.f3.f1 e.f3.f2 e.f3.f3 e.f3.f4 e.f3.f5) := by
  obtain ⟨k, rfl⟩ : ∃ q, k = q + 1 := ⟨k - 1, by omega⟩
  unfold impl_GoodEntry.f impl_isKeyText.f
  rw [within_ok, Option.bind_some, Option.bind_some]
  by_cases h0 : 1 ≤ (e.f0.size : Int) ∧ (e.f0.size : Int) ≤ 140
  · rw [decide_eq_true h0, if_pos rfl, within_ok, Option.bind_some]
    by_cases h1 : 1 ≤ e.f1 ∧ e.f1 ≤ 1000000000
    · rw [decide_eq_true h1, impl_GoodEntry.j0, if_neg (by decide)]
      have g := impl_goodAll (aggOf e.f3) (k := k) (by omega)
      by_cases h4 : e.f2 = 2
      · rw [if_pos h4]
        exact (isZero_ok e.f3).bind_id.iff ⟨fun q => ⟨h0, h1, .inr ⟨h4, q⟩⟩, fun q => by rcases q.2.2 with q | q; have := q.1; omega; exact q.2⟩
      · rw [if_neg h4]
        by_cases h2 : e.f2 = 1
        · rw [if_pos h2]
          exact g.bind_id.iff ⟨fun q => ⟨h0, h1, .inl ⟨.inl h2, q⟩⟩, fun q => by rcases q.2.2 with q | q; exact q.2; have := q.1; omega⟩
        · rw [if_neg h2]
          by_cases h3 : e.f2 = 3
          · rw [if_pos h3]
            exact g.bind_id.iff ⟨fun q => ⟨h0, h1, .inl ⟨.inr h3, q⟩⟩, fun q => by rcases q.2.2 with q | q; exact q.2; have := q.1; omega⟩
          · rw [if_neg h3]
            exact .no (fun q => by rcases q.2.2 with q | q; have := q.1; omega; exact h4 q.1)
    · rw [decide_eq_false h1, impl_GoodEntry.j0, if_pos (by decide)]
      exact .no (fun q => h1 q.2.1)
  · rw [decide_eq_false h0, if_neg (by decide), impl_GoodEntry.j0, if_pos rfl]
    exact .no (fun q => h0 q.1)
def Before (a b : En) : Prop := ordB a.f0 b.f0 = -1 ∨ (ordB a.f0 b.f0 = 0 ∧ a.f1 > b.f1)
theorem ordB_three (a b : ByteArray) : ordB a b = -1 ∨ ordB a b = 0 ∨ ordB a b = 1 := by
  unfold ordB ord
  split
  · exact .inl rfl
  · split
    · exact .inr (.inr rfl)
    · exact .inr (.inl rfl)
theorem ordB_zero {a b : ByteArray} : ordB a b = 0 ↔ a.toList = b.toList := by
  rw [Go.Lib.toList_data, Go.Lib.toList_data]
  exact ⟨ord_eq_zero, fun h => by unfold ordB; rw [h, ord_self]⟩
theorem ordB_lt {a b : ByteArray} : ordB a b = -1 ↔ Op.bytesLess a.toList b.toList = true := by
  rw [Go.Lib.toList_data, Go.Lib.toList_data]
  unfold ordB ord
  by_cases h : Op.bytesLess a.data.toList b.data.toList = true
  · rw [if_pos h]; exact ⟨fun _ => h, fun _ => rfl⟩
  · rw [if_neg h]
    refine ⟨fun q => ?_, fun q => absurd q h⟩
    split at q <;> simp at q
theorem l5Before_ok (a b : En) : Tells (Before a b) (spec_l5Before.f a.f0 a.f1 a.f2 a.f3.f0 a.f3.f1 a.f3.f2 a.f3.f3 a.f3.f4 a.f3.f5 b.f0 b.f1 b.f2 b.f3.f0 b.f3.f1 b.f3.f2 b.f3.f3 b.f3.f4 b.f3.f5) := by
  unfold spec_l5Before.f Before
  by_cases h : ordB a.f0 b.f0 = -1
  · rw [if_pos (ordB_lt.1 h)]; exact .yes (.inl h)
  · rw [if_neg (fun q => h (ordB_lt.2 q))]
    by_cases h0 : ordB a.f0 b.f0 = 0
    · rw [if_pos (ordB_zero.1 h0)]
      by_cases h1 : a.f1 > b.f1
      · rw [decide_eq_true h1]; exact .yes (.inr ⟨h0, h1⟩)
      · rw [decide_eq_false h1]; exact .no (fun q => by rcases q with q | q; exact h q; exact h1 q.2)
    · rw [if_neg (fun q => h0 (ordB_zero.2 q))]
      exact .no (fun q => by rcases q with q | q; exact h q; exact h0 q.1)
def cmpE (a b : En) : Int := if ordB a.f0 b.f0 = 0 then sgnI b.f1 a.f1 else ordB a.f0 b.f0
theorem compareEntries_ok (a b : En) {k : Nat} (hk : 3 < k) : impl_compareEntries.f k a.f0 a.f1 a.f2 a.f3.f0 a.f3.f1 a.f3.f2 a.f3.f3 a.f3.f4 a.f3.f5 b.f0 b.f1 b.f2 b.f3.f0 b.f3.f1 b.f3.f2 b.f3.f3 b.f3.f4 b.f3.f5 = some (cmpE a b) := by
  obtain ⟨k, rfl⟩ : ∃ q, k = q + 3 := ⟨k - 3, by omega⟩
  unfold impl_compareEntries.f
  rw [cmpS_ok, cmpI_ok, Option.bind_some, Option.bind_some, or2_ok, Option.bind_some]
  rfl
theorem cmpE_neg (a b : En) : cmpE a b < 0 ↔ Before a b := by
  unfold cmpE Before sgnI
  rcases ordB_three a.f0 b.f0 with h | h | h
  · rw [if_neg (by omega)]; exact ⟨fun _ => .inl h, fun _ => by omega⟩
  · rw [if_pos h]
    by_cases h1 : b.f1 < a.f1
    · rw [if_pos h1]; exact ⟨fun _ => .inr ⟨h, h1⟩, fun _ => by decide⟩
    · rw [if_neg h1]
      refine ⟨fun q => ?_, fun q => ?_⟩
      · split at q <;> exact absurd q (by decide)
      · rcases q with q | q
        · omega
        · exact absurd q.2 h1
  · rw [if_neg (by omega)]
    exact ⟨fun q => by omega, fun q => by rcases q with q | q <;> omega⟩
end Go.Proofs.Ytdkokfnnebdppaa.Lem
namespace Go.Proofs.Ytdkokfnnebdppaa.Lem
open Go
def FreshFrom (s : List Int) (i : Nat) : Prop := ∀ j (h : j < s.length), i ≤ j → s[j] ∉ s.take j
theorem fresh_nodup (s : List Int) : FreshFrom s 0 ↔ s.Nodup := by
  unfold List.Nodup
  rw [List.pairwise_iff_getElem]
  constructor
  · intro h i j hi hj hij he
    exact h j hj (Nat.zero_le _) (List.mem_take_iff_getElem.2 ⟨i, by omega, he⟩)
  · intro h j hj _ hm
    obtain ⟨i, hi, he⟩ := List.mem_take_iff_getElem.1 hm
    exact h i j (by omega) hj (by omega) he
theorem keeps_len (zs : List Int) : (Lib.compact zs).length = zs.length ↔ ∀ j, j < zs.length → Lib.keeps zs.toArray j = true := by
  unfold Lib.compact Lib.compactUpTo
  rw [List.length_map]
  constructor
  · intro h
    have h2 : ((List.range zs.length).filter (Lib.keeps zs.toArray)).length = (List.range zs.length).length := by rw [h, List.length_range]
    have h3 := List.length_filter_eq_length_iff.1 h2
    exact fun j hj => h3 j (List.mem_range.2 hj)
  · intro h
    rw [List.filter_eq_self.2 (fun j hj => h j (List.mem_range.1 hj)), List.length_range]
theorem compact_sort_len (s : List Int) : (Lib.compact (s.mergeSort fun x y => decide (x ≤ y))).length = s.length ↔ s.Nodup := by
  have hp := List.mergeSort_perm s (fun x y => decide (x ≤ y))
  have hs := List.pairwise_mergeSort (le := fun x y : Int => decide (x ≤ y)) (fun a b c h1 h2 => by simp at *; omega) (fun a b => by simp; omega) s
  rw [← hp.nodup_iff, ← hp.length_eq, keeps_len]
  generalize (s.mergeSort fun x y => decide (x ≤ y)) = zs at hs
  clear hp
  unfold List.Nodup
  rw [List.pairwise_iff_getElem] at hs ⊢
  constructor
  · intro h i j hi hj hij
    have hk := h j hj
    unfold Lib.keeps at hk
    simp only [decide_eq_true_eq] at hk
    rcases hk with hk | hk
    · omega
    · have e1 : zs.toArray[j]! = zs[j] := by simp [getElem!_pos, hj]
      have e2 : zs.toArray[j - 1]! = zs[j - 1] := by simp [getElem!_pos, show j - 1 < zs.length by omega]
      rw [e1, e2] at hk
      have h1 : zs[j - 1] ≤ zs[j] := by
        have := hs (j - 1) j (by omega) hj (by omega)
        simpa using this
      have h2 : zs[i] ≤ zs[j - 1] := by
        by_cases c : i = j - 1
        · subst c; exact Int.le_refl _
        · have := hs i (j - 1) hi (by omega) (by omega)
          simpa using this
      omega
  · intro h j hj
    unfold Lib.keeps
    simp only [decide_eq_true_eq]
    by_cases c : j = 0
    · exact .inl c
    · refine .inr ?_
      have e1 : zs.toArray[j]! = zs[j] := by simp [getElem!_pos, hj]
      have e2 : zs.toArray[j - 1]! = zs[j - 1] := by simp [getElem!_pos, show j - 1 < zs.length by omega]
      rw [e1, e2]
      exact fun q => h (j - 1) j (by omega) hj (by omega) q.symm
end Go.Proofs.Ytdkokfnnebdppaa.Lem
namespace Go.Proofs.Ytdkokfnnebdppaa.Lem
open Go Go.RowKit Go.Proofs.Ytdkokfnnebdppaa.P Go.Proofs.YtdkokfnnebdppaaW.PrintWords Go.Proofs.YtdkokfnnebdppaaW.PrintLast Go.Proofs.YtdkokfnnebdppaaW.PrintMore
def OkAt (l : List En) (j : Nat) : Prop := ∀ (h : j < l.length), GoodE l[j] ∧ (∀ (_ : 0 < j), Before l[j - 1] l[j])
def OkFrom (l : List En) (i : Nat) : Prop := ∀ j, i ≤ j → OkAt l j
theorem okFrom_step {l : List En} {i : Nat} : OkFrom l i ↔ OkAt l i ∧ OkFrom l (i + 1) := by
  constructor
  · exact fun h => ⟨h i (Nat.le_refl _), fun j hj => h j (by omega)⟩
  · intro ⟨h1, h2⟩ j hj
    by_cases c : i = j
    · exact c ▸ h1
    · exact h2 j (by omega)
def GoodEs (l : List En) : Prop := OkFrom l 0 ∧ (l.map (·.f1)).Nodup
theorem spec_l2 (s : List Int) (v : Int) (i : Nat) (y : List Int) (hy : y.length ≤ 1048576) : ∀ (d m k : Nat), m + d = y.length →
    (v ∈ y.drop m → spec_GoodEntries.l2 (k + d + 1) s v s (s.length : Int) (i : Int) y (y.length : Int) (m : Int) = some false) ∧
    (v ∉ y.drop m → spec_GoodEntries.l2 (k + d + 1) s v s (s.length : Int) (i : Int) y (y.length : Int) (m : Int) = spec_GoodEntries.l1 k s s (s.length : Int) (wrap64 ((i : Int) + 1))) := by
  intro d
  induction d with
  | zero =>
    intro m k hm
    refine ⟨fun h => ?_, fun h => ?_⟩
    · rw [List.drop_of_length_le (by omega)] at h; simp at h
    · rw [spec_GoodEntries.l2, if_neg (by omega)]
  | succ d ih =>
    intro m k hm
    have hlt : m < y.length := by omega
    obtain ⟨i1, i2⟩ := ih (m + 1) k (by omega)
    rw [drop_get hlt]
    have e0 : rd y (m : Int) = y[m] := by unfold rd; rw [Int.toNat_natCast, List.getD_eq_getElem?_getD, List.getElem?_eq_getElem hlt]; rfl
    refine ⟨fun h => ?_, fun h => ?_⟩
    · rw [spec_GoodEntries.l2, if_pos (by omega), if_pos (by omega), if_pos (by omega), e0]
      by_cases c : y[m] = v
      · rw [if_pos c]
      · rw [if_neg c, wrapS hlt (by omega)]
        rcases List.mem_cons.1 h with q | q
        · exact absurd q.symm c
        · exact i1 q
    · rw [spec_GoodEntries.l2, if_pos (by omega), if_pos (by omega), if_pos (by omega), e0]
      rw [if_neg (fun q => h (List.mem_cons.2 (.inl q.symm))), wrapS hlt (by omega)]
      exact i2 (fun q => h (List.mem_cons_of_mem _ q))
theorem fresh_step {s : List Int} {i : Nat} (hi : i < s.length) : FreshFrom s i ↔ s[i] ∉ s.take i ∧ FreshFrom s (i + 1) := by
  constructor
  · exact fun h => ⟨h i hi (Nat.le_refl _), fun j hj hij => h j hj (by omega)⟩
  · intro ⟨h1, h2⟩ j hj hij
    by_cases c : i = j
    · subst c; exact h1
    · exact h2 j hj (by omega)
theorem spec_l1 (s : List Int) (hs : s.length ≤ 1048576) {N : Nat} (hN : s.length + 4 ≤ N) : ∀ (d i k : Nat), i + d = s.length → d * N < k → Tells (FreshFrom s i) (spec_GoodEntries.l1 k s s (s.length : Int) (i : Int)) := by
  intro d
  induction d with
  | zero =>
    intro i k hi hk
    obtain ⟨k, rfl⟩ : ∃ q, k = q + 1 := ⟨k - 1, by omega⟩
    rw [spec_GoodEntries.l1, if_neg (by omega)]
    exact .yes (fun j hj hij => by omega)
  | succ d ih =>
    intro i k hi hk
    have hlt : i < s.length := by omega
    have ht : (s.take i).length = i := by rw [List.length_take]; omega
    have e0 : rd s (i : Int) = s[i] := by unfold rd; rw [Int.toNat_natCast, List.getD_eq_getElem?_getD, List.getElem?_eq_getElem hlt]; rfl
    rw [Nat.succ_mul] at hk
    obtain ⟨k, rfl⟩ : ∃ q, k = q + i + 1 + 1 := ⟨k - i - 2, by omega⟩
    obtain ⟨i1, i2⟩ := spec_l2 s s[i] i (s.take i) (by omega) i 0 k (by omega)
    rw [List.drop_zero] at i1 i2
    have e1 : spec_GoodEntries.l1 (k + i + 1 + 1) s s (s.length : Int) (i : Int) = spec_GoodEntries.l2 (k + i + 1) s s[i] s (s.length : Int) (i : Int) (s.take i) ((s.take i).length : Int) ((0 : Nat) : Int) := by
      rw [spec_GoodEntries.l1, if_pos (by omega), if_pos (by omega), if_pos (by omega), if_pos (by omega), Option.bind_some, e0]
      rfl
    rw [e1]
    by_cases c : s[i] ∈ s.take i
    · rw [i1 c]
      exact .no (fun q => ((fresh_step hlt).1 q).1 c)
    · rw [i2 c, wrapS hlt (by omega)]
      exact (ih (i + 1) k (by omega) (by omega)).iff ⟨fun q => (fresh_step hlt).2 ⟨c, q⟩, fun q => ((fresh_step hlt).1 q).2⟩
theorem map_step {l : List En} {i : Nat} (h : i < l.length) : (l.take i).map (·.f1) ++ [l[i].f1] = (l.take (i + 1)).map (·.f1) := by
  rw [List.take_succ_eq_append_getElem h, List.map_append]
  rfl
theorem spec_l0 (l : List En) (hl : l.length ≤ 1048576) : ∀ (d i k : Nat), i + d = l.length → 1099515822080 + d + 100 < k → Tells (OkFrom l i ∧ (l.map (·.f1)).Nodup) (spec_GoodEntries.l0 k l ((l.take i).map (·.f1)) l (l.length : Int) (i : Int)) := by
  intro d
  induction d with
  | zero =>
    intro i k hi hk
    obtain ⟨k, rfl⟩ : ∃ q, k = q + 1 := ⟨k - 1, by omega⟩
    have hm : (l.map (·.f1)).length = l.length := List.length_map ..
    have h := spec_l1 (l.map (·.f1)) (by omega) (N := 1048580) (by omega) l.length 0 k (by omega) (by omega)
    rw [spec_GoodEntries.l0, if_neg (by omega), List.take_of_length_le (by omega)]
    refine h.iff ?_
    rw [fresh_nodup]
    exact ⟨fun q => ⟨fun j hj hj2 => by omega, q⟩, fun q => q.2⟩
  | succ d ih =>
    intro i k hi hk
    obtain ⟨k, rfl⟩ : ∃ q, k = q + 1 := ⟨k - 1, by omega⟩
    have hlt : i < l.length := by omega
    have ht : ((l.take i).map (·.f1)).length = i := by rw [List.length_map, List.length_take]; omega
    have hnext := ih (i + 1) k (by omega) (by omega)
    rw [← map_step hlt] at hnext
    obtain ⟨g1, g2⟩ := spec_goodE l[i] (k := k) (by omega)
    rw [spec_GoodEntries.l0, if_pos (by omega), if_pos (by omega), if_pos (by omega), rdE_get hlt]
    by_cases c : GoodE l[i]
    · rw [g1 c, Option.bind_some, if_pos rfl]
      by_cases c0 : 0 < i
      · have e1 : wrap64 ((i : Int) - 1) = ((i - 1 : Nat) : Int) := by rw [w64 (by omega) (by omega)]; omega
        obtain ⟨b1, b2⟩ := l5Before_ok l[i - 1] l[i]
        rw [if_pos (by omega), e1, if_pos (by omega), if_pos (by omega), rdE_get (show i - 1 < l.length by omega)]
        by_cases cb : Before l[i - 1] l[i]
        · rw [b1 cb, Option.bind_some, if_pos rfl, if_pos (by omega), wrapS hlt (by omega)]
          exact hnext.iff ⟨fun q => ⟨okFrom_step.2 ⟨fun _ => ⟨c, fun _ => cb⟩, q.1⟩, q.2⟩, fun q => ⟨(okFrom_step.1 q.1).2, q.2⟩⟩
        · rw [b2 cb, Option.bind_some, if_neg (by decide)]
          exact .no (fun q => cb (((okFrom_step.1 q.1).1 hlt).2 c0))
      · rw [if_neg (by omega), if_pos (by omega), wrapS hlt (by omega)]
        exact hnext.iff ⟨fun q => ⟨okFrom_step.2 ⟨fun _ => ⟨c, fun h => absurd h c0⟩, q.1⟩, q.2⟩, fun q => ⟨(okFrom_step.1 q.1).2, q.2⟩⟩
    · rw [g2 c, Option.bind_some, if_neg (by decide)]
      exact .no (fun q => c ((okFrom_step.1 q.1).1 hlt).1)
theorem spec_goodEs (l : List En) (hl : l.length ≤ 1048576) {k : Nat} (hk : 2000000000000 < k) : Tells (GoodEs l) (spec_GoodEntries.f k l) := spec_l0 l hl l.length 0 k (by omega) (by omega)
theorem impl_l0 (l : List En) (hl : l.length ≤ 1048576) : ∀ (d i k : Nat), i + d = l.length → d + 100 < k → Tells (OkFrom l i ∧ (l.map (·.f1)).Nodup) (impl_GoodEntries.l0 k l ((l.take i).map (·.f1)) l (l.length : Int) (i : Int)) := by
  intro d
  induction d with
  | zero =>
    intro i k hi hk
    obtain ⟨k, rfl⟩ : ∃ q, k = q + 1 := ⟨k - 1, by omega⟩
    have hm : (l.map (·.f1)).length = l.length := List.length_map ..
    have hc := compact_sort_len (l.map (·.f1))
    have hle : ((l.map (·.f1)).mergeSort fun x y => decide (x ≤ y)).length = l.length := by rw [List.length_mergeSort, hm]
    rw [impl_GoodEntries.l0, if_neg (by omega), List.take_of_length_le (by omega)]
    unfold slices_Sort_int_int.f slices_Compact_int_int.f
    rw [if_pos (by omega), Option.bind_some, if_pos (by omega), Option.bind_some]
    by_cases c : (l.map (·.f1)).Nodup
    · have h := hc.2 c
      rw [h, hm, beq_self_eq_true]
      exact .yes ⟨fun j hj hj2 => by omega, c⟩
    · rw [beq_eq_false_iff_ne.2 (fun q => c (hc.1 (by rw [hm]; omega)))]
      exact .no (fun q => c q.2)
  | succ d ih =>
    intro i k hi hk
    obtain ⟨k, rfl⟩ : ∃ q, k = q + 1 := ⟨k - 1, by omega⟩
    have hlt : i < l.length := by omega
    have ht : ((l.take i).map (·.f1)).length = i := by rw [List.length_map, List.length_take]; omega
    have hnext := ih (i + 1) k (by omega) (by omega)
    rw [← map_step hlt] at hnext
    obtain ⟨g1, g2⟩ := impl_goodE l[i] (k := k) (by omega)
    rw [impl_GoodEntries.l0, if_pos (by omega), if_pos (by omega), if_pos (by omega), rdE_get hlt]
    by_cases c : GoodE l[i]
    · rw [g1 c, Option.bind_some, if_pos rfl]
      by_cases c0 : 0 < i
      · have e1 : wrap64 ((i : Int) - 1) = ((i - 1 : Nat) : Int) := by rw [w64 (by omega) (by omega)]; omega
        rw [if_pos (by omega), e1, if_pos (by omega), if_pos (by omega), rdE_get (show i - 1 < l.length by omega), compareEntries_ok _ _ (by omega), Option.bind_some]
        by_cases cb : Before l[i - 1] l[i]
        · have cb' := (cmpE_neg _ _).2 cb
          rw [if_neg (by omega), if_pos (by omega), wrapS hlt (by omega)]
          exact hnext.iff ⟨fun q => ⟨okFrom_step.2 ⟨fun _ => ⟨c, fun _ => cb⟩, q.1⟩, q.2⟩, fun q => ⟨(okFrom_step.1 q.1).2, q.2⟩⟩
        · have cb' : ¬ cmpE l[i - 1] l[i] < 0 := fun q => cb ((cmpE_neg _ _).1 q)
          rw [if_pos (by omega)]
          exact .no (fun q => cb (((okFrom_step.1 q.1).1 hlt).2 c0))
      · rw [if_neg (by omega), if_pos (by omega), wrapS hlt (by omega)]
        exact hnext.iff ⟨fun q => ⟨okFrom_step.2 ⟨fun _ => ⟨c, fun h => absurd h c0⟩, q.1⟩, q.2⟩, fun q => ⟨(okFrom_step.1 q.1).2, q.2⟩⟩
    · rw [g2 c, Option.bind_some, if_neg (by decide)]
      exact .no (fun q => c ((okFrom_step.1 q.1).1 hlt).1)
theorem impl_goodEs (l : List En) (hl : l.length ≤ 1048576) {k : Nat} (hk : 1050000 < k) : Tells (GoodEs l) (impl_GoodEntries.f k l) := impl_l0 l hl l.length 0 k (by omega) (by omega)
abbrev en (l : List En) (n : Nat) : En := rd_T45 l (n : Int)
theorem en_mem {l : List En} {n : Nat} (h : n < l.length) : en l n ∈ l := by rw [show en l n = l[n] from rdE_get h]; exact List.getElem_mem h
theorem en_cons (e : En) (r : List En) (n : Nat) : en (e :: r) (n + 1) = en r n := by
  unfold en rd_T45
  rw [Int.toNat_natCast, Int.toNat_natCast, List.getD_cons_succ]
theorem goodEs_all {l : List En} (h : GoodEs l) : ∀ e ∈ l, GoodE e := by
  intro e he
  obtain ⟨j, hj, rfl⟩ := List.getElem_of_mem he
  exact (h.1 j (Nat.zero_le _) hj).1
def LeU (x y : List UInt8) : Prop := Op.bytesLess y x = false
theorem LeU.trans : ∀ {x y z : List UInt8}, LeU x y → LeU y z → LeU x z
  | [], [], z, _, h => h
  | [], _ :: _, [], _, h => by exact absurd h (by unfold LeU Op.bytesLess; decide)
  | [], _ :: _, _ :: _, _, _ => rfl
  | _ :: _, [], _, h, _ => by exact absurd h (by unfold LeU Op.bytesLess; decide)
  | _ :: _, _ :: _, [], _, h => by exact absurd h (by unfold LeU Op.bytesLess; decide)
  | a :: x, b :: y, c :: z, h1, h2 => by
    unfold LeU at h1 h2 ⊢
    rw [less_cons] at h1 h2 ⊢
    have n1 : b ≠ a → ¬ b.toNat < a.toNat := fun e => by rw [if_neg e] at h1; simpa [UInt8.lt_iff_toNat_lt] using h1
    have n2 : c ≠ b → ¬ c.toNat < b.toNat := fun e => by rw [if_neg e] at h2; simpa [UInt8.lt_iff_toNat_lt] using h2
    by_cases e1 : b = a
    · by_cases e2 : c = b
      · rw [if_pos e1] at h1
        rw [if_pos e2] at h2
        rw [if_pos (e2.trans e1)]
        exact LeU.trans h1 h2
      · subst e1
        rw [if_neg e2]
        exact decide_eq_false (by rw [UInt8.lt_iff_toNat_lt]; exact n2 e2)
    · have e1' : b.toNat ≠ a.toNat := fun q => e1 (UInt8.toNat_inj.1 q)
      have m1 := n1 e1
      by_cases e2 : c = b
      · subst e2
        rw [if_neg e1]
        exact decide_eq_false (by rw [UInt8.lt_iff_toNat_lt]; exact m1)
      · have m2 := n2 e2
        rw [if_neg (fun q => by subst q; omega)]
        exact decide_eq_false (by rw [UInt8.lt_iff_toNat_lt]; omega)
theorem LeU.anti {x y : List UInt8} (h1 : LeU x y) (h2 : LeU y x) : x = y := by
  unfold LeU at h1 h2
  have h := less_tri x y
  rw [h1, h2] at h
  simpa using h
theorem LeU.of_before {a b : En} (h : Before a b) : LeU a.f0.toList b.f0.toList := by
  unfold LeU
  rcases h with h | h
  · rw [less_tri a.f0.toList b.f0.toList, ordB_lt.1 h, Bool.true_or]; rfl
  · rw [ordB_zero.1 h.1, less_irrefl]
theorem keys_le {l : List En} (h : GoodEs l) : ∀ (d i : Nat), i + d < l.length → LeU (en l i).f0.toList (en l (i + d)).f0.toList := by
  intro d
  induction d with
  | zero => intro i _; exact less_irrefl _
  | succ d ih =>
    intro i hi
    refine (ih i (by omega)).trans ?_
    have hb := (h.1 (i + d + 1) (Nat.zero_le _) (by omega)).2 (Nat.succ_pos _)
    have e1 : en l (i + d + 1) = l[i + d + 1] := rdE_get (by omega)
    have e2 : en l (i + d) = l[i + d + 1 - 1] := rdE_get (l := l) (i := i + d) (by omega)
    rw [show i + (d + 1) = i + d + 1 from rfl, e1, e2]
    exact LeU.of_before hb
theorem cloneI_ok {l : List Int} (h : l.length ≤ 1048576) : slices_Clone_int_int.f l = some l := by
  unfold slices_Clone_int_int.f
  rw [Option.bind_some, if_pos (by rw [List.length_nil]; omega), List.nil_append]
theorem ownA_ok (c s mi ma : Int) {l : List Int} (h : l.length ≤ 1048576) (f : Bool) : spec_l4Own.f c s mi ma l f = some (c, s, mi, ma, l, f) := by
  unfold spec_l4Own.f
  rw [Option.bind_some, if_pos (by rw [List.length_nil]; omega), List.nil_append]
theorem entryCloned_ok (e : En) (h : e.f3.f4.length ≤ 1048576) : impl_Entry_cloned.f e.f0 e.f1 e.f2 e.f3.f0 e.f3.f1 e.f3.f2 e.f3.f3 e.f3.f4 e.f3.f5 = some (e.f0, e.f1, e.f2, e.f3.f0, e.f3.f1, e.f3.f2, e.f3.f3, e.f3.f4, e.f3.f5) := by
  unfold impl_Entry_cloned.f
  rw [cloneI_ok h, Option.bind_some]
theorem l5Own_l0 {l : List En} (hl : l.length ≤ 1048576) (hh : RowsE l) : ∀ (d i k : Nat) (acc : List En), i + d = l.length → d < k → acc.length ≤ i → spec_l5Own.l0 k acc l (l.length : Int) (i : Int) = some (acc ++ l.drop i) := by
  intro d
  induction d with
  | zero =>
    intro i k acc hi hk _
    obtain ⟨k, rfl⟩ : ∃ q, k = q + 1 := ⟨k - 1, by omega⟩
    rw [spec_l5Own.l0, if_neg (by omega), List.drop_of_length_le (by omega), List.append_nil]
  | succ d ih =>
    intro i k acc hi hk ha
    obtain ⟨k, rfl⟩ : ∃ q, k = q + 1 := ⟨k - 1, by omega⟩
    have hlt : i < l.length := by omega
    have hw := hh l[i] (List.getElem_mem hlt)
    rw [spec_l5Own.l0, if_pos (by omega), if_pos (by omega), if_pos (by omega), rdE_get hlt, ownA_ok _ _ _ _ hw, Option.bind_some]
    dsimp only
    rw [if_pos (by omega), wrapS hlt (by omega), ih (i + 1) k _ (by omega) (by omega) (by rw [List.length_append, List.length_singleton]; omega), drop_get hlt, List.append_assoc]
    rfl
theorem l5Own_ok {l : List En} (hl : l.length ≤ 1048576) (hh : RowsE l) {k : Nat} (hk : 1048577 < k) : spec_l5Own.f k l = some l := l5Own_l0 hl hh l.length 0 k [] (by omega) (by omega) (Nat.le_refl _)
instance beforeDec (a b : En) : Decidable (Before a b) := inferInstanceAs (Decidable (_ ∨ _))
theorem ordB_eq {a b : ByteArray} (h : ordB a b = 0) : a = b := by
  have h1 := ordB_zero.1 h
  rw [Go.Lib.toList_data, Go.Lib.toList_data] at h1
  exact ByteArray.ext (Array.toList_inj.1 h1)
theorem ordB_trans {a b c : ByteArray} (h1 : ordB a b = -1) (h2 : ordB b c = -1) : ordB a c = -1 := by
  have l1 := ordB_lt.1 h1
  have l2 := ordB_lt.1 h2
  have e1 : LeU a.toList b.toList := by unfold LeU; rw [less_tri a.toList b.toList, l1, Bool.true_or]; rfl
  have e2 : LeU b.toList c.toList := by unfold LeU; rw [less_tri b.toList c.toList, l2, Bool.true_or]; rfl
  have e3 := e1.trans e2
  rcases ordB_three a c with h | h | h
  · exact h
  · exfalso
    have := ordB_eq h
    subst this
    unfold LeU at e2
    rw [l1] at e2
    exact absurd e2 (by decide)
  · exfalso
    unfold LeU at e3
    unfold ordB ord at h
    rw [Go.Lib.toList_data, Go.Lib.toList_data] at e3
    split at h
    · exact absurd h (by decide)
    · rw [if_neg (by rw [e3]; decide)] at h
      exact absurd h (by decide)
theorem Before.trans {a b c : En} (h1 : Before a b) (h2 : Before b c) : Before a c := by
  unfold Before at *
  rcases h1 with h1 | ⟨h1, s1⟩
  · rcases h2 with h2 | ⟨h2, _⟩
    · exact .inl (ordB_trans h1 h2)
    · rw [← ordB_eq h2]; exact .inl h1
  · rcases h2 with h2 | ⟨h2, s2⟩
    · rw [ordB_eq h1]; exact .inl h2
    · refine .inr ⟨by rw [ordB_eq h1]; exact h2, by omega⟩
theorem sorted_lt {l : List En} (h : GoodEs l) : ∀ (d i : Nat), i + d + 1 < l.length → Before (en l i) (en l (i + d + 1)) := by
  have step : ∀ i, i + 1 < l.length → Before (en l i) (en l (i + 1)) := fun i hi => by
    have hb := (h.1 (i + 1) (Nat.zero_le _) hi).2 (Nat.succ_pos _)
    have e1 : en l (i + 1) = l[i + 1] := rdE_get hi
    have e2 : en l i = l[i + 1 - 1] := rdE_get (l := l) (i := i) (by omega)
    rw [e1, e2]; exact hb
  intro d
  induction d with
  | zero => intro i hi; exact step i hi
  | succ d ih =>
    intro i hi
    exact (ih i (by omega)).trans (step (i + d + 1) hi)
def posE (e : En) : List En → Nat
  | [] => 0
  | a :: r => if Before a e then posE e r + 1 else 0
theorem pos_le (e : En) : ∀ l : List En, posE e l ≤ l.length
  | [] => Nat.le_refl _
  | a :: r => by rw [posE]; split; exact Nat.succ_le_succ (pos_le e r); exact Nat.zero_le _
theorem pos_lt (e : En) : ∀ (l : List En) (n : Nat), n < posE e l → Before (en l n) e
  | [], n, h => absurd h (Nat.not_lt_zero n)
  | a :: r, n, h => by
    rw [posE] at h
    split at h
    · rename_i c
      cases n with
      | zero => exact c
      | succ n => rw [en_cons]; exact pos_lt e r n (by omega)
    · exact absurd h (Nat.not_lt_zero n)
theorem pos_stop (e : En) : ∀ (l : List En), posE e l < l.length → ¬ Before (en l (posE e l)) e
  | [], h => absurd h (Nat.lt_irrefl 0)
  | a :: r, h => by
    rw [posE] at h ⊢
    split at h
    · rename_i c
      rw [if_pos c, en_cons]
      exact pos_stop e r (by simpa using h)
    · rename_i c
      rw [if_neg c]
      exact c
theorem pos_ge {e : En} {l : List En} (hG : GoodEs l) {n : Nat} (h : posE e l ≤ n) (hn : n < l.length) : ¬ Before (en l n) e := by
  intro hb
  have hs := pos_stop e l (by omega)
  by_cases c : posE e l = n
  · rw [c] at hs; exact hs hb
  · have h1 := sorted_lt hG (n - posE e l - 1) (posE e l) (by omega)
    rw [show posE e l + (n - posE e l - 1) + 1 = n by omega] at h1
    exact hs (h1.trans hb)
section
set_option linter.unusedSectionVars false
variable {l : List En} {e : En} (hl : l.length ≤ 1048576) (hG : GoodEs l)
include hl hG
theorem search_l0 : ∀ (d i j k : Nat), j - i ≤ d → i ≤ posE e l → posE e l ≤ j → j ≤ l.length → d + 10 < k →
    ∃ b, impl_Entry_with_impl_compareEntries.l0 k l (l.length : Int) (i : Int) (j : Int) e.f0 e.f1 e.f2 e.f3.f0 e.f3.f1 e.f3.f2 e.f3.f3 e.f3.f4 e.f3.f5 = some ((posE e l : Int), b) := by
  intro d
  induction d with
  | zero =>
    intro i j k hd h1 h2 h3 hk
    obtain ⟨k, rfl⟩ : ∃ q, k = q + 1 := ⟨k - 1, by omega⟩
    obtain rfl : i = posE e l := by omega
    rw [impl_Entry_with_impl_compareEntries.l0, if_neg (by omega)]
    by_cases c : posE e l < l.length
    · rw [if_pos (by omega), if_pos (by omega), if_pos (by omega), compareEntries_ok (rd_T45 l (posE e l : Int)) e (by omega), Option.bind_some]
      exact ⟨_, rfl⟩
    · rw [if_neg (by omega)]
      exact ⟨_, rfl⟩
  | succ d ih =>
    intro i j k hd h1 h2 h3 hk
    obtain ⟨k, rfl⟩ : ∃ q, k = q + 1 := ⟨k - 1, by omega⟩
    by_cases hij : i < j
    · have hm : wrap64 ((IntKind.u64.wrap (wrap64 ((i : Int) + (j : Int)))) / 2) = (((i + j) / 2 : Nat) : Int) := by
        rw [w64 (x := (i : Int) + (j : Int)) (by omega) (by omega), wu64 (by omega) (by omega), w64 (by omega) (by omega)]; omega
      obtain ⟨m, hme⟩ : ∃ m, m = (i + j) / 2 := ⟨_, rfl⟩
      rw [impl_Entry_with_impl_compareEntries.l0, if_pos (by omega), hm, ← hme, if_pos (by omega), if_pos (by omega), compareEntries_ok (rd_T45 l (m : Int)) e (by omega), Option.bind_some]
      by_cases cb : Before (en l m) e
      · rw [if_pos ((cmpE_neg (en l m) e).2 cb), wrapS (n := l.length) (by omega) (by omega)]
        exact ih (m + 1) j k (by omega) (by
          rcases Nat.lt_or_ge m (posE e l) with q | q
          · omega
          · exact absurd cb (pos_ge hG q (by omega))) h2 h3 (by omega)
      · rw [if_neg (fun q => cb ((cmpE_neg (en l m) e).1 q))]
        exact ih i m k (by omega) h1 (by
          rcases Nat.lt_or_ge m (posE e l) with q | q
          · exact absurd (pos_lt e l m q) cb
          · exact q) (by omega) (by omega)
    · exact ih i j (k + 1) (by omega) h1 h2 h3 (by omega)
theorem search_ok {k : Nat} (hk : 2000000 < k) : ∃ b, impl_Entry_with_impl_compareEntries.f k l e.f0 e.f1 e.f2 e.f3.f0 e.f3.f1 e.f3.f2 e.f3.f3 e.f3.f4 e.f3.f5 = some ((posE e l : Int), b) :=
  search_l0 hl hG l.length 0 l.length k (by omega) (Nat.zero_le _) (pos_le e l) (Nat.le_refl _) (by omega)
end
def putL (e : En) (l : List En) : List En := l.take (posE e l) ++ [e] ++ l.drop (posE e l)
theorem putL_len (e : En) (l : List En) : (putL e l).length = l.length + 1 := by
  have := pos_le e l
  unfold putL
  simp only [List.length_append, List.length_take, List.length_drop, List.length_singleton]; omega
theorem putL_rows {e : En} {l : List En} (h : RowsE l) (he : e.f3.f4.length ≤ 1048576) : RowsE (putL e l) := by
  intro x hx
  unfold putL at hx
  rcases List.mem_append.1 hx with hx | hx
  · rcases List.mem_append.1 hx with hx | hx
    · exact h x (List.mem_of_mem_take hx)
    · rw [List.mem_singleton.1 hx]; exact he
  · exact h x (List.mem_of_mem_drop hx)
theorem clonedE_l0 {l : List En} (hl : l.length ≤ 1048576) (hh : RowsE l) : ∀ (d i k : Nat) (acc : List En), i + d = l.length → d < k → acc.length ≤ i → impl_clonedEntries.l0 k acc l (l.length : Int) (i : Int) = some (acc ++ l.drop i) := by
  intro d
  induction d with
  | zero =>
    intro i k acc hi hk _
    obtain ⟨k, rfl⟩ : ∃ q, k = q + 1 := ⟨k - 1, by omega⟩
    rw [impl_clonedEntries.l0, if_neg (by omega), List.drop_of_length_le (by omega), List.append_nil]
  | succ d ih =>
    intro i k acc hi hk ha
    obtain ⟨k, rfl⟩ : ∃ q, k = q + 1 := ⟨k - 1, by omega⟩
    have hlt : i < l.length := by omega
    have hw := hh l[i] (List.getElem_mem hlt)
    rw [impl_clonedEntries.l0, if_pos (by omega), if_pos (by omega), if_pos (by omega), rdE_get hlt, entryCloned_ok _ hw, Option.bind_some]
    dsimp only
    rw [if_pos (by omega), wrapS hlt (by omega), ih (i + 1) k _ (by omega) (by omega) (by rw [List.length_append, List.length_singleton]; omega), drop_get hlt, List.append_assoc]
    rfl
theorem clonedE_ok {l : List En} (hl : l.length ≤ 1048576) (hh : RowsE l) {k : Nat} (hk : 1048577 < k) : impl_clonedEntries.f k l = some l := clonedE_l0 hl hh l.length 0 k [] (by omega) (by omega) (Nat.le_refl _)
theorem withEntry_ok {l : List En} {e : En} (hl : l.length ≤ 1048576) (hG : GoodEs l) (hh : RowsE l) (he : e.f3.f4.length ≤ 1048576) {k : Nat} (hk : 2000000 < k) : impl_withEntry.f k l e.f0 e.f1 e.f2 e.f3.f0 e.f3.f1 e.f3.f2 e.f3.f3 e.f3.f4 e.f3.f5 = some (putL e l) := by
  obtain ⟨b, hb⟩ := search_ok (e := e) hl hG hk
  have := pos_le e l
  unfold impl_withEntry.f
  rw [hb, Option.bind_some, clonedE_ok hl hh (by omega), Option.bind_some, entryCloned_ok e he, Option.bind_some]
  unfold impl_withEntry.ins
  rw [if_pos ⟨by omega, by omega, rfl, by omega⟩, Option.bind_some, Int.toNat_natCast]
  rfl
theorem l5Put_l0 {l : List En} {e : En} (hl : l.length ≤ 1048576) : ∀ (d i k : Nat), i + d = posE e l → d < k → spec_l5Put.l0 k l (i : Int) e.f0 e.f1 e.f2 e.f3.f0 e.f3.f1 e.f3.f2 e.f3.f3 e.f3.f4 e.f3.f5 = some (putL e l) := by
  have hp := pos_le e l
  have hend : ∀ k, spec_l5Put.l0 (k + 1) l (posE e l : Int) e.f0 e.f1 e.f2 e.f3.f0 e.f3.f1 e.f3.f2 e.f3.f3 e.f3.f4 e.f3.f5 = some (putL e l) := by
    intro k
    have ht : (l.take (posE e l)).length ≤ 1048576 := by rw [List.length_take]; omega
    have hd : (l.drop (posE e l)).length ≤ 1048576 := by rw [List.length_drop]; omega
    rw [spec_l5Put.l0]
    by_cases c : posE e l < l.length
    · have hs := pos_stop e l c
      rw [if_pos (by omega), if_pos (by omega), (l5Before_ok (rd_T45 l (posE e l : Int)) e).2 hs, Option.bind_some, if_neg (by decide)]
      simp only [Int.toNat_natCast, Option.bind_some, List.nil_append, List.length_nil]
      rw [if_pos (by omega), if_pos (by omega), if_pos (by omega)]
      try simp only [Option.bind_some]
      repeat (first | rw [if_pos (by omega)] | rw [if_pos (by simp only [List.length_append, List.length_singleton]; omega)])
      rfl
    · rw [if_neg (by omega)]
      simp only [Int.toNat_natCast, Option.bind_some, List.nil_append, List.length_nil]
      rw [if_pos (by omega), if_pos (by omega), if_pos (by omega)]
      try simp only [Option.bind_some]
      repeat (first | rw [if_pos (by omega)] | rw [if_pos (by simp only [List.length_append, List.length_singleton]; omega)])
      rfl
  intro d
  induction d with
  | zero =>
    intro i k hi hk
    obtain ⟨k, rfl⟩ : ∃ q, k = q + 1 := ⟨k - 1, by omega⟩
    obtain rfl : i = posE e l := by omega
    exact hend k
  | succ d ih =>
    intro i k hi hk
    obtain ⟨k, rfl⟩ : ∃ q, k = q + 1 := ⟨k - 1, by omega⟩
    rw [spec_l5Put.l0, if_pos (by omega), if_pos (by omega), (l5Before_ok (rd_T45 l (i : Int)) e).1 (pos_lt e l i (by omega)), Option.bind_some, if_pos rfl, wrapS (n := l.length) (by omega) (by omega)]
    exact ih (i + 1) k (by omega) (by omega)
def SeqFrom (e : En) (l : List En) (i : Nat) : Prop := ∃ j, i ≤ j ∧ j < l.length ∧ (en l j).f1 = e.f1
section
set_option linter.unusedSectionVars false
variable {l : List En} {e : En} (hl : l.length ≤ 1048576)
include hl
theorem putIdx_l0 : ∀ (d i k : Nat), i + d = l.length → d < k → ∃ r : Int, impl_Entry_with_impl_PutEntry_1_10069049.l0 k l (l.length : Int) (i : Int) e.f0 e.f1 e.f2 e.f3.f0 e.f3.f1 e.f3.f2 e.f3.f3 e.f3.f4 e.f3.f5 = some r ∧ (r ≥ 0 ↔ SeqFrom e l i) := by
  intro d
  induction d with
  | zero =>
    intro i k hi hk
    obtain ⟨k, rfl⟩ : ∃ q, k = q + 1 := ⟨k - 1, by omega⟩
    rw [impl_Entry_with_impl_PutEntry_1_10069049.l0, if_neg (by omega)]
    exact ⟨-1, rfl, fun h => absurd h (by decide), fun ⟨j, h1, h2, _⟩ => by omega⟩
  | succ d ih =>
    intro i k hi hk
    obtain ⟨k, rfl⟩ : ∃ q, k = q + 1 := ⟨k - 1, by omega⟩
    rw [impl_Entry_with_impl_PutEntry_1_10069049.l0, if_pos (by omega), if_pos (by omega), if_pos (by omega)]
    unfold impl_PutEntry_1.f
    rw [Option.bind_some]
    by_cases c : (en l i).f1 = e.f1
    · rw [if_pos (beq_iff_eq.2 (show (rd_T45 l (i : Int)).f1 = e.f1 from c))]
      exact ⟨i, rfl, fun _ => ⟨i, Nat.le_refl _, by omega, c⟩, fun _ => by omega⟩
    · rw [if_neg (fun q => c (beq_iff_eq.1 q)), wrapS (n := l.length) (by omega) (by omega)]
      obtain ⟨r, h1, h2⟩ := ih (i + 1) k (by omega) (by omega)
      refine ⟨r, h1, h2.trans ⟨fun ⟨j, q1, q2, q3⟩ => ⟨j, by omega, q2, q3⟩, fun ⟨j, q1, q2, q3⟩ => ?_⟩⟩
      by_cases ej : j = i
      · subst ej; exact absurd q3 c
      · exact ⟨j, by omega, q2, q3⟩
theorem putSeq_l0 : ∀ (d i k : Nat), i + d = l.length →
    (¬ SeqFrom e l i → spec_PutEntry.l0 (k + d + 1) l l (l.length : Int) (i : Int) e.f0 e.f1 e.f2 e.f3.f0 e.f3.f1 e.f3.f2 e.f3.f3 e.f3.f4 e.f3.f5 = ((spec_l5Put.f k l e.f0 e.f1 e.f2 e.f3.f0 e.f3.f1 e.f3.f2 e.f3.f3 e.f3.f4 e.f3.f5).bind fun t106 => ((spec_l5Own.f k t106).bind fun t109 => (some (t109, true))))) ∧
    (SeqFrom e l i → spec_PutEntry.l0 (k + d + 1) l l (l.length : Int) (i : Int) e.f0 e.f1 e.f2 e.f3.f0 e.f3.f1 e.f3.f2 e.f3.f3 e.f3.f4 e.f3.f5 = some ([], false)) := by
  intro d
  induction d with
  | zero =>
    intro i k hi
    rw [spec_PutEntry.l0, if_neg (by omega)]
    exact ⟨fun _ => rfl, fun ⟨j, h1, h2, _⟩ => by omega⟩
  | succ d ih =>
    intro i k hi
    obtain ⟨i1, i2⟩ := ih (i + 1) k (by omega)
    rw [spec_PutEntry.l0, if_pos (by omega), if_pos (by omega), if_pos (by omega), wrapS (n := l.length) (by omega) (by omega)]
    by_cases c : (en l i).f1 = e.f1
    · rw [if_pos (show (rd_T45 l (i : Int)).f1 = e.f1 from c)]
      exact ⟨fun h => absurd ⟨i, Nat.le_refl _, by omega, c⟩ h, fun _ => rfl⟩
    · rw [if_neg (show ¬ (rd_T45 l (i : Int)).f1 = e.f1 from c)]
      refine ⟨fun h => i1 (fun ⟨j, q1, q2, q3⟩ => h ⟨j, by omega, q2, q3⟩), fun ⟨j, q1, q2, q3⟩ => i2 ?_⟩
      by_cases ej : j = i
      · subst ej; exact absurd q3 c
      · exact ⟨j, by omega, q2, q3⟩
end
theorem put_both2 (l : List En) (e : En) (hl : l.length ≤ 1048576) (hh : RowsE l) (he : e.f3.f4.length ≤ 1048576) {k : Nat} (hk : 2000000000100 < k) :
    ∃ (l' : List En) (c : Bool), spec_PutEntry.f k l e.f0 e.f1 e.f2 e.f3.f0 e.f3.f1 e.f3.f2 e.f3.f3 e.f3.f4 e.f3.f5 = some (l', c) ∧ impl_PutEntry.f k l e.f0 e.f1 e.f2 e.f3.f0 e.f3.f1 e.f3.f2 e.f3.f3 e.f3.f4 e.f3.f5 = some (l', c) ∧ l'.length ≤ 1048576 ∧ RowsE l' ∧ (c = true → l' = putL e l ∧ GoodEs l ∧ GoodE e ∧ ¬ SeqFrom e l 0 ∧ l.length < 60) := by
  have nil : ([] : List En).length ≤ 1048576 ∧ RowsE [] ∧ (false = true → ([] : List En) = putL e l ∧ GoodEs l ∧ GoodE e ∧ ¬ SeqFrom e l 0 ∧ l.length < 60) := ⟨by decide, fun x hx => by simp at hx, fun h => by cases h⟩
  obtain ⟨k, rfl⟩ : ∃ q, k = q + 1 := ⟨k - 1, by omega⟩
  unfold spec_PutEntry.f impl_PutEntry.f
  by_cases c3 : (l.length : Int) ≥ 60
  · rw [if_pos c3, if_pos c3, spec_PutEntry.j0, if_pos rfl]
    exact ⟨[], false, rfl, rfl, nil⟩
  rw [if_neg c3, if_neg c3]
  obtain ⟨g, hg1, hg2, hgg⟩ := (spec_goodEs l hl (k := k + 1) (by omega)).both (impl_goodEs l hl (k := k + 1) (by omega))
  rw [hg1, hg2, Option.bind_some, Option.bind_some]
  by_cases hg : g = true
  · have hG := hgg.1 hg
    obtain ⟨b, hb1, hb2, hge⟩ := (spec_goodE e (k := k + 1) (by omega)).both (impl_goodE e (k := k + 1) (by omega))
    rw [if_pos hg, if_pos hg, hb1, hb2, Option.bind_some, Option.bind_some, spec_PutEntry.j0]
    by_cases hb : b = true
    · obtain ⟨r, hr1, hr2⟩ := putIdx_l0 (e := e) hl l.length 0 (k + 1) (by omega) (by omega)
      have hr1' : impl_Entry_with_impl_PutEntry_1_10048049.f (k + 1) l e.f0 e.f1 e.f2 e.f3.f0 e.f3.f1 e.f3.f2 e.f3.f3 e.f3.f4 e.f3.f5 = some (decide (r ≥ 0)) := by
        unfold impl_Entry_with_impl_PutEntry_1_10048049.f impl_Entry_with_impl_PutEntry_1_10069049.f
        have h : impl_Entry_with_impl_PutEntry_1_10069049.l0 (k + 1) l (l.length : Int) 0 e.f0 e.f1 e.f2 e.f3.f0 e.f3.f1 e.f3.f2 e.f3.f3 e.f3.f4 e.f3.f5 = some r := hr1
        rw [h, Option.bind_some]
      obtain ⟨q, rfl⟩ : ∃ q, k = q + l.length + 1 := ⟨k - l.length - 1, by omega⟩
      obtain ⟨s1, s2⟩ := putSeq_l0 (e := e) hl l.length 0 q (by omega)
      rw [if_pos hb, if_neg (by rw [hb]; decide), hr1', Option.bind_some]
      by_cases c : SeqFrom e l 0
      · have s2' : spec_PutEntry.l0 (q + l.length + 1) l l (l.length : Int) 0 e.f0 e.f1 e.f2 e.f3.f0 e.f3.f1 e.f3.f2 e.f3.f3 e.f3.f4 e.f3.f5 = _ := s2 c
        rw [s2', if_pos (decide_eq_true (hr2.2 c))]
        exact ⟨[], false, rfl, rfl, nil⟩
      · have s1' : spec_PutEntry.l0 (q + l.length + 1) l l (l.length : Int) 0 e.f0 e.f1 e.f2 e.f3.f0 e.f3.f1 e.f3.f2 e.f3.f3 e.f3.f4 e.f3.f5 = _ := s1 c
        have hp := pos_le e l
        have hpl := putL_len e l
        have hput : spec_l5Put.f q l e.f0 e.f1 e.f2 e.f3.f0 e.f3.f1 e.f3.f2 e.f3.f3 e.f3.f4 e.f3.f5 = some (putL e l) := l5Put_l0 hl (posE e l) 0 q (by omega) (by omega)
        rw [s1', if_neg (by rw [decide_eq_false (fun h => c (hr2.1 h))]; decide), hput, Option.bind_some, l5Own_ok (by omega) (putL_rows hh he) (by omega), Option.bind_some, withEntry_ok hl hG hh he (by omega), Option.bind_some]
        exact ⟨_, _, rfl, rfl, by omega, putL_rows hh he, fun _ => ⟨rfl, hG, hge.1 hb, c, by omega⟩⟩
    · rw [if_neg hb, if_pos (by simp [hb])]
      exact ⟨[], false, rfl, rfl, nil⟩
  · rw [if_neg hg, if_neg hg, spec_PutEntry.j0, if_pos rfl]
    exact ⟨[], false, rfl, rfl, nil⟩
theorem put_both (l : List En) (e : En) (hl : l.length ≤ 1048576) (hh : RowsE l) (he : e.f3.f4.length ≤ 1048576) {k : Nat} (hk : 2000000000100 < k) :
    ∃ (l' : List En) (c : Bool), spec_PutEntry.f k l e.f0 e.f1 e.f2 e.f3.f0 e.f3.f1 e.f3.f2 e.f3.f3 e.f3.f4 e.f3.f5 = some (l', c) ∧ impl_PutEntry.f k l e.f0 e.f1 e.f2 e.f3.f0 e.f3.f1 e.f3.f2 e.f3.f3 e.f3.f4 e.f3.f5 = some (l', c) ∧ l'.length ≤ 1048576 ∧ RowsE l' := by
  obtain ⟨l', c, h1, h2, h3, h4, _⟩ := put_both2 l e hl hh he hk
  exact ⟨l', c, h1, h2, h3, h4⟩
theorem ofT_ok {l : List Int} (hl : Bytes l) (at_ s : Int) (xs : List ByteArray) (hx : 1 ≤ xs.length) (h0 : 0 ≤ at_) (h1 : at_ < 4611686018427387900) :
    ∃ r a' s', spec_l1Cur_of.f l at_ s xs = some (r, a', s') ∧ at_ ≤ a' ∧ a' ≤ at_ + 2 := by
  unfold spec_l1Cur_of.f
  obtain ⟨r, a', s', e, ha, hb, hr, hn, _⟩ := pick_ok hl at_ s (xs.length : Int) h0 h1
  rw [e, Option.bind_some]
  dsimp only
  rw [if_pos hr, if_pos (hn (by omega))]
  exact ⟨_, _, _, rfl, ha, hb⟩
theorem keyText_ok {l : List Int} (hl : Bytes l) (at_ s : Int) (h0 : 0 ≤ at_) (h1 : at_ < 4611686018427387900) :
    ∃ r a' s', spec_l1Cur_keyText.f l at_ s = some (r, a', s') ∧ at_ ≤ a' ∧ a' ≤ at_ + 2 := by
  unfold spec_l1Cur_keyText.f
  obtain ⟨r, a', s', e, ha, hb⟩ := ofT_ok hl at_ s [⟨#[97]⟩, ⟨#[97, 98]⟩, ⟨#[98]⟩, ⟨#[98, 97]⟩, ⟨#[99]⟩, ⟨#[99, 112, 117]⟩, ⟨#[100]⟩, ⟨#[109]⟩] (by decide) h0 h1
  rw [e, Option.bind_some]
  exact ⟨_, _, _, rfl, ha, hb⟩
def TellsEn (at_ n : Int) (r : Option (ByteArray × Int × Int × Int × Int × Int × Int × List Int × Bool × Int × Int)) : Prop :=
  ∃ (e : En) (at' s' : Int), r = some (e.f0, e.f1, e.f2, e.f3.f0, e.f3.f1, e.f3.f2, e.f3.f3, e.f3.f4, e.f3.f5, at', s') ∧ e.f3.f4.length ≤ 8 ∧ at_ ≤ at' ∧ at' ≤ at_ + n
theorem entry_j0 {l : List Int} (hl : Bytes l) {at_ s : Int} (h0 : 0 ≤ at_) (h1 : at_ < 4611686018427300000) (e : En) (he : e.f3.f4.length ≤ 8) (k : Nat) : TellsEn at_ 4 (spec_l1Cur_entry.j0 (k + 1) l at_ s e.f0 e.f1 e.f2 e.f3.f0 e.f3.f1 e.f3.f2 e.f3.f3 e.f3.f4 e.f3.f5) := by
  obtain ⟨p, a1, s1, e1, g1, g1', _⟩ := pick_ok hl at_ s 60 h0 (by omega)
  rw [spec_l1Cur_entry.j0, e1, Option.bind_some]
  dsimp only
  by_cases p0 : p = 0
  · rw [if_pos p0, if_pos (by decide), if_pos (by decide)]
    obtain ⟨r, a2, s2, e2, g2, g3⟩ := ofT_ok hl a1 s1 [⟨#[]⟩, strOfNums (List.replicate 140 0), strOfNums (List.replicate 141 0)] (Nat.le_add_left 1 2) (by omega) (by omega)
    rw [e2, Option.bind_some]
    exact ⟨⟨r, e.f1, e.f2, e.f3⟩, a2, s2, rfl, he, by omega, by omega⟩
  rw [if_neg p0]
  by_cases p1 : p = 1
  · rw [if_pos p1]
    obtain ⟨r, a2, s2, e2, _, g2, g3⟩ := among_ok hl [0, 1000000000, 1000000001] (by decide) a1 s1 (by omega) (by omega)
    rw [e2, Option.bind_some]
    exact ⟨⟨e.f0, r, e.f2, e.f3⟩, a2, s2, rfl, he, by omega, by omega⟩
  rw [if_neg p1]
  by_cases p2 : p = 2
  · rw [if_pos p2]
    obtain ⟨r, a2, s2, e2, _, g2, g3⟩ := among_ok hl [0, 4] (by decide) a1 s1 (by omega) (by omega)
    rw [e2, Option.bind_some]
    exact ⟨⟨e.f0, e.f1, r, e.f3⟩, a2, s2, rfl, he, by omega, by omega⟩
  rw [if_neg p2]
  exact ⟨e, a1, s1, rfl, he, by omega, by omega⟩
theorem entry_ok {l : List Int} (hl : Bytes l) {at_ s : Int} (h0 : 0 ≤ at_) (h1 : at_ < 4611686018427000000) {k : Nat} (hk : 100 < k) : TellsEn at_ 200 (spec_l1Cur_entry.f k l at_ s) := by
  obtain ⟨k, rfl⟩ : ∃ q, k = q + 1 := ⟨k - 1, by omega⟩
  unfold spec_l1Cur_entry.f
  obtain ⟨r, a1, s1, e1, g1, g1'⟩ := keyText_ok hl at_ s h0 (by omega)
  rw [e1, Option.bind_some]
  dsimp only
  obtain ⟨p, a2, s2, e2, g2, g2', _⟩ := pick_ok hl a1 s1 40 (by omega) (by omega)
  rw [e2, Option.bind_some]
  dsimp only
  obtain ⟨q, a3, s3, e3, _, g3, g3'⟩ := among_ok hl [1, 2, 3, 3] (by decide) a2 s2 (by omega) (by omega)
  rw [e3, Option.bind_some]
  dsimp only
  by_cases c : q = 2
  · rw [if_pos c]
    obtain ⟨e, a4, s4, e4, g4, g5, g6⟩ := entry_j0 hl (at_ := a3) (s := s3) (by omega) (by omega) ⟨r, wrap64 (1 + p), q, ⟨0, 0, 0, 0, [], false⟩⟩ (Nat.zero_le _) k
    exact ⟨e, a4, s4, e4, g4, by omega, by omega⟩
  · rw [if_neg c]
    obtain ⟨a, a4, s4, e4, hr, g5, g6⟩ := agg_ok hl (at_ := a3) (s := s3) (by omega) (by omega) (k := k + 1) (by omega)
    rw [e4, Option.bind_some]
    obtain ⟨e, a5, s5, e5, g7, g8, g9⟩ := entry_j0 hl (at_ := a4) (s := s4) (by omega) (by omega) ⟨r, wrap64 (1 + p), q, ⟨a.c, a.s, a.mi, a.ma, a.h, a.f⟩⟩ hr.len k
    exact ⟨e, a5, s5, e5, g7, by omega, by omega⟩
def TellsEs (at_ n : Int) (r : Option (List En × Int × Int)) : Prop :=
  ∃ (es : List En) (at' s' : Int), r = some (es, at', s') ∧ es.length ≤ 100 ∧ RowsE es ∧ at_ ≤ at' ∧ at' ≤ at_ + n
theorem rows_snoc {l : List En} {e : En} (h : RowsE l) (he : e.f3.f4.length ≤ 1048576) : RowsE (l ++ [e]) := by
  intro x hx
  rcases List.mem_append.1 hx with hx | hx
  · exact h x hx
  · rw [List.mem_singleton.1 hx]; exact he
theorem entries_l0 {l : List Int} (hl : Bytes l) : ∀ (d : Nat) (k : Nat) (es : List En) (at_ s : Int), 0 ≤ at_ → at_ + 1000 * d < 4611686018426000000 → es.length + d ≤ 50 → RowsE es → 2000000000200 + d < k →
    TellsEs at_ (1000 * d + 1000) (spec_l1Cur_entries.l0 k es (d : Int) l at_ s) := by
  intro d
  induction d with
  | zero =>
    intro k es at_ s h0 h1 hn hh hk
    obtain ⟨k, rfl⟩ : ∃ q, k = q + 1 := ⟨k - 1, by omega⟩
    obtain ⟨b, a1, s1, e1, g1, g1'⟩ := one_ok hl at_ s 40 h0 (by omega)
    rw [spec_l1Cur_entries.l0, if_neg (by omega), e1, Option.bind_some]
    dsimp only
    by_cases hb : b = true
    · obtain ⟨e, a2, s2, e2, g2, g3, g4⟩ := entry_ok hl (at_ := a1) (s := s1) (by omega) (by omega) (k := k) (by omega)
      rw [if_pos hb, e2, Option.bind_some, if_pos (by omega)]
      exact ⟨es ++ [e], a2, s2, rfl, by rw [List.length_append, List.length_singleton]; omega, rows_snoc hh (by omega), by omega, by omega⟩
    · rw [if_neg hb]
      exact ⟨es, a1, s1, rfl, by omega, hh, by omega, by omega⟩
  | succ d ih =>
    intro k es at_ s h0 h1 hn hh hk
    obtain ⟨k, rfl⟩ : ∃ q, k = q + 1 := ⟨k - 1, by omega⟩
    obtain ⟨e, a2, s2, e2, g2, g3, g4⟩ := entry_ok hl (at_ := at_) (s := s) (by omega) (by omega) (k := k) (by omega)
    obtain ⟨es', c, q1, _, _, q4, q5⟩ := put_both2 es e (by omega) hh (by omega) (k := k) (by omega)
    rw [spec_l1Cur_entries.l0, if_pos (by omega), e2, Option.bind_some]
    dsimp only
    rw [q1, Option.bind_some, show wrap64 (((d + 1 : Nat) : Int) - 1) = (d : Int) by rw [w64 (by omega) (by omega)]; omega]
    dsimp only
    by_cases hc : c = true
    · have hl2 := putL_len e es
      rw [← (q5 hc).1] at hl2
      rw [if_pos hc]
      obtain ⟨x, at', s', y1, y2, y3, y4, y5⟩ := ih k es' a2 s2 (by omega) (by omega) (by omega) q4 (by omega)
      exact ⟨x, at', s', y1, y2, y3, by omega, by omega⟩
    · rw [if_neg hc]
      obtain ⟨x, at', s', y1, y2, y3, y4, y5⟩ := ih k es a2 s2 (by omega) (by omega) (by omega) hh (by omega)
      exact ⟨x, at', s', y1, y2, y3, by omega, by omega⟩
theorem entries_ok {l : List Int} (hl : Bytes l) {at_ s : Int} (h0 : 0 ≤ at_) (h1 : at_ < 4611686018420000000) {k : Nat} (hk : 2000000000300 < k) : TellsEs at_ 20000 (spec_l1Cur_entries.f k l at_ s 9) := by
  unfold spec_l1Cur_entries.f
  rw [show wrap64 ((9 : Int) + 1) = 10 by rw [w64 (by decide) (by decide)]; rfl]
  obtain ⟨p, a1, s1, e1, g1, g1', p0, p1, _⟩ := pick_ok hl at_ s 10 h0 (by omega)
  have hp := p1 (by omega)
  rw [e1, Option.bind_some]
  dsimp only
  obtain ⟨x, at', s', y1, y2, y3, y4, y5⟩ := entries_l0 hl p.toNat k [] a1 s1 (by omega) (by omega) (by simp only [List.length_nil]; omega) (fun x hx => by simp at hx) (by omega)
  rw [show ((p.toNat : Nat) : Int) = p by omega] at y1
  exact ⟨x, at', s', y1, y2, y3, by omega, by omega⟩
def TellsPut (r : Option (List En × ByteArray × Int × Int × Int × Int × Int × Int × List Int × Bool)) : Prop :=
  ∃ (es : List En) (e : En), r = some (es, e.f0, e.f1, e.f2, e.f3.f0, e.f3.f1, e.f3.f2, e.f3.f3, e.f3.f4, e.f3.f5) ∧ es.length ≤ 100 ∧ RowsE es ∧ e.f3.f4.length ≤ 8
theorem drawPut_l0 {l : List Int} (hl : Bytes l) : ∀ (d i k : Nat) (es : List En) (at_ s : Int), i + d = 60 → 0 ≤ at_ → at_ + 10 * d < 4611686018420000000 → es.length ≤ i → RowsE es → 200 + d < k →
    TellsPut (spec_DrawPutEntry.l0 k es (i : Int) l at_ s) := by
  intro d
  induction d with
  | zero =>
    intro i k es at_ s hi h0 h1 hn hh hk
    obtain ⟨k, rfl⟩ : ∃ q, k = q + 1 := ⟨k - 1, by omega⟩
    obtain ⟨p, a1, s1, e1, g1, g1', p0, p1, _⟩ := pick_ok hl at_ s 2 h0 (by omega)
    have hp := p1 (by omega)
    obtain ⟨e, a2, s2, e2, g2, g3, g4⟩ := entry_ok hl (at_ := a1) (s := s1) (by omega) (by omega) (k := k) (by omega)
    rw [spec_DrawPutEntry.l0, e1, Option.bind_some]
    dsimp only
    rw [show wrap64 (60 - p) = 60 - p from w64 (by omega) (by omega), if_neg (by omega), e2, Option.bind_some]
    exact ⟨es, e, rfl, by omega, hh, g2⟩
  | succ d ih =>
    intro i k es at_ s hi h0 h1 hn hh hk
    obtain ⟨k, rfl⟩ : ∃ q, k = q + 1 := ⟨k - 1, by omega⟩
    obtain ⟨p, a1, s1, e1, g1, g1', p0, p1, _⟩ := pick_ok hl at_ s 2 h0 (by omega)
    have hp := p1 (by omega)
    rw [spec_DrawPutEntry.l0, e1, Option.bind_some]
    dsimp only
    rw [show wrap64 (60 - p) = 60 - p from w64 (by omega) (by omega)]
    by_cases c : (i : Int) < 60 - p
    · rw [if_pos c, Option.bind_some, if_pos (by unfold strOfNums; simp [ByteArray.size]), if_pos (by omega), wrapS (n := 60) (by omega) (by omega)]
      exact ih (i + 1) k _ a1 s1 (by omega) (by omega) (by omega) (by rw [List.length_append, List.length_singleton]; omega) (rows_snoc hh (Nat.zero_le _)) (by omega)
    · obtain ⟨e, a2, s2, e2, g2, g3, g4⟩ := entry_ok hl (at_ := a1) (s := s1) (by omega) (by omega) (k := k) (by omega)
      rw [if_neg c, e2, Option.bind_some]
      exact ⟨es, e, rfl, by omega, hh, g2⟩
theorem drawPut_ok {l : List Int} (hl : Bytes l) {k : Nat} (hk : 2000000000300 < k) : TellsPut (spec_DrawPutEntry.f k l) := by
  unfold spec_DrawPutEntry.f
  obtain ⟨es, a1, s1, e1, g1, g2, g3, g4⟩ := entries_ok hl (at_ := 0) (s := 0) (by decide) (by decide) hk
  rw [e1, Option.bind_some]
  dsimp only
  obtain ⟨b, a2, s2, e2, g5, g6⟩ := one_ok hl a1 s1 30 (by omega) (by omega)
  rw [e2, Option.bind_some]
  dsimp only
  by_cases hb : b = true
  · rw [if_pos hb]
    exact drawPut_l0 hl 60 0 k [] a2 s2 (by omega) (by omega) (by omega) (Nat.le_refl _) (fun x hx => by simp at hx) (by omega)
  · obtain ⟨e, a3, s3, e3, g7, g8, g9⟩ := entry_ok hl (at_ := a2) (s := s2) (by omega) (by omega) (k := k) (by omega)
    rw [if_neg hb, e3, Option.bind_some]
    exact ⟨es, e, rfl, g1, g2, g7⟩
def Tells3 (r : Option (List ByteArray × List Int × ByteArray)) : Prop := ∃ ks ts key, r = some (ks, ts, key)
theorem drawTower_l {l : List Int} (hl : Bytes l) (y : List ByteArray) (hy : y.length ≤ 100) : ∀ (d : Nat),
    (∀ (i k : Nat) (ks : List ByteArray) (ts : List Int) (at_ s : Int), i + d = y.length → 0 ≤ at_ → at_ + 100 * d < 4611686018420000000 → ks.length ≤ i → ts.length ≤ i → 10 * d + 10 < k → Tells3 (spec_DrawTowerPath.l0 k ks ts y (y.length : Int) (i : Int) l at_ s)) ∧
    (∀ (n t i k : Nat) (ks : List ByteArray) (ts : List Int) (at_ s : Int), t + n = 6 → i + d + 1 = y.length → 0 ≤ at_ → at_ + 100 * d + 4 * n < 4611686018420000000 → ks.length ≤ i + 1 → ts.length ≤ i → 10 * d + 10 + n + 1 < k → Tells3 (spec_DrawTowerPath.l1 k ks ts (t : Int) y (y.length : Int) (i : Int) l at_ s)) := by
  intro d
  induction d with
  | zero =>
    have first : ∀ (i k : Nat) (ks : List ByteArray) (ts : List Int) (at_ s : Int), i + 0 = y.length → 0 ≤ at_ → at_ + 100 * (0 : Nat) < 4611686018420000000 → ks.length ≤ i → ts.length ≤ i → 10 * 0 + 10 < k → Tells3 (spec_DrawTowerPath.l0 k ks ts y (y.length : Int) (i : Int) l at_ s) := by
      intro i k ks ts at_ s hi h0 h1 hk1 ht1 hk
      obtain ⟨k, rfl⟩ : ∃ q, k = q + 1 := ⟨k - 1, by omega⟩
      obtain ⟨p, a1, s1, e1, g1, g1', _⟩ := pick_ok hl at_ s 30 h0 (by omega)
      rw [spec_DrawTowerPath.l0, if_neg (by omega), e1, Option.bind_some]
      dsimp only
      obtain ⟨r, a2, s2, e2, g2, g3⟩ := keyText_ok hl a1 s1 (by omega) (by omega)
      by_cases p0 : p = 0
      · rw [if_pos p0, if_pos (by omega), e2, Option.bind_some]
        exact ⟨_, _, _, rfl⟩
      rw [if_neg p0]
      by_cases p1 : p = 1
      · rw [if_pos p1]
        by_cases c : (ts.length : Int) > 0
        · obtain ⟨q, a3, s3, e3, _, g4, g5⟩ := among_ok hl [0, 7] (by decide) a1 s1 (by omega) (by omega)
          obtain ⟨r4, a4, s4, e4, g6, g7⟩ := keyText_ok hl a3 s3 (by omega) (by omega)
          rw [if_pos c, e3, Option.bind_some]
          dsimp only
          rw [if_pos (by omega), e4, Option.bind_some]
          exact ⟨_, _, _, rfl⟩
        · rw [if_neg c, e2, Option.bind_some]
          exact ⟨_, _, _, rfl⟩
      rw [if_neg p1]
      by_cases p2 : p = 2
      · rw [if_pos p2, if_pos (by omega), if_pos (by omega), e2, Option.bind_some]
        exact ⟨_, _, _, rfl⟩
      rw [if_neg p2, e2, Option.bind_some]
      exact ⟨_, _, _, rfl⟩
    refine ⟨first, ?_⟩
    intro n
    induction n with
    | zero =>
      intro t i k ks ts at_ s ht hi h0 h1 hk1 ht1 hk
      obtain ⟨k, rfl⟩ : ∃ q, k = q + 1 := ⟨k - 1, by omega⟩
      rw [spec_DrawTowerPath.l1, if_neg (by omega), if_pos (by omega), wrapS (n := 1000) (by omega) (by omega)]
      exact first (i + 1) k ks _ at_ s (by omega) h0 (by omega) (by omega) (by rw [List.length_append, List.length_singleton]; omega) (by omega)
    | succ n ih =>
      intro t i k ks ts at_ s ht hi h0 h1 hk1 ht1 hk
      obtain ⟨k, rfl⟩ : ∃ q, k = q + 1 := ⟨k - 1, by omega⟩
      obtain ⟨b, a1, s1, e1, g1, g1'⟩ := one_ok hl at_ s 2 h0 (by omega)
      rw [spec_DrawTowerPath.l1, if_pos (by omega), e1, Option.bind_some, wrapS (n := 1000) (by omega) (by omega), wrapS (n := 1000) (by omega) (by omega)]
      dsimp only
      by_cases hb : b = true
      · rw [if_pos hb]
        exact ih (t + 1) i k ks ts a1 s1 (by omega) hi (by omega) (by omega) hk1 ht1 (by omega)
      · rw [if_neg hb, if_pos (by omega)]
        exact first (i + 1) k ks _ a1 s1 (by omega) (by omega) (by omega) (by omega) (by rw [List.length_append, List.length_singleton]; omega) (by omega)
  | succ d ih =>
    obtain ⟨ih0, ih1⟩ := ih
    have first : ∀ (i k : Nat) (ks : List ByteArray) (ts : List Int) (at_ s : Int), i + (d + 1) = y.length → 0 ≤ at_ → at_ + 100 * ((d + 1 : Nat) : Int) < 4611686018420000000 → ks.length ≤ i → ts.length ≤ i → 10 * (d + 1) + 10 < k → Tells3 (spec_DrawTowerPath.l0 k ks ts y (y.length : Int) (i : Int) l at_ s) := by
      intro i k ks ts at_ s hi h0 h1 hk1 ht1 hk
      obtain ⟨k, rfl⟩ : ∃ q, k = q + 1 := ⟨k - 1, by omega⟩
      obtain ⟨b, a1, s1, e1, g1, g1'⟩ := one_ok hl at_ s 2 h0 (by omega)
      rw [spec_DrawTowerPath.l0, if_pos (by omega), if_pos (by omega), if_pos (by omega), e1, Option.bind_some]
      dsimp only
      by_cases hb : b = true
      · rw [if_pos hb, if_pos (by omega)]
        exact ih1 5 1 i k _ ts a1 s1 (by omega) (by omega) (by omega) (by omega) (by rw [List.length_append, List.length_singleton]; omega) ht1 (by omega)
      · rw [if_neg hb, wrapS (n := 1000) (by omega) (by omega)]
        exact ih0 (i + 1) k ks ts a1 s1 (by omega) (by omega) (by omega) (by omega) (by omega) (by omega)
    refine ⟨first, ?_⟩
    intro n
    induction n with
    | zero =>
      intro t i k ks ts at_ s ht hi h0 h1 hk1 ht1 hk
      obtain ⟨k, rfl⟩ : ∃ q, k = q + 1 := ⟨k - 1, by omega⟩
      rw [spec_DrawTowerPath.l1, if_neg (by omega), if_pos (by omega), wrapS (n := 1000) (by omega) (by omega)]
      exact first (i + 1) k ks _ at_ s (by omega) h0 (by omega) (by omega) (by rw [List.length_append, List.length_singleton]; omega) (by omega)
    | succ n ih =>
      intro t i k ks ts at_ s ht hi h0 h1 hk1 ht1 hk
      obtain ⟨k, rfl⟩ : ∃ q, k = q + 1 := ⟨k - 1, by omega⟩
      obtain ⟨b, a1, s1, e1, g1, g1'⟩ := one_ok hl at_ s 2 h0 (by omega)
      rw [spec_DrawTowerPath.l1, if_pos (by omega), e1, Option.bind_some, wrapS (n := 1000) (by omega) (by omega), wrapS (n := 1000) (by omega) (by omega)]
      dsimp only
      by_cases hb : b = true
      · rw [if_pos hb]
        exact ih (t + 1) i k ks ts a1 s1 (by omega) hi (by omega) (by omega) hk1 ht1 (by omega)
      · rw [if_neg hb, if_pos (by omega)]
        exact first (i + 1) k ks _ a1 s1 (by omega) (by omega) (by omega) (by omega) (by rw [List.length_append, List.length_singleton]; omega) (by omega)
theorem drawTower_ok {l : List Int} (hl : Bytes l) {k : Nat} (hk : 1000 < k) : Tells3 (spec_DrawTowerPath.f k l) := by
  unfold spec_DrawTowerPath.f
  rw [Option.bind_some]
  exact (drawTower_l hl _ (by decide) 9).1 0 k [] [] 0 0 rfl (by decide) (by decide) (Nat.le_refl _) (Nat.le_refl _) (by omega)
end Go.Proofs.Ytdkokfnnebdppaa.Lem
section
namespace Go.Proofs.Ytdkokfnnebdppaa.Lem
open Go Go.RowKit Go.Proofs.Ytdkokfnnebdppaa.P Go.Proofs.YtdkokfnnebdppaaW.PrintWords Go.Proofs.YtdkokfnnebdppaaW.PrintLast Go.Proofs.YtdkokfnnebdppaaW.PrintMore
theorem lessT : ∀ {x y z : List UInt8}, Op.bytesLess x y = true → Op.bytesLess y z = true → Op.bytesLess x z = true
  | [], [], _, h, _ => by exact absurd h (by unfold Op.bytesLess; decide)
  | [], _ :: _, [], _, h => by exact absurd h (by unfold Op.bytesLess; decide)
  | [], _ :: _, _ :: _, _, _ => rfl
  | _ :: _, [], _, h, _ => by exact absurd h (by unfold Op.bytesLess; decide)
  | _ :: _, _ :: _, [], _, h => by exact absurd h (by unfold Op.bytesLess; decide)
  | a :: x, b :: y, c :: z, h1, h2 => by
    rw [less_cons] at h1 h2 ⊢
    by_cases e1 : a = b
    · subst e1
      rw [if_pos rfl] at h1
      by_cases e2 : a = c
      · rw [if_pos e2] at h2 ⊢; exact lessT h1 h2
      · rw [if_neg e2] at h2 ⊢; exact h2
    · rw [if_neg e1] at h1
      have l1 := of_decide_eq_true h1
      by_cases e2 : b = c
      · subst e2; rw [if_neg e1]; exact h1
      · rw [if_neg e2] at h2
        have l2 := of_decide_eq_true h2
        rw [UInt8.lt_iff_toNat_lt] at l1 l2
        rw [if_neg (fun q => by subst q; omega)]
        exact decide_eq_true (by rw [UInt8.lt_iff_toNat_lt]; omega)
theorem tInB_ok (n a b : Int) : impl_within.f n a b = some (decide (a ≤ n) && decide (n ≤ b)) := by
  unfold impl_within.f
  by_cases h : n ≥ a
  · rw [if_pos h, decide_eq_true h, Bool.true_and]
  · rw [if_neg h, decide_eq_false h, Bool.false_and]
theorem tL1In_ok (n a b : Int) : spec_l1In.f n a b = some (decide (a ≤ n) && decide (n ≤ b)) := by
  unfold spec_l1In.f
  by_cases h : n ≥ a
  · rw [if_pos h, decide_eq_true h, Bool.true_and]
  · rw [if_neg h, decide_eq_false h, Bool.false_and]
theorem keyText_in (s : ByteArray) : impl_isKeyText.f s = some (decide ((1 : Int) ≤ (s.size : Int)) && decide ((s.size : Int) ≤ 140)) := by
  unfold impl_isKeyText.f
  rw [tInB_ok]
  rfl
abbrev kt (ks : List ByteArray) (i : Nat) : List UInt8 := (rdOf ByteArray.empty ks (i : Int)).toList
theorem wrapT {i n : Nat} (h : i < n) (hn : n ≤ 1000000) : wrap64 ((i : Int) + 1) = ((i + 1 : Nat) : Int) := by rw [w64 (by omega) (by omega)]; omega
def okT (ks : List ByteArray) (ts : List Int) (i : Nat) : Bool :=
  (decide ((1 : Int) ≤ ((rdOf ByteArray.empty ks (i : Int)).size : Int)) && decide (((rdOf ByteArray.empty ks (i : Int)).size : Int) ≤ 140)) && ((decide (1 ≤ rd ts (i : Int)) && decide (rd ts (i : Int) ≤ 6)) && (decide (i = 0) || Op.bytesLess (kt ks (i - 1)) (kt ks i)))
theorem okT_split {ks : List ByteArray} {ts : List Int} {i : Nat} (h : okT ks ts i = true) :
    (decide ((1 : Int) ≤ ((rdOf ByteArray.empty ks (i : Int)).size : Int)) && decide (((rdOf ByteArray.empty ks (i : Int)).size : Int) ≤ 140)) = true ∧
      (decide (1 ≤ rd ts (i : Int)) && decide (rd ts (i : Int) ≤ 6)) = true ∧ (decide (i = 0) || Op.bytesLess (rdOf ByteArray.empty ks ((i - 1 : Nat) : Int)).toList (rdOf ByteArray.empty ks (i : Int)).toList) = true := by
  have h1 := Bool.and_eq_true_iff.mp h
  have h2 := Bool.and_eq_true_iff.mp h1.2
  exact ⟨h1.1, h2.1, h2.2⟩
section
variable {ks : List ByteArray} {ts : List Int} {key : ByteArray} (h30 : ks.length ≤ 30) (hts : ts.length = ks.length)
include h30 hts
theorem specT_l0 : ∀ (d i k : Nat), i + d = ks.length → d < k → (∃ j, i ≤ j ∧ j < ks.length ∧ okT ks ts j = false) → spec_TowerPath.l0 k ks ts key ks (ks.length : Int) (i : Int) = some ([], 0, false) := by
  intro d
  induction d with
  | zero => intro i k hi hk hj; obtain ⟨j, h1, h2, _⟩ := hj; omega
  | succ d ih =>
    intro i k hi hk hj
    obtain ⟨k, rfl⟩ : ∃ m, k = m + 1 := ⟨k - 1, by omega⟩
    have hn : okT ks ts i = true → spec_TowerPath.l0 k ks ts key ks (ks.length : Int) ((i + 1 : Nat) : Int) = some ([], 0, false) := fun ho => ih (i + 1) k (by omega) (by omega) (by
      obtain ⟨j, h1, h2, h3⟩ := hj
      refine ⟨j, ?_, h2, h3⟩
      by_cases e : j = i
      · subst e; rw [ho] at h3; cases h3
      · omega)
    rw [spec_TowerPath.l0, if_pos (by omega), if_pos (by omega), if_pos (by omega), tL1In_ok, Option.bind_some, wrapT (n := ks.length) (by omega) (by omega)]
    unfold okT kt at hn
    cases e1 : (decide ((1 : Int) ≤ ((rdOf ByteArray.empty ks (i : Int)).size : Int)) && decide (((rdOf ByteArray.empty ks (i : Int)).size : Int) ≤ 140)) with
    | false => rw [if_neg (by decide)]
    | true =>
      rw [e1, Bool.true_and] at hn
      rw [if_pos rfl, if_pos (by omega), tL1In_ok, Option.bind_some]
      cases e2 : (decide (1 ≤ rd ts (i : Int)) && decide (rd ts (i : Int) ≤ 6)) with
      | false => rw [if_neg (by decide)]
      | true =>
        rw [e2, Bool.true_and] at hn
        rw [if_pos rfl]
        by_cases h0 : i = 0
        · rw [if_neg (by omega)]
          exact hn (by rw [decide_eq_true h0]; rfl)
        · have e3 : wrap64 ((i : Int) - 1) = ((i - 1 : Nat) : Int) := by rw [w64 (by omega) (by omega)]; omega
          rw [if_pos (by omega), e3, if_pos (by omega), if_pos (by omega)]
          rw [decide_eq_false h0, Bool.false_or] at hn
          cases e4 : Op.bytesLess (rdOf ByteArray.empty ks ((i - 1 : Nat) : Int)).toList (rdOf ByteArray.empty ks (i : Int)).toList with
          | false => rw [if_neg (by decide)]
          | true => rw [if_pos rfl]; exact hn e4
theorem implT_l0 : ∀ (d i k : Nat), i + d = ks.length → d < k → (∃ j, i ≤ j ∧ j < ks.length ∧ okT ks ts j = false) → impl_TowerPath.l0 k ks ts key ks (ks.length : Int) (i : Int) = some ([], 0, false) := by
  intro d
  induction d with
  | zero => intro i k hi hk hj; obtain ⟨j, h1, h2, _⟩ := hj; omega
  | succ d ih =>
    intro i k hi hk hj
    obtain ⟨k, rfl⟩ : ∃ m, k = m + 1 := ⟨k - 1, by omega⟩
    have hn : okT ks ts i = true → impl_TowerPath.l0 k ks ts key ks (ks.length : Int) ((i + 1 : Nat) : Int) = some ([], 0, false) := fun ho => ih (i + 1) k (by omega) (by omega) (by
      obtain ⟨j, h1, h2, h3⟩ := hj
      refine ⟨j, ?_, h2, h3⟩
      by_cases e : j = i
      · subst e; rw [ho] at h3; cases h3
      · omega)
    rw [impl_TowerPath.l0, if_pos (by omega), if_pos (by omega), if_pos (by omega), keyText_in, Option.bind_some, wrapT (n := ks.length) (by omega) (by omega)]
    unfold okT kt at hn
    cases e1 : (decide ((1 : Int) ≤ ((rdOf ByteArray.empty ks (i : Int)).size : Int)) && decide (((rdOf ByteArray.empty ks (i : Int)).size : Int) ≤ 140)) with
    | false => rw [if_neg (by decide)]
    | true =>
      rw [e1, Bool.true_and] at hn
      rw [if_pos rfl]
      by_cases h0 : i = 0
      · rw [decide_eq_true h0, Bool.true_or, Bool.and_true] at hn
        rw [if_neg (by omega), if_pos (by omega), tInB_ok, Option.bind_some]
        cases e2 : (decide (1 ≤ rd ts (i : Int)) && decide (rd ts (i : Int) ≤ 6)) with
        | false => rw [if_neg (by decide)]
        | true => rw [if_pos rfl]; exact hn e2
      · have e3 : wrap64 ((i : Int) - 1) = ((i - 1 : Nat) : Int) := by rw [w64 (by omega) (by omega)]; omega
        rw [if_pos (by omega), e3, if_pos (by omega), if_pos (by omega)]
        rw [decide_eq_false h0, Bool.false_or] at hn
        cases e4 : Op.bytesLess (rdOf ByteArray.empty ks ((i - 1 : Nat) : Int)).toList (rdOf ByteArray.empty ks (i : Int)).toList with
        | false => rw [if_neg (by decide)]
        | true =>
          rw [e4, Bool.and_true] at hn
          rw [if_pos rfl, if_pos (by omega), tInB_ok, Option.bind_some]
          cases e2 : (decide (1 ≤ rd ts (i : Int)) && decide (rd ts (i : Int) ≤ 6)) with
          | false => rw [if_neg (by decide)]
          | true => rw [if_pos rfl]; exact hn e2
theorem specT_good (hg : ∀ i, i < ks.length → okT ks ts i = true) : ∀ (d i k : Nat), i + d = ks.length → spec_TowerPath.l0 (k + d + 1) ks ts key ks (ks.length : Int) (i : Int) = spec_TowerPath.l1 k ks ts key [] (-1) 6 := by
  intro d
  induction d with
  | zero => intro i k hi; rw [spec_TowerPath.l0, if_neg (by omega)]
  | succ d ih =>
    intro i k hi
    have ho := hg i (by omega)
    replace ho := okT_split ho
    rw [show k + (d + 1) + 1 = (k + d + 1) + 1 from rfl, spec_TowerPath.l0, if_pos (by omega), if_pos (by omega), if_pos (by omega), tL1In_ok, Option.bind_some, wrapT (n := ks.length) (by omega) (by omega), ho.1, if_pos rfl, if_pos (by omega), tL1In_ok, Option.bind_some, ho.2.1, if_pos rfl]
    by_cases h0 : i = 0
    · rw [if_neg (by omega)]; exact ih (i + 1) k (by omega)
    · have e3 : wrap64 ((i : Int) - 1) = ((i - 1 : Nat) : Int) := by rw [w64 (by omega) (by omega)]; omega
      have h2 := ho.2.2
      rw [decide_eq_false h0, Bool.false_or] at h2
      rw [if_pos (by omega), e3, if_pos (by omega), if_pos (by omega), if_pos h2]
      exact ih (i + 1) k (by omega)
theorem implT_good (hg : ∀ i, i < ks.length → okT ks ts i = true) : ∀ (d i k : Nat), i + d = ks.length → impl_TowerPath.l0 (k + d + 1) ks ts key ks (ks.length : Int) (i : Int) = impl_TowerPath.l1 k ks ts key [] 0 6 := by
  intro d
  induction d with
  | zero => intro i k hi; rw [impl_TowerPath.l0, if_neg (by omega)]
  | succ d ih =>
    intro i k hi
    have ho := hg i (by omega)
    replace ho := okT_split ho
    rw [show k + (d + 1) + 1 = (k + d + 1) + 1 from rfl, impl_TowerPath.l0, if_pos (by omega), if_pos (by omega), if_pos (by omega), keyText_in, Option.bind_some, wrapT (n := ks.length) (by omega) (by omega), ho.1, if_pos rfl]
    by_cases h0 : i = 0
    · rw [if_neg (by omega), if_pos (by omega), tInB_ok, Option.bind_some, ho.2.1, if_pos rfl]; exact ih (i + 1) k (by omega)
    · have e3 : wrap64 ((i : Int) - 1) = ((i - 1 : Nat) : Int) := by rw [w64 (by omega) (by omega)]; omega
      have h2 := ho.2.2
      rw [decide_eq_false h0, Bool.false_or] at h2
      rw [if_pos (by omega), e3, if_pos (by omega), if_pos (by omega), if_pos h2, if_pos (by omega), tInB_ok, Option.bind_some, ho.2.1, if_pos rfl]
      exact ih (i + 1) k (by omega)
end
def scanW (ks : List ByteArray) (ts : List Int) (key : ByteArray) (way : Int) : Nat → List Int → Nat → Nat → List Int × Nat
  | 0, acc, at_, _ => (acc, at_)
  | d + 1, acc, at_, i => if rd ts (i : Int) < way then scanW ks ts key way d acc at_ (i + 1) else (if Op.bytesLess (kt ks i) key.toList = true then scanW ks ts key way d (acc ++ [(i : Int)]) (i + 1) (i + 1) else (acc, at_))
def waysW (ks : List ByteArray) (ts : List Int) (key : ByteArray) : Nat → List Int → Nat → List Int × Nat
  | 0, acc, at_ => (acc, at_)
  | w + 1, acc, at_ => let r := scanW ks ts key ((w + 1 : Nat) : Int) (ks.length - at_) acc at_ at_; waysW ks ts key w r.1 r.2
theorem impl_fuel {ks : List ByteArray} {ts : List Int} {key : ByteArray} {acc : List Int} {at_ way : Int} {r : List Int × Int × Bool} {k : Nat} (h : impl_TowerPath.l1 k ks ts key acc at_ way = some r) : ∀ d, impl_TowerPath.l1 (k + d) ks ts key acc at_ way = some r
  | 0 => h
  | d + 1 => (impl_TowerPath.mono_l (k + d)).2.2.1 _ _ _ _ _ _ _ (impl_fuel h d)
theorem spec_fuel {ks : List ByteArray} {ts : List Int} {key : ByteArray} {acc : List Int} {at_ way : Int} {r : List Int × Int × Bool} {k : Nat} (h : spec_TowerPath.l1 k ks ts key acc at_ way = some r) : ∀ d, spec_TowerPath.l1 (k + d) ks ts key acc at_ way = some r
  | 0 => h
  | d + 1 => (spec_TowerPath.mono_l (k + d)).2.2.1 _ _ _ _ _ _ _ (spec_fuel h d)
section
variable {ks : List ByteArray} {ts : List Int} {key : ByteArray} (h30 : ks.length ≤ 30) (hts : ts.length = ks.length)
include h30 hts
theorem impl_scan {way : Int} (hw0 : 1 ≤ way) (hw1 : way ≤ 6) {r : List Int × Int × Bool} {k : Nat} : ∀ (d i at_ : Nat) (acc : List Int), i + d = ks.length → acc.length ≤ i →
    impl_TowerPath.l1 k ks ts key (scanW ks ts key way d acc at_ i).1 ((scanW ks ts key way d acc at_ i).2 : Int) (way - 1) = some r → impl_TowerPath.l2 (k + d + 1) ks ts key acc (at_ : Int) way (i : Int) = some r := by
  intro d
  induction d with
  | zero =>
    intro i at_ acc hi ha h
    rw [impl_TowerPath.l2, if_neg (by omega), w64 (by omega) (by omega)]
    exact h
  | succ d ih =>
    intro i at_ acc hi ha h
    rw [show k + (d + 1) + 1 = (k + d + 1) + 1 from rfl, impl_TowerPath.l2, if_pos (by omega), if_pos (by omega), if_pos (by omega), wrapT (n := ks.length) (by omega) (by omega)]
    rw [scanW] at h
    by_cases c1 : rd ts (i : Int) < way
    · rw [if_pos c1] at h ⊢
      exact ih (i + 1) at_ acc (by omega) (by omega) h
    · rw [if_neg c1] at h ⊢
      by_cases c2 : Op.bytesLess (kt ks i) key.toList = true
      · rw [if_pos c2] at h
        rw [if_pos c2, if_pos (by omega)]
        exact ih (i + 1) (i + 1) _ (by omega) (by rw [List.length_append, List.length_singleton]; omega) h
      · rw [if_neg c2] at h
        rw [if_neg c2, w64 (by omega) (by omega)]
        exact impl_fuel h (d + 1)
theorem spec_scan {way : Int} (hw0 : 1 ≤ way) (hw1 : way ≤ 6) {r : List Int × Int × Bool} {k : Nat} : ∀ (d i at_ : Nat) (acc : List Int), i + d = ks.length → acc.length ≤ i →
    spec_TowerPath.l1 k ks ts key (scanW ks ts key way d acc at_ i).1 ((scanW ks ts key way d acc at_ i).2 - 1 : Int) (way - 1) = some r → spec_TowerPath.l3 (k + 2 * d + 1) ks ts key acc ((at_ : Int) - 1) way (i : Int) = some r := by
  intro d
  induction d with
  | zero =>
    intro i at_ acc hi ha h
    rw [spec_TowerPath.l3, if_neg (by omega), if_pos (by omega), w64 (by omega) (by omega)]
    exact h
  | succ d ih =>
    intro i at_ acc hi ha h
    rw [show k + 2 * (d + 1) + 1 = (k + 2 * d + 1) + 1 + 1 by omega, spec_TowerPath.l3, if_pos (by omega), if_pos (by omega), if_pos (by omega), wrapT (n := ks.length) (by omega) (by omega)]
    rw [scanW] at h
    by_cases c1 : rd ts (i : Int) < way
    · rw [if_pos c1] at h ⊢
      exact (spec_TowerPath.mono_l (k + 2 * d + 1)).2.2.2.2 _ _ _ _ _ _ _ _ (ih (i + 1) at_ acc (by omega) (by omega) h)
    · rw [if_neg c1] at h ⊢
      rw [if_neg (by omega)]
      by_cases c2 : Op.bytesLess (kt ks i) key.toList = true
      · rw [if_pos c2] at h
        rw [if_pos c2, if_pos (by omega), spec_TowerPath.l2, wrapT (n := ks.length) (by omega) (by omega)]
        have := ih (i + 1) (i + 1) _ (by omega) (by rw [List.length_append, List.length_singleton]; omega) h
        rw [show ((i + 1 : Nat) : Int) - 1 = (i : Int) by omega] at this
        exact this
      · rw [if_neg c2] at h
        rw [if_neg c2, w64 (by omega) (by omega)]
        exact spec_fuel h (2 * d + 2)
end
theorem scan_bounds {ks : List ByteArray} {ts : List Int} {key : ByteArray} {way : Int} : ∀ (d i at_ : Nat) (acc : List Int), i + d = ks.length → at_ ≤ i → acc.length ≤ at_ → (scanW ks ts key way d acc at_ i).1.length ≤ (scanW ks ts key way d acc at_ i).2 ∧ (scanW ks ts key way d acc at_ i).2 ≤ ks.length
  | 0, i, at_, acc, hi, h1, h2 => ⟨h2, by rw [scanW]; omega⟩
  | d + 1, i, at_, acc, hi, h1, h2 => by
    rw [scanW]
    split
    · exact scan_bounds d (i + 1) at_ acc (by omega) (by omega) h2
    · split
      · exact scan_bounds d (i + 1) (i + 1) _ (by omega) (Nat.le_refl _) (by rw [List.length_append, List.length_singleton]; omega)
      · exact ⟨h2, by omega⟩
theorem ways_bounds {ks : List ByteArray} {ts : List Int} {key : ByteArray} : ∀ (w at_ : Nat) (acc : List Int), at_ ≤ ks.length → acc.length ≤ at_ → (waysW ks ts key w acc at_).1.length ≤ (waysW ks ts key w acc at_).2 ∧ (waysW ks ts key w acc at_).2 ≤ ks.length
  | 0, at_, acc, h1, h2 => ⟨h2, h1⟩
  | w + 1, at_, acc, h1, h2 => by
    have h := scan_bounds (ks := ks) (ts := ts) (key := key) (way := ((w + 1 : Nat) : Int)) (ks.length - at_) at_ at_ acc (by omega) (Nat.le_refl _) h2
    rw [waysW]
    exact ways_bounds w _ _ h.2 h.1
def Ahead (ks : List ByteArray) (key : ByteArray) (at_ : Nat) : Prop := ∀ j, j < at_ → Op.bytesLess (kt ks j) key.toList = true
theorem sortedT {ks : List ByteArray} {ts : List Int} (hg : ∀ i, i < ks.length → okT ks ts i = true) : ∀ (d i : Nat), i + d + 1 < ks.length → Op.bytesLess (kt ks i) (kt ks (i + d + 1)) = true := by
  have step : ∀ i, i + 1 < ks.length → Op.bytesLess (kt ks i) (kt ks (i + 1)) = true := fun i hi => by
    have ho := hg (i + 1) hi
    replace ho := okT_split ho
    have h2 := ho.2.2
    rw [decide_eq_false (by omega), Bool.false_or, Nat.add_sub_cancel] at h2
    exact h2
  intro d
  induction d with
  | zero => intro i hi; exact step i hi
  | succ d ih => intro i hi; exact lessT (ih i (by omega)) (step (i + d + 1) hi)
theorem scan_ahead {ks : List ByteArray} {ts : List Int} {key : ByteArray} {way : Int} (hg : ∀ i, i < ks.length → okT ks ts i = true) : ∀ (d i at_ : Nat) (acc : List Int), i + d = ks.length → Ahead ks key at_ → Ahead ks key (scanW ks ts key way d acc at_ i).2
  | 0, i, at_, acc, hi, h => h
  | d + 1, i, at_, acc, hi, h => by
    rw [scanW]
    split
    · exact scan_ahead hg d (i + 1) at_ acc (by omega) h
    · split
      · rename_i c
        refine scan_ahead hg d (i + 1) (i + 1) _ (by omega) (fun j hj => ?_)
        by_cases e : j = i
        · subst e; exact c
        · have := sortedT hg (i - j - 1) j (by omega)
          rw [show j + (i - j - 1) + 1 = i by omega] at this
          exact lessT this c
      · exact h
theorem ways_ahead {ks : List ByteArray} {ts : List Int} {key : ByteArray} (hg : ∀ i, i < ks.length → okT ks ts i = true) : ∀ (w at_ : Nat) (acc : List Int), at_ ≤ ks.length → acc.length ≤ at_ → Ahead ks key at_ → Ahead ks key (waysW ks ts key w acc at_).2
  | 0, at_, acc, h1, h2, h => h
  | w + 1, at_, acc, h1, h2, h => by
    have hb := scan_bounds (ks := ks) (ts := ts) (key := key) (way := ((w + 1 : Nat) : Int)) (ks.length - at_) at_ at_ acc (by omega) (Nat.le_refl _) h2
    rw [waysW]
    exact ways_ahead hg w _ _ hb.2 hb.1 (scan_ahead hg (ks.length - at_) at_ at_ acc (by omega) h)
theorem scan_stop {ks : List ByteArray} {ts : List Int} {key : ByteArray} (hg : ∀ i, i < ks.length → okT ks ts i = true) : ∀ (d i : Nat) (acc : List Int), i + d = ks.length → (scanW ks ts key 1 d acc i i).2 = ks.length ∨ Op.bytesLess (kt ks (scanW ks ts key 1 d acc i i).2) key.toList = false
  | 0, i, acc, hi => .inl (by rw [scanW]; omega)
  | d + 1, i, acc, hi => by
    have ho := hg i (by omega)
    have h1 := of_decide_eq_true (Bool.and_eq_true_iff.mp (okT_split ho).2.1).1
    rw [scanW, if_neg (by omega)]
    by_cases c : Op.bytesLess (kt ks i) key.toList = true
    · rw [if_pos c]
      exact scan_stop hg d (i + 1) _ (by omega)
    · rw [if_neg c]
      exact .inr (by simpa using c)
theorem ways_stop {ks : List ByteArray} {ts : List Int} {key : ByteArray} (hg : ∀ i, i < ks.length → okT ks ts i = true) : ∀ (w at_ : Nat) (acc : List Int), 1 ≤ w → at_ ≤ ks.length → acc.length ≤ at_ → (waysW ks ts key w acc at_).2 = ks.length ∨ Op.bytesLess (kt ks (waysW ks ts key w acc at_).2) key.toList = false
  | 0, _, _, h, _, _ => absurd h (by omega)
  | 1, at_, acc, _, h1, h2 => by
    rw [waysW]
    exact scan_stop hg (ks.length - at_) at_ acc (by omega)
  | w + 2, at_, acc, _, h1, h2 => by
    have hb := scan_bounds (ks := ks) (ts := ts) (key := key) (way := ((w + 1 + 1 : Nat) : Int)) (ks.length - at_) at_ at_ acc (by omega) (Nat.le_refl _) h2
    rw [waysW]
    exact ways_stop hg (w + 1) _ _ (by omega) hb.2 hb.1
section
variable {ks : List ByteArray} {ts : List Int} {key : ByteArray} (h30 : ks.length ≤ 30) (hts : ts.length = ks.length)
include h30 hts
theorem impl_l3 {acc : List Int} {at_ : Nat} (hle : at_ ≤ ks.length) (ha : Ahead ks key at_) (hs : at_ = ks.length ∨ Op.bytesLess (kt ks at_) key.toList = false) : ∀ (d i k : Nat), i + d = at_ → d < k → impl_TowerPath.l3 k ks key acc (i : Int) = some (acc, (at_ : Int), true) := by
  intro d
  induction d with
  | zero =>
    intro i k hi hk
    obtain ⟨k, rfl⟩ : ∃ m, k = m + 1 := ⟨k - 1, by omega⟩
    obtain rfl : i = at_ := by omega
    rw [impl_TowerPath.l3]
    rcases hs with h | h
    · rw [if_neg (by omega)]
    · by_cases c : (i : Int) < (ks.length : Int)
      · rw [if_pos c, if_pos (by omega), if_neg (by rw [show Op.bytesLess (rdOf ByteArray.empty ks (i : Int)).toList key.toList = false from h]; decide)]
      · rw [if_neg c]
  | succ d ih =>
    intro i k hi hk
    obtain ⟨k, rfl⟩ : ∃ m, k = m + 1 := ⟨k - 1, by omega⟩
    rw [impl_TowerPath.l3, if_pos (by omega), if_pos (by omega), if_pos (ha i (by omega)), wrapT (n := ks.length) (by omega) (by omega)]
    exact ih (i + 1) k (by omega) (by omega)
theorem impl_ways {fin : Nat} : ∀ (w at_ : Nat) (acc : List Int) (k : Nat), w ≤ 6 → at_ ≤ ks.length → acc.length ≤ at_ → (waysW ks ts key w acc at_).2 = fin → (∀ k, 40 < k → impl_TowerPath.l3 k ks key (waysW ks ts key w acc at_).1 0 = some ((waysW ks ts key w acc at_).1, (fin : Int), true)) → 50 + 40 * w < k →
    impl_TowerPath.l1 k ks ts key acc (at_ : Int) (w : Int) = some ((waysW ks ts key w acc at_).1, (fin : Int), true) := by
  intro w
  induction w with
  | zero =>
    intro at_ acc k h6 h1 h2 hf h3 hk
    obtain ⟨k, rfl⟩ : ∃ m, k = m + 1 := ⟨k - 1, by omega⟩
    rw [impl_TowerPath.l1, if_neg (by omega)]
    exact h3 k (by omega)
  | succ w ih =>
    intro at_ acc k h6 h1 h2 hf h3 hk
    obtain ⟨k, rfl⟩ : ∃ m, k = m + (ks.length - at_) + 1 + 1 := ⟨k - (ks.length - at_) - 2, by omega⟩
    have hb := scan_bounds (ks := ks) (ts := ts) (key := key) (way := ((w + 1 : Nat) : Int)) (ks.length - at_) at_ at_ acc (by omega) (Nat.le_refl _) h2
    rw [waysW] at hf h3 ⊢
    rw [impl_TowerPath.l1, if_pos (by omega)]
    refine impl_scan h30 hts (by omega) (by omega) (ks.length - at_) at_ at_ acc (by omega) (by omega) ?_
    rw [show ((w + 1 : Nat) : Int) - 1 = (w : Int) by omega]
    exact ih _ _ k (by omega) hb.2 hb.1 hf h3 (by omega)
theorem spec_ways : ∀ (w at_ : Nat) (acc : List Int) (k : Nat), w ≤ 6 → at_ ≤ ks.length → acc.length ≤ at_ → 50 + 80 * w < k →
    spec_TowerPath.l1 k ks ts key acc ((at_ : Int) - 1) (w : Int) = some ((waysW ks ts key w acc at_).1, ((waysW ks ts key w acc at_).2 : Int), true) := by
  intro w
  induction w with
  | zero =>
    intro at_ acc k h6 h1 h2 hk
    obtain ⟨k, rfl⟩ : ∃ m, k = m + 1 := ⟨k - 1, by omega⟩
    rw [spec_TowerPath.l1, if_neg (by omega), waysW, w64 (by omega) (by omega), show (at_ : Int) - 1 + 1 = (at_ : Int) by omega]
  | succ w ih =>
    intro at_ acc k h6 h1 h2 hk
    obtain ⟨k, rfl⟩ : ∃ m, k = m + 2 * (ks.length - at_) + 1 + 1 + 1 := ⟨k - 2 * (ks.length - at_) - 3, by omega⟩
    have hb := scan_bounds (ks := ks) (ts := ts) (key := key) (way := ((w + 1 : Nat) : Int)) (ks.length - at_) at_ at_ acc (by omega) (Nat.le_refl _) h2
    rw [waysW, spec_TowerPath.l1, if_pos (by omega), spec_TowerPath.l2, w64 (x := (at_ : Int) - 1 + 1) (by omega) (by omega), show (at_ : Int) - 1 + 1 = (at_ : Int) by omega]
    refine spec_scan h30 hts (by omega) (by omega) (ks.length - at_) at_ at_ acc (by omega) (by omega) ?_
    rw [show ((w + 1 : Nat) : Int) - 1 = (w : Int) by omega]
    exact ih _ _ k (by omega) hb.2 hb.1 (by omega)
end
theorem tower_both (ks : List ByteArray) (ts : List Int) (key : ByteArray) {k : Nat} (hk : 1000 < k) :
    ∃ (path : List Int) (at_ : Int) (found : Bool), impl_TowerPath.f k ks ts key = some (path, at_, found) ∧ spec_TowerPath.f k ks ts key = some (path, at_, found) ∧ (found = false → path = []) ∧
      (found = true → ks.length ≤ 30 ∧ ∃ n : Nat, at_ = (n : Int) ∧ n ≤ ks.length ∧ path.length ≤ n ∧ Ahead ks key n ∧ (n = ks.length ∨ Op.bytesLess (kt ks n) key.toList = false)) := by
  obtain ⟨k, rfl⟩ : ∃ m, k = m + 1 := ⟨k - 1, by omega⟩
  unfold impl_TowerPath.f spec_TowerPath.f
  by_cases h30 : (ks.length : Int) > 30
  · rw [if_pos h30, if_pos h30, impl_TowerPath.j0, spec_TowerPath.j0, if_pos rfl, if_pos rfl]
    exact ⟨[], 0, false, rfl, rfl, fun _ => rfl, fun h => by cases h⟩
  rw [if_neg h30, if_neg h30, impl_TowerPath.j0, spec_TowerPath.j0]
  by_cases hts : ts.length = ks.length
  · have e : ((ts.length : Int) != (ks.length : Int)) = false := bne_eq_false_iff_eq.2 (by omega)
    rw [e, if_neg (by decide), if_neg (by decide)]
    have h30' : ks.length ≤ 30 := by omega
    by_cases hg : ∀ i, i < ks.length → okT ks ts i = true
    · obtain ⟨q, rfl⟩ : ∃ q, k = q + ks.length + 1 := ⟨k - ks.length - 1, by omega⟩
      have s1 := specT_good (key := key) h30' hts hg ks.length 0 q (by omega)
      have s2 := implT_good (key := key) h30' hts hg ks.length 0 q (by omega)
      rw [show ((0 : Nat) : Int) = 0 from rfl] at s1 s2
      rw [s1, s2]
      have hb := ways_bounds (ks := ks) (ts := ts) (key := key) 6 0 [] (Nat.zero_le _) (Nat.le_refl _)
      have hah := ways_ahead (key := key) hg 6 0 [] (Nat.zero_le _) (Nat.le_refl _) (fun j hj => absurd hj (Nat.not_lt_zero j))
      have hst := ways_stop (key := key) hg 6 0 [] (by omega) (Nat.zero_le _) (Nat.le_refl _)
      refine ⟨(waysW ks ts key 6 [] 0).1, ((waysW ks ts key 6 [] 0).2 : Int), true, ?_, ?_, fun h => (by cases h), fun _ => ⟨h30', _, rfl, hb.2, hb.1, hah, hst⟩⟩
      · exact impl_ways h30' hts 6 0 [] q (by omega) (Nat.zero_le _) (Nat.le_refl _) rfl (fun k hk => impl_l3 h30' hts hb.2 hah hst (waysW ks ts key 6 [] 0).2 0 k (by omega) (by have := hb.2; omega)) (by omega)
      · exact spec_ways h30' hts 6 0 [] q (by omega) (Nat.zero_le _) (Nat.le_refl _) (by omega)
    · obtain ⟨j, hj, hj2⟩ : ∃ j, j < ks.length ∧ okT ks ts j = false := by
        apply Classical.byContradiction
        intro hn
        exact hg (fun i hi => by
          cases q : okT ks ts i with
          | true => rfl
          | false => exact absurd ⟨i, hi, q⟩ hn)
      exact ⟨[], 0, false, implT_l0 h30' hts ks.length 0 k (by omega) (by omega) ⟨j, Nat.zero_le _, hj, hj2⟩, specT_l0 h30' hts ks.length 0 k (by omega) (by omega) ⟨j, Nat.zero_le _, hj, hj2⟩, fun _ => rfl, fun h => by cases h⟩
  · have e : ((ts.length : Int) != (ks.length : Int)) = true := bne_iff_ne.2 (by omega)
    rw [e, if_pos rfl, if_pos rfl]
    exact ⟨[], 0, false, rfl, rfl, fun _ => rfl, fun h => by cases h⟩
end Go.Proofs.Ytdkokfnnebdppaa.Lem
end
