/- The statement's own text and the last of the walks that it uses. -/
import Derived.SizedLaws
import Derived.ChangeSlices
import Derived.Test.YthliooccgclbjaaRows
import Derived.WalkKit
import Derived.ProofKit
import Derived.OpenShut
import Derived.ShutString
import Derived.ChangeOld
import Derived.Below
import Derived.Test.YthliooccgclbjaaMFnLogs4

-- written by a program of this session's (wip/pp)
namespace Go.Proofs.Ythliooccgclbjaa.P
open Go.RowKit Go.Proofs.YthliooccgclbjaaW.PrintWords Go.Proofs.YthliooccgclbjaaW.PrintLast Go.Proofs.YthliooccgclbjaaW.PrintMore
attribute [local go_sem] max2_int min2_int max_two min_two max_three min_three max_four min_four   -- for this text's walks alone
set_option linter.unusedVariables false
set_option linter.unusedSimpArgs false

/-! ### spec_l1Cur_wide: function 37 -/
def spec_l1Cur_wide.l0 : Nat → Int → Int → List Int → Int → Int → Option (Int × Int × Int)
 | 0, _, _, _, _, _ => none
 | k + 1, x3, x4, x1000, x1001, x1002 => if x4 < 8 then ((spec_l1Cur_next.f x1000 x1001 x1002).bind fun bt101 => (spec_l1Cur_wide.l0 k (Go.bits .or .i64 (wrap64 (x3 * 256)) bt101.1) (wrap64 (x4 + 1)) x1000 bt101.2.1 bt101.2.2)) else (some (x3, x1001, x1002))
def spec_l1Cur_wide.f (k : Nat) (s0_0 : List Int) (s0_1 : Int) (s0_2 : Int) : Option (Int × Int × Int) := spec_l1Cur_wide.l0 k 0 0 s0_0 s0_1 s0_2
theorem spec_l1Cur_wide.mono_l : ∀ k, (∀ y0 y1 y2 y3 y4, LeO (spec_l1Cur_wide.l0 k y0 y1 y2 y3 y4) (spec_l1Cur_wide.l0 (k + 1) y0 y1 y2 y3 y4))
 | 0 => fun _ _ _ _ _ r h => by simp [spec_l1Cur_wide.l0] at h
 | k + 1 => by
  have ih0 := spec_l1Cur_wide.mono_l k
  · intro y0 y1 y2 y3 y4
    unfold spec_l1Cur_wide.l0
    repeat' first
     | (with_reducible first | exact ih0 .. | exact LeO.refl _ | exact LeO.none _ | refine LeO.ite ?_ ?_ | refine LeO.bind ?_ (fun _ => ?_))
     | exact LeO.none _
     | refine LeO.ite ?_ ?_
     | refine LeO.bind ?_ (fun _ => ?_)
theorem spec_l1Cur_wide.mono : ∀ a0 a1 a2 k, LeO (spec_l1Cur_wide.f k a0 a1 a2) (spec_l1Cur_wide.f (k + 1) a0 a1 a2) := by
 intro a0 a1 a2 k
 have ih0 := spec_l1Cur_wide.mono_l k
 unfold spec_l1Cur_wide.f
 repeat' first
  | (with_reducible first | exact ih0 .. | exact LeO.refl _ | exact LeO.none _ | refine LeO.ite ?_ ?_ | refine LeO.bind ?_ (fun _ => ?_))
  | exact LeO.none _
  | refine LeO.ite ?_ ?_
  | refine LeO.bind ?_ (fun _ => ?_)
set_option maxHeartbeats 8000000 in
set_option maxRecDepth 100000 in
theorem spec_l1Cur_wide.calls (k : Nat) (g : Nat) (s0_0 : List Int) (s0_1 : Int) (s0_2 : Int) (r1 : Int) (r2 : Int) (r3 : Int) (w0 w : World) (hI : IsS66 w0 w g s0_0 s0_1 s0_2) (hB : Below w0.heap.size w0 w) (h : spec_l1Cur_wide.f k s0_0 s0_1 s0_2 = some (r1, r2, r3)) :
 Calls Try.prog 37 #[.pointer (some ⟨g, 0, none⟩)] w fun e w' => e = .returned (.int .i64 r1) ∧ IsS66 w0 w' g s0_0 r2 r3 ∧ Below w0.heap.size w0 w' ∧ KeepBut w w' g none := by
 have HI0 := Aside0.mk hI
 have HK := Aside0.mk (KeepBut.refl w g none)
 have HL := Aside0.mk hB.size
 clear hI
 have HW0 := Aside0.mk hB.size
 have HB := Aside0.mk hB
 clear hB
 have H : (spec_l1Cur_wide.l0 k 0 0 s0_0 s0_1 s0_2) = some (r1, r2, r3) := h
 clear h
 have H' := Aside0.mk H
 clear H
 go_enter Try.func37, Try.ntmps37
 go_wp2
 go_loopg [3, 4] k (fun kq v3 v4 w' => ∃ (x3_1 : Int) (x4_1 : Int) (x1001_1 : Int) (x1002_1 : Int), v3 = .int .i64 x3_1 ∧ v4 = .int .i64 x4_1 ∧ Aside0 (spec_l1Cur_wide.l0 kq x3_1 x4_1 s0_0 x1001_1 x1002_1 = some (r1, r2, r3)) ∧ Aside0 (kq ≤ k) ∧ Aside0 (IsS66 w0 w' g s0_0 x1001_1 x1002_1) ∧ Aside0 (KeepBut w w' g none) ∧ Aside0 (Below w0.heap.size w0 w'))
 case atStart => exact ⟨(0), (0), (s0_1), (s0_2), z4458, z4458, H', ⟨Nat.le_refl _⟩, ⟨zdb4b⟩, ⟨zcbec⟩, ⟨zfd03⟩⟩
 case round =>
  clear H'
  obtain ⟨x3_1, x4_1, x1001_1, x1002_1, rfl, rfl, HA, HK1, HI0, HK, HB⟩ := hrel
  cases gk with
  | zero => exact absurd HA.out (by simp [spec_l1Cur_wide.l0])
  | succ k1 =>
   have H := HA.out
   clear HA
   simp only [spec_l1Cur_wide.l0] at H
   by_cases c2 : x4_1 < 8
   · rw [if_pos c2] at H
     have c2b0 : decide (x4_1 < 8) = true := decide_eq_true c2
     clear c2
     replace H := Option.bind_eq_some_iff.mp H
     obtain ⟨⟨t101, t102, t103⟩, A30, H⟩ := H
     try dsimp only at H
     have A3 := Aside0.mk A30
     clear A30
     have H' := Aside0.mk H
     clear H
     go_wp2_with (first | ((with_reducible refine gate_callee (f := 63) rfl ?_); refine goesL_ (some 12) rfl rfl Try.func63 (by kernel_rfl) rfl #[.pointer (some ⟨g, 0, none⟩)] rfl zee81 ?_; (with_reducible refine (spec_l1Cur_next.calls g s0_0 x1001_1 x1002_1 t101 t102 t103 w0 _ ?side1 ?side2 A3.out).mono ?_); (case side1 => exact zdb4b); (case side2 => exact zfd03); rintro e w4 ⟨rfl, hi, hb, hk⟩; refine ⟨_, rfl, ?_⟩; have n0_ := Aside0.mk (KeepBut.trans zcbec hk (.inl rfl)); have n1_ := Aside0.mk hb; have n2_ := Aside0.mk hi; clear HK HB HI0; have HK := n0_; have HB := n1_; have HI0 := n2_; clear n0_ n1_ n2_; (try clear hb); (try clear hb2); (try clear hk); (try clear hi)))
     go_roundg k1
     case measure => have := HK1.out; omega
     case rel => exact ⟨(Go.bits .or .i64 (wrap64 (x3_1 * 256)) t101), (wrap64 (x4_1 + 1)), (t102), (t103), z4458, z4458, H', ⟨zfb39⟩, ⟨zdb4b⟩, ⟨zcbec⟩, ⟨zfd03⟩⟩
   · rw [if_neg c2] at H
     have c2b0 : decide (x4_1 < 8) = false := decide_eq_false c2
     clear c2
     simp only [Option.some.injEq, Prod.mk.injEq] at H
     obtain ⟨rfl, rfl, rfl⟩ := H
     go_wp2
     go_ret
     exact ⟨z674d, zdb4b, zfd03, zcbec⟩

end Go.Proofs.Ythliooccgclbjaa.P

namespace Go.Proofs.Ythliooccgclbjaa.Lem
open Go.RowKit Go.Proofs.Ythliooccgclbjaa.P Go.Proofs.YthliooccgclbjaaW.PrintWords Go.Proofs.YthliooccgclbjaaW.PrintLast Go.Proofs.YthliooccgclbjaaW.PrintMore

/-- The reader of choices goes on: a number, and a later place. -/
theorem next_ok {l : List Int} (hl : Bytes l) (at_ s : Int) (h0 : 0 ≤ at_) (h1 : at_ < 4611686018427387904) :
    ∃ r s', spec_l1Cur_next.f l at_ s = some (r, at_ + 1, s') ∧ 0 ≤ r ∧ r < 256 := by
  have hw : wrap64 (at_ + 1) = at_ + 1 := w64 (by omega) (by omega)
  have hb := hl.rd at_
  have hwr : wrap64 (rd l at_) = rd l at_ := w64 (by omega) (by omega)
  unfold spec_l1Cur_next.f
  rw [hw, hwr]
  have key : ∀ x : Int, 0 ≤ wrap64 (Go.bits .and .u64 (IntKind.u64.wrap x / 1099511627776) 255) ∧ wrap64 (Go.bits .and .u64 (IntKind.u64.wrap x / 1099511627776) 255) < 256 := by
    intro x
    have hx := wu64_lo x
    have hy := wu64_hi x
    have := and255 (x := IntKind.u64.wrap x / 1099511627776) (by omega) (by omega)
    rw [w64 (by omega) (by omega)]
    exact this
  by_cases c1 : at_ < (l.length : Int)
  · rw [if_pos c1, if_pos h0]
    by_cases c2 : at_ + 1 ≤ (l.length : Int)
    · rw [if_pos c2]
      exact ⟨_, _, rfl, hb.1, hb.2⟩
    · rw [if_neg c2]
      exact ⟨_, _, rfl, key _⟩
  · rw [if_neg c1]
    by_cases c2 : at_ + 1 ≤ (l.length : Int)
    · rw [if_pos c2]
      exact ⟨_, _, rfl, by decide, by decide⟩
    · rw [if_neg c2]
      exact ⟨_, _, rfl, key _⟩

theorem tmod_ok {x n : Int} (hx : 0 ≤ x) (hn : 0 < n) : 0 ≤ Int.tmod x n ∧ Int.tmod x n < n := by
  rw [Int.tmod_eq_emod_of_nonneg hx]
  exact ⟨Int.emod_nonneg _ (by omega), Int.emod_lt_of_pos _ hn⟩

theorem pick_ok {l : List Int} (hl : Bytes l) (at_ s n : Int) (h0 : 0 ≤ at_) (h1 : at_ < 4611686018427387900) :
    ∃ r a' s', spec_l1Cur_pick.f l at_ s n = some (r, a', s') ∧ at_ ≤ a' ∧ a' ≤ at_ + 2 ∧ 0 ≤ r ∧ (1 ≤ n → r < n) ∧ (n ≤ 1 → r = 0) := by
  unfold spec_l1Cur_pick.f
  by_cases c1 : n ≤ 1
  · rw [if_pos c1]
    exact ⟨0, at_, s, rfl, by omega, by omega, by omega, fun _ => by omega, fun _ => rfl⟩
  · rw [if_neg c1]
    obtain ⟨r, s1, e, r0, r1⟩ := next_ok hl at_ s h0 (by omega)
    rw [e]
    simp only [Option.bind_some]
    by_cases c2 : n > 200
    · rw [if_pos c2]
      obtain ⟨q, s2, e2, q0, q1⟩ := next_ok hl (at_ + 1) s1 (by omega) (by omega)
      rw [e2]
      simp only [Option.bind_some]
      rw [if_neg (by omega)]
      have hw1 : wrap64 (r * 256) = r * 256 := w64 (by omega) (by omega)
      rw [hw1]
      have hw2 : wrap64 (r * 256 + q) = r * 256 + q := w64 (by omega) (by omega)
      rw [hw2]
      have ht := tmod_ok (x := r * 256 + q) (n := n) (by omega) (by omega)
      exact ⟨_, _, _, rfl, by omega, by omega, ht.1, fun _ => ht.2, fun h => by omega⟩
    · rw [if_neg c2, if_neg (by omega)]
      have ht := tmod_ok (x := r) (n := n) (by omega) (by omega)
      exact ⟨_, _, _, rfl, by omega, by omega, ht.1, fun _ => ht.2, fun h => by omega⟩

theorem one_ok {l : List Int} (hl : Bytes l) (at_ s n : Int) (h0 : 0 ≤ at_) (h1 : at_ < 4611686018427387900) :
    ∃ b a' s', spec_l1Cur_one.f l at_ s n = some (b, a', s') ∧ at_ ≤ a' ∧ a' ≤ at_ + 2 := by
  unfold spec_l1Cur_one.f
  obtain ⟨r, a', s', e, ha, hb, _⟩ := pick_ok hl at_ s n h0 h1
  rw [e]
  exact ⟨_, _, _, rfl, ha, hb⟩

theorem wide_l0 {l : List Int} (hl : Bytes l) (d : Nat) : ∀ (k : Nat) (n i at_ s : Int), i + d = 8 → 0 ≤ at_ → at_ + d < 4611686018427387900 → d < k →
    ∃ r a' s', spec_l1Cur_wide.l0 k n i l at_ s = some (r, a', s') ∧ at_ ≤ a' ∧ a' ≤ at_ + d := by
  induction d with
  | zero =>
    intro k n i at_ s hi h0 h1 hk
    obtain ⟨k, rfl⟩ : ∃ m, k = m + 1 := ⟨k - 1, by omega⟩
    refine ⟨n, at_, s, ?_, by omega, by omega⟩
    simp only [spec_l1Cur_wide.l0]
    rw [if_neg (by omega)]
  | succ d ih =>
    intro k n i at_ s hi h0 h1 hk
    obtain ⟨k, rfl⟩ : ∃ m, k = m + 1 := ⟨k - 1, by omega⟩
    simp only [spec_l1Cur_wide.l0]
    rw [if_pos (by omega)]
    obtain ⟨r, s1, e, r0, r1⟩ := next_ok hl at_ s h0 (by omega)
    rw [e]
    simp only [Option.bind_some]
    rw [show wrap64 (i + 1) = i + 1 from w64 (by omega) (by omega)]
    obtain ⟨r, a', s', e2, ha, hb⟩ := ih k (Go.bits .or .i64 (wrap64 (n * 256)) r) (i + 1) (at_ + 1) s1 (by omega) (by omega) (by omega) (by omega)
    exact ⟨r, a', s', e2, by omega, by omega⟩

theorem wide_ok {l : List Int} (hl : Bytes l) (k : Nat) (at_ s : Int) (hk : 8 < k) (h0 : 0 ≤ at_) (h1 : at_ < 4611686018427387800) :
    ∃ r a' s', spec_l1Cur_wide.f k l at_ s = some (r, a', s') ∧ at_ ≤ a' ∧ a' ≤ at_ + 8 :=
  wide_l0 hl 8 k 0 0 at_ s (by omega) h0 (by omega) hk

end Go.Proofs.Ythliooccgclbjaa.Lem

/- What is drawn out of a list of whole numbers is one of them. -/
namespace Go.Proofs.Ythliooccgclbjaa.Lem
open Go.RowKit Go.Proofs.Ythliooccgclbjaa.P Go.Proofs.YthliooccgclbjaaW.PrintWords Go.Proofs.YthliooccgclbjaaW.PrintLast Go.Proofs.YthliooccgclbjaaW.PrintMore

theorem rd_mem {l : List Int} {i : Int} (h0 : 0 ≤ i) (h1 : i < (l.length : Int)) : rd l i ∈ l := by
  unfold Go.Proofs.YthliooccgclbjaaW.PrintWords.rd
  rw [List.getD_eq_getElem?_getD, List.getElem?_eq_getElem (by omega)]
  exact List.getElem_mem _
theorem among_ok {l : List Int} (hl : Bytes l) (ws : List Int) (hw : 1 ≤ ws.length) (at_ s : Int) (h0 : 0 ≤ at_) (h1 : at_ < 4611686018427387900) :
    ∃ t a' s', spec_l1Cur_among.f l at_ s ws = some (t, a', s') ∧ t ∈ ws ∧ at_ ≤ a' ∧ a' ≤ at_ + 2 := by
  unfold spec_l1Cur_among.f
  obtain ⟨r, a1, s1, e1, g1, g1', r0, r1, _⟩ := pick_ok hl at_ s (ws.length : Int) h0 h1
  have hr := r1 (by omega)
  rw [e1, Option.bind_some]; try dsimp only
  rw [if_pos r0, if_pos hr]
  exact ⟨_, _, _, rfl, rd_mem r0 hr, g1, g1'⟩

end Go.Proofs.Ythliooccgclbjaa.Lem

-- written by a program of this session's (wip/pp)
namespace Go.Proofs.Ythliooccgclbjaa.P
open Go.RowKit Go.Proofs.YthliooccgclbjaaW.PrintWords Go.Proofs.YthliooccgclbjaaW.PrintLast Go.Proofs.YthliooccgclbjaaW.PrintMore
attribute [local go_sem] max2_int min2_int max_two min_two max_three min_three max_four min_four   -- for this text's walks alone
set_option linter.unusedVariables false
set_option linter.unusedSimpArgs false

/-! ### impl_PutVar: function 8 -/
def impl_PutVar.l0 : Nat → Int → List Int → Option (List Int)
 | 0, _, _ => none
 | k + 1, x0, x3 => if x0 > 127 then (if x3.length < 140737488355328 then (impl_PutVar.l0 k (x0 / 128) (x3 ++ [Go.bits .or .u8 ((x0) % 256) 128])) else (none)) else (if x3.length < 140737488355328 then (some (x3 ++ [(x0) % 256])) else (none))
def impl_PutVar.f (k : Nat) (a0 : Int) : Option (List Int) := impl_PutVar.l0 k a0 (([] : List Int))
theorem impl_PutVar.mono_l : ∀ k, (∀ y0 y1, LeO (impl_PutVar.l0 k y0 y1) (impl_PutVar.l0 (k + 1) y0 y1))
 | 0 => fun _ _ r h => by simp [impl_PutVar.l0] at h
 | k + 1 => by
  have ih0 := impl_PutVar.mono_l k
  · intro y0 y1
    unfold impl_PutVar.l0
    repeat' first
     | (with_reducible first | exact ih0 .. | exact LeO.refl _ | exact LeO.none _ | refine LeO.ite ?_ ?_ | refine LeO.bind ?_ (fun _ => ?_))
     | exact LeO.none _
     | refine LeO.ite ?_ ?_
     | refine LeO.bind ?_ (fun _ => ?_)
theorem impl_PutVar.mono : ∀ a0 k, LeO (impl_PutVar.f k a0) (impl_PutVar.f (k + 1) a0) := by
 intro a0 k
 have ih0 := impl_PutVar.mono_l k
 unfold impl_PutVar.f
 repeat' first
  | (with_reducible first | exact ih0 .. | exact LeO.refl _ | exact LeO.none _ | refine LeO.ite ?_ ?_ | refine LeO.bind ?_ (fun _ => ?_))
  | exact LeO.none _
  | refine LeO.ite ?_ ?_
  | refine LeO.bind ?_ (fun _ => ?_)
set_option maxHeartbeats 8000000 in
set_option maxRecDepth 100000 in
theorem impl_PutVar.calls (k : Nat) (a0 : Int) (r : List Int) (w : World) (h : impl_PutVar.f k a0 = some r) :
 Calls Try.prog 8 #[.int .u64 a0] w fun e w' => ∃ v0_ : Value, e = .returned (v0_) ∧ Kd.R (Kd.int .u8) 5 w' w.heap.size (fun _ => True) v0_ r ∧ Below w.heap.size w w' := by
 have HB := Aside0.mk (Below.refl w.heap.size w)
 have H : (impl_PutVar.l0 k a0 (([] : List Int))) = some r := h
 clear h
 obtain ⟨y101, hy101⟩ : ∃ y_ : List Int, y_ = (([] : List Int)) := ⟨_, rfl⟩
 replace H : (impl_PutVar.l0 k a0 y101) = some r := by first | (rw [hy101]; with_reducible exact H) | (have H2_ := (Option.bind_some _ _).symm.trans H; rw [hy101]; with_reducible exact H2_) | (have H2_ := (Option.bind_some _ _).symm.trans H; with_reducible exact H2_) | with_reducible exact H | (rw [hy101]; exact H) | exact H
 have Ny101 := Aside0.mk hy101
 clear hy101
 have H' := Aside0.mk H
 clear H
 go_enter Try.func8, Try.ntmps8
 go_wp2_with (first | ((with_reducible refine gate_dst (N := 4) rfl ?_); refine Kd.R_lit (Kd.int .u8) _ 5 ?hg (N := 4) ?hd (xs := ([] : List Int)) (inner := []) (ok := fun _ => True) (okp := fun _ => True) ?hr ?hp (fun _ hk => hk) trivial (Below.refl _ _) (Nat.le_refl _) (by simp) ?_; (case hd => rfl); (case hg => rfl); (case hr => first | (go_simp; done) | (go_simp; rfl)); (case hp => exact (Reps.none _ _)); intro v102 w2 ho3 hb hg_ hnew_; clear hg_ hnew_; (first | rw [← Ny101.out] at ho3 | (simp only [Int.reduceToNat] at ho3; rw [← Ny101.out] at ho3)); have n0_ := Aside0.mk (Kd.R_lower ho3 (below_size hbZ)); have n1_ := Aside0.mk (below_step hbZ hb); clear HB; have HO103 := n0_; have HB := n1_; clear n0_ n1_; clear hb ho3))
 go_loopg [0, 3] k (fun kq v0 v3 w' => ∃ (x0_1 : Int) (x3_1 : List Int), v0 = .int .u64 x0_1 ∧ Aside0 (impl_PutVar.l0 kq x0_1 x3_1 = some r) ∧ Aside0 (kq ≤ k) ∧ Aside0 (Kd.R (Kd.int .u8) 5 w' w.heap.size (fun _ => True) v3 x3_1) ∧ Aside0 (Below w.heap.size w w'))
 case atStart => exact ⟨(a0), (y101), z4458, H', ⟨Nat.le_refl _⟩, ⟨rZ HO103.out⟩, ⟨z5acd⟩⟩
 case round =>
  clear H'
  try clear p2
  obtain ⟨x0_1, x3_1, rfl, HA, HK1, HO_3, HB⟩ := hrel
  cases gk with
  | zero => exact absurd HA.out (by simp [impl_PutVar.l0])
  | succ k1 =>
   have H := HA.out
   clear HA
   simp only [impl_PutVar.l0] at H
   by_cases c4 : x0_1 > 127
   · rw [if_pos c4] at H
     have c4b0 : decide (127 < x0_1) = true := decide_eq_true c4
     clear c4
     by_cases c5 : x3_1.length < 140737488355328
     · rw [if_pos c5] at H
       have LMc5 := Aside0.mk c5
       clear c5
       obtain ⟨y104, hy104⟩ : ∃ y_ : List Int, y_ = (x3_1 ++ [Go.bits .or .u8 ((x0_1) % 256) 128]) := ⟨_, rfl⟩
       replace H : (impl_PutVar.l0 k1 (x0_1 / 128) y104) = some r := by first | (rw [hy104]; with_reducible exact H) | (have H2_ := (Option.bind_some _ _).symm.trans H; rw [hy104]; with_reducible exact H2_) | (have H2_ := (Option.bind_some _ _).symm.trans H; with_reducible exact H2_) | with_reducible exact H | (rw [hy104]; exact H) | exact H
       have Ny104 := Aside0.mk hy104
       clear hy104
       have H' := Aside0.mk H
       clear H
       go_wp2_with (first | ((with_reducible refine gate_builtin (b := .append) (xs := #[.tmp 7, .tmp 11]) rfl ?_); at_builtin; refine Kd.R_append (Kd.int .u8) (w0 := w) w.heap.size rfl (.tmp 7) (.tmp 11) 22 5 (.int .u8 0) 1 rfl Try.underlying22 info5 rfl (by decide) (by omega) u3 x3_1 (Go.bits .or .u8 ((x0_1) % 256) 128) [.int .u8 (Go.bits .or .u8 ((x0_1) % 256) 128)] (fun _ => True) (fun _ => False) rfl rfl ?aP (fun _ hk => hk.elim) ?aF ?aO ?aB ?aS ?aL ?_; (case aP => exact rfl); (case aB => exact hbZ); (case aF => exact (fun _ _ => trivial)); (case aO => exact (rZ HO_3.out)); (case aS => exact (below_size hbZ)); (case aL => have := LMc5.out; omega); intro v105 w6 ho hb hg hat; rw [← Ny104.out] at ho; have n0_ := Aside0.mk hb; have n1_ := Aside0.mk ho; clear HB HO_3; have HB := n0_; have HO106 := n1_; clear n0_ n1_; clear ho hb hg hat))
       go_roundg k1
       case measure => have := HK1.out; omega
       case rel => exact ⟨(x0_1 / 128), (y104), z4458, H', ⟨zfb39⟩, ⟨rZ HO106.out⟩, ⟨z5acd⟩⟩
     · rw [if_neg c5] at H
       exact absurd H (by simp)
   · rw [if_neg c4] at H
     have c4b0 : decide (127 < x0_1) = false := decide_eq_false c4
     clear c4
     by_cases c7 : x3_1.length < 140737488355328
     · rw [if_pos c7] at H
       have LMc7 := Aside0.mk c7
       clear c7
       obtain ⟨y107, hy107⟩ : ∃ y_ : List Int, y_ = (x3_1 ++ [(x0_1) % 256]) := ⟨_, rfl⟩
       replace H : (some y107) = some r := by first | (rw [hy107]; with_reducible exact H) | (have H2_ := (Option.bind_some _ _).symm.trans H; rw [hy107]; with_reducible exact H2_) | (have H2_ := (Option.bind_some _ _).symm.trans H; with_reducible exact H2_) | with_reducible exact H | (rw [hy107]; exact H) | exact H
       have Ny107 := Aside0.mk hy107
       clear hy107
       obtain rfl := Option.some.inj H
       go_wp2_with (first | ((with_reducible refine gate_builtin (b := .append) (xs := #[.tmp 15, .tmp 18]) rfl ?_); at_builtin; refine Kd.R_append (Kd.int .u8) (w0 := w) w.heap.size rfl (.tmp 15) (.tmp 18) 22 5 (.int .u8 0) 1 rfl Try.underlying22 info5 rfl (by decide) (by omega) u3 x3_1 ((x0_1) % 256) [.int .u8 ((x0_1) % 256)] (fun _ => True) (fun _ => False) rfl rfl ?aP (fun _ hk => hk.elim) ?aF ?aO ?aB ?aS ?aL ?_; (case aP => exact rfl); (case aB => exact hbZ); (case aF => exact (fun _ _ => trivial)); (case aO => exact (rZ HO_3.out)); (case aS => exact (below_size hbZ)); (case aL => have := LMc7.out; omega); intro v108 w8 ho hb hg hat; rw [← Ny107.out] at ho; have n0_ := Aside0.mk hb; have n1_ := Aside0.mk ho; clear HB HO_3; have HB := n0_; have HO109 := n1_; clear n0_ n1_; clear ho hb hg hat))
       go_ret
       exact ⟨_, z674d, rZ HO109.out, z5acd⟩
     · rw [if_neg c7] at H
       exact absurd H (by simp)

end Go.Proofs.Ythliooccgclbjaa.P

-- written by a program of this session's (wip/pp)
namespace Go.Proofs.Ythliooccgclbjaa.P
open Go.RowKit Go.Proofs.YthliooccgclbjaaW.PrintWords Go.Proofs.YthliooccgclbjaaW.PrintLast Go.Proofs.YthliooccgclbjaaW.PrintMore
attribute [local go_sem] max2_int min2_int max_two min_two max_three min_three max_four min_four   -- for this text's walks alone
set_option linter.unusedVariables false
set_option linter.unusedSimpArgs false

/-! ### bytes_Equal: function 39 -/
def bytes_Equal.f (l0 : List Int) (l1 : List Int) : Option (Bool) := some ((strOfNums l0).toList == (strOfNums l1).toList)
set_option maxHeartbeats 8000000 in
set_option maxRecDepth 100000 in
theorem bytes_Equal.calls (A0 : Option Addr) (c0 : Nat) (l0 : List Int) (A1 : Option Addr) (c1 : Nat) (l1 : List Int) (r : Bool) (w : World) (hr0 : Kd.C (Kd.int .u8) w A0 l0.length l0) (hc0 : l0.length ≤ c0) (hr1 : Kd.C (Kd.int .u8) w A1 l1.length l1) (hc1 : l1.length ≤ c1) (h : bytes_Equal.f l0 l1 = some r) :
 Calls Try.prog 39 #[.slice A0 l0.length c0, .slice A1 l1.length c1] w fun e w' => e = .returned (.bool r) ∧ Drawn0 w w' := by
 have HR0 := Aside0.mk hr0
 have HC0 := Aside0.mk hc0
 clear hr0 hc0
 have HR1 := Aside0.mk hr1
 have HC1 := Aside0.mk hc1
 clear hr1 hc1
 have H : (some ((strOfNums l0).toList == (strOfNums l1).toList)) = some r := h
 clear h
 obtain rfl := Option.some.inj H
 have hcv3 := Kd.C_string (P := Try.prog) (A := A0) (c := c0) Try.underlying22 Try.underlying5 Try.underlying9 HR0.out
 have hcv4 := Kd.C_string (P := Try.prog) (A := A1) (c := c1) Try.underlying22 Try.underlying5 Try.underlying9 HR1.out
 go_enter Try.func39, Try.ntmps39
 go_wp2
 go_ret
 exact ⟨z4458, za9de⟩

end Go.Proofs.Ythliooccgclbjaa.P

-- written by a program of this session's (wip/pp)
namespace Go.Proofs.Ythliooccgclbjaa.P
open Go.RowKit Go.Proofs.YthliooccgclbjaaW.PrintWords Go.Proofs.YthliooccgclbjaaW.PrintLast Go.Proofs.YthliooccgclbjaaW.PrintMore
attribute [local go_sem] max2_int min2_int max_two min_two max_three min_three max_four min_four   -- for this text's walks alone
set_option linter.unusedVariables false
set_option linter.unusedSimpArgs false

/-! ### impl_ReadVar: function 9 -/
def impl_ReadVar.l0 : Nat → List Int → Int → Int → Int → Option (Int × Int × Bool)
 | 0, _, _, _, _ => none
 | k + 1, x0, x1, x7, x8 => if x8 < (mn (x0.length : Int) (wrap64 (x1 + 10))) then (if 0 ≤ x8 then (if x8 < (x0.length : Int) then (if 0 ≤ (wrap64 (7 * (wrap64 (x8 - x1)))) then (if (rd x0 x8) < 128 then ((impl_PutVar.f k (Go.bits .or .u64 x7 (shl .u64 (IntKind.u64.wrap (Go.bits .and .u8 (rd x0 x8) 127)) (wrap64 (7 * (wrap64 (x8 - x1))))))).bind fun t104 => (if 0 ≤ x1 then (if x1 ≤ (wrap64 (x8 + 1)) then (if (wrap64 (x8 + 1)) ≤ (x0.length : Int) then ((bytes_Equal.f t104 ((x0.take ((wrap64 (x8 + 1)) : Int).toNat).drop (x1 : Int).toNat)).bind fun t108 => (if t108 = true then (some (Go.bits .or .u64 x7 (shl .u64 (IntKind.u64.wrap (Go.bits .and .u8 (rd x0 x8) 127)) (wrap64 (7 * (wrap64 (x8 - x1))))), wrap64 (x8 + 1), true)) else (some (0, 0, false)))) else (none)) else (none)) else (none))) else (impl_ReadVar.l0 k x0 x1 (Go.bits .or .u64 x7 (shl .u64 (IntKind.u64.wrap (Go.bits .and .u8 (rd x0 x8) 127)) (wrap64 (7 * (wrap64 (x8 - x1)))))) (wrap64 (x8 + 1)))) else (none)) else (none)) else (none)) else (some (0, 0, false))
def impl_ReadVar.f (k : Nat) (l0 : List Int) (a1 : Int) : Option (Int × Int × Bool) := (impl_within.f a1 0 (l0.length : Int)).bind fun t101 => (if t101 = true then (impl_ReadVar.l0 k l0 a1 0 a1) else (some (0, 0, false)))
theorem impl_ReadVar.mono_l : ∀ k, (∀ y0 y1 y2 y3, LeO (impl_ReadVar.l0 k y0 y1 y2 y3) (impl_ReadVar.l0 (k + 1) y0 y1 y2 y3))
 | 0 => fun _ _ _ _ r h => by simp [impl_ReadVar.l0] at h
 | k + 1 => by
  have ih0 := impl_ReadVar.mono_l k
  · intro y0 y1 y2 y3
    unfold impl_ReadVar.l0
    repeat' first
     | (with_reducible first | exact ih0 .. | exact impl_PutVar.mono .. | exact LeO.refl _ | exact LeO.none _ | refine LeO.ite ?_ ?_ | refine LeO.bind ?_ (fun _ => ?_))
     | exact LeO.none _
     | refine LeO.ite ?_ ?_
     | refine LeO.bind ?_ (fun _ => ?_)
theorem impl_ReadVar.mono : ∀ a0 a1 k, LeO (impl_ReadVar.f k a0 a1) (impl_ReadVar.f (k + 1) a0 a1) := by
 intro a0 a1 k
 have ih0 := impl_ReadVar.mono_l k
 unfold impl_ReadVar.f
 repeat' first
  | (with_reducible first | exact ih0 .. | exact impl_PutVar.mono .. | exact LeO.refl _ | exact LeO.none _ | refine LeO.ite ?_ ?_ | refine LeO.bind ?_ (fun _ => ?_))
  | exact LeO.none _
  | refine LeO.ite ?_ ?_
  | refine LeO.bind ?_ (fun _ => ?_)
def impl_ReadVar.T9 : Bool × List (List Nat × List Nat) := (true, [([], []), ([0], [0]), ([], []), ([], []), ([], []), ([4], [4]), ([2, 3, 5], [2, 3, 5]), ([1, 6, 1], [1, 6]), ([7], [7])])
def impl_ReadVar.B9 : List Nat := [0, 1, 0, 0, 0, 16, 60, 127, 255]
theorem impl_ReadVar.tab9 : rtab .any (opsOf Try.f9 9) = impl_ReadVar.T9 := by kernel_rfl
theorem impl_ReadVar.bits9 : waitsOk impl_ReadVar.T9.2 impl_ReadVar.B9 = true := by kernel_rfl
set_option maxHeartbeats 8000000 in
set_option maxRecDepth 100000 in
theorem impl_ReadVar.calls (k : Nat) (A0 : Option Addr) (c0 : Nat) (l0 : List Int) (a1 : Int) (r1 : Int) (r2 : Int) (r3 : Bool) (w : World) (hr0 : Kd.C (Kd.int .u8) w A0 l0.length l0) (hc0 : l0.length ≤ c0) (h : impl_ReadVar.f k l0 a1 = some (r1, r2, r3)) :
 Calls Try.prog 9 #[.slice A0 l0.length c0, .int .i64 a1] w fun e w' => e = .returned (.tuple #[.int .u64 r1, .int .i64 r2, .bool r3]) ∧ Below w.heap.size w w' := by
 have HR0 := Aside0.mk hr0
 have HC0 := Aside0.mk hc0
 clear hr0 hc0
 have HB := Aside0.mk (Below.refl w.heap.size w)
 have H : ((impl_within.f a1 0 (l0.length : Int)).bind fun t101 => (if t101 = true then (impl_ReadVar.l0 k l0 a1 0 a1) else (some (0, 0, false)))) = some (r1, r2, r3) := h
 clear h
 replace H := Option.bind_eq_some_iff.mp H
 obtain ⟨t101, A30, H⟩ := H
 try dsimp only at H
 have A3 := Aside0.mk A30
 clear A30
 by_cases c4 : t101 = true
 · subst c4
   have H1 : (impl_ReadVar.l0 k l0 a1 0 a1) = some (r1, r2, r3) := by rw [if_pos rfl] at H; exact H
   clear H
   have H := H1
   clear H1
   have H' := Aside0.mk H
   clear H
   go_enter Try.func9, Try.ntmps9
   go_wp2_with (first | ((with_reducible refine gate_callee (f := 38) rfl ?_); refine goesL_ (some 12) rfl rfl Try.func38 (by kernel_rfl) rfl #[.int .i64 a1, .int .i64 0, .int .i64 (l0.length : Int)] rfl zee81 ?_; (with_reducible refine (impl_within.calls a1 0 (l0.length : Int) true _ A3.out).mono ?_); rintro e w' ⟨rfl, ⟨nd, rfl⟩⟩; refine ⟨_, rfl, ?_⟩))
   go_loopg [7, 8] k (fun kq v7 v8 w' => ∃ (x7_1 : Int) (x8_1 : Int), v7 = .int .u64 x7_1 ∧ v8 = .int .i64 x8_1 ∧ Aside0 (impl_ReadVar.l0 kq l0 a1 x7_1 x8_1 = some (r1, r2, r3)) ∧ Aside0 (kq ≤ k) ∧ Aside0 (Below w.heap.size w w'))
   case atStart => exact ⟨(0), (a1), z4458, z4458, H', ⟨Nat.le_refl _⟩, ⟨z5acd⟩⟩
   case round =>
    clear H'
    try clear p2
    try clear c3
    try clear c4
    obtain ⟨x7_1, x8_1, rfl, rfl, HA, HK1, HB⟩ := hrel
    cases gk with
    | zero => exact absurd HA.out (by simp [impl_ReadVar.l0])
    | succ k1 =>
     have H := HA.out
     clear HA
     simp only [impl_ReadVar.l0] at H
     obtain ⟨ji5, hji5⟩ : ∃ j_ : Int, (mn (l0.length : Int) (wrap64 (a1 + 10))) = j_ := ⟨_, rfl⟩
     replace H : (if x8_1 < (ji5) then (if 0 ≤ x8_1 then (if x8_1 < (l0.length : Int) then (if 0 ≤ (wrap64 (7 * (wrap64 (x8_1 - a1)))) then (if (rd l0 x8_1) < 128 then ((impl_PutVar.f k1 (Go.bits .or .u64 x7_1 (shl .u64 (IntKind.u64.wrap (Go.bits .and .u8 (rd l0 x8_1) 127)) (wrap64 (7 * (wrap64 (x8_1 - a1))))))).bind fun t104 => (if 0 ≤ a1 then (if a1 ≤ (wrap64 (x8_1 + 1)) then (if (wrap64 (x8_1 + 1)) ≤ (l0.length : Int) then ((bytes_Equal.f t104 ((l0.take ((wrap64 (x8_1 + 1)) : Int).toNat).drop (a1 : Int).toNat)).bind fun t108 => (if t108 = true then (some (Go.bits .or .u64 x7_1 (shl .u64 (IntKind.u64.wrap (Go.bits .and .u8 (rd l0 x8_1) 127)) (wrap64 (7 * (wrap64 (x8_1 - a1))))), wrap64 (x8_1 + 1), true)) else (some (0, 0, false)))) else (none)) else (none)) else (none))) else (impl_ReadVar.l0 k1 l0 a1 (Go.bits .or .u64 x7_1 (shl .u64 (IntKind.u64.wrap (Go.bits .and .u8 (rd l0 x8_1) 127)) (wrap64 (7 * (wrap64 (x8_1 - a1)))))) (wrap64 (x8_1 + 1)))) else (none)) else (none)) else (none)) else (some (0, 0, false))) = some (r1, r2, r3) := by first | (rw [hji5] at H; exact H) | (simp only [hji5] at H ⊢; exact H)
     have hji5_ : (if (wrap64 (a1 + 10)) < (l0.length : Int) then (wrap64 (a1 + 10)) else (l0.length : Int)) = ji5 := hji5
     by_cases c6 : x8_1 < (ji5)
     · rw [if_pos c6] at H
       have c6b0 : decide (x8_1 < (ji5)) = true := decide_eq_true c6
       clear c6
       by_cases c7 : 0 ≤ x8_1
       · rw [if_pos c7] at H
         have c7b0 : decide (0 ≤ x8_1) = true := decide_eq_true c7
         clear c7
         by_cases c8 : x8_1 < (l0.length : Int)
         · rw [if_pos c8] at H
           have c8b0 : decide (x8_1 < (l0.length : Int)) = true := decide_eq_true c8
           clear c8
           obtain ⟨ji9, hji9⟩ : ∃ j_ : Int, (wrap64 (7 * (wrap64 (x8_1 - a1)))) = j_ := ⟨_, rfl⟩
           replace H : (if 0 ≤ (ji9) then (if (rd l0 x8_1) < 128 then ((impl_PutVar.f k1 (Go.bits .or .u64 x7_1 (shl .u64 (IntKind.u64.wrap (Go.bits .and .u8 (rd l0 x8_1) 127)) (ji9)))).bind fun t104 => (if 0 ≤ a1 then (if a1 ≤ (wrap64 (x8_1 + 1)) then (if (wrap64 (x8_1 + 1)) ≤ (l0.length : Int) then ((bytes_Equal.f t104 ((l0.take ((wrap64 (x8_1 + 1)) : Int).toNat).drop (a1 : Int).toNat)).bind fun t108 => (if t108 = true then (some (Go.bits .or .u64 x7_1 (shl .u64 (IntKind.u64.wrap (Go.bits .and .u8 (rd l0 x8_1) 127)) (ji9)), wrap64 (x8_1 + 1), true)) else (some (0, 0, false)))) else (none)) else (none)) else (none))) else (impl_ReadVar.l0 k1 l0 a1 (Go.bits .or .u64 x7_1 (shl .u64 (IntKind.u64.wrap (Go.bits .and .u8 (rd l0 x8_1) 127)) (ji9))) (wrap64 (x8_1 + 1)))) else (none)) = some (r1, r2, r3) := by first | (rw [hji9] at H; exact H) | (simp only [hji9] at H ⊢; exact H)
           have hji9w : (IntKind.i64.wrap (7 * (wrap64 (x8_1 - a1)))) = ji9 := (i64_w _).trans hji9
           by_cases c10 : 0 ≤ (ji9)
           · rw [if_pos c10] at H
             have c10b0 := eq_true c10
             have c10b1 : decide (0 ≤ (ji9)) = true := decide_eq_true c10
             clear c10
             obtain ⟨ji11, hji11⟩ : ∃ j_ : Int, (shl .u64 (IntKind.u64.wrap (Go.bits .and .u8 (rd l0 x8_1) 127)) (ji9)) = j_ := ⟨_, rfl⟩
             replace H : (if (rd l0 x8_1) < 128 then ((impl_PutVar.f k1 (Go.bits .or .u64 x7_1 (ji11))).bind fun t104 => (if 0 ≤ a1 then (if a1 ≤ (wrap64 (x8_1 + 1)) then (if (wrap64 (x8_1 + 1)) ≤ (l0.length : Int) then ((bytes_Equal.f t104 ((l0.take ((wrap64 (x8_1 + 1)) : Int).toNat).drop (a1 : Int).toNat)).bind fun t108 => (if t108 = true then (some (Go.bits .or .u64 x7_1 (ji11), wrap64 (x8_1 + 1), true)) else (some (0, 0, false)))) else (none)) else (none)) else (none))) else (impl_ReadVar.l0 k1 l0 a1 (Go.bits .or .u64 x7_1 (ji11)) (wrap64 (x8_1 + 1)))) = some (r1, r2, r3) := by first | (rw [hji11] at H; exact H) | (simp only [hji11] at H ⊢; exact H)
             have hji11_ : (IntKind.u64.wrap ((IntKind.u64.wrap (Go.bits .and .u8 (rd l0 x8_1) 127)) * 2 ^ min (ji9).toNat 64)) = ji11 := hji11
             have hji11z : (ji9) ≤ 64 → (IntKind.u64.wrap ((IntKind.u64.wrap (Go.bits .and .u8 (rd l0 x8_1) 127)) * 2 ^ (ji9).toNat)) = ji11 := shl_small hji11
             by_cases c12 : (rd l0 x8_1) < 128
             · rw [if_pos c12] at H
               have c12b0 : decide ((rd l0 x8_1) < 128) = true := decide_eq_true c12
               clear c12
               replace H := Option.bind_eq_some_iff.mp H
               obtain ⟨t104, A130, H⟩ := H
               try dsimp only at H
               have A13 := Aside0.mk A130
               clear A130
               by_cases c14 : 0 ≤ a1
               · rw [if_pos c14] at H
                 have c14b0 := eq_true c14
                 have c14b1 : decide (0 ≤ a1) = true := decide_eq_true c14
                 clear c14
                 by_cases c15 : a1 ≤ (wrap64 (x8_1 + 1))
                 · rw [if_pos c15] at H
                   have c15b0 := eq_true c15
                   have c15b1 : decide (a1 ≤ (wrap64 (x8_1 + 1))) = true := decide_eq_true c15
                   by_cases c16 : (wrap64 (x8_1 + 1)) ≤ (l0.length : Int)
                   · rw [if_pos c16] at H
                     have c16b0 := eq_true c16
                     have c16b1 : decide ((wrap64 (x8_1 + 1)) ≤ (l0.length : Int)) = true := decide_eq_true c16
                     replace H := Option.bind_eq_some_iff.mp H
                     obtain ⟨t108, A170, H⟩ := H
                     try dsimp only at H
                     have A17 := Aside0.mk A170
                     clear A170
                     by_cases c18 : t108 = true
                     · subst c18
                       have H1 : (some (Go.bits .or .u64 x7_1 (ji11), wrap64 (x8_1 + 1), true)) = some (r1, r2, r3) := by rw [if_pos rfl] at H; exact H
                       clear H
                       have H := H1
                       clear H1
                       simp only [Option.some.injEq, Prod.mk.injEq] at H
                       obtain ⟨rfl, rfl, rfl⟩ := H
                       have p102 : 0 ≤ (x8_1 : Int) := of_decide_eq_true z1200
                       have q102 : x8_1 < (l0.length : Int) := of_decide_eq_true z1200
                       obtain ⟨ad102, e102, hx102_0⟩ := Kd.at_int HR0.out x8_1 p102 q102
                       cases e102
                       replace hx102_0 := (HB.out.cell (World.block_lt_of_cell? w _ hx102_0)).trans hx102_0
                       replace p102 := eq_true p102
                       replace q102 := eq_true q102
                       have p103 : 0 ≤ (x8_1 : Int) := of_decide_eq_true z1200
                       have q103 : x8_1 < (l0.length : Int) := of_decide_eq_true z1200
                       obtain ⟨ad103, e103, hx103_0⟩ := Kd.at_int HR0.out x8_1 p103 q103
                       obtain rfl : ad102 = ad103 := (by injection e103)
                       replace hx103_0 := (HB.out.cell (World.block_lt_of_cell? w _ hx103_0)).trans hx103_0
                       replace p103 := eq_true p103
                       replace q103 := eq_true q103
                       try go_wp2
                       have n0_ := Aside0.mk (below_drew1 HB.out)
                       clear HB
                       have HB := n0_
                       clear n0_
                       obtain ⟨i020, hi020, _, hsz20, _⟩ := info_parts info5
                       obtain ⟨A20, hcut20, hA20, hC20⟩ := print_mid_of (P := Try.prog) (Value.int .u8) 0 22 5 .i64 .i64 Try.underlying22 hi020 hsz20 (some ad102) c0 l0 a1 (wrap64 (x8_1 + 1)) (of_decide_eq_true z1200) (by first | omega | exact of_decide_eq_true z1200) (of_decide_eq_true z1200) HC0.out
                       have HR107 := Aside0.mk (Kd.C_of_reads (h1 := fun _ => rfl) (hA20 _ (Kd.reads_of_C HR0.out)))
                       have HC107 := Aside0.mk hC20
                       clear hA20 hC20 hi020 hsz20
                       refine start_ (n := 9) (S := fun w' => True) (ds := []) #[false, false, false, false, false, false, false, false, false] (by kernel_rfl) rfl rfl trivial (fun hHeld => ?_); refine with_tabW impl_ReadVar.tab9 impl_ReadVar.bits9 (fun HT_ HW_ => ?_)
                       generalize wr.drew = w19 at HB HR107 hHeld ⊢
                       refine pure_ (i := 0) (N := some 42) (v := ?_) (a' := ?_) #[true, false, false, false, false, false, false, false, false] rfl rfl (any_of HT_.out (by kernel_rfl)) (fun _ _ _ h => h) (Or.inl ⟨by rfl, ?_⟩) ?_ ?_
                       rotate_left
                       · intro w'
                         go_simp
                         with_reducible rfl
                       rotate_left
                       · simp only [Act.put, List.setIfInBounds_toArray, List.set_cons_zero, List.set_cons_succ, i64_w, i32_w]
                         rfl
                       refine pure_ (i := 2) (N := some 44) (v := ?_) (a' := ?_) #[true, false, true, false, false, false, false, false, false] rfl rfl (any_of HT_.out (by kernel_rfl)) (fun _ _ _ h => h) (Or.inl ⟨by rfl, ?_⟩) ?_ ?_
                       rotate_left
                       · intro w'
                         go_simp
                         with_reducible rfl
                       rotate_left
                       · simp only [Act.put, List.setIfInBounds_toArray, List.set_cons_zero, List.set_cons_succ, i64_w, i32_w]
                         rfl
                       refine pure_ (i := 3) (N := some 45) (v := ?_) (a' := ?_) #[true, false, true, true, false, false, false, false, false] rfl rfl (any_of HT_.out (by kernel_rfl)) (fun _ _ _ h => h) (Or.inl ⟨by rfl, ?_⟩) ?_ ?_
                       rotate_left
                       · intro w'
                         go_simp
                         with_reducible rfl
                       rotate_left
                       · simp only [Act.put, List.setIfInBounds_toArray, List.set_cons_zero, List.set_cons_succ, i64_w, i32_w]
                         rfl
                       refine pure_ (i := 4) (N := some 46) (v := ?_) (a' := ?_) #[true, false, true, true, true, false, false, false, false] rfl rfl (any_of HT_.out (by kernel_rfl)) (fun _ _ _ h => h) (Or.inl ⟨by rfl, ?_⟩) ?_ ?_
                       rotate_left
                       · intro w'
                         go_simp
                         with_reducible rfl
                       rotate_left
                       · simp only [Act.put, List.setIfInBounds_toArray, List.set_cons_zero, List.set_cons_succ, i64_w, i32_w]
                         rfl
                       refine pure_ (i := 5) (N := some 47) (v := ?_) (a' := ?_) #[true, false, true, true, true, true, false, false, false] rfl rfl (any_of HT_.out (by kernel_rfl)) (fun _ _ _ h => h) (Or.inl ⟨by rfl, ?_⟩) ?_ ?_
                       rotate_left
                       · intro w'
                         go_simp
                         with_reducible rfl
                       rotate_left
                       · simp only [Act.put, List.setIfInBounds_toArray, List.set_cons_zero, List.set_cons_succ, i64_w, i32_w]
                         rfl
                       refine pure_ (i := 6) (N := some 48) (v := ?_) (a' := ?_) #[true, false, true, true, true, true, true, false, false] rfl rfl (any_of HT_.out (by kernel_rfl)) (fun _ _ _ h => h) (Or.inl ⟨by rfl, ?_⟩) ?_ ?_
                       rotate_left
                       · intro w'
                         go_simp
                         with_reducible rfl
                       rotate_left
                       · simp only [Act.put, List.setIfInBounds_toArray, List.set_cons_zero, List.set_cons_succ, i64_w, i32_w]
                         rfl
                       refine one_ (i := 1) (N := some 43) #[true, true, true, true, true, true, true, false, false] rfl rfl (one_of HT_.out (by kernel_rfl)) (by decide) (fun K hK => ?_)
                       refine goes_ Try.func8 (by kernel_rfl) rfl #[.int .u64 (Go.bits .or .u64 x7_1 (ji11))] (by rfl) rfl rfl (by (try simp only [List.map_toArray, List.map_cons, List.map_nil]); first | done | (simp only [hji11]; rfl) | rfl | (simp only [List.length_drop, List.length_take]; rfl)) ?_
                       with_reducible refine (impl_PutVar.calls k1 (Go.bits .or .u64 x7_1 (ji11)) t104 _ A13.out).mono ?_
                       rintro e w21 ⟨v105, rfl, ho0, hb⟩
                       refine ⟨_, rfl, ?_⟩
                       have n0_ := Aside0.mk (Kd.R_lower ho0 (below_size hbZ))
                       have n1_ := Aside0.mk (below_step hbZ hb)
                       clear HB
                       have HO106 := n0_
                       have HB := n1_
                       clear n0_ n1_
                       (try clear hb)
                       (try clear hb2)
                       (try clear hk)
                       (try clear hi)
                       (try clear ho0)
                       obtain ⟨Ao22, co22, eo22⟩ := Kd.R_slice HO106.out
                       (first | subst eo22 | (injection eo22 with f1_ f2_ f3_; have f4_ := f1_.symm; have f5_ := f3_.symm; clear f1_ f2_ f3_; subst f4_; subst f5_))
                       refine hK.out _ _ trivial (fun hHeld => ?_)
                       clear hK K
                       refine norm_ (a' := ?_) ?_ ?_
                       rotate_left
                       · show Act.put _ (some 43) _ = _
                         simp only [Act.put, List.setIfInBounds_toArray, List.set_cons_zero, List.set_cons_succ, i64_w, i32_w]
                         rfl
                       refine one_ (i := 7) (N := some 49) #[true, true, true, true, true, true, true, true, false] rfl rfl (one_of HT_.out (by kernel_rfl)) (by decide) (fun K hK => ?_)
                       refine goes_ Try.func39 (by kernel_rfl) rfl #[.slice Ao22 t104.length co22, .slice A20 ((l0.take ((wrap64 (x8_1 + 1)) : Int).toNat).drop (a1 : Int).toNat).length (c0 - a1.toNat)] (by rfl) rfl rfl (by (try simp only [List.map_toArray, List.map_cons, List.map_nil]); first | done | (rw [show ((l0.take ((wrap64 (x8_1 + 1)) : Int).toNat).drop (a1 : Int).toNat).length = ((wrap64 (x8_1 + 1)).toNat - a1.toNat) from (by rw [List.length_drop, List.length_take]; have h_ : ((wrap64 (x8_1 + 1)) : Int) ≤ (l0.length : Int) := of_decide_eq_true z1200; omega)] <;> rfl) | rfl | (simp only [List.length_drop, List.length_take]; rfl)) ?_
                       with_reducible refine (bytes_Equal.calls _ _ t104 _ _ ((l0.take ((wrap64 (x8_1 + 1)) : Int).toNat).drop (a1 : Int).toNat) true _ ?side1 ?side2 ?side3 ?side4 A17.out).mono ?_
                       (case side1 => exact z3fd5)
                       (case side2 => exact (Kd.R_reads' HO106.out).2.1)
                       (case side3 => exact (by repeat (first | exact (Kd.C_below HR107.out HB.out) | (with_reducible refine Kd.C_alloc ?_ _) | (with_reducible refine Kd.C_drewN ?_ _) | (with_reducible refine Kd.C_drew ?_))))
                       (case side4 => exact HC107.out)
                       rintro e w' ⟨rfl, ⟨nd, rfl⟩⟩
                       refine ⟨_, rfl, ?_⟩
                       refine hK.out _ _ trivial (fun hHeld => ?_)
                       clear hK K
                       refine norm_ (a' := ?_) ?_ ?_
                       rotate_left
                       · show Act.put _ (some 49) _ = _
                         simp only [Act.put, List.setIfInBounds_toArray, List.set_cons_zero, List.set_cons_succ, i64_w, i32_w]
                         rfl
                       refine pure_ (i := 8) (N := some 50) (v := ?_) (a' := ?_) #[true, true, true, true, true, true, true, true, true] rfl rfl (any_of HT_.out (by kernel_rfl)) (fun _ _ _ h => h) (Or.inl ⟨by rfl, ?_⟩) ?_ ?_
                       rotate_left
                       · intro w'
                         go_simp
                         with_reducible rfl
                       rotate_left
                       · simp only [Act.put, List.setIfInBounds_toArray, List.set_cons_zero, List.set_cons_succ, i64_w, i32_w]
                         rfl
                       refine done_ (done_of HT_.out (by kernel_rfl)) ?_
                       try go_wp2
                       go_ret3
                       exact ⟨by first | rfl | (simp [errW_none, errW_some] <;> rfl) | (simp only [← hji5, ← hji9, ← hji11]; first | rfl | (simp [errW_none, errW_some] <;> rfl)) | (simp [*, errW_none, errW_some] <;> rfl), z5acd⟩
                     · replace c18 := Bool.eq_false_iff.mpr c18
                       subst c18
                       have H1 : (some (0, 0, false)) = some (r1, r2, r3) := by rw [if_neg (show ¬ (false = true) by decide)] at H; exact H
                       clear H
                       have H := H1
                       clear H1
                       simp only [Option.some.injEq, Prod.mk.injEq] at H
                       obtain ⟨rfl, rfl, rfl⟩ := H
                       have p102 : 0 ≤ (x8_1 : Int) := of_decide_eq_true z1200
                       have q102 : x8_1 < (l0.length : Int) := of_decide_eq_true z1200
                       obtain ⟨ad102, e102, hx102_0⟩ := Kd.at_int HR0.out x8_1 p102 q102
                       cases e102
                       replace hx102_0 := (HB.out.cell (World.block_lt_of_cell? w _ hx102_0)).trans hx102_0
                       replace p102 := eq_true p102
                       replace q102 := eq_true q102
                       have p103 : 0 ≤ (x8_1 : Int) := of_decide_eq_true z1200
                       have q103 : x8_1 < (l0.length : Int) := of_decide_eq_true z1200
                       obtain ⟨ad103, e103, hx103_0⟩ := Kd.at_int HR0.out x8_1 p103 q103
                       obtain rfl : ad102 = ad103 := (by injection e103)
                       replace hx103_0 := (HB.out.cell (World.block_lt_of_cell? w _ hx103_0)).trans hx103_0
                       replace p103 := eq_true p103
                       replace q103 := eq_true q103
                       try go_wp2
                       have n0_ := Aside0.mk (below_drew1 HB.out)
                       clear HB
                       have HB := n0_
                       clear n0_
                       obtain ⟨i024, hi024, _, hsz24, _⟩ := info_parts info5
                       obtain ⟨A24, hcut24, hA24, hC24⟩ := print_mid_of (P := Try.prog) (Value.int .u8) 0 22 5 .i64 .i64 Try.underlying22 hi024 hsz24 (some ad102) c0 l0 a1 (wrap64 (x8_1 + 1)) (of_decide_eq_true z1200) (by first | omega | exact of_decide_eq_true z1200) (of_decide_eq_true z1200) HC0.out
                       have HR107 := Aside0.mk (Kd.C_of_reads (h1 := fun _ => rfl) (hA24 _ (Kd.reads_of_C HR0.out)))
                       have HC107 := Aside0.mk hC24
                       clear hA24 hC24 hi024 hsz24
                       refine start_ (n := 9) (S := fun w' => True) (ds := []) #[false, false, false, false, false, false, false, false, false] (by kernel_rfl) rfl rfl trivial (fun hHeld => ?_); refine with_tabW impl_ReadVar.tab9 impl_ReadVar.bits9 (fun HT_ HW_ => ?_)
                       generalize wr.drew = w23 at HB HR107 hHeld ⊢
                       refine pure_ (i := 0) (N := some 42) (v := ?_) (a' := ?_) #[true, false, false, false, false, false, false, false, false] rfl rfl (any_of HT_.out (by kernel_rfl)) (fun _ _ _ h => h) (Or.inl ⟨by rfl, ?_⟩) ?_ ?_
                       rotate_left
                       · intro w'
                         go_simp
                         with_reducible rfl
                       rotate_left
                       · simp only [Act.put, List.setIfInBounds_toArray, List.set_cons_zero, List.set_cons_succ, i64_w, i32_w]
                         rfl
                       refine pure_ (i := 2) (N := some 44) (v := ?_) (a' := ?_) #[true, false, true, false, false, false, false, false, false] rfl rfl (any_of HT_.out (by kernel_rfl)) (fun _ _ _ h => h) (Or.inl ⟨by rfl, ?_⟩) ?_ ?_
                       rotate_left
                       · intro w'
                         go_simp
                         with_reducible rfl
                       rotate_left
                       · simp only [Act.put, List.setIfInBounds_toArray, List.set_cons_zero, List.set_cons_succ, i64_w, i32_w]
                         rfl
                       refine pure_ (i := 3) (N := some 45) (v := ?_) (a' := ?_) #[true, false, true, true, false, false, false, false, false] rfl rfl (any_of HT_.out (by kernel_rfl)) (fun _ _ _ h => h) (Or.inl ⟨by rfl, ?_⟩) ?_ ?_
                       rotate_left
                       · intro w'
                         go_simp
                         with_reducible rfl
                       rotate_left
                       · simp only [Act.put, List.setIfInBounds_toArray, List.set_cons_zero, List.set_cons_succ, i64_w, i32_w]
                         rfl
                       refine pure_ (i := 4) (N := some 46) (v := ?_) (a' := ?_) #[true, false, true, true, true, false, false, false, false] rfl rfl (any_of HT_.out (by kernel_rfl)) (fun _ _ _ h => h) (Or.inl ⟨by rfl, ?_⟩) ?_ ?_
                       rotate_left
                       · intro w'
                         go_simp
                         with_reducible rfl
                       rotate_left
                       · simp only [Act.put, List.setIfInBounds_toArray, List.set_cons_zero, List.set_cons_succ, i64_w, i32_w]
                         rfl
                       refine pure_ (i := 5) (N := some 47) (v := ?_) (a' := ?_) #[true, false, true, true, true, true, false, false, false] rfl rfl (any_of HT_.out (by kernel_rfl)) (fun _ _ _ h => h) (Or.inl ⟨by rfl, ?_⟩) ?_ ?_
                       rotate_left
                       · intro w'
                         go_simp
                         with_reducible rfl
                       rotate_left
                       · simp only [Act.put, List.setIfInBounds_toArray, List.set_cons_zero, List.set_cons_succ, i64_w, i32_w]
                         rfl
                       refine pure_ (i := 6) (N := some 48) (v := ?_) (a' := ?_) #[true, false, true, true, true, true, true, false, false] rfl rfl (any_of HT_.out (by kernel_rfl)) (fun _ _ _ h => h) (Or.inl ⟨by rfl, ?_⟩) ?_ ?_
                       rotate_left
                       · intro w'
                         go_simp
                         with_reducible rfl
                       rotate_left
                       · simp only [Act.put, List.setIfInBounds_toArray, List.set_cons_zero, List.set_cons_succ, i64_w, i32_w]
                         rfl
                       refine one_ (i := 1) (N := some 43) #[true, true, true, true, true, true, true, false, false] rfl rfl (one_of HT_.out (by kernel_rfl)) (by decide) (fun K hK => ?_)
                       refine goes_ Try.func8 (by kernel_rfl) rfl #[.int .u64 (Go.bits .or .u64 x7_1 (ji11))] (by rfl) rfl rfl (by (try simp only [List.map_toArray, List.map_cons, List.map_nil]); first | done | (simp only [hji11]; rfl) | rfl | (simp only [List.length_drop, List.length_take]; rfl)) ?_
                       with_reducible refine (impl_PutVar.calls k1 (Go.bits .or .u64 x7_1 (ji11)) t104 _ A13.out).mono ?_
                       rintro e w25 ⟨v105, rfl, ho0, hb⟩
                       refine ⟨_, rfl, ?_⟩
                       have n0_ := Aside0.mk (Kd.R_lower ho0 (below_size hbZ))
                       have n1_ := Aside0.mk (below_step hbZ hb)
                       clear HB
                       have HO106 := n0_
                       have HB := n1_
                       clear n0_ n1_
                       (try clear hb)
                       (try clear hb2)
                       (try clear hk)
                       (try clear hi)
                       (try clear ho0)
                       obtain ⟨Ao26, co26, eo26⟩ := Kd.R_slice HO106.out
                       (first | subst eo26 | (injection eo26 with f1_ f2_ f3_; have f4_ := f1_.symm; have f5_ := f3_.symm; clear f1_ f2_ f3_; subst f4_; subst f5_))
                       refine hK.out _ _ trivial (fun hHeld => ?_)
                       clear hK K
                       refine norm_ (a' := ?_) ?_ ?_
                       rotate_left
                       · show Act.put _ (some 43) _ = _
                         simp only [Act.put, List.setIfInBounds_toArray, List.set_cons_zero, List.set_cons_succ, i64_w, i32_w]
                         rfl
                       refine one_ (i := 7) (N := some 49) #[true, true, true, true, true, true, true, true, false] rfl rfl (one_of HT_.out (by kernel_rfl)) (by decide) (fun K hK => ?_)
                       refine goes_ Try.func39 (by kernel_rfl) rfl #[.slice Ao26 t104.length co26, .slice A24 ((l0.take ((wrap64 (x8_1 + 1)) : Int).toNat).drop (a1 : Int).toNat).length (c0 - a1.toNat)] (by rfl) rfl rfl (by (try simp only [List.map_toArray, List.map_cons, List.map_nil]); first | done | (rw [show ((l0.take ((wrap64 (x8_1 + 1)) : Int).toNat).drop (a1 : Int).toNat).length = ((wrap64 (x8_1 + 1)).toNat - a1.toNat) from (by rw [List.length_drop, List.length_take]; have h_ : ((wrap64 (x8_1 + 1)) : Int) ≤ (l0.length : Int) := of_decide_eq_true z1200; omega)] <;> rfl) | rfl | (simp only [List.length_drop, List.length_take]; rfl)) ?_
                       with_reducible refine (bytes_Equal.calls _ _ t104 _ _ ((l0.take ((wrap64 (x8_1 + 1)) : Int).toNat).drop (a1 : Int).toNat) false _ ?side1 ?side2 ?side3 ?side4 A17.out).mono ?_
                       (case side1 => exact z3fd5)
                       (case side2 => exact (Kd.R_reads' HO106.out).2.1)
                       (case side3 => exact (by repeat (first | exact (Kd.C_below HR107.out HB.out) | (with_reducible refine Kd.C_alloc ?_ _) | (with_reducible refine Kd.C_drewN ?_ _) | (with_reducible refine Kd.C_drew ?_))))
                       (case side4 => exact HC107.out)
                       rintro e w' ⟨rfl, ⟨nd, rfl⟩⟩
                       refine ⟨_, rfl, ?_⟩
                       refine hK.out _ _ trivial (fun hHeld => ?_)
                       clear hK K
                       refine norm_ (a' := ?_) ?_ ?_
                       rotate_left
                       · show Act.put _ (some 49) _ = _
                         simp only [Act.put, List.setIfInBounds_toArray, List.set_cons_zero, List.set_cons_succ, i64_w, i32_w]
                         rfl
                       refine pure_ (i := 8) (N := some 50) (v := ?_) (a' := ?_) #[true, true, true, true, true, true, true, true, true] rfl rfl (any_of HT_.out (by kernel_rfl)) (fun _ _ _ h => h) (Or.inl ⟨by rfl, ?_⟩) ?_ ?_
                       rotate_left
                       · intro w'
                         go_simp
                         with_reducible rfl
                       rotate_left
                       · simp only [Act.put, List.setIfInBounds_toArray, List.set_cons_zero, List.set_cons_succ, i64_w, i32_w]
                         rfl
                       refine done_ (done_of HT_.out (by kernel_rfl)) ?_
                       try go_wp2
                       go_ret3
                       exact ⟨by first | rfl | (simp [errW_none, errW_some] <;> rfl) | (simp only [← hji5, ← hji9, ← hji11]; first | rfl | (simp [errW_none, errW_some] <;> rfl)) | (simp [*, errW_none, errW_some] <;> rfl), z5acd⟩
                   · rw [if_neg c16] at H
                     exact absurd H (by simp)
                 · rw [if_neg c15] at H
                   exact absurd H (by simp)
               · rw [if_neg c14] at H
                 exact absurd H (by simp)
             · rw [if_neg c12] at H
               have c12b0 : decide ((rd l0 x8_1) < 128) = false := decide_eq_false c12
               clear c12
               have H' := Aside0.mk H
               clear H
               have p102 : 0 ≤ (x8_1 : Int) := of_decide_eq_true z1200
               have q102 : x8_1 < (l0.length : Int) := of_decide_eq_true z1200
               obtain ⟨ad102, e102, hx102_0⟩ := Kd.at_int HR0.out x8_1 p102 q102
               cases e102
               replace hx102_0 := (HB.out.cell (World.block_lt_of_cell? w _ hx102_0)).trans hx102_0
               replace p102 := eq_true p102
               replace q102 := eq_true q102
               have p103 : 0 ≤ (x8_1 : Int) := of_decide_eq_true z1200
               have q103 : x8_1 < (l0.length : Int) := of_decide_eq_true z1200
               obtain ⟨ad103, e103, hx103_0⟩ := Kd.at_int HR0.out x8_1 p103 q103
               obtain rfl : ad102 = ad103 := (by injection e103)
               replace hx103_0 := (HB.out.cell (World.block_lt_of_cell? w _ hx103_0)).trans hx103_0
               replace p103 := eq_true p103
               replace q103 := eq_true q103
               go_wp2
               go_roundg k1
               case measure => have := HK1.out; omega
               case rel => exact ⟨(Go.bits .or .u64 x7_1 (ji11)), (wrap64 (x8_1 + 1)), (by first | rfl | (simp; done) | (simp only [← hji11] <;> (first | rfl | (simp; done))) | (simp [*]; done)), z4458, H', ⟨zfb39⟩, ⟨z5acd⟩⟩
           · rw [if_neg c10] at H
             exact absurd H (by simp)
         · rw [if_neg c8] at H
           exact absurd H (by simp)
       · rw [if_neg c7] at H
         exact absurd H (by simp)
     · rw [if_neg c6] at H
       have c6b0 : decide (x8_1 < (ji5)) = false := decide_eq_false c6
       clear c6
       simp only [Option.some.injEq, Prod.mk.injEq] at H
       obtain ⟨rfl, rfl, rfl⟩ := H
       go_wp2
       go_ret3
       exact ⟨by first | rfl | (simp [errW_none, errW_some] <;> rfl) | (simp only [← hji5]; first | rfl | (simp [errW_none, errW_some] <;> rfl)) | (simp [*, errW_none, errW_some] <;> rfl), z5acd⟩
 · replace c4 := Bool.eq_false_iff.mpr c4
   subst c4
   have H1 : (some (0, 0, false)) = some (r1, r2, r3) := by rw [if_neg (show ¬ (false = true) by decide)] at H; exact H
   clear H
   have H := H1
   clear H1
   simp only [Option.some.injEq, Prod.mk.injEq] at H
   obtain ⟨rfl, rfl, rfl⟩ := H
   go_enter Try.func9, Try.ntmps9
   go_wp2_with (first | ((with_reducible refine gate_callee (f := 38) rfl ?_); refine goesL_ (some 12) rfl rfl Try.func38 (by kernel_rfl) rfl #[.int .i64 a1, .int .i64 0, .int .i64 (l0.length : Int)] rfl zee81 ?_; (with_reducible refine (impl_within.calls a1 0 (l0.length : Int) false _ A3.out).mono ?_); rintro e w' ⟨rfl, ⟨nd, rfl⟩⟩; refine ⟨_, rfl, ?_⟩))
   go_ret3
   exact ⟨z674d, z5acd⟩

end Go.Proofs.Ythliooccgclbjaa.P

namespace Go.Proofs.Ythliooccgclbjaa.Lem
open Go.RowKit Go.Proofs.Ythliooccgclbjaa.P Go.Proofs.YthliooccgclbjaaW.PrintWords Go.Proofs.YthliooccgclbjaaW.PrintLast Go.Proofs.YthliooccgclbjaaW.PrintMore

/-- The bytes of a number in groups of seven bits. -/
def pvs (n : Nat) : List Int := if h : n < 128 then [(n : Int)] else ((n % 128 + 128 : Nat) : Int) :: pvs (n / 128)
termination_by n
decreasing_by omega

theorem pvs_small {n : Nat} (h : n < 128) : pvs n = [(n : Int)] := by rw [pvs, dif_pos h]
theorem pvs_big {n : Nat} (h : ¬ n < 128) : pvs n = ((n % 128 + 128 : Nat) : Int) :: pvs (n / 128) := by rw [pvs, dif_neg h]

theorem pvs_bytes : ∀ (d n : Nat), n < 128 ^ (d + 1) → Bytes (pvs n) ∧ (pvs n).length ≤ d + 1 ∧ 1 ≤ (pvs n).length := by
  intro d
  induction d with
  | zero =>
    intro n hn
    rw [pvs_small (by simpa using hn)]
    exact ⟨Bytes.cons (by omega) (by omega) Bytes.nil, by simp, by simp⟩
  | succ d ih =>
    intro n hn
    by_cases h : n < 128
    · rw [pvs_small h]
      exact ⟨Bytes.cons (by omega) (by omega) Bytes.nil, by simp, by simp⟩
    · rw [pvs_big h]
      have hd : n / 128 < 128 ^ (d + 1) := by
        rw [Nat.div_lt_iff_lt_mul (by decide)]
        calc n < 128 ^ (d + 1 + 1) := hn
          _ = 128 ^ (d + 1) * 128 := by rw [Nat.pow_succ]
      obtain ⟨a, b, c⟩ := ih (n / 128) hd
      exact ⟨Bytes.cons (by omega) (by omega) a, by simp; omega, by simp⟩

theorem or128 {y : Int} (h0 : 0 ≤ y) (h1 : y < 256) : Go.bits .or .u8 y 128 = y % 128 + 128 := by
  rw [u8_or y 128 h0 h1 (by decide) (by decide)]
  have key : ∀ z : Fin 256, (z.val ||| 128) = z.val % 128 + 128 := by decide +kernel
  have := key ⟨y.toNat, by omega⟩
  simp only at this
  have e : (128 : Int).toNat = 128 := rfl
  rw [e, this]
  omega

theorem putVar_l0 : ∀ (d k n : Nat) (acc : List Int), n < 128 ^ (d + 1) → d < k → acc.length + d < 140737488355000 → impl_PutVar.l0 k (n : Int) acc = some (acc ++ pvs n) := by
  intro d
  induction d with
  | zero =>
    intro k n acc hn hk ha
    obtain ⟨k, rfl⟩ : ∃ m, k = m + 1 := ⟨k - 1, by omega⟩
    have hn' : n < 128 := by simpa using hn
    simp only [impl_PutVar.l0]
    rw [if_neg (by omega), if_pos (by omega), pvs_small hn', show (n : Int) % 256 = n by omega]
  | succ d ih =>
    intro k n acc hn hk ha
    obtain ⟨k, rfl⟩ : ∃ m, k = m + 1 := ⟨k - 1, by omega⟩
    simp only [impl_PutVar.l0]
    by_cases h : n < 128
    · rw [if_neg (by omega), if_pos (by omega), pvs_small h, show (n : Int) % 256 = n by omega]
    · rw [if_pos (by omega), if_pos (by omega), or128 (by omega) (by omega), show (n : Int) / 128 = ((n / 128 : Nat) : Int) by omega]
      have hd : n / 128 < 128 ^ (d + 1) := by
        rw [Nat.div_lt_iff_lt_mul (by decide)]
        calc n < 128 ^ (d + 1 + 1) := hn
          _ = 128 ^ (d + 1) * 128 := by rw [Nat.pow_succ]
      rw [ih k (n / 128) _ hd (by omega) (by simp; omega), pvs_big h, List.append_assoc]
      congr 2
      simp

theorem lt_pow10 {n : Nat} (h : n < 18446744073709551616) : n < 128 ^ (9 + 1) := Nat.lt_of_lt_of_le h (by decide)

theorem putVar_ok {k n : Nat} (hk : 9 < k) (hn : n < 18446744073709551616) : impl_PutVar.f k (n : Int) = some (pvs n) := by
  unfold impl_PutVar.f
  rw [putVar_l0 9 k n [] (lt_pow10 hn) hk (by simp)]
  rfl

/-! ### reading -/
theorem drop_add {α : Type} (a b : List α) (j : Nat) : (a ++ b).drop (a.length + j) = b.drop j := by
  rw [← List.drop_drop, List.drop_left]
theorem rd_eq {l : List Int} {i : Nat} {x : Int} {t : List Int} (h : l.drop i = x :: t) : rd l (i : Int) = x := by
  unfold Go.Proofs.YthliooccgclbjaaW.PrintWords.rd
  have hl : i < l.length := by
    have := congrArg List.length h
    simp at this; omega
  rw [Int.toNat_natCast, List.getD_eq_getElem?_getD, List.getElem?_eq_getElem hl]
  have h2 := List.drop_eq_getElem_cons hl
  rw [h] at h2
  injection h2 with h3 _
  simp [h3]

theorem and127 {y : Int} (h0 : 0 ≤ y) (h1 : y < 256) : Go.bits .and .u8 y 127 = y % 128 := by
  rw [u8_and y 127 h0 h1 (by decide) (by decide)]
  have key : ∀ z : Fin 256, (z.val &&& 127) = z.val % 128 := by decide +kernel
  have := key ⟨y.toNat, by omega⟩
  simp only at this
  have e : (127 : Int).toNat = 127 := rfl
  rw [e, this]
  omega

theorem or_add {a c i : Nat} (ha : a < 2 ^ i) (hb : a + c * 2 ^ i < 18446744073709551616) : Go.bits .or .u64 (a : Int) ((c * 2 ^ i : Nat) : Int) = ((a + c * 2 ^ i : Nat) : Int) := by
  rw [u64_or_nat _ _ (by omega) (by omega)]
  have h := Nat.two_pow_add_eq_or_of_lt ha c
  rw [Nat.or_comm, show c * 2 ^ i = 2 ^ i * c from Nat.mul_comm _ _, ← h, Nat.add_comm]

theorem shl_ok {c j : Nat} (hj : j ≤ 9) (h : c * 128 ^ j < 18446744073709551616) : shl .u64 (c : Int) ((7 * j : Nat) : Int) = ((c * 2 ^ (7 * j) : Nat) : Int) := by
  have hp : (128 : Nat) ^ j = 2 ^ (7 * j) := by rw [Nat.pow_mul]
  unfold shl
  rw [Int.toNat_natCast, Nat.min_eq_left (by show 7 * j ≤ 64; omega)]
  have e : (c : Int) * 2 ^ (7 * j) = ((c * 2 ^ (7 * j) : Nat) : Int) := by push_cast; rfl
  rw [e]
  exact wu64 (by omega) (by rw [← hp]; omega)

theorem equal_self (l : List Int) : bytes_Equal.f l l = some true := by
  unfold bytes_Equal.f
  simp

theorem within_ok (a b c : Int) : impl_within.f a b c = some (decide (b ≤ a ∧ a ≤ c)) := by
  unfold impl_within.f
  by_cases h : a ≥ b
  · rw [if_pos h]
    congr 1
    simp [show b ≤ a from h]
  · rw [if_neg h]
    congr 1
    simp [show ¬ b ≤ a from h]

theorem cut_mid (pre m post : List Int) : ((pre ++ m ++ post).take ((pre.length + m.length : Nat) : Int).toNat).drop ((pre.length : Nat) : Int).toNat = m := by
  rw [Int.toNat_natCast, Int.toNat_natCast, show pre.length + m.length = (pre ++ m).length by simp, List.take_left, List.drop_left]

/-- One group read: what is known, and this group's number above it. -/
theorem group {n j : Nat} {b q : Int} (hj : j ≤ 9) (hn : n < 18446744073709551616) (h0 : 0 ≤ b) (h1 : b < 256) (hq : b % 128 = ((n / 128 ^ j % 128 : Nat) : Int)) (hx : q = ((7 * j : Nat) : Int)) :
    Go.bits .or .u64 ((n % 128 ^ j : Nat) : Int) (shl .u64 (IntKind.u64.wrap (Go.bits .and .u8 b 127)) q) = ((n % 128 ^ (j + 1) : Nat) : Int) := by
  subst hx
  have hp : (128 : Nat) ^ j = 2 ^ (7 * j) := by rw [Nat.pow_mul]
  rw [and127 h0 h1, wu64 (by omega) (by omega), hq]
  have hm : n % 128 ^ j + n / 128 ^ j % 128 * 128 ^ j = n % 128 ^ (j + 1) := by
    rw [Nat.pow_succ, Nat.mod_mul, Nat.mul_comm (128 ^ j)]
  have hle : n % 128 ^ (j + 1) ≤ n := Nat.mod_le _ _
  rw [shl_ok hj (by omega), or_add (by rw [← hp]; exact Nat.mod_lt _ (Nat.pow_pos (by decide))) (by rw [← hp, hm]; omega), ← hp, hm]

theorem readVar_last (pre post : List Int) (n : Nat) (hn : n < 18446744073709551616) (hlen : (pre ++ pvs n ++ post).length < 4611686018427387904) (k j : Nat) (hq : n / 128 ^ j < 128) (hj : j ≤ 9) (hk : 10 < k) (hdrop : (pvs n).drop j = pvs (n / 128 ^ j)) : impl_ReadVar.l0 (k + 1) (pre ++ pvs n ++ post) (pre.length : Int) ((n % 128 ^ j : Nat) : Int) ((pre.length + j : Nat) : Int) = some ((n : Int), ((pre.length + (pvs n).length : Nat) : Int), true) := by
  have hpb := pvs_bytes 9 n (lt_pow10 hn)
  have hd := hdrop
  rw [pvs_small hq] at hd
  have hjl : (pvs n).length = j + 1 := by
    have := congrArg List.length hd
    simp at this; omega
  have hall : (pre ++ pvs n ++ post).drop (pre.length + j) = ((n / 128 ^ j : Nat) : Int) :: post := by
    rw [List.append_assoc, drop_add, List.drop_append_of_le_length (by omega), hd]; rfl
  have hb := rd_eq hall
  simp only [impl_ReadVar.l0]
  have hlen2 : (pre ++ pvs n ++ post).length = pre.length + (pvs n).length + post.length := by simp [Nat.add_assoc]
  rw [show wrap64 ((pre.length : Int) + 10) = (pre.length : Int) + 10 from w64 (by omega) (by omega)]
  rw [if_pos (by unfold mn; split <;> omega), if_pos (by omega), if_pos (by omega)]
  have hw : wrap64 (7 * wrap64 (((pre.length + j : Nat) : Int) - (pre.length : Int))) = ((7 * j : Nat) : Int) := by
    rw [show wrap64 (((pre.length + j : Nat) : Int) - (pre.length : Int)) = (j : Int) from by rw [w64 (by omega) (by omega)]; omega, w64 (by omega) (by omega)]
    omega
  have hmod : n % 128 ^ (j + 1) = n := Nat.mod_eq_of_lt (by
    rw [Nat.pow_succ, Nat.mul_comm]
    exact (Nat.div_lt_iff_lt_mul (Nat.pow_pos (by decide))).1 hq)
  have hgrp := group (n := n) (j := j) (b := ((n / 128 ^ j : Nat) : Int)) hj hn (Int.natCast_nonneg _) (Int.ofNat_lt.2 (Nat.lt_trans hq (by decide))) (Int.natCast_emod _ 128).symm rfl
  rw [hmod] at hgrp
  rw [hw, if_pos (by omega), hb, if_pos (show ((n / 128 ^ j : Nat) : Int) < 128 from Int.ofNat_lt.2 hq), hgrp]
  have hput := putVar_ok (k := k) (n := n) (Nat.lt_trans (by decide) hk) hn
  rw [hput, Option.bind_some]
  clear hput hgrp hmod hb hall hd hdrop hq hw
  have hw1 : wrap64 (((pre.length + j : Nat) : Int) + 1) = ((pre.length + (pvs n).length : Nat) : Int) := by rw [w64 (by omega) (by omega)]; omega
  have h1 : (0 : Int) ≤ (pre.length : Int) := Int.natCast_nonneg _
  have h2 : (pre.length : Int) ≤ ((pre.length + (pvs n).length : Nat) : Int) := Int.ofNat_le.2 (Nat.le_add_right _ _)
  have h3 : ((pre.length + (pvs n).length : Nat) : Int) ≤ ((pre ++ pvs n ++ post).length : Int) := Int.ofNat_le.2 (by rw [hlen2]; exact Nat.le_add_right _ _)
  rw [hw1, if_pos h1, if_pos h2, if_pos h3, cut_mid, equal_self]
  rw [Option.bind_some, if_pos rfl]


theorem readVar_l0 (pre post : List Int) (n : Nat) (hn : n < 18446744073709551616) (hlen : (pre ++ pvs n ++ post).length < 4611686018427387904) :
    ∀ (d k j : Nat), n / 128 ^ j < 128 ^ (d + 1) → j + d = 9 → d + 12 < k → (pvs n).drop j = pvs (n / 128 ^ j) →
      impl_ReadVar.l0 k (pre ++ pvs n ++ post) (pre.length : Int) ((n % 128 ^ j : Nat) : Int) ((pre.length + j : Nat) : Int) = some ((n : Int), ((pre.length + (pvs n).length : Nat) : Int), true) := by
  intro d
  have hpb := pvs_bytes 9 n (lt_pow10 hn)
  induction d with
  | zero =>
    intro k j hq hj hk hdrop
    obtain ⟨k, rfl⟩ : ∃ m, k = m + 1 := ⟨k - 1, by omega⟩
    have hq' : n / 128 ^ j < 128 := by simpa using hq
    exact readVar_last pre post n hn hlen k j hq' (by omega) (by omega) hdrop
  | succ d ih =>
    intro k j hq hj hk hdrop
    by_cases hs : n / 128 ^ j < 128
    · obtain ⟨k, rfl⟩ : ∃ m, k = m + 1 := ⟨k - 1, by omega⟩
      exact readVar_last pre post n hn hlen k j hs (by omega) (by omega) hdrop
    · obtain ⟨k, rfl⟩ : ∃ m, k = m + 1 := ⟨k - 1, by omega⟩
      have hd := hdrop
      rw [pvs_big hs] at hd
      have hjl : j < (pvs n).length := by
        have := congrArg List.length hd
        simp at this; omega
      have hall : (pre ++ pvs n ++ post).drop (pre.length + j) = ((n / 128 ^ j % 128 + 128 : Nat) : Int) :: (pvs (n / 128 ^ j / 128) ++ post) := by
        rw [List.append_assoc, drop_add, List.drop_append_of_le_length (by omega), hd]; rfl
      have hb := rd_eq hall
      have hdiv : n / 128 ^ j / 128 = n / 128 ^ (j + 1) := by rw [Nat.div_div_eq_div_mul, Nat.pow_succ]
      simp only [impl_ReadVar.l0]
      have hlen2 : (pre ++ pvs n ++ post).length = pre.length + (pvs n).length + post.length := by simp [Nat.add_assoc]
      rw [show wrap64 ((pre.length : Int) + 10) = (pre.length : Int) + 10 from w64 (by omega) (by omega)]
      rw [if_pos (by unfold mn; split <;> omega), if_pos (by omega), if_pos (by omega)]
      have hw : wrap64 (7 * wrap64 (((pre.length + j : Nat) : Int) - (pre.length : Int))) = ((7 * j : Nat) : Int) := by
        rw [show wrap64 (((pre.length + j : Nat) : Int) - (pre.length : Int)) = (j : Int) from by rw [w64 (by omega) (by omega)]; omega, w64 (by omega) (by omega)]
        omega
      rw [hw, if_pos (by omega), hb, if_neg (by omega), group (by omega) hn (by omega) (by omega) (by omega) rfl]
      rw [show wrap64 (((pre.length + j : Nat) : Int) + 1) = ((pre.length + (j + 1) : Nat) : Int) from by rw [w64 (by omega) (by omega)]; omega]
      refine ih k (j + 1) ?_ (by omega) (by omega) ?_
      · rw [← hdiv, Nat.div_lt_iff_lt_mul (by decide)]
        rw [Nat.pow_succ] at hq
        exact hq
      · rw [← hdiv, ← List.drop_drop, hd]
        rfl
/-- A number comes back from its bytes, wherever it begins. -/
theorem readVar_ok {k : Nat} {pre post : List Int} {n : Nat} (hk : 22 < k) (hn : n < 18446744073709551616) (hlen : (pre ++ pvs n ++ post).length < 4611686018427387904) :
    impl_ReadVar.f k (pre ++ pvs n ++ post) (pre.length : Int) = some ((n : Int), ((pre.length + (pvs n).length : Nat) : Int), true) := by
  unfold impl_ReadVar.f
  rw [within_ok]
  simp only [Option.bind_some]
  rw [if_pos (by simp; omega)]
  have := readVar_l0 pre post n hn hlen 9 k 0 (by simpa using lt_pow10 hn) rfl (by omega) (by simp)
  simpa using this

end Go.Proofs.Ythliooccgclbjaa.Lem

-- written by a program of this session's (wip/pp)
namespace Go.Proofs.Ythliooccgclbjaa.P
open Go.RowKit Go.Proofs.YthliooccgclbjaaW.PrintWords Go.Proofs.YthliooccgclbjaaW.PrintLast Go.Proofs.YthliooccgclbjaaW.PrintMore
attribute [local go_sem] max2_int min2_int max_two min_two max_three min_three max_four min_four   -- for this text's walks alone
set_option linter.unusedVariables false
set_option linter.unusedSimpArgs false

/-! ### impl_ReadFixed: function 14 -/
mutual
def impl_ReadFixed.j0 : Nat → List Int → Int → Int → Bool → Option (Int × Bool)
 | 0, _, _, _, _ => none
 | k + 1, x0, x1, x2, x22 => if x22 = true then (some (0, false)) else (if 0 ≤ x1 then (if x1 ≤ (wrap64 (x1 + x2)) then (if (wrap64 (x1 + x2)) ≤ (x0.length : Int) then ((some ((x0.take ((wrap64 (x1 + x2)) : Int).toNat).drop (x1 : Int).toNat : List Int)).bind fun y103 => (impl_ReadFixed.l0 k 0 y103 (y103.length : Int) 0)) else (none)) else (none)) else (none))
def impl_ReadFixed.l0 : Nat → Int → List Int → Int → Int → Option (Int × Bool)
 | 0, _, _, _, _ => none
 | k + 1, x8, x28, x29, x30 => if x30 < x29 then (if 0 ≤ x30 then (if x30 < (x28.length : Int) then (impl_ReadFixed.l0 k (Go.bits .or .u64 (IntKind.u64.wrap (x8 * 256)) (IntKind.u64.wrap (rd x28 x30))) x28 x29 (wrap64 (x30 + 1))) else (none)) else (none)) else (if (x8 / 9223372036854775808) = 0 then (some (wrap64 (x8), true)) else (some (0, false)))
end
def impl_ReadFixed.f (k : Nat) (l0 : List Int) (a1 : Int) (a2 : Int) : Option (Int × Bool) := (impl_within.f a2 1 8).bind fun t101 => (if t101 = true then ((impl_within.f a1 0 (wrap64 ((l0.length : Int) - a2))).bind fun t102 => (impl_ReadFixed.j0 k l0 a1 a2 (!t102))) else (impl_ReadFixed.j0 k l0 a1 a2 true))
theorem impl_ReadFixed.mono_l : ∀ k, (∀ y0 y1 y2 y3, LeO (impl_ReadFixed.j0 k y0 y1 y2 y3) (impl_ReadFixed.j0 (k + 1) y0 y1 y2 y3)) ∧ (∀ y0 y1 y2 y3, LeO (impl_ReadFixed.l0 k y0 y1 y2 y3) (impl_ReadFixed.l0 (k + 1) y0 y1 y2 y3))
 | 0 => ⟨fun _ _ _ _ r h => by simp [impl_ReadFixed.j0] at h, fun _ _ _ _ r h => by simp [impl_ReadFixed.l0] at h⟩
 | k + 1 => by
  obtain ⟨ih0, ih1⟩ := impl_ReadFixed.mono_l k
  refine ⟨?_, ?_⟩
  · intro y0 y1 y2 y3
    unfold impl_ReadFixed.j0
    repeat' first
     | (with_reducible first | exact ih0 .. | exact ih1 .. | exact LeO.refl _ | exact LeO.none _ | refine LeO.ite ?_ ?_ | refine LeO.bind ?_ (fun _ => ?_))
     | exact LeO.none _
     | refine LeO.ite ?_ ?_
     | refine LeO.bind ?_ (fun _ => ?_)
  · intro y0 y1 y2 y3
    unfold impl_ReadFixed.l0
    repeat' first
     | (with_reducible first | exact ih0 .. | exact ih1 .. | exact LeO.refl _ | exact LeO.none _ | refine LeO.ite ?_ ?_ | refine LeO.bind ?_ (fun _ => ?_))
     | exact LeO.none _
     | refine LeO.ite ?_ ?_
     | refine LeO.bind ?_ (fun _ => ?_)
theorem impl_ReadFixed.mono : ∀ a0 a1 a2 k, LeO (impl_ReadFixed.f k a0 a1 a2) (impl_ReadFixed.f (k + 1) a0 a1 a2) := by
 intro a0 a1 a2 k
 obtain ⟨ih0, ih1⟩ := impl_ReadFixed.mono_l k
 unfold impl_ReadFixed.f
 repeat' first
  | (with_reducible first | exact ih0 .. | exact ih1 .. | exact LeO.refl _ | exact LeO.none _ | refine LeO.ite ?_ ?_ | refine LeO.bind ?_ (fun _ => ?_))
  | exact LeO.none _
  | refine LeO.ite ?_ ?_
  | refine LeO.bind ?_ (fun _ => ?_)
set_option maxHeartbeats 8000000 in
set_option maxRecDepth 100000 in
theorem impl_ReadFixed.calls (k : Nat) (A0 : Option Addr) (c0 : Nat) (l0 : List Int) (a1 : Int) (a2 : Int) (r1 : Int) (r2 : Bool) (w : World) (hr0 : Kd.C (Kd.int .u8) w A0 l0.length l0) (hc0 : l0.length ≤ c0) (h : impl_ReadFixed.f k l0 a1 a2 = some (r1, r2)) :
 Calls Try.prog 14 #[.slice A0 l0.length c0, .int .i64 a1, .int .i64 a2] w fun e w' => e = .returned (.tuple #[.int .i64 r1, .bool r2]) ∧ Drawn0 w w' := by
 have HR0 := Aside0.mk hr0
 have HC0 := Aside0.mk hc0
 clear hr0 hc0
 have H : ((impl_within.f a2 1 8).bind fun t101 => (if t101 = true then ((impl_within.f a1 0 (wrap64 ((l0.length : Int) - a2))).bind fun t102 => (impl_ReadFixed.j0 k l0 a1 a2 (!t102))) else (impl_ReadFixed.j0 k l0 a1 a2 true))) = some (r1, r2) := h
 clear h
 have HC4 := Aside0.mk H
 clear H
 go_enter Try.func14, Try.ntmps14
 go_upto_region 1 with (fail)
 go_cut [22] (fun v22 wc => ∃ (kq : Nat) (x22_3 : Bool), v22 = .bool x22_3 ∧ Aside0 (impl_ReadFixed.j0 kq l0 a1 a2 x22_3 = some (r1, r2)) ∧ Aside0 (kq ≤ k) ∧ Drawn0 w wc)
 case first =>
  have H := HC4.out
  clear HC4
  replace H := Option.bind_eq_some_iff.mp H
  obtain ⟨t101, A50, H⟩ := H
  try dsimp only at H
  have A5 := Aside0.mk A50
  clear A50
  by_cases c6 : t101 = true
  · subst c6
    have H1 : ((impl_within.f a1 0 (wrap64 ((l0.length : Int) - a2))).bind fun t102 => (impl_ReadFixed.j0 k l0 a1 a2 (!t102))) = some (r1, r2) := by rw [if_pos rfl] at H; exact H
    clear H
    have H := H1
    clear H1
    replace H := Option.bind_eq_some_iff.mp H
    obtain ⟨t102, A70, H⟩ := H
    try dsimp only at H
    have A7 := Aside0.mk A70
    clear A70
    have H' := Aside0.mk H
    clear H
    go_wp2_with (first | ((with_reducible refine gate_callee (f := 38) rfl ?_); refine goesL_ (some 12) rfl rfl Try.func38 (by kernel_rfl) rfl #[.int .i64 a2, .int .i64 1, .int .i64 8] rfl zee81 ?_; (with_reducible refine (impl_within.calls a2 1 8 true _ A5.out).mono ?_); rintro e w' ⟨rfl, ⟨nd, rfl⟩⟩; refine ⟨_, rfl, ?_⟩) | (go_at_call 38; (with_reducible refine (impl_within.calls a1 0 (wrap64 ((l0.length : Int) - a2)) t102 _ A7.out).mono ?_); rintro e w' ⟨rfl, ⟨nd, rfl⟩⟩))
    go_meet
    case rel => exact ⟨_, (!t102), z4458, H', ⟨zb79b⟩, za9de⟩
  · replace c6 := Bool.eq_false_iff.mpr c6
    subst c6
    have H1 : (impl_ReadFixed.j0 k l0 a1 a2 true) = some (r1, r2) := by rw [if_neg (show ¬ (false = true) by decide)] at H; exact H
    clear H
    have H := H1
    clear H1
    have H' := Aside0.mk H
    clear H
    go_wp2_with (first | ((with_reducible refine gate_callee (f := 38) rfl ?_); refine goesL_ (some 12) rfl rfl Try.func38 (by kernel_rfl) rfl #[.int .i64 a2, .int .i64 1, .int .i64 8] rfl zee81 ?_; (with_reducible refine (impl_within.calls a2 1 8 false _ A5.out).mono ?_); rintro e w' ⟨rfl, ⟨nd, rfl⟩⟩; refine ⟨_, rfl, ?_⟩))
    go_meet
    case rel => exact ⟨_, (true), z4458, H', ⟨zb79b⟩, za9de⟩
 case rest =>
  clear HC4
  try clear c1
  try clear p2
  try clear c3
  try clear c6
  try clear p6
  obtain ⟨kq, x22_3, rfl, HA, HJ3, ⟨mc3, rfl⟩⟩ := hcut
  cases kq with
  | zero => exact absurd HA.out (by simp [impl_ReadFixed.j0])
  | succ kj3 =>
   have H := HA.out
   clear HA
   simp only [impl_ReadFixed.j0] at H
   by_cases c8 : x22_3 = true
   · subst c8
     have H1 : (some (0, false)) = some (r1, r2) := by rw [if_pos rfl] at H; exact H
     clear H
     have H := H1
     clear H1
     simp only [Option.some.injEq, Prod.mk.injEq] at H
     obtain ⟨rfl, rfl⟩ := H
     go_wp2
     go_ret2
     exact ⟨z4458, za9de⟩
   · replace c8 := Bool.eq_false_iff.mpr c8
     subst c8
     have H1 : (if 0 ≤ a1 then (if a1 ≤ (wrap64 (a1 + a2)) then (if (wrap64 (a1 + a2)) ≤ (l0.length : Int) then ((some ((l0.take ((wrap64 (a1 + a2)) : Int).toNat).drop (a1 : Int).toNat : List Int)).bind fun y103 => (impl_ReadFixed.l0 kj3 0 y103 (y103.length : Int) 0)) else (none)) else (none)) else (none)) = some (r1, r2) := by rw [if_neg (show ¬ (false = true) by decide)] at H; exact H
     clear H
     have H := H1
     clear H1
     by_cases c9 : 0 ≤ a1
     · rw [if_pos c9] at H
       have c9b0 := eq_true c9
       have c9b1 : decide (0 ≤ a1) = true := decide_eq_true c9
       clear c9
       by_cases c10 : a1 ≤ (wrap64 (a1 + a2))
       · rw [if_pos c10] at H
         have c10b0 := eq_true c10
         have c10b1 : decide (a1 ≤ (wrap64 (a1 + a2))) = true := decide_eq_true c10
         by_cases c11 : (wrap64 (a1 + a2)) ≤ (l0.length : Int)
         · rw [if_pos c11] at H
           have c11b0 := eq_true c11
           have c11b1 : decide ((wrap64 (a1 + a2)) ≤ (l0.length : Int)) = true := decide_eq_true c11
           obtain ⟨y103, hy103⟩ : ∃ y_ : List Int, y_ = ((l0.take ((wrap64 (a1 + a2)) : Int).toNat).drop (a1 : Int).toNat) := ⟨_, rfl⟩
           replace H : (impl_ReadFixed.l0 kj3 0 y103 (y103.length : Int) 0) = some (r1, r2) := by first | (rw [hy103]; with_reducible exact H) | (have H2_ := (Option.bind_some _ _).symm.trans H; rw [hy103]; with_reducible exact H2_) | (have H2_ := (Option.bind_some _ _).symm.trans H; with_reducible exact H2_) | with_reducible exact H | (rw [hy103]; exact H) | exact H
           have Ny103 := Aside0.mk hy103
           clear hy103
           have H' := Aside0.mk H
           clear H
           have q12 : ((wrap64 (a1 + a2)) : Int) ≤ ((l0.length : Int) : Int) := of_decide_eq_true z1200
           obtain ⟨i012, hi012, _, hsz12, _⟩ := info_parts info5
           have hroom12 : l0.length ≤ c0 := HC0.out
           have hC12 : Kd.C (Kd.int .u8) _ A0 l0.length l0 := HR0.out
           have ql12 : (a1 : Int) ≤ ((wrap64 (a1 + a2)) : Int) := of_decide_eq_true z1200
           have q012 : (0 : Int) ≤ (a1 : Int) := of_decide_eq_true z1200
           have hcut12 := cut_mid (P := Try.prog) 22 5 .i64 .i64 Try.underlying22 hi012 1 hsz12 A0 l0.length c0 a1 (wrap64 (a1 + a2)) q012 ql12 q12 hroom12
           have hr12 := Kd.C_mid (lo := (a1 : Int).toNat) (hi := ((wrap64 (a1 + a2)) : Int).toNat) (c := c0) hC12 (by omega) (by omega) hroom12
           obtain ⟨A12, hA12⟩ : ∃ A1, A1 = (if c0 = (a1 : Int).toNat then A0 else (A0 : Option Addr).map (·.add ((a1 : Int).toNat * 1))) := ⟨_, rfl⟩
           obtain ⟨c12, hc12⟩ : ∃ c1, c1 = c0 - (a1 : Int).toNat := ⟨_, rfl⟩
           have hy12 : y103.length = ((wrap64 (a1 + a2)) : Int).toNat - (a1 : Int).toNat := (by rw [Ny103.out, List.length_drop, List.length_take] <;> omega)
           rw [show ((l0).take ((wrap64 (a1 + a2)) : Int).toNat).drop (a1 : Int).toNat = y103 from Ny103.out.symm] at hr12
           replace hr12 : Kd.C (Kd.int .u8) _ A12 y103.length y103 := (by rw [hA12]; exact hr12)
           rw [← hy12, ← hA12, ← hc12] at hcut12
           have HR106 := Aside0.mk hr12
           have HC106 := Aside0.mk (show y103.length ≤ c12 from by rw [hy12, hc12]; exact Nat.sub_le_sub_right (Nat.le_trans (by omega) hroom12) _)
           clear hr12 hC12 hroom12 hi012 hsz12 hc12
           have KY12 := Aside0.mk hy12
           have KA12 := Aside0.mk hA12
           clear hy12 hA12
           replace q12 := eq_true q12
           go_wp2
           go_loopg [8, 30] kj3 (fun kq v8 v30 w' => ∃ (x8_2 : Int) (x30_2 : Int), v8 = .int .u64 x8_2 ∧ v30 = .int .i64 x30_2 ∧ Aside0 (impl_ReadFixed.l0 kq x8_2 y103 (y103.length : Int) x30_2 = some (r1, r2)) ∧ Aside0 (kq ≤ kj3) ∧ Drawn0 w w')
           case atStart => exact ⟨(0), (0), z4458, z4458, H', ⟨Nat.le_refl _⟩, za9de⟩
           case round =>
            clear H'
            try clear c1
            try clear q1
            try clear p2
            try clear c3
            try clear c6
            try clear p6
            try clear c8
            try clear c9
            try clear c9b0
            try clear c9b1
            try clear c10
            try clear c10b0
            try clear c10b1
            try clear c11
            try clear c11b0
            try clear c11b1
            try clear c12
            try clear q12
            try clear p2
            try clear p6
            try clear q012
            try clear q12
            obtain ⟨x8_2, x30_2, rfl, rfl, HA, HK2, ⟨m2, rfl⟩⟩ := hrel
            cases gk with
            | zero => exact absurd HA.out (by simp [impl_ReadFixed.l0])
            | succ k2 =>
             have H := HA.out
             clear HA
             simp only [impl_ReadFixed.l0] at H
             by_cases c13 : x30_2 < (y103.length : Int)
             · rw [if_pos c13] at H
               have c13b0 : decide (x30_2 < (y103.length : Int)) = true := decide_eq_true c13
               clear c13
               by_cases c14 : 0 ≤ x30_2
               · rw [if_pos c14] at H
                 have c14b0 : decide (0 ≤ x30_2) = true := decide_eq_true c14
                 clear c14
                 by_cases c15 : x30_2 < (y103.length : Int)
                 · rw [if_pos c15] at H
                   have c15b0 : decide (x30_2 < (y103.length : Int)) = true := decide_eq_true c15
                   clear c15
                   have H' := Aside0.mk H
                   clear H
                   have p107 : 0 ≤ (x30_2 : Int) := of_decide_eq_true z1200
                   have q107 : x30_2 < (y103.length : Int) := of_decide_eq_true z1200
                   obtain ⟨ad107, e107, hx107_0⟩ := Kd.at_int HR106.out x30_2 p107 q107
                   cases e107
                   replace p107 := eq_true p107
                   replace q107 := eq_true q107
                   go_wp2
                   go_roundg k2
                   case measure => have := HJ3.out; have := HK2.out; omega
                   case rel => exact ⟨(Go.bits .or .u64 (IntKind.u64.wrap (x8_2 * 256)) (IntKind.u64.wrap (rd y103 x30_2))), (wrap64 (x30_2 + 1)), z4458, z4458, H', ⟨by have := HJ3.out; have := HK2.out; omega⟩, za9de⟩
                 · rw [if_neg c15] at H
                   exact absurd H (by simp)
               · rw [if_neg c14] at H
                 exact absurd H (by simp)
             · rw [if_neg c13] at H
               have c13b0 : decide (x30_2 < (y103.length : Int)) = false := decide_eq_false c13
               clear c13
               by_cases c16 : (x8_2 / 9223372036854775808) = 0
               · rw [if_pos c16] at H
                 have c16b0 : ((x8_2 / 9223372036854775808) == 0) = true := beq_iff_eq.mpr c16
                 have c16b1 : ((x8_2 / 9223372036854775808) != 0) = false := bne_eq_false_iff_eq.mpr c16
                 clear c16
                 simp only [Option.some.injEq, Prod.mk.injEq] at H
                 obtain ⟨rfl, rfl⟩ := H
                 go_wp2
                 go_ret2
                 exact ⟨z4458, za9de⟩
               · rw [if_neg c16] at H
                 have c16b0 : ((x8_2 / 9223372036854775808) == 0) = false := beq_eq_false_iff_ne.mpr c16
                 have c16b1 : ((x8_2 / 9223372036854775808) != 0) = true := bne_iff_ne.mpr c16
                 simp only [Option.some.injEq, Prod.mk.injEq] at H
                 obtain ⟨rfl, rfl⟩ := H
                 go_wp2
                 go_ret2
                 exact ⟨z4458, za9de⟩
         · rw [if_neg c11] at H
           exact absurd H (by simp)
       · rw [if_neg c10] at H
         exact absurd H (by simp)
     · rw [if_neg c9] at H
       exact absurd H (by simp)

end Go.Proofs.Ythliooccgclbjaa.P

-- written by a program of this session's (wip/pp)
namespace Go.Proofs.Ythliooccgclbjaa.P
open Go.RowKit Go.Proofs.YthliooccgclbjaaW.PrintWords Go.Proofs.YthliooccgclbjaaW.PrintLast Go.Proofs.YthliooccgclbjaaW.PrintMore
attribute [local go_sem] max2_int min2_int max_two min_two max_three min_three max_four min_four   -- for this text's walks alone
set_option linter.unusedVariables false
set_option linter.unusedSimpArgs false

/-! ### spec_l1In: function 41 -/
def spec_l1In.f (a0 : Int) (a1 : Int) (a2 : Int) : Option (Bool) := if a0 ≥ a1 then (some (decide (a0 ≤ a2))) else (some false)
set_option maxHeartbeats 8000000 in
set_option maxRecDepth 100000 in
theorem spec_l1In.calls (a0 : Int) (a1 : Int) (a2 : Int) (r : Bool) (w : World) (h : spec_l1In.f a0 a1 a2 = some r) :
 Calls Try.prog 41 #[.int .i64 a0, .int .i64 a1, .int .i64 a2] w fun e w' => e = .returned (.bool r) ∧ Drawn0 w w' := by
 have H : (if a0 ≥ a1 then (some (decide (a0 ≤ a2))) else (some false)) = some r := h
 clear h
 by_cases c4 : a0 ≥ a1
 · rw [if_pos c4] at H
   have c4b0 : decide (a1 ≤ a0) = true := decide_eq_true c4
   clear c4
   obtain rfl := Option.some.inj H
   go_enter Try.func41, Try.ntmps41
   go_wp2
   go_ret
   exact ⟨z4458, za9de⟩
 · rw [if_neg c4] at H
   have c4b0 : decide (a1 ≤ a0) = false := decide_eq_false c4
   clear c4
   obtain rfl := Option.some.inj H
   go_enter Try.func41, Try.ntmps41
   go_wp2
   go_ret
   exact ⟨z4458, za9de⟩

end Go.Proofs.Ythliooccgclbjaa.P

-- written by a program of this session's (wip/pp)
namespace Go.Proofs.Ythliooccgclbjaa.P
open Go.RowKit Go.Proofs.YthliooccgclbjaaW.PrintWords Go.Proofs.YthliooccgclbjaaW.PrintLast Go.Proofs.YthliooccgclbjaaW.PrintMore
attribute [local go_sem] max2_int min2_int max_two min_two max_three min_three max_four min_four   -- for this text's walks alone
set_option linter.unusedVariables false
set_option linter.unusedSimpArgs false

/-! ### spec_PutFixed: function 13 -/
def spec_PutFixed.f (k : Nat) (a0 : Int) (a1 : Int) : Option (List Int × Bool) := if a0 < 0 then (some (([] : List Int), false)) else ((spec_l1In.f a1 1 8).bind fun t101 => (if t101 = true then (if a1 < 8 then (if 0 ≤ (IntKind.u64.wrap (wrap64 (8 * a1))) then (if (shr .i64 a0 (IntKind.u64.wrap (wrap64 (8 * a1)))) = 0 then ((spec_l1Fixed.f k a0 a1).bind fun t102 => (some (t102, true))) else (some (([] : List Int), false))) else (none)) else ((spec_l1Fixed.f k a0 a1).bind fun t105 => (some (t105, true)))) else (some (([] : List Int), false))))
theorem spec_PutFixed.mono : ∀ a0 a1 k, LeO (spec_PutFixed.f k a0 a1) (spec_PutFixed.f (k + 1) a0 a1) := by
 intro a0 a1 k
 unfold spec_PutFixed.f
 repeat' first
  | (with_reducible first | exact spec_l1Fixed.mono .. | exact LeO.refl _ | exact LeO.none _ | refine LeO.ite ?_ ?_ | refine LeO.bind ?_ (fun _ => ?_))
  | exact LeO.none _
  | refine LeO.ite ?_ ?_
  | refine LeO.bind ?_ (fun _ => ?_)
set_option maxHeartbeats 8000000 in
set_option maxRecDepth 100000 in
theorem spec_PutFixed.calls (k : Nat) (a0 : Int) (a1 : Int) (r1 : List Int) (r2 : Bool) (w : World) (h : spec_PutFixed.f k a0 a1 = some (r1, r2)) :
 Calls Try.prog 13 #[.int .i64 a0, .int .i64 a1] w fun e w' => ∃ v0_ : Value, e = .returned (.tuple #[v0_, .bool r2]) ∧ Kd.R (Kd.int .u8) 5 w' w.heap.size (fun _ => True) v0_ r1 ∧ Below w.heap.size w w' := by
 have HB := Aside0.mk (Below.refl w.heap.size w)
 have H : (if a0 < 0 then (some (([] : List Int), false)) else ((spec_l1In.f a1 1 8).bind fun t101 => (if t101 = true then (if a1 < 8 then (if 0 ≤ (IntKind.u64.wrap (wrap64 (8 * a1))) then (if (shr .i64 a0 (IntKind.u64.wrap (wrap64 (8 * a1)))) = 0 then ((spec_l1Fixed.f k a0 a1).bind fun t102 => (some (t102, true))) else (some (([] : List Int), false))) else (none)) else ((spec_l1Fixed.f k a0 a1).bind fun t105 => (some (t105, true)))) else (some (([] : List Int), false))))) = some (r1, r2) := h
 clear h
 by_cases c3 : a0 < 0
 · rw [if_pos c3] at H
   have c3b0 : decide (a0 < 0) = true := decide_eq_true c3
   clear c3
   simp only [Option.some.injEq, Prod.mk.injEq] at H
   obtain ⟨rfl, rfl⟩ := H
   go_enter Try.func13, Try.ntmps13
   go_wp2
   go_ret2
   exact ⟨_, z674d, z02fa, z5acd⟩
 · rw [if_neg c3] at H
   have c3b0 : decide (a0 < 0) = false := decide_eq_false c3
   clear c3
   replace H := Option.bind_eq_some_iff.mp H
   obtain ⟨t101, A40, H⟩ := H
   try dsimp only at H
   have A4 := Aside0.mk A40
   clear A40
   by_cases c5 : t101 = true
   · subst c5
     have H1 : (if a1 < 8 then (if 0 ≤ (IntKind.u64.wrap (wrap64 (8 * a1))) then (if (shr .i64 a0 (IntKind.u64.wrap (wrap64 (8 * a1)))) = 0 then ((spec_l1Fixed.f k a0 a1).bind fun t102 => (some (t102, true))) else (some (([] : List Int), false))) else (none)) else ((spec_l1Fixed.f k a0 a1).bind fun t105 => (some (t105, true)))) = some (r1, r2) := by rw [if_pos rfl] at H; exact H
     clear H
     have H := H1
     clear H1
     by_cases c6 : a1 < 8
     · rw [if_pos c6] at H
       have c6b0 : decide (a1 < 8) = true := decide_eq_true c6
       clear c6
       obtain ⟨ji7, hji7⟩ : ∃ j_ : Int, (IntKind.u64.wrap (wrap64 (8 * a1))) = j_ := ⟨_, rfl⟩
       replace H : (if 0 ≤ (ji7) then (if (shr .i64 a0 (ji7)) = 0 then ((spec_l1Fixed.f k a0 a1).bind fun t102 => (some (t102, true))) else (some (([] : List Int), false))) else (none)) = some (r1, r2) := by first | (rw [hji7] at H; exact H) | (simp only [hji7] at H ⊢; exact H)
       (try rw [hji7] at A4)
       by_cases c8 : 0 ≤ (ji7)
       · rw [if_pos c8] at H
         have c8b0 := eq_true c8
         have c8b1 : decide (0 ≤ (ji7)) = true := decide_eq_true c8
         clear c8
         obtain ⟨ji9, hji9⟩ : ∃ j_ : Int, (shr .i64 a0 (ji7)) = j_ := ⟨_, rfl⟩
         replace H : (if (ji9) = 0 then ((spec_l1Fixed.f k a0 a1).bind fun t102 => (some (t102, true))) else (some (([] : List Int), false))) = some (r1, r2) := by first | (rw [hji9] at H; exact H) | (simp only [hji9] at H ⊢; exact H)
         (try rw [hji9] at A4)
         have hji9_ : (a0 / 2 ^ min (ji7).toNat 64) = ji9 := hji9
         have hji9z : (ji7) ≤ 64 → (a0 / 2 ^ (ji7).toNat) = ji9 := shr_small hji9
         by_cases c10 : (ji9) = 0
         · rw [if_pos c10] at H
           have c10b0 : ((ji9) == 0) = true := beq_iff_eq.mpr c10
           have c10b1 : ((ji9) != 0) = false := bne_eq_false_iff_eq.mpr c10
           clear c10
           replace H := Option.bind_eq_some_iff.mp H
           obtain ⟨t102, A110, H⟩ := H
           try dsimp only at H
           have A11 := Aside0.mk A110
           clear A110
           simp only [Option.some.injEq, Prod.mk.injEq] at H
           obtain ⟨rfl, rfl⟩ := H
           go_enter Try.func13, Try.ntmps13
           go_wp2_with (first | (go_at_call 41; (with_reducible refine (spec_l1In.calls a1 1 8 true _ A4.out).mono ?_); rintro e w' ⟨rfl, ⟨nd, rfl⟩⟩) | ((with_reducible refine gate_callee (f := 42) rfl ?_); refine goesL_ (some 27) rfl rfl Try.func42 (by kernel_rfl) rfl #[.int .i64 a0, .int .i64 a1] rfl zee81 ?_; (with_reducible refine (spec_l1Fixed.calls k a0 a1 t102 _ A11.out).mono ?_); rintro e w12 ⟨v103, rfl, ho0, hb⟩; refine ⟨_, rfl, ?_⟩; have n0_ := Aside0.mk (Kd.R_lower ho0 (below_size hbZ)); have n1_ := Aside0.mk (below_step hbZ hb); clear HB; have HO104 := n0_; have HB := n1_; clear n0_ n1_; (try clear hb); (try clear hb2); (try clear hk); (try clear hi); (try clear ho0)))
           go_ret2
           exact ⟨_, by first | rfl | (simp [errW_none, errW_some] <;> rfl) | (simp only [← hji7, ← hji9]; first | rfl | (simp [errW_none, errW_some] <;> rfl)) | (simp [*, errW_none, errW_some] <;> rfl), rZ HO104.out, z5acd⟩
         · rw [if_neg c10] at H
           have c10b0 : ((ji9) == 0) = false := beq_eq_false_iff_ne.mpr c10
           have c10b1 : ((ji9) != 0) = true := bne_iff_ne.mpr c10
           simp only [Option.some.injEq, Prod.mk.injEq] at H
           obtain ⟨rfl, rfl⟩ := H
           go_enter Try.func13, Try.ntmps13
           go_wp2_with (first | (go_at_call 41; (with_reducible refine (spec_l1In.calls a1 1 8 true _ A4.out).mono ?_); rintro e w' ⟨rfl, ⟨nd, rfl⟩⟩))
           go_ret2
           exact ⟨_, by first | rfl | (simp [errW_none, errW_some] <;> rfl) | (simp only [← hji7, ← hji9]; first | rfl | (simp [errW_none, errW_some] <;> rfl)) | (simp [*, errW_none, errW_some] <;> rfl), z02fa, z5acd⟩
       · rw [if_neg c8] at H
         exact absurd H (by simp)
     · rw [if_neg c6] at H
       have c6b0 : decide (a1 < 8) = false := decide_eq_false c6
       clear c6
       replace H := Option.bind_eq_some_iff.mp H
       obtain ⟨t105, A130, H⟩ := H
       try dsimp only at H
       have A13 := Aside0.mk A130
       clear A130
       simp only [Option.some.injEq, Prod.mk.injEq] at H
       obtain ⟨rfl, rfl⟩ := H
       go_enter Try.func13, Try.ntmps13
       go_wp2_with (first | (go_at_call 41; (with_reducible refine (spec_l1In.calls a1 1 8 true _ A4.out).mono ?_); rintro e w' ⟨rfl, ⟨nd, rfl⟩⟩) | ((with_reducible refine gate_callee (f := 42) rfl ?_); refine goesL_ (some 27) rfl rfl Try.func42 (by kernel_rfl) rfl #[.int .i64 a0, .int .i64 a1] rfl zee81 ?_; (with_reducible refine (spec_l1Fixed.calls k a0 a1 t105 _ A13.out).mono ?_); rintro e w14 ⟨v106, rfl, ho0, hb⟩; refine ⟨_, rfl, ?_⟩; have n0_ := Aside0.mk (Kd.R_lower ho0 (below_size hbZ)); have n1_ := Aside0.mk (below_step hbZ hb); clear HB; have HO107 := n0_; have HB := n1_; clear n0_ n1_; (try clear hb); (try clear hb2); (try clear hk); (try clear hi); (try clear ho0)))
       go_ret2
       exact ⟨_, z674d, rZ HO107.out, z5acd⟩
   · replace c5 := Bool.eq_false_iff.mpr c5
     subst c5
     have H1 : (some (([] : List Int), false)) = some (r1, r2) := by rw [if_neg (show ¬ (false = true) by decide)] at H; exact H
     clear H
     have H := H1
     clear H1
     simp only [Option.some.injEq, Prod.mk.injEq] at H
     obtain ⟨rfl, rfl⟩ := H
     go_enter Try.func13, Try.ntmps13
     go_wp2_with (first | (go_at_call 41; (with_reducible refine (spec_l1In.calls a1 1 8 false _ A4.out).mono ?_); rintro e w' ⟨rfl, ⟨nd, rfl⟩⟩))
     go_ret2
     exact ⟨_, z674d, z02fa, z5acd⟩

end Go.Proofs.Ythliooccgclbjaa.P

namespace Go.Proofs.Ythliooccgclbjaa.Lem
open Go.RowKit Go.Proofs.Ythliooccgclbjaa.P Go.Proofs.YthliooccgclbjaaW.PrintWords Go.Proofs.YthliooccgclbjaaW.PrintLast Go.Proofs.YthliooccgclbjaaW.PrintMore

/-- So many bytes of a number, the highest one first. -/
def be : Nat → Nat → List Int
  | 0, _ => []
  | m + 1, n => be m (n / 256) ++ [((n % 256 : Nat) : Int)]

theorem be_length : ∀ m n, (be m n).length = m := by
  intro m
  induction m with
  | zero => intro n; rfl
  | succ m ih => intro n; simp [be, ih]
theorem be_bytes : ∀ m n, Bytes (be m n) := by
  intro m
  induction m with
  | zero => intro n; exact Bytes.nil
  | succ m ih => intro n; exact (ih _).append (Bytes.cons (by omega) (by omega) Bytes.nil)
theorem be_head : ∀ m n, be (m + 1) n = ((n / 256 ^ m % 256 : Nat) : Int) :: be m n := by
  intro m
  induction m with
  | zero => intro n; simp [be]
  | succ m ih =>
    intro n
    have e : be (m + 1 + 1) n = be (m + 1) (n / 256) ++ [((n % 256 : Nat) : Int)] := rfl
    rw [e, ih, Nat.div_div_eq_div_mul, ← Nat.pow_succ']
    rfl

theorem putFixed_l0 : ∀ (i k n : Nat) (suf : List Int), i < k → i + suf.length < 4611686018427387904 → impl_PutFixed.l0 k (n : Int) (List.replicate i 0 ++ suf) ((i : Int) - 1) = some (be i n ++ suf, true) := by
  intro i
  induction i with
  | zero =>
    intro k n suf hk hs
    obtain ⟨k, rfl⟩ : ∃ m, k = m + 1 := ⟨k - 1, by omega⟩
    simp only [impl_PutFixed.l0]
    rw [if_neg (by omega)]
    rfl
  | succ i ih =>
    intro k n suf hk hs
    obtain ⟨k, rfl⟩ : ∃ m, k = m + 1 := ⟨k - 1, by omega⟩
    simp only [impl_PutFixed.l0]
    rw [show ((i + 1 : Nat) : Int) - 1 = (i : Int) by omega, if_pos (by omega), if_pos (by omega), if_pos (by simp; omega)]
    rw [show wrap64 ((i : Int) - 1) = (i : Int) - 1 from w64 (by omega) (by omega), Int.toNat_natCast, show (n : Int) / 256 = ((n / 256 : Nat) : Int) by omega]
    have hset : (List.replicate (i + 1) 0 ++ suf).set i ((n : Int) % 256) = List.replicate i 0 ++ (((n % 256 : Nat) : Int) :: suf) := by
      rw [List.replicate_succ', List.append_assoc, List.set_append_right _ _ (by simp)]
      simp
    rw [hset, ih k (n / 256) _ (by omega) (by simp; omega)]
    simp [be]

theorem in_ok (a b c : Int) : spec_l1In.f a b c = some (decide (b ≤ a ∧ a ≤ c)) := by
  unfold spec_l1In.f
  by_cases h : a ≥ b
  · rw [if_pos h]
    congr 1
    simp [show b ≤ a from h]
  · rw [if_neg h]
    congr 1
    simp [show ¬ b ≤ a from h]

theorem shr_i64 {n i : Nat} (h : i ≤ 7) : shr .i64 (n : Int) ((8 * i : Nat) : Int) = ((n / 256 ^ i : Nat) : Int) := by
  unfold shr
  rw [Int.toNat_natCast, Nat.min_eq_left (by show 8 * i ≤ 64; omega)]
  have hp : (256 : Nat) ^ i = 2 ^ (8 * i) := by rw [Nat.pow_mul]
  rw [hp]
  push_cast
  rfl

theorem l1Fixed_l0 : ∀ (i k n : Nat) (acc : List Int), i < k → i ≤ 8 → acc.length + i < 140737488355328 → spec_l1Fixed.l0 k (n : Int) acc ((i : Int) - 1) = some (acc ++ be i n) := by
  intro i
  induction i with
  | zero =>
    intro k n acc hk h8 ha
    obtain ⟨k, rfl⟩ : ∃ m, k = m + 1 := ⟨k - 1, by omega⟩
    simp only [spec_l1Fixed.l0]
    rw [if_neg (by omega)]
    simp [be]
  | succ i ih =>
    intro k n acc hk h8 ha
    obtain ⟨k, rfl⟩ : ∃ m, k = m + 1 := ⟨k - 1, by omega⟩
    simp only [spec_l1Fixed.l0]
    have hw : IntKind.u64.wrap (wrap64 (8 * (((i + 1 : Nat) : Int) - 1))) = ((8 * i : Nat) : Int) := by
      rw [w64 (by omega) (by omega), wu64 (by omega) (by omega)]
      omega
    rw [if_pos (by omega), hw, if_pos (by omega), if_pos (by omega), shr_i64 (by omega), show wrap64 (((i + 1 : Nat) : Int) - 1 - 1) = (i : Int) - 1 from by rw [w64 (by omega) (by omega)]; omega]
    rw [ih k n _ (by omega) (by omega) (by simp; omega), be_head, List.append_assoc]
    congr 2

theorem l1Fixed_ok {k n m : Nat} (hk : 8 < k) (hm : m ≤ 8) : spec_l1Fixed.f k (n : Int) (m : Int) = some (be m n) := by
  unfold spec_l1Fixed.f
  rw [show wrap64 ((m : Int) - 1) = (m : Int) - 1 from w64 (by omega) (by omega), l1Fixed_l0 m k n [] (by omega) hm (by simp; omega)]
  rfl

/-- The bytes of a number: the program's and the reference's. -/
theorem putFixed_ok {k : Nat} (hk : 12 < k) (n many : Int) (hn : n < 9223372036854775808) (h0 : 0 ≤ many) (h9 : many ≤ 9) :
    (impl_PutFixed.f k n many = some ([], false) ∧ spec_PutFixed.f k n many = some ([], false)) ∨
    ∃ a m : Nat, n = (a : Int) ∧ many = (m : Int) ∧ 1 ≤ m ∧ m ≤ 8 ∧ a < 256 ^ m ∧ impl_PutFixed.f k n many = some (be m a, true) ∧ spec_PutFixed.f k n many = some (be m a, true) := by
  obtain ⟨k, rfl⟩ : ∃ m, k = m + 1 := ⟨k - 1, by omega⟩
  have hbad : impl_PutFixed.j0 (k + 1) n many true = some ([], false) := by simp only [impl_PutFixed.j0]; rfl
  by_cases hneg : n < 0
  · left
    refine ⟨?_, ?_⟩
    · unfold impl_PutFixed.f
      rw [if_pos hneg, hbad]
    · unfold spec_PutFixed.f
      rw [if_pos hneg]
  · obtain ⟨a, rfl⟩ : ∃ a : Nat, n = (a : Int) := ⟨n.toNat, by omega⟩
    obtain ⟨m, rfl⟩ : ∃ m : Nat, many = (m : Int) := ⟨many.toNat, by omega⟩
    have hw : wrap64 (8 * (m : Int)) = ((8 * m : Nat) : Int) := by rw [w64 (by omega) (by omega)]; omega
    have hwu : IntKind.u64.wrap ((8 * m : Nat) : Int) = ((8 * m : Nat) : Int) := wu64 (by omega) (by omega)
    by_cases hm : 1 ≤ (m : Int) ∧ (m : Int) ≤ 8
    · have hgood : impl_PutFixed.j0 (k + 1) (a : Int) (m : Int) false = some (be m a, true) := by
        simp only [impl_PutFixed.j0]
        rw [if_neg (by decide), if_pos (by omega), Int.toNat_natCast, if_pos (by omega), show wrap64 ((m : Int) - 1) = (m : Int) - 1 from w64 (by omega) (by omega)]
        have := putFixed_l0 m k a [] (by omega) (by simp; omega)
        simpa using this
      by_cases h8 : (m : Int) < 8
      · by_cases hz : a / 256 ^ m = 0
        · right
          refine ⟨a, m, rfl, rfl, by omega, by omega, ?_, ?_, ?_⟩
          · rcases Nat.div_eq_zero_iff.1 hz with h | h
            · have : 0 < 256 ^ m := Nat.pow_pos (by decide)
              omega
            · exact h
          · unfold impl_PutFixed.f
            rw [if_neg hneg, within_ok, show decide (1 ≤ (m : Int) ∧ (m : Int) ≤ 8) = true from decide_eq_true hm]
            rw [Option.bind_some, if_pos rfl]
            rw [if_pos h8, hw, if_pos (by omega), shr_i64 (by omega), hz]
            exact hgood
          · unfold spec_PutFixed.f
            rw [if_neg hneg, in_ok, show decide (1 ≤ (m : Int) ∧ (m : Int) ≤ 8) = true from decide_eq_true hm]
            rw [Option.bind_some, if_pos rfl]
            rw [if_pos h8, hw, hwu, if_pos (by omega), shr_i64 (by omega), hz, if_pos (by rfl), l1Fixed_ok (by omega) (by omega)]
            rfl
        · left
          refine ⟨?_, ?_⟩
          · unfold impl_PutFixed.f
            rw [if_neg hneg, within_ok, show decide (1 ≤ (m : Int) ∧ (m : Int) ≤ 8) = true from decide_eq_true hm]
            rw [Option.bind_some, if_pos rfl]
            rw [if_pos h8, hw, if_pos (by omega), shr_i64 (by omega), show ((((a / 256 ^ m : Nat) : Int) != 0)) = true from by simp only [bne_iff_ne]; omega]
            exact hbad
          · unfold spec_PutFixed.f
            rw [if_neg hneg, in_ok, show decide (1 ≤ (m : Int) ∧ (m : Int) ≤ 8) = true from decide_eq_true hm]
            rw [Option.bind_some, if_pos rfl]
            rw [if_pos h8, hw, hwu, if_pos (by omega), shr_i64 (by omega), if_neg (by omega)]
      · obtain rfl : m = 8 := by omega
        right
        refine ⟨a, 8, rfl, rfl, by omega, by omega, ?_, ?_, ?_⟩
        · have : (256 : Nat) ^ 8 = 18446744073709551616 := by decide
          omega
        · unfold impl_PutFixed.f
          rw [if_neg hneg, within_ok, show decide (1 ≤ ((8 : Nat) : Int) ∧ ((8 : Nat) : Int) ≤ 8) = true from by decide]
          rw [Option.bind_some, if_pos rfl]
          rw [if_neg (by omega)]
          exact hgood
        · unfold spec_PutFixed.f
          rw [if_neg hneg, in_ok, show decide (1 ≤ ((8 : Nat) : Int) ∧ ((8 : Nat) : Int) ≤ 8) = true from by decide]
          rw [Option.bind_some, if_pos rfl]
          rw [if_neg (by omega), l1Fixed_ok (by omega) (by omega)]
          rfl
    · left
      have hf : decide (1 ≤ (m : Int) ∧ (m : Int) ≤ 8) = false := decide_eq_false hm
      refine ⟨?_, ?_⟩
      · unfold impl_PutFixed.f
        rw [if_neg hneg, within_ok, hf]
        rw [Option.bind_some]
        rw [if_neg (by decide)]
        exact hbad
      · unfold spec_PutFixed.f
        rw [if_neg hneg, in_ok, hf]
        rw [Option.bind_some]
        rw [if_neg (by decide)]

/-! ### reading -/
/-- The number of bytes, the highest one first. -/
def val (l : List Int) (v : Int) : Int := l.foldl (fun a c => a * 256 + c) v

theorem val_be : ∀ m a v, a < 256 ^ m → val (be m a) v = v * 256 ^ m + a := by
  intro m
  induction m with
  | zero => intro a v h; simp [be, val]; omega
  | succ m ih =>
    intro a v h
    have h2 : a / 256 < 256 ^ m := by
      rw [Nat.div_lt_iff_lt_mul (by decide)]
      rw [Nat.pow_succ] at h
      exact h
    have := ih (a / 256) v h2
    unfold val at this ⊢
    rw [be, List.foldl_append, this]
    simp only [List.foldl_cons, List.foldl_nil]
    have e : (256 : Int) ^ (m + 1) = 256 ^ m * 256 := by rw [Int.pow_succ]
    rw [e, Int.add_mul, Int.mul_assoc]
    omega

theorem or_low {a c : Int} (ha : 0 ≤ a) (hb : a < 72057594037927936) (h0 : 0 ≤ c) (h1 : c < 256) : Go.bits .or .u64 (IntKind.u64.wrap (a * 256)) (IntKind.u64.wrap c) = a * 256 + c := by
  rw [wu64 (by omega) (by omega), wu64 h0 (by omega), u64_or _ _ (by omega) (by omega) h0 (by omega)]
  have e1 : (a * 256).toNat = 2 ^ 8 * a.toNat := by omega
  have h := Nat.two_pow_add_eq_or_of_lt (i := 8) (b := c.toNat) (by omega) a.toNat
  rw [e1, ← h]
  omega

theorem readFixed_l0 : ∀ (t : List Int) (k i : Nat) (l : List Int) (v : Int), Bytes l → l.length < 4611686018427387904 → l.drop i = t → t.length < k → 0 ≤ v → v < 256 ^ (8 - t.length) → t.length ≤ 8 →
    impl_ReadFixed.l0 k v l (l.length : Int) (i : Int) = if val t v < 9223372036854775808 then some (val t v, true) else some (0, false) := by
  intro t
  induction t with
  | nil =>
    intro k i l v hl hlen hd hk h0 h1 h8
    obtain ⟨k, rfl⟩ : ∃ m, k = m + 1 := ⟨k - 1, by omega⟩
    have hi : l.length ≤ i := by simpa using List.drop_eq_nil_iff.1 hd
    have h1' : v < 18446744073709551616 := by simpa using h1
    simp only [impl_ReadFixed.l0]
    rw [if_neg (by omega)]
    show _ = if v < _ then some (v, true) else _
    by_cases hv : v < 9223372036854775808
    · rw [if_pos (by omega), if_pos hv, w64 (by omega) hv]
    · rw [if_neg (by omega), if_neg hv]
  | cons c t ih =>
    intro k i l v hl hlen hd hk h0 h1 h8
    obtain ⟨k, rfl⟩ : ∃ m, k = m + 1 := ⟨k - 1, by omega⟩
    have hi : i < l.length := by
      have := congrArg List.length hd
      simp at this; omega
    have hc := rd_eq hd
    have hb : 0 ≤ c ∧ c < 256 := hl c (by
      have : c ∈ l.drop i := by rw [hd]; exact List.mem_cons_self
      exact List.mem_of_mem_drop this)
    have hd2 : l.drop (i + 1) = t := by rw [← List.drop_drop, hd]; rfl
    simp only [List.length_cons] at h1 h8 hk
    have hp : (256 : Int) ^ (8 - t.length) = 256 ^ (8 - (t.length + 1)) * 256 := by
      rw [← Int.pow_succ]; congr 1; omega
    have hp7 : (256 : Int) ^ (8 - (t.length + 1)) ≤ 72057594037927936 := by
      have key : ∀ m : Fin 8, (256 : Int) ^ (8 - (m.val + 1)) ≤ 72057594037927936 := by decide
      exact key ⟨t.length, by omega⟩
    simp only [impl_ReadFixed.l0]
    rw [if_pos (by omega), if_pos (by omega), if_pos (by omega), hc, or_low h0 (by omega) hb.1 hb.2]
    rw [show wrap64 ((i : Int) + 1) = ((i + 1 : Nat) : Int) from by rw [w64 (by omega) (by omega)]; omega]
    rw [ih k (i + 1) l (v * 256 + c) hl hlen hd2 (by omega) (by omega) (by rw [hp]; omega) (by omega)]
    rfl

/-- The number of so many bytes at a place. -/
theorem readFixed_ok {k : Nat} {l : List Int} {at_ many : Nat} (hk : 12 < k) (hl : Bytes l) (hlen : l.length < 4611686018427387904) (h1 : 1 ≤ many) (h8 : many ≤ 8) (hat : at_ + many ≤ l.length) :
    impl_ReadFixed.f k l (at_ : Int) (many : Int) = if val ((l.drop at_).take many) 0 < 9223372036854775808 then some (val ((l.drop at_).take many) 0, true) else some (0, false) := by
  obtain ⟨k, rfl⟩ : ∃ m, k = m + 1 := ⟨k - 1, by omega⟩
  unfold impl_ReadFixed.f
  rw [within_ok, show decide (1 ≤ (many : Int) ∧ (many : Int) ≤ 8) = true from decide_eq_true (by omega)]
  rw [Option.bind_some, if_pos rfl]
  rw [within_ok, w64 (by omega) (by omega), show decide (0 ≤ (at_ : Int) ∧ (at_ : Int) ≤ (l.length : Int) - (many : Int)) = true from decide_eq_true (by omega)]
  rw [Option.bind_some, Bool.not_true]
  simp only [impl_ReadFixed.j0]
  rw [if_neg (by decide), if_pos (by omega), w64 (by omega) (by omega), if_pos (by omega), if_pos (by omega), Option.bind_some]
  have hcut : (l.take ((at_ : Int) + (many : Int)).toNat).drop (at_ : Int).toNat = (l.drop at_).take many := by
    rw [Int.toNat_natCast, show ((at_ : Int) + (many : Int)).toNat = at_ + many by omega, List.drop_take]
    congr 1
    omega
  rw [hcut]
  have hl2 : Bytes ((l.drop at_).take many) := (hl.drop _).take _
  have hlen2 : ((l.drop at_).take many).length = many := by simp; omega
  have hfin := readFixed_l0 ((l.drop at_).take many) k 0 ((l.drop at_).take many) 0 hl2 (by omega) List.drop_zero (by omega) (Int.le_refl 0) (Int.pow_pos (by decide)) (by omega)
  rw [Int.natCast_zero] at hfin
  exact hfin

end Go.Proofs.Ythliooccgclbjaa.Lem

-- written by a program of this session's (wip/pp)
namespace Go.Proofs.Ythliooccgclbjaa.P
open Go.RowKit Go.Proofs.YthliooccgclbjaaW.PrintWords Go.Proofs.YthliooccgclbjaaW.PrintLast Go.Proofs.YthliooccgclbjaaW.PrintMore
attribute [local go_sem] max2_int min2_int max_two min_two max_three min_three max_four min_four   -- for this text's walks alone
set_option linter.unusedVariables false
set_option linter.unusedSimpArgs false

/-! ### impl_hash: function 66 -/
def impl_hash.l0 : Nat → ByteArray → Int → Int → Option (Int)
 | 0, _, _, _ => none
 | k + 1, x0, x5, x6 => if x6 < (x0.size : Int) then (if 0 ≤ x6 then (impl_hash.l0 k x0 (((Go.bits .xor .u32 x5 ((bt x0 x6) % 4294967296)) * 16777619) % 4294967296) (wrap64 (x6 + 1))) else (none)) else (some (Go.bits .xor .u32 x5 (x5 / 32768)))
def impl_hash.f (k : Nat) (a0 : ByteArray) (a1 : Int) : Option (Int) := impl_hash.l0 k a0 ((2166136261 + ((((a1) % 4294967296) * 40503) % 4294967296)) % 4294967296) 0
theorem impl_hash.mono_l : ∀ k, (∀ y0 y1 y2, LeO (impl_hash.l0 k y0 y1 y2) (impl_hash.l0 (k + 1) y0 y1 y2))
 | 0 => fun _ _ _ r h => by simp [impl_hash.l0] at h
 | k + 1 => by
  have ih0 := impl_hash.mono_l k
  intro y0 y1 y2
  unfold impl_hash.l0
  repeat' first
  | (with_reducible exact ih0 _ _ _)
  | (with_reducible exact LeO.refl _)
  | (with_reducible exact LeO.none _)
  | (with_reducible refine LeO.ite ?_ ?_)
theorem impl_hash.mono : ∀ a0 a1 k, LeO (impl_hash.f k a0 a1) (impl_hash.f (k + 1) a0 a1) := fun a0 a1 k => impl_hash.mono_l k _ _ _
set_option maxHeartbeats 8000000 in
set_option maxRecDepth 100000 in
theorem impl_hash.calls (k : Nat) (a0 : ByteArray) (a1 : Int) (r : Int) (w : World) (h : impl_hash.f k a0 a1 = some r) :
 Calls Try.prog 66 #[.string a0, .int .i64 a1] w fun e w' => e = .returned (.int .u32 r) ∧ Below w.heap.size w w' := by
 have H : (impl_hash.l0 k a0 ((2166136261 + ((((a1) % 4294967296) * 40503) % 4294967296)) % 4294967296) 0) = some r := h
 clear h
 have H' := Aside0.mk H
 clear H
 have hcv := Go.Lib.run_convert_string_bytes (P := Try.prog) w 9 22 5 a0 Try.underlying9 Try.underlying22 Try.underlying5
 have hb : Below w.heap.size w (Go.Lib.bytesWorld w 5 a0) := ⟨rfl, rfl, rfl, by rw [Go.Lib.bytesWorld_size]; omega, fun k hk => Go.Lib.bytesWorld_at_old w 5 a0 k hk⟩
 have hcell : ∀ j : Int, 0 ≤ j → j < a0.size → (Go.Lib.bytesWorld w 5 a0).cell? ⟨w.heap.size, j.toNat, none⟩ = some (.int .u8 (bt a0 j)) := by
  intro j h0 h1
  have := Go.Lib.bytesWorld_cell w 5 a0 j.toNat (by omega)
  rw [this]
  simp [bt, show j.toNat < a0.size by omega]
  rfl
 generalize Go.Lib.bytesWorld w 5 a0 = w1 at hcv hb hcell
 have HB := Aside0.mk hb
 have HC := Aside0.mk hcell
 clear hb hcell
 obtain ⟨c1, hc1⟩ : ∃ c1 : Nat, c1 = Go.grownCap w a0.size 0 5 := ⟨_, rfl⟩
 rw [← hc1] at hcv
 obtain ⟨g1, hg1⟩ : ∃ g1 : Nat, g1 = w.heap.size := ⟨_, rfl⟩
 rw [← hg1] at hcv
 replace HC := Aside0.mk (hg1 ▸ HC.out)
 clear hc1 hg1
 go_enter Try.func66, Try.ntmps66
 go_wp2
 go_loopg [5, 15] k (fun kq v5 v15 w' => ∃ (x5_1 : Int) (x6_1 : Int), v5 = .int .u32 x5_1 ∧ v15 = .int .i64 x6_1 ∧ Aside0 (impl_hash.l0 kq a0 x5_1 x6_1 = some r) ∧ Aside0 (kq ≤ k) ∧ Drawn0 w1 w')
 case atStart => exact ⟨((2166136261 + ((((a1) % 4294967296) * 40503) % 4294967296)) % 4294967296), (0), z4458, z4458, H', ⟨Nat.le_refl _⟩, za9de⟩
 case round =>
  clear H'
  obtain ⟨x5_1, x6_1, rfl, rfl, HA, HK1, ⟨m1, rfl⟩⟩ := hrel
  cases gk with
  | zero => exact absurd HA.out (by simp [impl_hash.l0])
  | succ k1 =>
   have H := HA.out
   clear HA
   simp only [impl_hash.l0] at H
   by_cases c3 : x6_1 < (a0.size : Int)
   · rw [if_pos c3] at H
     have c3b0 : decide (x6_1 < (a0.size : Int)) = true := decide_eq_true c3
     by_cases c4 : 0 ≤ x6_1
     · rw [if_pos c4] at H
       have c4b0 : decide (0 ≤ x6_1) = true := decide_eq_true c4
       have hx5 := HC.out x6_1 c4 c3
       clear c3 c4
       have H' := Aside0.mk H
       clear H
       have p5 : 0 ≤ (x6_1 : Int) := of_decide_eq_true z1200
       have q5 : x6_1 < (a0.size : Int) := of_decide_eq_true z1200
       replace p5 := eq_true p5
       replace q5 := eq_true q5
       go_wp2
       go_roundg k1
       case measure => have := HK1.out; omega
       case rel => exact ⟨(((Go.bits .xor .u32 x5_1 ((bt a0 x6_1) % 4294967296)) * 16777619) % 4294967296), (wrap64 (x6_1 + 1)), z4458, z4458, H', ⟨zfb39⟩, za9de⟩
     · rw [if_neg c4] at H
       exact absurd H (by simp)
   · rw [if_neg c3] at H
     have c3b0 : decide (x6_1 < (a0.size : Int)) = false := decide_eq_false c3
     clear c3
     obtain rfl := Option.some.inj H
     go_wp2
     go_ret
     exact ⟨z4458, by repeat (first | exact HB.out | apply pw_below_drewN | apply below_drew1)⟩

end Go.Proofs.Ythliooccgclbjaa.P

-- written by a program of this session's (wip/pp)
namespace Go.Proofs.Ythliooccgclbjaa.P
open Go.RowKit Go.Proofs.YthliooccgclbjaaW.PrintWords Go.Proofs.YthliooccgclbjaaW.PrintLast Go.Proofs.YthliooccgclbjaaW.PrintMore
attribute [local go_sem] max2_int min2_int max_two min_two max_three min_three max_four min_four   -- for this text's walks alone
set_option linter.unusedVariables false
set_option linter.unusedSimpArgs false

/-! ### impl_Filter_places: function 45 -/
def impl_Filter_places.l0 : Nat → Int → Int → List Int → Int → Int → Int → List Int → Option (List Int)
 | 0, _, _, _, _, _, _, _ => none
 | k + 1, x5, x6, x7, x15, x16, x102000, x102001 => if x16 < x15 then (if ((wrap64 (8 * (x102001.length : Int))) % 4294967296) = 0 then (none) else (if x7.length < 17592186044416 then (impl_Filter_places.l0 k x5 x6 (x7 ++ [wrap64 (((x5 + (((x16) % 4294967296) * x6)) % 4294967296) % ((wrap64 (8 * (x102001.length : Int))) % 4294967296))]) x15 (wrap64 (x16 + 1)) x102000 x102001) else (none))) else (some x7)
def impl_Filter_places.f (k : Nat) (a0_0 : Int) (l0_1 : List Int) (a1 : ByteArray) : Option (List Int) := (impl_hash.f k a1 0).bind fun t102 => ((impl_hash.f k a1 1).bind fun t103 => (impl_Filter_places.l0 k t102 t103 (([] : List Int)) a0_0 0 a0_0 l0_1))
theorem impl_Filter_places.mono_l : ∀ k, (∀ y0 y1 y2 y3 y4 y5 y6, LeO (impl_Filter_places.l0 k y0 y1 y2 y3 y4 y5 y6) (impl_Filter_places.l0 (k + 1) y0 y1 y2 y3 y4 y5 y6))
 | 0 => fun _ _ _ _ _ _ _ r h => by simp [impl_Filter_places.l0] at h
 | k + 1 => by
  have ih0 := impl_Filter_places.mono_l k
  · intro y0 y1 y2 y3 y4 y5 y6
    unfold impl_Filter_places.l0
    repeat' first
     | (with_reducible first | exact ih0 .. | exact impl_hash.mono .. | exact LeO.refl _ | exact LeO.none _ | refine LeO.ite ?_ ?_ | refine LeO.bind ?_ (fun _ => ?_))
     | exact LeO.none _
     | refine LeO.ite ?_ ?_
     | refine LeO.bind ?_ (fun _ => ?_)
theorem impl_Filter_places.mono : ∀ a0 a1 a2 k, LeO (impl_Filter_places.f k a0 a1 a2) (impl_Filter_places.f (k + 1) a0 a1 a2) := by
 intro a0 a1 a2 k
 have ih0 := impl_Filter_places.mono_l k
 unfold impl_Filter_places.f
 repeat' first
  | (with_reducible first | exact ih0 .. | exact impl_hash.mono .. | exact LeO.refl _ | exact LeO.none _ | refine LeO.ite ?_ ?_ | refine LeO.bind ?_ (fun _ => ?_))
  | exact LeO.none _
  | refine LeO.ite ?_ ?_
  | refine LeO.bind ?_ (fun _ => ?_)
set_option maxHeartbeats 8000000 in
set_option maxRecDepth 100000 in
theorem impl_Filter_places.calls (k : Nat) (a0_0 : Int) (A0_1 : Option Addr) (c0_1 : Nat) (l0_1 : List Int) (a1 : ByteArray) (r : List Int) (w : World) (hr0_1 : Kd.C (Kd.int .u8) w A0_1 l0_1.length l0_1) (hc0_1 : l0_1.length ≤ c0_1) (h : impl_Filter_places.f k a0_0 l0_1 a1 = some r) :
 Calls Try.prog 45 #[.agg #[.int .i64 a0_0, .slice A0_1 l0_1.length c0_1], .string a1] w fun e w' => ∃ v0_ : Value, e = .returned (v0_) ∧ Kd.R (Kd.int .i64) 3 w' w.heap.size (fun _ => True) v0_ r ∧ Below w.heap.size w w' := by
 have hu39 := Try.underlying39
 have HR0_1 := Aside0.mk hr0_1
 have HC0_1 := Aside0.mk hc0_1
 clear hr0_1 hc0_1
 have HB := Aside0.mk (Below.refl w.heap.size w)
 have H : ((impl_hash.f k a1 0).bind fun t102 => ((impl_hash.f k a1 1).bind fun t103 => (impl_Filter_places.l0 k t102 t103 (([] : List Int)) a0_0 0 a0_0 l0_1))) = some r := h
 clear h
 replace H := Option.bind_eq_some_iff.mp H
 obtain ⟨t102, A30, H⟩ := H
 try dsimp only at H
 have A3 := Aside0.mk A30
 clear A30
 replace H := Option.bind_eq_some_iff.mp H
 obtain ⟨t103, A40, H⟩ := H
 try dsimp only at H
 have A4 := Aside0.mk A40
 clear A40
 obtain ⟨y104, hy104⟩ : ∃ y_ : List Int, y_ = (([] : List Int)) := ⟨_, rfl⟩
 replace H : (impl_Filter_places.l0 k t102 t103 y104 a0_0 0 a0_0 l0_1) = some r := by first | (rw [hy104]; with_reducible exact H) | (have H2_ := (Option.bind_some _ _).symm.trans H; rw [hy104]; with_reducible exact H2_) | (have H2_ := (Option.bind_some _ _).symm.trans H; with_reducible exact H2_) | with_reducible exact H | (rw [hy104]; exact H) | exact H
 have Ny104 := Aside0.mk hy104
 clear hy104
 have H' := Aside0.mk H
 clear H
 go_enter Try.func45, Try.ntmps45
 go_wp2_with (first | ((with_reducible refine gate_dst (N := 2) rfl ?_); refine box_event ?hg (N := 2) ?hd (cs := #[.int .i64 a0_0, .slice A0_1 l0_1.length c0_1]) (t := 39) ?hr ?_; (case hd => rfl); (case hg => rfl); (case hr => first | (go_simp; done) | (go_simp; rfl)); intro gb101 hg w5 hbox hb; have n0_ := Aside0.mk (below_step hbZ hb); have n1_ := Aside0.mk hbox; have n2_ := Aside0.mk ((by rw [hg]; exact (below_size hbZ) : w.heap.size ≤ gb101)); have n3_ := Aside0.mk ((by rw [hg]; exact (below_size hbZ) : w.heap.size ≤ gb101)); clear HB; have HB := n0_; have BK101 := n1_; have GW101 := n2_; have GE101 := n3_; clear n0_ n1_ n2_ n3_; clear hb hbox hg) | ((with_reducible refine gate_callee (f := 66) rfl ?_); refine goesL_ (some 10) rfl rfl Try.func66 (by kernel_rfl) rfl #[.string a1, .int .i64 0] rfl zee81 ?_; (with_reducible refine (impl_hash.calls k a1 0 t102 _ A3.out).mono ?_); rintro e w6 ⟨rfl, hb⟩; refine ⟨_, rfl, ?_⟩; have n0_ := Aside0.mk (blk_below (g := gb101) bkZ hb); have n1_ := Aside0.mk (below_step hbZ hb); clear BK101 HB; have BK101 := n0_; have HB := n1_; clear n0_ n1_; (try clear hb); (try clear hb2); (try clear hk); (try clear hi)) | ((with_reducible refine gate_callee (f := 66) rfl ?_); refine goesL_ (some 12) rfl rfl Try.func66 (by kernel_rfl) rfl #[.string a1, .int .i64 1] rfl zee81 ?_; (with_reducible refine (impl_hash.calls k a1 1 t103 _ A4.out).mono ?_); rintro e w7 ⟨rfl, hb⟩; refine ⟨_, rfl, ?_⟩; have n0_ := Aside0.mk (blk_below (g := gb101) bkZ hb); have n1_ := Aside0.mk (below_step hbZ hb); clear BK101 HB; have BK101 := n0_; have HB := n1_; clear n0_ n1_; (try clear hb); (try clear hb2); (try clear hk); (try clear hi)) | ((with_reducible refine gate_dst (N := 13) rfl ?_); refine Kd.R_lit (Kd.int .i64) _ 3 ?hg (N := 13) ?hd (xs := ([] : List Int)) (inner := []) (ok := fun _ => True) (okp := fun _ => True) ?hr ?hp (fun _ hk => hk) trivial (Below.refl _ _) (Nat.le_refl _) (by simp) ?_; (case hd => rfl); (case hg => rfl); (case hr => first | (go_simp; done) | (go_simp; rfl)); (case hp => exact (Reps.none _ _)); intro v105 w8 ho9 hb hg_ hnew_; clear hg_ hnew_; (first | rw [← Ny104.out] at ho9 | (simp only [Int.reduceToNat] at ho9; rw [← Ny104.out] at ho9)); have n0_ := Aside0.mk (Kd.R_lower ho9 (below_size hbZ)); have n1_ := Aside0.mk (blk_below (g := gb101) bkZ hb); have n2_ := Aside0.mk (below_step hbZ hb); clear BK101 HB; have HO106 := n0_; have BK101 := n1_; have HB := n2_; clear n0_ n1_ n2_; clear hb ho9; obtain ⟨hcz10_0, hcz10_1, hfz10_0, hfz10_1⟩ := cellsZ2 BK101.out))
 go_loopg [7, 16] k (fun kq v7 v16 w' => ∃ (x7_1 : List Int) (x16_1 : Int), v16 = .int .i64 x16_1 ∧ Aside0 (impl_Filter_places.l0 kq t102 t103 x7_1 a0_0 x16_1 a0_0 l0_1 = some r) ∧ Aside0 (kq ≤ k) ∧ Aside0 (Kd.R (Kd.int .i64) 3 w' w.heap.size (fun _ => True) v7 x7_1) ∧ Aside0 (w'.heap[gb101]? = some (.cells #[.int .i64 a0_0, (.slice A0_1 l0_1.length c0_1)] 39 (0, 0))) ∧ Aside0 (Below w.heap.size w w'))
 case atStart => exact ⟨(y104), (0), z4458, H', ⟨Nat.le_refl _⟩, ⟨rZ HO106.out⟩, ⟨bkZ⟩, ⟨zcb41⟩⟩
 case round =>
  clear H'
  try clear p2
  try clear c4
  try clear c6
  try clear hcz10_0 hcz10_1 hfz10_0 hfz10_1
  obtain ⟨x7_1, x16_1, rfl, HA, HK1, HO_7, BK101, HB⟩ := hrel
  cases gk with
  | zero => exact absurd HA.out (by simp [impl_Filter_places.l0])
  | succ k1 =>
   have H := HA.out
   clear HA
   simp only [impl_Filter_places.l0] at H
   by_cases c11 : x16_1 < a0_0
   · rw [if_pos c11] at H
     have c11b0 : decide (x16_1 < a0_0) = true := decide_eq_true c11
     clear c11
     by_cases c12 : ((wrap64 (8 * (l0_1.length : Int))) % 4294967296) = 0
     · rw [if_pos c12] at H
       exact absurd H (by simp)
     · rw [if_neg c12] at H
       have c12b0 : (((wrap64 (8 * (l0_1.length : Int))) % 4294967296) == 0) = false := beq_eq_false_iff_ne.mpr c12
       have c12b1 : (((wrap64 (8 * (l0_1.length : Int))) % 4294967296) != 0) = true := bne_iff_ne.mpr c12
       by_cases c13 : x7_1.length < 17592186044416
       · rw [if_pos c13] at H
         have LMc13 := Aside0.mk c13
         clear c13
         obtain ⟨y107, hy107⟩ : ∃ y_ : List Int, y_ = (x7_1 ++ [wrap64 (((t102 + (((x16_1) % 4294967296) * t103)) % 4294967296) % ((wrap64 (8 * (l0_1.length : Int))) % 4294967296))]) := ⟨_, rfl⟩
         replace H : (impl_Filter_places.l0 k1 t102 t103 y107 a0_0 (wrap64 (x16_1 + 1)) a0_0 l0_1) = some r := by first | (rw [hy107]; with_reducible exact H) | (have H2_ := (Option.bind_some _ _).symm.trans H; rw [hy107]; with_reducible exact H2_) | (have H2_ := (Option.bind_some _ _).symm.trans H; with_reducible exact H2_) | with_reducible exact H | (rw [hy107]; exact H) | exact H
         have Ny107 := Aside0.mk hy107
         clear hy107
         have H' := Aside0.mk H
         clear H
         obtain ⟨hcz14_0, hcz14_1, hfz14_0, hfz14_1⟩ := cellsZ2 BK101.out
         go_wp2_with (first | ((with_reducible refine gate_builtin (b := .append) (xs := #[.tmp 19, .tmp 33]) rfl ?_); at_builtin; refine Kd.R_append (Kd.int .i64) (w0 := w) w.heap.size rfl (.tmp 19) (.tmp 33) 52 3 (.int .i64 0) 8 rfl Try.underlying52 info3 rfl (by decide) (by omega) u7 x7_1 (wrap64 (((t102 + (((x16_1) % 4294967296) * t103)) % 4294967296) % ((wrap64 (8 * (l0_1.length : Int))) % 4294967296))) [.int .i64 (wrap64 (((t102 + (((x16_1) % 4294967296) * t103)) % 4294967296) % ((wrap64 (8 * (l0_1.length : Int))) % 4294967296)))] (fun _ => True) (fun _ => False) rfl rfl ?aP (fun _ hk => hk.elim) ?aF ?aO ?aB ?aS ?aL ?_; (case aP => exact rfl); (case aB => exact hbZ); (case aF => exact (fun _ _ => trivial)); (case aO => exact (rZ HO_7.out)); (case aS => exact (below_size hbZ)); (case aL => have := LMc13.out; omega); intro v108 w15 ho hb hg hat; rw [← Ny107.out] at ho; have n0_ := Aside0.mk (blk_grown (g := gb101) bkZ hg (Kd.R_ne HO_7.out BK101.out (by decide))); have n1_ := Aside0.mk hb; have n2_ := Aside0.mk ho; clear BK101 HB HO_7; have BK101 := n0_; have HB := n1_; have HO109 := n2_; clear n0_ n1_ n2_; clear ho hb hg hat))
         go_roundg k1
         case measure => have := HK1.out; omega
         case rel => exact ⟨(y107), (wrap64 (x16_1 + 1)), z4458, H', ⟨zfb39⟩, ⟨rZ HO109.out⟩, ⟨bkZ⟩, ⟨zcb41⟩⟩
       · rw [if_neg c13] at H
         exact absurd H (by simp)
   · rw [if_neg c11] at H
     have c11b0 : decide (x16_1 < a0_0) = false := decide_eq_false c11
     clear c11
     obtain rfl := Option.some.inj H
     go_wp2
     go_ret
     exact ⟨_, z674d, rZ HO_7.out, zcb41⟩

end Go.Proofs.Ythliooccgclbjaa.P

-- written by a program of this session's (wip/pp)
namespace Go.Proofs.Ythliooccgclbjaa.P
open Go.RowKit Go.Proofs.YthliooccgclbjaaW.PrintWords Go.Proofs.YthliooccgclbjaaW.PrintLast Go.Proofs.YthliooccgclbjaaW.PrintMore
attribute [local go_sem] max2_int min2_int max_two min_two max_three min_three max_four min_four   -- for this text's walks alone
set_option linter.unusedVariables false
set_option linter.unusedSimpArgs false

/-! ### spec_l6Hash: function 83 -/
def spec_l6Hash.l0 : Nat → ByteArray → Int → Int → Option (Int)
 | 0, _, _, _ => none
 | k + 1, x0, x5, x6 => if x6 < (x0.size : Int) then (if 0 ≤ x6 then (spec_l6Hash.l0 k x0 (((Go.bits .xor .u32 x5 ((bt x0 x6) % 4294967296)) * 16777619) % 4294967296) (wrap64 (x6 + 1))) else (none)) else (some (Go.bits .xor .u32 x5 (x5 / 32768)))
def spec_l6Hash.f (k : Nat) (a0 : ByteArray) (a1 : Int) : Option (Int) := spec_l6Hash.l0 k a0 ((2166136261 + (((a1) % 4294967296) * 40503)) % 4294967296) 0
theorem spec_l6Hash.mono_l : ∀ k, (∀ y0 y1 y2, LeO (spec_l6Hash.l0 k y0 y1 y2) (spec_l6Hash.l0 (k + 1) y0 y1 y2))
 | 0 => fun _ _ _ r h => by simp [spec_l6Hash.l0] at h
 | k + 1 => by
  have ih0 := spec_l6Hash.mono_l k
  · intro y0 y1 y2
    unfold spec_l6Hash.l0
    repeat' first
     | (with_reducible first | exact ih0 .. | exact LeO.refl _ | exact LeO.none _ | refine LeO.ite ?_ ?_ | refine LeO.bind ?_ (fun _ => ?_))
     | exact LeO.none _
     | refine LeO.ite ?_ ?_
     | refine LeO.bind ?_ (fun _ => ?_)
theorem spec_l6Hash.mono : ∀ a0 a1 k, LeO (spec_l6Hash.f k a0 a1) (spec_l6Hash.f (k + 1) a0 a1) := by
 intro a0 a1 k
 have ih0 := spec_l6Hash.mono_l k
 unfold spec_l6Hash.f
 repeat' first
  | (with_reducible first | exact ih0 .. | exact LeO.refl _ | exact LeO.none _ | refine LeO.ite ?_ ?_ | refine LeO.bind ?_ (fun _ => ?_))
  | exact LeO.none _
  | refine LeO.ite ?_ ?_
  | refine LeO.bind ?_ (fun _ => ?_)
set_option maxHeartbeats 8000000 in
set_option maxRecDepth 100000 in
theorem spec_l6Hash.calls (k : Nat) (a0 : ByteArray) (a1 : Int) (r : Int) (w : World) (h : spec_l6Hash.f k a0 a1 = some r) :
 Calls Try.prog 83 #[.string a0, .int .i64 a1] w fun e w' => e = .returned (.int .u32 r) ∧ Drawn0 w w' := by
 have H : (spec_l6Hash.l0 k a0 ((2166136261 + (((a1) % 4294967296) * 40503)) % 4294967296) 0) = some r := h
 clear h
 have H' := Aside0.mk H
 clear H
 go_enter Try.func83, Try.ntmps83
 go_wp2
 go_loopg [5, 6] k (fun kq v5 v6 w' => ∃ (x5_1 : Int) (x6_1 : Int), v5 = .int .u32 x5_1 ∧ v6 = .int .i64 x6_1 ∧ Aside0 (spec_l6Hash.l0 kq a0 x5_1 x6_1 = some r) ∧ Aside0 (kq ≤ k) ∧ Drawn0 w w')
 case atStart => exact ⟨((2166136261 + (((a1) % 4294967296) * 40503)) % 4294967296), (0), z4458, z4458, H', ⟨Nat.le_refl _⟩, za9de⟩
 case round =>
  clear H'
  try clear p2
  obtain ⟨x5_1, x6_1, rfl, rfl, HA, HK1, ⟨m1, rfl⟩⟩ := hrel
  cases gk with
  | zero => exact absurd HA.out (by simp [spec_l6Hash.l0])
  | succ k1 =>
   have H := HA.out
   clear HA
   simp only [spec_l6Hash.l0] at H
   by_cases c3 : x6_1 < (a0.size : Int)
   · rw [if_pos c3] at H
     have c3b0 : decide (x6_1 < (a0.size : Int)) = true := decide_eq_true c3
     clear c3
     by_cases c4 : 0 ≤ x6_1
     · rw [if_pos c4] at H
       have c4b0 : decide (0 ≤ x6_1) = true := decide_eq_true c4
       clear c4
       have H' := Aside0.mk H
       clear H
       have p5 : 0 ≤ (x6_1 : Int) := of_decide_eq_true z1200
       have q5 : x6_1 < (a0.size : Int) := of_decide_eq_true z1200
       have hx5 := bt_at a0 x6_1
       replace p5 := eq_true p5
       replace q5 := eq_true q5
       go_wp2
       go_roundg k1
       case measure => have := HK1.out; omega
       case rel => exact ⟨(((Go.bits .xor .u32 x5_1 ((bt a0 x6_1) % 4294967296)) * 16777619) % 4294967296), (wrap64 (x6_1 + 1)), z4458, z4458, H', ⟨zfb39⟩, za9de⟩
     · rw [if_neg c4] at H
       exact absurd H (by simp)
   · rw [if_neg c3] at H
     have c3b0 : decide (x6_1 < (a0.size : Int)) = false := decide_eq_false c3
     clear c3
     obtain rfl := Option.some.inj H
     go_wp2
     go_ret
     exact ⟨z4458, za9de⟩

end Go.Proofs.Ythliooccgclbjaa.P

-- written by a program of this session's (wip/pp)
namespace Go.Proofs.Ythliooccgclbjaa.P
open Go.RowKit Go.Proofs.YthliooccgclbjaaW.PrintWords Go.Proofs.YthliooccgclbjaaW.PrintLast Go.Proofs.YthliooccgclbjaaW.PrintMore
attribute [local go_sem] max2_int min2_int max_two min_two max_three min_three max_four min_four   -- for this text's walks alone
set_option linter.unusedVariables false
set_option linter.unusedSimpArgs false

/-! ### spec_l6Places: function 67 -/
def spec_l6Places.l0 : Nat → Int → Int → Int → Int → List Int → Int → Option (List Int)
 | 0, _, _, _, _, _, _ => none
 | k + 1, x1, x2, x7, x8, x9, x10 => if x10 < x1 then (if ((wrap64 (8 * x2)) % 4294967296) = 0 then (none) else (if x9.length < 17592186044416 then (spec_l6Places.l0 k x1 x2 ((x7 + x8) % 4294967296) x8 (x9 ++ [wrap64 (Int.tmod x7 ((wrap64 (8 * x2)) % 4294967296))]) (wrap64 (x10 + 1))) else (none))) else (some x9)
def spec_l6Places.f (k : Nat) (a0 : ByteArray) (a1 : Int) (a2 : Int) : Option (List Int) := (spec_l6Hash.f k a0 0).bind fun t101 => ((spec_l6Hash.f k a0 1).bind fun t102 => (spec_l6Places.l0 k a1 a2 t101 t102 ([] : List Int) 0))
theorem spec_l6Places.mono_l : ∀ k, (∀ y0 y1 y2 y3 y4 y5, LeO (spec_l6Places.l0 k y0 y1 y2 y3 y4 y5) (spec_l6Places.l0 (k + 1) y0 y1 y2 y3 y4 y5))
 | 0 => fun _ _ _ _ _ _ r h => by simp [spec_l6Places.l0] at h
 | k + 1 => by
  have ih0 := spec_l6Places.mono_l k
  · intro y0 y1 y2 y3 y4 y5
    unfold spec_l6Places.l0
    repeat' first
     | (with_reducible first | exact ih0 .. | exact spec_l6Hash.mono .. | exact LeO.refl _ | exact LeO.none _ | refine LeO.ite ?_ ?_ | refine LeO.bind ?_ (fun _ => ?_))
     | exact LeO.none _
     | refine LeO.ite ?_ ?_
     | refine LeO.bind ?_ (fun _ => ?_)
theorem spec_l6Places.mono : ∀ a0 a1 a2 k, LeO (spec_l6Places.f k a0 a1 a2) (spec_l6Places.f (k + 1) a0 a1 a2) := by
 intro a0 a1 a2 k
 have ih0 := spec_l6Places.mono_l k
 unfold spec_l6Places.f
 repeat' first
  | (with_reducible first | exact ih0 .. | exact spec_l6Hash.mono .. | exact LeO.refl _ | exact LeO.none _ | refine LeO.ite ?_ ?_ | refine LeO.bind ?_ (fun _ => ?_))
  | exact LeO.none _
  | refine LeO.ite ?_ ?_
  | refine LeO.bind ?_ (fun _ => ?_)
set_option maxHeartbeats 8000000 in
set_option maxRecDepth 100000 in
theorem spec_l6Places.calls (k : Nat) (a0 : ByteArray) (a1 : Int) (a2 : Int) (r : List Int) (w : World) (h : spec_l6Places.f k a0 a1 a2 = some r) :
 Calls Try.prog 67 #[.string a0, .int .i64 a1, .int .i64 a2] w fun e w' => ∃ v0_ : Value, e = .returned (v0_) ∧ Kd.R (Kd.int .i64) 3 w' w.heap.size (fun _ => True) v0_ r ∧ Below w.heap.size w w' := by
 have HB := Aside0.mk (Below.refl w.heap.size w)
 have H : ((spec_l6Hash.f k a0 0).bind fun t101 => ((spec_l6Hash.f k a0 1).bind fun t102 => (spec_l6Places.l0 k a1 a2 t101 t102 ([] : List Int) 0))) = some r := h
 clear h
 replace H := Option.bind_eq_some_iff.mp H
 obtain ⟨t101, A40, H⟩ := H
 try dsimp only at H
 have A4 := Aside0.mk A40
 clear A40
 replace H := Option.bind_eq_some_iff.mp H
 obtain ⟨t102, A50, H⟩ := H
 try dsimp only at H
 have A5 := Aside0.mk A50
 clear A50
 have H' := Aside0.mk H
 clear H
 go_enter Try.func67, Try.ntmps67
 go_wp2_with (first | ((with_reducible refine gate_callee (f := 83) rfl ?_); refine goesL_ (some 12) rfl rfl Try.func83 (by kernel_rfl) rfl #[.string a0, .int .i64 0] rfl zee81 ?_; (with_reducible refine (spec_l6Hash.calls k a0 0 t101 _ A4.out).mono ?_); rintro e w' ⟨rfl, ⟨nd, rfl⟩⟩; refine ⟨_, rfl, ?_⟩) | ((with_reducible refine gate_callee (f := 83) rfl ?_); refine goesL_ (some 14) rfl rfl Try.func83 (by kernel_rfl) rfl #[.string a0, .int .i64 1] rfl zee81 ?_; (with_reducible refine (spec_l6Hash.calls k a0 1 t102 _ A5.out).mono ?_); rintro e w' ⟨rfl, ⟨nd, rfl⟩⟩; refine ⟨_, rfl, ?_⟩))
 go_loopg [7, 9, 10] k (fun kq v7 v9 v10 w' => ∃ (x7_1 : Int) (x9_1 : List Int) (x10_1 : Int), v7 = .int .u32 x7_1 ∧ v10 = .int .i64 x10_1 ∧ Aside0 (spec_l6Places.l0 kq a1 a2 x7_1 t102 x9_1 x10_1 = some r) ∧ Aside0 (kq ≤ k) ∧ Aside0 (Kd.R (Kd.int .i64) 3 w' w.heap.size (fun _ => True) v9 x9_1) ∧ Aside0 (Below w.heap.size w w'))
 case atStart => exact ⟨(t101), (([] : List Int)), (0), z4458, z4458, H', ⟨Nat.le_refl _⟩, ⟨z02fa⟩, ⟨z5acd⟩⟩
 case round =>
  clear H'
  try clear p2
  obtain ⟨x7_1, x9_1, x10_1, rfl, rfl, HA, HK1, HO_9, HB⟩ := hrel
  cases gk with
  | zero => exact absurd HA.out (by simp [spec_l6Places.l0])
  | succ k1 =>
   have H := HA.out
   clear HA
   simp only [spec_l6Places.l0] at H
   by_cases c6 : x10_1 < a1
   · rw [if_pos c6] at H
     have c6b0 : decide (x10_1 < a1) = true := decide_eq_true c6
     clear c6
     by_cases c7 : ((wrap64 (8 * a2)) % 4294967296) = 0
     · rw [if_pos c7] at H
       exact absurd H (by simp)
     · rw [if_neg c7] at H
       have c7b0 : (((wrap64 (8 * a2)) % 4294967296) == 0) = false := beq_eq_false_iff_ne.mpr c7
       have c7b1 : (((wrap64 (8 * a2)) % 4294967296) != 0) = true := bne_iff_ne.mpr c7
       by_cases c8 : x9_1.length < 17592186044416
       · rw [if_pos c8] at H
         have LMc8 := Aside0.mk c8
         clear c8
         obtain ⟨y103, hy103⟩ : ∃ y_ : List Int, y_ = (x9_1 ++ [wrap64 (Int.tmod x7_1 ((wrap64 (8 * a2)) % 4294967296))]) := ⟨_, rfl⟩
         replace H : (spec_l6Places.l0 k1 a1 a2 ((x7_1 + t102) % 4294967296) t102 y103 (wrap64 (x10_1 + 1))) = some r := by first | (rw [hy103]; with_reducible exact H) | (have H2_ := (Option.bind_some _ _).symm.trans H; rw [hy103]; with_reducible exact H2_) | (have H2_ := (Option.bind_some _ _).symm.trans H; with_reducible exact H2_) | with_reducible exact H | (rw [hy103]; exact H) | exact H
         have Ny103 := Aside0.mk hy103
         clear hy103
         have H' := Aside0.mk H
         clear H
         go_wp2_with (first | ((with_reducible refine gate_builtin (b := .append) (xs := #[.tmp 20, .tmp 27]) rfl ?_); at_builtin; refine Kd.R_append (Kd.int .i64) (w0 := w) w.heap.size rfl (.tmp 20) (.tmp 27) 52 3 (.int .i64 0) 8 rfl Try.underlying52 info3 rfl (by decide) (by omega) u9 x9_1 (wrap64 (Int.tmod x7_1 ((wrap64 (8 * a2)) % 4294967296))) [.int .i64 (wrap64 (Int.tmod x7_1 ((wrap64 (8 * a2)) % 4294967296)))] (fun _ => True) (fun _ => False) rfl rfl ?aP (fun _ hk => hk.elim) ?aF ?aO ?aB ?aS ?aL ?_; (case aP => exact rfl); (case aB => exact hbZ); (case aF => exact (fun _ _ => trivial)); (case aO => exact (rZ HO_9.out)); (case aS => exact (below_size hbZ)); (case aL => have := LMc8.out; omega); intro v104 w9 ho hb hg hat; rw [← Ny103.out] at ho; have n0_ := Aside0.mk hb; have n1_ := Aside0.mk ho; clear HB HO_9; have HB := n0_; have HO105 := n1_; clear n0_ n1_; clear ho hb hg hat))
         go_roundg k1
         case measure => have := HK1.out; omega
         case rel => exact ⟨((x7_1 + t102) % 4294967296), (y103), (wrap64 (x10_1 + 1)), z4458, z4458, H', ⟨zfb39⟩, ⟨rZ HO105.out⟩, ⟨z5acd⟩⟩
       · rw [if_neg c8] at H
         exact absurd H (by simp)
   · rw [if_neg c6] at H
     have c6b0 : decide (x10_1 < a1) = false := decide_eq_false c6
     clear c6
     obtain rfl := Option.some.inj H
     go_wp2
     go_ret
     exact ⟨_, z674d, rZ HO_9.out, z5acd⟩

end Go.Proofs.Ythliooccgclbjaa.P

-- written by a program of this session's (wip/pp)
namespace Go.Proofs.Ythliooccgclbjaa.P
open Go.RowKit Go.Proofs.YthliooccgclbjaaW.PrintWords Go.Proofs.YthliooccgclbjaaW.PrintLast Go.Proofs.YthliooccgclbjaaW.PrintMore
attribute [local go_sem] max2_int min2_int max_two min_two max_three min_three max_four min_four   -- for this text's walks alone
set_option linter.unusedVariables false
set_option linter.unusedSimpArgs false

/-! ### impl_GoodFilter: function 47 -/
def impl_GoodFilter.f (a0_0 : Int) (l0_1 : List Int) : Option (Bool) := (impl_within.f a0_0 1 8).bind fun t102 => (if t102 = true then ((impl_within.f (l0_1.length : Int) 1 200).bind fun t103 => (some t103)) else (some false))
set_option maxHeartbeats 8000000 in
set_option maxRecDepth 100000 in
theorem impl_GoodFilter.calls (a0_0 : Int) (A0_1 : Option Addr) (c0_1 : Nat) (l0_1 : List Int) (r : Bool) (w : World) (hr0_1 : Kd.C (Kd.int .u8) w A0_1 l0_1.length l0_1) (hc0_1 : l0_1.length ≤ c0_1) (h : impl_GoodFilter.f a0_0 l0_1 = some r) :
 Calls Try.prog 47 #[.agg #[.int .i64 a0_0, .slice A0_1 l0_1.length c0_1]] w fun e w' => e = .returned (.bool r) ∧ Below w.heap.size w w' := by
 have hu39 := Try.underlying39
 have HR0_1 := Aside0.mk hr0_1
 have HC0_1 := Aside0.mk hc0_1
 clear hr0_1 hc0_1
 have HB := Aside0.mk (Below.refl w.heap.size w)
 have H : ((impl_within.f a0_0 1 8).bind fun t102 => (if t102 = true then ((impl_within.f (l0_1.length : Int) 1 200).bind fun t103 => (some t103)) else (some false))) = some r := h
 clear h
 replace H := Option.bind_eq_some_iff.mp H
 obtain ⟨t102, A20, H⟩ := H
 try dsimp only at H
 have A2 := Aside0.mk A20
 clear A20
 by_cases c3 : t102 = true
 · subst c3
   have H1 : ((impl_within.f (l0_1.length : Int) 1 200).bind fun t103 => (some t103)) = some r := by rw [if_pos rfl] at H; exact H
   clear H
   have H := H1
   clear H1
   replace H := Option.bind_eq_some_iff.mp H
   obtain ⟨t103, A40, H⟩ := H
   try dsimp only at H
   have A4 := Aside0.mk A40
   clear A40
   obtain rfl := Option.some.inj H
   go_enter Try.func47, Try.ntmps47
   go_wp2_with (first | ((with_reducible refine gate_dst (N := 1) rfl ?_); (try (refine gate_guard (by rfl) ?_; dsimp only)); refine box_event ?hg (N := 1) ?hd (cs := #[.int .i64 a0_0, .slice A0_1 l0_1.length c0_1]) (t := 39) ?hr ?_; (case hd => rfl); (case hg => rfl); (case hr => first | (go_simp; done) | (go_simp; rfl)); intro gb101 hg w5 hbox hb; have n0_ := Aside0.mk (below_step hbZ hb); have n1_ := Aside0.mk hbox; have n2_ := Aside0.mk ((by rw [hg]; exact (below_size hbZ) : w.heap.size ≤ gb101)); have n3_ := Aside0.mk ((by rw [hg]; exact (below_size hbZ) : w.heap.size ≤ gb101)); clear HB; have HB := n0_; have BK101 := n1_; have GW101 := n2_; have GE101 := n3_; clear n0_ n1_ n2_ n3_; clear hb hbox hg; obtain ⟨hcz6_0, hcz6_1, hfz6_0, hfz6_1⟩ := cellsZ2 BK101.out) | ((with_reducible refine gate_callee (f := 38) rfl ?_); refine goesL_ (some 5) rfl rfl Try.func38 (by kernel_rfl) rfl #[.int .i64 a0_0, .int .i64 1, .int .i64 8] rfl zee81 ?_; (with_reducible refine (impl_within.calls a0_0 1 8 true _ A2.out).mono ?_); rintro e w' ⟨rfl, ⟨nd, rfl⟩⟩; refine ⟨_, rfl, ?_⟩) | (go_at_call 38; (with_reducible refine (impl_within.calls (l0_1.length : Int) 1 200 t103 _ A4.out).mono ?_); rintro e w' ⟨rfl, ⟨nd, rfl⟩⟩))
   go_ret
   exact ⟨z674d, zcb41⟩
 · replace c3 := Bool.eq_false_iff.mpr c3
   subst c3
   have H1 : (some false) = some r := by rw [if_neg (show ¬ (false = true) by decide)] at H; exact H
   clear H
   have H := H1
   clear H1
   obtain rfl := Option.some.inj H
   go_enter Try.func47, Try.ntmps47
   go_wp2_with (first | ((with_reducible refine gate_dst (N := 1) rfl ?_); (try (refine gate_guard (by rfl) ?_; dsimp only)); refine box_event ?hg (N := 1) ?hd (cs := #[.int .i64 a0_0, .slice A0_1 l0_1.length c0_1]) (t := 39) ?hr ?_; (case hd => rfl); (case hg => rfl); (case hr => first | (go_simp; done) | (go_simp; rfl)); intro gb101 hg w7 hbox hb; have n0_ := Aside0.mk (below_step hbZ hb); have n1_ := Aside0.mk hbox; have n2_ := Aside0.mk ((by rw [hg]; exact (below_size hbZ) : w.heap.size ≤ gb101)); have n3_ := Aside0.mk ((by rw [hg]; exact (below_size hbZ) : w.heap.size ≤ gb101)); clear HB; have HB := n0_; have BK101 := n1_; have GW101 := n2_; have GE101 := n3_; clear n0_ n1_ n2_ n3_; clear hb hbox hg; obtain ⟨hcz8_0, hcz8_1, hfz8_0, hfz8_1⟩ := cellsZ2 BK101.out) | ((with_reducible refine gate_callee (f := 38) rfl ?_); refine goesL_ (some 5) rfl rfl Try.func38 (by kernel_rfl) rfl #[.int .i64 a0_0, .int .i64 1, .int .i64 8] rfl zee81 ?_; (with_reducible refine (impl_within.calls a0_0 1 8 false _ A2.out).mono ?_); rintro e w' ⟨rfl, ⟨nd, rfl⟩⟩; refine ⟨_, rfl, ?_⟩))
   go_ret
   exact ⟨z674d, zcb41⟩

end Go.Proofs.Ythliooccgclbjaa.P

-- written by a program of this session's (wip/pp)
namespace Go.Proofs.Ythliooccgclbjaa.P
open Go.RowKit Go.Proofs.YthliooccgclbjaaW.PrintWords Go.Proofs.YthliooccgclbjaaW.PrintLast Go.Proofs.YthliooccgclbjaaW.PrintMore
attribute [local go_sem] max2_int min2_int max_two min_two max_three min_three max_four min_four   -- for this text's walks alone
set_option linter.unusedVariables false
set_option linter.unusedSimpArgs false

/-! ### impl_MayHave_1: function 49 -/
def impl_MayHave_1.f (a0 : Int) (a1_0 : Int) (l1_1 : List Int) : Option (Bool) := if 0 ≤ (wrap64 (Int.tdiv a0 8)) then (if (wrap64 (Int.tdiv a0 8)) < (l1_1.length : Int) then (if 0 ≤ (Int.tmod a0 8) then (some ((Go.bits .and .u8 (shr .u8 (rd l1_1 (wrap64 (Int.tdiv a0 8))) (Int.tmod a0 8)) 1) == 0)) else (none)) else (none)) else (none)
set_option maxHeartbeats 8000000 in
set_option maxRecDepth 100000 in
theorem impl_MayHave_1.calls (a0 : Int) (g1_ : Nat) (a1_0 : Int) (A1_1 : Option Addr) (c1_1 : Nat) (l1_1 : List Int) (r : Bool) (w : World) (hb1_ : w.heap[g1_]? = some (.cells #[.int .i64 a1_0, .slice A1_1 l1_1.length c1_1] 39 (0, 0))) (hr1_1 : Kd.C (Kd.int .u8) w A1_1 l1_1.length l1_1) (hc1_1 : l1_1.length ≤ c1_1) (h : impl_MayHave_1.f a0 a1_0 l1_1 = some r) :
 Calls Try.prog 49 #[.int .i64 a0, .pointer (some ⟨g1_, 0, none⟩)] w fun e w' => e = .returned (.bool r) ∧ Drawn0 w w' := by
 have HR1_1 := Aside0.mk hr1_1
 have HC1_1 := Aside0.mk hc1_1
 clear hr1_1 hc1_1
 have BK1 := Aside0.mk hb1_
 clear hb1_
 have H : (if 0 ≤ (wrap64 (Int.tdiv a0 8)) then (if (wrap64 (Int.tdiv a0 8)) < (l1_1.length : Int) then (if 0 ≤ (Int.tmod a0 8) then (some ((Go.bits .and .u8 (shr .u8 (rd l1_1 (wrap64 (Int.tdiv a0 8))) (Int.tmod a0 8)) 1) == 0)) else (none)) else (none)) else (none)) = some r := h
 clear h
 obtain ⟨ji3, hji3⟩ : ∃ j_ : Int, (wrap64 (Int.tdiv a0 8)) = j_ := ⟨_, rfl⟩
 replace H : (if 0 ≤ (ji3) then (if (ji3) < (l1_1.length : Int) then (if 0 ≤ (Int.tmod a0 8) then (some ((Go.bits .and .u8 (shr .u8 (rd l1_1 (ji3)) (Int.tmod a0 8)) 1) == 0)) else (none)) else (none)) else (none)) = some r := by first | (rw [hji3] at H; exact H) | (simp only [hji3] at H ⊢; exact H)
 have hji3w : (IntKind.i64.wrap (Int.tdiv a0 8)) = ji3 := (i64_w _).trans hji3
 by_cases c4 : 0 ≤ (ji3)
 · rw [if_pos c4] at H
   have c4b0 : decide (0 ≤ (ji3)) = true := decide_eq_true c4
   clear c4
   by_cases c5 : (ji3) < (l1_1.length : Int)
   · rw [if_pos c5] at H
     have c5b0 : decide ((ji3) < (l1_1.length : Int)) = true := decide_eq_true c5
     clear c5
     obtain ⟨ji6, hji6⟩ : ∃ j_ : Int, (Int.tmod a0 8) = j_ := ⟨_, rfl⟩
     replace H : (if 0 ≤ (ji6) then (some ((Go.bits .and .u8 (shr .u8 (rd l1_1 (ji3)) (ji6)) 1) == 0)) else (none)) = some r := by first | (rw [hji6] at H; exact H) | (simp only [hji6] at H ⊢; exact H)
     by_cases c7 : 0 ≤ (ji6)
     · rw [if_pos c7] at H
       have c7b0 := eq_true c7
       have c7b1 : decide (0 ≤ (ji6)) = true := decide_eq_true c7
       clear c7
       obtain ⟨ji8, hji8⟩ : ∃ j_ : Int, (shr .u8 (rd l1_1 (ji3)) (ji6)) = j_ := ⟨_, rfl⟩
       replace H : (some ((Go.bits .and .u8 (ji8) 1) == 0)) = some r := by first | (rw [hji8] at H; exact H) | (simp only [hji8] at H ⊢; exact H)
       have hji8_ : ((rd l1_1 (ji3)) / 2 ^ min (ji6).toNat 8) = ji8 := hji8
       have hji8z : (ji6) ≤ 8 → ((rd l1_1 (ji3)) / 2 ^ (ji6).toNat) = ji8 := shr_small hji8
       obtain rfl := Option.some.inj H
       obtain ⟨hcz9_0, hcz9_1, hfz9_0, hfz9_1⟩ := cellsZ2 BK1.out
       have p101 : 0 ≤ ((ji3) : Int) := of_decide_eq_true z1200
       have q101 : (ji3) < (l1_1.length : Int) := of_decide_eq_true z1200
       obtain ⟨ad101, e101, hx101_0⟩ := Kd.at_int HR1_1.out (ji3) p101 q101
       cases e101
       replace p101 := eq_true p101
       replace q101 := eq_true q101
       go_enter Try.func49, Try.ntmps49
       go_wp2
       go_ret
       exact ⟨by first | rfl | (simp; done) | (simp only [← hji3, ← hji6, ← hji8] <;> (first | rfl | (simp; done))) | (simp [*]; done), za9de⟩
     · rw [if_neg c7] at H
       exact absurd H (by simp)
   · rw [if_neg c5] at H
     exact absurd H (by simp)
 · rw [if_neg c4] at H
   exact absurd H (by simp)

end Go.Proofs.Ythliooccgclbjaa.P

-- written by a program of this session's (wip/pp)
namespace Go.Proofs.Ythliooccgclbjaa.P
open Go.RowKit Go.Proofs.YthliooccgclbjaaW.PrintWords Go.Proofs.YthliooccgclbjaaW.PrintLast Go.Proofs.YthliooccgclbjaaW.PrintMore
attribute [local go_sem] max2_int min2_int max_two min_two max_three min_three max_four min_four   -- for this text's walks alone
set_option linter.unusedVariables false
set_option linter.unusedSimpArgs false

/-! ### slices_IndexFunc_int_int_with_impl_MayHave_1: function 10068049 -/
def slices_IndexFunc_int_int_with_impl_MayHave_1.l0 : Nat → List Int → Int → Int → Int → List Int → Option (Int)
 | 0, _, _, _, _, _ => none
 | k + 1, x0, x7, x8, x2000, x2001 => if x8 < x7 then (if 0 ≤ x8 then (if x8 < (x0.length : Int) then ((impl_MayHave_1.f (rd x0 x8) x2000 x2001).bind fun t102 => (if t102 = true then (some x8) else (slices_IndexFunc_int_int_with_impl_MayHave_1.l0 k x0 x7 (wrap64 (x8 + 1)) x2000 x2001))) else (none)) else (none)) else (some (-1))
def slices_IndexFunc_int_int_with_impl_MayHave_1.f (k : Nat) (l0 : List Int) (a1_0 : Int) (l1_1 : List Int) : Option (Int) := slices_IndexFunc_int_int_with_impl_MayHave_1.l0 k l0 (l0.length : Int) 0 a1_0 l1_1
theorem slices_IndexFunc_int_int_with_impl_MayHave_1.mono_l : ∀ k, (∀ y0 y1 y2 y3 y4, LeO (slices_IndexFunc_int_int_with_impl_MayHave_1.l0 k y0 y1 y2 y3 y4) (slices_IndexFunc_int_int_with_impl_MayHave_1.l0 (k + 1) y0 y1 y2 y3 y4))
 | 0 => fun _ _ _ _ _ r h => by simp [slices_IndexFunc_int_int_with_impl_MayHave_1.l0] at h
 | k + 1 => by
  have ih0 := slices_IndexFunc_int_int_with_impl_MayHave_1.mono_l k
  · intro y0 y1 y2 y3 y4
    unfold slices_IndexFunc_int_int_with_impl_MayHave_1.l0
    repeat' first
     | (with_reducible first | exact ih0 .. | exact LeO.refl _ | exact LeO.none _ | refine LeO.ite ?_ ?_ | refine LeO.bind ?_ (fun _ => ?_))
     | exact LeO.none _
     | refine LeO.ite ?_ ?_
     | refine LeO.bind ?_ (fun _ => ?_)
theorem slices_IndexFunc_int_int_with_impl_MayHave_1.mono : ∀ a0 a1 a2 k, LeO (slices_IndexFunc_int_int_with_impl_MayHave_1.f k a0 a1 a2) (slices_IndexFunc_int_int_with_impl_MayHave_1.f (k + 1) a0 a1 a2) := by
 intro a0 a1 a2 k
 have ih0 := slices_IndexFunc_int_int_with_impl_MayHave_1.mono_l k
 unfold slices_IndexFunc_int_int_with_impl_MayHave_1.f
 repeat' first
  | (with_reducible first | exact ih0 .. | exact LeO.refl _ | exact LeO.none _ | refine LeO.ite ?_ ?_ | refine LeO.bind ?_ (fun _ => ?_))
  | exact LeO.none _
  | refine LeO.ite ?_ ?_
  | refine LeO.bind ?_ (fun _ => ?_)
set_option maxHeartbeats 8000000 in
set_option maxRecDepth 100000 in
theorem slices_IndexFunc_int_int_with_impl_MayHave_1.calls (k : Nat) (A0 : Option Addr) (c0 : Nat) (l0 : List Int) (g1_ : Nat) (a1_0 : Int) (A1_1 : Option Addr) (c1_1 : Nat) (l1_1 : List Int) (r : Int) (w : World) (hr0 : Kd.C (Kd.int .i64) w A0 l0.length l0) (hc0 : l0.length ≤ c0) (hb1_ : w.heap[g1_]? = some (.cells #[.int .i64 a1_0, .slice A1_1 l1_1.length c1_1] 39 (0, 0))) (hr1_1 : Kd.C (Kd.int .u8) w A1_1 l1_1.length l1_1) (hc1_1 : l1_1.length ≤ c1_1) (h : slices_IndexFunc_int_int_with_impl_MayHave_1.f k l0 a1_0 l1_1 = some r) :
 Calls Try.prog 68 #[.slice A0 l0.length c0, .func (.func 49) #[] #[.pointer (some ⟨g1_, 0, none⟩)]] w fun e w' => e = .returned (.int .i64 r) ∧ Drawn0 w w' := by
 have HR0 := Aside0.mk hr0
 have HC0 := Aside0.mk hc0
 clear hr0 hc0
 have HR1_1 := Aside0.mk hr1_1
 have HC1_1 := Aside0.mk hc1_1
 clear hr1_1 hc1_1
 have BK1 := Aside0.mk hb1_
 clear hb1_
 have H : (slices_IndexFunc_int_int_with_impl_MayHave_1.l0 k l0 (l0.length : Int) 0 a1_0 l1_1) = some r := h
 clear h
 have H' := Aside0.mk H
 clear H
 go_enter Try.func68, Try.ntmps68
 go_wp2
 go_loopg [8] k (fun kq v8 w' => ∃ (x8_1 : Int), v8 = .int .i64 x8_1 ∧ Aside0 (slices_IndexFunc_int_int_with_impl_MayHave_1.l0 kq l0 (l0.length : Int) x8_1 a1_0 l1_1 = some r) ∧ Aside0 (kq ≤ k) ∧ Aside0 (w'.heap[g1_]? = some (.cells #[.int .i64 a1_0, (.slice A1_1 l1_1.length c1_1)] 39 (0, 0))) ∧ Drawn0 w w')
 case atStart => exact ⟨(0), z4458, H', ⟨Nat.le_refl _⟩, ⟨bkZ⟩, za9de⟩
 case round =>
  clear H'
  try clear c1
  try clear p2
  obtain ⟨x8_1, rfl, HA, HK1, BK1, ⟨m1, rfl⟩⟩ := hrel
  cases gk with
  | zero => exact absurd HA.out (by simp [slices_IndexFunc_int_int_with_impl_MayHave_1.l0])
  | succ k1 =>
   have H := HA.out
   clear HA
   simp only [slices_IndexFunc_int_int_with_impl_MayHave_1.l0] at H
   by_cases c3 : x8_1 < (l0.length : Int)
   · rw [if_pos c3] at H
     have c3b0 : decide (x8_1 < (l0.length : Int)) = true := decide_eq_true c3
     clear c3
     by_cases c4 : 0 ≤ x8_1
     · rw [if_pos c4] at H
       have c4b0 : decide (0 ≤ x8_1) = true := decide_eq_true c4
       clear c4
       by_cases c5 : x8_1 < (l0.length : Int)
       · rw [if_pos c5] at H
         have c5b0 : decide (x8_1 < (l0.length : Int)) = true := decide_eq_true c5
         clear c5
         replace H := Option.bind_eq_some_iff.mp H
         obtain ⟨t102, A60, H⟩ := H
         try dsimp only at H
         have A6 := Aside0.mk A60
         clear A60
         by_cases c7 : t102 = true
         · subst c7
           have H1 : (some x8_1) = some r := by rw [if_pos rfl] at H; exact H
           clear H
           have H := H1
           clear H1
           obtain rfl := Option.some.inj H
           have p101 : 0 ≤ (x8_1 : Int) := of_decide_eq_true z1200
           have q101 : x8_1 < (l0.length : Int) := of_decide_eq_true z1200
           obtain ⟨ad101, e101, hx101_0⟩ := Kd.at_int HR0.out x8_1 p101 q101
           cases e101
           replace p101 := eq_true p101
           replace q101 := eq_true q101
           go_wp2_with (first | (go_at_call 49; (with_reducible refine (impl_MayHave_1.calls (rd l0 x8_1) g1_ a1_0 A1_1 c1_1 l1_1 true _ ?side1 ?side2 ?side3 A6.out).mono ?_); (case side1 => exact bkZ); (case side2 => exact ze3d8); (case side3 => exact HC1_1.out); rintro e w' ⟨rfl, ⟨nd, rfl⟩⟩))
           go_ret
           exact ⟨z4458, za9de⟩
         · replace c7 := Bool.eq_false_iff.mpr c7
           subst c7
           have H1 : (slices_IndexFunc_int_int_with_impl_MayHave_1.l0 k1 l0 (l0.length : Int) (wrap64 (x8_1 + 1)) a1_0 l1_1) = some r := by rw [if_neg (show ¬ (false = true) by decide)] at H; exact H
           clear H
           have H := H1
           clear H1
           have H' := Aside0.mk H
           clear H
           have p101 : 0 ≤ (x8_1 : Int) := of_decide_eq_true z1200
           have q101 : x8_1 < (l0.length : Int) := of_decide_eq_true z1200
           obtain ⟨ad101, e101, hx101_0⟩ := Kd.at_int HR0.out x8_1 p101 q101
           cases e101
           replace p101 := eq_true p101
           replace q101 := eq_true q101
           go_wp2_with (first | (go_at_call 49; (with_reducible refine (impl_MayHave_1.calls (rd l0 x8_1) g1_ a1_0 A1_1 c1_1 l1_1 false _ ?side1 ?side2 ?side3 A6.out).mono ?_); (case side1 => exact bkZ); (case side2 => exact ze3d8); (case side3 => exact HC1_1.out); rintro e w' ⟨rfl, ⟨nd, rfl⟩⟩))
           go_roundg k1
           case measure => have := HK1.out; omega
           case rel => exact ⟨(wrap64 (x8_1 + 1)), z4458, H', ⟨zfb39⟩, ⟨bkZ⟩, za9de⟩
       · rw [if_neg c5] at H
         exact absurd H (by simp)
     · rw [if_neg c4] at H
       exact absurd H (by simp)
   · rw [if_neg c3] at H
     have c3b0 : decide (x8_1 < (l0.length : Int)) = false := decide_eq_false c3
     clear c3
     obtain rfl := Option.some.inj H
     go_wp2
     go_ret
     exact ⟨z4458, za9de⟩

end Go.Proofs.Ythliooccgclbjaa.P

-- written by a program of this session's (wip/pp)
namespace Go.Proofs.Ythliooccgclbjaa.P
open Go.RowKit Go.Proofs.YthliooccgclbjaaW.PrintWords Go.Proofs.YthliooccgclbjaaW.PrintLast Go.Proofs.YthliooccgclbjaaW.PrintMore
attribute [local go_sem] max2_int min2_int max_two min_two max_three min_three max_four min_four   -- for this text's walks alone
set_option linter.unusedVariables false
set_option linter.unusedSimpArgs false

/-! ### slices_ContainsFunc_int_int_with_impl_MayHave_1: function 10048049 -/
def slices_ContainsFunc_int_int_with_impl_MayHave_1.f (k : Nat) (l0 : List Int) (a1_0 : Int) (l1_1 : List Int) : Option (Bool) := (slices_IndexFunc_int_int_with_impl_MayHave_1.f k l0 a1_0 l1_1).bind fun t101 => (some (decide (t101 ≥ 0)))
theorem slices_ContainsFunc_int_int_with_impl_MayHave_1.mono : ∀ a0 a1 a2 k, LeO (slices_ContainsFunc_int_int_with_impl_MayHave_1.f k a0 a1 a2) (slices_ContainsFunc_int_int_with_impl_MayHave_1.f (k + 1) a0 a1 a2) := by
 intro a0 a1 a2 k
 unfold slices_ContainsFunc_int_int_with_impl_MayHave_1.f
 repeat' first
  | (with_reducible first | exact slices_IndexFunc_int_int_with_impl_MayHave_1.mono .. | exact LeO.refl _ | exact LeO.none _ | refine LeO.ite ?_ ?_ | refine LeO.bind ?_ (fun _ => ?_))
  | exact LeO.none _
  | refine LeO.ite ?_ ?_
  | refine LeO.bind ?_ (fun _ => ?_)
set_option maxHeartbeats 8000000 in
set_option maxRecDepth 100000 in
theorem slices_ContainsFunc_int_int_with_impl_MayHave_1.calls (k : Nat) (A0 : Option Addr) (c0 : Nat) (l0 : List Int) (g1_ : Nat) (a1_0 : Int) (A1_1 : Option Addr) (c1_1 : Nat) (l1_1 : List Int) (r : Bool) (w : World) (hr0 : Kd.C (Kd.int .i64) w A0 l0.length l0) (hc0 : l0.length ≤ c0) (hb1_ : w.heap[g1_]? = some (.cells #[.int .i64 a1_0, .slice A1_1 l1_1.length c1_1] 39 (0, 0))) (hr1_1 : Kd.C (Kd.int .u8) w A1_1 l1_1.length l1_1) (hc1_1 : l1_1.length ≤ c1_1) (h : slices_ContainsFunc_int_int_with_impl_MayHave_1.f k l0 a1_0 l1_1 = some r) :
 Calls Try.prog 48 #[.slice A0 l0.length c0, .func (.func 49) #[] #[.pointer (some ⟨g1_, 0, none⟩)]] w fun e w' => e = .returned (.bool r) ∧ Drawn0 w w' := by
 have HR0 := Aside0.mk hr0
 have HC0 := Aside0.mk hc0
 clear hr0 hc0
 have HR1_1 := Aside0.mk hr1_1
 have HC1_1 := Aside0.mk hc1_1
 clear hr1_1 hc1_1
 have BK1 := Aside0.mk hb1_
 clear hb1_
 have H : ((slices_IndexFunc_int_int_with_impl_MayHave_1.f k l0 a1_0 l1_1).bind fun t101 => (some (decide (t101 ≥ 0)))) = some r := h
 clear h
 replace H := Option.bind_eq_some_iff.mp H
 obtain ⟨t101, A30, H⟩ := H
 try dsimp only at H
 have A3 := Aside0.mk A30
 clear A30
 obtain rfl := Option.some.inj H
 go_enter Try.func48, Try.ntmps48
 go_wp2_with (first | ((with_reducible refine gate_callee (f := 68) rfl ?_); refine goesL_ (some 7) rfl rfl Try.func68 (by kernel_rfl) rfl #[.slice A0 l0.length c0, .func (.func 49) #[] #[.pointer (some ⟨g1_, 0, none⟩)]] rfl zee81 ?_; (with_reducible refine (slices_IndexFunc_int_int_with_impl_MayHave_1.calls k _ _ l0 g1_ a1_0 A1_1 c1_1 l1_1 t101 _ ?side1 ?side2 ?side3 ?side4 ?side5 A3.out).mono ?_); (case side1 => exact z4195); (case side2 => exact HC0.out); (case side3 => exact bkZ); (case side4 => exact ze3d8); (case side5 => exact HC1_1.out); rintro e w' ⟨rfl, ⟨nd, rfl⟩⟩; refine ⟨_, rfl, ?_⟩))
 go_ret
 exact ⟨z4458, za9de⟩

end Go.Proofs.Ythliooccgclbjaa.P

-- written by a program of this session's (wip/pp)
namespace Go.Proofs.Ythliooccgclbjaa.P
open Go.RowKit Go.Proofs.YthliooccgclbjaaW.PrintWords Go.Proofs.YthliooccgclbjaaW.PrintLast Go.Proofs.YthliooccgclbjaaW.PrintMore
attribute [local go_sem] max2_int min2_int max_two min_two max_three min_three max_four min_four   -- for this text's walks alone
set_option linter.unusedVariables false
set_option linter.unusedSimpArgs false

/-! ### impl_MayHave: function 18 -/
def impl_MayHave.f (k : Nat) (a0_0 : Int) (l0_1 : List Int) (a1 : ByteArray) : Option (Bool) := (impl_GoodFilter.f a0_0 l0_1).bind fun t102 => (if t102 = true then ((impl_Filter_places.f k a0_0 l0_1 a1).bind fun t103 => ((slices_ContainsFunc_int_int_with_impl_MayHave_1.f k t103 a0_0 l0_1).bind fun t106 => (some (!t106)))) else (some false))
theorem impl_MayHave.mono : ∀ a0 a1 a2 k, LeO (impl_MayHave.f k a0 a1 a2) (impl_MayHave.f (k + 1) a0 a1 a2) := by
 intro a0 a1 a2 k
 unfold impl_MayHave.f
 repeat' first
  | (with_reducible first | exact impl_Filter_places.mono .. | exact slices_ContainsFunc_int_int_with_impl_MayHave_1.mono .. | exact LeO.refl _ | exact LeO.none _ | refine LeO.ite ?_ ?_ | refine LeO.bind ?_ (fun _ => ?_))
  | exact LeO.none _
  | refine LeO.ite ?_ ?_
  | refine LeO.bind ?_ (fun _ => ?_)
set_option maxHeartbeats 8000000 in
set_option maxRecDepth 100000 in
theorem impl_MayHave.calls (k : Nat) (a0_0 : Int) (A0_1 : Option Addr) (c0_1 : Nat) (l0_1 : List Int) (a1 : ByteArray) (r : Bool) (w : World) (hr0_1 : Kd.C (Kd.int .u8) w A0_1 l0_1.length l0_1) (hc0_1 : l0_1.length ≤ c0_1) (h : impl_MayHave.f k a0_0 l0_1 a1 = some r) :
 Calls Try.prog 18 #[.agg #[.int .i64 a0_0, .slice A0_1 l0_1.length c0_1], .string a1] w fun e w' => e = .returned (.bool r) ∧ Below w.heap.size w w' := by
 have hu39 := Try.underlying39
 have HR0_1 := Aside0.mk hr0_1
 have HC0_1 := Aside0.mk hc0_1
 clear hr0_1 hc0_1
 have HB := Aside0.mk (Below.refl w.heap.size w)
 have H : ((impl_GoodFilter.f a0_0 l0_1).bind fun t102 => (if t102 = true then ((impl_Filter_places.f k a0_0 l0_1 a1).bind fun t103 => ((slices_ContainsFunc_int_int_with_impl_MayHave_1.f k t103 a0_0 l0_1).bind fun t106 => (some (!t106)))) else (some false))) = some r := h
 clear h
 replace H := Option.bind_eq_some_iff.mp H
 obtain ⟨t102, A30, H⟩ := H
 try dsimp only at H
 have A3 := Aside0.mk A30
 clear A30
 by_cases c4 : t102 = true
 · subst c4
   have H1 : ((impl_Filter_places.f k a0_0 l0_1 a1).bind fun t103 => ((slices_ContainsFunc_int_int_with_impl_MayHave_1.f k t103 a0_0 l0_1).bind fun t106 => (some (!t106)))) = some r := by rw [if_pos rfl] at H; exact H
   clear H
   have H := H1
   clear H1
   replace H := Option.bind_eq_some_iff.mp H
   obtain ⟨t103, A50, H⟩ := H
   try dsimp only at H
   have A5 := Aside0.mk A50
   clear A50
   replace H := Option.bind_eq_some_iff.mp H
   obtain ⟨t106, A60, H⟩ := H
   try dsimp only at H
   have A6 := Aside0.mk A60
   clear A60
   obtain rfl := Option.some.inj H
   go_enter Try.func18, Try.ntmps18
   go_wp2_with (first | ((with_reducible refine gate_dst (N := 2) rfl ?_); refine box_event ?hg (N := 2) ?hd (cs := #[.int .i64 a0_0, .slice A0_1 l0_1.length c0_1]) (t := 39) ?hr ?_; (case hd => rfl); (case hg => rfl); (case hr => first | (go_simp; done) | (go_simp; rfl)); intro gb101 hg w7 hbox hb; have n0_ := Aside0.mk (below_step hbZ hb); have n1_ := Aside0.mk hbox; have n2_ := Aside0.mk ((by rw [hg]; exact (below_size hbZ) : w.heap.size ≤ gb101)); have n3_ := Aside0.mk ((by rw [hg]; exact (below_size hbZ) : w.heap.size ≤ gb101)); clear HB; have HB := n0_; have BK101 := n1_; have GW101 := n2_; have GE101 := n3_; clear n0_ n1_ n2_ n3_; clear hb hbox hg; obtain ⟨hcz8_0, hcz8_1, hfz8_0, hfz8_1⟩ := cellsZ2 BK101.out) | ((with_reducible refine gate_callee (f := 47) rfl ?_); refine goesL_ (some 6) rfl rfl Try.func47 (by kernel_rfl) rfl #[.agg #[.int .i64 a0_0, .slice A0_1 l0_1.length c0_1]] rfl zee81 ?_; (with_reducible refine (impl_GoodFilter.calls a0_0 _ _ l0_1 true _ ?side1 ?side2 A3.out).mono ?_); (case side1 => exact z45f8); (case side2 => exact HC0_1.out); rintro e w9 ⟨rfl, hb⟩; refine ⟨_, rfl, ?_⟩; have n0_ := Aside0.mk (blk_below (g := gb101) bkZ hb); have n1_ := Aside0.mk (below_step hbZ hb); clear BK101 HB; have BK101 := n0_; have HB := n1_; clear n0_ n1_; (try clear hb); (try clear hb2); (try clear hk); (try clear hi); obtain ⟨hcz10_0, hcz10_1, hfz10_0, hfz10_1⟩ := cellsZ2 BK101.out) | (go_at_call 45; (with_reducible refine (impl_Filter_places.calls k a0_0 _ _ l0_1 a1 t103 _ ?side1 ?side2 A5.out).mono ?_); (case side1 => exact z45f8); (case side2 => exact HC0_1.out); rintro e w11 ⟨v104, rfl, ho0, hb⟩; have n0_ := Aside0.mk (Kd.R_lower ho0 (below_size hbZ)); have n1_ := Aside0.mk (blk_below (g := gb101) bkZ hb); have n2_ := Aside0.mk (below_step hbZ hb); clear BK101 HB; have HO105 := n0_; have BK101 := n1_; have HB := n2_; clear n0_ n1_ n2_; (try clear hb); (try clear hb2); (try clear hk); (try clear hi); (try clear ho0); obtain ⟨Ao12, co12, eo12⟩ := Kd.R_slice HO105.out; subst eo12) | (go_at_call 48; (with_reducible refine (slices_ContainsFunc_int_int_with_impl_MayHave_1.calls k _ _ t103 gb101 a0_0 A0_1 c0_1 l0_1 t106 _ ?side1 ?side2 ?side3 ?side4 ?side5 A6.out).mono ?_); (case side1 => exact (by repeat (first | exact (Kd.R_reads' HO105.out).2.2 | (with_reducible refine Kd.C_alloc ?_ _) | (with_reducible refine Kd.C_drewN ?_ _) | (with_reducible refine Kd.C_drew ?_)))); (case side2 => exact (Kd.R_reads' HO105.out).2.1); (case side3 => exact bkZ); (case side4 => exact z45f8); (case side5 => exact HC0_1.out); rintro e w' ⟨rfl, ⟨nd, rfl⟩⟩))
   go_ret
   exact ⟨z674d, zcb41⟩
 · replace c4 := Bool.eq_false_iff.mpr c4
   subst c4
   have H1 : (some false) = some r := by rw [if_neg (show ¬ (false = true) by decide)] at H; exact H
   clear H
   have H := H1
   clear H1
   obtain rfl := Option.some.inj H
   go_enter Try.func18, Try.ntmps18
   go_wp2_with (first | ((with_reducible refine gate_dst (N := 2) rfl ?_); refine box_event ?hg (N := 2) ?hd (cs := #[.int .i64 a0_0, .slice A0_1 l0_1.length c0_1]) (t := 39) ?hr ?_; (case hd => rfl); (case hg => rfl); (case hr => first | (go_simp; done) | (go_simp; rfl)); intro gb101 hg w13 hbox hb; have n0_ := Aside0.mk (below_step hbZ hb); have n1_ := Aside0.mk hbox; have n2_ := Aside0.mk ((by rw [hg]; exact (below_size hbZ) : w.heap.size ≤ gb101)); have n3_ := Aside0.mk ((by rw [hg]; exact (below_size hbZ) : w.heap.size ≤ gb101)); clear HB; have HB := n0_; have BK101 := n1_; have GW101 := n2_; have GE101 := n3_; clear n0_ n1_ n2_ n3_; clear hb hbox hg; obtain ⟨hcz14_0, hcz14_1, hfz14_0, hfz14_1⟩ := cellsZ2 BK101.out) | ((with_reducible refine gate_callee (f := 47) rfl ?_); refine goesL_ (some 6) rfl rfl Try.func47 (by kernel_rfl) rfl #[.agg #[.int .i64 a0_0, .slice A0_1 l0_1.length c0_1]] rfl zee81 ?_; (with_reducible refine (impl_GoodFilter.calls a0_0 _ _ l0_1 false _ ?side1 ?side2 A3.out).mono ?_); (case side1 => exact z45f8); (case side2 => exact HC0_1.out); rintro e w15 ⟨rfl, hb⟩; refine ⟨_, rfl, ?_⟩; have n0_ := Aside0.mk (blk_below (g := gb101) bkZ hb); have n1_ := Aside0.mk (below_step hbZ hb); clear BK101 HB; have BK101 := n0_; have HB := n1_; clear n0_ n1_; (try clear hb); (try clear hb2); (try clear hk); (try clear hi)))
   go_ret
   exact ⟨z674d, zcb41⟩

end Go.Proofs.Ythliooccgclbjaa.P

/- Two hashes of a key, the places that they name, and the bits that are set there: both programs do the same. No conditions beyond the ones named. -/
namespace Go.Proofs.Ythliooccgclbjaa.Lem
open Go.RowKit Go.Proofs.Ythliooccgclbjaa.P Go.Proofs.YthliooccgclbjaaW.PrintWords Go.Proofs.YthliooccgclbjaaW.PrintLast Go.Proofs.YthliooccgclbjaaW.PrintMore

theorem xor32 {x y : Int} (h0 : 0 ≤ x) (h1 : x < 4294967296) (g0 : 0 ≤ y) (g1 : y < 4294967296) : 0 ≤ Go.bits .xor .u32 x y ∧ Go.bits .xor .u32 x y < 4294967296 := by
  rw [u32_xor x y h0 h1 g0 g1]
  have : x.toNat ^^^ y.toNat < 2 ^ 32 := Nat.xor_lt_two_pow (by omega) (by omega)
  omega

theorem hash_l0 (s : ByteArray) (hs : s.size ≤ 100) (d : Nat) : ∀ (x i : Int), 0 ≤ i → i + d = (s.size : Int) → 0 ≤ x → x < 4294967296 →
    ∃ r, 0 ≤ r ∧ r < 4294967296 ∧ ∀ k, d < k → impl_hash.l0 k s x i = some r ∧ spec_l6Hash.l0 k s x i = some r := by
  induction d with
  | zero =>
    intro x i hi hd h0 h1
    obtain ⟨a, b⟩ := xor32 (x := x) (y := x / 32768) h0 h1 (by omega) (by omega)
    refine ⟨_, a, b, fun k hk => ?_⟩
    obtain ⟨k, rfl⟩ : ∃ m, k = m + 1 := ⟨k - 1, by omega⟩
    simp only [impl_hash.l0, spec_l6Hash.l0]
    rw [if_neg (by omega), if_neg (by omega)]
    exact ⟨rfl, rfl⟩
  | succ d ih =>
    intro x i hi hd h0 h1
    have hb := bt_range s i
    obtain ⟨a, b⟩ := xor32 (x := x) (y := bt s i % 4294967296) h0 h1 (by omega) (by omega)
    obtain ⟨r, r0, r1, hr⟩ := ih ((Go.bits .xor .u32 x (bt s i % 4294967296) * 16777619) % 4294967296) (i + 1) (by omega) (by omega) (by omega) (by omega)
    refine ⟨r, r0, r1, fun k hk => ?_⟩
    obtain ⟨k, rfl⟩ : ∃ m, k = m + 1 := ⟨k - 1, by omega⟩
    simp only [impl_hash.l0, spec_l6Hash.l0]
    rw [if_pos (by omega), if_pos hi, if_pos (by omega), if_pos hi, show wrap64 (i + 1) = i + 1 from w64 (by omega) (by omega)]
    exact hr k (by omega)

/-- The hash of a key. -/
def hsh (s : ByteArray) (n : Int) : Int := (impl_hash.f 200 s n).getD 0

theorem hash_ok {s : ByteArray} (hs : s.size ≤ 100) (n : Int) (hn : n = 0 ∨ n = 1) : 0 ≤ hsh s n ∧ hsh s n < 4294967296 ∧ ∀ k, 100 < k → impl_hash.f k s n = some (hsh s n) ∧ spec_l6Hash.f k s n = some (hsh s n) := by
  have key : ∃ r, 0 ≤ r ∧ r < 4294967296 ∧ ∀ k, 100 < k → impl_hash.f k s n = some r ∧ spec_l6Hash.f k s n = some r := by
    rcases hn with rfl | rfl
    · obtain ⟨r, r0, r1, hr⟩ := hash_l0 s hs s.size 2166136261 0 (by omega) (by omega) (by decide) (by decide)
      exact ⟨r, r0, r1, fun k hk => hr k (by omega)⟩
    · obtain ⟨r, r0, r1, hr⟩ := hash_l0 s hs s.size ((2166136261 + 40503) % 4294967296) 0 (by omega) (by omega) (by decide) (by decide)
      exact ⟨r, r0, r1, fun k hk => hr k (by omega)⟩
  obtain ⟨r, r0, r1, hr⟩ := key
  have e : hsh s n = r := by
    unfold hsh
    rw [(hr 200 (by omega)).1]
    rfl
  rw [e]
  exact ⟨r0, r1, hr⟩

/-- The places that two hashes name. -/
def pl (h d m : Int) : Int → Nat → List Int
  | _, 0 => []
  | i, n + 1 => (h + i * d) % 4294967296 % m :: pl h d m (i + 1) n
theorem pl_length (h d m : Int) : ∀ (n : Nat) (i : Int), (pl h d m i n).length = n := by
  intro n
  induction n with
  | zero => intro i; rfl
  | succ n ih => intro i; simp [pl, ih]
theorem pl_mem (h d m : Int) (hm : 0 < m) : ∀ (n : Nat) (i : Int), ∀ p ∈ pl h d m i n, 0 ≤ p ∧ p < m := by
  intro n
  induction n with
  | zero => intro i p hp; simp [pl] at hp
  | succ n ih =>
    intro i p hp
    simp only [pl, List.mem_cons] at hp
    rcases hp with rfl | hp
    · exact ⟨Int.emod_nonneg _ (by omega), Int.emod_lt_of_pos _ hm⟩
    · exact ih _ p hp

theorem implPlaces_l0 (h d : Int) (bs : List Int) (h1 : 1 ≤ bs.length) (h2 : bs.length ≤ 200) (e : Nat) : ∀ (k : Nat) (acc : List Int) (i w : Int), 0 ≤ i → i + e = w → w ≤ 8 → acc.length + e ≤ 8 → e < k →
    impl_Filter_places.l0 k h d acc w i w bs = some (acc ++ pl h d (8 * (bs.length : Int)) i e) := by
  induction e with
  | zero =>
    intro k acc i w hi he hw ha hk
    obtain ⟨k, rfl⟩ : ∃ m, k = m + 1 := ⟨k - 1, by omega⟩
    simp only [impl_Filter_places.l0, pl]
    rw [if_neg (by omega), List.append_nil]
  | succ e ih =>
    intro k acc i w hi he hw ha hk
    obtain ⟨k, rfl⟩ : ∃ m, k = m + 1 := ⟨k - 1, by omega⟩
    simp only [impl_Filter_places.l0, pl]
    have hm : wrap64 (8 * (bs.length : Int)) % 4294967296 = 8 * (bs.length : Int) := by
      rw [w64 (by omega) (by omega)]; omega
    rw [hm, if_pos (by omega), if_neg (by omega), if_pos (by omega)]
    have hi' : i % 4294967296 = i := by omega
    rw [hi', show wrap64 (i + 1) = i + 1 from w64 (by omega) (by omega)]
    have hp := Int.emod_nonneg ((h + i * d) % 4294967296) (show 8 * (bs.length : Int) ≠ 0 by omega)
    have hq := Int.emod_lt_of_pos ((h + i * d) % 4294967296) (show 0 < 8 * (bs.length : Int) by omega)
    rw [w64 (x := (h + i * d) % 4294967296 % (8 * (bs.length : Int))) (by omega) (by omega)]
    rw [ih k _ (i + 1) w (by omega) (by omega) hw (by rw [List.length_append, List.length_singleton]; omega) (by omega), List.append_assoc]
    rfl

theorem specPlaces_l0 (h d : Int) (l : Nat) (h1 : 1 ≤ l) (h2 : l ≤ 200) (e : Nat) : ∀ (k : Nat) (acc : List Int) (i w x : Int), 0 ≤ i → i + e = w → w ≤ 8 → acc.length + e ≤ 8 → e < k → x = (h + i * d) % 4294967296 →
    spec_l6Places.l0 k w (l : Int) x d acc i = some (acc ++ pl h d (8 * (l : Int)) i e) := by
  induction e with
  | zero =>
    intro k acc i w x hi he hw ha hk hx
    obtain ⟨k, rfl⟩ : ∃ m, k = m + 1 := ⟨k - 1, by omega⟩
    simp only [spec_l6Places.l0, pl]
    rw [if_neg (by omega), List.append_nil]
  | succ e ih =>
    intro k acc i w x hi he hw ha hk hx
    obtain ⟨k, rfl⟩ : ∃ m, k = m + 1 := ⟨k - 1, by omega⟩
    simp only [spec_l6Places.l0, pl]
    have hm : wrap64 (8 * (l : Int)) % 4294967296 = 8 * (l : Int) := by
      rw [w64 (by omega) (by omega)]; omega
    rw [hm, if_pos (by omega), if_neg (by omega), if_pos (by omega)]
    rw [show wrap64 (i + 1) = i + 1 from w64 (by omega) (by omega)]
    have hp := Int.emod_nonneg x (show 8 * (l : Int) ≠ 0 by omega)
    have hq := Int.emod_lt_of_pos x (show 0 < 8 * (l : Int) by omega)
    have hx0 : 0 ≤ x := by rw [hx]; exact Int.emod_nonneg _ (by decide)
    have hl : 8 * (l : Int) ≤ 1600 := by omega
    rw [Int.tmod_eq_emod_of_nonneg hx0, w64 (x := x % (8 * (l : Int))) (Int.le_trans (by decide) hp) (Int.lt_of_lt_of_le hq (Int.le_trans hl (by decide)))]
    have hn : (x + d) % 4294967296 = (h + (i + 1) * d) % 4294967296 := by
      rw [hx, Int.add_mul]; omega
    rw [ih k _ (i + 1) w _ (by omega) (by omega) hw (by rw [List.length_append, List.length_singleton]; omega) (by omega) hn, List.append_assoc, ← hx]
    rfl

/-- The places of a key. -/
def plOf (s : ByteArray) (w : Nat) (l : Nat) : List Int := pl (hsh s 0) (hsh s 1) (8 * (l : Int)) 0 w

theorem implPlaces_ok {s : ByteArray} (hs : s.size ≤ 100) {bs : List Int} (h1 : 1 ≤ bs.length) (h2 : bs.length ≤ 200) {w : Nat} (hw : w ≤ 8) {k : Nat} (hk : 100 < k) :
    impl_Filter_places.f k (w : Int) bs s = some (plOf s w bs.length) := by
  unfold impl_Filter_places.f
  rw [((hash_ok hs 0 (Or.inl rfl)).2.2 k hk).1, Option.bind_some, ((hash_ok hs 1 (Or.inr rfl)).2.2 k hk).1, Option.bind_some]
  rw [implPlaces_l0 (hsh s 0) (hsh s 1) bs h1 h2 w k ([] : List Int) 0 (w : Int) (by omega) (by omega) (by omega) (by rw [List.length_nil]; omega) (by omega)]
  rfl

theorem specPlaces_ok {s : ByteArray} (hs : s.size ≤ 100) {l : Nat} (h1 : 1 ≤ l) (h2 : l ≤ 200) {w : Nat} (hw : w ≤ 8) {k : Nat} (hk : 100 < k) :
    spec_l6Places.f k s (w : Int) (l : Int) = some (plOf s w l) := by
  have a := hash_ok hs 0 (Or.inl rfl)
  have b := hash_ok hs 1 (Or.inr rfl)
  unfold spec_l6Places.f
  rw [(a.2.2 k hk).2, Option.bind_some, (b.2.2 k hk).2, Option.bind_some]
  rw [specPlaces_l0 (hsh s 0) (hsh s 1) l h1 h2 w k ([] : List Int) 0 (w : Int) _ (by omega) (by omega) (by omega) (by rw [List.length_nil]; omega) (by omega) (by omega)]
  rfl

/-! ### bits -/
/-- A bit is set. -/
def has (bs : List Int) (p : Int) : Prop := Go.bits .and .u8 (shr .u8 (rd bs (p / 8)) (p % 8)) 1 ≠ 0
/-- A bit is made one. -/
def put (bs : List Int) (p : Int) : List Int := bs.set (p / 8).toNat (Go.bits .or .u8 (rd bs (p / 8)) (shl .u8 1 (p % 8)))
/-- Bits are made ones. -/
def puts (bs : List Int) : List Int → List Int
  | [] => bs
  | p :: ps => puts (put bs p) ps
theorem put_length (bs : List Int) (p : Int) : (put bs p).length = bs.length := by simp [put]
theorem puts_length : ∀ (ps bs : List Int), (puts bs ps).length = bs.length := by
  intro ps
  induction ps with
  | nil => intro bs; rfl
  | cons p ps ih => intro bs; simp [puts, ih, put_length]

theorem shl8 (j : Nat) (hj : j < 8) : shl .u8 1 (j : Int) = ((2 ^ j : Nat) : Int) := by
  have key : ∀ j : Fin 8, shl .u8 1 (j.val : Int) = ((2 ^ j.val : Nat) : Int) := by decide +kernel
  exact key ⟨j, hj⟩
theorem shr8 (x j : Nat) (hj : j < 8) : shr .u8 (x : Int) (j : Int) = ((x / 2 ^ j : Nat) : Int) := by
  unfold shr
  rw [Int.toNat_natCast, Nat.min_eq_left (by show j ≤ 8; omega)]
  push_cast
  rfl
theorem or8 (x j : Nat) (hx : x < 256) (hj : j < 8) : Go.bits .or .u8 (x : Int) (shl .u8 1 (j : Int)) = ((x ||| 2 ^ j : Nat) : Int) := by
  rw [shl8 j hj]
  have : 2 ^ j < 2 ^ 8 := Nat.pow_lt_pow_right (by decide) hj
  exact u8_or_nat x (2 ^ j) hx (by omega)
theorem bit8 (x j : Nat) (hx : x < 256) (hj : j < 8) : Go.bits .and .u8 (shr .u8 (x : Int) (j : Int)) 1 = ((x / 2 ^ j % 2 : Nat) : Int) := by
  rw [shr8 x j hj]
  have : x / 2 ^ j ≤ x := Nat.div_le_self _ _
  have e := u8_and_nat (x / 2 ^ j) 1 (by omega) (by decide)
  rw [Nat.and_one_is_mod] at e
  exact e
theorem bit_or : ∀ x : Fin 256, ∀ i j : Fin 8, (x.val ||| 2 ^ i.val) < 256 ∧ (x.val ||| 2 ^ i.val) / 2 ^ i.val % 2 = 1 ∧ (x.val / 2 ^ j.val % 2 = 1 → (x.val ||| 2 ^ i.val) / 2 ^ j.val % 2 = 1) := by decide +kernel

theorem has_iff {bs : List Int} (hb : Bytes bs) {p : Int} (_hp : 0 ≤ p) : has bs p ↔ (rd bs (p / 8)).toNat / 2 ^ (p % 8).toNat % 2 = 1 := by
  have h := hb.rd (p / 8)
  unfold has
  have e := bit8 (rd bs (p / 8)).toNat (p % 8).toNat (by omega) (by omega)
  rw [Int.toNat_of_nonneg h.1, Int.toNat_of_nonneg (show 0 ≤ p % 8 by omega)] at e
  rw [e]
  omega

theorem put_val {bs : List Int} (hb : Bytes bs) (p : Int) : Go.bits .or .u8 (rd bs (p / 8)) (shl .u8 1 (p % 8)) = (((rd bs (p / 8)).toNat ||| 2 ^ (p % 8).toNat : Nat) : Int) := by
  have h := hb.rd (p / 8)
  have e := or8 (rd bs (p / 8)).toNat (p % 8).toNat (by omega) (by omega)
  rw [Int.toNat_of_nonneg h.1, Int.toNat_of_nonneg (show 0 ≤ p % 8 by omega)] at e
  exact e

theorem bytes_set {bs : List Int} (hb : Bytes bs) (i : Nat) {x : Int} (h0 : 0 ≤ x) (h1 : x < 256) : Bytes (bs.set i x) := by
  intro y hy
  rcases List.mem_or_eq_of_mem_set hy with h | rfl
  · exact hb y h
  · exact ⟨h0, h1⟩

theorem put_bytes {bs : List Int} (hb : Bytes bs) (p : Int) : Bytes (put bs p) := by
  have h := hb.rd (p / 8)
  have := (bit_or ⟨(rd bs (p / 8)).toNat, by omega⟩ ⟨(p % 8).toNat, by omega⟩ 0).1
  simp only at this
  unfold put
  rw [put_val hb]
  exact bytes_set hb _ (by omega) (by omega)

theorem rd_set {bs : List Int} {q r x : Int} (hq : 0 ≤ q) (hq1 : q < (bs.length : Int)) (hr : 0 ≤ r) : rd (bs.set q.toNat x) r = if r = q then x else rd bs r := by
  unfold Go.Proofs.YthliooccgclbjaaW.PrintWords.rd
  rw [List.getD_eq_getElem?_getD, List.getElem?_set]
  by_cases h : r = q
  · subst h
    rw [if_pos rfl, if_pos (by omega), if_pos rfl]
    rfl
  · rw [if_neg (by omega), if_neg h, List.getD_eq_getElem?_getD]

theorem put_has {bs : List Int} (hb : Bytes bs) {p : Int} (hp : 0 ≤ p) (hp1 : p < 8 * (bs.length : Int)) : has (put bs p) p := by
  have h := hb.rd (p / 8)
  rw [has_iff (put_bytes hb p) hp]
  unfold put
  rw [rd_set (by omega) (by omega) (by omega), if_pos rfl, put_val hb, Int.toNat_natCast]
  exact (bit_or ⟨(rd bs (p / 8)).toNat, by omega⟩ ⟨(p % 8).toNat, by omega⟩ 0).2.1

theorem put_keep {bs : List Int} (hb : Bytes bs) {p q : Int} (hp : 0 ≤ p) (hp1 : p < 8 * (bs.length : Int)) (hq : 0 ≤ q) (h : has bs q) : has (put bs p) q := by
  have h8 := hb.rd (p / 8)
  rw [has_iff (put_bytes hb p) hq]
  rw [has_iff hb hq] at h
  unfold put
  rw [rd_set (by omega) (by omega) (by omega)]
  by_cases e : q / 8 = p / 8
  · rw [if_pos e, put_val hb, Int.toNat_natCast]
    rw [e] at h
    exact (bit_or ⟨(rd bs (p / 8)).toNat, by omega⟩ ⟨(p % 8).toNat, by omega⟩ ⟨(q % 8).toNat, by omega⟩).2.2 h
  · rw [if_neg e]
    exact h

theorem puts_bytes : ∀ (ps : List Int) {bs : List Int}, Bytes bs → Bytes (puts bs ps) := by
  intro ps
  induction ps with
  | nil => intro bs hb; exact hb
  | cons p ps ih => intro bs hb; exact ih (put_bytes hb p)
theorem puts_keep : ∀ (ps : List Int) {bs : List Int}, Bytes bs → (∀ p ∈ ps, 0 ≤ p ∧ p < 8 * (bs.length : Int)) → ∀ q, 0 ≤ q → has bs q → has (puts bs ps) q := by
  intro ps
  induction ps with
  | nil => intro bs hb _ q _ h; exact h
  | cons p ps ih =>
    intro bs hb hm q hq h
    have hp := hm p (List.mem_cons_self ..)
    exact ih (put_bytes hb p) (fun r hr => by rw [put_length]; exact hm r (List.mem_cons_of_mem _ hr)) q hq (put_keep hb hp.1 hp.2 hq h)
theorem puts_has : ∀ (ps : List Int) {bs : List Int}, Bytes bs → (∀ p ∈ ps, 0 ≤ p ∧ p < 8 * (bs.length : Int)) → ∀ q ∈ ps, has (puts bs ps) q := by
  intro ps
  induction ps with
  | nil => intro bs hb _ q hq; simp at hq
  | cons p ps ih =>
    intro bs hb hm q hq
    have hp := hm p (List.mem_cons_self ..)
    have hm' : ∀ r ∈ ps, 0 ≤ r ∧ r < 8 * ((put bs p).length : Int) := fun r hr => by rw [put_length]; exact hm r (List.mem_cons_of_mem _ hr)
    rcases List.mem_cons.1 hq with rfl | hq
    · exact puts_keep ps (put_bytes hb q) hm' q hp.1 (put_has hb hp.1 hp.2)
    · exact ih (put_bytes hb p) hm' q hq

/-- The keys' bits are made ones. -/
def putKeys (w : Nat) (bs : List Int) : List ByteArray → List Int
  | [] => bs
  | s :: ss => putKeys w (puts bs (plOf s w bs.length)) ss
theorem putKeys_length (w : Nat) : ∀ (ss : List ByteArray) (bs : List Int), (putKeys w bs ss).length = bs.length := by
  intro ss
  induction ss with
  | nil => intro bs; rfl
  | cons s ss ih => intro bs; simp [putKeys, ih, puts_length]
theorem plOf_mem (s : ByteArray) (w l : Nat) (hl : 1 ≤ l) : ∀ p ∈ plOf s w l, 0 ≤ p ∧ p < 8 * (l : Int) := pl_mem _ _ _ (by omega) w 0
theorem putKeys_bytes (w : Nat) : ∀ (ss : List ByteArray) (bs : List Int), Bytes bs → Bytes (putKeys w bs ss) := by
  intro ss
  induction ss with
  | nil => intro bs hb; exact hb
  | cons s ss ih => intro bs hb; exact ih _ (puts_bytes _ hb)
theorem putKeys_keep (w : Nat) : ∀ (ss : List ByteArray) (bs : List Int), Bytes bs → 1 ≤ bs.length → ∀ q, 0 ≤ q → has bs q → has (putKeys w bs ss) q := by
  intro ss
  induction ss with
  | nil => intro bs hb _ q _ h; exact h
  | cons s ss ih =>
    intro bs hb h1 q hq h
    exact ih _ (puts_bytes _ hb) (by rw [puts_length]; exact h1) q hq (puts_keep _ hb (plOf_mem s w _ h1) q hq h)
theorem putKeys_has (w : Nat) : ∀ (ss : List ByteArray) (bs : List Int), Bytes bs → 1 ≤ bs.length → ∀ s ∈ ss, ∀ q ∈ plOf s w bs.length, has (putKeys w bs ss) q := by
  intro ss
  induction ss with
  | nil => intro bs hb _ s hs; simp at hs
  | cons t ss ih =>
    intro bs hb h1 s hs q hq
    rcases List.mem_cons.1 hs with rfl | hs
    · exact putKeys_keep w ss _ (puts_bytes _ hb) (by rw [puts_length]; exact h1) q (plOf_mem s w _ h1 q hq).1 (puts_has _ hb (plOf_mem s w _ h1) q hq)
    · exact ih _ (puts_bytes _ hb) (by rw [puts_length]; exact h1) s hs q (by rw [puts_length]; exact hq)

end Go.Proofs.Ythliooccgclbjaa.Lem

/- Pieces of a log: what both programs put behind a log for a record, and how it is read again, from a log that is cut too. Records of bytes, of 2000 bytes at most. -/
namespace Go.Proofs.Ythliooccgclbjaa.Lem
open Go.RowKit Go.Proofs.Ythliooccgclbjaa.P Go.Proofs.YthliooccgclbjaaW.PrintWords Go.Proofs.YthliooccgclbjaaW.PrintLast Go.Proofs.YthliooccgclbjaaW.PrintMore

/-! ### the sum of checks -/
theorem crc_l1 (l : List Int) (n i : Int) (e : Nat) : ∀ (x j : Int), j + e = 8 → 0 ≤ j → 0 ≤ x → x < 4294967296 →
    ∃ y, 0 ≤ y ∧ y < 4294967296 ∧ ∀ k, impl_Crc32c.l1 (k + e + 1) x l n i j = impl_Crc32c.l0 k y l n (wrap64 (i + 1)) ∧ spec_l1Crc.l1 (k + e + 1) x j l n i = spec_l1Crc.l0 k y l n (wrap64 (i + 1)) := by
  induction e with
  | zero =>
    intro x j hj _ h0 h1
    refine ⟨x, h0, h1, fun k => ?_⟩
    have e : k + 0 + 1 = k + 1 := rfl
    rw [e]
    simp only [impl_Crc32c.l1, spec_l1Crc.l1]
    rw [if_neg (by omega), if_neg (by omega)]
    exact ⟨rfl, rfl⟩
  | succ e ih =>
    intro x j hj hj0 h0 h1
    have hj1 : wrap64 (j + 1) = j + 1 := w64 (by omega) (by omega)
    by_cases c : Go.bits .and .u32 x 1 = 1
    · obtain ⟨a, b⟩ := xor32 (x := x / 2) (y := 2197175160) (by omega) (by omega) (by decide) (by decide)
      obtain ⟨y, y0, y1, hy⟩ := ih _ (j + 1) (by omega) (by omega) a b
      refine ⟨y, y0, y1, fun k => ?_⟩
      have e : k + (e + 1) + 1 = (k + e + 1) + 1 := by omega
      rw [e]
      refine ⟨?_, ?_⟩
      · conv => lhs; unfold impl_Crc32c.l1
        rw [if_pos (by omega), if_pos c, hj1]
        exact (hy k).1
      · conv => lhs; unfold spec_l1Crc.l1
        rw [if_pos (by omega), if_pos c, hj1]
        exact (hy k).2
    · obtain ⟨y, y0, y1, hy⟩ := ih (x / 2) (j + 1) (by omega) (by omega) (by omega) (by omega)
      refine ⟨y, y0, y1, fun k => ?_⟩
      have e : k + (e + 1) + 1 = (k + e + 1) + 1 := by omega
      rw [e]
      refine ⟨?_, ?_⟩
      · conv => lhs; unfold impl_Crc32c.l1
        rw [if_pos (by omega), if_neg c, hj1]
        exact (hy k).1
      · conv => lhs; unfold spec_l1Crc.l1
        rw [if_pos (by omega), if_neg c, hj1]
        exact (hy k).2

theorem crc_l0 {l : List Int} (hl : Bytes l) (h100 : l.length ≤ 100) (d : Nat) : ∀ (x i : Int), 0 ≤ i → i + d = (l.length : Int) → 0 ≤ x → x < 4294967296 →
    ∃ r, 0 ≤ r ∧ r < 4294967296 ∧ ∀ k, 10 * d < k → impl_Crc32c.l0 k x l (l.length : Int) i = some r ∧ spec_l1Crc.l0 k x l (l.length : Int) i = some r := by
  induction d with
  | zero =>
    intro x i hi hd h0 h1
    obtain ⟨a, b⟩ := xor32 (x := 4294967295) (y := x) (by decide) (by decide) h0 h1
    refine ⟨_, a, b, fun k hk => ?_⟩
    obtain ⟨k, rfl⟩ : ∃ m, k = m + 1 := ⟨k - 1, by omega⟩
    simp only [impl_Crc32c.l0, spec_l1Crc.l0]
    rw [if_neg (by omega), if_neg (by omega)]
    refine ⟨rfl, ?_⟩
    rw [u32_xor x 4294967295 h0 h1 (by decide) (by decide), u32_xor 4294967295 x (by decide) (by decide) h0 h1, Nat.xor_comm]
  | succ d ih =>
    intro x i hi hd h0 h1
    have hb := hl.rd i
    obtain ⟨a, b⟩ := xor32 (x := x) (y := rd l i % 4294967296) h0 h1 (by omega) (by omega)
    obtain ⟨y, y0, y1, hy⟩ := crc_l1 l (l.length : Int) i 8 _ 0 (by omega) (by omega) a b
    obtain ⟨r, r0, r1, hr⟩ := ih y (i + 1) (by omega) (by omega) y0 y1
    refine ⟨r, r0, r1, fun k hk => ?_⟩
    obtain ⟨k, rfl⟩ : ∃ m, k = m + 8 + 1 + 1 := ⟨k - 10, by omega⟩
    simp only [impl_Crc32c.l0, spec_l1Crc.l0]
    rw [if_pos (by omega), if_pos hi, if_pos (by omega), if_pos (by omega), if_pos hi, if_pos (by omega)]
    rw [(hy k).1, (hy k).2, show wrap64 (i + 1) = i + 1 from w64 (by omega) (by omega)]
    exact hr k (by omega)

/-- The sum of checks. -/
def crcOf (l : List Int) : Int := (impl_Crc32c.f 2000 l).getD 0
theorem crc_ok {l : List Int} (hl : Bytes l) (h : l.length ≤ 100) : 0 ≤ crcOf l ∧ crcOf l < 4294967296 ∧ ∀ k, 1000 < k → impl_Crc32c.f k l = some (crcOf l) ∧ spec_l1Crc.f k l = some (crcOf l) := by
  obtain ⟨r, r0, r1, hr⟩ := crc_l0 hl h l.length 4294967295 0 (by omega) (by omega) (by decide) (by decide)
  have e : crcOf l = r := by
    unfold crcOf impl_Crc32c.f
    rw [(hr 2000 (by omega)).1]
    rfl
  rw [e]
  exact ⟨r0, r1, fun k hk => hr k (by omega)⟩

theorem putFixed4 {k a : Nat} (hk : 12 < k) (ha : a < 4294967296) : impl_PutFixed.f k (a : Int) 4 = some (be 4 a, true) := by
  obtain ⟨k, rfl⟩ : ∃ m, k = m + 1 := ⟨k - 1, by omega⟩
  have hgood : impl_PutFixed.j0 (k + 1) (a : Int) 4 false = some (be 4 a, true) := by
    simp only [impl_PutFixed.j0]
    rw [if_neg (by decide), if_pos (by decide), show (4 : Int).toNat = 4 from rfl, if_pos (by decide), show wrap64 ((4 : Int) - 1) = ((4 : Nat) : Int) - 1 from w64 (by omega) (by omega)]
    have := putFixed_l0 4 k a [] (by omega) (by simp)
    simpa using this
  have hs : shr .i64 (a : Int) ((8 * 4 : Nat) : Int) = ((a / 256 ^ 4 : Nat) : Int) := shr_i64 (by omega)
  have hz : a / 256 ^ 4 = 0 := Nat.div_eq_of_lt (Nat.lt_of_lt_of_le ha (by decide))
  unfold impl_PutFixed.f
  rw [if_neg (by omega), within_ok, show decide ((1 : Int) ≤ 4 ∧ (4 : Int) ≤ 8) = true from by decide]
  rw [Option.bind_some, if_pos rfl, if_pos (by decide), show wrap64 (8 * 4) = ((8 * 4 : Nat) : Int) from w64 (by omega) (by omega), if_pos (by decide), hs, hz]
  exact hgood

/-- The four bytes in front of a piece. -/
def ck (l : List Int) : List Int := be 4 (crcOf l).toNat
theorem ck_length (l : List Int) : (ck l).length = 4 := be_length _ _

theorem check_ok {kind : Int} {l : List Int} (hk0 : 0 ≤ kind) (hk1 : kind < 256) (hl : Bytes l) (h : l.length ≤ 60) {k : Nat} (hk : 1000 < k) : impl_check.f k kind l = some (ck (kind :: l)) := by
  obtain ⟨r0, r1, hr⟩ := crc_ok (l := kind :: l) (Bytes.cons hk0 hk1 hl) (by rw [List.length_cons]; omega)
  unfold impl_check.f
  rw [Option.bind_some, if_pos (by rw [List.length_singleton]; omega), List.singleton_append, (hr k hk).1, Option.bind_some, w64 (by omega) (by omega)]
  have := putFixed4 (k := k) (a := (crcOf (kind :: l)).toNat) (by omega) (by omega)
  rw [Int.toNat_of_nonneg r0] at this
  rw [this]
  rfl

/-- A piece. -/
def fr (kind : Int) (l : List Int) : List Int := ck (kind :: l) ++ ((l.length : Int) :: kind :: l)
theorem fr_length (kind : Int) (l : List Int) : (fr kind l).length = 6 + l.length := by
  unfold fr
  rw [List.length_append, ck_length, List.length_cons, List.length_cons]; omega

/-! ### where pieces lie -/
/-- The empty bytes in front of a piece. -/
def pad (p : Nat) : Nat := if 64 - p % 64 < 6 then 64 - p % 64 else 0
/-- How many bytes of a record there is room for. -/
def room (p : Nat) : Nat := 58 - (p + pad p) % 64
theorem pad_le (p : Nat) : pad p ≤ 5 := by unfold pad; split <;> omega
theorem pad_mod (p : Nat) : (p + pad p) % 64 ≤ 58 := by unfold pad; split <;> omega
theorem pad_pad (p : Nat) : pad (p + pad p) = 0 := by
  have h := pad_mod p
  generalize p + pad p = q at h
  unfold pad
  rw [if_neg (by omega)]
theorem room_le (p : Nat) : room p ≤ 58 := by unfold room; omega
theorem room_pad (p : Nat) : room (p + pad p) = room p := by unfold room; rw [pad_pad]; rfl

theorem padding_ok {x : Int} {p : Nat} (hx : x = (p : Int)) (hp : p < 4611686018427387904) : impl_padding.f x = some (pad p : Int) := by
  subst hx
  unfold impl_padding.f
  have ht : Int.tmod (p : Int) 64 = ((p % 64 : Nat) : Int) := by rw [Int.tmod_eq_emod_of_nonneg (by omega)]; omega
  rw [ht, w64 (by omega) (by omega)]
  unfold pad
  by_cases c : 64 - p % 64 < 6
  · rw [if_pos (by omega), if_pos c]; congr 1; omega
  · rw [if_neg (by omega), if_neg c]; rfl

/-- The kind of a piece: whether it is behind another one, whether it is the last one. -/
def knd : Bool → Bool → Int
  | false, true => 1
  | false, false => 2
  | true, false => 3
  | true, true => 4
theorem knd_b (b l : Bool) : 1 ≤ knd b l ∧ knd b l ≤ 4 := by cases b <;> cases l <;> decide

/-- The pieces of a record, from a place on; how many there are. -/
inductive Pc : Nat → Nat → List Int → Bool → List Int → Prop
  | last {p : Nat} {r : List Int} {b : Bool} : r.length ≤ room p → Pc 1 p r b (List.replicate (pad p) 0 ++ fr (knd b true) r)
  | more {n p : Nat} {r : List Int} {b : Bool} {o : List Int} : room p < r.length → Pc n (p + pad p + 6 + room p) (r.drop (room p)) true o → Pc (n + 1) p r b (List.replicate (pad p) 0 ++ (fr (knd b false) (r.take (room p)) ++ o))

theorem Pc.exist : ∀ (m p : Nat) (r : List Int) (b : Bool), r.length ≤ m → ∃ n o, Pc n p r b o ∧ n ≤ 2 * r.length + 2 := by
  intro m
  induction m with
  | zero =>
    intro p r b hr
    exact ⟨1, _, .last (by omega), by omega⟩
  | succ m ih =>
    intro p r b hr
    by_cases c : r.length ≤ room p
    · exact ⟨1, _, .last c, by omega⟩
    · by_cases c0 : room p = 0
      · have hp2 : room (p + pad p + 6 + room p) = 58 := by
          rw [c0]
          have h1 := pad_mod p
          have h2 : (p + pad p) % 64 = 58 := by unfold room at c0; omega
          have h3 : (p + pad p + 6 + 0) % 64 = 0 := by omega
          have h4 : pad (p + pad p + 6 + 0) = 0 := by
            generalize p + pad p + 6 + 0 = q at h3
            unfold pad
            rw [if_neg (by omega)]
          unfold room
          rw [h4, Nat.add_zero, h3]
        by_cases c5 : (r.drop (room p)).length ≤ 58
        · exact ⟨2, _, .more (by omega) (.last (by rw [hp2]; exact c5)), by omega⟩
        · rw [List.length_drop] at c5
          obtain ⟨n, o, h, hn⟩ := ih (p + pad p + 6 + room p + pad (p + pad p + 6 + room p) + 6 + room (p + pad p + 6 + room p)) ((r.drop (room p)).drop (room (p + pad p + 6 + room p))) true (by rw [hp2, List.length_drop, List.length_drop]; omega)
          refine ⟨n + 1 + 1, _, .more (by omega) (.more (by rw [hp2, List.length_drop]; omega) h), ?_⟩
          rw [hp2, List.length_drop, List.length_drop] at hn
          omega
      · obtain ⟨n, o, h, hn⟩ := ih (p + pad p + 6 + room p) (r.drop (room p)) true (by rw [List.length_drop]; omega)
        refine ⟨n + 1, _, .more (by omega) h, ?_⟩
        rw [List.length_drop] at hn
        omega

theorem Pc.len {n p : Nat} {r : List Int} {b : Bool} {o : List Int} (h : Pc n p r b o) : 6 * n ≤ o.length ∧ o.length ≤ 11 * n + r.length := by
  induction h with
  | @last p r b hr =>
    have := pad_le p
    rw [List.length_append, List.length_replicate, fr_length]
    omega
  | @more n p r b o hr h ih =>
    have := pad_le p
    rw [List.length_append, List.length_append, List.length_replicate, fr_length, List.length_take, Nat.min_eq_left (show room p ≤ r.length by omega)]
    rw [List.length_drop] at ih
    omega

theorem Pc.shift {n p : Nat} {r : List Int} {b : Bool} {o : List Int} (h : Pc n p r b o) : ∃ o', o = List.replicate (pad p) 0 ++ o' ∧ Pc n (p + pad p) r b o' := by
  cases h with
  | last hr =>
    refine ⟨_, rfl, ?_⟩
    have := Pc.last (p := p + pad p) (r := r) (b := b) (by rw [room_pad]; exact hr)
    rw [pad_pad] at this
    exact this
  | @more n _ _ _ o hr h =>
    refine ⟨_, rfl, ?_⟩
    have := Pc.more (p := p + pad p) (r := r) (b := b) (o := o) (by rw [room_pad]; exact hr) (by rw [room_pad, pad_pad]; exact h)
    rw [pad_pad, room_pad] at this
    exact this

/-! ### what both programs write -/
theorem impl_j1 {r : List Int} (hr : Bytes r) {s : Nat} (hs : s ≤ r.length) (hs2 : s ≤ 58) {k : Nat} (hk : 1000 < k) (a0 : Int) (acc : List Int) (ha : acc.length ≤ 10000000) (b w : Bool) :
    impl_logPieces.j1 (k + 1) a0 r acc w b (s : Int) 3 (w && !b) = impl_logPieces.l0 k a0 (r.drop s) (acc ++ fr (knd b w) (r.take s)) w true := by
  have ht : Bytes (r.take s) := hr.take s
  have hl : (r.take s).length = s := by rw [List.length_take]; omega
  have hsz : (s : Int) % 256 = s := by omega
  have key : ∀ kind : Int, 0 ≤ kind → kind < 256 → acc ++ fr kind (r.take s) = acc ++ ck (kind :: r.take s) ++ [(s : Int), kind] ++ r.take s := by
    intro kind _ _
    unfold fr
    rw [hl, List.append_assoc, List.append_assoc]
    rfl
  have hc : ∀ kind : Int, 0 ≤ kind → kind < 256 → impl_check.f k kind (r.take s) = some (ck (kind :: r.take s)) := fun kind h0 h1 => check_ok h0 h1 ht (by omega) hk
  simp only [impl_logPieces.j1]
  cases b <;> cases w
  · rw [if_neg (by decide), if_neg (by decide), if_pos (by omega), if_pos (by omega), Int.toNat_natCast, hc 2 (by decide) (by decide), Option.bind_some, if_pos (by rw [ck_length]; omega), Option.bind_some, Option.bind_some, if_pos (by rw [List.length_append, ck_length]; simp; omega), Option.bind_some, Option.bind_some, if_pos (by rw [List.length_append, List.length_append, ck_length, hl]; simp; omega), hsz, ← key 2 (by decide) (by decide)]
    rfl
  · rw [if_pos (by decide), if_pos (by omega), if_pos (by omega), Int.toNat_natCast, hc 1 (by decide) (by decide), Option.bind_some, if_pos (by rw [ck_length]; omega), Option.bind_some, Option.bind_some, if_pos (by rw [List.length_append, ck_length]; simp; omega), Option.bind_some, Option.bind_some, if_pos (by rw [List.length_append, List.length_append, ck_length, hl]; simp; omega), hsz, ← key 1 (by decide) (by decide)]
    rfl
  · rw [if_neg (by decide), if_pos (by decide), if_neg (by decide), if_pos (by omega), if_pos (by omega), Int.toNat_natCast, hc 3 (by decide) (by decide), Option.bind_some, if_pos (by rw [ck_length]; omega), Option.bind_some, Option.bind_some, if_pos (by rw [List.length_append, ck_length]; simp; omega), Option.bind_some, Option.bind_some, if_pos (by rw [List.length_append, List.length_append, ck_length, hl]; simp; omega), hsz, ← key 3 (by decide) (by decide)]
    rfl
  · rw [if_neg (by decide), if_pos (by decide), if_pos (by decide), if_pos (by omega), if_pos (by omega), Int.toNat_natCast, hc 4 (by decide) (by decide), Option.bind_some, if_pos (by rw [ck_length]; omega), Option.bind_some, Option.bind_some, if_pos (by rw [List.length_append, ck_length]; simp; omega), Option.bind_some, Option.bind_some, if_pos (by rw [List.length_append, List.length_append, ck_length, hl]; simp; omega), hsz, ← key 4 (by decide) (by decide)]
    rfl

theorem mn_nat (a b : Nat) : mn (a : Int) (b : Int) = ((min a b : Nat) : Int) := by
  unfold mn
  by_cases h : (b : Int) < (a : Int)
  · rw [if_pos h, Nat.min_eq_right (by omega)]
  · rw [if_neg h, Nat.min_eq_left (by omega)]

theorem room_int {a0 : Int} {acc : List Int} {p : Nat} (hp : a0 + (acc.length : Int) = (p : Int)) (hpb : p < 1000000000) (h0 : 0 ≤ a0) :
    wrap64 ((wrap64 (64 - (Int.tmod (wrap64 (a0 + ((acc ++ List.replicate (pad p) 0).length : Int))) 64))) - 6) = (room p : Int) := by
  have h1 := pad_le p
  have h2 := pad_mod p
  have e : a0 + ((acc ++ List.replicate (pad p) 0).length : Int) = ((p + pad p : Nat) : Int) := by
    rw [List.length_append, List.length_replicate]; omega
  rw [e, w64 (x := ((p + pad p : Nat) : Int)) (by omega) (by omega), Int.tmod_eq_emod_of_nonneg (by omega)]
  have e2 : ((p + pad p : Nat) : Int) % 64 = (((p + pad p) % 64 : Nat) : Int) := by omega
  rw [e2, w64 (x := 64 - (((p + pad p) % 64 : Nat) : Int)) (by omega) (by omega), w64 (by omega) (by omega)]
  unfold room
  omega

theorem impl_step {r : List Int} (hr : Bytes r) (hrl : r.length ≤ 2001) {k : Nat} (hk : 1000 < k) {a0 : Int} (h0 : 0 ≤ a0) {acc : List Int} {p : Nat} (hp : a0 + (acc.length : Int) = (p : Int)) (hpb : p < 9000000) (b : Bool) :
    impl_logPieces.l0 (k + 1 + 1) a0 r acc false b = impl_logPieces.l0 k a0 (r.drop (min (room p) r.length)) ((acc ++ List.replicate (pad p) 0) ++ fr (knd b (decide (r.length ≤ room p))) (r.take (min (room p) r.length))) (decide (r.length ≤ room p)) true := by
  have h1 := pad_le p
  have h2 := room_le p
  have hw : (((min (room p) r.length : Nat) : Int) == (r.length : Int)) = decide (r.length ≤ room p) := by
    by_cases h : r.length ≤ room p
    · rw [Nat.min_eq_right h, decide_eq_true h]; exact beq_self_eq_true _
    · rw [decide_eq_false h]; exact beq_eq_false_iff_ne.2 (by omega)
  have hj := impl_j1 hr (s := min (room p) r.length) (by omega) (by omega) hk a0 (acc ++ List.replicate (pad p) 0) (by rw [List.length_append, List.length_replicate]; omega) b (decide (r.length ≤ room p))
  rw [← hj]
  conv => lhs; unfold impl_logPieces.l0
  rw [if_neg (by decide), padding_ok (p := p) (by rw [w64 (by omega) (by omega)]; exact hp) (by omega), Option.bind_some, if_pos (by omega), Int.toNat_natCast, if_pos (by omega), Option.bind_some, room_int hp (by omega) h0, mn_nat, hw]
  cases b
  · rw [if_neg (by decide), Bool.not_false, Bool.and_true]
  · rw [if_pos rfl, Bool.not_true, Bool.and_false]

theorem impl_pc {n p : Nat} {r : List Int} {b : Bool} {o : List Int} (h : Pc n p r b o) : ∀ (k : Nat) (a0 : Int) (acc : List Int), Bytes r → r.length ≤ 2001 → 0 ≤ a0 → a0 + (acc.length : Int) = (p : Int) → p + 70 * n < 9000000 → 1100 + 2 * n < k →
    impl_logPieces.l0 k a0 r acc false b = some (acc ++ o) := by
  induction h with
  | @last p r b hr =>
    intro k a0 acc hb hl h0 hp hpb hk
    obtain ⟨k, rfl⟩ : ∃ m, k = m + 1 + 1 + 1 := ⟨k - 3, by omega⟩
    rw [impl_step hb hl (by omega) h0 hp (by omega), Nat.min_eq_right hr, decide_eq_true hr, List.take_length]
    simp only [impl_logPieces.l0]
    rw [if_pos trivial, List.append_assoc]
  | @more n p r b o hr h ih =>
    intro k a0 acc hb hl h0 hp hpb hk
    obtain ⟨k, rfl⟩ : ∃ m, k = m + 1 + 1 := ⟨k - 2, by omega⟩
    have h1 := pad_le p
    have h2 := room_le p
    rw [impl_step hb hl (by omega) h0 hp (by omega), Nat.min_eq_left (show room p ≤ r.length by omega), decide_eq_false (show ¬ r.length ≤ room p by omega)]
    rw [ih k a0 _ (hb.drop _) (by rw [List.length_drop]; omega) h0 (by rw [List.length_append, List.length_append, List.length_replicate, fr_length, List.length_take, Nat.min_eq_left (show room p ≤ r.length by omega)]; omega) (by omega) (by omega)]
    simp only [List.append_assoc]

theorem impl_pieces {n p : Nat} {r o : List Int} (h : Pc n p r false o) {k : Nat} (hb : Bytes r) (hl : r.length ≤ 2001) (hp : p + 70 * n < 8000000) (hk : 1100 + 2 * n < k) : impl_logPieces.f k (p : Int) r = some o := by
  have h1 := pad_le p
  obtain ⟨o', rfl, h'⟩ := h.shift
  unfold impl_logPieces.f
  rw [padding_ok (p := p) rfl (by omega), Option.bind_some, if_pos (by omega), Int.toNat_natCast, if_pos (by omega)]
  exact impl_pc h' k (p : Int) _ hb hl (by omega) (by rw [List.length_replicate]; omega) (by omega) hk

theorem spec_j3 {r : List Int} (hr : Bytes r) {s : Nat} (hs : s ≤ r.length) (hs2 : s ≤ 58) {k : Nat} (hk : 1000 < k) (a0 : Int) (acc : List Int) (ha : acc.length ≤ 10000000) (w : Bool) (kind : Int) (k0 : 0 ≤ kind) (k1 : kind < 256) :
    spec_l3Pieces.j3 (k + 1) a0 r acc (s : Int) w kind = if w = true then some (acc ++ fr kind (r.take s)) else spec_l3Pieces.l0 k a0 (r.drop s) (acc ++ fr kind (r.take s)) false := by
  have ht : Bytes (r.take s) := hr.take s
  have hl : (r.take s).length = s := by rw [List.length_take]; omega
  have hsz : (s : Int) % 256 = s := by omega
  have hkz : kind % 256 = kind := by omega
  obtain ⟨r0, r1, hc⟩ := crc_ok (l := kind :: r.take s) (Bytes.cons k0 k1 ht) (by rw [List.length_cons]; omega)
  have hf : spec_l1Fixed.f k (crcOf (kind :: r.take s)) 4 = some (ck (kind :: r.take s)) := by
    have := l1Fixed_ok (k := k) (n := (crcOf (kind :: r.take s)).toNat) (m := 4) (by omega) (by omega)
    rw [Int.toNat_of_nonneg r0] at this
    exact this
  have key : acc ++ ck (kind :: r.take s) ++ [(s : Int)] ++ (kind :: r.take s) = acc ++ fr kind (r.take s) := by
    unfold fr
    rw [hl, List.append_assoc, List.append_assoc]
    rfl
  simp only [spec_l3Pieces.j3]
  rw [Option.bind_some, if_pos (by omega), if_pos (by omega), Int.toNat_natCast, Option.bind_some, if_pos (by rw [List.length_singleton, hl]; omega), Option.bind_some, hkz, List.singleton_append, (hc k hk).2, Option.bind_some, w64 (x := crcOf (kind :: r.take s)) (by omega) (by omega), hf, Option.bind_some, if_pos (by rw [ck_length]; omega), Option.bind_some, if_pos (by rw [List.length_append, ck_length]; omega), Option.bind_some, if_pos (by rw [List.length_append, List.length_append, ck_length, List.length_singleton, List.length_cons, hl]; omega), Option.bind_some, hsz, key]

theorem spec_step {r : List Int} (hr : Bytes r) (hrl : r.length ≤ 2001) {k : Nat} (hk : 1000 < k) {a0 : Int} (h0 : 0 ≤ a0) {acc : List Int} {p : Nat} (hp : a0 + (acc.length : Int) = (p : Int)) (hpb : p < 9000000) (hpad : pad p = 0) (b : Bool) :
    spec_l3Pieces.l0 (k + 1 + 1 + 1 + 1) a0 r acc (!b) = if decide (r.length ≤ room p) = true then some (acc ++ fr (knd b (decide (r.length ≤ room p))) (r.take (min (room p) r.length))) else spec_l3Pieces.l0 k a0 (r.drop (min (room p) r.length)) (acc ++ fr (knd b (decide (r.length ≤ room p))) (r.take (min (room p) r.length))) false := by
  have h2 := room_le p
  have hw : (((min (room p) r.length : Nat) : Int) == (r.length : Int)) = decide (r.length ≤ room p) := by
    by_cases h : r.length ≤ room p
    · rw [Nat.min_eq_right h, decide_eq_true h]; exact beq_self_eq_true _
    · rw [decide_eq_false h]; exact beq_eq_false_iff_ne.2 (by omega)
  have hj := fun kind k0 k1 => spec_j3 hr (s := min (room p) r.length) (by omega) (by omega) hk a0 acc (by omega) (decide (r.length ≤ room p)) kind k0 k1
  have j1 : spec_l3Pieces.j1 (k + 1 + 1 + 1) a0 r acc (!b) ((min (room p) r.length : Nat) : Int) = if decide (r.length ≤ room p) = true then some (acc ++ fr (knd b (decide (r.length ≤ room p))) (r.take (min (room p) r.length))) else spec_l3Pieces.l0 k a0 (r.drop (min (room p) r.length)) (acc ++ fr (knd b (decide (r.length ≤ room p))) (r.take (min (room p) r.length))) false := by
    conv => lhs; unfold spec_l3Pieces.j1
    rw [hw]
    generalize decide (r.length ≤ room p) = w at hj
    cases b <;> cases w
    · rw [Bool.not_false, if_pos rfl]
      conv => lhs; unfold spec_l3Pieces.j2
      rw [if_neg (by decide), if_pos rfl]
      exact hj 2 (by decide) (by decide)
    · rw [Bool.not_false, if_pos rfl]
      conv => lhs; unfold spec_l3Pieces.j2
      rw [if_pos rfl]
      exact hj 1 (by decide) (by decide)
    · rw [Bool.not_true, if_neg (by decide)]
      conv => lhs; unfold spec_l3Pieces.j2
      rw [if_neg (by decide), if_neg (by decide), if_neg (by decide)]
      exact hj 3 (by decide) (by decide)
    · rw [Bool.not_true, if_neg (by decide)]
      conv => lhs; unfold spec_l3Pieces.j2
      rw [if_neg (by decide), if_neg (by decide), if_pos rfl]
      exact hj 4 (by decide) (by decide)
  rw [← j1]
  have hm := pad_mod p
  rw [hpad, Nat.add_zero] at hm
  have e1 : wrap64 (64 - Int.tmod (wrap64 (a0 + (acc.length : Int))) 64) = 64 - ((p % 64 : Nat) : Int) := by
    rw [hp, w64 (x := (p : Int)) (by omega) (by omega), Int.tmod_eq_emod_of_nonneg (by omega), w64 (by omega) (by omega)]
    omega
  have e2 : wrap64 (64 - ((p % 64 : Nat) : Int) - 6) = (room p : Int) := by
    rw [w64 (by omega) (by omega)]
    unfold room
    rw [hpad]
    omega
  conv => lhs; unfold spec_l3Pieces.l0
  rw [e1, if_neg (by omega), e2]
  by_cases c : (room p : Int) > (r.length : Int)
  · rw [if_pos c, Nat.min_eq_right (by omega)]
  · rw [if_neg c, Nat.min_eq_left (by omega)]

theorem spec_pad {r : List Int} {k : Nat} {a0 : Int} {acc : List Int} {p : Nat} (hp : a0 + (acc.length : Int) = (p : Int)) (hpb : p < 9000000) (h0 : 0 ≤ a0) (hpad : pad p ≠ 0) (b : Bool) :
    spec_l3Pieces.l0 (k + 1) a0 r acc b = spec_l3Pieces.l0 k a0 r (acc ++ List.replicate (pad p) 0) b := by
  have h1 := pad_le p
  have hpv : pad p = 64 - p % 64 := by unfold pad at hpad ⊢; split at hpad <;> split <;> omega
  have hc : 64 - p % 64 < 6 := by unfold pad at hpad; split at hpad <;> omega
  have e1 : wrap64 (64 - Int.tmod (wrap64 (a0 + (acc.length : Int))) 64) = ((pad p : Nat) : Int) := by
    rw [hp, w64 (x := (p : Int)) (by omega) (by omega), Int.tmod_eq_emod_of_nonneg (by omega), w64 (by omega) (by omega)]
    omega
  conv => lhs; unfold spec_l3Pieces.l0
  rw [e1, if_pos (by omega), if_pos (by omega), Int.toNat_natCast, if_pos (by omega)]

theorem spec_pc {n p : Nat} {r : List Int} {b : Bool} {o : List Int} (h : Pc n p r b o) : ∀ (k : Nat) (a0 : Int) (acc : List Int), Bytes r → r.length ≤ 2001 → 0 ≤ a0 → a0 + (acc.length : Int) = (p : Int) → p + 70 * n < 9000000 → 1100 + 5 * n < k →
    spec_l3Pieces.l0 k a0 r acc (!b) = some (acc ++ o) := by
  induction h with
  | @last p r b hr =>
    intro k a0 acc hb hl h0 hp hpb hk
    have h1 := pad_le p
    have main : ∀ (k : Nat) (acc : List Int), 1004 < k → a0 + (acc.length : Int) = ((p + pad p : Nat) : Int) → spec_l3Pieces.l0 k a0 r acc (!b) = some (acc ++ fr (knd b true) r) := by
      intro k acc hk hp
      obtain ⟨k, rfl⟩ : ∃ m, k = m + 1 + 1 + 1 + 1 := ⟨k - 4, by omega⟩
      rw [spec_step hb hl (by omega) h0 hp (by omega) (pad_pad p), room_pad, decide_eq_true hr, if_pos rfl, Nat.min_eq_right hr, List.take_length]
    by_cases c : pad p = 0
    · rw [main k acc (by omega) (by rw [c]; exact hp), c]
      rfl
    · obtain ⟨k, rfl⟩ : ∃ m, k = m + 1 := ⟨k - 1, by omega⟩
      rw [spec_pad hp (by omega) h0 c, main k _ (by omega) (by rw [List.length_append, List.length_replicate]; omega), List.append_assoc]
  | @more n p r b o hr h ih =>
    intro k a0 acc hb hl h0 hp hpb hk
    have h1 := pad_le p
    have h2 := room_le p
    have main : ∀ (k : Nat) (acc : List Int), 1104 + 5 * n < k → a0 + (acc.length : Int) = ((p + pad p : Nat) : Int) → spec_l3Pieces.l0 k a0 r acc (!b) = some (acc ++ (fr (knd b false) (r.take (room p)) ++ o)) := by
      intro k acc hk hp
      obtain ⟨k, rfl⟩ : ∃ m, k = m + 1 + 1 + 1 + 1 := ⟨k - 4, by omega⟩
      rw [spec_step hb hl (by omega) h0 hp (by omega) (pad_pad p), room_pad, decide_eq_false (show ¬ r.length ≤ room p by omega), if_neg (by decide), Nat.min_eq_left (show room p ≤ r.length by omega)]
      have := ih k a0 (acc ++ fr (knd b false) (r.take (room p))) (hb.drop _) (by rw [List.length_drop]; omega) h0 (by rw [List.length_append, fr_length, List.length_take, Nat.min_eq_left (show room p ≤ r.length by omega)]; omega) (by omega) (by omega)
      rw [Bool.not_true] at this
      rw [this, List.append_assoc]
    by_cases c : pad p = 0
    · rw [main k acc (by omega) (by rw [c]; exact hp), c]
      rfl
    · obtain ⟨k, rfl⟩ : ∃ m, k = m + 1 := ⟨k - 1, by omega⟩
      rw [spec_pad hp (by omega) h0 c, main k _ (by omega) (by rw [List.length_append, List.length_replicate]; omega), List.append_assoc]

theorem spec_pieces {n p : Nat} {r o : List Int} (h : Pc n p r false o) {k : Nat} (hb : Bytes r) (hl : r.length ≤ 2001) (hp : p + 70 * n < 8000000) (hk : 1100 + 5 * n < k) : spec_l3Pieces.f k (p : Int) r = some o := by
  unfold spec_l3Pieces.f
  have := spec_pc h k (p : Int) [] hb hl (by omega) (by rw [List.length_nil]; omega) (by omega) hk
  rw [Bool.not_false] at this
  exact this

end Go.Proofs.Ythliooccgclbjaa.Lem

/- Reading a log that may be cut: the records whose pieces are whole come back, and no others. Records of bytes. -/
namespace Go.Proofs.Ythliooccgclbjaa.Lem
open Go.RowKit Go.Proofs.Ythliooccgclbjaa.P Go.Proofs.YthliooccgclbjaaW.PrintWords Go.Proofs.YthliooccgclbjaaW.PrintLast Go.Proofs.YthliooccgclbjaaW.PrintMore 

/-! ### reading a piece -/
theorem rd_at {l : List Int} {i j : Nat} {t : List Int} (h : l.drop i = t) : rd l ((i + j : Nat) : Int) = t.getD j 0 := by
  unfold Go.Proofs.YthliooccgclbjaaW.PrintWords.rd
  rw [Int.toNat_natCast, List.getD_eq_getElem?_getD, List.getD_eq_getElem?_getD, ← h, List.getElem?_drop]

theorem equal_l0 (a b : List Int) (hab : a = b) (hl : a.length < 1000000) (d : Nat) : ∀ (k i : Nat), i + d = a.length → d < k → slices_Equal_byte_byte.l0 k a b (a.length : Int) (i : Int) = some true := by
  subst hab
  induction d with
  | zero =>
    intro k i hi hk
    obtain ⟨k, rfl⟩ : ∃ m, k = m + 1 := ⟨k - 1, by omega⟩
    simp only [slices_Equal_byte_byte.l0]
    rw [if_neg (by omega)]
  | succ d ih =>
    intro k i hi hk
    obtain ⟨k, rfl⟩ : ∃ m, k = m + 1 := ⟨k - 1, by omega⟩
    simp only [slices_Equal_byte_byte.l0]
    rw [if_pos (by omega), if_pos (by omega), if_pos (by omega), if_pos (by omega), if_pos trivial, show wrap64 ((i : Int) + 1) = ((i + 1 : Nat) : Int) from by rw [w64 (by omega) (by omega)]; omega]
    exact ih k (i + 1) (by omega) (by omega)
theorem equal_ok (a : List Int) (hl : a.length < 1000000) {k : Nat} (hk : a.length < k) : slices_Equal_byte_byte.f k a a = some true := by
  unfold slices_Equal_byte_byte.f
  rw [if_pos rfl]
  exact equal_l0 a a rfl hl a.length k 0 (by omega) hk

theorem piece_short {X : List Int} (hX : X.length ≤ 1000000) {p : Nat} (hp : p ≤ 1000000) (h : X.length < p + 6) (k : Nat) : impl_piece.f k X (p : Int) = some (0, ([] : List Int), false) := by
  unfold impl_piece.f
  rw [w64 (x := (X.length : Int) - (p : Int)) (by omega) (by omega), if_pos (by omega)]

/-- The head of a piece is read; what follows is left open. -/
theorem piece_head {X : List Int} (hX : X.length ≤ 1000000) {p : Nat} (h : p + 6 ≤ X.length) {kind : Int} (k1 : 1 ≤ kind) (k4 : kind ≤ 4) {s : Nat} (hs : p % 64 + 6 + s ≤ 64)
    (r4 : rd X ((p + 4 : Nat) : Int) = (s : Int)) (r5 : rd X ((p + 5 : Nat) : Int) = kind) (k : Nat) :
    impl_piece.f k X (p : Int) = if X.length < p + 6 + s then impl_piece.j0 k X (p : Int) kind ((p + 6 + s : Nat) : Int) true else impl_piece.j0 k X (p : Int) kind ((p + 6 + s : Nat) : Int) false := by
  unfold impl_piece.f
  have e4 : wrap64 ((p : Int) + 4) = ((p + 4 : Nat) : Int) := by rw [w64 (by omega) (by omega)]; omega
  have e5 : wrap64 ((p : Int) + 5) = ((p + 5 : Nat) : Int) := by rw [w64 (by omega) (by omega)]; omega
  have e6 : wrap64 ((p : Int) + 6) = ((p + 6 : Nat) : Int) := by rw [w64 (by omega) (by omega)]; omega
  have em : Int.tmod (p : Int) 64 = ((p % 64 : Nat) : Int) := by rw [Int.tmod_eq_emod_of_nonneg (by omega)]; omega
  rw [w64 (x := (X.length : Int) - (p : Int)) (by omega) (by omega), if_neg (by omega), e4, e5, e6, em, r4, r5, if_pos (by omega), if_pos (by omega), if_pos (by omega), if_pos (by omega)]
  rw [w64 (x := (s : Int)) (by omega) (by omega), w64 (x := ((p % 64 : Nat) : Int) + 6) (by omega) (by omega), w64 (x := ((p % 64 : Nat) : Int) + 6 + (s : Int)) (by omega) (by omega), if_neg (by omega)]
  rw [show wrap64 (((p + 6 : Nat) : Int) + (s : Int)) = ((p + 6 + s : Nat) : Int) from by rw [w64 (by omega) (by omega)]; omega]
  by_cases c : X.length < p + 6 + s
  · rw [if_pos (by omega), if_pos c]
  · rw [if_neg (by omega), if_neg c, if_neg (by omega), show decide (kind > 4) = false from decide_eq_false (by omega)]

theorem piece_cut {X : List Int} (hX : X.length ≤ 1000000) {p : Nat} (h : p + 6 ≤ X.length) {kind : Int} (k1 : 1 ≤ kind) (k4 : kind ≤ 4) {s : Nat} (hs : p % 64 + 6 + s ≤ 64)
    (r4 : rd X ((p + 4 : Nat) : Int) = (s : Int)) (r5 : rd X ((p + 5 : Nat) : Int) = kind) (hc : X.length < p + 6 + s) (k : Nat) : impl_piece.f (k + 1) X (p : Int) = some (0, ([] : List Int), false) := by
  rw [piece_head hX h k1 k4 hs r4 r5, if_pos hc]
  simp only [impl_piece.j0]
  rw [if_pos trivial]

theorem fr_get4 (kind : Int) (d post : List Int) : (fr kind d ++ post).getD 4 0 = (d.length : Int) := by
  unfold fr
  rw [List.append_assoc, List.getD_eq_getElem?_getD, List.getElem?_append_right (Nat.le_of_eq (ck_length _)), ck_length]
  rfl
theorem fr_get5 (kind : Int) (d post : List Int) : (fr kind d ++ post).getD 5 0 = kind := by
  unfold fr
  rw [List.append_assoc, List.getD_eq_getElem?_getD, List.getElem?_append_right (by rw [ck_length]; decide), ck_length]
  rfl
theorem fr_drop6 (kind : Int) (d post : List Int) : (fr kind d ++ post).drop 6 = d ++ post := by
  have h : (6 : Nat) = (ck (kind :: d)).length + 2 := by rw [ck_length]
  unfold fr
  rw [List.append_assoc, h, ← List.drop_drop, List.drop_left]
  rfl
theorem fr_take4 (kind : Int) (d post : List Int) : (fr kind d ++ post).take 4 = ck (kind :: d) := by
  unfold fr
  rw [List.append_assoc]
  exact List.take_left' (ck_length _)
theorem wadd {p n : Nat} (h : p + n < 4611686018427387904) : wrap64 ((p : Int) + (n : Int)) = ((p + n : Nat) : Int) := by
  rw [w64 (by omega) (by omega)]; omega

theorem piece_j0 {X : List Int} {p : Nat} {kind : Int} (k1 : 1 ≤ kind) (k4 : kind ≤ 4) {d : List Int} (hd : Bytes d) (hs : d.length ≤ 58) (hp : p + 6 + d.length ≤ X.length) (hX : X.length ≤ 1000000)
    (c1 : (X.take (p + 6 + d.length)).drop (p + 6) = d) (c2 : (X.take (p + 4)).drop p = ck (kind :: d)) {k : Nat} (hk : 1000 < k) : impl_piece.j0 (k + 1) X (p : Int) kind ((p + 6 + d.length : Nat) : Int) false = some (kind, d, true) := by
  have e4 : wrap64 ((p : Int) + 4) = ((p + 4 : Nat) : Int) := wadd (n := 4) (by omega)
  have e6 : wrap64 ((p : Int) + 6) = ((p + 6 : Nat) : Int) := wadd (n := 6) (by omega)
  have g1 : (0 : Int) ≤ ((p + 6 : Nat) : Int) := by omega
  have g2 : ((p + 6 : Nat) : Int) ≤ ((p + 6 + d.length : Nat) : Int) := by omega
  have g3 : ((p + 6 + d.length : Nat) : Int) ≤ (X.length : Int) := by omega
  have g4 : (0 : Int) ≤ (p : Int) := by omega
  have g5 : (p : Int) ≤ ((p + 4 : Nat) : Int) := by omega
  have g6 : ((p + 4 : Nat) : Int) ≤ (X.length : Int) := by omega
  have hc : impl_check.f k kind d = some (ck (kind :: d)) := check_ok (by omega) (by omega) hd (by omega) hk
  have he : slices_Equal_byte_byte.f k (ck (kind :: d)) (ck (kind :: d)) = some true := equal_ok _ (by rw [ck_length]; omega) (by rw [ck_length]; omega)
  clear hs hp hX
  rw [impl_piece.j0, if_neg (by decide), e6, if_pos g1, if_pos g2, if_pos g3, Int.toNat_natCast, Int.toNat_natCast, c1, Option.bind_some, hc, Option.bind_some, e4, if_pos g4, if_pos g5, if_pos g6, Int.toNat_natCast, Int.toNat_natCast, c2, he, Option.bind_some]

theorem piece_whole {X : List Int} (hX : X.length ≤ 1000000) {p : Nat} {kind : Int} (k1 : 1 ≤ kind) (k4 : kind ≤ 4) {d post : List Int} (hd : Bytes d) (hs : p % 64 + 6 + d.length ≤ 64)
    (hx : X.drop p = fr kind d ++ post) {k : Nat} (hk : 1001 < k) : impl_piece.f k X (p : Int) = some (kind, d, true) := by
  have hl := congrArg List.length hx
  rw [List.length_drop, List.length_append, fr_length] at hl
  have hp : p + 6 + d.length ≤ X.length := by omega
  have r4 : rd X ((p + 4 : Nat) : Int) = (d.length : Int) := by rw [rd_at hx, fr_get4]
  have r5 : rd X ((p + 5 : Nat) : Int) = kind := by rw [rd_at hx, fr_get5]
  have c1 : (X.take (p + 6 + d.length)).drop (p + 6) = d := by
    rw [List.drop_take, show p + 6 + d.length - (p + 6) = d.length by omega, ← List.drop_drop, hx, fr_drop6, List.take_left]
  have c2 : (X.take (p + 4)).drop p = ck (kind :: d) := by
    rw [List.drop_take, show p + 4 - p = 4 by omega, hx, fr_take4]
  rw [piece_head hX (by omega) k1 k4 hs r4 r5, if_neg (by omega)]
  obtain ⟨k, rfl⟩ : ∃ m, k = m + 1 := ⟨k - 1, by omega⟩
  exact piece_j0 k1 k4 hd (by omega) hp hX c1 c2 (by omega)

/-! ### reading records -/
theorem index_zeros (n : Nat) (hn : n ≤ 100) (d : Nat) : ∀ (k i : Nat), i + d = n → d < k → slices_IndexFunc_byte_byte_with_impl_readLog_1.l0 k (List.replicate n 0) ((List.replicate n (0 : Int)).length : Int) (i : Int) = some (-1) := by
  induction d with
  | zero =>
    intro k i hi hk
    obtain ⟨k, rfl⟩ : ∃ m, k = m + 1 := ⟨k - 1, by omega⟩
    simp only [slices_IndexFunc_byte_byte_with_impl_readLog_1.l0]
    rw [List.length_replicate, if_neg (by omega)]
  | succ d ih =>
    intro k i hi hk
    obtain ⟨k, rfl⟩ : ∃ m, k = m + 1 := ⟨k - 1, by omega⟩
    have hr : rd (List.replicate n (0 : Int)) (i : Int) = 0 := by
      unfold Go.Proofs.YthliooccgclbjaaW.PrintWords.rd
      rw [Int.toNat_natCast, List.getD_eq_getElem?_getD, List.getElem?_replicate]
      split <;> rfl
    have ht : impl_readLog_1.f 0 = some false := by
      unfold impl_readLog_1.f
      rfl
    have hnext := ih k (i + 1) (by omega) (by omega)
    simp only [slices_IndexFunc_byte_byte_with_impl_readLog_1.l0]
    rw [hr, ht, if_pos (by rw [List.length_replicate]; omega), if_pos (by omega), if_pos (by rw [List.length_replicate]; omega), Option.bind_some, if_neg (by decide), show wrap64 ((i : Int) + 1) = ((i + 1 : Nat) : Int) from by rw [w64 (by omega) (by omega)]; omega]
    exact hnext
theorem contains_zeros (n : Nat) (hn : n ≤ 100) {k : Nat} (hk : n < k) : slices_ContainsFunc_byte_byte_with_impl_readLog_1.f k (List.replicate n 0) = some false := by
  unfold slices_ContainsFunc_byte_byte_with_impl_readLog_1.f slices_IndexFunc_byte_byte_with_impl_readLog_1.f
  have := index_zeros n hn n k 0 (by omega) hk
  rw [show ((0 : Nat) : Int) = 0 from rfl] at this
  rw [this]
  rfl

/-- What is read at a place where the empty bytes are whole. -/
theorem read_pad {X : List Int} (hX : X.length ≤ 20000) {p : Nat} (hp : p + pad p ≤ X.length) {t : List Int} (hx : X.drop p = List.replicate (pad p) 0 ++ t) {k : Nat} (hk : 100 < k) (accs : List (List Int)) (wh : Int) (b : Bool) (rec : List Int) :
    impl_readLog.l0 (k + 1) X accs wh b rec (p : Int) = impl_readLog.j1 k X accs wh b rec (p : Int) (pad p : Int) false := by
  have h1 := pad_le p
  have g1 : ¬ ((p + pad p : Nat) : Int) > (X.length : Int) := by omega
  have g2 : (0 : Int) ≤ (p : Int) := by omega
  have g3 : (p : Int) ≤ ((p + pad p : Nat) : Int) := by omega
  have g4 : ((p + pad p : Nat) : Int) ≤ (X.length : Int) := by omega
  have e1 : wrap64 ((p : Int) + (pad p : Int)) = ((p + pad p : Nat) : Int) := by rw [w64 (by omega) (by omega)]; omega
  have e2 : (X.take (p + pad p)).drop p = List.replicate (pad p) 0 := by
    rw [List.drop_take, show p + pad p - p = pad p by omega, hx]
    exact List.take_left' List.length_replicate
  conv => lhs; unfold impl_readLog.l0
  rw [padding_ok (p := p) rfl (by omega), Option.bind_some, e1, if_neg g1, if_pos g2, if_pos g3, if_pos g4, Int.toNat_natCast, Int.toNat_natCast, e2, contains_zeros _ (by omega) (by omega), Option.bind_some]

/-- Nothing more is read at a place where not even the head of a piece is left. -/
theorem read_stop {X : List Int} (hX : X.length ≤ 20000) {p : Nat} (h1 : p ≤ X.length) (h2 : X.length < p + pad p + 6) (hx : p + pad p ≤ X.length → ∃ t, X.drop p = List.replicate (pad p) 0 ++ t) {k : Nat} (hk : 1100 < k) (accs : List (List Int)) (wh : Int) (b : Bool) (rec : List Int) :
    impl_readLog.l0 (k + 1 + 1 + 1) X accs wh b rec (p : Int) = some (accs, wh) := by
  have h3 := pad_le p
  by_cases c : p + pad p ≤ X.length
  · obtain ⟨t, ht⟩ := hx c
    rw [read_pad hX c ht (by omega)]
    conv => lhs; unfold impl_readLog.j1
    rw [if_neg (by decide), show wrap64 ((p : Int) + (pad p : Int)) = ((p + pad p : Nat) : Int) from by rw [w64 (by omega) (by omega)]; omega]
    rw [piece_short (by omega) (by omega) h2, Option.bind_some]
    try dsimp only
    rw [if_neg (by decide)]
    conv => lhs; unfold impl_readLog.j2
    rw [if_pos rfl]
  · have g1 : ((p + pad p : Nat) : Int) > (X.length : Int) := by omega
    have e1 : wrap64 ((p : Int) + (pad p : Int)) = ((p + pad p : Nat) : Int) := by rw [w64 (by omega) (by omega)]; omega
    conv => lhs; unfold impl_readLog.l0
    rw [padding_ok (p := p) rfl (by omega), Option.bind_some, e1, if_pos g1]
    conv => lhs; unfold impl_readLog.j1
    rw [if_pos rfl]

/-- Nothing more is read at a piece that is cut. -/
theorem read_cut {X : List Int} (hX : X.length ≤ 20000) {p : Nat} (h1 : p ≤ X.length) {kind : Int} (k1 : 1 ≤ kind) (k4 : kind ≤ 4) {d post : List Int} (hs : (p + pad p) % 64 + 6 + d.length ≤ 64)
    (hx : X.drop p = (List.replicate (pad p) 0 ++ (fr kind d ++ post)).take (X.length - p)) (hc : X.length < p + pad p + 6 + d.length) {k : Nat} (hk : 1100 < k) (accs : List (List Int)) (wh : Int) (b : Bool) (rec : List Int) :
    impl_readLog.l0 (k + 1 + 1 + 1) X accs wh b rec (p : Int) = some (accs, wh) := by
  have h3 := pad_le p
  have hz : p + pad p ≤ X.length → X.drop p = List.replicate (pad p) 0 ++ (fr kind d ++ post).take (X.length - p - pad p) := by
    intro c
    rw [hx, List.take_append, List.length_replicate, List.take_of_length_le (by rw [List.length_replicate]; omega)]
  by_cases c6 : X.length < p + pad p + 6
  · exact read_stop hX h1 c6 (fun c => ⟨_, hz c⟩) hk accs wh b rec
  · have hq : X.drop (p + pad p) = (fr kind d ++ post).take (X.length - p - pad p) := by
      rw [← List.drop_drop, hz (by omega)]
      exact List.drop_left' List.length_replicate
    have hg : ∀ j, j < 6 → ((fr kind d ++ post).take (X.length - p - pad p)).getD j 0 = (fr kind d).getD j 0 := by
      intro j hj
      rw [List.getD_eq_getElem?_getD, List.getD_eq_getElem?_getD, List.getElem?_take_of_lt (by omega), List.getElem?_append_left (by rw [fr_length]; omega)]
    have r4 : rd X ((p + pad p + 4 : Nat) : Int) = (d.length : Int) := by
      rw [rd_at hq, hg 4 (by omega)]
      unfold fr
      rw [List.getD_eq_getElem?_getD, List.getElem?_append_right (Nat.le_of_eq (ck_length _)), ck_length]
      rfl
    have r5 : rd X ((p + pad p + 5 : Nat) : Int) = kind := by
      rw [rd_at hq, hg 5 (by omega)]
      unfold fr
      rw [List.getD_eq_getElem?_getD, List.getElem?_append_right (by rw [ck_length]; omega), ck_length]
      rfl
    rw [read_pad hX (by omega) (hz (by omega)) (by omega)]
    conv => lhs; unfold impl_readLog.j1
    rw [if_neg (by decide), show wrap64 ((p : Int) + (pad p : Int)) = ((p + pad p : Nat) : Int) from by rw [w64 (by omega) (by omega)]; omega]
    rw [piece_cut (by omega) (by omega) k1 k4 hs r4 r5 hc k, Option.bind_some]
    try dsimp only
    rw [if_neg (by decide)]
    conv => lhs; unfold impl_readLog.j2
    rw [if_pos rfl]

/-- A piece that is whole is read. -/
theorem read_whole {X : List Int} (hX : X.length ≤ 20000) {p : Nat} (b w : Bool) {d post : List Int} (hd : Bytes d) (hs : (p + pad p) % 64 + 6 + d.length ≤ 64)
    (hx : X.drop p = (List.replicate (pad p) 0 ++ (fr (knd b w) d ++ post)).take (X.length - p)) (hc : p + pad p + 6 + d.length ≤ X.length) {k : Nat} (hk : 1100 < k) (accs : List (List Int)) (ha : accs.length ≤ 100000) (wh : Int) (rec : List Int) (hr : rec.length ≤ 100000) :
    impl_readLog.l0 (k + 1 + 1 + 1) X accs wh b rec (p : Int) = if w = true then impl_readLog.l0 k X (accs ++ [rec ++ d]) ((p + pad p + 6 + d.length : Nat) : Int) false [] ((p + pad p + 6 + d.length : Nat) : Int) else impl_readLog.l0 k X accs wh true (rec ++ d) ((p + pad p + 6 + d.length : Nat) : Int) := by
  have h3 := pad_le p
  obtain ⟨k1, k4⟩ := knd_b b w
  have hz : X.drop p = List.replicate (pad p) 0 ++ (fr (knd b w) d ++ post).take (X.length - p - pad p) := by
    rw [hx, List.take_append, List.length_replicate, List.take_of_length_le (by rw [List.length_replicate]; omega)]
  have hq : X.drop (p + pad p) = fr (knd b w) d ++ post.take (X.length - p - pad p - (6 + d.length)) := by
    rw [← List.drop_drop, hz, List.drop_left' List.length_replicate, List.take_append, fr_length, List.take_of_length_le (by rw [fr_length]; omega)]
  have hpc : impl_piece.f (k + 1) X ((p + pad p : Nat) : Int) = some (knd b w, d, true) := piece_whole (by omega) k1 k4 hd hs hq (by omega)
  have e9 : wrap64 ((p : Int) + wrap64 (wrap64 ((pad p : Int) + 6) + (d.length : Int))) = ((p + pad p + 6 + d.length : Nat) : Int) := by
    rw [w64 (x := (pad p : Int) + 6) (by omega) (by omega), w64 (x := (pad p : Int) + 6 + (d.length : Int)) (by omega) (by omega), w64 (by omega) (by omega)]
    omega
  have gl : rec.length + d.length < 140737488355328 := by omega
  have ga : accs.length < 5864062014805 := by omega
  rw [read_pad hX (by omega) hz (by omega)]
  conv => lhs; unfold impl_readLog.j1
  rw [if_neg (by decide), show wrap64 ((p : Int) + (pad p : Int)) = ((p + pad p : Nat) : Int) from by rw [w64 (by omega) (by omega)]; omega]
  rw [hpc, Option.bind_some]
  try dsimp only
  cases b <;> cases w
  · rw [if_pos rfl, if_neg (by decide), show ((false : Bool) != (knd false false == 4)) = false from rfl]
    conv => lhs; unfold impl_readLog.j2
    rw [if_neg (by decide), if_pos gl, Option.bind_some, if_pos (show knd false false = 2 from rfl), e9, if_neg (by decide)]
  · rw [if_pos rfl, if_neg (by decide), show ((false : Bool) != (knd false true == 4)) = false from rfl]
    conv => lhs; unfold impl_readLog.j2
    rw [if_neg (by decide), if_pos gl, Option.bind_some, if_neg (show ¬ knd false true = 2 by decide), if_neg (show ¬ knd false true = 3 by decide), if_pos ga, e9, if_pos rfl]
    rfl
  · rw [if_pos rfl, if_pos (show knd true false = 3 from rfl), show ((true : Bool) != true) = false from rfl]
    conv => lhs; unfold impl_readLog.j2
    rw [if_neg (by decide), if_pos gl, Option.bind_some, if_neg (by decide), if_pos (show knd true false = 3 from rfl), e9, if_neg (by decide)]
    rfl
  · rw [if_pos rfl, if_neg (by decide), show ((true : Bool) != (knd true true == 4)) = false from rfl]
    conv => lhs; unfold impl_readLog.j2
    rw [if_neg (by decide), if_pos gl, Option.bind_some, if_neg (show ¬ knd true true = 2 by decide), if_neg (show ¬ knd true true = 3 by decide), if_pos ga, e9, if_pos rfl]
    rfl

theorem room_fits {p : Nat} {d : List Int} (h : d.length ≤ room p) : (p + pad p) % 64 + 6 + d.length ≤ 64 := by
  have := pad_mod p
  unfold room at h
  omega

theorem read_pc {n p : Nat} {r : List Int} {b : Bool} {o : List Int} (h : Pc n p r b o) : ∀ (k : Nat) (X : List Int) (accs : List (List Int)) (wh : Int) (rec post : List Int), X.length ≤ 20000 → p ≤ X.length → X.drop p = (o ++ post).take (X.length - p) → Bytes r → 1100 < k → accs.length ≤ 100000 → rec.length + r.length ≤ 100000 →
    (X.length < p + o.length ∧ impl_readLog.l0 (k + 3 * n) X accs wh b rec (p : Int) = some (accs, wh)) ∨
    (p + o.length ≤ X.length ∧ impl_readLog.l0 (k + 3 * n) X accs wh b rec (p : Int) = impl_readLog.l0 k X (accs ++ [rec ++ r]) ((p + o.length : Nat) : Int) false [] ((p + o.length : Nat) : Int)) := by
  induction h with
  | @last p r b hr =>
    intro k X accs wh rec post hX hp hx hb hk ha hrec
    have hk3 : k + 3 * 1 = k + 1 + 1 + 1 := rfl
    have hfit := room_fits hr
    rw [List.append_assoc] at hx
    rw [hk3, List.length_append, List.length_replicate, fr_length]
    by_cases c : p + pad p + 6 + r.length ≤ X.length
    · refine .inr ⟨by omega, ?_⟩
      rw [read_whole hX b true hb hfit hx c hk accs ha wh rec (by omega), if_pos rfl, show p + (pad p + (6 + r.length)) = p + pad p + 6 + r.length by omega]
    · exact .inl ⟨by omega, read_cut hX hp (knd_b b true).1 (knd_b b true).2 hfit hx (by omega) hk accs wh b rec⟩
  | @more n p r b o hr h ih =>
    intro k X accs wh rec post hX hp hx hb hk ha hrec
    have hk3 : k + 3 * (n + 1) = k + 3 * n + 1 + 1 + 1 := by omega
    have hlt : (r.take (room p)).length = room p := by rw [List.length_take]; omega
    have hfit := room_fits (p := p) (d := r.take (room p)) (by omega)
    rw [List.append_assoc, List.append_assoc] at hx
    rw [hk3, List.length_append, List.length_append, List.length_replicate, fr_length, hlt]
    by_cases c : p + pad p + 6 + room p ≤ X.length
    · have hstep := read_whole hX b false (hb.take (room p)) hfit hx (by rw [hlt]; exact c) (k := k + 3 * n) (by omega) accs ha wh rec (by omega)
      rw [if_neg (by decide), hlt] at hstep
      rw [hstep]
      have hnext : X.drop (p + pad p + 6 + room p) = (o ++ post).take (X.length - (p + pad p + 6 + room p)) := by
        have e : p + pad p + 6 + room p = p + (List.replicate (pad p) (0 : Int) ++ fr (knd b false) (r.take (room p))).length := by
          rw [List.length_append, List.length_replicate, fr_length, hlt]; omega
        rw [e, ← List.drop_drop, hx, ← List.append_assoc, List.drop_take, List.drop_left, Nat.sub_sub]
      rcases ih k X accs wh (rec ++ r.take (room p)) post hX c hnext (hb.drop _) hk ha (by rw [List.length_append, hlt, List.length_drop]; omega) with ⟨h1, h2⟩ | ⟨h1, h2⟩
      · exact .inl ⟨by omega, h2⟩
      · refine .inr ⟨by omega, ?_⟩
        rw [h2, List.append_assoc, List.take_append_drop, show p + pad p + 6 + room p + o.length = p + (pad p + (6 + room p + o.length)) by omega]
    · exact .inl ⟨by omega, read_cut hX hp (knd_b b false).1 (knd_b b false).2 hfit hx (by rw [hlt]; omega) (k := k + 3 * n) (by omega) accs wh b rec⟩

/-- Records one behind the other, from a place on; how many pieces there are. -/
inductive Lg : Nat → List (List Int) → List Int → Nat → Prop
  | nil {p : Nat} : Lg p [] [] 0
  | cons {p n m : Nat} {r : List Int} {rs : List (List Int)} {o out : List Int} : Pc n p r false o → Lg (p + o.length) rs out m → Lg p (r :: rs) (o ++ out) (n + m)

theorem Lg.len {p m : Nat} {rs : List (List Int)} {out : List Int} (h : Lg p rs out m) : 6 * m ≤ out.length := by
  induction h with
  | nil => exact Nat.le_refl _
  | @cons p n m r rs o out h _ ih =>
    have := h.len
    rw [List.length_append]
    omega

theorem read_lg {p m : Nat} {rs : List (List Int)} {out : List Int} (h : Lg p rs out m) : ∀ (k : Nat) (X : List Int) (accs : List (List Int)), X.length ≤ 20000 → p ≤ X.length → X.drop p = out.take (X.length - p) → (∀ r ∈ rs, Bytes r ∧ r.length ≤ 2000) → 1100 < k → accs.length + rs.length ≤ 100000 →
    ∃ j wh, j ≤ rs.length ∧ wh ≤ X.length ∧ impl_readLog.l0 (k + 3 * m + 3) X accs (p : Int) false [] (p : Int) = some (accs ++ rs.take j, ((wh : Nat) : Int)) ∧ (X.length = p + out.length → j = rs.length ∧ wh = X.length) := by
  induction h with
  | @nil p =>
    intro k X accs hX hp hx _ hk _
    rw [List.take_nil] at hx
    have hl := congrArg List.length hx
    rw [List.length_drop, List.length_nil] at hl
    refine ⟨0, p, by simp, hp, ?_, fun _ => ⟨rfl, by omega⟩⟩
    rw [List.take_nil, List.append_nil]
    refine read_stop hX hp (by omega) (fun c => ⟨[], ?_⟩) (k := k + 3 * 0) (by omega) accs p false []
    rw [hx, show pad p = 0 by omega]
    rfl
  | @cons p n m r rs o out h hl ih =>
    intro k X accs hX hp hx hb hk ha
    obtain ⟨hrb, hrl⟩ := hb r (List.mem_cons_self ..)
    rw [List.length_cons] at ha
    have e : k + 3 * (n + m) + 3 = (k + 3 * m + 3) + 3 * n := by omega
    rw [e]
    rcases read_pc h (k + 3 * m + 3) X accs (p : Int) [] out hX hp hx hrb (by omega) (by omega) (by rw [List.length_nil]; omega) with ⟨h1, h2⟩ | ⟨h1, h2⟩
    · refine ⟨0, p, by simp, hp, ?_, fun hc => ?_⟩
      · rw [h2, List.take_zero, List.append_nil]
      · rw [List.length_append] at hc; omega
    · have hnext : X.drop (p + o.length) = out.take (X.length - (p + o.length)) := by
        rw [← List.drop_drop, hx, List.drop_take, List.drop_left, Nat.sub_sub]
      obtain ⟨j, wh, j1, j2, j3, j4⟩ := ih k X (accs ++ [[] ++ r]) hX h1 hnext (fun r' h' => hb r' (List.mem_cons_of_mem _ h')) hk (by rw [List.length_append, List.length_singleton]; omega)
      refine ⟨j + 1, wh, by rw [List.length_cons]; omega, j2, ?_, fun hc => ?_⟩
      · rw [h2, j3, List.take_succ_cons, List.append_assoc]
        rfl
      · rw [List.length_append] at hc
        obtain ⟨q1, q2⟩ := j4 (by omega)
        exact ⟨by rw [List.length_cons, q1], q2⟩

/-- A log that is cut at a place: its first records come back; all of it, if it is not cut. -/
theorem readLog_ok {m : Nat} {rs : List (List Int)} {out : List Int} (h : Lg 0 rs out m) (ho : out.length ≤ 20000) (hb : ∀ r ∈ rs, Bytes r ∧ r.length ≤ 2000) (hn : rs.length ≤ 100) {c : Nat} (hc : c ≤ out.length) {k : Nat} (hk : 20000 < k) :
    ∃ j wh, j ≤ rs.length ∧ wh ≤ c ∧ impl_ReadLog.f k (out.take c) = some (rs.take j, ((wh : Nat) : Int), true) ∧ (c = out.length → j = rs.length ∧ wh = c) := by
  have hm := h.len
  have hlen : (out.take c).length = c := by rw [List.length_take]; omega
  obtain ⟨j, wh, j1, j2, j3, j4⟩ := read_lg h (k - 3 * m - 3) (out.take c) [] (by omega) (by omega) (by rw [hlen]; rfl) hb (by omega) (by rw [List.length_nil]; omega)
  rw [show k - 3 * m - 3 + 3 * m + 3 = k by omega] at j3
  rw [hlen] at j2 j4
  refine ⟨j, wh, j1, j2, ?_, fun e => j4 (by omega)⟩
  unfold impl_ReadLog.f
  rw [if_neg (by omega)]
  unfold impl_readLog.f
  have j3' : impl_readLog.l0 k (out.take c) [] 0 false [] 0 = some (rs.take j, ((wh : Nat) : Int)) := j3
  rw [j3', Option.bind_some]

end Go.Proofs.Ythliooccgclbjaa.Lem

/- Records come back from their log, and of a log that is cut the first ones do, for drawn records: FnLogs answers true at every input. No conditions. -/
namespace Go.Proofs.Ythliooccgclbjaa.Pure
open Go.RowKit Go.Proofs.Ythliooccgclbjaa.P Go.Proofs.YthliooccgclbjaaW.PrintWords Go.Proofs.YthliooccgclbjaaW.PrintLast Go.Proofs.YthliooccgclbjaaW.PrintMore Go.Proofs.Ythliooccgclbjaa.Lem

/-! ### what is drawn -/
theorem Bytes.set {l : List Int} (h : Bytes l) (n : Nat) {x : Int} (h0 : 0 ≤ x) (h1 : x < 256) : Bytes (l.set n x) := by
  intro y hy
  rcases List.mem_or_eq_of_mem_set hy with h' | rfl
  · exact h y h'
  · exact ⟨h0, h1⟩
theorem Bytes.zeros (n : Nat) : Bytes (List.replicate n 0) := by
  intro y hy
  rw [List.eq_of_mem_replicate hy]
  decide

theorem record_l0 {l : List Int} (hl : Bytes l) (n : Nat) (hn : n ≤ 3000) (d : Nat) : ∀ (k i : Nat) (y : List Int) (at_ s : Int), i + d = n → y.length = n → Bytes y → 0 ≤ at_ → at_ + 2 * d < 4611686018427387000 → d < k →
    ∃ y' a' s', spec_l1Cur_record.l0 k y (n : Int) (i : Int) l at_ s = some (y', a', s') ∧ Bytes y' ∧ y'.length = n ∧ at_ ≤ a' ∧ a' ≤ at_ + 2 * d := by
  induction d with
  | zero =>
    intro k i y at_ s hi hy hb h0 h1 hk
    obtain ⟨k, rfl⟩ : ∃ m, k = m + 1 := ⟨k - 1, by omega⟩
    refine ⟨y, at_, s, ?_, hb, hy, by omega, by omega⟩
    simp only [spec_l1Cur_record.l0]
    rw [if_neg (by omega)]
  | succ d ih =>
    intro k i y at_ s hi hy hb h0 h1 hk
    obtain ⟨k, rfl⟩ : ∃ m, k = m + 1 := ⟨k - 1, by omega⟩
    obtain ⟨r, a1, s1, e1, g1, g1', r0, r1, _⟩ := pick_ok hl at_ s 9 h0 (by omega)
    have hr := r1 (by omega)
    have hm : r % 256 = r := by omega
    obtain ⟨y', a', s', e2, b2, l2, g2, g2'⟩ := ih k (i + 1) (y.set i r) a1 s1 (by omega) (by rw [List.length_set]; exact hy) (Bytes.set hb i r0 (by omega)) (by omega) (by omega) (by omega)
    refine ⟨y', a', s', ?_, b2, l2, by omega, by omega⟩
    conv => lhs; unfold spec_l1Cur_record.l0
    rw [if_pos (by omega), e1, Option.bind_some]
    try dsimp only
    rw [if_pos (by omega), if_pos (by omega), hm, Int.toNat_natCast, show wrap64 ((i : Int) + 1) = ((i + 1 : Nat) : Int) from by rw [w64 (by omega) (by omega)]; omega]
    exact e2

theorem record_j0 {l : List Int} (hl : Bytes l) {n : Int} (n0 : 0 ≤ n) (n1 : n ≤ 2001) {at_ s : Int} (h0 : 0 ≤ at_) (h1 : at_ < 4611686018427380000) {k : Nat} (hk : 3001 < k) :
    ∃ y' a' s', spec_l1Cur_record.j0 k n l at_ s = some (y', a', s') ∧ Bytes y' ∧ y'.length ≤ 2001 ∧ at_ ≤ a' ∧ a' ≤ at_ + 4002 := by
  obtain ⟨k, rfl⟩ : ∃ m, k = m + 1 := ⟨k - 1, by omega⟩
  obtain ⟨y', a', s', e2, b2, l2, g2, g2'⟩ := record_l0 hl n.toNat (by omega) n.toNat k 0 (List.replicate n.toNat 0) at_ s (by omega) List.length_replicate (Bytes.zeros _) h0 (by omega) (by omega)
  refine ⟨y', a', s', ?_, b2, by omega, g2, by omega⟩
  rw [spec_l1Cur_record.j0, if_pos n0, if_pos (by omega), Option.bind_some, List.length_replicate]
  exact e2

theorem record_ok {l : List Int} (hl : Bytes l) {at_ s : Int} (h0 : 0 ≤ at_) (h1 : at_ < 4611686018427370000) {k : Nat} (hk : 3001 < k) :
    ∃ y' a' s', spec_l1Cur_record.f k l at_ s = some (y', a', s') ∧ Bytes y' ∧ y'.length ≤ 2001 ∧ at_ ≤ a' ∧ a' ≤ at_ + 5000 := by
  unfold spec_l1Cur_record.f
  obtain ⟨t, a1, s1, e1, m1, g1, g1'⟩ := among_ok hl [0, 3, 20, 58, 59, 64, 130] (by simp) at_ s h0 (by omega)
  have ht : 0 ≤ t ∧ t ≤ 130 := by simp at m1; omega
  rw [e1, Option.bind_some]; try dsimp only
  obtain ⟨b, a2, s2, e2, g2, g2'⟩ := one_ok hl a1 s1 40 (by omega) (by omega)
  rw [e2, Option.bind_some]; try dsimp only
  by_cases hb : b = true
  · rw [if_pos hb]
    obtain ⟨u, a3, s3, e3, m3, g3, g3'⟩ := among_ok hl [2000, 2001] (by simp) a2 s2 (by omega) (by omega)
    have hu : 0 ≤ u ∧ u ≤ 2001 := by simp at m3; omega
    rw [e3, Option.bind_some]; try dsimp only
    obtain ⟨y', a', s', e, b', l', q, q'⟩ := record_j0 hl hu.1 hu.2 (at_ := a3) (s := s3) (by omega) (by omega) hk
    exact ⟨y', a', s', e, b', l', by omega, by omega⟩
  · rw [if_neg hb]
    obtain ⟨y', a', s', e, b', l', q, q'⟩ := record_j0 hl ht.1 (by omega) (at_ := a2) (s := s2) (by omega) (by omega) hk
    exact ⟨y', a', s', e, b', l', by omega, by omega⟩

theorem records_l0 {l : List Int} (hl : Bytes l) (d : Nat) : ∀ (k : Nat) (acc : List (List Int)) (at_ s : Int), acc.length + d ≤ 61 → (∀ r ∈ acc, Bytes r ∧ r.length ≤ 2001) → 0 ≤ at_ → at_ + 5000 * d < 4611686018427370000 → 3010 + d < k →
    ∃ rs a' s', spec_l1Cur_records.l0 k acc (d : Int) l at_ s = some (rs, a', s') ∧ rs.length ≤ 61 ∧ (∀ r ∈ rs, Bytes r ∧ r.length ≤ 2001) := by
  induction d with
  | zero =>
    intro k acc at_ s hi ha h0 h1 hk
    obtain ⟨k, rfl⟩ : ∃ m, k = m + 1 := ⟨k - 1, by omega⟩
    refine ⟨acc, at_, s, ?_, by omega, ha⟩
    simp only [spec_l1Cur_records.l0]
    rw [if_neg (by omega)]
  | succ d ih =>
    intro k acc at_ s hi ha h0 h1 hk
    obtain ⟨k, rfl⟩ : ∃ m, k = m + 1 := ⟨k - 1, by omega⟩
    obtain ⟨y, a1, s1, e1, b1, l1, g1, g1'⟩ := record_ok hl (at_ := at_) (s := s) h0 (by omega) (k := k) (by omega)
    obtain ⟨rs, a', s', e2, l2, m2⟩ := ih k (acc ++ [y]) a1 s1 (by rw [List.length_append, List.length_singleton]; omega) (by
      intro r hr
      rcases List.mem_append.1 hr with h | h
      · exact ha r h
      · rw [List.mem_singleton.1 h]; exact ⟨b1, l1⟩) (by omega) (by omega) (by omega)
    refine ⟨rs, a', s', ?_, l2, m2⟩
    conv => lhs; unfold spec_l1Cur_records.l0
    rw [if_pos (by omega), e1, Option.bind_some]
    try dsimp only
    rw [if_pos (by omega), show wrap64 (((d + 1 : Nat) : Int) - 1) = (d : Int) from by rw [w64 (by omega) (by omega)]; omega]
    exact e2

theorem draw_ok {l : List Int} (hl : Bytes l) {k : Nat} (hk : 3100 < k) : ∃ rs, spec_DrawLogOf.f k l = some rs ∧ rs.length ≤ 61 ∧ (∀ r ∈ rs, Bytes r ∧ r.length ≤ 2001) := by
  obtain ⟨k, rfl⟩ : ∃ m, k = m + 1 := ⟨k - 1, by omega⟩
  unfold spec_DrawLogOf.f spec_l1Cur_records.f
  obtain ⟨p, a1, s1, e1, g1, g1', p0, p1, _⟩ := pick_ok hl 0 0 6 (by omega) (by omega)
  have hp := p1 (by omega)
  rw [e1, Option.bind_some]; try dsimp only
  obtain ⟨b, a2, s2, e2, g2, g2'⟩ := one_ok hl a1 s1 40 (by omega) (by omega)
  rw [e2, Option.bind_some]; try dsimp only
  have j0 : ∀ (n : Nat) (a s : Int), n ≤ 61 → 0 ≤ a → a ≤ 10 → ∃ rs a' s', spec_l1Cur_records.j0 (k + 1) [] (n : Int) l a s = some (rs, a', s') ∧ rs.length ≤ 61 ∧ (∀ r ∈ rs, Bytes r ∧ r.length ≤ 2001) := by
    intro n a s hn ha0 ha1
    obtain ⟨rs, a', s', e, h1, h2⟩ := records_l0 hl n k [] a s (by rw [List.length_nil]; omega) (fun r hr => by simp at hr) ha0 (by omega) (by omega)
    refine ⟨rs, a', s', ?_, h1, h2⟩
    rw [spec_l1Cur_records.j0]
    exact e
  by_cases hb : b = true
  · rw [if_pos hb]
    obtain ⟨q, a3, s3, e3, g3, g3', q0, q1, _⟩ := pick_ok hl a2 s2 2 (by omega) (by omega)
    have hq := q1 (by omega)
    rw [e3, Option.bind_some]; try dsimp only
    obtain ⟨rs, a', s', e, h1, h2⟩ := j0 (60 + q.toNat) a3 s3 (by omega) (by omega) (by omega)
    rw [show wrap64 (60 + q) = ((60 + q.toNat : Nat) : Int) from by rw [w64 (by omega) (by omega)]; omega, e, Option.bind_some]
    exact ⟨rs, rfl, h1, h2⟩
  · rw [if_neg hb]
    obtain ⟨rs, a', s', e, h1, h2⟩ := j0 p.toNat a2 s2 (by omega) (by omega) (by omega)
    rw [show p = (p.toNat : Int) by omega, e, Option.bind_some]
    exact ⟨rs, rfl, h1, h2⟩

/-! ### both logs -/
theorem rd_drop4 {l : List (List Int)} {i : Nat} (h : i < l.length) : l.drop i = rd_L4 l (i : Int) :: l.drop (i + 1) := by
  rw [List.drop_eq_getElem_cons h]
  unfold rd_L4
  rw [Int.toNat_natCast, List.getD_eq_getElem?_getD, List.getElem?_eq_getElem h]
  rfl

theorem logOf_l0 (rs : List (List Int)) (hn : rs.length ≤ 60) (hb : ∀ r ∈ rs, Bytes r ∧ r.length ≤ 2001) (d : Nat) : ∀ (i : Nat) (acc : List Int), i + d = rs.length → acc.length ≤ 46100 * i →
    (∃ out m, Lg acc.length (rs.drop i) out m ∧ (∀ r ∈ rs.drop i, Bytes r ∧ r.length ≤ 2000) ∧ (acc ++ out).length ≤ 20000 ∧ ∀ k, 30000 + d < k → impl_LogOf.l0 k acc rs (rs.length : Int) (i : Int) = some (acc ++ out, true) ∧ spec_LogOf.l0 k acc rs (rs.length : Int) (i : Int) = some (acc ++ out, true)) ∨
    (∀ k, 30000 + d < k → impl_LogOf.l0 k acc rs (rs.length : Int) (i : Int) = some ([], false) ∧ (acc.length ≤ 20000 → spec_LogOf.l0 k acc rs (rs.length : Int) (i : Int) = some ([], false))) := by
  induction d with
  | zero =>
    intro i acc hi ha
    have hd : rs.drop i = [] := List.drop_eq_nil_of_le (by omega)
    by_cases c : acc.length ≤ 20000
    · refine .inl ⟨[], 0, by rw [hd]; exact .nil, fun r hr => by rw [hd] at hr; simp at hr, by rw [List.append_nil]; exact c, fun k hk => ?_⟩
      obtain ⟨k, rfl⟩ : ∃ m, k = m + 1 := ⟨k - 1, by omega⟩
      rw [List.append_nil]
      refine ⟨?_, ?_⟩
      · conv => lhs; unfold impl_LogOf.l0
        rw [if_neg (by omega), if_neg (by omega)]
      · conv => lhs; unfold spec_LogOf.l0
        rw [if_neg (by omega)]
    · refine .inr fun k hk => ?_
      obtain ⟨k, rfl⟩ : ∃ m, k = m + 1 := ⟨k - 1, by omega⟩
      refine ⟨?_, fun h => absurd h c⟩
      conv => lhs; unfold impl_LogOf.l0
      rw [if_neg (by omega), if_pos (by omega)]
  | succ d ih =>
    intro i acc hi ha
    have hil : i < rs.length := by omega
    have hd := rd_drop4 hil
    have hd0 := hd
    have hmem : rd_L4 rs (i : Int) ∈ rs := by
      have : rd_L4 rs (i : Int) ∈ rs.drop i := by rw [hd]; exact List.mem_cons_self ..
      exact List.mem_of_mem_drop this
    obtain ⟨rb, rl⟩ := hb _ hmem
    generalize rd_L4 rs (i : Int) = r at hd rb rl
    have hi1 : wrap64 ((i : Int) + 1) = ((i + 1 : Nat) : Int) := by rw [w64 (by omega) (by omega)]; omega
    by_cases c2 : r.length ≤ 2000
    · obtain ⟨n, o, hpc, hn⟩ := Pc.exist r.length acc.length r false (Nat.le_refl _)
      have hlo := hpc.len
      have hi60 : i ≤ 60 := by omega
      have ha' : acc.length ≤ 2766000 := by omega
      have hoi : ∀ k, 30000 + (d + 1) < k + 1 → impl_logPieces.f k (acc.length : Int) r = some o := fun k hk => impl_pieces hpc rb rl (by omega) (by omega)
      have hos : ∀ k, 30000 + (d + 1) < k + 1 → spec_l3Pieces.f k (acc.length : Int) r = some o := fun k hk => spec_pieces hpc rb rl (by omega) (by omega)
      have hr0 : rd_L4 rs (i : Int) = r := (List.cons.inj (hd0.symm.trans hd)).1
      have stepI : ∀ k, 30000 + (d + 1) < k + 1 → impl_LogOf.l0 (k + 1) acc rs (rs.length : Int) (i : Int) = impl_LogOf.l0 k (acc ++ o) rs (rs.length : Int) ((i + 1 : Nat) : Int) := by
        intro k hk
        conv => lhs; unfold impl_LogOf.l0
        rw [if_pos (by omega), if_pos (by omega), if_pos (by omega), hr0, if_neg (by omega), hoi k hk, Option.bind_some, if_pos (by omega), hi1]
      have stepS : ∀ k, 30000 + (d + 1) < k + 1 → spec_LogOf.l0 (k + 1) acc rs (rs.length : Int) (i : Int) = if ((acc ++ o).length : Int) > 20000 then some ([], false) else spec_LogOf.l0 k (acc ++ o) rs (rs.length : Int) ((i + 1 : Nat) : Int) := by
        intro k hk
        conv => lhs; unfold spec_LogOf.l0
        rw [if_pos (by omega), if_pos (by omega), if_pos (by omega), hr0, if_neg (by omega), hos k hk, Option.bind_some, if_pos (by omega), Option.bind_some, hi1]
      rcases ih (i + 1) (acc ++ o) (by omega) (by rw [List.length_append]; omega) with ⟨out, m, hlg, hall, hlen, hk2⟩ | hk2
      · refine .inl ⟨o ++ out, n + m, ?_, ?_, ?_, fun k hk => ?_⟩
        · rw [hd]
          refine .cons hpc ?_
          rw [List.length_append] at hlg
          exact hlg
        · intro r' h'
          rw [hd] at h'
          rcases List.mem_cons.1 h' with e | e
          · rw [e]; exact ⟨rb, c2⟩
          · exact hall r' e
        · rw [← List.append_assoc]; exact hlen
        · obtain ⟨k, rfl⟩ : ∃ m, k = m + 1 := ⟨k - 1, by omega⟩
          obtain ⟨q1, q2⟩ := hk2 k (by omega)
          rw [stepI k (by omega), stepS k (by omega), q1, if_neg (by rw [List.length_append] at hlen; omega), q2, List.append_assoc]
          exact ⟨rfl, rfl⟩
      · refine .inr fun k hk => ?_
        obtain ⟨k, rfl⟩ : ∃ m, k = m + 1 := ⟨k - 1, by omega⟩
        obtain ⟨q1, q2⟩ := hk2 k (by omega)
        rw [stepI k (by omega), stepS k (by omega)]
        refine ⟨q1, fun _ => ?_⟩
        by_cases c : (acc ++ o).length ≤ 20000
        · rw [if_neg (by omega)]
          exact q2 c
        · rw [if_pos (by omega)]
    · refine .inr fun k hk => ?_
      obtain ⟨k, rfl⟩ : ∃ m, k = m + 1 := ⟨k - 1, by omega⟩
      have hr0 : rd_L4 rs (i : Int) = r := (List.cons.inj (hd0.symm.trans hd)).1
      refine ⟨?_, fun _ => ?_⟩
      · conv => lhs; unfold impl_LogOf.l0
        rw [if_pos (by omega), if_pos (by omega), if_pos (by omega), hr0, if_pos (by omega)]
      · conv => lhs; unfold spec_LogOf.l0
        rw [if_pos (by omega), if_pos (by omega), if_pos (by omega), hr0, if_pos (by omega)]

theorem logOf_ok (rs : List (List Int)) (hn : rs.length ≤ 61) (hb : ∀ r ∈ rs, Bytes r ∧ r.length ≤ 2001) :
    (∃ out m, Lg 0 rs out m ∧ rs.length ≤ 60 ∧ (∀ r ∈ rs, Bytes r ∧ r.length ≤ 2000) ∧ out.length ≤ 20000 ∧ ∀ k, 31000 < k → impl_LogOf.f k rs = some (out, true) ∧ spec_LogOf.f k rs = some (out, true)) ∨
    (∀ k, 31000 < k → impl_LogOf.f k rs = some ([], false) ∧ spec_LogOf.f k rs = some ([], false)) := by
  by_cases c : rs.length ≤ 60
  · have e0 : ((0 : Nat) : Int) = 0 := rfl
    have hI : ∀ k, impl_LogOf.f k rs = impl_LogOf.l0 k [] rs (rs.length : Int) ((0 : Nat) : Int) := by
      intro k
      unfold impl_LogOf.f
      rw [if_neg (by omega), e0]
    have hS : ∀ k, spec_LogOf.f k rs = spec_LogOf.l0 k [] rs (rs.length : Int) ((0 : Nat) : Int) := by
      intro k
      unfold spec_LogOf.f
      rw [if_neg (by omega), e0]
    rcases logOf_l0 rs c hb rs.length 0 [] (by omega) (by simp) with ⟨out, m, hlg, hall, hlen, hk2⟩ | hk2
    · refine .inl ⟨out, m, hlg, c, hall, hlen, fun k hk => ?_⟩
      rw [hI, hS]
      exact hk2 k (by omega)
    · refine .inr fun k hk => ?_
      rw [hI, hS]
      obtain ⟨q1, q2⟩ := hk2 k (by omega)
      exact ⟨q1, q2 (by simp)⟩
  · refine .inr fun k _ => ⟨?_, ?_⟩
    · unfold impl_LogOf.f
      rw [if_pos (by omega)]
    · unfold spec_LogOf.f
      rw [if_pos (by omega)]

/-! ### the law -/
theorem number_l0 {l : List Int} (hl : Bytes l) (hlen : l.length ≤ 4000000) (d : Nat) : ∀ (k i : Nat) (x : Int), i + d = l.length → 0 ≤ x → x < 1000003 → d < k → ∃ y, laws_numberOf.l0 k x l (l.length : Int) (i : Int) = some y ∧ 0 ≤ y := by
  induction d with
  | zero =>
    intro k i x hi h0 h1 hk
    obtain ⟨k, rfl⟩ : ∃ m, k = m + 1 := ⟨k - 1, by omega⟩
    refine ⟨x, ?_, h0⟩
    simp only [laws_numberOf.l0]
    rw [if_neg (by omega)]
  | succ d ih =>
    intro k i x hi h0 h1 hk
    obtain ⟨k, rfl⟩ : ∃ m, k = m + 1 := ⟨k - 1, by omega⟩
    have hb := hl.rd (i : Int)
    have e : wrap64 (wrap64 (31 * x) + wrap64 (rd l (i : Int))) = 31 * x + rd l (i : Int) := by
      rw [w64 (x := 31 * x) (by omega) (by omega), w64 (x := rd l (i : Int)) (by omega) (by omega), w64 (by omega) (by omega)]
    have ht := tmod_ok (x := 31 * x + rd l (i : Int)) (n := 1000003) (by omega) (by decide)
    obtain ⟨y, hy, y0⟩ := ih k (i + 1) _ (by omega) ht.1 ht.2 (by omega)
    refine ⟨y, ?_, y0⟩
    conv => lhs; unfold laws_numberOf.l0
    rw [if_pos (by omega), if_pos (by omega), if_pos (by omega), e, show wrap64 ((i : Int) + 1) = ((i + 1 : Nat) : Int) from by rw [w64 (by omega) (by omega)]; omega]
    exact hy
theorem number_ok {l : List Int} (hl : Bytes l) (hlen : l.length ≤ 4000000) {k : Nat} (hk : l.length < k) : ∃ y, laws_numberOf.f k l = some y ∧ 0 ≤ y := by
  unfold laws_numberOf.f
  exact number_l0 hl hlen l.length k 0 0 (by omega) (by decide) (by decide) hk

theorem rd_take4 (l : List (List Int)) {j i : Nat} (h : i < j) : rd_L4 (l.take j) (i : Int) = rd_L4 l (i : Int) := by
  unfold rd_L4
  rw [Int.toNat_natCast, List.getD_eq_getElem?_getD, List.getD_eq_getElem?_getD, List.getElem?_take_of_lt h]

theorem law_l1 (rs : List (List Int)) (hn : rs.length ≤ 60) (j : Nat) (hj : j ≤ rs.length) (d : Nat) : ∀ (k i : Nat), i + d = j → d < k → laws_FnLogs.l1 k rs (rs.take j) ((rs.take j).length : Int) (i : Int) = some true := by
  have hl : (rs.take j).length = j := by rw [List.length_take]; omega
  induction d with
  | zero =>
    intro k i hi hk
    obtain ⟨k, rfl⟩ : ∃ m, k = m + 1 := ⟨k - 1, by omega⟩
    conv => lhs; unfold laws_FnLogs.l1
    rw [hl, if_neg (by omega)]
  | succ d ih =>
    intro k i hi hk
    obtain ⟨k, rfl⟩ : ∃ m, k = m + 1 := ⟨k - 1, by omega⟩
    have hnext := ih k (i + 1) (by omega) (by omega)
    conv => lhs; unfold laws_FnLogs.l1
    rw [if_pos (by omega), if_pos (by omega), if_pos (by omega), if_pos (by omega), rd_take4 rs (by omega), if_pos rfl, show wrap64 ((i : Int) + 1) = ((i + 1 : Nat) : Int) from by rw [w64 (by omega) (by omega)]; omega]
    exact hnext

theorem law_l0 {rs : List (List Int)} {out l1 : List Int} {m : Nat} (hlg : Lg 0 rs out m) (hn : rs.length ≤ 60) (hb : ∀ r ∈ rs, Bytes r ∧ r.length ≤ 2000) (ho : out.length ≤ 20000) (h1 : Bytes l1) (hl1 : l1.length ≤ 4000000) (d : Nat) : ∀ (k i : Nat), i + d = rs.length → 40000 + l1.length + d < k → laws_FnLogs.l0 k l1 rs out rs (rs.length : Int) (i : Int) = some true := by
  induction d with
  | zero =>
    intro k i hi hk
    obtain ⟨k, rfl⟩ : ∃ m, k = m + 1 + 1 := ⟨k - 2, by omega⟩
    obtain ⟨y, hy, y0⟩ := number_ok h1 hl1 (k := k + 1) (by omega)
    have e1 : wrap64 ((out.length : Int) + 1) = (out.length : Int) + 1 := w64 (by omega) (by omega)
    obtain ⟨t0, t1⟩ := tmod_ok (x := y) (n := (out.length : Int) + 1) y0 (by omega)
    conv => lhs; unfold laws_FnLogs.l0
    rw [if_neg (by omega), hy, Option.bind_some, e1, if_neg (by omega)]
    generalize Int.tmod y ((out.length : Int) + 1) = c at t0 t1
    obtain ⟨j, wh, j1, j2, j3, _⟩ := readLog_ok hlg ho hb (by omega) (c := c.toNat) (by omega) (k := k + 1) (by omega)
    have hl := law_l1 rs hn j j1 j k 0 (by omega) (by omega)
    have hlt : (rs.take j).length = j := by rw [List.length_take]; omega
    rw [if_pos t0, if_pos (by omega), j3, Option.bind_some]
    try dsimp only
    rw [if_pos rfl, if_neg (by omega), show decide (((rs.take j).length : Int) > (rs.length : Int)) = false from decide_eq_false (by omega)]
    rw [laws_FnLogs.j3, if_neg (by decide)]
    exact hl
  | succ d ih =>
    intro k i hi hk
    obtain ⟨k, rfl⟩ : ∃ m, k = m + 1 := ⟨k - 1, by omega⟩
    have hnext := ih k (i + 1) (by omega) (by omega)
    conv => lhs; unfold laws_FnLogs.l0
    rw [if_pos (by omega), if_pos (by omega), if_pos (by omega), if_pos (by omega), if_pos rfl, show wrap64 ((i : Int) + 1) = ((i + 1 : Nat) : Int) from by rw [w64 (by omega) (by omega)]; omega]
    exact hnext

theorem FnLogs : laws_FnLogs.Pure := by
  intro l0 l1 _ _ hw0 _ _ hw1
  have h0 := Bytes.of_wf hw0
  have h1 := Bytes.of_wf hw1
  by_cases hs : wrap64 ((l0.length : Int) + (l1.length : Int)) > 1048576
  · refine ⟨0, ?_⟩
    unfold laws_FnLogs.f
    rw [if_pos hs]
  · have hl1 : l1.length ≤ 4000000 := by
      rw [w64 (by omega) (by omega)] at hs
      omega
    obtain ⟨K, hK⟩ : ∃ K : Nat, K = 100000 + l1.length := ⟨_, rfl⟩
    refine ⟨K + 1 + 1, ?_⟩
    unfold laws_FnLogs.f
    rw [if_neg hs]
    obtain ⟨rs, e, hn, hb⟩ := draw_ok h0 (k := K + 1 + 1) (by omega)
    rw [e, Option.bind_some]
    rcases logOf_ok rs hn hb with ⟨out, m, hlg, hn60, hall, ho, hk2⟩ | hk2
    · obtain ⟨q1, q2⟩ := hk2 (K + 1 + 1) (by omega)
      rw [q1, Option.bind_some]; try dsimp only
      rw [q2, Option.bind_some]; try dsimp only
      rw [if_neg (by decide), show ((strOfNums out).toList != (strOfNums out).toList) = false from bne_self_eq_false _]
      obtain ⟨j, wh, j1, j2, j3, j4⟩ := readLog_ok hlg ho hall (by omega) (c := out.length) (Nat.le_refl _) (k := K + 1) (by omega)
      obtain ⟨ej, ew⟩ := j4 rfl
      rw [List.take_length, ej, List.take_length, ew] at j3
      rw [laws_FnLogs.j0, if_neg (by decide), if_pos rfl, j3, Option.bind_some]; try dsimp only
      rw [if_pos rfl, if_pos rfl, show ((rs.length : Int) != (rs.length : Int)) = false from bne_self_eq_false _]
      rw [laws_FnLogs.j1, if_neg (by decide)]
      have := law_l0 hlg hn60 hall ho h1 hl1 rs.length K 0 (by omega) (by omega)
      exact this
    · obtain ⟨q1, q2⟩ := hk2 (K + 1 + 1) (by omega)
      rw [q1, Option.bind_some]; try dsimp only
      rw [q2, Option.bind_some]; try dsimp only
      rw [if_neg (by decide), show ((strOfNums ([] : List Int)).toList != (strOfNums ([] : List Int)).toList) = false from bne_self_eq_false _]
      rw [laws_FnLogs.j0, if_neg (by decide), if_neg (by decide)]
      rfl

end Go.Proofs.Ythliooccgclbjaa.Pure

-- PRINTED BY print.sh 35421559b90ae4d0a3588c463048766b98c2df88dd9212a6774a882060cdf62d: not written by this session
-- PRINTED WORDS (module Derived/Print/Sized.lean): go-gate-2's, for the rows of laws over slices: an AI agent of Go's test side, Tue Nov 17 2026; no person has read it. Lean checks it.
namespace Go.Proofs.YthliooccgclbjaaW.PrintWords
open Go.ChangeShapes Go.WideShapes
/-- A row's slice of whole numbers is no longer than its weight allows. -/
theorem sized_ints {H : Type} {enc : TypeId × Value → H} {P : Program} {W : World} {base : Nat} {spare : Nat → Bool} {held : Bool} {t e : TypeId} {k : IntKind} {a : Option Addr} {len cap : Nat} {d : DataW H} {ps : List MemPlace} {ts : List TypeId} {ds : List (DataW H)} {j : Nat}
    (hsz : (DataW.weightsEach P ts ds).all (· ≤ reachBytes) = true) (ht : ts[j]? = some t) (hd : ds[j]? = some d) (hu : P.underlying t = some (.slice e)) (he : P.underlying e = some (.int k)) (hc : P.cellsOf e = 1) {B : Nat} (hB : P.bytesOf e = B)
    (h : DataW.Trod enc P W base spare held t (.slice a len cap) d ps) : len * B ≤ 140737488351232 := by
  obtain ⟨fuel, hf⟩ := h
  rcases open_ints hu he hc hf with ⟨hcs, _⟩ | ⟨x, l, c, zs, hcs, _, hl, _, hz, hx, _, _⟩
  · simp [Value.cells] at hcs
    obtain ⟨rfl, rfl, rfl⟩ := hcs
    simp
  · simp [Value.cells] at hcs
    obtain ⟨rfl, rfl, rfl⟩ := hcs
    obtain ⟨hx, _⟩ := Prod.mk.inj hx
    subst hx
    have z := sized_slice hsz ht hd hu
    rw [hB] at z
    have hl2 : len ≤ zs.length := by
      rw [hz]
      split
      · exact hl
      · exact Nat.le_refl _
    have h1 : (lits (H := H) k (zs.take len)).length + (lits (H := H) k (zs.drop len)).length = zs.length := by
      simp [lits]
      omega
    rw [h1] at z
    exact Nat.le_trans (Nat.mul_le_mul_right _ hl2) z
end Go.Proofs.YthliooccgclbjaaW.PrintWords

-- written by a program of this session's (wip/pp)
namespace Go.Proofs.Ythliooccgclbjaa.fnLogs
open Go.ChangeShapes Go.WideShapes Go.ChangeAt Go.RowKit
open Go.ChangeMaps (open_string shut_string)
set_option linter.unusedVariables false
theorem own : ownKnob Try.prog.godebug = none := by kernel_rfl
theorem laidOut : laidOutB Try.prog = true := by kernel_rfl
def IsRow (k : IntKind) (w : World) (a : Option Addr) (len cap : Nat) (zs : List Int) : Prop :=
  (a = none ∧ len = 0 ∧ cap = 0 ∧ zs = []) ∨
  ∃ x, a = some x ∧ len ≤ cap ∧ cap ≤ maxLen ∧ zs.length = cap ∧ (∀ i, i < zs.length → w.cell? (x.add i) = some (.int k (zs.getD i 0))) ∧ ∀ n ∈ zs, (Lit.int k n).wf = true
set_option maxRecDepth 100000 in
theorem lifted (os : Os) (started : os.Started) (H : Type) (enc : TypeId × Value → H) :
    ReturnsInHanded {} Try.checked os 5 .any (Rows.fnLogsSpec.pre6 enc Try.prog Try.f5 Rows.fnLogsRow.domain false) (Rows.fnLogsSpec.post enc Try.prog Try.f5 false true false false) := by
  refine returnsInHanded_of_change_sized (C := Try.checked) own started (by kernel_rfl) Try.func5
    (ChangeSpec.witness6 (enc := enc) (C := Try.checked) false ⟨#[], #[.slice none 0 0, .slice none 0 0], []⟩ 8 (by kernel_rfl) (by kernel_rfl) (by kernel_rfl) (by kernel_rfl)) ?_
  intro W base args ds gs before hval0 hW hcnd hsz0 _
  have hsz : (DataW.weightsEach Try.prog (Try.f5.params.toList ++ Rows.fnLogsSpec.plain.varTypes Try.prog) (ds ++ gs)).all (· ≤ reachBytes) = true := hsz0
  have hval : ∀ (j : Nat) t v, Try.f5.params[j]? = some t → args[j]? = some v → Value.okWide Try.prog W .any base t v := hval0
  have hW' := hW
  obtain ⟨p, q, hA0, hV, rfl, hfz, hnd⟩ := hW
  have hA : DataW.TrodAll enc Try.prog W 0 (fun _ => true) true Try.f5.params.toList args.toList ds p := hA0
  rw [Try.params5] at hA hval hsz
  obtain ⟨v0, vs0, d0, ds0, p0, q0, hargs, rfl, rfl, h0, r0⟩ := trodAll_cons hA
  obtain ⟨v1, vs1, d1, ds1, p1, q1, rfl, rfl, rfl, h1, r1⟩ := trodAll_cons r0
  obtain ⟨rfl, rfl, rfl⟩ := trodAll_nil r1
  obtain rfl : args = #[v0, v1] := by cases args; simp_all
  obtain ⟨rfl, rfl⟩ := trodVars_none hV
  obtain ⟨a0, len0, cap0, rfl⟩ := okWide_slice Try.underlying22 (hval 0 22 v0 rfl rfl)
  have k0 := h0
  have lt0 : ∀ x ∈ p0, x.block < W.heap.size := by obtain ⟨m, hm⟩ := k0; exact DataW.trod_lt m _ _ _ hm
  obtain ⟨z0, w0⟩ : ∃ zs, IsRow .u8 W a0 len0 cap0 zs := by
    obtain ⟨fuel, hf⟩ := h0
    rcases open_ints Try.underlying22 Try.underlying5 (by kernel_rfl) hf with ⟨hcs, _⟩ | ⟨x, l, c, zs, hcs, _, hl, hm, hz, _, hcell, hwz⟩
    · simp [Value.cells] at hcs
      obtain ⟨rfl, rfl, rfl⟩ := hcs
      exact ⟨[], .inl ⟨rfl, rfl, rfl, rfl⟩⟩
    · simp [Value.cells] at hcs
      obtain ⟨rfl, rfl, rfl⟩ := hcs
      exact ⟨zs, .inr ⟨_, rfl, hl, hm, by simpa using hz, hcell, hwz⟩⟩
  have y0 : len0 * 1 ≤ 140737488351232 := Go.Proofs.YthliooccgclbjaaW.PrintWords.sized_ints hsz (j := 0) (t := 22) rfl rfl Try.underlying22 Try.underlying5 (by kernel_rfl) (by kernel_rfl) h0
  obtain ⟨a1, len1, cap1, rfl⟩ := okWide_slice Try.underlying22 (hval 1 22 v1 rfl rfl)
  have k1 := h1
  have lt1 : ∀ x ∈ p1, x.block < W.heap.size := by obtain ⟨m, hm⟩ := k1; exact DataW.trod_lt m _ _ _ hm
  obtain ⟨z1, w1⟩ : ∃ zs, IsRow .u8 W a1 len1 cap1 zs := by
    obtain ⟨fuel, hf⟩ := h1
    rcases open_ints Try.underlying22 Try.underlying5 (by kernel_rfl) hf with ⟨hcs, _⟩ | ⟨x, l, c, zs, hcs, _, hl, hm, hz, _, hcell, hwz⟩
    · simp [Value.cells] at hcs
      obtain ⟨rfl, rfl, rfl⟩ := hcs
      exact ⟨[], .inl ⟨rfl, rfl, rfl, rfl⟩⟩
    · simp [Value.cells] at hcs
      obtain ⟨rfl, rfl, rfl⟩ := hcs
      exact ⟨zs, .inr ⟨_, rfl, hl, hm, by simpa using hz, hcell, hwz⟩⟩
  have y1 : len1 * 1 ≤ 140737488351232 := Go.Proofs.YthliooccgclbjaaW.PrintWords.sized_ints hsz (j := 1) (t := 22) rfl rfl Try.underlying22 Try.underlying5 (by kernel_rfl) (by kernel_rfl) h1
  clear hA0 hval0 hsz0 hsz
  refine (P.laws_FnLogs.walk Pure.FnLogs a0 len0 cap0 z0 a1 len1 cap1 z1 W w0 y0 w1 y1).mono fun e W' ⟨he, bel⟩ => ?_
  subst he
  exact ⟨_, rfl, _, _, _, [], _, [], hW', trodAll_mk1 (shut_bool Try.underlying4 _), (trodAll_cons_mk (Below.trod laidOut (by kernel_rfl) (of_decide_eq_true (by kernel_rfl)) k0 bel lt0) (trodAll_cons_mk (Below.trod laidOut (by kernel_rfl) (of_decide_eq_true (by kernel_rfl)) k1 bel lt1) trodAll_mk0)), rfl, bel.frame _, fun h => by cases h⟩
theorem over : Rows.fnLogsRow.holds Try.pinned (OpenSpec.ofChange Rows.fnLogsSpec) :=
  OpenClaim.holds_of_wide 5 Try.f5 rfl rfl rfl rfl rfl rfl rfl ⟨rfl, rfl, rfl, rfl, rfl⟩ rfl rfl rfl rfl rfl (by kernel_rfl) Try.func5 (by kernel_rfl)
    (of_decide_eq_true (by kernel_rfl)) (by unfold Func.isWrapper; first | (rw [if_pos (by decide +kernel)]; kernel_rfl) | (rw [if_neg (by decide +kernel)]; exact ⟨rfl, rfl⟩))
    (fun os started H enc _ => lifted os started H enc)
theorem proved : Rows.FnLogsSaid := over
#print axioms proved
end Go.Proofs.Ythliooccgclbjaa.fnLogs
namespace Go.Proofs.Ythliooccgclbjaa
/-- The row, under a short name, for the claim. -/
theorem fnLogs_holds : Rows.FnLogsSaid := fnLogs.proved
end Go.Proofs.Ythliooccgclbjaa
