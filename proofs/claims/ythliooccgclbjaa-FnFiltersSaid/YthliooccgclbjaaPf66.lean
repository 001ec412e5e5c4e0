-- written by a program of this session's (wip/pp)
import Derived.Test.YthliooccgclbjaaPx0
namespace Go.Proofs.Ythliooccgclbjaa.P
open Go.RowKit Go.Proofs.YthliooccgclbjaaW.PrintWords Go.Proofs.YthliooccgclbjaaW.PrintLast Go.Proofs.YthliooccgclbjaaW.PrintMore
attribute [local go_sem] max2_int min2_int max_two min_two max_three min_three max_four min_four   -- for this text's walks alone
set_option linter.unusedVariables false
set_option linter.unusedSimpArgs false

/-! ### impl_hash: function 66 -/
def impl_hash.l0 : Nat → ByteArray → Int → Int → Option (Int)
  | 0, _, _, _ => none
  | k + 1, x0, x5, x6 => if x6 < (x0.size : Int) then (if 0 ≤ x6 then (impl_hash.l0 k x0 (((Go.bits .xor .u32 x5 ((bt x0 x6) % 4294967296)) * 16777619) % 4294967296) (wrap64 (x6 + 1))) else (none)) else (some (Go.bits .xor .u32 x5 (x5 / 32768)))
def impl_hash.f (k : Nat) (a0 : ByteArray) (a1 : Int) : Option (Int) := impl_hash.l0 k a0 ((2166136261 + ((((a1) % 4294967296) * 40503) % 4294967296)) % 4294967296) 0
theorem impl_hash.mono_l : ∀ k, (∀ y0 y1 y2, LeO (impl_hash.l0 k y0 y1 y2) (impl_hash.l0 (k + 1) y0 y1 y2))
  | 0 => fun _ _ _ r h => by simp [impl_hash.l0] at h
  | k + 1 => by
    have ih0 := impl_hash.mono_l k
    intro y0 y1 y2
    unfold impl_hash.l0
    repeat' first
    | (with_reducible exact ih0 _ _ _)
    | (with_reducible exact LeO.refl _)
    | (with_reducible exact LeO.none _)
    | (with_reducible refine LeO.ite ?_ ?_)
theorem impl_hash.mono : ∀ a0 a1 k, LeO (impl_hash.f k a0 a1) (impl_hash.f (k + 1) a0 a1) := fun a0 a1 k => impl_hash.mono_l k _ _ _
set_option maxHeartbeats 8000000 in
set_option maxRecDepth 100000 in
theorem impl_hash.calls (k : Nat) (a0 : ByteArray) (a1 : Int) (r : Int) (w : World) (h : impl_hash.f k a0 a1 = some r) :
    Calls Try.prog 66 #[.string a0, .int .i64 a1] w fun e w' => e = .returned (.int .u32 r) ∧ Below w.heap.size w w' := by
  have H : (impl_hash.l0 k a0 ((2166136261 + ((((a1) % 4294967296) * 40503) % 4294967296)) % 4294967296) 0) = some r := h
  clear h
  have H' := Aside0.mk H
  clear H
  have hcv := Go.Lib.run_convert_string_bytes (P := Try.prog) w 9 22 5 a0 Try.underlying9 Try.underlying22 Try.underlying5
  have hb : Below w.heap.size w (Go.Lib.bytesWorld w 5 a0) := ⟨rfl, rfl, rfl, by rw [Go.Lib.bytesWorld_size]; omega, fun k hk => Go.Lib.bytesWorld_at_old w 5 a0 k hk⟩
  have hcell : ∀ j : Int, 0 ≤ j → j < a0.size → (Go.Lib.bytesWorld w 5 a0).cell? ⟨w.heap.size, j.toNat, none⟩ = some (.int .u8 (bt a0 j)) := by
    intro j h0 h1
    have := Go.Lib.bytesWorld_cell w 5 a0 j.toNat (by omega)
    rw [this]
    simp [bt, show j.toNat < a0.size by omega]
    rfl
  generalize Go.Lib.bytesWorld w 5 a0 = w1 at hcv hb hcell
  have HB := Aside0.mk hb
  have HC := Aside0.mk hcell
  clear hb hcell
  obtain ⟨c1, hc1⟩ : ∃ c1 : Nat, c1 = Go.grownCap w a0.size 0 5 := ⟨_, rfl⟩
  rw [← hc1] at hcv
  obtain ⟨g1, hg1⟩ : ∃ g1 : Nat, g1 = w.heap.size := ⟨_, rfl⟩
  rw [← hg1] at hcv
  replace HC := Aside0.mk (hg1 ▸ HC.out)
  clear hc1 hg1
  go_enter Try.func66, Try.ntmps66
  go_wp2
  go_loopg [5, 15] k (fun kq v5 v15 w' => ∃ (x5_1 : Int) (x6_1 : Int), v5 = .int .u32 x5_1 ∧ v15 = .int .i64 x6_1 ∧ Aside0 (impl_hash.l0 kq a0 x5_1 x6_1 = some r) ∧ Aside0 (kq ≤ k) ∧ Drawn0 w1 w')
  case atStart => exact ⟨((2166136261 + ((((a1) % 4294967296) * 40503) % 4294967296)) % 4294967296), (0), (by first | rfl | (simp; done) | (simp [*]; done)), (by first | rfl | (simp; done) | (simp [*]; done)), H', ⟨Nat.le_refl _⟩, by repeat (first | exact Drawn0.refl _ | apply Drawn0.step)⟩
  case round =>
    clear H'
    obtain ⟨x5_1, x6_1, rfl, rfl, HA, HK1, ⟨m1, rfl⟩⟩ := hrel
    cases gk with
    | zero => exact absurd HA.out (by simp [impl_hash.l0])
    | succ k1 =>
      have H := HA.out
      clear HA
      simp only [impl_hash.l0] at H
      by_cases c3 : x6_1 < (a0.size : Int)
      · rw [if_pos c3] at H
        have c3b0 : decide (x6_1 < (a0.size : Int)) = true := decide_eq_true c3
        by_cases c4 : 0 ≤ x6_1
        · rw [if_pos c4] at H
          have c4b0 : decide (0 ≤ x6_1) = true := decide_eq_true c4
          have hx5 := HC.out x6_1 c4 c3
          clear c3 c4
          have H' := Aside0.mk H
          clear H
          have p5 : 0 ≤ (x6_1 : Int) := of_decide_eq_true (by first | (with_reducible assumption) | assumption)
          have q5 : x6_1 < (a0.size : Int) := of_decide_eq_true (by first | (with_reducible assumption) | assumption)
          replace p5 := eq_true p5
          replace q5 := eq_true q5
          go_wp2
          go_roundg k1
          case measure => have := HK1.out; omega
          case rel => exact ⟨(((Go.bits .xor .u32 x5_1 ((bt a0 x6_1) % 4294967296)) * 16777619) % 4294967296), (wrap64 (x6_1 + 1)), (by first | rfl | (simp; done) | (simp [*]; done)), (by first | rfl | (simp; done) | (simp [*]; done)), H', ⟨by have := HK1.out; omega⟩, by repeat (first | exact Drawn0.refl _ | apply Drawn0.step)⟩
        · rw [if_neg c4] at H
          exact absurd H (by simp)
      · rw [if_neg c3] at H
        have c3b0 : decide (x6_1 < (a0.size : Int)) = false := decide_eq_false c3
        clear c3
        obtain rfl := Option.some.inj H
        go_wp2
        go_ret
        exact ⟨by first | rfl | (simp; done) | (simp [*]; done), by repeat (first | exact HB.out | apply pw_below_drewN | apply below_drew1)⟩

end Go.Proofs.Ythliooccgclbjaa.P
