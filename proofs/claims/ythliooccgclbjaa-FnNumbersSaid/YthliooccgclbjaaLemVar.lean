import Derived.Test.YthliooccgclbjaaLemBase
import Derived.Test.YthliooccgclbjaaPf8
import Derived.Test.YthliooccgclbjaaPf9
import Derived.Test.YthliooccgclbjaaPf38
import Derived.Test.YthliooccgclbjaaPf39
namespace Go.Proofs.Ythliooccgclbjaa.Lem
open Go.RowKit Go.Proofs.Ythliooccgclbjaa.P Go.Proofs.YthliooccgclbjaaW.PrintWords Go.Proofs.YthliooccgclbjaaW.PrintLast Go.Proofs.YthliooccgclbjaaW.PrintMore

/-- The bytes of a number in groups of seven bits. -/
def pvs (n : Nat) : List Int := if h : n < 128 then [(n : Int)] else ((n % 128 + 128 : Nat) : Int) :: pvs (n / 128)
termination_by n
decreasing_by omega

theorem pvs_small {n : Nat} (h : n < 128) : pvs n = [(n : Int)] := by rw [pvs, dif_pos h]
theorem pvs_big {n : Nat} (h : ¬ n < 128) : pvs n = ((n % 128 + 128 : Nat) : Int) :: pvs (n / 128) := by rw [pvs, dif_neg h]

theorem pvs_bytes : ∀ (d n : Nat), n < 128 ^ (d + 1) → Bytes (pvs n) ∧ (pvs n).length ≤ d + 1 ∧ 1 ≤ (pvs n).length := by
  intro d
  induction d with
  | zero =>
    intro n hn
    rw [pvs_small (by simpa using hn)]
    exact ⟨Bytes.cons (by omega) (by omega) Bytes.nil, by simp, by simp⟩
  | succ d ih =>
    intro n hn
    by_cases h : n < 128
    · rw [pvs_small h]
      exact ⟨Bytes.cons (by omega) (by omega) Bytes.nil, by simp, by simp⟩
    · rw [pvs_big h]
      have hd : n / 128 < 128 ^ (d + 1) := by
        rw [Nat.div_lt_iff_lt_mul (by decide)]
        calc n < 128 ^ (d + 1 + 1) := hn
          _ = 128 ^ (d + 1) * 128 := by rw [Nat.pow_succ]
      obtain ⟨a, b, c⟩ := ih (n / 128) hd
      exact ⟨Bytes.cons (by omega) (by omega) a, by simp; omega, by simp⟩

theorem or128 {y : Int} (h0 : 0 ≤ y) (h1 : y < 256) : Go.bits .or .u8 y 128 = y % 128 + 128 := by
  rw [u8_or y 128 h0 h1 (by decide) (by decide)]
  have key : ∀ z : Fin 256, (z.val ||| 128) = z.val % 128 + 128 := by decide +kernel
  have := key ⟨y.toNat, by omega⟩
  simp only at this
  have e : (128 : Int).toNat = 128 := rfl
  rw [e, this]
  omega

theorem putVar_l0 : ∀ (d k n : Nat) (acc : List Int), n < 128 ^ (d + 1) → d < k → acc.length + d < 140737488355000 → impl_PutVar.l0 k (n : Int) acc = some (acc ++ pvs n) := by
  intro d
  induction d with
  | zero =>
    intro k n acc hn hk ha
    obtain ⟨k, rfl⟩ : ∃ m, k = m + 1 := ⟨k - 1, by omega⟩
    have hn' : n < 128 := by simpa using hn
    simp only [impl_PutVar.l0]
    rw [if_neg (by omega), if_pos (by omega), pvs_small hn', show (n : Int) % 256 = n by omega]
  | succ d ih =>
    intro k n acc hn hk ha
    obtain ⟨k, rfl⟩ : ∃ m, k = m + 1 := ⟨k - 1, by omega⟩
    simp only [impl_PutVar.l0]
    by_cases h : n < 128
    · rw [if_neg (by omega), if_pos (by omega), pvs_small h, show (n : Int) % 256 = n by omega]
    · rw [if_pos (by omega), if_pos (by omega), or128 (by omega) (by omega), show (n : Int) / 128 = ((n / 128 : Nat) : Int) by omega]
      have hd : n / 128 < 128 ^ (d + 1) := by
        rw [Nat.div_lt_iff_lt_mul (by decide)]
        calc n < 128 ^ (d + 1 + 1) := hn
          _ = 128 ^ (d + 1) * 128 := by rw [Nat.pow_succ]
      rw [ih k (n / 128) _ hd (by omega) (by simp; omega), pvs_big h, List.append_assoc]
      congr 2
      simp

theorem lt_pow10 {n : Nat} (h : n < 18446744073709551616) : n < 128 ^ (9 + 1) := Nat.lt_of_lt_of_le h (by decide)

theorem putVar_ok {k n : Nat} (hk : 9 < k) (hn : n < 18446744073709551616) : impl_PutVar.f k (n : Int) = some (pvs n) := by
  unfold impl_PutVar.f
  rw [putVar_l0 9 k n [] (lt_pow10 hn) hk (by simp)]
  rfl

/-! ### reading -/
theorem drop_add {α : Type} (a b : List α) (j : Nat) : (a ++ b).drop (a.length + j) = b.drop j := by
  rw [← List.drop_drop, List.drop_left]
theorem rd_eq {l : List Int} {i : Nat} {x : Int} {t : List Int} (h : l.drop i = x :: t) : rd l (i : Int) = x := by
  unfold Go.Proofs.YthliooccgclbjaaW.PrintWords.rd
  have hl : i < l.length := by
    have := congrArg List.length h
    simp at this; omega
  rw [Int.toNat_natCast, List.getD_eq_getElem?_getD, List.getElem?_eq_getElem hl]
  have h2 := List.drop_eq_getElem_cons hl
  rw [h] at h2
  injection h2 with h3 _
  simp [h3]

theorem and127 {y : Int} (h0 : 0 ≤ y) (h1 : y < 256) : Go.bits .and .u8 y 127 = y % 128 := by
  rw [u8_and y 127 h0 h1 (by decide) (by decide)]
  have key : ∀ z : Fin 256, (z.val &&& 127) = z.val % 128 := by decide +kernel
  have := key ⟨y.toNat, by omega⟩
  simp only at this
  have e : (127 : Int).toNat = 127 := rfl
  rw [e, this]
  omega

theorem or_add {a c i : Nat} (ha : a < 2 ^ i) (hb : a + c * 2 ^ i < 18446744073709551616) : Go.bits .or .u64 (a : Int) ((c * 2 ^ i : Nat) : Int) = ((a + c * 2 ^ i : Nat) : Int) := by
  rw [u64_or_nat _ _ (by omega) (by omega)]
  have h := Nat.two_pow_add_eq_or_of_lt ha c
  rw [Nat.or_comm, show c * 2 ^ i = 2 ^ i * c from Nat.mul_comm _ _, ← h, Nat.add_comm]

theorem shl_ok {c j : Nat} (hj : j ≤ 9) (h : c * 128 ^ j < 18446744073709551616) : shl .u64 (c : Int) ((7 * j : Nat) : Int) = ((c * 2 ^ (7 * j) : Nat) : Int) := by
  have hp : (128 : Nat) ^ j = 2 ^ (7 * j) := by rw [Nat.pow_mul]
  unfold shl
  rw [Int.toNat_natCast, Nat.min_eq_left (by show 7 * j ≤ 64; omega)]
  have e : (c : Int) * 2 ^ (7 * j) = ((c * 2 ^ (7 * j) : Nat) : Int) := by push_cast; rfl
  rw [e]
  exact wu64 (by omega) (by rw [← hp]; omega)

theorem equal_self (l : List Int) : bytes_Equal.f l l = some true := by
  unfold bytes_Equal.f
  simp

theorem within_ok (a b c : Int) : impl_within.f a b c = some (decide (b ≤ a ∧ a ≤ c)) := by
  unfold impl_within.f
  by_cases h : a ≥ b
  · rw [if_pos h]
    congr 1
    simp [show b ≤ a from h]
  · rw [if_neg h]
    congr 1
    simp [show ¬ b ≤ a from h]

theorem cut_mid (pre m post : List Int) : ((pre ++ m ++ post).take ((pre.length + m.length : Nat) : Int).toNat).drop ((pre.length : Nat) : Int).toNat = m := by
  rw [Int.toNat_natCast, Int.toNat_natCast, show pre.length + m.length = (pre ++ m).length by simp, List.take_left, List.drop_left]

/-- One group read: what is known, and this group's number above it. -/
theorem group {n j : Nat} {b q : Int} (hj : j ≤ 9) (hn : n < 18446744073709551616) (h0 : 0 ≤ b) (h1 : b < 256) (hq : b % 128 = ((n / 128 ^ j % 128 : Nat) : Int)) (hx : q = ((7 * j : Nat) : Int)) :
    Go.bits .or .u64 ((n % 128 ^ j : Nat) : Int) (shl .u64 (IntKind.u64.wrap (Go.bits .and .u8 b 127)) q) = ((n % 128 ^ (j + 1) : Nat) : Int) := by
  subst hx
  have hp : (128 : Nat) ^ j = 2 ^ (7 * j) := by rw [Nat.pow_mul]
  rw [and127 h0 h1, wu64 (by omega) (by omega), hq]
  have hm : n % 128 ^ j + n / 128 ^ j % 128 * 128 ^ j = n % 128 ^ (j + 1) := by
    rw [Nat.pow_succ, Nat.mod_mul, Nat.mul_comm (128 ^ j)]
  have hle : n % 128 ^ (j + 1) ≤ n := Nat.mod_le _ _
  rw [shl_ok hj (by omega), or_add (by rw [← hp]; exact Nat.mod_lt _ (Nat.pow_pos (by decide))) (by rw [← hp, hm]; omega), ← hp, hm]

theorem readVar_last (pre post : List Int) (n : Nat) (hn : n < 18446744073709551616) (hlen : (pre ++ pvs n ++ post).length < 4611686018427387904) (k j : Nat) (hq : n / 128 ^ j < 128) (hj : j ≤ 9) (hk : 10 < k) (hdrop : (pvs n).drop j = pvs (n / 128 ^ j)) : impl_ReadVar.l0 (k + 1) (pre ++ pvs n ++ post) (pre.length : Int) ((n % 128 ^ j : Nat) : Int) ((pre.length + j : Nat) : Int) = some ((n : Int), ((pre.length + (pvs n).length : Nat) : Int), true) := by
  have hpb := pvs_bytes 9 n (lt_pow10 hn)
  have hd := hdrop
  rw [pvs_small hq] at hd
  have hjl : (pvs n).length = j + 1 := by
    have := congrArg List.length hd
    simp at this; omega
  have hall : (pre ++ pvs n ++ post).drop (pre.length + j) = ((n / 128 ^ j : Nat) : Int) :: post := by
    rw [List.append_assoc, drop_add, List.drop_append_of_le_length (by omega), hd]; rfl
  have hb := rd_eq hall
  simp only [impl_ReadVar.l0]
  have hlen2 : (pre ++ pvs n ++ post).length = pre.length + (pvs n).length + post.length := by simp [Nat.add_assoc]
  rw [show wrap64 ((pre.length : Int) + 10) = (pre.length : Int) + 10 from w64 (by omega) (by omega)]
  rw [if_pos (by unfold mn; split <;> omega), if_pos (by omega), if_pos (by omega)]
  have hw : wrap64 (7 * wrap64 (((pre.length + j : Nat) : Int) - (pre.length : Int))) = ((7 * j : Nat) : Int) := by
    rw [show wrap64 (((pre.length + j : Nat) : Int) - (pre.length : Int)) = (j : Int) from by rw [w64 (by omega) (by omega)]; omega, w64 (by omega) (by omega)]
    omega
  have hmod : n % 128 ^ (j + 1) = n := Nat.mod_eq_of_lt (by
    rw [Nat.pow_succ, Nat.mul_comm]
    exact (Nat.div_lt_iff_lt_mul (Nat.pow_pos (by decide))).1 hq)
  have hgrp := group (n := n) (j := j) (b := ((n / 128 ^ j : Nat) : Int)) hj hn (Int.natCast_nonneg _) (Int.ofNat_lt.2 (Nat.lt_trans hq (by decide))) (Int.natCast_emod _ 128).symm rfl
  rw [hmod] at hgrp
  rw [hw, if_pos (by omega), hb, if_pos (show ((n / 128 ^ j : Nat) : Int) < 128 from Int.ofNat_lt.2 hq), hgrp]
  have hput := putVar_ok (k := k) (n := n) (Nat.lt_trans (by decide) hk) hn
  rw [hput, Option.bind_some]
  clear hput hgrp hmod hb hall hd hdrop hq hw
  have hw1 : wrap64 (((pre.length + j : Nat) : Int) + 1) = ((pre.length + (pvs n).length : Nat) : Int) := by rw [w64 (by omega) (by omega)]; omega
  have h1 : (0 : Int) ≤ (pre.length : Int) := Int.natCast_nonneg _
  have h2 : (pre.length : Int) ≤ ((pre.length + (pvs n).length : Nat) : Int) := Int.ofNat_le.2 (Nat.le_add_right _ _)
  have h3 : ((pre.length + (pvs n).length : Nat) : Int) ≤ ((pre ++ pvs n ++ post).length : Int) := Int.ofNat_le.2 (by rw [hlen2]; exact Nat.le_add_right _ _)
  rw [hw1, if_pos h1, if_pos h2, if_pos h3, cut_mid, equal_self]
  rw [Option.bind_some, if_pos rfl]


theorem readVar_l0 (pre post : List Int) (n : Nat) (hn : n < 18446744073709551616) (hlen : (pre ++ pvs n ++ post).length < 4611686018427387904) :
    ∀ (d k j : Nat), n / 128 ^ j < 128 ^ (d + 1) → j + d = 9 → d + 12 < k → (pvs n).drop j = pvs (n / 128 ^ j) →
      impl_ReadVar.l0 k (pre ++ pvs n ++ post) (pre.length : Int) ((n % 128 ^ j : Nat) : Int) ((pre.length + j : Nat) : Int) = some ((n : Int), ((pre.length + (pvs n).length : Nat) : Int), true) := by
  intro d
  have hpb := pvs_bytes 9 n (lt_pow10 hn)
  induction d with
  | zero =>
    intro k j hq hj hk hdrop
    obtain ⟨k, rfl⟩ : ∃ m, k = m + 1 := ⟨k - 1, by omega⟩
    have hq' : n / 128 ^ j < 128 := by simpa using hq
    exact readVar_last pre post n hn hlen k j hq' (by omega) (by omega) hdrop
  | succ d ih =>
    intro k j hq hj hk hdrop
    by_cases hs : n / 128 ^ j < 128
    · obtain ⟨k, rfl⟩ : ∃ m, k = m + 1 := ⟨k - 1, by omega⟩
      exact readVar_last pre post n hn hlen k j hs (by omega) (by omega) hdrop
    · obtain ⟨k, rfl⟩ : ∃ m, k = m + 1 := ⟨k - 1, by omega⟩
      have hd := hdrop
      rw [pvs_big hs] at hd
      have hjl : j < (pvs n).length := by
        have := congrArg List.length hd
        simp at this; omega
      have hall : (pre ++ pvs n ++ post).drop (pre.length + j) = ((n / 128 ^ j % 128 + 128 : Nat) : Int) :: (pvs (n / 128 ^ j / 128) ++ post) := by
        rw [List.append_assoc, drop_add, List.drop_append_of_le_length (by omega), hd]; rfl
      have hb := rd_eq hall
      have hdiv : n / 128 ^ j / 128 = n / 128 ^ (j + 1) := by rw [Nat.div_div_eq_div_mul, Nat.pow_succ]
      simp only [impl_ReadVar.l0]
      have hlen2 : (pre ++ pvs n ++ post).length = pre.length + (pvs n).length + post.length := by simp [Nat.add_assoc]
      rw [show wrap64 ((pre.length : Int) + 10) = (pre.length : Int) + 10 from w64 (by omega) (by omega)]
      rw [if_pos (by unfold mn; split <;> omega), if_pos (by omega), if_pos (by omega)]
      have hw : wrap64 (7 * wrap64 (((pre.length + j : Nat) : Int) - (pre.length : Int))) = ((7 * j : Nat) : Int) := by
        rw [show wrap64 (((pre.length + j : Nat) : Int) - (pre.length : Int)) = (j : Int) from by rw [w64 (by omega) (by omega)]; omega, w64 (by omega) (by omega)]
        omega
      rw [hw, if_pos (by omega), hb, if_neg (by omega), group (by omega) hn (by omega) (by omega) (by omega) rfl]
      rw [show wrap64 (((pre.length + j : Nat) : Int) + 1) = ((pre.length + (j + 1) : Nat) : Int) from by rw [w64 (by omega) (by omega)]; omega]
      refine ih k (j + 1) ?_ (by omega) (by omega) ?_
      · rw [← hdiv, Nat.div_lt_iff_lt_mul (by decide)]
        rw [Nat.pow_succ] at hq
        exact hq
      · rw [← hdiv, ← List.drop_drop, hd]
        rfl
/-- A number comes back from its bytes, wherever it begins. -/
theorem readVar_ok {k : Nat} {pre post : List Int} {n : Nat} (hk : 22 < k) (hn : n < 18446744073709551616) (hlen : (pre ++ pvs n ++ post).length < 4611686018427387904) :
    impl_ReadVar.f k (pre ++ pvs n ++ post) (pre.length : Int) = some ((n : Int), ((pre.length + (pvs n).length : Nat) : Int), true) := by
  unfold impl_ReadVar.f
  rw [within_ok]
  simp only [Option.bind_some]
  rw [if_pos (by simp; omega)]
  have := readVar_l0 pre post n hn hlen 9 k 0 (by simpa using lt_pow10 hn) rfl (by omega) (by simp)
  simpa using this

end Go.Proofs.Ythliooccgclbjaa.Lem
