/- The statement's own text and the last of the walks that it uses. -/
import Derived.Lib.AtoiAllCases
import Derived.ChangeArms
import Derived.ChangeSlices
import Derived.DataReads
import Derived.Handed
import Derived.Shelf.Vars
import Derived.Test.YteogadaloebdaaaDoorRows
import Derived.Test.YteogadaloebdaaaDoorTie
import Derived.Test.YteogadaloebdaaaDoorCards
import Derived.WalkKit
import Derived.ProofKit
import Derived.OpenShut
import Derived.ChangeOld
import Derived.Below
import Derived.Lay
import Derived.MakeChecks
import Derived.LaidHandle
import Derived.Lib.LaidTab
import Derived.Stop.LaidErr
import Derived.JoinedOf
import Derived.SevenTiedAt
import Derived.RowKit
import Derived.Test.YteogadaloebdaaaDoorMTexts4

/- Numbers read out of texts: the specification's reader, and the library's Atoi. -/
namespace Go.Proofs.YteogadaloebdaaaDoor.Lem
open Go Go.RowKit Go.Proofs.YteogadaloebdaaaDoor.P Go.Proofs.YteogadaloebdaaaDoorW.PrintWords Go.Proofs.YteogadaloebdaaaDoorW.PrintLast Go.Proofs.YteogadaloebdaaaDoorW.PrintMore

def dig (b : UInt8) : Bool := decide (48 ≤ b.toNat) && decide (b.toNat ≤ 57)
theorem dig_iff (b : UInt8) : dig b = true ↔ 48 ≤ b.toNat ∧ b.toNat ≤ 57 := by
  unfold dig
  generalize b.toNat = n
  constructor
  · intro h
    rw [Bool.and_eq_true] at h
    exact ⟨of_decide_eq_true h.1, of_decide_eq_true h.2⟩
  · intro h
    rw [decide_eq_true h.1, decide_eq_true h.2]
    rfl
def val (acc : Nat) (l : List UInt8) : Nat := l.foldl (fun a b => a * 10 + (b.toNat - 48)) acc
theorem val_nil (acc : Nat) : val acc [] = acc := by
  unfold val
  exact List.foldl_nil ..
theorem val_cons (acc : Nat) (b : UInt8) (l : List UInt8) : val acc (b :: l) = val (acc * 10 + (b.toNat - 48)) l := by
  unfold val
  exact List.foldl_cons ..
theorem val_snoc (acc : Nat) (l : List UInt8) (b : UInt8) : val acc (l ++ [b]) = val acc l * 10 + (b.toNat - 48) := by
  unfold val
  rw [List.foldl_append, List.foldl_cons, List.foldl_nil]
theorem val_ge : ∀ (l : List UInt8) (acc : Nat), acc ≤ val acc l
  | [], acc => by rw [val_nil]; exact Nat.le_refl _
  | b :: l, acc => by
    have := val_ge l (acc * 10 + (b.toNat - 48))
    rw [val_cons]
    omega
theorem byte_of {b : UInt8} {n : Nat} (h : 48 ≤ b.toNat ∧ b.toNat ≤ 57) (e : n = b.toNat - 48) : UInt8.ofNat (48 + n) = b := by
  apply UInt8.toNat_inj.1
  rw [UInt8.toNat_ofNat']
  omega
theorem of_byte {n : Nat} (h : n < 10) : (UInt8.ofNat (48 + n)).toNat = 48 + n := by
  rw [UInt8.toNat_ofNat']
  omega

/-- Digits without a zero ahead are the text of their number. -/
theorem dec_val : ∀ (n : Nat) (l : List UInt8), l.length = n + 1 → l.all dig = true → (n = 0 ∨ l.head? ≠ some 48) → Go.Lib.decDigits (val 0 l) = l ∧ (n = 0 ∨ 1 ≤ val 0 l) ∧ (l.head? ≠ some 48 → 1 ≤ val 0 l)
  | 0, l, hl, hd, _ => by
    obtain ⟨b, rfl⟩ : ∃ b, l = [b] := List.length_eq_one_iff.1 hl
    have hb : 48 ≤ b.toNat ∧ b.toNat ≤ 57 := (dig_iff b).1 (by simpa using hd)
    have hv : val 0 [b] = b.toNat - 48 := by rw [val_cons, val_nil]; omega
    refine ⟨?_, Or.inl rfl, fun h => ?_⟩
    · rw [hv, Go.Lib.decDigits_one (by omega), byte_of hb rfl]
    · rw [hv]
      have : b ≠ 48 := fun x => h (by rw [x]; rfl)
      have h2 : b.toNat ≠ 48 := fun x => this (UInt8.toNat_inj.1 x)
      omega
  | n + 1, l, hl, hd, hz => by
    obtain ⟨l', b, rfl⟩ : ∃ l' b, l = l' ++ [b] := by
      refine ⟨l.dropLast, l.getLast (fun x => by rw [x] at hl; cases hl), (List.dropLast_concat_getLast _).symm⟩
    rw [List.length_append, List.length_singleton] at hl
    rw [List.all_append, Bool.and_eq_true] at hd
    have hb : 48 ≤ b.toNat ∧ b.toNat ≤ 57 := (dig_iff b).1 (by simpa using hd.2)
    have hh : (l' ++ [b]).head? = l'.head? := by
      cases l' with
      | nil => cases hl
      | cons => rfl
    rw [hh] at hz ⊢
    have hz' : l'.head? ≠ some 48 := hz.resolve_left (by omega)
    obtain ⟨i1, _, i2⟩ := dec_val n l' (by omega) hd.1 (Or.inr hz')
    have i3 := i2 hz'
    rw [val_snoc]
    refine ⟨?_, Or.inr (by omega), fun _ => by omega⟩
    rw [Go.Lib.decDigits, dif_neg (by omega), show (val 0 l' * 10 + (b.toNat - 48)) / 10 = val 0 l' by omega, i1, byte_of hb (by omega)]

/-- The text of a number: digits, its value, no zero ahead, its length. -/
theorem dec_text : ∀ (m n : Nat), n < 10 ^ (m + 1) → (Go.Lib.decDigits n).all dig = true ∧ val 0 (Go.Lib.decDigits n) = n ∧ (Go.Lib.decDigits n).length ≤ m + 1 ∧ 1 ≤ (Go.Lib.decDigits n).length ∧ (1 ≤ n → (Go.Lib.decDigits n).head? ≠ some 48)
  | m, n, hn => by
    by_cases h10 : n < 10
    · rw [Go.Lib.decDigits_one h10]
      have hb := of_byte h10
      refine ⟨?_, ?_, by rw [List.length_singleton]; omega, Nat.le_refl _, fun h1 x => ?_⟩
      · rw [List.all_cons, List.all_nil, Bool.and_true, dig_iff, hb]
        omega
      · rw [val_cons, hb]
        rw [val_nil]
        omega
      · injection x with x
        rw [x] at hb
        have : (48 : UInt8).toNat = 48 := rfl
        omega
    · cases m with
      | zero => omega
      | succ m =>
        have hdiv : n / 10 < 10 ^ (m + 1) := by
          rw [Nat.div_lt_iff_lt_mul (by decide), ← Nat.pow_succ]
          exact hn
        obtain ⟨i1, i2, i3, i4, i5⟩ := dec_text m (n / 10) hdiv
        clear hn hdiv
        have hb := of_byte (n := n % 10) (by omega)
        rw [Go.Lib.decDigits, dif_neg h10]
        refine ⟨?_, ?_, by rw [List.length_append, List.length_singleton]; omega, by rw [List.length_append, List.length_singleton]; omega, fun _ => ?_⟩
        · rw [List.all_append, i1, Bool.true_and, List.all_cons, List.all_nil, Bool.and_true, dig_iff, hb]
          omega
        · rw [val_snoc, i2, hb]
          omega
        · have h5 := i5 (by omega)
          cases e : Go.Lib.decDigits (n / 10) with
          | nil => rw [e] at i4; exact absurd i4 (by decide)
          | cons x r => rw [e] at h5; exact h5

theorem parse_ok : ∀ (l : List UInt8) (acc : Nat), l.all dig = true → val acc l < 1844674407370955162 → Go.Lib.parseUint10 acc l = .ok (val acc l)
  | [], acc, _, _ => by rw [val_nil, Go.Lib.parseUint10]
  | b :: l, acc, hd, hv => by
    rw [List.all_cons, Bool.and_eq_true] at hd
    have hb := (dig_iff b).1 hd.1
    rw [val_cons] at hv ⊢
    have := val_ge l (acc * 10 + (b.toNat - 48))
    rw [Go.Lib.parseUint10, if_pos hb, if_neg (by omega), if_neg (by omega), parse_ok l _ hd.2 hv]
theorem atoi_itoa {n : Int} (h0 : 0 ≤ n) (h1 : n ≤ 1000000000) : Go.Lib.atoiAll (numT n).data.toList = .ok n := by
  obtain ⟨u, rfl⟩ : ∃ u : Nat, n = u := ⟨n.toNat, by omega⟩
  show Go.Lib.atoiAll (Go.Lib.itoa (u : Int)) = _
  rw [Go.Lib.itoa_nonneg]
  obtain ⟨i1, i2, i3, i4, i5⟩ := dec_text 9 u (by omega)
  cases e : Go.Lib.decDigits u with
  | nil => rw [e] at i4; exact absurd i4 (by decide)
  | cons c r =>
    have hc : 48 ≤ c.toNat ∧ c.toNat ≤ 57 := by
      rw [e, List.all_cons, Bool.and_eq_true] at i1
      exact (dig_iff c).1 i1.1
    rw [Go.Lib.atoiAll_plain c r (by omega) (by omega), ← e]
    unfold Go.Lib.parseMag
    rw [if_neg (by rw [e]; exact List.cons_ne_nil _ _), parse_ok _ 0 i1 (by rw [i2]; omega), i2]
    unfold Go.Lib.signless
    dsimp only
    rw [if_neg (by omega)]

theorem l12Number_l0 (s : ByteArray) (hs : s.size ≤ 10) : ∀ (d i k acc : Nat), i + d = s.size → d < k → acc < 10 ^ i →
    spec_l12Number.l0 k s (acc : Int) (i : Int) = some (if (s.data.toList.drop i).all dig = true then (val acc (s.data.toList.drop i) : Int) else -1) := by
  intro d
  induction d with
  | zero =>
    intro i k acc hi hk ha
    obtain ⟨k, rfl⟩ : ∃ q, k = q + 1 := ⟨k - 1, by omega⟩
    clear ha
    have hlen : s.data.toList.length = s.size := (Go.Lib.size_eq s).symm
    rw [spec_l12Number.l0, if_neg (by omega), List.drop_of_length_le (by omega), if_pos (by rfl), val_nil]
  | succ d ih =>
    intro i k acc hi hk ha
    obtain ⟨k, rfl⟩ : ∃ q, k = q + 1 := ⟨k - 1, by omega⟩
    have hlen : s.data.toList.length = s.size := (Go.Lib.size_eq s).symm
    have hlt : i < s.data.toList.length := by omega
    have hbig : acc < 10000000000 := by
      have : (10 : Nat) ^ i ≤ 10 ^ 10 := Nat.pow_le_pow_right (by decide) (by omega)
      have e10 : (10 : Nat) ^ 10 = 10000000000 := by decide
      rw [e10] at this
      exact Nat.lt_of_lt_of_le ha this
    have hnext : ∀ x, x < 10 → acc * 10 + x < 10 ^ (i + 1) := by
      intro x hx
      rw [Nat.pow_succ]
      generalize 10 ^ i = p at ha
      omega
    clear ha
    have hb256 : (s.data.toList[i]).toNat < 256 := UInt8.toNat_lt _
    rw [spec_l12Number.l0, if_pos (by omega), if_pos (by omega), bt_get (by omega), drop_get hlt, List.all_cons]
    by_cases h1 : (s.data.toList[i]).toNat < 48
    · rw [if_pos (by omega), show dig s.data.toList[i] = false from by rw [Bool.eq_false_iff, Ne, dig_iff]; omega, Bool.false_and, if_neg (by decide)]
    · rw [if_neg (by omega)]
      by_cases h2 : 57 < (s.data.toList[i]).toNat
      · rw [if_pos (by omega), show dig s.data.toList[i] = false from by rw [Bool.eq_false_iff, Ne, dig_iff]; omega, Bool.false_and, if_neg (by decide)]
      · rw [if_neg (by omega), show dig s.data.toList[i] = true from (dig_iff _).2 (by omega), Bool.true_and, val_cons]
        have ih' := ih (i + 1) k (acc * 10 + ((s.data.toList[i]).toNat - 48)) (by omega) (by omega) (hnext _ (by omega))
        rw [w64 (x := 10 * (acc : Int)) (by omega) (by omega), w64 (by omega) (by omega), show wrap64 ((i : Int) + 1) = ((i + 1 : Nat) : Int) from by rw [w64 (by omega) (by omega)]; omega,
          show 10 * (acc : Int) + (((s.data.toList[i]).toNat : Int) - 48) % 256 = ((acc * 10 + ((s.data.toList[i]).toNat - 48) : Nat) : Int) by omega]
        exact ih'
/-- What the specification's reader answers: the number whose text it is, else -1. -/
theorem l12Number_ok (s : ByteArray) {k : Nat} (hk : 13 < k) : ∃ n : Int, spec_l12Number.f k s = some n ∧ (n = -1 ∨ (0 ≤ n ∧ s = numT n)) := by
  obtain ⟨k, rfl⟩ : ∃ q, k = q + 1 := ⟨k - 1, by omega⟩
  unfold spec_l12Number.f
  rw [l1InB_ok, Option.bind_some]
  by_cases hsz : 1 ≤ s.size ∧ s.size ≤ 10
  · rw [if_pos (by rw [decide_eq_true (by omega), decide_eq_true (by omega)]; rfl), if_pos (by omega)]
    have hlen : s.data.toList.length = s.size := (Go.Lib.size_eq s).symm
    have hl := l12Number_l0 s hsz.2 s.size 0 k 0 (by omega) (by omega) (by decide)
    rw [List.drop_zero] at hl
    have hgood : (s.size = 1 ∨ s.data.toList.head? ≠ some 48) → ∃ n : Int, spec_l12Number.j0 (k + 1) s false = some n ∧ (n = -1 ∨ (0 ≤ n ∧ s = numT n)) := by
      intro hz
      rw [spec_l12Number.j0, if_neg (by decide)]
      refine ⟨_, hl, ?_⟩
      by_cases hd : s.data.toList.all dig = true
      · rw [if_pos hd]
        refine Or.inr ⟨by omega, ?_⟩
        apply Go.WideShapes.bytes_inj
        show s.data.toList = Go.Lib.itoa (val 0 s.data.toList : Int)
        rw [Go.Lib.itoa_nonneg]
        exact (dec_val (s.size - 1) s.data.toList (by omega) hd (by
          rcases hz with h | h
          · exact Or.inl (by omega)
          · exact Or.inr h)).1.symm
      · rw [if_neg hd]
        exact Or.inl rfl
    have hhead : s.data.toList.head? = some (s.data.toList[0]'(by omega)) := by rw [List.head?_eq_getElem?, List.getElem?_eq_getElem]
    have hbt := bt_get (s := s) (i := 0) (by omega)
    rw [show ((0 : Nat) : Int) = 0 from rfl] at hbt
    rw [hbt]
    by_cases h48 : (s.data.toList[0]'(by omega)).toNat = 48
    · rw [if_pos (by omega)]
      by_cases h1 : s.size = 1
      · rw [show (decide ((s.size : Int) > 1)) = false from decide_eq_false (by omega)]
        exact hgood (Or.inl h1)
      · rw [show (decide ((s.size : Int) > 1)) = true from decide_eq_true (by omega), spec_l12Number.j0, if_pos rfl]
        exact ⟨-1, rfl, Or.inl rfl⟩
    · rw [if_neg (by omega)]
      refine hgood (Or.inr ?_)
      rw [hhead]
      intro x
      injection x with x
      exact h48 (by rw [x]; rfl)
  · rw [if_neg (by
      rw [Bool.and_eq_true, decide_eq_true_iff, decide_eq_true_iff]
      omega), spec_l12Number.j0, if_pos rfl]
    exact ⟨-1, rfl, Or.inl rfl⟩
theorem l12Number_num {n : Int} (h0 : 0 ≤ n) (h1 : n ≤ 1000000000) {k : Nat} (hk : 13 < k) : spec_l12Number.f k (numT n) = some n := by
  obtain ⟨u, rfl⟩ : ∃ u : Nat, n = u := ⟨n.toNat, by omega⟩
  obtain ⟨k, rfl⟩ : ∃ q, k = q + 1 := ⟨k - 1, by omega⟩
  obtain ⟨i1, i2, i3, i4, i5⟩ := dec_text 9 u (by omega)
  have el : (numT (u : Int)).data.toList = Go.Lib.decDigits u := by
    show Go.Lib.itoa (u : Int) = _
    rw [Go.Lib.itoa_nonneg]
  have hlen : (numT (u : Int)).size = (Go.Lib.decDigits u).length := by rw [Go.Lib.size_eq, el]
  generalize numT (u : Int) = s at el hlen ⊢
  have hl := l12Number_l0 s (by omega) s.size 0 k 0 (by omega) (by omega) (by decide)
  rw [List.drop_zero, el, if_pos i1, i2] at hl
  unfold spec_l12Number.f
  rw [l1InB_ok, Option.bind_some, if_pos (by rw [decide_eq_true (by omega), decide_eq_true (by omega)]; rfl), if_pos (by omega)]
  have hj : spec_l12Number.j0 (k + 1) s false = some (u : Int) := by
    rw [spec_l12Number.j0, if_neg (by decide)]
    exact hl
  by_cases h48 : bt s 0 = 48
  · rw [if_pos h48]
    have hu : u = 0 := by
      rcases Nat.eq_zero_or_pos u with h | h
      · exact h
      · exfalso
        have hbt := bt_get (s := s) (i := 0) (by omega)
        rw [show ((0 : Nat) : Int) = 0 from rfl, h48] at hbt
        refine i5 h ?_
        rw [← el, List.head?_eq_getElem?, List.getElem?_eq_getElem (by rw [← Go.Lib.size_eq]; omega)]
        congr 1
        apply UInt8.toNat_inj.1
        show _ = 48
        omega
    subst hu
    rw [show (decide ((s.size : Int) > 1)) = false from decide_eq_false (by rw [hlen, Go.Lib.decDigits_one (by decide)]; decide)]
    exact hj
  · rw [if_neg h48]
    exact hj
end Go.Proofs.YteogadaloebdaaaDoor.Lem

-- written by a program of this session's (wip/pp)
namespace Go.Proofs.YteogadaloebdaaaDoor.P
open Go.RowKit Go.Proofs.YteogadaloebdaaaDoorW.PrintWords Go.Proofs.YteogadaloebdaaaDoorW.PrintLast Go.Proofs.YteogadaloebdaaaDoorW.PrintMore
attribute [local go_sem] max2_int min2_int max_two min_two max_three min_three max_four min_four str_geq str_gtr str_leq   -- for this text's walks alone
set_option linter.unusedVariables false
set_option linter.unusedSimpArgs false

/-! ### spec_l12ReadKey: function 52 -/
def spec_l12ReadKey.l0 : Nat → List ByteArray → Int → Int → ByteArray → List (S69) → Int → Option (ByteArray × (List (S69)) × Int × Bool)
 | 0, _, _, _, _, _, _ => none
 | k + 1, x23, x24, x25, x108000, x108001, x108002 => if x25 < x24 then (if 0 ≤ x25 then (if x25 < (x23.length : Int) then (if x25 = 0 then (spec_l12ReadKey.l0 k x23 x24 (wrap64 (x25 + 1)) (rdOf ByteArray.empty x23 x25) x108001 x108002) else ((spec_l12Split.f k (rdOf ByteArray.empty x23 x25) 61).bind fun t114 => (if (t114.length : Int) = 2 then (if 0 < (t114.length : Int) then (if 1 < (t114.length : Int) then (if x108001.length < 4398046511104 then (spec_l12ReadKey.l0 k x23 x24 (wrap64 (x25 + 1)) x108000 (x108001 ++ [(⟨rdOf ByteArray.empty t114 0, rdOf ByteArray.empty t114 1⟩ : S69)]) x108002) else (none)) else (none)) else (none)) else (some ((⟨#[]⟩ : ByteArray), ([] : List (S69)), 0, false))))) else (none)) else (none)) else ((spec_GoodKey.f k x108000 x108001 x108002).bind fun t112 => (if t112 = true then (some (x108000, x108001, x108002, true)) else (some ((⟨#[]⟩ : ByteArray), ([] : List (S69)), 0, false))))
def spec_l12ReadKey.f (k : Nat) (a0 : ByteArray) : Option (ByteArray × (List (S69)) × Int × Bool) := (spec_l12Split.f k a0 64).bind fun t102 => (if (t102.length : Int) = 2 then (if 1 < (t102.length : Int) then ((spec_l12Number.f k (rdOf ByteArray.empty t102 1)).bind fun t106 => (if 0 < (t102.length : Int) then ((spec_l12Split.f k (rdOf ByteArray.empty t102 0) 44).bind fun t109 => (spec_l12ReadKey.l0 k t109 (t109.length : Int) 0 (⟨#[]⟩ : ByteArray) ([] : List (S69)) t106)) else (none))) else (none)) else (some ((⟨#[]⟩ : ByteArray), ([] : List (S69)), 0, false)))
theorem spec_l12ReadKey.mono_l : ∀ k, (∀ y0 y1 y2 y3 y4 y5, LeO (spec_l12ReadKey.l0 k y0 y1 y2 y3 y4 y5) (spec_l12ReadKey.l0 (k + 1) y0 y1 y2 y3 y4 y5))
 | 0 => fun _ _ _ _ _ _ r h => by simp [spec_l12ReadKey.l0] at h
 | k + 1 => by
  have ih0 := spec_l12ReadKey.mono_l k
  · intro y0 y1 y2 y3 y4 y5
    unfold spec_l12ReadKey.l0
    repeat' first
     | (with_reducible first | exact ih0 .. | exact spec_GoodKey.mono .. | exact spec_l12Number.mono .. | exact spec_l12Split.mono .. | exact LeO.refl _ | exact LeO.none _ | refine LeO.ite ?_ ?_ | refine LeO.bind ?_ (fun _ => ?_))
     | exact LeO.none _
     | refine LeO.ite ?_ ?_
     | refine LeO.bind ?_ (fun _ => ?_)
theorem spec_l12ReadKey.mono : ∀ a0 k, LeO (spec_l12ReadKey.f k a0) (spec_l12ReadKey.f (k + 1) a0) := by
 intro a0 k
 have ih0 := spec_l12ReadKey.mono_l k
 unfold spec_l12ReadKey.f
 repeat' first
  | (with_reducible first | exact ih0 .. | exact spec_GoodKey.mono .. | exact spec_l12Number.mono .. | exact spec_l12Split.mono .. | exact LeO.refl _ | exact LeO.none _ | refine LeO.ite ?_ ?_ | refine LeO.bind ?_ (fun _ => ?_))
  | exact LeO.none _
  | refine LeO.ite ?_ ?_
  | refine LeO.bind ?_ (fun _ => ?_)
def spec_l12ReadKey.T13 : Bool × List (List Nat × List Nat) := (true, [([], []), ([0], [0]), ([], []), ([2], [2]), ([3], [3]), ([], []), ([5], [5]), ([6], [6]), ([4, 7], [4, 7]), ([8], [8]), ([1, 9], [1, 9]), ([0, 1, 2, 3, 4, 5, 6, 7, 8, 9, 10], []), ([11, 10, 10, 0, 1, 2, 3, 4, 5, 6, 7, 8, 9, 10], [10, 11])])
def spec_l12ReadKey.B13 : List Nat := [0, 1, 0, 4, 12, 0, 32, 96, 252, 508, 1023, 2047, 4095]
theorem spec_l12ReadKey.tab13 : rtab .any (opsOf Tryd.f52 13) = spec_l12ReadKey.T13 := by kernel_rfl
theorem spec_l12ReadKey.bits13 : waitsOk spec_l12ReadKey.T13.2 spec_l12ReadKey.B13 = true := by kernel_rfl
set_option maxHeartbeats 8000000 in
set_option maxRecDepth 100000 in
theorem spec_l12ReadKey.calls (k : Nat) (a0 : ByteArray) (r1 : ByteArray) (r2 : List (S69)) (r3 : Int) (r4 : Bool) (w : World) (h : spec_l12ReadKey.f k a0 = some (r1, r2, r3, r4)) :
 Calls Tryd.prog 52 #[.string a0] w fun e w' => ∃ v1_ : Value, e = .returned (.tuple #[.agg #[.string r1, v1_, .int .i64 r3], .bool r4]) ∧ Kd.R k69 69 w' w.heap.size (fun _ => True) v1_ r2 ∧ Below w.heap.size w w' := by
 have hu25 := Tryd.underlying25
 have hu69 := Tryd.underlying69
 have HB := aM (Below.refl w.heap.size w)
 have H : ((spec_l12Split.f k a0 64).bind fun t102 => (if (t102.length : Int) = 2 then (if 1 < (t102.length : Int) then ((spec_l12Number.f k (rdOf ByteArray.empty t102 1)).bind fun t106 => (if 0 < (t102.length : Int) then ((spec_l12Split.f k (rdOf ByteArray.empty t102 0) 44).bind fun t109 => (spec_l12ReadKey.l0 k t109 (t109.length : Int) 0 (⟨#[]⟩ : ByteArray) ([] : List (S69)) t106)) else (none))) else (none)) else (some ((⟨#[]⟩ : ByteArray), ([] : List (S69)), 0, false)))) = some (r1, r2, r3, r4) := h
 clear h
 replace H := Option.bind_eq_some_iff.mp H
 obtain ⟨t102, A20, H⟩ := H
 try dsimp only at H
 have A2 := aM A20
 clear A20
 by_cases c3 : (t102.length : Int) = 2
 · rw [if_pos c3] at H
   have c3b0 : ((t102.length : Int) == 2) = true := beq_iff_eq.mpr c3
   have c3b1 : ((t102.length : Int) != 2) = false := bne_eq_false_iff_eq.mpr c3
   clear c3
   by_cases c4 : 1 < (t102.length : Int)
   · rw [if_pos c4] at H
     have c4b0 : decide (1 < (t102.length : Int)) = true := decide_eq_true c4
     have c4b1 : decide (1 < t102.length) = true := decide_eq_true (by omega)
     clear c4
     replace H := Option.bind_eq_some_iff.mp H
     obtain ⟨t106, A50, H⟩ := H
     try dsimp only at H
     have A5 := aM A50
     clear A50
     by_cases c6 : 0 < (t102.length : Int)
     · rw [if_pos c6] at H
       have c6b0 : decide (0 < (t102.length : Int)) = true := decide_eq_true c6
       have c6b1 : decide (0 < t102.length) = true := decide_eq_true (by omega)
       clear c6
       replace H := Option.bind_eq_some_iff.mp H
       obtain ⟨t109, A70, H⟩ := H
       try dsimp only at H
       have A7 := aM A70
       clear A70
       have H' := aM H
       clear H
       go_enter Tryd.func52, Tryd.ntmps52
       go_wp2_with (first | ((with_reducible refine gate_dst (N := 2) rfl ?_); refine box_event ?hg (N := 2) ?hd (cs := #[.string (⟨#[]⟩ : ByteArray), .slice none 0 0, .int .i64 0]) (t := 25) ?hr ?_; (case hd => rfl); (case hg => rfl); (case hr => first | (go_simp; done) | (go_simp; rfl)); intro gb101 hg w8 hbox hb; have _ := aM (below_step hbZ hb); have _ := aM hbox; have _ := szZ hg; have _ := szZ hg; clear HB; rename_i HB BK101 GW101 GE101; clear hb hbox hg) | ((with_reducible refine gate_callee (f := 82) rfl ?_); refine goesL_ (some 10) rfl rfl Tryd.func82 (by kernel_rfl) rfl #[.string a0, .int .u8 64] rfl zee81 ?_; (with_reducible refine (spec_l12Split.calls k a0 64 t102 _ A2.out).mono ?_); rintro e w9 ⟨v103, rfl, ho0, hb⟩; refine ⟨_, rfl, ?_⟩; have _ := aM (Kd.R_lower ho0 (below_size hbZ)); have _ := bB gb101 hb; have _ := aM (below_step hbZ hb); clear BK101 HB; rename_i HO104 BK101 HB; (try clear hb); (try clear ho0); obtain ⟨Ao10, co10, eo10⟩ := Kd.R_slice HO104.out; subst eo10; have p105 : 0 ≤ (1 : Int) := (by omega); have q105 : 1 < (t102.length : Int) := of_decide_eq_true z1200; obtain ⟨ad105, e105, hx105_0⟩ := Kd.at_string (Kd.R_reads' HO104.out).2.2 1 p105 q105; cases e105; (try simp only [show (1 : Int).toNat = 1 from rfl, Nat.reduceMul, Nat.reduceEqDiff, Go.Addr.add, ↓reduceIte] at hx105_0); have qi105 : (1 < t102.length) = True := eq_true (by omega); (try rw [show ((1 : Int)).toNat = 1 from rfl] at hx105_0); replace p105 := eq_true p105; replace q105 := eq_true q105) | ((with_reducible refine gate_callee (f := 83) rfl ?_); refine goesL_ (some 18) rfl rfl Tryd.func83 (by kernel_rfl) rfl #[.string (rdOf ByteArray.empty t102 1)] rfl zee81 ?_; (with_reducible refine (spec_l12Number.calls k (rdOf ByteArray.empty t102 1) t106 _ A5.out).mono ?_); rintro e w' ⟨rfl, ⟨nd, rfl⟩⟩; refine ⟨_, rfl, ?_⟩; (try (rw [drewN_self w9]; generalize hq_ : World.drewN w9 _ = w9; have _ : Aside0 (Kd.R Kd.string 9 w9 w.heap.size (fun _ => True) (.slice (some ad105) t102.length co10) t102) := ⟨by rw [← hq_]; exact (rZ HO104.out)⟩; have _ : Aside0 (w9.heap[gb101]? = some (.cells #[.string (⟨#[]⟩ : ByteArray), .slice none 0 0, .int .i64 0] 25 (0, 0))) := ⟨by rw [← hq_]; exact bkZ⟩; have _ : Aside0 (Below w.heap.size w w9) := ⟨by rw [← hq_]; exact hbZ⟩; clear HO104 BK101 HB hq_; rename_i HO104 BK101 HB))) | ((with_reducible refine gate_dst (N := 5) rfl ?_); refine box_event ?hg (N := 5) ?hd (cs := #[.string (⟨#[]⟩ : ByteArray), .slice none 0 0, .int .i64 0]) (t := 25) ?hr ?_; (case hd => rfl); (case hg => rfl); (case hr => first | (go_simp; done) | (go_simp; rfl)); intro gb107 hg w11 hbox hb; have _ := aM (Kd.R_below (rZ HO104.out) hb); have _ := bB gb101 hb; have _ := aM (below_step hbZ hb); have _ := aM hbox; have _ := szZ hg; have _ := szZ hg; have ⟨_, _⟩ := nbB gb101 hg; clear HO104 BK101 HB; rename_i HO104 BK101 HB BK107 GW107 GE107 NB101_107 NB107_101; clear hb hbox hg; have hnb12 := NB107_101.out; have hnc12 := NB101_107.out; obtain ⟨hcz13_0, hcz13_1, hcz13_2, hfz13_0, hfz13_1, hfz13_2⟩ := cellsZ3 BK107.out; have p108 : 0 ≤ (0 : Int) := (by omega); have q108 : 0 < (t102.length : Int) := of_decide_eq_true z1200; obtain ⟨ad108, e108, hx108_0⟩ := Kd.at_string (Kd.R_reads' HO104.out).2.2 0 p108 q108; obtain rfl : ad105 = ad108 := (by injection e108); have qi108 : (0 < t102.length) = True := eq_true (by omega); (try rw [show ((0 : Int)).toNat = 0 from rfl] at hx108_0); (try rw [Addr.add_zero'] at hx108_0); have hn108_0 : ad105.block ≠ gb107 := Kd.own_blk (Kd.R_ne HO104.out BK107.out (by decide)); have hn108_1 : ad105.block ≠ gb107 := Kd.own_blk (Kd.R_ne HO104.out BK107.out (by decide)); have hn108_2 : ad105.block ≠ gb107 := Kd.own_blk (Kd.R_ne HO104.out BK107.out (by decide)); replace hx108_0 := (cell_far (p := ⟨gb107, 0, none⟩) (by first | (rw [add_block]; exact hn108_0) | (show (Addr.add _ _).block ≠ _; rw [add_block]; exact hn108_0) | exact hn108_0) (.string (⟨#[]⟩ : ByteArray))).trans hx108_0; replace hx108_0 := (cell_far (p := ⟨gb107, 1, none⟩) (by first | (rw [add_block]; exact hn108_1) | (show (Addr.add _ _).block ≠ _; rw [add_block]; exact hn108_1) | exact hn108_1) (.slice none 0 0)).trans hx108_0; replace hx108_0 := (cell_far (p := ⟨gb107, 2, none⟩) (by first | (rw [add_block]; exact hn108_2) | (show (Addr.add _ _).block ≠ _; rw [add_block]; exact hn108_2) | exact hn108_2) (.int .i64 t106)).trans hx108_0; clear hn108_0 hn108_1 hn108_2; replace p108 := eq_true p108; replace q108 := eq_true q108) | ((with_reducible refine gate_callee (f := 82) rfl ?_); refine goesL_ (some 23) rfl rfl Tryd.func82 (by kernel_rfl) rfl #[.string (rdOf ByteArray.empty t102 0), .int .u8 44] rfl zee81 ?_; (with_reducible refine (spec_l12Split.calls k (rdOf ByteArray.empty t102 0) 44 t109 _ A7.out).mono ?_); rintro e w14 ⟨v110, rfl, ho0, hb⟩; refine ⟨_, rfl, ?_⟩; have _ := aM (Kd.R_elder' (rZ (rF3 HO104.out BK107.out)) (Kd.R_base ho0) hb); have _ := aM (Kd.R_lower (Kd.R_new' ho0 (Kd.R_lt (rZ (rF3 HO104.out BK107.out)))) (below_size hbZ)); have _ := bB gb101 hb; have _ := aM (blk_below (g := gb107) (o := .cells #[.string (⟨#[]⟩ : ByteArray), .slice none 0 0, .int .i64 t106] 25 (0, 0)) bkZ hb); have _ := aM (below_step hbZ hb); clear HO104 BK101 BK107 HB; rename_i HO104 HO111 BK101 BK107 HB; (try clear hb); (try clear ho0); obtain ⟨Ao15, co15, eo15⟩ := Kd.R_slice HO111.out; subst eo15))
       go_loopg [25] k (fun kq v25 w' => ∃ (x25_1 : Int) (x102000_1 : ByteArray) (x102002_1 : Int) (x108000_1 : ByteArray) (x108001_1 : List (S69)) (u108001 : Value), v25 = .int .i64 x25_1 ∧ Aside0 (spec_l12ReadKey.l0 kq t109 (t109.length : Int) x25_1 x108000_1 x108001_1 t106 = some (r1, r2, r3, r4)) ∧ Aside0 (kq ≤ k) ∧ Aside0 (Kd.R Kd.string 9 w' w.heap.size (fun _ => True) (.slice Ao15 t109.length co15) t109) ∧ Aside0 (Kd.R k69 69 w' w.heap.size (fun _ => True) u108001 x108001_1) ∧ Aside0 (w'.heap[gb101]? = some (.cells #[.string x102000_1, (.slice none 0 0), .int .i64 x102002_1] 25 (0, 0))) ∧ Aside0 (w'.heap[gb107]? = some (.cells #[.string x108000_1, u108001, .int .i64 t106] 25 (0, 0))) ∧ Aside0 (Below w.heap.size w w'))
       case atStart => exact ⟨(0), ((⟨#[]⟩ : ByteArray)), (0), ((⟨#[]⟩ : ByteArray)), (([] : List (S69))), (.slice none 0 0), z4458, H', ⟨Nat.le_refl _⟩, ⟨by (with_reducible repeat (first | apply Kd.R_alloc | apply Kd.R_drewN | apply Kd.R_drew)); exact Kd.R_mono HO111.out (fun _ hk => trivial)⟩, ⟨z02fa⟩, ⟨bkZ⟩, ⟨bkZ⟩, ⟨zcb41⟩⟩
       case round =>
        clear H'
        try clear c1
        try clear p1
        try clear q1
        try clear hx1
        try clear qi1
        try clear p2
        try clear c3
        try clear c3b0
        try clear c3b1
        try clear c4
        try clear c4b0
        try clear c4b1
        try clear c5
        try clear c6
        try clear c6b0
        try clear c6b1
        try clear c8
        try clear p10
        try clear q10
        try clear hx10
        try clear qi10
        try clear c12
        try clear hcz13_0 hcz13_1 hcz13_2 hfz13_0 hfz13_1 hfz13_2
        try clear hx105_0
        try clear hx108_0
        try clear p105
        try clear p108
        try clear q105
        try clear q108
        obtain ⟨x25_1, x102000_1, x102002_1, x108000_1, x108001_1, u108001, rfl, HA, HK1, HO_23, HO_108001, BK101, BK107, HB⟩ := hrel
        cases gk with
        | zero => exact absurd HA.out (by simp [spec_l12ReadKey.l0])
        | succ k1 =>
         have H := HA.out
         clear HA
         simp only [spec_l12ReadKey.l0] at H
         by_cases c16 : x25_1 < (t109.length : Int)
         · rw [if_pos c16] at H
           have c16b0 : decide (x25_1 < (t109.length : Int)) = true := decide_eq_true c16
           clear c16
           by_cases c17 : 0 ≤ x25_1
           · rw [if_pos c17] at H
             have c17b0 : decide (0 ≤ x25_1) = true := decide_eq_true c17
             clear c17
             by_cases c18 : x25_1 < (t109.length : Int)
             · rw [if_pos c18] at H
               have c18b0 : decide (x25_1 < (t109.length : Int)) = true := decide_eq_true c18
               clear c18
               by_cases c19 : x25_1 = 0
               · rw [if_pos c19] at H
                 have c19b0 : (x25_1 == 0) = true := beq_iff_eq.mpr c19
                 have c19b1 : (x25_1 != 0) = false := bne_eq_false_iff_eq.mpr c19
                 clear c19
                 have H' := aM H
                 clear H
                 have p113 : 0 ≤ (x25_1 : Int) := of_decide_eq_true z1200
                 have q113 : x25_1 < (t109.length : Int) := of_decide_eq_true z1200
                 obtain ⟨ad113, e113, hx113_0⟩ := Kd.at_string (Kd.R_reads' HO_23.out).2.2 x25_1 p113 q113
                 cases e113
                 replace p113 := eq_true p113
                 replace q113 := eq_true q113
                 have hnb20 := NB107_101.out
                 have hnc20 := NB101_107.out
                 obtain ⟨hcz21_0, hcz21_1, hcz21_2, hfz21_0, hfz21_1, hfz21_2⟩ := cellsZ3 BK107.out
                 go_wp2
                 go_roundg k1
                 case measure => have := HK1.out; omega
                 case rel => exact ⟨(wrap64 (x25_1 + 1)), (x102000_1), (x102002_1), (rdOf ByteArray.empty t109 x25_1), (x108001_1), (u108001), z4458, H', ⟨zfb39⟩, ⟨by (with_reducible repeat (first | apply Kd.R_alloc | apply Kd.R_drewN | apply Kd.R_drew)); exact Kd.R_mono (Kd.R_far (p := ⟨gb107, 0, none⟩) (Kd.R_types HO_23.out BK107.out (by decide)) (fun _ hk => hk.2) (.string (rdOf ByteArray.empty t109 x25_1))) (fun _ hk => trivial)⟩, ⟨by (with_reducible repeat (first | apply Kd.R_alloc | apply Kd.R_drewN | apply Kd.R_drew)); exact Kd.R_mono (Kd.R_far (p := ⟨gb107, 0, none⟩) (Kd.R_types HO_108001.out BK107.out (by decide)) (fun _ hk => hk.2) (.string (rdOf ByteArray.empty t109 x25_1))) (fun _ hk => trivial)⟩, ⟨bkZ⟩, ⟨bkZ⟩, ⟨zcb41⟩⟩
               · rw [if_neg c19] at H
                 have c19b0 : (x25_1 == 0) = false := beq_eq_false_iff_ne.mpr c19
                 have c19b1 : (x25_1 != 0) = true := bne_iff_ne.mpr c19
                 replace H := Option.bind_eq_some_iff.mp H
                 obtain ⟨t114, A220, H⟩ := H
                 try dsimp only at H
                 have A22 := aM A220
                 clear A220
                 by_cases c23 : (t114.length : Int) = 2
                 · rw [if_pos c23] at H
                   have c23b0 : ((t114.length : Int) == 2) = true := beq_iff_eq.mpr c23
                   have c23b1 : ((t114.length : Int) != 2) = false := bne_eq_false_iff_eq.mpr c23
                   clear c23
                   by_cases c24 : 0 < (t114.length : Int)
                   · rw [if_pos c24] at H
                     have c24b0 : decide (0 < (t114.length : Int)) = true := decide_eq_true c24
                     have c24b1 : decide (0 < t114.length) = true := decide_eq_true (by omega)
                     clear c24
                     by_cases c25 : 1 < (t114.length : Int)
                     · rw [if_pos c25] at H
                       have c25b0 : decide (1 < (t114.length : Int)) = true := decide_eq_true c25
                       have c25b1 : decide (1 < t114.length) = true := decide_eq_true (by omega)
                       clear c25
                       by_cases c26 : x108001_1.length < 4398046511104
                       · rw [if_pos c26] at H
                         have LMc26 := aM c26
                         clear c26
                         obtain ⟨y119, hy119⟩ : ∃ y_ : List (S69), y_ = (x108001_1 ++ [(⟨rdOf ByteArray.empty t114 0, rdOf ByteArray.empty t114 1⟩ : S69)]) := ⟨_, rfl⟩
                         replace H : (spec_l12ReadKey.l0 k1 t109 (t109.length : Int) (wrap64 (x25_1 + 1)) x108000_1 y119 t106) = some (r1, r2, r3, r4) := by first | (rw [hy119]; with_reducible exact H) | (have H2_ := (Option.bind_some _ _).symm.trans H; rw [hy119]; with_reducible exact H2_) | (have H2_ := (Option.bind_some _ _).symm.trans H; with_reducible exact H2_) | with_reducible exact H | (rw [hy119]; exact H) | exact H
                         have Ny119 := aM hy119
                         clear hy119
                         have H' := aM H
                         clear H
                         have p113 : 0 ≤ (x25_1 : Int) := of_decide_eq_true z1200
                         have q113 : x25_1 < (t109.length : Int) := of_decide_eq_true z1200
                         obtain ⟨ad113, e113, hx113_0⟩ := Kd.at_string (Kd.R_reads' HO_23.out).2.2 x25_1 p113 q113
                         cases e113
                         replace p113 := eq_true p113
                         replace q113 := eq_true q113
                         try go_wp2_with (first | ((with_reducible refine gate_callee (f := 82) rfl ?_); refine goesL_ (some 35) rfl rfl Tryd.func82 (by kernel_rfl) rfl #[.string (rdOf ByteArray.empty t109 x25_1), .int .u8 61] rfl zee81 ?_; (with_reducible refine (spec_l12Split.calls k1 (rdOf ByteArray.empty t109 x25_1) 61 t114 _ A22.out).mono ?_); rintro e w27 ⟨v115, rfl, ho0, hb⟩; refine ⟨_, rfl, ?_⟩; have _ := aM (Kd.R_elder' (rZ HO_23.out) (Kd.R_base ho0) hb); have _ := aM (Kd.R_below (rZ HO_108001.out) hb); have _ := aM (Kd.R_lower (Kd.R_new' ho0 (Kd.R_lt (rZ HO_23.out))) (below_size hbZ)); have _ := bB gb101 hb; have _ := bB gb107 hb; have _ := aM (below_step hbZ hb); clear HO_23 HO_108001 BK101 BK107 HB; rename_i HO_23 HO_108001 HO116 BK101 BK107 HB; (try clear hb); (try clear ho0); obtain ⟨Ao28, co28, eo28⟩ := Kd.R_slice HO116.out; subst eo28))
                         have _ := aM (Kd.R_drew HO_23.out)
                         have _ := aM (Kd.R_drew HO_108001.out)
                         have _ := aM (Kd.R_drew HO116.out)
                         have _ := aM (blk_drew BK101.out)
                         have _ := aM (blk_drew BK107.out)
                         have _ := aM (below_drew1 HB.out)
                         clear HO_23
                         clear HO_108001
                         clear HO116
                         clear BK101
                         clear BK107
                         clear HB
                         rename_i HO_23 HO_108001 HO116 BK101 BK107 HB
                         have p117 : 0 ≤ (0 : Int) := (by omega)
                         have q117 : 0 < (t114.length : Int) := of_decide_eq_true z1200
                         obtain ⟨ad117, e117, hx117_0⟩ := Kd.at_string (Kd.R_reads' HO116.out).2.2 0 p117 q117
                         cases e117
                         have qi117 : (0 < t114.length) = True := eq_true (by omega)
                         (try rw [show ((0 : Int)).toNat = 0 from rfl] at hx117_0)
                         (try rw [Addr.add_zero'] at hx117_0)
                         replace p117 := eq_true p117
                         replace q117 := eq_true q117
                         have p118 : 0 ≤ (1 : Int) := (by omega)
                         have q118 : 1 < (t114.length : Int) := of_decide_eq_true z1200
                         obtain ⟨ad118, e118, hx118_0⟩ := Kd.at_string (Kd.R_reads' HO116.out).2.2 1 p118 q118
                         obtain rfl : ad117 = ad118 := (by injection e118)
                         (try simp only [show (1 : Int).toNat = 1 from rfl, Nat.reduceMul, Nat.reduceEqDiff, Go.Addr.add, ↓reduceIte] at hx118_0)
                         have qi118 : (1 < t114.length) = True := eq_true (by omega)
                         (try rw [show ((1 : Int)).toNat = 1 from rfl] at hx118_0)
                         replace p118 := eq_true p118
                         replace q118 := eq_true q118
                         refine start_ (n := 13) (S := fun w' => w'.cell? ⟨gb107, 0, none⟩ = some (.string x108000_1) ∧ w'.cell? ⟨gb107, 1, none⟩ = some (u108001) ∧ w'.cell? ⟨gb107, 2, none⟩ = some (.int .i64 t106) ∧ w'.cell? ad117 = some (.string (rdOf ByteArray.empty t114 0)) ∧ w'.cell? ⟨ad117.block, ad117.off + 1, none⟩ = some (.string (rdOf ByteArray.empty t114 1))) (ds := [10, 12]) #[false, false, false, false, false, false, false, false, false, false, false, false, false] (by kernel_rfl) rfl rfl ⟨(blk_cell BK107.out 0).trans rfl, (blk_cell BK107.out 1).trans rfl, (blk_cell BK107.out 2).trans rfl, hx117_0, hx118_0⟩ (fun hHeld => ?_); refine with_tabW spec_l12ReadKey.tab13 spec_l12ReadKey.bits13 (fun HT_ HW_ => ?_)
                         generalize w27.drew = w29 at HO_23 HO_108001 HO116 BK101 BK107 HB hx117_0 hx118_0 hHeld ⊢
                         refine pure_ (i := 0) (N := some 40) (v := ?_) (a' := ?_) #[true, false, false, false, false, false, false, false, false, false, false, false, false] rfl rfl (any_of HT_.out (by kernel_rfl)) (fun _ _ _ h => h) (Or.inl ⟨by rfl, ?_⟩) ?_ ?_
                         rotate_left
                         · intro w'
                           go_simp
                           with_reducible rfl
                         rotate_left
                         · simp only [Act.put, List.setIfInBounds_toArray, List.set_cons_zero, List.set_cons_succ, i64_w, i32_w]
                           rfl
                         refine pure_ (i := 2) (N := some 42) (v := ?_) (a' := ?_) #[true, false, true, false, false, false, false, false, false, false, false, false, false] rfl rfl (any_of HT_.out (by kernel_rfl)) (fun _ _ _ h => h) (Or.inl ⟨by rfl, ?_⟩) ?_ ?_
                         rotate_left
                         · intro w'
                           go_simp
                           with_reducible rfl
                         rotate_left
                         · simp only [Act.put, List.setIfInBounds_toArray, List.set_cons_zero, List.set_cons_succ, i64_w, i32_w]
                           rfl
                         refine pure_ (i := 3) (N := some 43) (v := ?_) (a' := ?_) #[true, false, true, true, false, false, false, false, false, false, false, false, false] rfl rfl (any_of HT_.out (by kernel_rfl)) (fun _ _ _ h => h) (Or.inl ⟨by rfl, ?_⟩) ?_ ?_
                         rotate_left
                         · intro w'
                           go_simp
                           with_reducible rfl
                         rotate_left
                         · simp only [Act.put, List.setIfInBounds_toArray, List.set_cons_zero, List.set_cons_succ, i64_w, i32_w]
                           rfl
                         refine pure_ (i := 5) (N := some 45) (v := ?_) (a' := ?_) #[true, false, true, true, false, true, false, false, false, false, false, false, false] rfl rfl (any_of HT_.out (by kernel_rfl)) (fun _ _ _ h => h) (Or.inl ⟨by rfl, ?_⟩) ?_ ?_
                         rotate_left
                         · intro w'
                           go_simp
                           with_reducible rfl
                         rotate_left
                         · simp only [Act.put, List.setIfInBounds_toArray, List.set_cons_zero, List.set_cons_succ, i64_w, i32_w]
                           rfl
                         refine pure_ (i := 6) (N := some 46) (v := ?_) (a' := ?_) #[true, false, true, true, false, true, true, false, false, false, false, false, false] rfl rfl (any_of HT_.out (by kernel_rfl)) (fun _ _ _ h => h) (Or.inl ⟨by rfl, ?_⟩) ?_ ?_
                         rotate_left
                         · intro w'
                           go_simp
                           with_reducible rfl
                         rotate_left
                         · simp only [Act.put, List.setIfInBounds_toArray, List.set_cons_zero, List.set_cons_succ, i64_w, i32_w]
                           rfl
                         refine take_ (i := 1) (N := some 41) (v := ?_) (a' := ?_) #[true, true, true, true, false, true, true, false, false, false, false, false, false] rfl rfl (take_ofW HT_.out HW_.out (by kernel_rfl)) (fun _ _ _ h => h) (Or.inl ⟨by rfl, ?_⟩) hHeld ?_ ?_
                         rotate_left
                         · rintro w' ⟨s0, s1, s2, s3, s4⟩
                           go_simp
                           with_reducible rfl
                         rotate_left
                         · simp only [Act.put, List.setIfInBounds_toArray, List.set_cons_zero, List.set_cons_succ, i64_w, i32_w]
                           rfl
                         refine take_ (i := 4) (N := some 44) (v := ?_) (a' := ?_) #[true, true, true, true, true, true, true, false, false, false, false, false, false] rfl rfl (take_ofW HT_.out HW_.out (by kernel_rfl)) (fun _ _ _ h => h) (Or.inl ⟨by rfl, ?_⟩) hHeld ?_ ?_
                         rotate_left
                         · rintro w' ⟨s0, s1, s2, s3, s4⟩
                           go_simp
                           with_reducible rfl
                         rotate_left
                         · simp only [Act.put, List.setIfInBounds_toArray, List.set_cons_zero, List.set_cons_succ, i64_w, i32_w]
                           rfl
                         refine take_ (i := 7) (N := some 47) (v := ?_) (a' := ?_) #[true, true, true, true, true, true, true, true, false, false, false, false, false] rfl rfl (take_ofW HT_.out HW_.out (by kernel_rfl)) (fun _ _ _ h => h) (Or.inl ⟨by rfl, ?_⟩) hHeld ?_ ?_
                         rotate_left
                         · rintro w' ⟨s0, s1, s2, s3, s4⟩
                           go_simp
                           with_reducible rfl
                         rotate_left
                         · simp only [Act.put, List.setIfInBounds_toArray, List.set_cons_zero, List.set_cons_succ, i64_w, i32_w]
                           rfl
                         refine pure_ (i := 8) (N := some 48) (v := ?_) (a' := ?_) #[true, true, true, true, true, true, true, true, true, false, false, false, false] rfl rfl (any_of HT_.out (by kernel_rfl)) (fun _ _ _ h => h) (Or.inl ⟨by rfl, ?_⟩) ?_ ?_
                         rotate_left
                         · intro w'
                           go_simp
                           with_reducible rfl
                         rotate_left
                         · simp only [Act.put, List.setIfInBounds_toArray, List.set_cons_zero, List.set_cons_succ, i64_w, i32_w]
                           rfl
                         refine one_ (i := 9) (N := some 49) #[true, true, true, true, true, true, true, true, true, true, false, false, false] rfl rfl (one_of HT_.out (by kernel_rfl)) (by decide) (fun K hK => ?_)
                         refine value_ (w1 := ?_) (v := ?_) (by rfl) rfl ?_ ?_
                         rotate_left 2
                         · go_simp
                           constructor
                           · rfl
                           · rfl
                         refine hK.out _ _ ⟨(blk_cell (blk_alloc BK107.out _) 0).trans rfl, (blk_cell (blk_alloc BK107.out _) 1).trans rfl, (blk_cell (blk_alloc BK107.out _) 2).trans rfl, (World.cell?_alloc_lt _ _ _ (World.block_lt_of_cell? _ _ (hHeld.2.2.2.1))).trans (hHeld.2.2.2.1), (World.cell?_alloc_lt _ _ _ (World.block_lt_of_cell? _ _ (hHeld.2.2.2.2))).trans (hHeld.2.2.2.2)⟩ (fun hHeld => ?_)
                         clear hK K
                         refine norm_ (a' := ?_) ?_ ?_
                         rotate_left
                         · show Act.put _ (some 49) _ = _
                           simp only [Act.put, List.setIfInBounds_toArray, List.set_cons_zero, List.set_cons_succ, i64_w, i32_w]
                           rfl
                         refine last_ (i := 10) (N := some 50) #[true, true, true, true, true, true, true, true, true, true, true, false, false] rfl rfl (one_of HT_.out (by kernel_rfl)) (by decide) (fun K hK => ?_)
                         refine Kd.R_append_step k69 (w0 := w) w.heap.size (by rfl) (.tmp 41) (.tmp 49) 23 69 (.agg #[(.string ⟨#[]⟩), (.string ⟨#[]⟩)]) 32 rfl Tryd.underlying23 info69 rfl (by decide) (by omega) u108001 x108001_1 (⟨rdOf ByteArray.empty t114 0, rdOf ByteArray.empty t114 1⟩ : S69) [.string (rdOf ByteArray.empty t114 0), .string (rdOf ByteArray.empty t114 1)] (fun _ => True) (fun _ => False) rfl rfl ?aP (fun _ hk => hk.elim) ?aF ?aO ?aB ?aS ?aL ?_
                         (case aP => exact k69_mkM _ _ _ (⟨rdOf ByteArray.empty t114 0, rdOf ByteArray.empty t114 1⟩ : S69))
                         (case aB => exact hbZ)
                         (case aF => exact (fun _ _ => trivial))
                         (case aO => exact (rZ HO_108001.out))
                         (case aS => exact (below_size hbZ))
                         (case aL => have := LMc26.out; omega)
                         intro v120 w30 ho hb hg hat
                         rw [← Ny119.out] at ho
                         have _ := aM (Kd.R_over' (rZ HO_23.out) (Kd.R_typed (rZ HO_108001.out)) (by decide) hg)
                         have _ := aM (blk_grown (g := gb101) bkZ hg (Kd.R_ne HO_108001.out BK101.out (by decide)))
                         have _ := aM (blk_grown (g := gb107) bkZ hg (Kd.R_ne HO_108001.out BK107.out (by decide)))
                         have _ := aM (Kd.R_over' (rZ HO116.out) (Kd.R_typed (rZ HO_108001.out)) (by decide) hg)
                         have _ := aM hb
                         have _ := aM ho
                         clear HO_23
                         clear BK101
                         clear BK107
                         clear HO116
                         clear HB
                         clear HO_108001
                         rename_i HO_23 BK101 BK107 HO116 HB HO121
                         clear ho hb hg hat
                         obtain ⟨Ao31, co31, eo31⟩ := Kd.R_slice HO121.out
                         (first | subst eo31 | (injection eo31 with f1_ f2_ f3_; have f4_ := f1_.symm; have f5_ := f3_.symm; clear f1_ f2_ f3_; subst f4_; subst f5_))
                         refine hK.out _ _ ?_
                         clear hK K
                         refine norm_ (a' := ?_) ?_ ?_
                         rotate_left
                         · show Act.put _ (some 50) _ = _
                           simp only [Act.put, List.setIfInBounds_toArray, List.set_cons_zero, List.set_cons_succ, i64_w, i32_w]
                           rfl
                         refine pure_ (i := 11) (N := some 51) (v := ?_) (a' := ?_) #[true, true, true, true, true, true, true, true, true, true, true, true, false] rfl rfl (any_of HT_.out (by kernel_rfl)) (fun _ _ _ h => h) (Or.inl ⟨by rfl, ?_⟩) ?_ ?_
                         rotate_left
                         · intro w'
                           go_simp
                           with_reducible rfl
                         rotate_left
                         · simp only [Act.put, List.setIfInBounds_toArray, List.set_cons_zero, List.set_cons_succ, i64_w, i32_w]
                           rfl
                         refine last_ (i := 12) (N := none) #[true, true, true, true, true, true, true, true, true, true, true, true, true] rfl rfl (one_of HT_.out (by kernel_rfl)) (by decide) (fun K hK => ?_)
                         have hs32 : w30.cell? ⟨gb107, 1, none⟩ = some (u108001) := (blk_cell BK107.out 1).trans rfl
                         have hfs32 := blk_frozen BK107.out 1
                         have hns32_0 := NB101_107.out
                         have hms32_0 := NB107_101.out
                         refine skip_ (w1 := ?_) (by rfl) rfl ?_ ?_
                         rotate_left
                         · go_simp
                           rfl
                         refine hK.out _ _ ?_
                         clear hK K
                         refine done_ (done_of HT_.out (by kernel_rfl)) ?_
                         try go_wp2
                         go_roundg k1
                         case measure => have := HK1.out; omega
                         case rel => exact ⟨(wrap64 (x25_1 + 1)), (x102000_1), (x102002_1), (x108000_1), (y119), (.slice Ao31 y119.length co31), z4458, H', ⟨zfb39⟩, ⟨by (with_reducible repeat (first | apply Kd.R_alloc | apply Kd.R_drewN | apply Kd.R_drew)); exact Kd.R_mono (Kd.R_far (p := ⟨gb107, 1, none⟩) (Kd.R_types HO_23.out BK107.out (by decide)) (fun _ hk => hk.2) (.slice Ao31 y119.length co31)) (fun _ hk => trivial)⟩, ⟨by (with_reducible repeat (first | apply Kd.R_alloc | apply Kd.R_drewN | apply Kd.R_drew)); exact Kd.R_mono (Kd.R_far (p := ⟨gb107, 1, none⟩) (Kd.R_types HO121.out BK107.out (by decide)) (fun _ hk => hk.2) (.slice Ao31 y119.length co31)) (fun _ hk => trivial)⟩, ⟨bkZ⟩, ⟨bkZ⟩, ⟨zcb41⟩⟩
                       · rw [if_neg c26] at H
                         exact absurd H (by simp)
                     · rw [if_neg c25] at H
                       exact absurd H (by simp)
                   · rw [if_neg c24] at H
                     exact absurd H (by simp)
                 · rw [if_neg c23] at H
                   have c23b0 : ((t114.length : Int) == 2) = false := beq_eq_false_iff_ne.mpr c23
                   have c23b1 : ((t114.length : Int) != 2) = true := bne_iff_ne.mpr c23
                   simp only [Option.some.injEq, Prod.mk.injEq] at H
                   obtain ⟨rfl, rfl, rfl, rfl⟩ := H
                   have p113 : 0 ≤ (x25_1 : Int) := of_decide_eq_true z1200
                   have q113 : x25_1 < (t109.length : Int) := of_decide_eq_true z1200
                   obtain ⟨ad113, e113, hx113_0⟩ := Kd.at_string (Kd.R_reads' HO_23.out).2.2 x25_1 p113 q113
                   cases e113
                   replace p113 := eq_true p113
                   replace q113 := eq_true q113
                   go_wp2_with (first | ((with_reducible refine gate_callee (f := 82) rfl ?_); refine goesL_ (some 35) rfl rfl Tryd.func82 (by kernel_rfl) rfl #[.string (rdOf ByteArray.empty t109 x25_1), .int .u8 61] rfl zee81 ?_; (with_reducible refine (spec_l12Split.calls k1 (rdOf ByteArray.empty t109 x25_1) 61 t114 _ A22.out).mono ?_); rintro e w33 ⟨v115, rfl, ho0, hb⟩; refine ⟨_, rfl, ?_⟩; have _ := aM (Kd.R_elder' (rZ HO_23.out) (Kd.R_base ho0) hb); have _ := aM (Kd.R_below (rZ HO_108001.out) hb); have _ := aM (Kd.R_lower (Kd.R_new' ho0 (Kd.R_lt (rZ HO_23.out))) (below_size hbZ)); have _ := bB gb101 hb; have _ := bB gb107 hb; have _ := aM (below_step hbZ hb); clear HO_23 HO_108001 BK101 BK107 HB; rename_i HO_23 HO_108001 HO116 BK101 BK107 HB; (try clear hb); (try clear ho0); obtain ⟨Ao34, co34, eo34⟩ := Kd.R_slice HO116.out; subst eo34; have hnb35 := NB101_107.out; have hnc35 := NB107_101.out; obtain ⟨hcz36_0, hcz36_1, hcz36_2, hfz36_0, hfz36_1, hfz36_2⟩ := cellsZ3 BK101.out))
                   refine bodyPost_ret (results_ct rfl _ _ gb101 25 #[.string (⟨#[]⟩ : ByteArray), .slice none 0 0, .int .i64 0] (0, 0) _ rfl bkZ Tryd.underlying25 rfl (by kernel_rfl)) rfl ?_
                   exact ⟨_, z674d, z02fa, zcb41⟩
             · rw [if_neg c18] at H
               exact absurd H (by simp)
           · rw [if_neg c17] at H
             exact absurd H (by simp)
         · rw [if_neg c16] at H
           have c16b0 : decide (x25_1 < (t109.length : Int)) = false := decide_eq_false c16
           clear c16
           replace H := Option.bind_eq_some_iff.mp H
           obtain ⟨t112, A370, H⟩ := H
           try dsimp only at H
           have A37 := aM A370
           clear A370
           by_cases c38 : t112 = true
           · subst c38
             have H1 : (some (x108000_1, x108001_1, t106, true)) = some (r1, r2, r3, r4) := by rw [if_pos rfl] at H; exact H
             clear H
             have H := H1
             clear H1
             simp only [Option.some.injEq, Prod.mk.injEq] at H
             obtain ⟨rfl, rfl, rfl, rfl⟩ := H
             have hnb39 := NB107_101.out
             have hnc39 := NB101_107.out
             obtain ⟨hcz40_0, hcz40_1, hcz40_2, hfz40_0, hfz40_1, hfz40_2⟩ := cellsZ3 BK107.out
             obtain ⟨Ao41, co41, eo41⟩ := Kd.R_slice HO_108001.out
             subst eo41
             go_wp2_with (first | ((with_reducible refine gate_callee (f := 10) rfl ?_); refine goesL_ (some 54) rfl rfl Tryd.func10 (by kernel_rfl) rfl #[.agg #[.string x108000_1, .slice Ao41 x108001_1.length co41, .int .i64 t106]] rfl zee81 ?_; (with_reducible refine (spec_GoodKey.calls k1 x108000_1 _ _ x108001_1 t106 true _ ?side1 ?side2 A37.out).mono ?_); (case side1 => exact (by repeat (first | exact (Kd.R_reads' HO_108001.out).2.2 | (with_reducible refine Kd.C_alloc ?_ _) | (with_reducible refine Kd.C_drewN ?_ _) | (with_reducible refine Kd.C_drew ?_)))); (case side2 => exact (Kd.R_reads' HO_108001.out).2.1); rintro e w42 ⟨rfl, hb⟩; refine ⟨_, rfl, ?_⟩; have _ := aM (Kd.R_below (rZ HO_23.out) hb); have _ := aM (Kd.R_below (rZ HO_108001.out) hb); have _ := bB gb101 hb; have _ := bB gb107 hb; have _ := aM (below_step hbZ hb); clear HO_23 HO_108001 BK101 BK107 HB; rename_i HO_23 HO_108001 BK101 BK107 HB; (try clear hb); obtain ⟨hcz43_0, hcz43_1, hcz43_2, hfz43_0, hfz43_1, hfz43_2⟩ := cellsZ3 BK107.out; obtain ⟨hcz44_0, hcz44_1, hcz44_2, hfz44_0, hfz44_1, hfz44_2⟩ := cellsZ3 BK101.out))
             refine bodyPost_ret (results_ct rfl _ _ gb101 25 #[.string x108000_1, .slice Ao41 x108001_1.length co41, .int .i64 t106] (0, 0) _ rfl bkZ Tryd.underlying25 rfl (by kernel_rfl)) rfl ?_
             exact ⟨_, z674d, by (with_reducible repeat (first | apply Kd.R_alloc | apply Kd.R_drewN | apply Kd.R_drew)); exact Kd.R_mono (Kd.R_far (p := ⟨gb101, 2, none⟩) (Kd.R_far (p := ⟨gb101, 1, none⟩) (Kd.R_far (p := ⟨gb101, 0, none⟩) (Kd.R_types HO_108001.out BK101.out (by decide)) (fun _ hk => hk.2) (.string x108000_1)) (fun _ hk => hk.2) (.slice Ao41 x108001_1.length co41)) (fun _ hk => hk.2) (.int .i64 t106)) (fun _ hk => trivial), zcb41⟩
           · replace c38 := Bool.eq_false_iff.mpr c38
             subst c38
             have H1 : (some ((⟨#[]⟩ : ByteArray), ([] : List (S69)), 0, false)) = some (r1, r2, r3, r4) := by rw [if_neg (show ¬ (false = true) by decide)] at H; exact H
             clear H
             have H := H1
             clear H1
             simp only [Option.some.injEq, Prod.mk.injEq] at H
             obtain ⟨rfl, rfl, rfl, rfl⟩ := H
             have hnb45 := NB107_101.out
             have hnc45 := NB101_107.out
             obtain ⟨hcz46_0, hcz46_1, hcz46_2, hfz46_0, hfz46_1, hfz46_2⟩ := cellsZ3 BK107.out
             obtain ⟨Ao47, co47, eo47⟩ := Kd.R_slice HO_108001.out
             subst eo47
             go_wp2_with (first | ((with_reducible refine gate_callee (f := 10) rfl ?_); refine goesL_ (some 54) rfl rfl Tryd.func10 (by kernel_rfl) rfl #[.agg #[.string x108000_1, .slice Ao47 x108001_1.length co47, .int .i64 t106]] rfl zee81 ?_; (with_reducible refine (spec_GoodKey.calls k1 x108000_1 _ _ x108001_1 t106 false _ ?side1 ?side2 A37.out).mono ?_); (case side1 => exact (by repeat (first | exact (Kd.R_reads' HO_108001.out).2.2 | (with_reducible refine Kd.C_alloc ?_ _) | (with_reducible refine Kd.C_drewN ?_ _) | (with_reducible refine Kd.C_drew ?_)))); (case side2 => exact (Kd.R_reads' HO_108001.out).2.1); rintro e w48 ⟨rfl, hb⟩; refine ⟨_, rfl, ?_⟩; have _ := aM (Kd.R_below (rZ HO_23.out) hb); have _ := aM (Kd.R_below (rZ HO_108001.out) hb); have _ := bB gb101 hb; have _ := bB gb107 hb; have _ := aM (below_step hbZ hb); clear HO_23 HO_108001 BK101 BK107 HB; rename_i HO_23 HO_108001 BK101 BK107 HB; (try clear hb); obtain ⟨hcz49_0, hcz49_1, hcz49_2, hfz49_0, hfz49_1, hfz49_2⟩ := cellsZ3 BK101.out))
             refine bodyPost_ret (results_ct rfl _ _ gb101 25 #[.string (⟨#[]⟩ : ByteArray), .slice none 0 0, .int .i64 0] (0, 0) _ rfl bkZ Tryd.underlying25 rfl (by kernel_rfl)) rfl ?_
             exact ⟨_, z674d, z02fa, zcb41⟩
     · rw [if_neg c6] at H
       exact absurd H (by simp)
   · rw [if_neg c4] at H
     exact absurd H (by simp)
 · rw [if_neg c3] at H
   have c3b0 : ((t102.length : Int) == 2) = false := beq_eq_false_iff_ne.mpr c3
   have c3b1 : ((t102.length : Int) != 2) = true := bne_iff_ne.mpr c3
   simp only [Option.some.injEq, Prod.mk.injEq] at H
   obtain ⟨rfl, rfl, rfl, rfl⟩ := H
   go_enter Tryd.func52, Tryd.ntmps52
   go_wp2_with (first | ((with_reducible refine gate_dst (N := 2) rfl ?_); refine box_event ?hg (N := 2) ?hd (cs := #[.string (⟨#[]⟩ : ByteArray), .slice none 0 0, .int .i64 0]) (t := 25) ?hr ?_; (case hd => rfl); (case hg => rfl); (case hr => first | (go_simp; done) | (go_simp; rfl)); intro gb101 hg w50 hbox hb; have _ := aM (below_step hbZ hb); have _ := aM hbox; have _ := szZ hg; have _ := szZ hg; clear HB; rename_i HB BK101 GW101 GE101; clear hb hbox hg) | ((with_reducible refine gate_callee (f := 82) rfl ?_); refine goesL_ (some 10) rfl rfl Tryd.func82 (by kernel_rfl) rfl #[.string a0, .int .u8 64] rfl zee81 ?_; (with_reducible refine (spec_l12Split.calls k a0 64 t102 _ A2.out).mono ?_); rintro e w51 ⟨v103, rfl, ho0, hb⟩; refine ⟨_, rfl, ?_⟩; have _ := aM (Kd.R_lower ho0 (below_size hbZ)); have _ := bB gb101 hb; have _ := aM (below_step hbZ hb); clear BK101 HB; rename_i HO104 BK101 HB; (try clear hb); (try clear ho0); obtain ⟨Ao52, co52, eo52⟩ := Kd.R_slice HO104.out; subst eo52; obtain ⟨hcz53_0, hcz53_1, hcz53_2, hfz53_0, hfz53_1, hfz53_2⟩ := cellsZ3 BK101.out))
   refine bodyPost_ret (results_ct rfl _ _ gb101 25 #[.string (⟨#[]⟩ : ByteArray), .slice none 0 0, .int .i64 0] (0, 0) _ rfl bkZ Tryd.underlying25 rfl (by kernel_rfl)) rfl ?_
   exact ⟨_, z674d, z02fa, zcb41⟩

end Go.Proofs.YteogadaloebdaaaDoor.P

-- written by a program of this session's (wip/pp)
namespace Go.Proofs.YteogadaloebdaaaDoor.P
open Go.RowKit Go.Proofs.YteogadaloebdaaaDoorW.PrintWords Go.Proofs.YteogadaloebdaaaDoorW.PrintLast Go.Proofs.YteogadaloebdaaaDoorW.PrintMore
attribute [local go_sem] max2_int min2_int max_two min_two max_three min_three max_four min_four str_geq str_gtr str_leq   -- for this text's walks alone
set_option linter.unusedVariables false
set_option linter.unusedSimpArgs false

/-! ### spec_ReadKeyText: function 20 -/
def spec_ReadKeyText.f (k : Nat) (a0 : ByteArray) : Option (ByteArray × (List (S69)) × Int × Bool) := (spec_l12ReadKey.f k a0).bind fun bt102 => (some (bt102.1, bt102.2.1, bt102.2.2.1, bt102.2.2.2))
theorem spec_ReadKeyText.mono : ∀ a0 k, LeO (spec_ReadKeyText.f k a0) (spec_ReadKeyText.f (k + 1) a0) := by
 intro a0 k
 unfold spec_ReadKeyText.f
 repeat' first
  | (with_reducible first | exact spec_l12ReadKey.mono .. | exact LeO.refl _ | exact LeO.none _ | refine LeO.ite ?_ ?_ | refine LeO.bind ?_ (fun _ => ?_))
  | exact LeO.none _
  | refine LeO.ite ?_ ?_
  | refine LeO.bind ?_ (fun _ => ?_)
set_option maxHeartbeats 8000000 in
set_option maxRecDepth 100000 in
theorem spec_ReadKeyText.calls (k : Nat) (a0 : ByteArray) (r1 : ByteArray) (r2 : List (S69)) (r3 : Int) (r4 : Bool) (w : World) (h : spec_ReadKeyText.f k a0 = some (r1, r2, r3, r4)) :
 Calls Tryd.prog 20 #[.string a0] w fun e w' => ∃ v1_ : Value, e = .returned (.tuple #[.agg #[.string r1, v1_, .int .i64 r3], .bool r4]) ∧ Kd.R k69 69 w' w.heap.size (fun _ => True) v1_ r2 ∧ Below w.heap.size w w' := by
 have hu25 := Tryd.underlying25
 have HB := aM (Below.refl w.heap.size w)
 have H : ((spec_l12ReadKey.f k a0).bind fun bt102 => (some (bt102.1, bt102.2.1, bt102.2.2.1, bt102.2.2.2))) = some (r1, r2, r3, r4) := h
 clear h
 replace H := Option.bind_eq_some_iff.mp H
 obtain ⟨⟨t102, t103, t106, t107⟩, A20, H⟩ := H
 try dsimp only at H
 have A2 := aM A20
 clear A20
 simp only [Option.some.injEq, Prod.mk.injEq] at H
 obtain ⟨rfl, rfl, rfl, rfl⟩ := H
 go_enter Tryd.func20, Tryd.ntmps20
 go_wp2_with (first | ((with_reducible refine gate_dst (N := 2) rfl ?_); refine box_event ?hg (N := 2) ?hd (cs := #[.string (⟨#[]⟩ : ByteArray), .slice none 0 0, .int .i64 0]) (t := 25) ?hr ?_; (case hd => rfl); (case hg => rfl); (case hr => first | (go_simp; done) | (go_simp; rfl)); intro gb101 hg w3 hbox hb; have _ := aM (below_step hbZ hb); have _ := aM hbox; have _ := szZ hg; have _ := szZ hg; clear HB; rename_i HB BK101 GW101 GE101; clear hb hbox hg) | ((with_reducible refine gate_callee (f := 52) rfl ?_); refine goesL_ (some 5) rfl rfl Tryd.func52 (by kernel_rfl) rfl #[.string a0] rfl zee81 ?_; (with_reducible refine (spec_l12ReadKey.calls k a0 t102 t103 t106 t107 _ A2.out).mono ?_); rintro e w4 ⟨v104, rfl, ho0, hb⟩; refine ⟨_, rfl, ?_⟩; have _ := aM (Kd.R_lower ho0 (below_size hbZ)); have _ := bB gb101 hb; have _ := aM (below_step hbZ hb); clear BK101 HB; rename_i HO105 BK101 HB; (try clear hb); (try clear ho0); obtain ⟨hcz5_0, hcz5_1, hcz5_2, hfz5_0, hfz5_1, hfz5_2⟩ := cellsZ3 BK101.out; obtain ⟨Ao6, co6, eo6⟩ := Kd.R_slice HO105.out; subst eo6))
 refine bodyPost_ret (results_ct rfl _ _ gb101 25 #[.string t102, .slice Ao6 t103.length co6, .int .i64 t106] (0, 0) _ rfl bkZ Tryd.underlying25 rfl (by kernel_rfl)) rfl ?_
 exact ⟨_, z674d, by (with_reducible repeat (first | apply Kd.R_alloc | apply Kd.R_drewN | apply Kd.R_drew)); exact Kd.R_mono (Kd.R_far (p := ⟨gb101, 2, none⟩) (Kd.R_far (p := ⟨gb101, 1, none⟩) (Kd.R_far (p := ⟨gb101, 0, none⟩) (Kd.R_types HO105.out BK101.out (by decide)) (fun _ hk => hk.2) (.string t102)) (fun _ hk => hk.2) (.slice Ao6 t103.length co6)) (fun _ hk => hk.2) (.int .i64 t106)) (fun _ hk => trivial), zcb41⟩

end Go.Proofs.YteogadaloebdaaaDoor.P

/- Keys read out of texts: the program's reader and the specification's answer the key whose text it is. -/
namespace Go.Proofs.YteogadaloebdaaaDoor.Lem
open Go Go.RowKit Go.Proofs.YteogadaloebdaaaDoor.P Go.Proofs.YteogadaloebdaaaDoorW.PrintWords Go.Proofs.YteogadaloebdaaaDoorW.PrintLast Go.Proofs.YteogadaloebdaaaDoorW.PrintMore

def tagL (t : Tg) : List UInt8 := t.f0.data.toList ++ 61 :: t.f1.data.toList
def tailL : List Tg → List UInt8
  | [] => []
  | t :: r => 44 :: (tagL t ++ tailL r)
theorem append_list (a b : ByteArray) : (a ++ b).data.toList = a.data.toList ++ b.data.toList := by
  rw [ByteArray.data_append, Array.toList_append]
theorem tagT_list (t : Tg) : (tagT t).data.toList = 44 :: tagL t := by
  unfold tagT tagL
  rw [append_list, append_list, append_list, List.append_assoc]
  rfl
theorem keyT_list : ∀ (l : List Tg) (m : ByteArray), (keyT m l).data.toList = m.data.toList ++ tailL l
  | [], m => by rw [keyT, tailL, List.append_nil]
  | t :: r, m => by
    rw [keyT, keyT_list r, append_list, tagT_list, tailL, List.append_assoc]
    rfl
theorem textOf_list (m : ByteArray) (l : List Tg) (st : Int) : (textOf m l st).data.toList = (m.data.toList ++ tailL l) ++ 64 :: (numT st).data.toList := by
  unfold textOf
  rw [append_list, append_list, keyT_list, List.append_assoc]
  rfl
theorem letter_not {l : List UInt8} (h : l.all letter = true) : (44 : UInt8) ∉ l ∧ (61 : UInt8) ∉ l ∧ (64 : UInt8) ∉ l := by
  rw [List.all_eq_true] at h
  exact ⟨fun x => absurd (h 44 x) (by decide), fun x => absurd (h 61 x) (by decide), fun x => absurd (h 64 x) (by decide)⟩
theorem tagL_not {t : Tg} (h : nameB t.f0 = true ∧ nameB t.f1 = true) : (44 : UInt8) ∉ tagL t ∧ (64 : UInt8) ∉ tagL t := by
  have h0 := letter_not (nameB_letters h.1)
  have h1 := letter_not (nameB_letters h.2)
  unfold tagL
  constructor
  · intro x
    rcases List.mem_append.1 x with x | x
    · exact h0.1 x
    · rcases List.mem_cons.1 x with x | x
      · cases x
      · exact h1.1 x
  · intro x
    rcases List.mem_append.1 x with x | x
    · exact h0.2.2 x
    · rcases List.mem_cons.1 x with x | x
      · cases x
      · exact h1.2.2 x
theorem tailL_not : ∀ {l : List Tg}, (∀ t ∈ l, nameB t.f0 = true ∧ nameB t.f1 = true) → (64 : UInt8) ∉ tailL l
  | [], _ => List.not_mem_nil
  | t :: r, h => by
    intro x
    rw [tailL] at x
    rcases List.mem_cons.1 x with x | x
    · cases x
    · rcases List.mem_append.1 x with x | x
      · exact (tagL_not (h t List.mem_cons_self)).2 x
      · exact tailL_not (fun t ht => h t (List.mem_cons_of_mem _ ht)) x
theorem splA_tail : ∀ (l : List Tg) (m : List UInt8), (44 : UInt8) ∉ m → (∀ t ∈ l, nameB t.f0 = true ∧ nameB t.f1 = true) → splA 44 [] (m ++ tailL l) = m :: l.map tagL
  | [], m, hm, _ => by rw [tailL, List.append_nil, splA_free _ _ hm]; rfl
  | t :: r, m, hm, h => by
    rw [tailL, splA_hit _ _ _ hm, splA_tail r _ (tagL_not (h t List.mem_cons_self)).1 (fun t ht => h t (List.mem_cons_of_mem _ ht))]
    rfl
def tagsOf : List (List UInt8) → Option (List Tg)
  | [] => some []
  | w :: r => match splA 61 [] w with
    | [n, v] => (tagsOf r).map (fun l => (⟨mkB n, mkB v⟩ : Tg) :: l)
    | _ => none
theorem splA_tag {t : Tg} (h : nameB t.f0 = true ∧ nameB t.f1 = true) : splA 61 [] (tagL t) = [t.f0.data.toList, t.f1.data.toList] := by
  unfold tagL
  rw [splA_hit _ _ _ (letter_not (nameB_letters h.1)).2.1, splA_free _ _ (letter_not (nameB_letters h.2)).2.1]
  rfl
theorem tagsOf_map : ∀ (l : List Tg), (∀ t ∈ l, nameB t.f0 = true ∧ nameB t.f1 = true) → tagsOf (l.map tagL) = some l
  | [], _ => rfl
  | t :: r, h => by
    rw [List.map_cons, tagsOf, splA_tag (h t List.mem_cons_self)]
    dsimp only
    rw [tagsOf_map r (fun t ht => h t (List.mem_cons_of_mem _ ht)), mkB_of, mkB_of]
    rfl
theorem two_of {c : UInt8} {s p q : List UInt8} (h : splA c [] s = [p, q]) : s = p ++ c :: q ∧ c ∉ p := by
  rcases splA_inv s [] h with ⟨h1, _, _⟩ | ⟨l1, l2, h1, h2, h3, h4⟩
  · cases h1
  · rcases splA_inv l2 [] h4.symm with ⟨_, h5, _⟩ | ⟨_, _, _, _, _, h6⟩
    · rw [h3, h5]
      exact ⟨h1, h2⟩
    · exact absurd h6.symm (splA_ne _ _)
theorem tagsOf_inv : ∀ (ps : List (List UInt8)) {p x : List UInt8} {l : List Tg}, splA 44 [] p = x :: ps → tagsOf ps = some l → p = x ++ tailL l
  | [], p, x, l, h, ht => by
    rw [tagsOf] at ht
    injection ht with ht
    subst ht
    rcases splA_inv p [] h with ⟨_, h2, _⟩ | ⟨_, _, _, _, _, h4⟩
    · rw [h2, tailL, List.append_nil]
      rfl
    · exact absurd h4.symm (splA_ne _ _)
  | w :: ps, p, x, l, h, ht => by
    rcases splA_inv p [] h with ⟨h1, _, _⟩ | ⟨l1, l2, h1, h2, h3, h4⟩
    · cases h1
    · rw [tagsOf] at ht
      split at ht
      · rename_i n v e
        rw [Option.map_eq_some_iff] at ht
        obtain ⟨l', e', rfl⟩ := ht
        have ih := tagsOf_inv ps h4.symm e'
        have ew := (two_of e).1
        rw [h1, h3, ih, ew, tailL]
        rfl
      · cases ht

abbrev KR := ByteArray × List Tg × Int × Bool
def fail0 : KR := ((⟨#[]⟩ : ByteArray), ([] : List Tg), 0, false)
def finS (m : ByteArray) (l : List Tg) (st : Int) : KR := if keyB m l st = true then (m, l, st, true) else fail0
def endS (x : ByteArray) (acc : List Tg) (n : Int) : Option (List Tg) → KR
  | none => fail0
  | some l => finS x (acc ++ l) n
theorem rdB_get {l : List ByteArray} {i : Nat} (h : i < l.length) : rdOf ByteArray.empty l (i : Int) = l[i] := by
  show l.getD (i : Int).toNat _ = _
  rw [Int.toNat_natCast, List.getD_eq_getElem?_getD, List.getElem?_eq_getElem h]
  rfl
theorem specRead_l0 (B : Nat) (hB : B ≤ 1048576) (ps : List (List UInt8)) (hp : ps.length ≤ 1048577) (hs : ∀ p ∈ ps, p.length ≤ B) (m : ByteArray) (st : Int) : ∀ (d i k : Nat) (acc : List Tg), i + d = ps.length → 1 ≤ i → d + B + 30 < k → acc.length ≤ i →
    spec_l12ReadKey.l0 k (ps.map mkB) (ps.length : Int) (i : Int) m acc st = some (endS m acc st (tagsOf (ps.drop i))) := by
  intro d
  induction d with
  | zero =>
    intro i k acc hi h1 hk ha
    obtain ⟨k, rfl⟩ : ∃ q, k = q + 1 := ⟨k - 1, by omega⟩
    rw [spec_l12ReadKey.l0, if_neg (by omega), specKey_ok m acc st (by omega), Option.bind_some, List.drop_of_length_le (by omega), tagsOf, endS, List.append_nil, finS]
    cases keyB m acc st with
    | false => rw [if_neg (by decide), if_neg (by decide)]; rfl
    | true => rw [if_pos rfl, if_pos rfl]
  | succ d ih =>
    intro i k acc hi h1 hk ha
    obtain ⟨k, rfl⟩ : ∃ q, k = q + 1 := ⟨k - 1, by omega⟩
    have hlt : i < ps.length := by omega
    have hlt' : i < (ps.map mkB).length := by rw [List.length_map]; exact hlt
    have hsz := hs _ (List.getElem_mem hlt)
    have hsp := l12Split_ok (s := mkB ps[i]) (by rw [mkB_size]; omega) 61 (k := k) (by rw [mkB_size]; omega)
    rw [show (((61 : UInt8).toNat : Nat) : Int) = 61 from rfl, mkB_list] at hsp
    rw [spec_l12ReadKey.l0, if_pos (by omega), if_pos (by omega), if_pos (by rw [List.length_map]; omega), if_neg (by omega), rdB_get hlt', List.getElem_map, hsp, Option.bind_some, List.length_map, drop_get hlt, tagsOf]
    split
    · rename_i h2
      obtain ⟨n, v, e⟩ : ∃ n v, splA 61 [] ps[i] = [n, v] := by
        generalize splA 61 [] ps[i] = q at h2 ⊢
        match q, h2 with
        | [n, v], _ => exact ⟨n, v, rfl⟩
        | [], h => simp at h
        | [_], h => simp at h
        | _ :: _ :: _ :: r, h => simp at h; omega
      rw [e]
      dsimp only
      rw [if_pos (by show (0 : Int) < ((2 : Nat) : Int); decide), if_pos (by show (1 : Int) < ((2 : Nat) : Int); decide), if_pos (by omega), show wrap64 ((i : Int) + 1) = ((i + 1 : Nat) : Int) from by rw [w64 (by omega) (by omega)]; omega]
      rw [show rdOf ByteArray.empty ([n, v].map mkB) 0 = mkB n from rfl, show rdOf ByteArray.empty ([n, v].map mkB) 1 = mkB v from rfl]
      rw [ih (i + 1) k _ (by omega) (by omega) (by omega) (by rw [List.length_append, List.length_singleton]; omega)]
      cases tagsOf (List.drop (i + 1) ps) with
      | none => rfl
      | some l =>
        rw [Option.map_some, endS, endS, List.append_assoc]
        rfl
    · rename_i h2
      generalize splA 61 [] ps[i] = q at h2
      match q, h2 with
      | [n, v], h => exact absurd rfl h
      | [], _ => rfl
      | [_], _ => rfl
      | _ :: _ :: _ :: _, _ => rfl
theorem specRead_eval {s : ByteArray} (hs : s.size ≤ 1048576) {p q x : List UInt8} {ps : List (List UInt8)} {n : Int} {k : Nat} (hk : 2 * s.size + 50 < k) (h2 : splA 64 [] s.data.toList = [p, q]) (hn : spec_l12Number.f k (mkB q) = some n) (hx : splA 44 [] p = x :: ps) :
    spec_ReadKeyText.f k s = some (endS (mkB x) [] n (tagsOf ps)) := by
  obtain ⟨k, rfl⟩ : ∃ q, k = q + 1 := ⟨k - 1, by omega⟩
  have hlen : s.data.toList.length = s.size := (Go.Lib.size_eq s).symm
  have hsp := l12Split_ok (s := s) hs 64 (k := k + 1) (by omega)
  rw [show (((64 : UInt8).toNat : Nat) : Int) = 64 from rfl, h2] at hsp
  have hpl : p.length ≤ s.size := by
    have := splA_sizes (c := 64) s.data.toList [] p (by rw [h2]; exact List.mem_cons_self)
    rw [List.length_nil] at this
    omega
  have hsp2 := l12Split_ok (s := mkB p) (by rw [mkB_size]; omega) 44 (k := k + 1) (by rw [mkB_size]; omega)
  rw [show (((44 : UInt8).toNat : Nat) : Int) = 44 from rfl, mkB_list, hx] at hsp2
  have hxl := splA_length (c := 44) p []
  rw [hx] at hxl
  have hxs : ∀ w ∈ x :: ps, w.length ≤ s.size := by
    intro w hw
    have := splA_sizes (c := 44) p [] w (by rw [hx]; exact hw)
    rw [List.length_nil] at this
    omega
  unfold spec_ReadKeyText.f spec_l12ReadKey.f
  rw [hsp, Option.bind_some, if_pos (by rfl), if_pos (by show (1 : Int) < ((2 : Nat) : Int); decide), show rdOf ByteArray.empty ([p, q].map mkB) 1 = mkB q from rfl, hn, Option.bind_some, if_pos (by show (0 : Int) < ((2 : Nat) : Int); decide), show rdOf ByteArray.empty ([p, q].map mkB) 0 = mkB p from rfl, hsp2, Option.bind_some]
  rw [List.length_cons] at hxl
  have hl := specRead_l0 s.size hs (x :: ps) (by rw [List.length_cons]; omega) hxs (mkB x) n ps.length 1 k [] (by rw [List.length_cons]; omega) (Nat.le_refl _) (by omega) (Nat.zero_le _)
  rw [List.drop_one, List.tail_cons] at hl
  rw [spec_l12ReadKey.l0, if_pos (by rw [List.length_map, List.length_cons]; omega), if_pos (by decide), if_pos (by rw [List.length_map, List.length_cons]; omega), if_pos rfl, show wrap64 ((0 : Int) + 1) = ((1 : Nat) : Int) from by rw [w64 (by decide) (by decide)]; rfl, show rdOf ByteArray.empty ((x :: ps).map mkB) 0 = mkB x from rfl, List.length_map, hl, Option.bind_some]
theorem specRead_fail {s : ByteArray} (hs : s.size ≤ 1048576) {k : Nat} (hk : s.size + 50 < k) (h2 : (splA 64 [] s.data.toList).length ≠ 2) : spec_ReadKeyText.f k s = some fail0 := by
  have hsp := l12Split_ok (s := s) hs 64 (k := k) (by omega)
  rw [show (((64 : UInt8).toNat : Nat) : Int) = 64 from rfl] at hsp
  unfold spec_ReadKeyText.f spec_l12ReadKey.f
  rw [hsp, Option.bind_some, if_neg (by rw [List.length_map]; omega)]
  rfl
/-- What a reader may answer at a text. -/
def Reads (s : ByteArray) (r : KR) : Prop := r = fail0 ∨ ∃ m l st, r = (m, l, st, true) ∧ keyB m l st = true ∧ textOf m l st = s
theorem specRead_total {s : ByteArray} (hs : s.size ≤ 1048576) {k : Nat} (hk : 2 * s.size + 50 < k) : ∃ r, spec_ReadKeyText.f k s = some r ∧ Reads s r := by
  by_cases h2 : (splA 64 [] s.data.toList).length = 2
  · obtain ⟨p, q, e⟩ : ∃ p q, splA 64 [] s.data.toList = [p, q] := by
      generalize splA 64 [] s.data.toList = w at h2 ⊢
      match w, h2 with
      | [n, v], _ => exact ⟨n, v, rfl⟩
    obtain ⟨n, hn, hn2⟩ := l12Number_ok (mkB q) (k := k) (by omega)
    cases ex : splA 44 [] p with
    | nil => exact absurd ex (splA_ne _ _)
    | cons x ps =>
      refine ⟨_, specRead_eval hs hk e hn ex, ?_⟩
      cases et : tagsOf ps with
      | none => exact Or.inl rfl
      | some l =>
        rw [endS, List.nil_append, finS]
        by_cases hkb : keyB (mkB x) l n = true
        · rw [if_pos hkb]
          refine Or.inr ⟨_, _, _, rfl, hkb, ?_⟩
          have hp := keyB_parts hkb
          have hq : mkB q = numT n := by
            rcases hn2 with h | h
            · omega
            · exact h.2
          apply Go.WideShapes.bytes_inj
          rw [textOf_list, mkB_list, ← hq, mkB_list, ← tagsOf_inv ps ex et]
          exact (two_of e).1.symm
        · rw [if_neg hkb]
          exact Or.inl rfl
  · exact ⟨_, specRead_fail hs (by omega) h2, Or.inl rfl⟩
theorem text_cut {m : ByteArray} {l : List Tg} {st : Int} (h : keyB m l st = true) : (64 : UInt8) ∉ m.data.toList ++ tailL l ∧ (64 : UInt8) ∉ (numT st).data.toList := by
  obtain ⟨h1, h2, h3, h4, h5⟩ := keyB_parts h
  refine ⟨fun x => ?_, fun x => ?_⟩
  · rcases List.mem_append.1 x with x | x
    · exact (letter_not (nameB_letters h1)).2.2 x
    · exact tailL_not (tagsB_names h5) x
  · obtain ⟨u, rfl⟩ : ∃ u : Nat, st = u := ⟨st.toNat, by omega⟩
    have hd := (dec_text 9 u (by omega)).1
    have el : (numT (u : Int)).data.toList = Go.Lib.decDigits u := by
      show Go.Lib.itoa (u : Int) = _
      rw [Go.Lib.itoa_nonneg]
    rw [el] at x
    rw [List.all_eq_true] at hd
    exact absurd (hd 64 x) (by decide)
theorem specRead_hit {m : ByteArray} {l : List Tg} {st : Int} (h : keyB m l st = true) (hs : (textOf m l st).size ≤ 1048576) {k : Nat} (hk : 2 * (textOf m l st).size + 50 < k) : spec_ReadKeyText.f k (textOf m l st) = some (m, l, st, true) := by
  obtain ⟨h1, h2, h3, h4, h5⟩ := keyB_parts h
  obtain ⟨c1, c2⟩ := text_cut h
  have e2 : splA 64 [] (textOf m l st).data.toList = [m.data.toList ++ tailL l, (numT st).data.toList] := by
    rw [textOf_list, splA_hit _ _ _ c1, splA_free _ _ c2]
    rfl
  rw [specRead_eval hs hk e2 (by rw [mkB_of]; exact l12Number_num h3 h4 (by omega)) (splA_tail l _ (letter_not (nameB_letters h1)).1 (tagsB_names h5)), tagsOf_map l (tagsB_names h5), mkB_of, endS, List.nil_append, finS, if_pos h]
end Go.Proofs.YteogadaloebdaaaDoor.Lem

/- Keys read out of texts: the program's reader. -/
namespace Go.Proofs.YteogadaloebdaaaDoor.Lem
open Go Go.RowKit Go.Proofs.YteogadaloebdaaaDoor.P Go.Proofs.YteogadaloebdaaaDoorW.PrintWords Go.Proofs.YteogadaloebdaaaDoorW.PrintLast Go.Proofs.YteogadaloebdaaaDoorW.PrintMore

def cutT (w : ByteArray) : Tg := ⟨mkB (Go.Lib.cut w.data.toList [61]).1, mkB (Go.Lib.cut w.data.toList [61]).2.1⟩
def finI (s m : ByteArray) (l : List Tg) (st : Int) : KR := if keyB m l st = true then (if textOf m l st = s then (m, l, st, true) else fail0) else fail0
theorem toList_iff (a b : ByteArray) : a.toList = b.toList ↔ a = b :=
  ⟨fun h => Go.WideShapes.bytes_inj (by rw [← ByteArray.toList_eq, ← ByteArray.toList_eq]; exact h), fun h => by rw [h]⟩
theorem implRead_l0 (s : ByteArray) (P : List ByteArray) (hp : P.length ≤ 100) (hs : ∀ p ∈ P, p.size < 4294967281) (m : ByteArray) (st : Int) : ∀ (d i k : Nat) (acc : List Tg), i + d = P.length → d + 30 < k → acc.length ≤ i →
    impl_ReadKeyText.l0 k s P (P.length : Int) (i : Int) m acc st = some (finI s m (acc ++ (P.drop i).map cutT) st) := by
  intro d
  induction d with
  | zero =>
    intro i k acc hi hk ha
    obtain ⟨k, rfl⟩ : ∃ q, k = q + 1 := ⟨k - 1, by omega⟩
    rw [impl_ReadKeyText.l0, if_neg (by omega), implKey_ok m acc st (by omega), Option.bind_some, List.drop_of_length_le (by omega), List.map_nil, List.append_nil, finI]
    by_cases hk : keyB m acc st = true
    · rw [if_pos hk, if_pos hk, implKeyText_ok hk (by omega), Option.bind_some]
      by_cases ht : textOf m acc st = s
      · rw [if_pos ((toList_iff _ _).2 ht), if_pos ht]
      · rw [if_neg (fun x => ht ((toList_iff _ _).1 x)), if_neg ht]
        rfl
    · rw [if_neg hk, if_neg hk]
      rfl
  | succ d ih =>
    intro i k acc hi hk ha
    obtain ⟨k, rfl⟩ : ∃ q, k = q + 1 := ⟨k - 1, by omega⟩
    have hlt : i < P.length := by omega
    have hsz := hs _ (List.getElem_mem hlt)
    rw [impl_ReadKeyText.l0, if_pos (by omega), if_pos (by omega), if_pos (by omega), rdB_get hlt, strings_Cut.f, if_pos hsz, Option.bind_some, if_pos (by omega), show wrap64 ((i : Int) + 1) = ((i + 1 : Nat) : Int) from by rw [w64 (by omega) (by omega)]; omega]
    rw [ih (i + 1) k _ (by omega) (by omega) (by rw [List.length_append, List.length_singleton]; omega), drop_get hlt, List.map_cons, List.append_assoc]
    rfl
theorem splitK_sizes (c : UInt8) : ∀ (k : Nat) (l : List UInt8), ∀ p ∈ Go.Lib.splitK [c] 0 k l, p.length ≤ l.length
  | 0, l, p, h => by
    rw [Go.Lib.splitK, List.mem_singleton] at h
    rw [h]
    exact Nat.le_refl _
  | k + 1, l, p, h => by
    rw [Go.Lib.splitK] at h
    split at h
    · rw [List.mem_singleton] at h
      rw [h]
      exact Nat.le_refl _
    · rcases List.mem_cons.1 h with h | h
      · rw [h, List.length_take]
        omega
      · have := splitK_sizes c k _ p h
        rw [List.length_drop] at this
        omega
theorem splitB_pos (sep : ByteArray) (s : ByteArray) : ∀ (k : Nat), 0 < (Go.Lib.splitB sep 0 k s).length
  | 0 => by rw [Go.Lib.splitB_zero]; exact Nat.one_pos
  | k + 1 => by
    rw [Go.Lib.splitB]
    split
    · exact Nat.one_pos
    · rw [List.length_cons]
      omega
theorem implRead_fail {s : ByteArray} (hs : s.size ≤ 1048576) {k : Nat} (h : ∀ v, Go.Lib.atoiAll (Go.Lib.cut s.data.toList [64]).2.1 ≠ .ok v) : impl_ReadKeyText.f k s = some fail0 := by
  have hlen : s.data.toList.length = s.size := (Go.Lib.size_eq s).symm
  have hc := (cut_sizes 64 s.data.toList).2
  unfold impl_ReadKeyText.f
  rw [strings_Cut.f, if_pos (by omega), Option.bind_some, strconv_Atoi_50.f, if_pos (by
    show (mkB (Go.Lib.cut s.data.toList [64]).2.1).size ≤ _
    rw [mkB_size]
    omega), Option.bind_some]
  show (if (match Go.Lib.atoiAll (Go.Lib.cut s.data.toList [64]).2.1 with | .ok v => (v, none) | .range => (Go.Lib.atoiSat (Go.Lib.cut s.data.toList [64]).2.1, some 0) | _ => (0, some 0) : Int × Option Int).2.isNone = true then _ else _) = _
  cases e : Go.Lib.atoiAll (Go.Lib.cut s.data.toList [64]).2.1 with
  | ok v => exact absurd e (h v)
  | range => rfl
  | _ => rfl
theorem implRead_eval {s : ByteArray} (hs : s.size ≤ 1048576) {k : Nat} (hk : 100 < k) {n : Int} (h : Go.Lib.atoiAll (Go.Lib.cut s.data.toList [64]).2.1 = .ok n) {x : ByteArray} {ps : List ByteArray}
    (hx : Go.Lib.splitB ⟨#[44]⟩ 0 (min 6 ((mkB (Go.Lib.cut s.data.toList [64]).1).size + 1) - 1) (mkB (Go.Lib.cut s.data.toList [64]).1) = x :: ps) :
    impl_ReadKeyText.f k s = some (finI s x (ps.map cutT) n) := by
  have hlen : s.data.toList.length = s.size := (Go.Lib.size_eq s).symm
  have hc := cut_sizes 64 s.data.toList
  have hl := Go.Lib.splitB_length_le ⟨#[44]⟩ 0 (min 6 ((mkB (Go.Lib.cut s.data.toList [64]).1).size + 1) - 1) (mkB (Go.Lib.cut s.data.toList [64]).1)
  have hz : ∀ p ∈ x :: ps, p.size < 4294967281 := by
    intro p hp
    rw [← hx] at hp
    have hd := Go.Lib.splitB_data ⟨#[44]⟩ 0 (min 6 ((mkB (Go.Lib.cut s.data.toList [64]).1).size + 1) - 1) (mkB (Go.Lib.cut s.data.toList [64]).1)
    have hm : p.data.toList ∈ Go.Lib.splitK [44] 0 (min 6 ((mkB (Go.Lib.cut s.data.toList [64]).1).size + 1) - 1) (Go.Lib.cut s.data.toList [64]).1 := by
      rw [← mkB_list (Go.Lib.cut s.data.toList [64]).1]
      refine hd ▸ List.mem_map_of_mem hp
    have := splitK_sizes 44 _ _ _ hm
    rw [Go.Lib.size_eq]
    omega
  rw [hx, List.length_cons] at hl
  unfold impl_ReadKeyText.f
  rw [strings_Cut.f, if_pos (by omega), Option.bind_some, strconv_Atoi_50.f, if_pos (by
    show (mkB (Go.Lib.cut s.data.toList [64]).2.1).size ≤ _
    rw [mkB_size]
    omega), Option.bind_some]
  show (if (match Go.Lib.atoiAll (Go.Lib.cut s.data.toList [64]).2.1 with | .ok v => (v, none) | .range => (Go.Lib.atoiSat (Go.Lib.cut s.data.toList [64]).2.1, some 0) | _ => (0, some 0) : Int × Option Int).2.isNone = true then
    (strings_SplitN.f (mkB (Go.Lib.cut s.data.toList [64]).1) ⟨#[44]⟩ 6).bind fun t108 => (if 0 < (t108.length : Int) then (if 1 ≤ (t108.length : Int) then ((some (t108.drop (1 : Int).toNat : List ByteArray)).bind fun y113 => (impl_ReadKeyText.l0 k s y113 (y113.length : Int) 0 (rdOf ByteArray.empty t108 0) ([] : List Tg) (match Go.Lib.atoiAll (Go.Lib.cut s.data.toList [64]).2.1 with | .ok v => (v, none) | .range => (Go.Lib.atoiSat (Go.Lib.cut s.data.toList [64]).2.1, some 0) | _ => (0, some 0) : Int × Option Int).1)) else (none)) else (none)) else _) = _
  rw [h]
  dsimp only
  rw [if_pos (by rfl), strings_SplitN.f, if_pos ⟨by rw [mkB_size]; omega, by decide, by decide, by decide⟩, Option.bind_some, show (6 : Int).toNat = 6 from rfl, hx, if_pos (by rw [List.length_cons]; omega), if_pos (by rw [List.length_cons]; omega), Option.bind_some, show (1 : Int).toNat = 1 from rfl, List.drop_one, List.tail_cons, show rdOf ByteArray.empty (x :: ps) 0 = x from rfl]
  have hl0 := implRead_l0 s ps (by omega) (fun p hp => hz p (List.mem_cons_of_mem _ hp)) x n ps.length 0 k [] (by omega) (by omega) (Nat.zero_le _)
  rw [List.drop_zero, List.nil_append] at hl0
  exact hl0
theorem implRead_total {s : ByteArray} (hs : s.size ≤ 1048576) {k : Nat} (hk : 200 < k) : ∃ r, impl_ReadKeyText.f k s = some r ∧ Reads s r := by
  by_cases h : ∃ v, Go.Lib.atoiAll (Go.Lib.cut s.data.toList [64]).2.1 = .ok v
  · obtain ⟨v, h⟩ := h
    have hpos := splitB_pos ⟨#[44]⟩ (mkB (Go.Lib.cut s.data.toList [64]).1) (min 6 ((mkB (Go.Lib.cut s.data.toList [64]).1).size + 1) - 1)
    cases e : Go.Lib.splitB ⟨#[44]⟩ 0 (min 6 ((mkB (Go.Lib.cut s.data.toList [64]).1).size + 1) - 1) (mkB (Go.Lib.cut s.data.toList [64]).1) with
    | nil => rw [e] at hpos; exact absurd hpos (by decide)
    | cons x ps =>
      refine ⟨_, implRead_eval hs (by omega) h e, ?_⟩
      rw [finI]
      by_cases hkb : keyB x (ps.map cutT) v = true
      · rw [if_pos hkb]
        by_cases ht : textOf x (ps.map cutT) v = s
        · rw [if_pos ht]
          exact Or.inr ⟨_, _, _, rfl, hkb, ht⟩
        · rw [if_neg ht]
          exact Or.inl rfl
      · rw [if_neg hkb]
        exact Or.inl rfl
  · exact ⟨_, implRead_fail hs (fun v hv => h ⟨v, hv⟩), Or.inl rfl⟩
theorem cutT_tag {t : Tg} (h : nameB t.f0 = true ∧ nameB t.f1 = true) : cutT (mkB (tagL t)) = t := by
  unfold cutT tagL
  rw [mkB_list, cut_hit (letter_not (nameB_letters h.1)).2.1, mkB_of, mkB_of]
theorem implRead_hit {m : ByteArray} {l : List Tg} {st : Int} (h : keyB m l st = true) (hs : (textOf m l st).size ≤ 1048576) {k : Nat} (hk : 200 < k) : impl_ReadKeyText.f k (textOf m l st) = some (m, l, st, true) := by
  obtain ⟨h1, h2, h3, h4, h5⟩ := keyB_parts h
  have hc : Go.Lib.cut (textOf m l st).data.toList [64] = (m.data.toList ++ tailL l, (numT st).data.toList, true) := by
    rw [textOf_list, cut_hit (text_cut h).1]
  have hsp := splA_tail l _ (letter_not (nameB_letters h1)).1 (tagsB_names h5)
  have hlen := splA_length (c := 44) (m.data.toList ++ tailL l) []
  rw [hsp, List.length_cons, List.length_map] at hlen
  have hx : Go.Lib.splitB ⟨#[44]⟩ 0 (min 6 ((mkB (Go.Lib.cut (textOf m l st).data.toList [64]).1).size + 1) - 1) (mkB (Go.Lib.cut (textOf m l st).data.toList [64]).1) = m :: l.map (fun t => mkB (tagL t)) := by
    rw [hc]
    have hd := Go.Lib.splitB_data ⟨#[44]⟩ 0 (min 6 ((mkB (m.data.toList ++ tailL l)).size + 1) - 1) (mkB (m.data.toList ++ tailL l))
    rw [mkB_list, mkB_size, show (⟨#[44]⟩ : ByteArray).data.toList = [44] from rfl, splitK_eq 44 _ _ (by rw [hsp, List.length_cons, List.length_map]; omega), hsp] at hd
    rw [mkB_size]
    generalize Go.Lib.splitB ⟨#[44]⟩ 0 (min 6 ((m.data.toList ++ tailL l).length + 1) - 1) (mkB (m.data.toList ++ tailL l)) = q at hd ⊢
    have e : (q.map (·.data.toList)).map mkB = q := by
      rw [List.map_map]
      exact (List.map_congr_left fun a _ => mkB_of a).trans (List.map_id _)
    rw [← e, hd, List.map_cons, mkB_of, List.map_map]
    rfl
  rw [implRead_eval hs (by omega) (n := st) (by rw [hc]; exact atoi_itoa h3 h4) hx]
  have e : (l.map (fun t => mkB (tagL t))).map cutT = l := by
    rw [List.map_map]
    exact (List.map_congr_left fun a ha => cutT_tag (tagsB_names h5 a ha)).trans (List.map_id _)
  rw [e, finI, if_pos h, if_pos rfl]
/-- The two readers agree. -/
theorem read_both {s : ByteArray} (hs : s.size ≤ 1048576) {k : Nat} (hk : 2 * s.size + 200 < k) : ∃ r, spec_ReadKeyText.f k s = some r ∧ impl_ReadKeyText.f k s = some r ∧ Reads s r := by
  obtain ⟨r, h1, h2⟩ := specRead_total hs (k := k) (by omega)
  obtain ⟨r', h3, h4⟩ := implRead_total hs (k := k) (by omega)
  rcases h2 with rfl | ⟨m, l, st, rfl, hb, ht⟩
  · rcases h4 with rfl | ⟨m, l, st, rfl, hb, ht⟩
    · exact ⟨_, h1, h3, Or.inl rfl⟩
    · subst ht
      rw [specRead_hit hb hs (by omega)] at h1
      cases h1
  · subst ht
    exact ⟨_, h1, implRead_hit hb hs (by omega), Or.inr ⟨m, l, st, rfl, hb, rfl⟩⟩
end Go.Proofs.YteogadaloebdaaaDoor.Lem

namespace Go.Proofs.YteogadaloebdaaaDoor.Lem
open Go.RowKit Go.Proofs.YteogadaloebdaaaDoor.P Go.Proofs.YteogadaloebdaaaDoorW.PrintWords Go.Proofs.YteogadaloebdaaaDoorW.PrintLast Go.Proofs.YteogadaloebdaaaDoorW.PrintMore

/-- The reader of choices goes on: a number, and a later place. -/
theorem next_ok {l : List Int} (hl : Bytes l) (at_ s : Int) (h0 : 0 ≤ at_) (h1 : at_ < 4611686018427387904) :
    ∃ r s', spec_l1Cur_next.f l at_ s = some (r, at_ + 1, s') ∧ 0 ≤ r ∧ r < 256 := by
  have hw : wrap64 (at_ + 1) = at_ + 1 := w64 (by omega) (by omega)
  have hb := hl.rd at_
  have hwr : wrap64 (rd l at_) = rd l at_ := w64 (by omega) (by omega)
  unfold spec_l1Cur_next.f
  rw [hw, hwr]
  have key : ∀ x : Int, 0 ≤ wrap64 (Go.bits .and .u64 (IntKind.u64.wrap x / 1099511627776) 255) ∧ wrap64 (Go.bits .and .u64 (IntKind.u64.wrap x / 1099511627776) 255) < 256 := by
    intro x
    have hx := wu64_lo x
    have hy := wu64_hi x
    have := and255 (x := IntKind.u64.wrap x / 1099511627776) (by omega) (by omega)
    rw [w64 (by omega) (by omega)]
    exact this
  by_cases c1 : at_ < (l.length : Int)
  · rw [if_pos c1, if_pos h0]
    by_cases c2 : at_ + 1 ≤ (l.length : Int)
    · rw [if_pos c2]
      exact ⟨_, _, rfl, hb.1, hb.2⟩
    · rw [if_neg c2]
      exact ⟨_, _, rfl, key _⟩
  · rw [if_neg c1]
    by_cases c2 : at_ + 1 ≤ (l.length : Int)
    · rw [if_pos c2]
      exact ⟨_, _, rfl, by decide, by decide⟩
    · rw [if_neg c2]
      exact ⟨_, _, rfl, key _⟩

theorem tmod_ok {x n : Int} (hx : 0 ≤ x) (hn : 0 < n) : 0 ≤ Int.tmod x n ∧ Int.tmod x n < n := by
  rw [Int.tmod_eq_emod_of_nonneg hx]
  exact ⟨Int.emod_nonneg _ (by omega), Int.emod_lt_of_pos _ hn⟩

theorem pick_ok {l : List Int} (hl : Bytes l) (at_ s n : Int) (h0 : 0 ≤ at_) (h1 : at_ < 4611686018427387900) :
    ∃ r a' s', spec_l1Cur_pick.f l at_ s n = some (r, a', s') ∧ at_ ≤ a' ∧ a' ≤ at_ + 2 ∧ 0 ≤ r ∧ (1 ≤ n → r < n) ∧ (n ≤ 1 → r = 0) := by
  unfold spec_l1Cur_pick.f
  by_cases c1 : n ≤ 1
  · rw [if_pos c1]
    exact ⟨0, at_, s, rfl, by omega, by omega, by omega, fun _ => by omega, fun _ => rfl⟩
  · rw [if_neg c1]
    obtain ⟨r, s1, e, r0, r1⟩ := next_ok hl at_ s h0 (by omega)
    rw [e]
    simp only [Option.bind_some]
    by_cases c2 : n > 200
    · rw [if_pos c2]
      obtain ⟨q, s2, e2, q0, q1⟩ := next_ok hl (at_ + 1) s1 (by omega) (by omega)
      rw [e2]
      simp only [Option.bind_some]
      rw [if_neg (by omega)]
      have hw1 : wrap64 (r * 256) = r * 256 := w64 (by omega) (by omega)
      rw [hw1]
      have hw2 : wrap64 (r * 256 + q) = r * 256 + q := w64 (by omega) (by omega)
      rw [hw2]
      have ht := tmod_ok (x := r * 256 + q) (n := n) (by omega) (by omega)
      exact ⟨_, _, _, rfl, by omega, by omega, ht.1, fun _ => ht.2, fun h => by omega⟩
    · rw [if_neg c2, if_neg (by omega)]
      have ht := tmod_ok (x := r) (n := n) (by omega) (by omega)
      exact ⟨_, _, _, rfl, by omega, by omega, ht.1, fun _ => ht.2, fun h => by omega⟩

theorem one_ok {l : List Int} (hl : Bytes l) (at_ s n : Int) (h0 : 0 ≤ at_) (h1 : at_ < 4611686018427387900) :
    ∃ b a' s', spec_l1Cur_one.f l at_ s n = some (b, a', s') ∧ at_ ≤ a' ∧ a' ≤ at_ + 2 := by
  unfold spec_l1Cur_one.f
  obtain ⟨r, a', s', e, ha, hb, _⟩ := pick_ok hl at_ s n h0 h1
  rw [e]
  exact ⟨_, _, _, rfl, ha, hb⟩

end Go.Proofs.YteogadaloebdaaaDoor.Lem

/- A key is drawn out of any code. -/
namespace Go.Proofs.YteogadaloebdaaaDoor.Lem
open Go Go.RowKit Go.Proofs.YteogadaloebdaaaDoor.P Go.Proofs.YteogadaloebdaaaDoorW.PrintWords Go.Proofs.YteogadaloebdaaaDoorW.PrintLast Go.Proofs.YteogadaloebdaaaDoorW.PrintMore

theorem ofC_ok {l : List Int} (hl : Bytes l) (at_ s : Int) (xs : List ByteArray) (hx : 1 ≤ xs.length) (h0 : 0 ≤ at_) (h1 : at_ < 4611686018427387900) :
    ∃ r a' s', spec_l1Cur_of.f l at_ s xs = some (r, a', s') ∧ at_ ≤ a' ∧ a' ≤ at_ + 2 := by
  unfold spec_l1Cur_of.f
  obtain ⟨r, a', s', e, ha, hb, hr, hn, _⟩ := pick_ok hl at_ s (xs.length : Int) h0 h1
  rw [e, Option.bind_some]
  dsimp only
  rw [if_pos hr, if_pos (hn (by omega))]
  exact ⟨_, _, _, rfl, ha, hb⟩
theorem amongC_ok {l : List Int} (hl : Bytes l) (at_ s : Int) (xs : List Int) (hx : 1 ≤ xs.length) (h0 : 0 ≤ at_) (h1 : at_ < 4611686018427387900) :
    ∃ r a' s', spec_l1Cur_among.f l at_ s xs = some (r, a', s') ∧ at_ ≤ a' ∧ a' ≤ at_ + 2 := by
  unfold spec_l1Cur_among.f
  obtain ⟨r, a', s', e, ha, hb, hr, hn, _⟩ := pick_ok hl at_ s (xs.length : Int) h0 h1
  rw [e, Option.bind_some]
  dsimp only
  rw [if_pos hr, if_pos (hn (by omega))]
  exact ⟨_, _, _, rfl, ha, hb⟩
theorem key_j1 {l : List Int} (hl : Bytes l) (at_ s : Int) (h0 : 0 ≤ at_) (h1 : at_ < 4611686018427387000) (m : ByteArray) (ts : List Tg) (ht : ts.length ≤ 10) (st : Int) (k : Nat) : ∃ r, spec_l1Cur_key.j1 (k + 1) l at_ s m ts st = some r := by
  rw [spec_l1Cur_key.j1]
  obtain ⟨r, a1, s1, e, ha, hb, _⟩ := pick_ok hl at_ s 60 h0 (by omega)
  rw [e, Option.bind_some]
  dsimp only
  by_cases c0 : r = 0
  · rw [if_pos c0]
    obtain ⟨r2, a2, s2, e2, _⟩ := ofC_ok hl a1 s1 [⟨#[]⟩, ⟨#[97, 49]⟩, ⟨#[97, 98, 99, 100, 101, 102, 103, 104, 105, 106, 107, 108, 109]⟩] (by decide) (by omega) (by omega)
    rw [e2, Option.bind_some]
    exact ⟨_, rfl⟩
  · rw [if_neg c0]
    by_cases c1 : r = 1
    · rw [if_pos c1]
      obtain ⟨r2, a2, s2, e2, _⟩ := ofC_ok hl a1 s1 [⟨#[97]⟩, ⟨#[122, 122]⟩, ⟨#[]⟩] (by decide) (by omega) (by omega)
      rw [e2, Option.bind_some, if_pos (by omega)]
      exact ⟨_, rfl⟩
    · rw [if_neg c1]
      by_cases c2 : r = 2
      · rw [if_pos c2]
        obtain ⟨r2, a2, s2, e2, _⟩ := amongC_ok hl a1 s1 [-1, 1000000000, 1000000001] (by decide) (by omega) (by omega)
        rw [e2, Option.bind_some]
        exact ⟨_, rfl⟩
      · rw [if_neg c2]
        exact ⟨_, rfl⟩
theorem key_j0 {l : List Int} (hl : Bytes l) (at_ s : Int) (h0 : 0 ≤ at_) (h1 : at_ < 4611686018427386000) (m : ByteArray) (ts : List Tg) (ht : ts.length ≤ 5) (st : Int) (k : Nat) : ∃ r, spec_l1Cur_key.j0 (k + 2) l at_ s m ts st = some r := by
  rw [spec_l1Cur_key.j0]
  obtain ⟨b, a1, s1, e, ha, hb⟩ := one_ok hl at_ s 3 h0 (by omega)
  rw [e, Option.bind_some]
  dsimp only
  by_cases c : b = true
  · rw [if_pos c]
    obtain ⟨r2, a2, s2, e2, h2, h3⟩ := ofC_ok hl a1 s1 [⟨#[101]⟩, ⟨#[119]⟩] (by decide) (by omega) (by omega)
    rw [e2, Option.bind_some]
    dsimp only
    rw [if_pos (by omega)]
    exact key_j1 hl _ _ (by omega) (by omega) _ _ (by rw [List.length_append, List.length_singleton]; omega) _ _
  · rw [if_neg c]
    exact key_j1 hl _ _ (by omega) (by omega) _ _ (by omega) _ _
theorem key_ok {l : List Int} (hl : Bytes l) (at_ s : Int) (h0 : 0 ≤ at_) (h1 : at_ < 4611686018427385000) (k : Nat) : ∃ r, spec_l1Cur_key.f (k + 2) l at_ s = some r := by
  unfold spec_l1Cur_key.f
  obtain ⟨m, a1, s1, e1, h2, h3⟩ := ofC_ok hl at_ s [⟨#[99, 112, 117]⟩, ⟨#[109, 101, 109]⟩, ⟨#[109]⟩, ⟨#[99, 112]⟩] (by decide) (by omega) (by omega)
  rw [e1, Option.bind_some]
  dsimp only
  obtain ⟨st, a2, s2, e2, h4, h5, _⟩ := pick_ok hl a1 s1 6 (by omega) (by omega)
  rw [e2, Option.bind_some]
  dsimp only
  obtain ⟨b, a3, s3, e3, h6, h7⟩ := one_ok hl a2 s2 2 (by omega) (by omega)
  rw [e3, Option.bind_some]
  dsimp only
  by_cases c : b = true
  · rw [if_pos c]
    obtain ⟨n, a4, s4, e4, h8, h9⟩ := ofC_ok hl a3 s3 [⟨#[97]⟩, ⟨#[97, 98]⟩, ⟨#[104, 111, 115, 116]⟩] (by decide) (by omega) (by omega)
    rw [e4, Option.bind_some]
    dsimp only
    obtain ⟨v, a5, s5, e5, h10, h11⟩ := ofC_ok hl a4 s4 [⟨#[120]⟩, ⟨#[120, 121]⟩, ⟨#[122]⟩] (by decide) (by omega) (by omega)
    rw [e5, Option.bind_some]
    dsimp only
    rw [if_pos (by decide)]
    exact key_j0 hl _ _ (by omega) (by omega) _ _ (by rw [List.length_append, List.length_singleton]; decide) _ _
  · rw [if_neg c]
    exact key_j0 hl _ _ (by omega) (by omega) _ _ (Nat.zero_le _) _ _
theorem drawKeyText_ok {l : List Int} (hl : Bytes l) (k : Nat) : ∃ m ts st, spec_DrawKeyText.f (k + 2) l = some (m, ts, st) := by
  obtain ⟨r, hr⟩ := key_ok hl 0 0 (by decide) (by decide) k
  unfold spec_DrawKeyText.f spec_DrawGoodKey.f
  rw [hr, Option.bind_some, Option.bind_some]
  exact ⟨_, _, _, rfl⟩
end Go.Proofs.YteogadaloebdaaaDoor.Lem

/- Keys come back from their text: FnTexts answers true at every code. -/
namespace Go.Proofs.YteogadaloebdaaaDoor.Pure
open Go Go.RowKit Go.Proofs.YteogadaloebdaaaDoor.P Go.Proofs.YteogadaloebdaaaDoorW.PrintWords Go.Proofs.YteogadaloebdaaaDoorW.PrintLast Go.Proofs.YteogadaloebdaaaDoorW.PrintMore Go.Proofs.YteogadaloebdaaaDoor.Lem

theorem keyT_size : ∀ (l : List Tg) (m : ByteArray), (∀ t ∈ l, t.f0.size ≤ 12 ∧ t.f1.size ≤ 12) → (keyT m l).size ≤ m.size + 26 * l.length
  | [], m, _ => Nat.le_refl _
  | t :: r, m, h => by
    have ih := keyT_size r (m ++ tagT t) (fun t ht => h t (List.mem_cons_of_mem _ ht))
    have ht := h t List.mem_cons_self
    have hs := tagT_size t
    rw [ByteArray.size_append] at ih
    rw [keyT, List.length_cons]
    omega
theorem textOf_size {m : ByteArray} {l : List Tg} {st : Int} (h : keyB m l st = true) : (textOf m l st).size ≤ 200 := by
  obtain ⟨h1, h2, h3, h4, h5⟩ := names_of h
  have hz := numT_size (n := st) (by omega) (by omega)
  have hk := keyT_size l m h3
  unfold textOf
  rw [ByteArray.size_append, ByteArray.size_append, show (⟨#[64]⟩ : ByteArray).size = 1 from rfl]
  omega
theorem FnTexts (l : List Int) {p : Prop} (h : p ∧ ∀ x ∈ l, (Lit.int .u8 x).wf = true) : ∃ k, laws_FnTexts.f k l = some true := by
  have hl : Bytes l := Bytes.of_wf h.2
  obtain ⟨m, ts, st, hd⟩ := drawKeyText_ok hl 999
  refine ⟨1000 + 1, ?_⟩
  unfold laws_FnTexts.f
  by_cases hs : (l.length : Int) > 1048576
  · rw [if_pos hs]
  · rw [if_neg hs, hd, Option.bind_some]
    dsimp only
    rw [implKT_ok m ts st (by decide), Option.bind_some, specKT_ok m ts st (by decide), Option.bind_some, bne_self_eq_false, if_neg (by decide), bne_self_eq_false, laws_FnTexts.j0, if_neg (by decide)]
    unfold keyO
    by_cases hk : keyB m ts st = true
    · rw [if_pos hk, if_pos rfl, implRead_hit hk (by have := textOf_size hk; omega) (by decide), Option.bind_some]
      dsimp only
      rw [implKT_ok m ts st (by decide), Option.bind_some, if_pos rfl, keyO, if_pos hk, if_pos rfl, beq_self_eq_true]
    · rw [if_neg hk, if_neg (by decide)]
      show some ((⟨#[]⟩ : ByteArray).toList == ([] : List UInt8)) = some true
      rw [ByteArray.toList_eq]
      rfl
end Go.Proofs.YteogadaloebdaaaDoor.Pure

/- An argument of a row, opened by its type: what reads as a value of the type is of the printed kind, at whatever depth. -/
namespace Go.Proofs.YteogadaloebdaaaDoor.Lem
open Go Go.ChangeShapes Go.WideShapes Go.RowKit Go.Proofs.YteogadaloebdaaaDoor.P Go.Proofs.YteogadaloebdaaaDoorW.PrintWords Go.Proofs.YteogadaloebdaaaDoorW.PrintLast Go.Proofs.YteogadaloebdaaaDoorW.PrintMore

theorem list_of {α : Type} {p : Nat → α → Prop} : ∀ n, (∀ i, i < n → ∃ z, p i z) → ∃ l : List α, l.length = n ∧ ∀ i z, l[i]? = some z → p i z
  | 0, _ => ⟨[], rfl, fun i z h => by simp at h⟩
  | n + 1, h => by
    obtain ⟨l, hl, hp⟩ := list_of n (fun i hi => h i (by omega))
    obtain ⟨z, hz⟩ := h n (by omega)
    refine ⟨l ++ [z], by rw [List.length_append, hl]; rfl, fun i y hy => ?_⟩
    rcases Nat.lt_or_ge i l.length with hi | hi
    · rw [List.getElem?_append_left hi] at hy
      exact hp i y hy
    · have hi' : i = l.length := by
        have := (List.getElem?_eq_some_iff.1 hy).1
        rw [List.length_append, List.length_singleton] at this
        omega
      subst hi'
      have : z = y := by simpa using hy
      subst this
      rw [hl]
      exact hz

theorem addr_add2 (a : Addr) (x y : Nat) : (a.add x).add y = a.add (x + y) := by
  unfold Addr.add
  by_cases hx : x = 0
  · subst hx
    rw [if_pos rfl, Nat.zero_add]
  · by_cases hy : y = 0
    · subst hy
      rw [if_pos rfl, Nat.add_zero]
    · rw [if_neg hx, if_neg hy, if_neg (by omega)]
      simp only [Nat.add_assoc]
section
variable {H : Type} (enc : TypeId × Value → H) (P : Program) (w : World) (base : Nat) (spare : Nat → Bool) (held : Bool)
/-- What reads as a value of the type is of the kind, and good. -/
def Opens {α : Type} (d : Kd α) (t : TypeId) (g : α → Prop) : Prop :=
  ∀ (fuel : Nat) (cs : List Value) (x : DataW H × List MemPlace), DataW.trod enc P w base spare held fuel t cs = some x → ∃ a, d.K w a cs ∧ g a
/-- .. a struct's fields from a place on. -/
def OpensF {α : Type} (d : Kd α) (fs : List Field) (o : Nat) (g : α → Prop) : Prop :=
  ∀ (n : Nat) (cs : List Value) (xs : List (DataW H × List MemPlace)), xs.length = fs.length → cs.length = o + (fs.map fun f => P.cellsOf f.type).sum →
    (∀ (i : Nat) (f : Field), fs[i]? = some f → DataW.trod enc P w base spare held n f.type ((cs.drop f.offset).take (P.cellsOf f.type)) = xs[i]?) → ∃ a, d.K w a (cs.drop o) ∧ g a
variable {enc P w base spare held}
variable {α β : Type} {t e : TypeId}
theorem opens_int {k : IntKind} (ht : P.underlying t = some (.int k)) : Opens enc P w base spare held (Kd.int k) t (fun n => (Lit.int k n).wf = true) := fun fuel cs x h => by
  obtain ⟨n, rfl, _, hw⟩ := DataW.trod_int ht h
  exact ⟨n, rfl, hw⟩
theorem opens_bool (ht : P.underlying t = some .bool) : Opens enc P w base spare held Kd.bool t (fun _ => True) := fun fuel cs x h => by
  obtain ⟨b, rfl, _⟩ := DataW.trod_bool ht h
  exact ⟨b, rfl, trivial⟩
theorem opens_string (ht : P.underlying t = some .string) : Opens enc P w base spare held Kd.string t (fun s => s.size ≤ maxLen) := fun fuel cs x h => by
  obtain ⟨s, rfl, _, hs⟩ := DataW.trod_string ht h
  exact ⟨s, rfl, hs⟩
theorem opens_slice {d : Kd α} {g : α → Prop} (e' : Nat) (ht : P.underlying t = some (.slice e)) (hd : Opens enc P w base spare held d e g) (hc : P.cellsOf e = d.sz) :
    Opens enc P w base spare held (Kd.slice e' d) t (fun l => l.length ≤ maxLen ∧ ∀ a ∈ l, g a) := fun fuel cs x h => by
  rcases DataW.trod_slice ht h with ⟨rfl, _⟩ | ⟨a, len, cap, elems, rest, n, _, rfl, _, hb, hl, hm, hlen, hel, _, _⟩
  · exact ⟨[], ⟨none, 0, rfl, Nat.le_refl _, rfl, Nat.zero_le _, fun h => absurd h (Nat.lt_irrefl _)⟩, Nat.zero_le _, fun a h => by simp at h⟩
  · have each : ∀ i, i < len → ∃ z, (∃ c, c.length = d.sz ∧ d.K w z c ∧ ∀ j u, c[j]? = some u → w.cell? (a.add (i * d.sz + j)) = some u) ∧ g z := by
      intro i hi
      have h1 := hel i hi
      rw [List.getElem?_eq_getElem (by omega), Option.bind_eq_some_iff] at h1
      obtain ⟨cs', hcs, ht'⟩ := h1
      obtain ⟨z, hz, hg⟩ := hd _ _ _ ht'
      obtain ⟨_, hl', hcell⟩ := World.cells?_some hcs
      refine ⟨z, ⟨cs', by rw [← hc]; exact hl', hz, fun j u hj => ?_⟩, hg⟩
      have hj' : j < P.cellsOf e := by have := (List.getElem?_eq_some_iff.1 hj).1; omega
      have h2 := hcell j hj'
      rw [hj, hc] at h2
      have ea : (a.add (i * d.sz)).add j = a.add (i * d.sz + j) := addr_add2 a _ _
      rw [← ea]
      exact h2
    obtain ⟨l, hll, hp⟩ := list_of len each
    subst hll
    have hml : l.length ≤ maxLen := Nat.le_trans hl hm
    refine ⟨l, ⟨some a, cap, rfl, hl, rfl, Nat.le_trans hml (of_decide_eq_true (by kernel_rfl)), fun _ => ⟨a, rfl, fun j z hz => (hp j z hz).1⟩⟩, hml, fun z hz => ?_⟩
    obtain ⟨i, hi⟩ := List.getElem?_of_mem hz
    exact (hp i z hi).2
theorem opensF_one {d : Kd α} {g : α → Prop} {f : Field} {o : Nat} (ho : f.offset = o) (h : Opens enc P w base spare held d f.type g) : OpensF enc P w base spare held d [f] o g := fun n cs xs hx hl hf => by
  match xs, hx with
  | [y], _ =>
    obtain ⟨a, ha, hg⟩ := h _ _ _ (hf 0 f rfl)
    rw [List.map_cons, List.map_nil, List.sum_cons, List.sum_nil] at hl
    rw [ho, List.take_of_length_le (by rw [List.length_drop]; omega)] at ha
    exact ⟨a, ha, hg⟩
theorem opensF_cons {d : Kd α} {d2 : Kd β} {g : α → Prop} {g2 : β → Prop} {f : Field} {fs : List Field} {o : Nat} (ho : f.offset = o) (h : Opens enc P w base spare held d f.type g) (hr : OpensF enc P w base spare held d2 fs (o + P.cellsOf f.type) g2) :
    OpensF enc P w base spare held (Kd.pair d d2) (f :: fs) o (fun a => g a.1 ∧ g2 a.2) := fun n cs xs hx hl hf => by
  match xs, hx with
  | y :: ys, hx =>
    obtain ⟨a, ha, hg⟩ := h _ _ _ (hf 0 f rfl)
    rw [List.map_cons, List.sum_cons] at hl
    obtain ⟨b, hb, hg2⟩ := hr n cs ys (by simpa using hx) (by omega) (fun i f' hi => hf (i + 1) f' hi)
    rw [ho] at ha
    refine ⟨(a, b), ⟨_, _, ?_, ha, hb⟩, hg, hg2⟩
    rw [← List.drop_drop, List.take_append_drop]
theorem opens_struct {d : Kd α} {g : α → Prop} {fs : Array Field} (ht : P.underlying t = some (.struct fs)) (hc : P.cellsOf t = (fs.toList.map fun f => P.cellsOf f.type).sum) (h : OpensF enc P w base spare held d fs.toList 0 g) : Opens enc P w base spare held d t g := fun fuel cs x hx => by
  obtain ⟨xs, n, _, _, hl, hlen, hf⟩ := DataW.trod_struct ht hx
  have := h n cs xs (by rw [hlen]; simp) (by omega) (fun i f hi => hf i f (by simpa using hi))
  rw [List.drop_zero] at this
  exact this
theorem opens_iso {d : Kd α} {g : α → Prop} (f : β → α) (mk : α → β) (hmk : ∀ a, f (mk a) = a) (h : Opens enc P w base spare held d t g) : Opens enc P w base spare held (Kd.iso d f) t (fun b => g (f b)) := fun fuel cs x hx => by
  obtain ⟨a, ha, hg⟩ := h fuel cs x hx
  exact ⟨mk a, by show d.K w (f (mk a)) cs; rw [hmk]; exact ha, by show g (f (mk a)); rw [hmk]; exact hg⟩
end
end Go.Proofs.YteogadaloebdaaaDoor.Lem

/- A row's wrap that hands on what start-up has laid, and the world's shape. -/
namespace Go.Proofs.YteogadaloebdaaaDoor.Lem
open Go
theorem handed_shaped {H : Type} {enc : TypeId × Value → H} {a : Assume} {C : Checked} {os : Os} {f : FuncId} {fn : Func} {s : ChangeSpec} {apart fresh handsOn again : Bool} {X : World → Array Value → Prop}
    (hX : ∀ (w w' : World) (args : Array Value), w.heap = w'.heap → X w args → X w' args)
    (own : ownKnob C.prog.godebug = none) (started : os.Started) (noInit : C.prog.inits.idxOf? f = none) (hfn : C.prog.funcs[f]? = some fn)
    (witness : ∃ (w : World) (tape : Tape) (i : Input), w.os = os ∧ (w.forCall tape i).Shaped C.prog ∧ i.vars = [] ∧ Input.okWide C.prog (w.forCall tape i) .any w.heap.size f i ∧
      ((s.pre enc C.prog fn [] apart (w.forCall tape i).memory i.args ∧ X (w.forCall tape i).memory i.args) ∧ sizedMet enc C.prog fn (OpenSpec.ofChange s) apart (w.forCall tape i).memory i.args) ∧ a.holds C.prog (lone (Frame.enter C.prog f i.args .normal) [] (w.forCall tape i)))
    (contract : ∀ (W : World) (base : Nat) (args : Array Value) (ds gs : List (DataW H)) (before : List MemPlace),
      (∀ (j : Nat) t v, fn.params[j]? = some t → args[j]? = some v → Value.okWide C.prog W .any base t v) →
      DataW.Whole enc C.prog fn.params.toList s.vars apart W args.toList ds gs before → X W args → W.ShapedOpen C.prog →
      Calls C.prog f args W fun e W' => ∃ v, e = .returned v ∧ s.post enc C.prog fn apart fresh handsOn again W args v W') :
    ReturnsInHanded a C os f .any (fun w args => (s.pre enc C.prog fn [] apart w args ∧ X w args) ∧ sizedMet enc C.prog fn (OpenSpec.ofChange s) apart w args) (s.post enc C.prog fn apart fresh handsOn again) := by
  refine returnsInHanded_of_calls own started noInit witness ?_
  intro w tape i _ hsh _ ⟨_, _, _, fn', hfn', _, _, _, _, hval⟩ hpre _
  obtain rfl : fn' = fn := Option.some.inj (hfn'.symm.trans hfn)
  obtain ⟨⟨⟨ds, gs, before, hw, _⟩, hx⟩, _⟩ := hpre
  exact (contract (w.forCall tape i) w.heap.size i.args ds gs before hval (DataW.Whole.of_heap (w' := w.forCall tape i) (by rfl) hw) (hX _ _ _ (by rfl) hx) hsh).mono fun e W' ⟨v, he, hp⟩ => by
    subst he
    exact ChangeSpec.post_blind hp
end Go.Proofs.YteogadaloebdaaaDoor.Lem

/- The row of laws.FnTexts: its arguments opened, the walk, and the tied card. -/
namespace Go.Proofs.YteogadaloebdaaaDoor.fnTexts
open Go Go.ChangeShapes Go.WideShapes Go.ChangeAt Go.RowKit Go.Proofs.YteogadaloebdaaaDoor.P Go.Proofs.YteogadaloebdaaaDoorW.PrintWords Go.Proofs.YteogadaloebdaaaDoorW.PrintLast Go.Proofs.YteogadaloebdaaaDoorW.PrintMore Go.Proofs.YteogadaloebdaaaDoor.Lem
set_option linter.unusedVariables false
theorem own : ownKnob Tryd.prog.godebug = none := by kernel_rfl
theorem laidOut : laidOutB Tryd.prog = true := by kernel_rfl
noncomputable def laidWorld (os : Os) : World := World.laidAll Tryd.prog os Rows.fnTextsRow.laid
theorem laidWorld_met (os : Os) (args : Array Value) : laidMetH Tryd.prog Rows.fnTextsRow.laid ((laidWorld os).forCall (fun _ _ => 0) ⟨#[], args, []⟩).memory := by
  rw [Go.MakeChecks.laidMetH_plain _ _ _ (by kernel_rfl)]
  exact laidMet_laidAll args (by kernel_rfl) (by kernel_rfl)
theorem gT : Tryd.prog.globalNamed "internal/strconv.uint64pow10" = some 3 := by kernel_rfl
theorem gTType : (Tryd.prog.globals[3]?).map (·.type) = some 169 := by kernel_rfl
theorem tab_of {W : World} (h : laidMetH Tryd.prog Rows.fnTextsRow.laid W) : Tab_ W := by
  rw [Go.MakeChecks.laidMetH_plain _ _ _ (by kernel_rfl)] at h
  have h2 : laidMet Tryd.prog (("internal/strconv.uint64pow10", Lib.tabData .u64 Lib.pow10Tab) :: [("unicode/utf8.acceptRanges", Rows.laid_unicode_utf8_acceptRanges), ("strconv.ErrRange", Rows.laid_strconv_ErrRange), ("strconv.ErrSyntax", Rows.laid_strconv_ErrSyntax), ("unicode/utf8.first", Rows.laid_unicode_utf8_first)]) W := h.tail.tail
  exact Lib.tabIs_of_head gT gTType Tryd.underlying169 Tryd.underlying60 (by kernel_rfl) (by kernel_rfl) h2
theorem tabM_of {W : World} (h : W.ShapedOpen Tryd.prog) : TabM_ W := Go.Proofs.cell_of_shapedOpen_int (zero := #[.int .i64 0]) (t := 3) h (of_decide_eq_true (by kernel_rfl)) (by kernel_rfl) rfl (by kernel_rfl) (by kernel_rfl) Tryd.underlying3
theorem starE : "*" ++ "errors.errorString" = "*errors.errorString" := by decide
theorem rowE (u : TypeId) (h : Tryd.prog.typeName? 3 u = some "*errors.errorString") : u = 164 :=
  typeName_ptr_named (nm := "errors.errorString") (by rw [starE]; kernel_rfl) (by kernel_rfl) (by decide) u (by rw [starE]; exact h)
theorem sent_of {n : String} {text : List UInt8} {r : List (String × DataW Unit)} {W : World} {g : Nat} (h : laidMet Tryd.prog ((n, .iface "*errors.errorString" (.ptr (.agg [.lit (.string text)]))) :: r) W) (hg : Tryd.prog.globalNamed n = some g) (ht : (Tryd.prog.globals[g]?).map (·.type) = some 86) : ∃ tp p, W.var? Tryd.prog n = some #[.iface tp p] := by
  obtain ⟨a, s, hv, _⟩ := laid_sentinel h hg ht Tryd.underlying86 rowE Tryd.underlying164 Tryd.underlying166 rfl rfl Tryd.underlying9 (by kernel_rfl) (by kernel_rfl)
  exact ⟨_, _, hv⟩
theorem tabE_of {W : World} (h : laidMetH Tryd.prog Rows.fnTextsRow.laid W) : TabE_ W := by
  rw [Go.MakeChecks.laidMetH_plain _ _ _ (by kernel_rfl)] at h
  exact ⟨sent_of h.tail.tail.tail.tail.tail (g := 1) (by kernel_rfl) (by kernel_rfl), sent_of h.tail.tail.tail.tail (g := 2) (by kernel_rfl) (by kernel_rfl)⟩
set_option maxRecDepth 100000 in
theorem lifted (os : Os) (started : os.Started) (H : Type) (enc : TypeId × Value → H) :
    ReturnsInHanded {} Tryd.checked os 5 .any (fun w args => (Rows.fnTextsSpec.pre enc Tryd.prog Tryd.f5 [] false w args ∧ laidMetH Tryd.prog Rows.fnTextsRow.laid w) ∧ sizedMet enc Tryd.prog Tryd.f5 (OpenSpec.ofChange Rows.fnTextsSpec) false w args)
      (Rows.fnTextsSpec.post enc Tryd.prog Tryd.f5 false true false false) := by
  refine handed_shaped (C := Tryd.checked) (X := fun w _ => laidMetH Tryd.prog Rows.fnTextsRow.laid w) (fun _ _ _ hh h => h.of_heap hh) own started (by kernel_rfl) Tryd.func5
    (ChangeSpec.witness_at (enc := enc) (C := Tryd.checked) (os := os) (X := fun w _ => laidMetH Tryd.prog Rows.fnTextsRow.laid w) false (laidWorld os) #[.slice none 0 0] 8 rfl (by kernel_rfl) (by kernel_rfl) (by kernel_rfl) (by kernel_rfl) (by kernel_rfl) (laidWorld_met os _)) ?_
  intro W base args ds gs before hval0 hW hL hsh
  have hval : ∀ (j : Nat) t v, Tryd.f5.params[j]? = some t → args[j]? = some v → Value.okWide Tryd.prog W .any base t v := hval0
  have hW' := hW
  obtain ⟨p, q, hA0, hV, rfl, hfz, hnd⟩ := hW
  have hA : DataW.TrodAll enc Tryd.prog W 0 (fun _ => true) true Tryd.f5.params.toList args.toList ds p := hA0
  rw [Tryd.params5] at hA hval
  obtain ⟨v0, vs0, d0, ds0, p0, q0, hargs, rfl, rfl, h0, r0⟩ := trodAll_cons hA
  obtain ⟨rfl, rfl, rfl⟩ := trodAll_nil r0
  obtain rfl : args = #[v0] := by cases args; simp_all
  obtain ⟨rfl, rfl⟩ := trodVars_none hV
  have k0 := h0
  have lt0 : ∀ x ∈ p0, x.block < W.heap.size := by obtain ⟨m, hm⟩ := k0; exact DataW.trod_lt m _ _ _ hm
  have hO0 : Opens enc Tryd.prog W 0 (fun _ => true) true (Kd.slice 5 (Kd.int .u8)) 22 _ := (opens_slice 5 Tryd.underlying22 (opens_int Tryd.underlying5) (by kernel_rfl))
  obtain ⟨A0, n0, c0, rfl⟩ := okWide_slice Tryd.underlying22 (hval 0 22 v0 rfl rfl)
  obtain ⟨l0, ⟨A0', c0', e0, hc0, hC0⟩, hg0⟩ := hO0 _ _ _ h0.choose_spec
  obtain ⟨rfl, rfl, rfl⟩ : A0 = A0' ∧ n0 = l0.length ∧ c0 = c0' := by
    have e1 : (Value.slice A0 n0 c0).cells.toList = [.slice A0' l0.length c0'] := e0
    simpa [Value.cells] using e1
  clear hA0 hval0
  obtain ⟨k, hk⟩ := Pure.FnTexts l0 hg0
  refine (laws_FnTexts.calls (k := k) (l0 := l0) (A0 := A0) (c0 := c0) (hr0 := hC0) (hc0 := hc0) (hTabE_ := tabE_of hL) (hTabM_ := tabM_of hsh) (hTab_ := tab_of hL) (r := true) (w := W) (h := hk)).mono fun e W' ⟨he, bel⟩ => ?_
  subst he
  exact ⟨_, rfl, _, _, _, [], _, [], hW', trodAll_mk1 (shut_bool Tryd.underlying4 _), (trodAll_cons_mk (Below.trod laidOut (by kernel_rfl) (of_decide_eq_true (by kernel_rfl)) k0 bel lt0) trodAll_mk0), rfl, bel.frame _, fun h => by cases h⟩

theorem said : Rows.FnTextsSaid :=
  OpenClaim.holds_of_wide 5 Tryd.f5 rfl rfl rfl rfl rfl rfl rfl ⟨rfl, rfl, rfl, rfl, rfl⟩ rfl rfl rfl rfl rfl (by kernel_rfl) Tryd.func5 (by kernel_rfl)
    (of_decide_eq_true (by kernel_rfl)) (by unfold Func.isWrapper; first | (rw [if_pos (by decide +kernel)]; kernel_rfl) | (rw [if_neg (of_decide_eq_false (by kernel_rfl))]; exact ⟨rfl, rfl⟩))
    (fun os started H enc _ => lifted os started H enc)
theorem proved : Rows.FnTextsCardSaid :=
  Claim7.holds_tied_plain_at .later [] [.data, .data, .data, .data, .sentinel, .sentinel, .pinned] true (true, "530680aa149a9bfdf8426b77c2dd44bb6360f0ccd4b9951516dd54b6e96286e5") true
    said (fun _ h => by cases h) (by kernel_rfl) (fun _ h => by cases h) fnTexts_row_tie rfl ⟨rfl, rfl⟩ (by kernel_rfl) rfl
    (fun f fn hf hfn => by
      obtain rfl : f = 5 := Option.some.inj ((show Tryd.prog.funcNamed "loop.example/g00150/laws.FnTexts" = some 5 by kernel_rfl).symm.trans hf) |>.symm
      obtain rfl : fn = Tryd.f5 := (Option.some.inj (Tryd.func5.symm.trans hfn)).symm
      exact ⟨by kernel_rfl, fun j t ht => by
        rw [Tryd.params5] at ht
        have h3 : t = 22 := by
          rcases j with _ | j
          · exact ((by simpa using ht.symm))
          · simp at ht
        obtain rfl := h3
        · exact (show Tryd.prog.wantsStandIn 22 = false by kernel_rfl)⟩)
    (by kernel_rfl)
#print axioms proved
end Go.Proofs.YteogadaloebdaaaDoor.fnTexts
namespace Go.Proofs.YteogadaloebdaaaDoor
/-- The tied card, under a short name, for the claim. -/
theorem fnTexts_holds : Rows.FnTextsCardSaid := fnTexts.proved
end Go.Proofs.YteogadaloebdaaaDoor
