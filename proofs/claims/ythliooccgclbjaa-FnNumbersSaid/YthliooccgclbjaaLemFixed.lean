import Derived.Test.YthliooccgclbjaaLemVar
import Derived.Test.YthliooccgclbjaaPf12
import Derived.Test.YthliooccgclbjaaPf14
import Derived.Test.YthliooccgclbjaaPf13
import Derived.Test.YthliooccgclbjaaPf42
import Derived.Test.YthliooccgclbjaaPf41
namespace Go.Proofs.Ythliooccgclbjaa.Lem
open Go.RowKit Go.Proofs.Ythliooccgclbjaa.P Go.Proofs.YthliooccgclbjaaW.PrintWords Go.Proofs.YthliooccgclbjaaW.PrintLast Go.Proofs.YthliooccgclbjaaW.PrintMore

/-- So many bytes of a number, the highest one first. -/
def be : Nat → Nat → List Int
  | 0, _ => []
  | m + 1, n => be m (n / 256) ++ [((n % 256 : Nat) : Int)]

theorem be_length : ∀ m n, (be m n).length = m := by
  intro m
  induction m with
  | zero => intro n; rfl
  | succ m ih => intro n; simp [be, ih]
theorem be_bytes : ∀ m n, Bytes (be m n) := by
  intro m
  induction m with
  | zero => intro n; exact Bytes.nil
  | succ m ih => intro n; exact (ih _).append (Bytes.cons (by omega) (by omega) Bytes.nil)
theorem be_head : ∀ m n, be (m + 1) n = ((n / 256 ^ m % 256 : Nat) : Int) :: be m n := by
  intro m
  induction m with
  | zero => intro n; simp [be]
  | succ m ih =>
    intro n
    have e : be (m + 1 + 1) n = be (m + 1) (n / 256) ++ [((n % 256 : Nat) : Int)] := rfl
    rw [e, ih, Nat.div_div_eq_div_mul, ← Nat.pow_succ']
    rfl

theorem putFixed_l0 : ∀ (i k n : Nat) (suf : List Int), i < k → i + suf.length < 4611686018427387904 → impl_PutFixed.l0 k (n : Int) (List.replicate i 0 ++ suf) ((i : Int) - 1) = some (be i n ++ suf, true) := by
  intro i
  induction i with
  | zero =>
    intro k n suf hk hs
    obtain ⟨k, rfl⟩ : ∃ m, k = m + 1 := ⟨k - 1, by omega⟩
    simp only [impl_PutFixed.l0]
    rw [if_neg (by omega)]
    rfl
  | succ i ih =>
    intro k n suf hk hs
    obtain ⟨k, rfl⟩ : ∃ m, k = m + 1 := ⟨k - 1, by omega⟩
    simp only [impl_PutFixed.l0]
    rw [show ((i + 1 : Nat) : Int) - 1 = (i : Int) by omega, if_pos (by omega), if_pos (by omega), if_pos (by simp; omega)]
    rw [show wrap64 ((i : Int) - 1) = (i : Int) - 1 from w64 (by omega) (by omega), Int.toNat_natCast, show (n : Int) / 256 = ((n / 256 : Nat) : Int) by omega]
    have hset : (List.replicate (i + 1) 0 ++ suf).set i ((n : Int) % 256) = List.replicate i 0 ++ (((n % 256 : Nat) : Int) :: suf) := by
      rw [List.replicate_succ', List.append_assoc, List.set_append_right _ _ (by simp)]
      simp
    rw [hset, ih k (n / 256) _ (by omega) (by simp; omega)]
    simp [be]

theorem in_ok (a b c : Int) : spec_l1In.f a b c = some (decide (b ≤ a ∧ a ≤ c)) := by
  unfold spec_l1In.f
  by_cases h : a ≥ b
  · rw [if_pos h]
    congr 1
    simp [show b ≤ a from h]
  · rw [if_neg h]
    congr 1
    simp [show ¬ b ≤ a from h]

theorem shr_i64 {n i : Nat} (h : i ≤ 7) : shr .i64 (n : Int) ((8 * i : Nat) : Int) = ((n / 256 ^ i : Nat) : Int) := by
  unfold shr
  rw [Int.toNat_natCast, Nat.min_eq_left (by show 8 * i ≤ 64; omega)]
  have hp : (256 : Nat) ^ i = 2 ^ (8 * i) := by rw [Nat.pow_mul]
  rw [hp]
  push_cast
  rfl

theorem l1Fixed_l0 : ∀ (i k n : Nat) (acc : List Int), i < k → i ≤ 8 → acc.length + i < 140737488355328 → spec_l1Fixed.l0 k (n : Int) acc ((i : Int) - 1) = some (acc ++ be i n) := by
  intro i
  induction i with
  | zero =>
    intro k n acc hk h8 ha
    obtain ⟨k, rfl⟩ : ∃ m, k = m + 1 := ⟨k - 1, by omega⟩
    simp only [spec_l1Fixed.l0]
    rw [if_neg (by omega)]
    simp [be]
  | succ i ih =>
    intro k n acc hk h8 ha
    obtain ⟨k, rfl⟩ : ∃ m, k = m + 1 := ⟨k - 1, by omega⟩
    simp only [spec_l1Fixed.l0]
    have hw : IntKind.u64.wrap (wrap64 (8 * (((i + 1 : Nat) : Int) - 1))) = ((8 * i : Nat) : Int) := by
      rw [w64 (by omega) (by omega), wu64 (by omega) (by omega)]
      omega
    rw [if_pos (by omega), hw, if_pos (by omega), if_pos (by omega), shr_i64 (by omega), show wrap64 (((i + 1 : Nat) : Int) - 1 - 1) = (i : Int) - 1 from by rw [w64 (by omega) (by omega)]; omega]
    rw [ih k n _ (by omega) (by omega) (by simp; omega), be_head, List.append_assoc]
    congr 2

theorem l1Fixed_ok {k n m : Nat} (hk : 8 < k) (hm : m ≤ 8) : spec_l1Fixed.f k (n : Int) (m : Int) = some (be m n) := by
  unfold spec_l1Fixed.f
  rw [show wrap64 ((m : Int) - 1) = (m : Int) - 1 from w64 (by omega) (by omega), l1Fixed_l0 m k n [] (by omega) hm (by simp; omega)]
  rfl

/-- The bytes of a number: the program's and the reference's. -/
theorem putFixed_ok {k : Nat} (hk : 12 < k) (n many : Int) (hn : n < 9223372036854775808) (h0 : 0 ≤ many) (h9 : many ≤ 9) :
    (impl_PutFixed.f k n many = some ([], false) ∧ spec_PutFixed.f k n many = some ([], false)) ∨
    ∃ a m : Nat, n = (a : Int) ∧ many = (m : Int) ∧ 1 ≤ m ∧ m ≤ 8 ∧ a < 256 ^ m ∧ impl_PutFixed.f k n many = some (be m a, true) ∧ spec_PutFixed.f k n many = some (be m a, true) := by
  obtain ⟨k, rfl⟩ : ∃ m, k = m + 1 := ⟨k - 1, by omega⟩
  have hbad : impl_PutFixed.j0 (k + 1) n many true = some ([], false) := by simp only [impl_PutFixed.j0]; rfl
  by_cases hneg : n < 0
  · left
    refine ⟨?_, ?_⟩
    · unfold impl_PutFixed.f
      rw [if_pos hneg, hbad]
    · unfold spec_PutFixed.f
      rw [if_pos hneg]
  · obtain ⟨a, rfl⟩ : ∃ a : Nat, n = (a : Int) := ⟨n.toNat, by omega⟩
    obtain ⟨m, rfl⟩ : ∃ m : Nat, many = (m : Int) := ⟨many.toNat, by omega⟩
    have hw : wrap64 (8 * (m : Int)) = ((8 * m : Nat) : Int) := by rw [w64 (by omega) (by omega)]; omega
    have hwu : IntKind.u64.wrap ((8 * m : Nat) : Int) = ((8 * m : Nat) : Int) := wu64 (by omega) (by omega)
    by_cases hm : 1 ≤ (m : Int) ∧ (m : Int) ≤ 8
    · have hgood : impl_PutFixed.j0 (k + 1) (a : Int) (m : Int) false = some (be m a, true) := by
        simp only [impl_PutFixed.j0]
        rw [if_neg (by decide), if_pos (by omega), Int.toNat_natCast, if_pos (by omega), show wrap64 ((m : Int) - 1) = (m : Int) - 1 from w64 (by omega) (by omega)]
        have := putFixed_l0 m k a [] (by omega) (by simp; omega)
        simpa using this
      by_cases h8 : (m : Int) < 8
      · by_cases hz : a / 256 ^ m = 0
        · right
          refine ⟨a, m, rfl, rfl, by omega, by omega, ?_, ?_, ?_⟩
          · rcases Nat.div_eq_zero_iff.1 hz with h | h
            · have : 0 < 256 ^ m := Nat.pow_pos (by decide)
              omega
            · exact h
          · unfold impl_PutFixed.f
            rw [if_neg hneg, within_ok, show decide (1 ≤ (m : Int) ∧ (m : Int) ≤ 8) = true from decide_eq_true hm]
            rw [Option.bind_some, if_pos rfl]
            rw [if_pos h8, hw, if_pos (by omega), shr_i64 (by omega), hz]
            exact hgood
          · unfold spec_PutFixed.f
            rw [if_neg hneg, in_ok, show decide (1 ≤ (m : Int) ∧ (m : Int) ≤ 8) = true from decide_eq_true hm]
            rw [Option.bind_some, if_pos rfl]
            rw [if_pos h8, hw, hwu, if_pos (by omega), shr_i64 (by omega), hz, if_pos (by rfl), l1Fixed_ok (by omega) (by omega)]
            rfl
        · left
          refine ⟨?_, ?_⟩
          · unfold impl_PutFixed.f
            rw [if_neg hneg, within_ok, show decide (1 ≤ (m : Int) ∧ (m : Int) ≤ 8) = true from decide_eq_true hm]
            rw [Option.bind_some, if_pos rfl]
            rw [if_pos h8, hw, if_pos (by omega), shr_i64 (by omega), show ((((a / 256 ^ m : Nat) : Int) != 0)) = true from by simp only [bne_iff_ne]; omega]
            exact hbad
          · unfold spec_PutFixed.f
            rw [if_neg hneg, in_ok, show decide (1 ≤ (m : Int) ∧ (m : Int) ≤ 8) = true from decide_eq_true hm]
            rw [Option.bind_some, if_pos rfl]
            rw [if_pos h8, hw, hwu, if_pos (by omega), shr_i64 (by omega), if_neg (by omega)]
      · obtain rfl : m = 8 := by omega
        right
        refine ⟨a, 8, rfl, rfl, by omega, by omega, ?_, ?_, ?_⟩
        · have : (256 : Nat) ^ 8 = 18446744073709551616 := by decide
          omega
        · unfold impl_PutFixed.f
          rw [if_neg hneg, within_ok, show decide (1 ≤ ((8 : Nat) : Int) ∧ ((8 : Nat) : Int) ≤ 8) = true from by decide]
          rw [Option.bind_some, if_pos rfl]
          rw [if_neg (by omega)]
          exact hgood
        · unfold spec_PutFixed.f
          rw [if_neg hneg, in_ok, show decide (1 ≤ ((8 : Nat) : Int) ∧ ((8 : Nat) : Int) ≤ 8) = true from by decide]
          rw [Option.bind_some, if_pos rfl]
          rw [if_neg (by omega), l1Fixed_ok (by omega) (by omega)]
          rfl
    · left
      have hf : decide (1 ≤ (m : Int) ∧ (m : Int) ≤ 8) = false := decide_eq_false hm
      refine ⟨?_, ?_⟩
      · unfold impl_PutFixed.f
        rw [if_neg hneg, within_ok, hf]
        rw [Option.bind_some]
        rw [if_neg (by decide)]
        exact hbad
      · unfold spec_PutFixed.f
        rw [if_neg hneg, in_ok, hf]
        rw [Option.bind_some]
        rw [if_neg (by decide)]

/-! ### reading -/
/-- The number of bytes, the highest one first. -/
def val (l : List Int) (v : Int) : Int := l.foldl (fun a c => a * 256 + c) v

theorem val_be : ∀ m a v, a < 256 ^ m → val (be m a) v = v * 256 ^ m + a := by
  intro m
  induction m with
  | zero => intro a v h; simp [be, val]; omega
  | succ m ih =>
    intro a v h
    have h2 : a / 256 < 256 ^ m := by
      rw [Nat.div_lt_iff_lt_mul (by decide)]
      rw [Nat.pow_succ] at h
      exact h
    have := ih (a / 256) v h2
    unfold val at this ⊢
    rw [be, List.foldl_append, this]
    simp only [List.foldl_cons, List.foldl_nil]
    have e : (256 : Int) ^ (m + 1) = 256 ^ m * 256 := by rw [Int.pow_succ]
    rw [e, Int.add_mul, Int.mul_assoc]
    omega

theorem or_low {a c : Int} (ha : 0 ≤ a) (hb : a < 72057594037927936) (h0 : 0 ≤ c) (h1 : c < 256) : Go.bits .or .u64 (IntKind.u64.wrap (a * 256)) (IntKind.u64.wrap c) = a * 256 + c := by
  rw [wu64 (by omega) (by omega), wu64 h0 (by omega), u64_or _ _ (by omega) (by omega) h0 (by omega)]
  have e1 : (a * 256).toNat = 2 ^ 8 * a.toNat := by omega
  have h := Nat.two_pow_add_eq_or_of_lt (i := 8) (b := c.toNat) (by omega) a.toNat
  rw [e1, ← h]
  omega

theorem readFixed_l0 : ∀ (t : List Int) (k i : Nat) (l : List Int) (v : Int), Bytes l → l.length < 4611686018427387904 → l.drop i = t → t.length < k → 0 ≤ v → v < 256 ^ (8 - t.length) → t.length ≤ 8 →
    impl_ReadFixed.l0 k v l (l.length : Int) (i : Int) = if val t v < 9223372036854775808 then some (val t v, true) else some (0, false) := by
  intro t
  induction t with
  | nil =>
    intro k i l v hl hlen hd hk h0 h1 h8
    obtain ⟨k, rfl⟩ : ∃ m, k = m + 1 := ⟨k - 1, by omega⟩
    have hi : l.length ≤ i := by simpa using List.drop_eq_nil_iff.1 hd
    have h1' : v < 18446744073709551616 := by simpa using h1
    simp only [impl_ReadFixed.l0]
    rw [if_neg (by omega)]
    show _ = if v < _ then some (v, true) else _
    by_cases hv : v < 9223372036854775808
    · rw [if_pos (by omega), if_pos hv, w64 (by omega) hv]
    · rw [if_neg (by omega), if_neg hv]
  | cons c t ih =>
    intro k i l v hl hlen hd hk h0 h1 h8
    obtain ⟨k, rfl⟩ : ∃ m, k = m + 1 := ⟨k - 1, by omega⟩
    have hi : i < l.length := by
      have := congrArg List.length hd
      simp at this; omega
    have hc := rd_eq hd
    have hb : 0 ≤ c ∧ c < 256 := hl c (by
      have : c ∈ l.drop i := by rw [hd]; exact List.mem_cons_self
      exact List.mem_of_mem_drop this)
    have hd2 : l.drop (i + 1) = t := by rw [← List.drop_drop, hd]; rfl
    simp only [List.length_cons] at h1 h8 hk
    have hp : (256 : Int) ^ (8 - t.length) = 256 ^ (8 - (t.length + 1)) * 256 := by
      rw [← Int.pow_succ]; congr 1; omega
    have hp7 : (256 : Int) ^ (8 - (t.length + 1)) ≤ 72057594037927936 := by
      have key : ∀ m : Fin 8, (256 : Int) ^ (8 - (m.val + 1)) ≤ 72057594037927936 := by decide
      exact key ⟨t.length, by omega⟩
    simp only [impl_ReadFixed.l0]
    rw [if_pos (by omega), if_pos (by omega), if_pos (by omega), hc, or_low h0 (by omega) hb.1 hb.2]
    rw [show wrap64 ((i : Int) + 1) = ((i + 1 : Nat) : Int) from by rw [w64 (by omega) (by omega)]; omega]
    rw [ih k (i + 1) l (v * 256 + c) hl hlen hd2 (by omega) (by omega) (by rw [hp]; omega) (by omega)]
    rfl

/-- The number of so many bytes at a place. -/
theorem readFixed_ok {k : Nat} {l : List Int} {at_ many : Nat} (hk : 12 < k) (hl : Bytes l) (hlen : l.length < 4611686018427387904) (h1 : 1 ≤ many) (h8 : many ≤ 8) (hat : at_ + many ≤ l.length) :
    impl_ReadFixed.f k l (at_ : Int) (many : Int) = if val ((l.drop at_).take many) 0 < 9223372036854775808 then some (val ((l.drop at_).take many) 0, true) else some (0, false) := by
  obtain ⟨k, rfl⟩ : ∃ m, k = m + 1 := ⟨k - 1, by omega⟩
  unfold impl_ReadFixed.f
  rw [within_ok, show decide (1 ≤ (many : Int) ∧ (many : Int) ≤ 8) = true from decide_eq_true (by omega)]
  rw [Option.bind_some, if_pos rfl]
  rw [within_ok, w64 (by omega) (by omega), show decide (0 ≤ (at_ : Int) ∧ (at_ : Int) ≤ (l.length : Int) - (many : Int)) = true from decide_eq_true (by omega)]
  rw [Option.bind_some, Bool.not_true]
  simp only [impl_ReadFixed.j0]
  rw [if_neg (by decide), if_pos (by omega), w64 (by omega) (by omega), if_pos (by omega), if_pos (by omega), Option.bind_some]
  have hcut : (l.take ((at_ : Int) + (many : Int)).toNat).drop (at_ : Int).toNat = (l.drop at_).take many := by
    rw [Int.toNat_natCast, show ((at_ : Int) + (many : Int)).toNat = at_ + many by omega, List.drop_take]
    congr 1
    omega
  rw [hcut]
  have hl2 : Bytes ((l.drop at_).take many) := (hl.drop _).take _
  have hlen2 : ((l.drop at_).take many).length = many := by simp; omega
  have hfin := readFixed_l0 ((l.drop at_).take many) k 0 ((l.drop at_).take many) 0 hl2 (by omega) List.drop_zero (by omega) (Int.le_refl 0) (Int.pow_pos (by decide)) (by omega)
  rw [Int.natCast_zero] at hfin
  exact hfin

end Go.Proofs.Ythliooccgclbjaa.Lem
