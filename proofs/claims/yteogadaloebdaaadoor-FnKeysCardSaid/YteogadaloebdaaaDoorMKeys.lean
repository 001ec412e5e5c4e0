/- The statement's own text and the last of the walks that it uses. -/
import Derived.ChangeArms
import Derived.ChangeSlices
import Derived.DataReads
import Derived.Handed
import Derived.Shelf.Vars
import Derived.Test.YteogadaloebdaaaDoorRows
import Derived.Test.YteogadaloebdaaaDoorTie
import Derived.Test.YteogadaloebdaaaDoorCards
import Derived.WalkKit
import Derived.ProofKit
import Derived.OpenShut
import Derived.ChangeOld
import Derived.Below
import Derived.Lay
import Derived.MakeChecks
import Derived.LaidHandle
import Derived.Lib.LaidTab
import Derived.Stop.LaidErr
import Derived.JoinedOf
import Derived.SevenTiedAt
import Derived.RowKit
import Derived.Test.YteogadaloebdaaaDoorMKeys5

/- The bytes of a good key are read back. -/
namespace Go.Proofs.YteogadaloebdaaaDoor.Lem
open Go Go.RowKit Go.Proofs.YteogadaloebdaaaDoor.P Go.Proofs.YteogadaloebdaaaDoorW.PrintWords Go.Proofs.YteogadaloebdaaaDoorW.PrintLast Go.Proofs.YteogadaloebdaaaDoorW.PrintMore

theorem low_not {s : ByteArray} (h : nameB s = true) {c : UInt8} (hc : c.toNat ≤ 2) : c ∉ s.data.toList := by
  intro hm
  have := List.all_eq_true.1 (nameB_letters h) c hm
  unfold letter at this
  simp only [Bool.or_eq_true, Bool.and_eq_true, decide_eq_true_eq] at this
  omega
theorem partU_not {t : Tg} (h : nameB t.f0 = true ∧ nameB t.f1 = true) : (0 : UInt8) ∉ partU t := by
  unfold partU
  intro hm
  rcases List.mem_cons.1 hm with hm | hm
  · exact absurd hm (by decide)
  · rcases List.mem_append.1 hm with hm | hm
    · exact low_not h.1 (by decide) hm
    · rcases List.mem_cons.1 hm with hm | hm
      · exact absurd hm (by decide)
      · exact low_not h.2 (by decide) hm
theorem trim_hit (x : List UInt8) : strings_TrimPrefix.f (mkB (2 :: x)) (⟨#[2]⟩ : ByteArray) = some (mkB x) := by
  have hs : ((mkB (2 :: x)).size : Int) = (x.length : Int) + 1 := by rw [mkB_size, List.length_cons]; omega
  have h1 : ((⟨#[2]⟩ : ByteArray).size : Int) = 1 := rfl
  unfold strings_TrimPrefix.f stringslite_TrimPrefix.f stringslite_HasPrefix.f
  rw [hs, h1, if_pos (by omega), if_pos (by omega), if_pos (by omega), Option.bind_some, if_pos ?_, if_pos (by omega), if_pos (by omega), Option.bind_some]
  · congr 1
    refine Go.WideShapes.bytes_inj ?_
    rw [extract_list, mkB_list, mkB_size, List.length_cons, mkB_list]
    show List.take (x.length + 1 - 1) (List.drop 1 (2 :: x)) = x
    rw [List.drop_one, List.tail_cons, Nat.add_sub_cancel, List.take_length]
  · rw [beq_iff_eq, Go.Lib.toList_data, Go.Lib.toList_data, extract_list, mkB_list]
    rfl
theorem cutB_hit {c : UInt8} {a b : List UInt8} (h : c ∉ a) (hs : (a ++ c :: b).length < 4294967281) : strings_Cut.f (mkB (a ++ c :: b)) (⟨#[c]⟩ : ByteArray) = some (mkB a, mkB b, true) := by
  unfold strings_Cut.f
  rw [if_pos (by rw [mkB_size]; exact hs), mkB_list, show (⟨#[c]⟩ : ByteArray).data.toList = [c] from rfl, cut_hit h]
  rfl
theorem readKey_end {m : ByteArray} {l : List Tg} {st : Int} (h : keyB m l st = true) {k : Nat} (hk : 30 < k) (x : ByteArray) : impl_ReadKey.j2 (k + 1) (keyI m l st) x false m l st = some (m, l, st, true) := by
  rw [impl_ReadKey.j2, if_neg (by decide), implKey_ok m l st (by omega), Option.bind_some, if_pos h, keyBytes_ok h (by omega), Option.bind_some]
  unfold bytes_Equal.f
  rw [Option.bind_some, if_pos (beq_self_eq_true _)]
theorem readKey_l0 {m : ByteArray} {l : List Tg} {st : Int} (h : keyB m l st = true) : ∀ (d i k : Nat), i + d = l.length → 2 * d + 40 < k → impl_ReadKey.l0 k (keyI m l st) (mkB (tagsU (l.drop i))) m (l.take i) st = some (m, l, st, true) := by
  obtain ⟨hm, hl, h0, h1, ht⟩ := keyB_parts h
  have hn := tagsB_names ht
  intro d
  induction d with
  | zero =>
    intro i k hi hk
    obtain ⟨k, rfl⟩ : ∃ q, k = q + 2 := ⟨k - 2, by omega⟩
    rw [List.drop_of_length_le (by omega), List.take_of_length_le (by omega), impl_ReadKey.l0, if_pos (by rw [Go.Lib.toList_data, mkB_list]; rfl)]
    exact readKey_end h (by omega) _
  | succ d ih =>
    intro i k hi hk
    obtain ⟨k, rfl⟩ : ∃ q, k = q + 2 := ⟨k - 2, by omega⟩
    have hlt : i < l.length := by omega
    obtain ⟨n0, n1⟩ := hn l[i] (List.getElem_mem hlt)
    have z0 := nameB_size n0
    have z1 := nameB_size n1
    have hle : ∀ t ∈ l.drop i, t.f0.size ≤ 12 ∧ t.f1.size ≤ 12 := fun t ht' => names_le ht t (List.mem_of_mem_drop ht')
    have hsz := tagsU_length (l.drop i) hle
    rw [List.length_drop] at hsz
    have htk : (l.take i).length = i := by rw [List.length_take]; omega
    have hne : ¬ (mkB (tagsU (l.drop i))).toList = ([] : List UInt8) := by
      rw [Go.Lib.toList_data, mkB_list, drop_get hlt, tagsU]
      unfold partU
      exact List.cons_ne_nil _ _
    rw [impl_ReadKey.l0, if_neg hne, decide_eq_true (by rw [htk]; omega), impl_ReadKey.j2, if_pos rfl]
    rw [drop_get hlt, tagsU] at hsz ⊢
    rw [cutB_hit (partU_not ⟨n0, n1⟩) (by omega), Option.bind_some]
    dsimp only
    rw [show partU l[i] = 2 :: (l[i].f0.data.toList ++ 1 :: l[i].f1.data.toList) from rfl, trim_hit, Option.bind_some, cutB_hit (low_not n0 (by decide)) (by rw [List.length_append, List.length_cons, ← Go.Lib.size_eq, ← Go.Lib.size_eq]; omega), Option.bind_some]
    dsimp only
    rw [if_pos (by omega), mkB_of, mkB_of]
    have hnext := ih (i + 1) k (by omega) (by omega)
    rw [List.take_add_one, List.getElem?_eq_getElem hlt] at hnext
    exact hnext
theorem keyI_length {m : ByteArray} {l : List Tg} {st : Int} : (keyI m l st).length = (headU m l).length + 9 := by
  unfold keyI
  rw [List.length_append, List.length_cons, B8.be_length, toI, List.length_map]
theorem keyI_bytes (m : ByteArray) (l : List Tg) (st : Int) : Bytes (keyI m l st) := (toI_bytes _).append (Bytes.cons (by decide) (by decide) (B8.be_bytes 8 _))
theorem readKey_ok {m : ByteArray} {l : List Tg} {st : Int} (h : keyB m l st = true) {k : Nat} (hk : 100 < k) : impl_ReadKey.f k (keyI m l st) = some (m, l, st, true) := by
  obtain ⟨hm, hl, h0, h1, ht⟩ := keyB_parts h
  have hs := nameB_size hm
  have hsz := tagsU_length l (names_le ht)
  have hh : (headU m l).length = m.size + 1 + (tagsU l).length := by
    unfold headU
    rw [List.length_append, List.length_cons, ← Go.Lib.size_eq]
    omega
  have hlen := keyI_length (m := m) (l := l) (st := st)
  obtain ⟨k, rfl⟩ : ∃ q, k = q + 1 := ⟨k - 1, by omega⟩
  have hdrop : (keyI m l st).drop ((headU m l).length + 1) = B8.be 8 st.toNat := by
    unfold keyI
    rw [List.drop_append, show (toI (headU m l)).length = (headU m l).length from List.length_map .., List.drop_of_length_le (by rw [toI, List.length_map]; omega), List.nil_append, Nat.add_sub_cancel_left]
    rfl
  have hval : B8.valB (B8.be 8 st.toNat) 0 = st := by
    rw [B8.valB_be 8 st.toNat 0 (Nat.lt_of_le_of_lt (show st.toNat ≤ 1000000000 by omega) (by decide))]
    omega
  have hread : impl_ReadFixed.f (k + 1) (keyI m l st) (((headU m l).length + 1 : Nat) : Int) ((8 : Nat) : Int) = some (st, true) := by
    rw [B8.readFixed_ok (by omega) (keyI_bytes m l st) (by omega) (by decide) (by decide) (by omega), hdrop, List.take_of_length_le (by rw [B8.be_length]; exact Nat.le_refl _), hval, if_pos (by omega)]
  unfold impl_ReadKey.f
  rw [show wrap64 (((keyI m l st).length : Int) - 9) = ((headU m l).length : Int) from by rw [w64 (by omega) (by omega)]; omega,
    show wrap64 (((headU m l).length : Int) + 1) = (((headU m l).length + 1 : Nat) : Int) from by rw [w64 (by omega) (by omega)]; omega, show (8 : Int) = ((8 : Nat) : Int) from rfl, hread, Option.bind_some]
  dsimp only
  rw [if_pos rfl, decide_eq_false (by omega), impl_ReadKey.j0, if_neg (by decide), if_pos (by omega), if_pos (by omega), Int.toNat_natCast]
  have htake : (keyI m l st).take (headU m l).length = toI (headU m l) := by
    unfold keyI
    rw [List.take_append, show (toI (headU m l)).length = (headU m l).length from List.length_map .., Nat.sub_self, List.take_zero, List.append_nil, List.take_of_length_le (by rw [toI, List.length_map]; exact Nat.le_refl _)]
  rw [htake, strOfNums_toI, show headU m l = m.data.toList ++ 0 :: tagsU l from rfl, cutB_hit (low_not hm (by decide)) (by rw [List.length_append, List.length_cons, ← Go.Lib.size_eq]; omega), Option.bind_some]
  dsimp only
  rw [mkB_of]
  have := readKey_l0 h l.length 0 k (by omega) (by omega)
  rw [List.drop_zero, List.take_zero] at this
  exact this
end Go.Proofs.YteogadaloebdaaaDoor.Lem

/- Two good keys are in the order of their bytes. -/
namespace Go.Proofs.YteogadaloebdaaaDoor.Lem
open Go Go.RowKit Go.Proofs.YteogadaloebdaaaDoor.P Go.Proofs.YteogadaloebdaaaDoorW.PrintWords Go.Proofs.YteogadaloebdaaaDoorW.PrintLast Go.Proofs.YteogadaloebdaaaDoorW.PrintMore

theorem be_head8 : ∀ m n, B8.be (m + 1) n = ((n / 256 ^ m % 256 : Nat) : Int) :: B8.be m n := by
  intro m
  induction m with
  | zero => intro n; simp [B8.be]
  | succ m ih =>
    intro n
    have e : B8.be (m + 1 + 1) n = B8.be (m + 1) (n / 256) ++ [((n % 256 : Nat) : Int)] := rfl
    rw [e, ih, Nat.div_div_eq_div_mul, ← Nat.pow_succ']
    rfl
def sgnN (a b : Nat) : Int := if a < b then -1 else if b < a then 1 else 0
theorem ord_be : ∀ (m a b : Nat), ord (toU (B8.be m a)) (toU (B8.be m b)) = sgnN (a % 256 ^ m) (b % 256 ^ m) := by
  intro m
  induction m with
  | zero => intro a b; rw [Nat.pow_zero, Nat.mod_one, Nat.mod_one]; rfl
  | succ m ih =>
    intro a b
    have hp : 0 < 256 ^ m := Nat.pow_pos (by decide)
    have key : ∀ x : Nat, x % 256 ^ (m + 1) = 256 ^ m * (x / 256 ^ m % 256) + x % 256 ^ m := by
      intro x
      rw [Nat.pow_succ, Nat.mod_mul, Nat.add_comm]
    have hc : ∀ x : Nat, toU (B8.be (m + 1) x) = UInt8.ofNat (x / 256 ^ m % 256) :: toU (B8.be m x) := by
      intro x
      rw [be_head8]
      rfl
    have hlt : ∀ x : Nat, x / 256 ^ m % 256 < 256 := fun x => Nat.mod_lt _ (by decide)
    have hof : ∀ x : Nat, (UInt8.ofNat (x / 256 ^ m % 256)).toNat = x / 256 ^ m % 256 := fun x => by
      rw [UInt8.toNat_ofNat']
      exact Nat.mod_eq_of_lt (hlt x)
    have ha := Nat.mod_lt a hp
    have hb := Nat.mod_lt b hp
    have pa := hlt a
    have pb := hlt b
    have oa := hof a
    have ob := hof b
    rw [hc, hc, ord_cons, ih, key a, key b]
    clear key hc hlt hof ih hp
    generalize a / 256 ^ m % 256 = p at *
    generalize b / 256 ^ m % 256 = q at *
    generalize a % 256 ^ m = u at *
    generalize b % 256 ^ m = v at *
    generalize 256 ^ m = z at *
    by_cases c : p = q
    · subst c
      rw [if_pos rfl]
      unfold sgnN
      by_cases c1 : u < v
      · rw [if_pos c1, if_pos (show z * p + u < z * p + v by omega)]
      · rw [if_neg c1, if_neg (show ¬ z * p + u < z * p + v by omega)]
        by_cases c2 : v < u
        · rw [if_pos c2, if_pos (show z * p + v < z * p + u by omega)]
        · rw [if_neg c2, if_neg (show ¬ z * p + v < z * p + u by omega)]
    · rw [if_neg (fun e => c (by rw [← oa, ← ob, e]))]
      unfold sgnN
      by_cases c1 : p < q
      · have h1 : z * (p + 1) ≤ z * q := Nat.mul_le_mul_left z c1
        rw [Nat.mul_add, Nat.mul_one] at h1
        rw [if_pos (by rw [UInt8.lt_iff_toNat_lt, oa, ob]; exact c1), if_pos (show z * p + u < z * q + v by omega)]
      · have h1 : z * (q + 1) ≤ z * p := Nat.mul_le_mul_left z (by omega)
        rw [Nat.mul_add, Nat.mul_one] at h1
        rw [if_neg (by rw [UInt8.lt_iff_toNat_lt, oa, ob]; exact c1), if_neg (show ¬ z * p + u < z * q + v by omega), if_pos (show z * q + v < z * p + u by omega)]
theorem ord_be8 {s s' : Int} (h0 : 0 ≤ s ∧ s ≤ 1000000000) (h1 : 0 ≤ s' ∧ s' ≤ 1000000000) : ord (toU (B8.be 8 s.toNat)) (toU (B8.be 8 s'.toNat)) = sgnI s s' := by
  rw [ord_be]
  have e1 : s.toNat % 256 ^ 8 = s.toNat := Nat.mod_eq_of_lt (Nat.lt_of_le_of_lt (show s.toNat ≤ 1000000000 by omega) (by decide))
  have e2 : s'.toNat % 256 ^ 8 = s'.toNat := Nat.mod_eq_of_lt (Nat.lt_of_le_of_lt (show s'.toNat ≤ 1000000000 by omega) (by decide))
  rw [e1, e2]
  unfold sgnN sgnI
  by_cases c : s < s'
  · rw [if_pos (by omega), if_pos c]
  · rw [if_neg (by omega), if_neg c]
    by_cases c2 : s > s'
    · rw [if_pos (by omega), if_pos c2]
    · rw [if_neg (by omega), if_neg c2]
theorem letter_gt {s : ByteArray} (h : nameB s = true) {c : UInt8} (hc : c.toNat ≤ 2) : ∀ b ∈ s.data.toList, c < b := by
  intro b hb
  have := List.all_eq_true.1 (nameB_letters h) b hb
  unfold letter at this
  simp only [Bool.or_eq_true, Bool.and_eq_true, decide_eq_true_eq] at this
  rw [UInt8.lt_iff_toNat_lt]
  omega
theorem list_inj {a b : ByteArray} (h : a.data.toList = b.data.toList) : a = b := Go.WideShapes.bytes_inj h
theorem ord_name {a b : ByteArray} (ha : nameB a = true) (hb : nameB b = true) {c d : UInt8} (hc : c.toNat ≤ 2) (hd : d.toNat ≤ 2) (x y : List UInt8) :
    ord (a.data.toList ++ c :: x) (b.data.toList ++ d :: y) = if ordB a b = 0 then ord (c :: x) (d :: y) else ordB a b := by
  rw [ord_ends _ _ c d x y (letter_gt ha hd) (letter_gt hb hc)]
  unfold ordB
  by_cases e : a.data.toList = b.data.toList
  · rw [if_pos e, e, ord_self, if_pos rfl]
  · rw [if_neg e, if_neg (fun h => e (ord_eq_zero h))]
theorem ord_same (c : UInt8) (x y : List UInt8) : ord (c :: x) (c :: y) = ord x y := by rw [ord_cons, if_pos rfl]
theorem ord_tags : ∀ (l l' : List Tg), (∀ t ∈ l, nameB t.f0 = true ∧ nameB t.f1 = true) → (∀ t ∈ l', nameB t.f0 = true ∧ nameB t.f1 = true) → ∀ B B' : List UInt8,
    ord (tagsU l ++ 1 :: B) (tagsU l' ++ 1 :: B') = if ordT l l' = 0 then ord B B' else ordT l l'
  | [], [], _, _, B, B' => by
    rw [ordT, if_pos rfl]
    exact ord_same 1 B B'
  | [], t :: r, _, h', B, B' => by
    rw [ordT, if_neg (by decide)]
    show ord (1 :: B) (2 :: _) = _
    rw [ord_cons, if_neg (by decide), if_pos (by decide)]
  | t :: r, [], _, _, B, B' => by
    rw [ordT, if_neg (by decide)]
    show ord (2 :: _) (1 :: B') = _
    rw [ord_cons, if_neg (by decide), if_neg (by decide)]
  | a :: x, b :: y, h, h', B, B' => by
    have ih := ord_tags x y (fun t ht => h t (List.mem_cons_of_mem _ ht)) (fun t ht => h' t (List.mem_cons_of_mem _ ht)) B B'
    obtain ⟨ha0, ha1⟩ := h a List.mem_cons_self
    obtain ⟨hb0, hb1⟩ := h' b List.mem_cons_self
    have e : ∀ (t : Tg) (r : List Tg) (Z : List UInt8), tagsU (t :: r) ++ 1 :: Z = 2 :: (t.f0.data.toList ++ 1 :: (t.f1.data.toList ++ 0 :: (tagsU r ++ 1 :: Z))) := by
      intro t r Z
      simp [tagsU, partU]
    rw [e, e, ord_same, ord_name ha0 hb0 (by decide) (by decide), ord_same, ord_name ha1 hb1 (by decide) (by decide), ord_same, ih, ordT]
    by_cases c0 : ordB a.f0 b.f0 = 0
    · rw [if_pos c0, if_pos c0]
      by_cases c1 : ordB a.f1 b.f1 = 0
      · rw [if_pos c1, if_pos c1]
      · rw [if_neg c1, if_neg c1, if_neg c1]
    · rw [if_neg c0, if_neg c0, if_neg c0]
theorem ord_keys {m m' : ByteArray} {l l' : List Tg} {s s' : Int} (h : keyB m l s = true) (h' : keyB m' l' s' = true) :
    ord (toU (keyI m l s)) (toU (keyI m' l' s')) = keyOrd m l s m' l' s' := by
  obtain ⟨hm, hl, h0, h1, ht⟩ := keyB_parts h
  obtain ⟨hm', hl', h0', h1', ht'⟩ := keyB_parts h'
  have e : ∀ (m : ByteArray) (l : List Tg) (s : Int), toU (keyI m l s) = m.data.toList ++ 0 :: (tagsU l ++ 1 :: toU (B8.be 8 s.toNat)) := by
    intro m l s
    have : toU (keyI m l s) = toU (toI (headU m l)) ++ 1 :: toU (B8.be 8 s.toNat) := by simp [keyI, toU]
    rw [this, toU_toI]
    simp [headU]
  rw [e, e, ord_name hm hm' (by decide) (by decide), ord_same, ord_tags l l' (tagsB_names ht) (tagsB_names ht'), ord_be8 ⟨h0, h1⟩ ⟨h0', h1'⟩]
  rfl
end Go.Proofs.YteogadaloebdaaaDoor.Lem

namespace Go.Proofs.YteogadaloebdaaaDoor.Lem
open Go.RowKit Go.Proofs.YteogadaloebdaaaDoor.P Go.Proofs.YteogadaloebdaaaDoorW.PrintWords Go.Proofs.YteogadaloebdaaaDoorW.PrintLast Go.Proofs.YteogadaloebdaaaDoorW.PrintMore

/-- The reader of choices goes on: a number, and a later place. -/
theorem next_ok {l : List Int} (hl : Bytes l) (at_ s : Int) (h0 : 0 ≤ at_) (h1 : at_ < 4611686018427387904) :
    ∃ r s', spec_l1Cur_next.f l at_ s = some (r, at_ + 1, s') ∧ 0 ≤ r ∧ r < 256 := by
  have hw : wrap64 (at_ + 1) = at_ + 1 := w64 (by omega) (by omega)
  have hb := hl.rd at_
  have hwr : wrap64 (rd l at_) = rd l at_ := w64 (by omega) (by omega)
  unfold spec_l1Cur_next.f
  rw [hw, hwr]
  have key : ∀ x : Int, 0 ≤ wrap64 (Go.bits .and .u64 (IntKind.u64.wrap x / 1099511627776) 255) ∧ wrap64 (Go.bits .and .u64 (IntKind.u64.wrap x / 1099511627776) 255) < 256 := by
    intro x
    have hx := wu64_lo x
    have hy := wu64_hi x
    have := and255 (x := IntKind.u64.wrap x / 1099511627776) (by omega) (by omega)
    rw [w64 (by omega) (by omega)]
    exact this
  by_cases c1 : at_ < (l.length : Int)
  · rw [if_pos c1, if_pos h0]
    by_cases c2 : at_ + 1 ≤ (l.length : Int)
    · rw [if_pos c2]
      exact ⟨_, _, rfl, hb.1, hb.2⟩
    · rw [if_neg c2]
      exact ⟨_, _, rfl, key _⟩
  · rw [if_neg c1]
    by_cases c2 : at_ + 1 ≤ (l.length : Int)
    · rw [if_pos c2]
      exact ⟨_, _, rfl, by decide, by decide⟩
    · rw [if_neg c2]
      exact ⟨_, _, rfl, key _⟩

theorem tmod_ok {x n : Int} (hx : 0 ≤ x) (hn : 0 < n) : 0 ≤ Int.tmod x n ∧ Int.tmod x n < n := by
  rw [Int.tmod_eq_emod_of_nonneg hx]
  exact ⟨Int.emod_nonneg _ (by omega), Int.emod_lt_of_pos _ hn⟩

theorem pick_ok {l : List Int} (hl : Bytes l) (at_ s n : Int) (h0 : 0 ≤ at_) (h1 : at_ < 4611686018427387900) :
    ∃ r a' s', spec_l1Cur_pick.f l at_ s n = some (r, a', s') ∧ at_ ≤ a' ∧ a' ≤ at_ + 2 ∧ 0 ≤ r ∧ (1 ≤ n → r < n) ∧ (n ≤ 1 → r = 0) := by
  unfold spec_l1Cur_pick.f
  by_cases c1 : n ≤ 1
  · rw [if_pos c1]
    exact ⟨0, at_, s, rfl, by omega, by omega, by omega, fun _ => by omega, fun _ => rfl⟩
  · rw [if_neg c1]
    obtain ⟨r, s1, e, r0, r1⟩ := next_ok hl at_ s h0 (by omega)
    rw [e]
    simp only [Option.bind_some]
    by_cases c2 : n > 200
    · rw [if_pos c2]
      obtain ⟨q, s2, e2, q0, q1⟩ := next_ok hl (at_ + 1) s1 (by omega) (by omega)
      rw [e2]
      simp only [Option.bind_some]
      rw [if_neg (by omega)]
      have hw1 : wrap64 (r * 256) = r * 256 := w64 (by omega) (by omega)
      rw [hw1]
      have hw2 : wrap64 (r * 256 + q) = r * 256 + q := w64 (by omega) (by omega)
      rw [hw2]
      have ht := tmod_ok (x := r * 256 + q) (n := n) (by omega) (by omega)
      exact ⟨_, _, _, rfl, by omega, by omega, ht.1, fun _ => ht.2, fun h => by omega⟩
    · rw [if_neg c2, if_neg (by omega)]
      have ht := tmod_ok (x := r) (n := n) (by omega) (by omega)
      exact ⟨_, _, _, rfl, by omega, by omega, ht.1, fun _ => ht.2, fun h => by omega⟩

theorem one_ok {l : List Int} (hl : Bytes l) (at_ s n : Int) (h0 : 0 ≤ at_) (h1 : at_ < 4611686018427387900) :
    ∃ b a' s', spec_l1Cur_one.f l at_ s n = some (b, a', s') ∧ at_ ≤ a' ∧ a' ≤ at_ + 2 := by
  unfold spec_l1Cur_one.f
  obtain ⟨r, a', s', e, ha, hb, _⟩ := pick_ok hl at_ s n h0 h1
  rw [e]
  exact ⟨_, _, _, rfl, ha, hb⟩

end Go.Proofs.YteogadaloebdaaaDoor.Lem

-- written by a program of this session's (wip/pp)
namespace Go.Proofs.YteogadaloebdaaaDoor.P
open Go.RowKit Go.Proofs.YteogadaloebdaaaDoorW.PrintWords Go.Proofs.YteogadaloebdaaaDoorW.PrintLast Go.Proofs.YteogadaloebdaaaDoorW.PrintMore
attribute [local go_sem] max2_int min2_int max_two min_two max_three min_three max_four min_four str_geq str_gtr str_leq   -- for this text's walks alone
set_option linter.unusedVariables false
set_option linter.unusedSimpArgs false

/-! ### spec_DrawGoodKey: function 49 -/
def spec_DrawGoodKey.f (k : Nat) (l0 : List Int) : Option (ByteArray × (List (S69)) × Int) := (spec_l1Cur_key.f k l0 0 0).bind fun bt103 => (some (bt103.1, bt103.2.1, bt103.2.2.1))
theorem spec_DrawGoodKey.mono : ∀ a0 k, LeO (spec_DrawGoodKey.f k a0) (spec_DrawGoodKey.f (k + 1) a0) := by
 intro a0 k
 unfold spec_DrawGoodKey.f
 repeat' first
  | (with_reducible first | exact spec_l1Cur_key.mono .. | exact LeO.refl _ | exact LeO.none _ | refine LeO.ite ?_ ?_ | refine LeO.bind ?_ (fun _ => ?_))
  | exact LeO.none _
  | refine LeO.ite ?_ ?_
  | refine LeO.bind ?_ (fun _ => ?_)
set_option maxHeartbeats 8000000 in
set_option maxRecDepth 100000 in
theorem spec_DrawGoodKey.calls (k : Nat) (A0 : Option Addr) (c0 : Nat) (l0 : List Int) (r1 : ByteArray) (r2 : List (S69)) (r3 : Int) (w : World) (hr0 : Kd.C (Kd.int .u8) w A0 l0.length l0) (hc0 : l0.length ≤ c0) (h : spec_DrawGoodKey.f k l0 = some (r1, r2, r3)) :
 Calls Tryd.prog 49 #[.slice A0 l0.length c0] w fun e w' => ∃ v1_ : Value, e = .returned (.agg #[.string r1, v1_, .int .i64 r3]) ∧ Kd.R k69 69 w' w.heap.size (fun _ => True) v1_ r2 ∧ Below w.heap.size w w' := by
 have hu25 := Tryd.underlying25
 have hu62 := Tryd.underlying62
 have HR0 := aM hr0
 have HC0 := aM hc0
 clear hr0 hc0
 have HB := aM (Below.refl w.heap.size w)
 have H : ((spec_l1Cur_key.f k l0 0 0).bind fun bt103 => (some (bt103.1, bt103.2.1, bt103.2.2.1))) = some (r1, r2, r3) := h
 clear h
 replace H := Option.bind_eq_some_iff.mp H
 obtain ⟨⟨t103, t104, t107, t108, t109⟩, A20, H⟩ := H
 try dsimp only at H
 have A2 := aM A20
 clear A20
 simp only [Option.some.injEq, Prod.mk.injEq] at H
 obtain ⟨rfl, rfl, rfl⟩ := H
 go_enter Tryd.func49, Tryd.ntmps49
 go_wp2_with (first | ((with_reducible refine gate_dst (N := 2) rfl ?_); refine box_event ?hg (N := 2) ?hd (cs := #[.string (⟨#[]⟩ : ByteArray), .slice none 0 0, .int .i64 0]) (t := 25) ?hr ?_; (case hd => rfl); (case hg => rfl); (case hr => first | (go_simp; done) | (go_simp; rfl)); intro gb101 hg w3 hbox hb; have _ := aM (below_step hbZ hb); have _ := aM hbox; have _ := szZ hg; have _ := szZ hg; clear HB; rename_i HB BK101 GW101 GE101; clear hb hbox hg) | ((with_reducible refine gate_dst (N := 6) rfl ?_); refine box_event ?hg (N := 6) ?hd (cs := #[.slice A0 l0.length c0, .int .i64 0, .int .u64 0]) (t := 62) ?hr ?_; (case hd => rfl); (case hg => rfl); (case hr => first | (go_simp; done) | (go_simp; rfl)); intro gb102 hg w4 hbox hb; have _ := bB gb101 hb; have _ := aM (below_step hbZ hb); have _ := szZ hg; have _ := szZ hg; have ⟨_, _⟩ := nbB gb101 hg; have _ := aM ((show IsS62 w w4 gb102 l0 0 0 from ⟨_, _, hbox, (by rw [hg]; exact (below_size hbZ) : w.heap.size ≤ gb102), HR0.out⟩)); clear BK101 HB; rename_i BK101 HB GW102 GE102 NB101_102 NB102_101 HI102; clear hb hbox hg) | ((with_reducible refine gate_callee (f := 28) rfl ?_); refine goesL_ (some 8) rfl rfl Tryd.func28 (by kernel_rfl) rfl #[.pointer (some ⟨gb102, 0, none⟩)] rfl zee81 ?_; (with_reducible refine (spec_l1Cur_key.calls k gb102 l0 0 0 t103 t104 t107 t108 t109 w _ ?side1 ?side2 A2.out).mono ?_); (case side1 => exact (by repeat (first | (with_reducible first | exact HI102.out | apply IsS62.alloc | apply IsS62.drewN | apply IsS62.drew | apply IsS62.set_1 | apply IsS62.set_2 | refine IsS62.far ?_ (Aside0.out (by assumption)) _) | exact HI102.out))); (case side2 => exact (by repeat (first | (with_reducible first | exact HB.out | apply below_alloc | apply pw_below_drewN | apply below_drew1 | refine below_set ?_ (IsS62.ge (Aside0.out (by assumption))) | refine below_set ?_ (Aside0.out (by assumption))) | exact HB.out))); rintro e w5 ⟨v105, rfl, ho0, hi, hb, hk⟩; refine ⟨_, rfl, ?_⟩; have _ := aM (KeepBut.blk hk (g' := gb101) bkZ NB101_102.out (by simp)); have _ := aM (Kd.R_lower ho0 (below_size (by repeat (first | (with_reducible first | exact HB.out | apply below_alloc | apply pw_below_drewN | apply below_drew1 | refine below_set ?_ (IsS62.ge (Aside0.out (by assumption))) | refine below_set ?_ (Aside0.out (by assumption))) | exact HB.out)))); have _ := aM hb; have _ := aM hi; clear BK101 HB HI102; rename_i BK101 HO106 HB HI102; (try clear hb); (try clear hk); (try clear hi); (try clear ho0); have hnb6 := NB101_102.out; have hnc6 := NB102_101.out; obtain ⟨hcz7_0, hcz7_1, hcz7_2, hfz7_0, hfz7_1, hfz7_2⟩ := cellsZ3 BK101.out; obtain ⟨Ao8, co8, eo8⟩ := Kd.R_slice HO106.out; subst eo8))
 refine bodyPost_ret (results_cell_row rfl _ _ gb101 25 #[.string t103, .slice Ao8 t104.length co8, .int .i64 t107] (0, 0) _ rfl bkZ Tryd.underlying25 rfl (by kernel_rfl)) rfl ?_
 exact ⟨_, z674d, by (with_reducible repeat (first | apply Kd.R_alloc | apply Kd.R_drewN | apply Kd.R_drew)); exact Kd.R_mono (Kd.R_far (p := ⟨gb101, 2, none⟩) (Kd.R_far (p := ⟨gb101, 1, none⟩) (Kd.R_far (p := ⟨gb101, 0, none⟩) (Kd.R_types HO106.out BK101.out (by decide)) (fun _ hk => hk.2) (.string t103)) (fun _ hk => hk.2) (.slice Ao8 t104.length co8)) (fun _ hk => hk.2) (.int .i64 t107)) (fun _ hk => trivial), by repeat (first | (with_reducible first | exact HB.out | apply below_alloc | apply pw_below_drewN | apply below_drew1 | refine below_set ?_ (IsS62.ge (Aside0.out (by assumption))) | refine below_set ?_ (Aside0.out (by assumption))) | exact HB.out)⟩

end Go.Proofs.YteogadaloebdaaaDoor.P

-- written by a program of this session's (wip/pp)
namespace Go.Proofs.YteogadaloebdaaaDoor.P
open Go.RowKit Go.Proofs.YteogadaloebdaaaDoorW.PrintWords Go.Proofs.YteogadaloebdaaaDoorW.PrintLast Go.Proofs.YteogadaloebdaaaDoorW.PrintMore
attribute [local go_sem] max2_int min2_int max_two min_two max_three min_three max_four min_four str_geq str_gtr str_leq   -- for this text's walks alone
set_option linter.unusedVariables false
set_option linter.unusedSimpArgs false

/-! ### spec_DrawKeyText: function 18 -/
def spec_DrawKeyText.f (k : Nat) (l0 : List Int) : Option (ByteArray × (List (S69)) × Int) := (spec_DrawGoodKey.f k l0).bind fun bt102 => (some (bt102.1, bt102.2.1, bt102.2.2))
theorem spec_DrawKeyText.mono : ∀ a0 k, LeO (spec_DrawKeyText.f k a0) (spec_DrawKeyText.f (k + 1) a0) := by
 intro a0 k
 unfold spec_DrawKeyText.f
 repeat' first
  | (with_reducible first | exact spec_DrawGoodKey.mono .. | exact LeO.refl _ | exact LeO.none _ | refine LeO.ite ?_ ?_ | refine LeO.bind ?_ (fun _ => ?_))
  | exact LeO.none _
  | refine LeO.ite ?_ ?_
  | refine LeO.bind ?_ (fun _ => ?_)
set_option maxHeartbeats 8000000 in
set_option maxRecDepth 100000 in
theorem spec_DrawKeyText.calls (k : Nat) (A0 : Option Addr) (c0 : Nat) (l0 : List Int) (r1 : ByteArray) (r2 : List (S69)) (r3 : Int) (w : World) (hr0 : Kd.C (Kd.int .u8) w A0 l0.length l0) (hc0 : l0.length ≤ c0) (h : spec_DrawKeyText.f k l0 = some (r1, r2, r3)) :
 Calls Tryd.prog 18 #[.slice A0 l0.length c0] w fun e w' => ∃ v1_ : Value, e = .returned (.agg #[.string r1, v1_, .int .i64 r3]) ∧ Kd.R k69 69 w' w.heap.size (fun _ => True) v1_ r2 ∧ Below w.heap.size w w' := by
 have hu25 := Tryd.underlying25
 have HR0 := aM hr0
 have HC0 := aM hc0
 clear hr0 hc0
 have HB := aM (Below.refl w.heap.size w)
 have H : ((spec_DrawGoodKey.f k l0).bind fun bt102 => (some (bt102.1, bt102.2.1, bt102.2.2))) = some (r1, r2, r3) := h
 clear h
 replace H := Option.bind_eq_some_iff.mp H
 obtain ⟨⟨t102, t103, t106⟩, A20, H⟩ := H
 try dsimp only at H
 have A2 := aM A20
 clear A20
 simp only [Option.some.injEq, Prod.mk.injEq] at H
 obtain ⟨rfl, rfl, rfl⟩ := H
 go_enter Tryd.func18, Tryd.ntmps18
 go_wp2_with (first | ((with_reducible refine gate_dst (N := 2) rfl ?_); refine box_event ?hg (N := 2) ?hd (cs := #[.string (⟨#[]⟩ : ByteArray), .slice none 0 0, .int .i64 0]) (t := 25) ?hr ?_; (case hd => rfl); (case hg => rfl); (case hr => first | (go_simp; done) | (go_simp; rfl)); intro gb101 hg w3 hbox hb; have _ := aM (below_step hbZ hb); have _ := aM hbox; have _ := szZ hg; have _ := szZ hg; clear HB; rename_i HB BK101 GW101 GE101; clear hb hbox hg) | ((with_reducible refine gate_callee (f := 49) rfl ?_); refine goesL_ (some 4) rfl rfl Tryd.func49 (by kernel_rfl) rfl #[.slice A0 l0.length c0] rfl zee81 ?_; (with_reducible refine (spec_DrawGoodKey.calls k _ _ l0 t102 t103 t106 _ ?side1 ?side2 A2.out).mono ?_); (case side1 => exact (cZ (Kd.C_below HR0.out HB.out))); (case side2 => exact HC0.out); rintro e w4 ⟨v104, rfl, ho0, hb⟩; refine ⟨_, rfl, ?_⟩; have _ := aM (Kd.R_lower ho0 (below_size hbZ)); have _ := bB gb101 hb; have _ := aM (below_step hbZ hb); clear BK101 HB; rename_i HO105 BK101 HB; (try clear hb); (try clear ho0); obtain ⟨hcz5_0, hcz5_1, hcz5_2, hfz5_0, hfz5_1, hfz5_2⟩ := cellsZ3 BK101.out; obtain ⟨Ao6, co6, eo6⟩ := Kd.R_slice HO105.out; subst eo6))
 refine bodyPost_ret (results_cell_row rfl _ _ gb101 25 #[.string t102, .slice Ao6 t103.length co6, .int .i64 t106] (0, 0) _ rfl bkZ Tryd.underlying25 rfl (by kernel_rfl)) rfl ?_
 exact ⟨_, z674d, by (with_reducible repeat (first | apply Kd.R_alloc | apply Kd.R_drewN | apply Kd.R_drew)); exact Kd.R_mono (Kd.R_far (p := ⟨gb101, 2, none⟩) (Kd.R_far (p := ⟨gb101, 1, none⟩) (Kd.R_far (p := ⟨gb101, 0, none⟩) (Kd.R_types HO105.out BK101.out (by decide)) (fun _ hk => hk.2) (.string t102)) (fun _ hk => hk.2) (.slice Ao6 t103.length co6)) (fun _ hk => hk.2) (.int .i64 t106)) (fun _ hk => trivial), zcb41⟩

end Go.Proofs.YteogadaloebdaaaDoor.P

/- A key is drawn out of any code. -/
namespace Go.Proofs.YteogadaloebdaaaDoor.Lem
open Go Go.RowKit Go.Proofs.YteogadaloebdaaaDoor.P Go.Proofs.YteogadaloebdaaaDoorW.PrintWords Go.Proofs.YteogadaloebdaaaDoorW.PrintLast Go.Proofs.YteogadaloebdaaaDoorW.PrintMore

theorem ofC_ok {l : List Int} (hl : Bytes l) (at_ s : Int) (xs : List ByteArray) (hx : 1 ≤ xs.length) (h0 : 0 ≤ at_) (h1 : at_ < 4611686018427387900) :
    ∃ r a' s', spec_l1Cur_of.f l at_ s xs = some (r, a', s') ∧ at_ ≤ a' ∧ a' ≤ at_ + 2 := by
  unfold spec_l1Cur_of.f
  obtain ⟨r, a', s', e, ha, hb, hr, hn, _⟩ := pick_ok hl at_ s (xs.length : Int) h0 h1
  rw [e, Option.bind_some]
  dsimp only
  rw [if_pos hr, if_pos (hn (by omega))]
  exact ⟨_, _, _, rfl, ha, hb⟩
theorem amongC_ok {l : List Int} (hl : Bytes l) (at_ s : Int) (xs : List Int) (hx : 1 ≤ xs.length) (h0 : 0 ≤ at_) (h1 : at_ < 4611686018427387900) :
    ∃ r a' s', spec_l1Cur_among.f l at_ s xs = some (r, a', s') ∧ at_ ≤ a' ∧ a' ≤ at_ + 2 := by
  unfold spec_l1Cur_among.f
  obtain ⟨r, a', s', e, ha, hb, hr, hn, _⟩ := pick_ok hl at_ s (xs.length : Int) h0 h1
  rw [e, Option.bind_some]
  dsimp only
  rw [if_pos hr, if_pos (hn (by omega))]
  exact ⟨_, _, _, rfl, ha, hb⟩
theorem key_j1 {l : List Int} (hl : Bytes l) (at_ s : Int) (h0 : 0 ≤ at_) (h1 : at_ < 4611686018427387000) (m : ByteArray) (ts : List Tg) (ht : ts.length ≤ 10) (st : Int) (k : Nat) : ∃ r, spec_l1Cur_key.j1 (k + 1) l at_ s m ts st = some r ∧ at_ ≤ r.2.2.2.1 ∧ r.2.2.2.1 ≤ at_ + 4 := by
  rw [spec_l1Cur_key.j1]
  obtain ⟨r, a1, s1, e, ha, hb, _⟩ := pick_ok hl at_ s 60 h0 (by omega)
  rw [e, Option.bind_some]
  dsimp only
  by_cases c0 : r = 0
  · rw [if_pos c0]
    obtain ⟨r2, a2, s2, e2, g2, g3⟩ := ofC_ok hl a1 s1 [⟨#[]⟩, ⟨#[97, 49]⟩, ⟨#[97, 98, 99, 100, 101, 102, 103, 104, 105, 106, 107, 108, 109]⟩] (by decide) (by omega) (by omega)
    rw [e2, Option.bind_some]
    exact ⟨_, rfl, by dsimp only; omega, by dsimp only; omega⟩
  · rw [if_neg c0]
    by_cases c1 : r = 1
    · rw [if_pos c1]
      obtain ⟨r2, a2, s2, e2, g2, g3⟩ := ofC_ok hl a1 s1 [⟨#[97]⟩, ⟨#[122, 122]⟩, ⟨#[]⟩] (by decide) (by omega) (by omega)
      rw [e2, Option.bind_some, if_pos (by omega)]
      exact ⟨_, rfl, by dsimp only; omega, by dsimp only; omega⟩
    · rw [if_neg c1]
      by_cases c2 : r = 2
      · rw [if_pos c2]
        obtain ⟨r2, a2, s2, e2, g2, g3⟩ := amongC_ok hl a1 s1 [-1, 1000000000, 1000000001] (by decide) (by omega) (by omega)
        rw [e2, Option.bind_some]
        exact ⟨_, rfl, by dsimp only; omega, by dsimp only; omega⟩
      · rw [if_neg c2]
        exact ⟨_, rfl, by dsimp only; omega, by dsimp only; omega⟩
theorem key_j0 {l : List Int} (hl : Bytes l) (at_ s : Int) (h0 : 0 ≤ at_) (h1 : at_ < 4611686018427386000) (m : ByteArray) (ts : List Tg) (ht : ts.length ≤ 5) (st : Int) (k : Nat) : ∃ r, spec_l1Cur_key.j0 (k + 2) l at_ s m ts st = some r ∧ at_ ≤ r.2.2.2.1 ∧ r.2.2.2.1 ≤ at_ + 8 := by
  rw [spec_l1Cur_key.j0]
  obtain ⟨b, a1, s1, e, ha, hb⟩ := one_ok hl at_ s 3 h0 (by omega)
  rw [e, Option.bind_some]
  dsimp only
  by_cases c : b = true
  · rw [if_pos c]
    obtain ⟨r2, a2, s2, e2, h2, h3⟩ := ofC_ok hl a1 s1 [⟨#[101]⟩, ⟨#[119]⟩] (by decide) (by omega) (by omega)
    rw [e2, Option.bind_some]
    dsimp only
    rw [if_pos (by omega)]
    have hj := fun ts' (h' : ts'.length ≤ 10) => key_j1 hl a2 s2 (by omega) (by omega) m ts' h' st k
    obtain ⟨q, hq, q1, q2⟩ := hj (ts ++ [(⟨⟨#[122, 111, 110, 101]⟩, r2⟩ : Tg)]) (by rw [List.length_append, List.length_singleton]; omega)
    exact ⟨q, hq, by omega, by omega⟩
  · rw [if_neg c]
    obtain ⟨q, hq, q1, q2⟩ := key_j1 hl a1 s1 (by omega) (by omega) m ts (by omega) st k
    exact ⟨q, hq, by omega, by omega⟩
theorem key_ok {l : List Int} (hl : Bytes l) (at_ s : Int) (h0 : 0 ≤ at_) (h1 : at_ < 4611686018427385000) (k : Nat) : ∃ r, spec_l1Cur_key.f (k + 2) l at_ s = some r ∧ at_ ≤ r.2.2.2.1 ∧ r.2.2.2.1 ≤ at_ + 20 := by
  unfold spec_l1Cur_key.f
  obtain ⟨m, a1, s1, e1, h2, h3⟩ := ofC_ok hl at_ s [⟨#[99, 112, 117]⟩, ⟨#[109, 101, 109]⟩, ⟨#[109]⟩, ⟨#[99, 112]⟩] (by decide) (by omega) (by omega)
  rw [e1, Option.bind_some]
  dsimp only
  obtain ⟨st, a2, s2, e2, h4, h5, _⟩ := pick_ok hl a1 s1 6 (by omega) (by omega)
  rw [e2, Option.bind_some]
  dsimp only
  obtain ⟨b, a3, s3, e3, h6, h7⟩ := one_ok hl a2 s2 2 (by omega) (by omega)
  rw [e3, Option.bind_some]
  dsimp only
  by_cases c : b = true
  · rw [if_pos c]
    obtain ⟨n, a4, s4, e4, h8, h9⟩ := ofC_ok hl a3 s3 [⟨#[97]⟩, ⟨#[97, 98]⟩, ⟨#[104, 111, 115, 116]⟩] (by decide) (by omega) (by omega)
    rw [e4, Option.bind_some]
    dsimp only
    obtain ⟨v, a5, s5, e5, h10, h11⟩ := ofC_ok hl a4 s4 [⟨#[120]⟩, ⟨#[120, 121]⟩, ⟨#[122]⟩] (by decide) (by omega) (by omega)
    rw [e5, Option.bind_some]
    dsimp only
    rw [if_pos (by decide)]
    obtain ⟨q, hq, q1, q2⟩ := key_j0 hl a5 s5 (by omega) (by omega) m ([] ++ [(⟨n, v⟩ : Tg)]) (by rw [List.length_append, List.length_singleton]; decide) (wrap64 (10 * st)) k
    exact ⟨q, hq, by omega, by omega⟩
  · rw [if_neg c]
    obtain ⟨q, hq, q1, q2⟩ := key_j0 hl a3 s3 (by omega) (by omega) m [] (Nat.zero_le _) (wrap64 (10 * st)) k
    exact ⟨q, hq, by omega, by omega⟩
theorem drawKeyText_ok {l : List Int} (hl : Bytes l) (k : Nat) : ∃ m ts st, spec_DrawKeyText.f (k + 2) l = some (m, ts, st) := by
  obtain ⟨r, hr, _⟩ := key_ok hl 0 0 (by decide) (by decide) k
  unfold spec_DrawKeyText.f spec_DrawGoodKey.f
  rw [hr, Option.bind_some, Option.bind_some]
  exact ⟨_, _, _, rfl⟩
end Go.Proofs.YteogadaloebdaaaDoor.Lem

/- A key comes back from its bytes, and two keys are in the order of their bytes: FnKeys answers true at every code. -/
namespace Go.Proofs.YteogadaloebdaaaDoor.Pure
open Go Go.RowKit Go.Proofs.YteogadaloebdaaaDoor.P Go.Proofs.YteogadaloebdaaaDoorW.PrintWords Go.Proofs.YteogadaloebdaaaDoorW.PrintLast Go.Proofs.YteogadaloebdaaaDoorW.PrintMore Go.Proofs.YteogadaloebdaaaDoor.Lem

theorem draw_ok {l : List Int} (hl : Bytes l) (k : Nat) : ∃ m ts st m' ts' st', spec_DrawCompareKeys.f (k + 2) l = some (m, ts, st, m', ts', st') := by
  obtain ⟨r, hr, a1, a2⟩ := key_ok hl 0 0 (by decide) (by decide) k
  obtain ⟨q, hq, b1, b2⟩ := key_ok hl r.2.2.2.1 r.2.2.2.2 (by omega) (by omega) k
  obtain ⟨b, at_, s, ho, c1, c2⟩ := one_ok hl q.2.2.2.1 q.2.2.2.2 4 (by omega) (by omega)
  obtain ⟨n, at2, s2, hp, _⟩ := pick_ok hl at_ s 6 (by omega) (by omega)
  unfold spec_DrawCompareKeys.f
  rw [hr, Option.bind_some, hq, Option.bind_some, ho, Option.bind_some]
  dsimp only
  by_cases c : b = true
  · rw [if_pos c, hp, Option.bind_some]
    exact ⟨_, _, _, _, _, _, rfl⟩
  · rw [if_neg c]
    exact ⟨_, _, _, _, _, _, rfl⟩
theorem compare_bad {m m' : ByteArray} {l l' : List Tg} {s s' : Int} (h : keyB m l s = false ∨ keyB m' l' s' = false) {k : Nat} (hk : 20 < k) : impl_CompareKeys.f k m l s m' l' s' = some 0 := by
  obtain ⟨k, rfl⟩ : ∃ q, k = q + 5 := ⟨k - 5, by omega⟩
  unfold impl_CompareKeys.f
  rw [implKey_ok _ _ _ (by omega), Option.bind_some]
  by_cases c : keyB m l s = true
  · have h' : keyB m' l' s' = false := h.resolve_left (by rw [c]; decide)
    rw [if_pos c, implKey_ok _ _ _ (by omega), h', Option.bind_some, impl_CompareKeys.j0, if_pos (by decide)]
  · rw [if_neg c, impl_CompareKeys.j0, if_pos rfl]
theorem FnKeys (l : List Int) {p : Prop} (h : p ∧ ∀ x ∈ l, (Lit.int .u8 x).wf = true) : ∃ k, laws_FnKeys.f k l = some true := by
  have hl : Bytes l := Bytes.of_wf h.2
  obtain ⟨m, ts, st, m', ts', st', hd⟩ := draw_ok hl 1000
  refine ⟨1000 + 2, ?_⟩
  unfold laws_FnKeys.f
  by_cases hs : (l.length : Int) > 1048576
  · rw [if_pos hs]
  · rw [if_neg hs, hd, Option.bind_some]
    dsimp only
    rw [KeyBytes_ok m ts st (by decide), Option.bind_some, KeyBytes_ok m' ts' st' (by decide), Option.bind_some, specKey_ok m ts st (by decide), Option.bind_some, specKey_ok m' ts' st' (by decide), Option.bind_some]
    by_cases hk : keyB m ts st = true
    · rw [if_pos hk]
      dsimp only
      rw [hk, bne_self_eq_false, if_neg (by decide)]
      by_cases hk' : keyB m' ts' st' = true
      · rw [if_pos hk']
        dsimp only
        rw [hk', bne_self_eq_false, laws_FnKeys.j0, if_neg (by decide), if_pos rfl, Bool.not_true, laws_FnKeys.j1, if_neg (by decide), readKey_ok hk (by decide), Option.bind_some]
        dsimp only
        rw [KeyBytes_ok m ts st (by decide), Option.bind_some, if_pos hk]
        dsimp only
        rw [implCompare_ok hk hk' (by decide)]
        have ho := ord_keys hk hk'
        rw [Go.Lib.toList_data, Go.Lib.toList_data, strOfNums_list, strOfNums_list]
        unfold ord at ho
        simp only [if_true, Option.bind_some]
        by_cases c1 : Op.bytesLess (toU (keyI m ts st)) (toU (keyI m' ts' st')) = true
        · rw [if_pos c1] at ho
          have c2 : Op.bytesLess (toU (keyI m' ts' st')) (toU (keyI m ts st)) = false := by rw [less_tri, c1]; rfl
          rw [if_pos c1, if_neg (by rw [c2]; decide), ← ho]
          rfl
        · rw [if_neg c1] at ho ⊢
          by_cases c2 : Op.bytesLess (toU (keyI m' ts' st')) (toU (keyI m ts st)) = true
          · rw [if_pos c2] at ho ⊢
            rw [← ho]
            rfl
          · rw [if_neg c2] at ho ⊢
            rw [← ho]
            rfl
      · rw [if_neg hk']
        dsimp only
        have hf : keyB m' ts' st' = false := by simpa using hk'
        rw [hf, bne_self_eq_false, laws_FnKeys.j0, if_neg (by decide), if_pos rfl, Bool.not_false, laws_FnKeys.j1, if_pos rfl, compare_bad (Or.inr hf) (by decide), Option.bind_some]
        rfl
    · rw [if_neg hk]
      dsimp only
      have hf : keyB m ts st = false := by simpa using hk
      have he : (if keyB m' ts' st' = true then (keyI m' ts' st', true) else (([] : List Int), false)).2 = keyB m' ts' st' := by
        by_cases hk' : keyB m' ts' st' = true
        · rw [if_pos hk', hk']
        · rw [if_neg hk']
          simpa using hk'
      rw [hf, bne_self_eq_false, if_neg (by decide), he, bne_self_eq_false, laws_FnKeys.j0, if_neg (by decide), if_neg (by decide), laws_FnKeys.j1, if_pos rfl, compare_bad (Or.inl hf) (by decide), Option.bind_some]
      rfl
end Go.Proofs.YteogadaloebdaaaDoor.Pure

/- An argument of a row, opened by its type: what reads as a value of the type is of the printed kind, at whatever depth. -/
namespace Go.Proofs.YteogadaloebdaaaDoor.Lem
open Go Go.ChangeShapes Go.WideShapes Go.RowKit Go.Proofs.YteogadaloebdaaaDoor.P Go.Proofs.YteogadaloebdaaaDoorW.PrintWords Go.Proofs.YteogadaloebdaaaDoorW.PrintLast Go.Proofs.YteogadaloebdaaaDoorW.PrintMore

theorem list_of {α : Type} {p : Nat → α → Prop} : ∀ n, (∀ i, i < n → ∃ z, p i z) → ∃ l : List α, l.length = n ∧ ∀ i z, l[i]? = some z → p i z
  | 0, _ => ⟨[], rfl, fun i z h => by simp at h⟩
  | n + 1, h => by
    obtain ⟨l, hl, hp⟩ := list_of n (fun i hi => h i (by omega))
    obtain ⟨z, hz⟩ := h n (by omega)
    refine ⟨l ++ [z], by rw [List.length_append, hl]; rfl, fun i y hy => ?_⟩
    rcases Nat.lt_or_ge i l.length with hi | hi
    · rw [List.getElem?_append_left hi] at hy
      exact hp i y hy
    · have hi' : i = l.length := by
        have := (List.getElem?_eq_some_iff.1 hy).1
        rw [List.length_append, List.length_singleton] at this
        omega
      subst hi'
      have : z = y := by simpa using hy
      subst this
      rw [hl]
      exact hz

theorem addr_add2 (a : Addr) (x y : Nat) : (a.add x).add y = a.add (x + y) := by
  unfold Addr.add
  by_cases hx : x = 0
  · subst hx
    rw [if_pos rfl, Nat.zero_add]
  · by_cases hy : y = 0
    · subst hy
      rw [if_pos rfl, Nat.add_zero]
    · rw [if_neg hx, if_neg hy, if_neg (by omega)]
      simp only [Nat.add_assoc]
section
variable {H : Type} (enc : TypeId × Value → H) (P : Program) (w : World) (base : Nat) (spare : Nat → Bool) (held : Bool)
/-- What reads as a value of the type is of the kind, and good. -/
def Opens {α : Type} (d : Kd α) (t : TypeId) (g : α → Prop) : Prop :=
  ∀ (fuel : Nat) (cs : List Value) (x : DataW H × List MemPlace), DataW.trod enc P w base spare held fuel t cs = some x → ∃ a, d.K w a cs ∧ g a
/-- .. a struct's fields from a place on. -/
def OpensF {α : Type} (d : Kd α) (fs : List Field) (o : Nat) (g : α → Prop) : Prop :=
  ∀ (n : Nat) (cs : List Value) (xs : List (DataW H × List MemPlace)), xs.length = fs.length → cs.length = o + (fs.map fun f => P.cellsOf f.type).sum →
    (∀ (i : Nat) (f : Field), fs[i]? = some f → DataW.trod enc P w base spare held n f.type ((cs.drop f.offset).take (P.cellsOf f.type)) = xs[i]?) → ∃ a, d.K w a (cs.drop o) ∧ g a
variable {enc P w base spare held}
variable {α β : Type} {t e : TypeId}
theorem opens_int {k : IntKind} (ht : P.underlying t = some (.int k)) : Opens enc P w base spare held (Kd.int k) t (fun n => (Lit.int k n).wf = true) := fun fuel cs x h => by
  obtain ⟨n, rfl, _, hw⟩ := DataW.trod_int ht h
  exact ⟨n, rfl, hw⟩
theorem opens_bool (ht : P.underlying t = some .bool) : Opens enc P w base spare held Kd.bool t (fun _ => True) := fun fuel cs x h => by
  obtain ⟨b, rfl, _⟩ := DataW.trod_bool ht h
  exact ⟨b, rfl, trivial⟩
theorem opens_string (ht : P.underlying t = some .string) : Opens enc P w base spare held Kd.string t (fun s => s.size ≤ maxLen) := fun fuel cs x h => by
  obtain ⟨s, rfl, _, hs⟩ := DataW.trod_string ht h
  exact ⟨s, rfl, hs⟩
theorem opens_slice {d : Kd α} {g : α → Prop} (e' : Nat) (ht : P.underlying t = some (.slice e)) (hd : Opens enc P w base spare held d e g) (hc : P.cellsOf e = d.sz) :
    Opens enc P w base spare held (Kd.slice e' d) t (fun l => l.length ≤ maxLen ∧ ∀ a ∈ l, g a) := fun fuel cs x h => by
  rcases DataW.trod_slice ht h with ⟨rfl, _⟩ | ⟨a, len, cap, elems, rest, n, _, rfl, _, hb, hl, hm, hlen, hel, _, _⟩
  · exact ⟨[], ⟨none, 0, rfl, Nat.le_refl _, rfl, Nat.zero_le _, fun h => absurd h (Nat.lt_irrefl _)⟩, Nat.zero_le _, fun a h => by simp at h⟩
  · have each : ∀ i, i < len → ∃ z, (∃ c, c.length = d.sz ∧ d.K w z c ∧ ∀ j u, c[j]? = some u → w.cell? (a.add (i * d.sz + j)) = some u) ∧ g z := by
      intro i hi
      have h1 := hel i hi
      rw [List.getElem?_eq_getElem (by omega), Option.bind_eq_some_iff] at h1
      obtain ⟨cs', hcs, ht'⟩ := h1
      obtain ⟨z, hz, hg⟩ := hd _ _ _ ht'
      obtain ⟨_, hl', hcell⟩ := World.cells?_some hcs
      refine ⟨z, ⟨cs', by rw [← hc]; exact hl', hz, fun j u hj => ?_⟩, hg⟩
      have hj' : j < P.cellsOf e := by have := (List.getElem?_eq_some_iff.1 hj).1; omega
      have h2 := hcell j hj'
      rw [hj, hc] at h2
      have ea : (a.add (i * d.sz)).add j = a.add (i * d.sz + j) := addr_add2 a _ _
      rw [← ea]
      exact h2
    obtain ⟨l, hll, hp⟩ := list_of len each
    subst hll
    have hml : l.length ≤ maxLen := Nat.le_trans hl hm
    refine ⟨l, ⟨some a, cap, rfl, hl, rfl, Nat.le_trans hml (of_decide_eq_true (by kernel_rfl)), fun _ => ⟨a, rfl, fun j z hz => (hp j z hz).1⟩⟩, hml, fun z hz => ?_⟩
    obtain ⟨i, hi⟩ := List.getElem?_of_mem hz
    exact (hp i z hi).2
theorem opensF_one {d : Kd α} {g : α → Prop} {f : Field} {o : Nat} (ho : f.offset = o) (h : Opens enc P w base spare held d f.type g) : OpensF enc P w base spare held d [f] o g := fun n cs xs hx hl hf => by
  match xs, hx with
  | [y], _ =>
    obtain ⟨a, ha, hg⟩ := h _ _ _ (hf 0 f rfl)
    rw [List.map_cons, List.map_nil, List.sum_cons, List.sum_nil] at hl
    rw [ho, List.take_of_length_le (by rw [List.length_drop]; omega)] at ha
    exact ⟨a, ha, hg⟩
theorem opensF_cons {d : Kd α} {d2 : Kd β} {g : α → Prop} {g2 : β → Prop} {f : Field} {fs : List Field} {o : Nat} (ho : f.offset = o) (h : Opens enc P w base spare held d f.type g) (hr : OpensF enc P w base spare held d2 fs (o + P.cellsOf f.type) g2) :
    OpensF enc P w base spare held (Kd.pair d d2) (f :: fs) o (fun a => g a.1 ∧ g2 a.2) := fun n cs xs hx hl hf => by
  match xs, hx with
  | y :: ys, hx =>
    obtain ⟨a, ha, hg⟩ := h _ _ _ (hf 0 f rfl)
    rw [List.map_cons, List.sum_cons] at hl
    obtain ⟨b, hb, hg2⟩ := hr n cs ys (by simpa using hx) (by omega) (fun i f' hi => hf (i + 1) f' hi)
    rw [ho] at ha
    refine ⟨(a, b), ⟨_, _, ?_, ha, hb⟩, hg, hg2⟩
    rw [← List.drop_drop, List.take_append_drop]
theorem opens_struct {d : Kd α} {g : α → Prop} {fs : Array Field} (ht : P.underlying t = some (.struct fs)) (hc : P.cellsOf t = (fs.toList.map fun f => P.cellsOf f.type).sum) (h : OpensF enc P w base spare held d fs.toList 0 g) : Opens enc P w base spare held d t g := fun fuel cs x hx => by
  obtain ⟨xs, n, _, _, hl, hlen, hf⟩ := DataW.trod_struct ht hx
  have := h n cs xs (by rw [hlen]; simp) (by omega) (fun i f hi => hf i f (by simpa using hi))
  rw [List.drop_zero] at this
  exact this
theorem opens_iso {d : Kd α} {g : α → Prop} (f : β → α) (mk : α → β) (hmk : ∀ a, f (mk a) = a) (h : Opens enc P w base spare held d t g) : Opens enc P w base spare held (Kd.iso d f) t (fun b => g (f b)) := fun fuel cs x hx => by
  obtain ⟨a, ha, hg⟩ := h fuel cs x hx
  exact ⟨mk a, by show d.K w (f (mk a)) cs; rw [hmk]; exact ha, by show g (f (mk a)); rw [hmk]; exact hg⟩
end
end Go.Proofs.YteogadaloebdaaaDoor.Lem

/- A row's wrap that hands on what start-up has laid, and the world's shape. -/
namespace Go.Proofs.YteogadaloebdaaaDoor.Lem
open Go
theorem handed_shaped {H : Type} {enc : TypeId × Value → H} {a : Assume} {C : Checked} {os : Os} {f : FuncId} {fn : Func} {s : ChangeSpec} {apart fresh handsOn again : Bool} {X : World → Array Value → Prop}
    (hX : ∀ (w w' : World) (args : Array Value), w.heap = w'.heap → X w args → X w' args)
    (own : ownKnob C.prog.godebug = none) (started : os.Started) (noInit : C.prog.inits.idxOf? f = none) (hfn : C.prog.funcs[f]? = some fn)
    (witness : ∃ (w : World) (tape : Tape) (i : Input), w.os = os ∧ (w.forCall tape i).Shaped C.prog ∧ i.vars = [] ∧ Input.okWide C.prog (w.forCall tape i) .any w.heap.size f i ∧
      ((s.pre enc C.prog fn [] apart (w.forCall tape i).memory i.args ∧ X (w.forCall tape i).memory i.args) ∧ sizedMet enc C.prog fn (OpenSpec.ofChange s) apart (w.forCall tape i).memory i.args) ∧ a.holds C.prog (lone (Frame.enter C.prog f i.args .normal) [] (w.forCall tape i)))
    (contract : ∀ (W : World) (base : Nat) (args : Array Value) (ds gs : List (DataW H)) (before : List MemPlace),
      (∀ (j : Nat) t v, fn.params[j]? = some t → args[j]? = some v → Value.okWide C.prog W .any base t v) →
      DataW.Whole enc C.prog fn.params.toList s.vars apart W args.toList ds gs before → X W args → W.ShapedOpen C.prog →
      Calls C.prog f args W fun e W' => ∃ v, e = .returned v ∧ s.post enc C.prog fn apart fresh handsOn again W args v W') :
    ReturnsInHanded a C os f .any (fun w args => (s.pre enc C.prog fn [] apart w args ∧ X w args) ∧ sizedMet enc C.prog fn (OpenSpec.ofChange s) apart w args) (s.post enc C.prog fn apart fresh handsOn again) := by
  refine returnsInHanded_of_calls own started noInit witness ?_
  intro w tape i _ hsh _ ⟨_, _, _, fn', hfn', _, _, _, _, hval⟩ hpre _
  obtain rfl : fn' = fn := Option.some.inj (hfn'.symm.trans hfn)
  obtain ⟨⟨⟨ds, gs, before, hw, _⟩, hx⟩, _⟩ := hpre
  exact (contract (w.forCall tape i) w.heap.size i.args ds gs before hval (DataW.Whole.of_heap (w' := w.forCall tape i) (by rfl) hw) (hX _ _ _ (by rfl) hx) hsh).mono fun e W' ⟨v, he, hp⟩ => by
    subst he
    exact ChangeSpec.post_blind hp
end Go.Proofs.YteogadaloebdaaaDoor.Lem

/- The row of laws.FnKeys: its arguments opened, the walk, and the tied card. -/
namespace Go.Proofs.YteogadaloebdaaaDoor.fnKeys
open Go Go.ChangeShapes Go.WideShapes Go.ChangeAt Go.RowKit Go.Proofs.YteogadaloebdaaaDoor.P Go.Proofs.YteogadaloebdaaaDoorW.PrintWords Go.Proofs.YteogadaloebdaaaDoorW.PrintLast Go.Proofs.YteogadaloebdaaaDoorW.PrintMore Go.Proofs.YteogadaloebdaaaDoor.Lem
set_option linter.unusedVariables false
theorem own : ownKnob Tryd.prog.godebug = none := by kernel_rfl
theorem laidOut : laidOutB Tryd.prog = true := by kernel_rfl
noncomputable def laidWorld (os : Os) : World := World.laidAll Tryd.prog os Rows.fnKeysRow.laid
theorem laidWorld_met (os : Os) (args : Array Value) : laidMetH Tryd.prog Rows.fnKeysRow.laid ((laidWorld os).forCall (fun _ _ => 0) ⟨#[], args, []⟩).memory := by
  rw [Go.MakeChecks.laidMetH_plain _ _ _ (by kernel_rfl)]
  exact laidMet_laidAll args (by kernel_rfl) (by kernel_rfl)
theorem tabM_of {W : World} (h : W.ShapedOpen Tryd.prog) : TabM_ W := Go.Proofs.cell_of_shapedOpen_int (zero := #[.int .i64 0]) (t := 3) h (of_decide_eq_true (by kernel_rfl)) (by kernel_rfl) rfl (by kernel_rfl) (by kernel_rfl) Tryd.underlying3
set_option maxRecDepth 100000 in
theorem lifted (os : Os) (started : os.Started) (H : Type) (enc : TypeId × Value → H) :
    ReturnsInHanded {} Tryd.checked os 3 .any (fun w args => (Rows.fnKeysSpec.pre enc Tryd.prog Tryd.f3 [] false w args ∧ laidMetH Tryd.prog Rows.fnKeysRow.laid w) ∧ sizedMet enc Tryd.prog Tryd.f3 (OpenSpec.ofChange Rows.fnKeysSpec) false w args)
      (Rows.fnKeysSpec.post enc Tryd.prog Tryd.f3 false true false false) := by
  refine handed_shaped (C := Tryd.checked) (X := fun w _ => laidMetH Tryd.prog Rows.fnKeysRow.laid w) (fun _ _ _ hh h => h.of_heap hh) own started (by kernel_rfl) Tryd.func3
    (ChangeSpec.witness_at (enc := enc) (C := Tryd.checked) (os := os) (X := fun w _ => laidMetH Tryd.prog Rows.fnKeysRow.laid w) false (laidWorld os) #[.slice none 0 0] 8 rfl (by kernel_rfl) (by kernel_rfl) (by kernel_rfl) (by kernel_rfl) (by kernel_rfl) (laidWorld_met os _)) ?_
  intro W base args ds gs before hval0 hW hL hsh
  have hval : ∀ (j : Nat) t v, Tryd.f3.params[j]? = some t → args[j]? = some v → Value.okWide Tryd.prog W .any base t v := hval0
  have hW' := hW
  obtain ⟨p, q, hA0, hV, rfl, hfz, hnd⟩ := hW
  have hA : DataW.TrodAll enc Tryd.prog W 0 (fun _ => true) true Tryd.f3.params.toList args.toList ds p := hA0
  rw [Tryd.params3] at hA hval
  obtain ⟨v0, vs0, d0, ds0, p0, q0, hargs, rfl, rfl, h0, r0⟩ := trodAll_cons hA
  obtain ⟨rfl, rfl, rfl⟩ := trodAll_nil r0
  obtain rfl : args = #[v0] := by cases args; simp_all
  obtain ⟨rfl, rfl⟩ := trodVars_none hV
  have k0 := h0
  have lt0 : ∀ x ∈ p0, x.block < W.heap.size := by obtain ⟨m, hm⟩ := k0; exact DataW.trod_lt m _ _ _ hm
  have hO0 : Opens enc Tryd.prog W 0 (fun _ => true) true (Kd.slice 5 (Kd.int .u8)) 22 _ := (opens_slice 5 Tryd.underlying22 (opens_int Tryd.underlying5) (by kernel_rfl))
  obtain ⟨A0, n0, c0, rfl⟩ := okWide_slice Tryd.underlying22 (hval 0 22 v0 rfl rfl)
  obtain ⟨l0, ⟨A0', c0', e0, hc0, hC0⟩, hg0⟩ := hO0 _ _ _ h0.choose_spec
  obtain ⟨rfl, rfl, rfl⟩ : A0 = A0' ∧ n0 = l0.length ∧ c0 = c0' := by
    have e1 : (Value.slice A0 n0 c0).cells.toList = [.slice A0' l0.length c0'] := e0
    simpa [Value.cells] using e1
  clear hA0 hval0
  obtain ⟨k, hk⟩ := Pure.FnKeys l0 hg0
  refine (laws_FnKeys.calls (k := k) (l0 := l0) (A0 := A0) (c0 := c0) (hr0 := hC0) (hc0 := hc0) (hTabM_ := tabM_of hsh) (r := true) (w := W) (h := hk)).mono fun e W' ⟨he, bel⟩ => ?_
  subst he
  exact ⟨_, rfl, _, _, _, [], _, [], hW', trodAll_mk1 (shut_bool Tryd.underlying4 _), (trodAll_cons_mk (Below.trod laidOut (by kernel_rfl) (of_decide_eq_true (by kernel_rfl)) k0 bel lt0) trodAll_mk0), rfl, bel.frame _, fun h => by cases h⟩

theorem said : Rows.FnKeysSaid :=
  OpenClaim.holds_of_wide 3 Tryd.f3 rfl rfl rfl rfl rfl rfl rfl ⟨rfl, rfl, rfl, rfl, rfl⟩ rfl rfl rfl rfl rfl (by kernel_rfl) Tryd.func3 (by kernel_rfl)
    (of_decide_eq_true (by kernel_rfl)) (by unfold Func.isWrapper; first | (rw [if_pos (by decide +kernel)]; kernel_rfl) | (rw [if_neg (of_decide_eq_false (by kernel_rfl))]; exact ⟨rfl, rfl⟩))
    (fun os started H enc _ => lifted os started H enc)
theorem proved : Rows.FnKeysCardSaid :=
  Claim7.holds_tied_plain_at .later [] [.data, .pinned] true (true, "530680aa149a9bfdf8426b77c2dd44bb6360f0ccd4b9951516dd54b6e96286e5") true
    said (fun _ h => by cases h) (by kernel_rfl) (fun _ h => by cases h) fnKeys_row_tie rfl ⟨rfl, rfl⟩ (by kernel_rfl) rfl
    (fun f fn hf hfn => by
      obtain rfl : f = 3 := Option.some.inj ((show Tryd.prog.funcNamed "loop.example/g00150/laws.FnKeys" = some 3 by kernel_rfl).symm.trans hf) |>.symm
      obtain rfl : fn = Tryd.f3 := (Option.some.inj (Tryd.func3.symm.trans hfn)).symm
      exact ⟨by kernel_rfl, fun j t ht => by
        rw [Tryd.params3] at ht
        have h3 : t = 22 := by
          rcases j with _ | j
          · exact ((by simpa using ht.symm))
          · simp at ht
        obtain rfl := h3
        · exact (show Tryd.prog.wantsStandIn 22 = false by kernel_rfl)⟩)
    (by kernel_rfl)
#print axioms proved
end Go.Proofs.YteogadaloebdaaaDoor.fnKeys
namespace Go.Proofs.YteogadaloebdaaaDoor
/-- The tied card, under a short name, for the claim. -/
theorem fnKeys_holds : Rows.FnKeysCardSaid := fnKeys.proved
end Go.Proofs.YteogadaloebdaaaDoor
