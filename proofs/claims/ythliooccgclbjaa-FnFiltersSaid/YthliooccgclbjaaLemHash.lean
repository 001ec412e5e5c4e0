/- Two hashes of a key, the places that they name, and the bits that are set there: both programs do the same. No conditions beyond the ones named. -/
import Derived.Test.YthliooccgclbjaaLemBase
import Derived.Test.YthliooccgclbjaaPf45
import Derived.Test.YthliooccgclbjaaPf67
import Derived.Test.YthliooccgclbjaaPf18
namespace Go.Proofs.Ythliooccgclbjaa.Lem
open Go.RowKit Go.Proofs.Ythliooccgclbjaa.P Go.Proofs.YthliooccgclbjaaW.PrintWords Go.Proofs.YthliooccgclbjaaW.PrintLast Go.Proofs.YthliooccgclbjaaW.PrintMore

theorem xor32 {x y : Int} (h0 : 0 ≤ x) (h1 : x < 4294967296) (g0 : 0 ≤ y) (g1 : y < 4294967296) : 0 ≤ Go.bits .xor .u32 x y ∧ Go.bits .xor .u32 x y < 4294967296 := by
  rw [u32_xor x y h0 h1 g0 g1]
  have : x.toNat ^^^ y.toNat < 2 ^ 32 := Nat.xor_lt_two_pow (by omega) (by omega)
  omega

theorem hash_l0 (s : ByteArray) (hs : s.size ≤ 100) (d : Nat) : ∀ (x i : Int), 0 ≤ i → i + d = (s.size : Int) → 0 ≤ x → x < 4294967296 →
    ∃ r, 0 ≤ r ∧ r < 4294967296 ∧ ∀ k, d < k → impl_hash.l0 k s x i = some r ∧ spec_l6Hash.l0 k s x i = some r := by
  induction d with
  | zero =>
    intro x i hi hd h0 h1
    obtain ⟨a, b⟩ := xor32 (x := x) (y := x / 32768) h0 h1 (by omega) (by omega)
    refine ⟨_, a, b, fun k hk => ?_⟩
    obtain ⟨k, rfl⟩ : ∃ m, k = m + 1 := ⟨k - 1, by omega⟩
    simp only [impl_hash.l0, spec_l6Hash.l0]
    rw [if_neg (by omega), if_neg (by omega)]
    exact ⟨rfl, rfl⟩
  | succ d ih =>
    intro x i hi hd h0 h1
    have hb := bt_range s i
    obtain ⟨a, b⟩ := xor32 (x := x) (y := bt s i % 4294967296) h0 h1 (by omega) (by omega)
    obtain ⟨r, r0, r1, hr⟩ := ih ((Go.bits .xor .u32 x (bt s i % 4294967296) * 16777619) % 4294967296) (i + 1) (by omega) (by omega) (by omega) (by omega)
    refine ⟨r, r0, r1, fun k hk => ?_⟩
    obtain ⟨k, rfl⟩ : ∃ m, k = m + 1 := ⟨k - 1, by omega⟩
    simp only [impl_hash.l0, spec_l6Hash.l0]
    rw [if_pos (by omega), if_pos hi, if_pos (by omega), if_pos hi, show wrap64 (i + 1) = i + 1 from w64 (by omega) (by omega)]
    exact hr k (by omega)

/-- The hash of a key. -/
def hsh (s : ByteArray) (n : Int) : Int := (impl_hash.f 200 s n).getD 0

theorem hash_ok {s : ByteArray} (hs : s.size ≤ 100) (n : Int) (hn : n = 0 ∨ n = 1) : 0 ≤ hsh s n ∧ hsh s n < 4294967296 ∧ ∀ k, 100 < k → impl_hash.f k s n = some (hsh s n) ∧ spec_l6Hash.f k s n = some (hsh s n) := by
  have key : ∃ r, 0 ≤ r ∧ r < 4294967296 ∧ ∀ k, 100 < k → impl_hash.f k s n = some r ∧ spec_l6Hash.f k s n = some r := by
    rcases hn with rfl | rfl
    · obtain ⟨r, r0, r1, hr⟩ := hash_l0 s hs s.size 2166136261 0 (by omega) (by omega) (by decide) (by decide)
      exact ⟨r, r0, r1, fun k hk => hr k (by omega)⟩
    · obtain ⟨r, r0, r1, hr⟩ := hash_l0 s hs s.size ((2166136261 + 40503) % 4294967296) 0 (by omega) (by omega) (by decide) (by decide)
      exact ⟨r, r0, r1, fun k hk => hr k (by omega)⟩
  obtain ⟨r, r0, r1, hr⟩ := key
  have e : hsh s n = r := by
    unfold hsh
    rw [(hr 200 (by omega)).1]
    rfl
  rw [e]
  exact ⟨r0, r1, hr⟩

/-- The places that two hashes name. -/
def pl (h d m : Int) : Int → Nat → List Int
  | _, 0 => []
  | i, n + 1 => (h + i * d) % 4294967296 % m :: pl h d m (i + 1) n
theorem pl_length (h d m : Int) : ∀ (n : Nat) (i : Int), (pl h d m i n).length = n := by
  intro n
  induction n with
  | zero => intro i; rfl
  | succ n ih => intro i; simp [pl, ih]
theorem pl_mem (h d m : Int) (hm : 0 < m) : ∀ (n : Nat) (i : Int), ∀ p ∈ pl h d m i n, 0 ≤ p ∧ p < m := by
  intro n
  induction n with
  | zero => intro i p hp; simp [pl] at hp
  | succ n ih =>
    intro i p hp
    simp only [pl, List.mem_cons] at hp
    rcases hp with rfl | hp
    · exact ⟨Int.emod_nonneg _ (by omega), Int.emod_lt_of_pos _ hm⟩
    · exact ih _ p hp

theorem implPlaces_l0 (h d : Int) (bs : List Int) (h1 : 1 ≤ bs.length) (h2 : bs.length ≤ 200) (e : Nat) : ∀ (k : Nat) (acc : List Int) (i w : Int), 0 ≤ i → i + e = w → w ≤ 8 → acc.length + e ≤ 8 → e < k →
    impl_Filter_places.l0 k h d acc w i w bs = some (acc ++ pl h d (8 * (bs.length : Int)) i e) := by
  induction e with
  | zero =>
    intro k acc i w hi he hw ha hk
    obtain ⟨k, rfl⟩ : ∃ m, k = m + 1 := ⟨k - 1, by omega⟩
    simp only [impl_Filter_places.l0, pl]
    rw [if_neg (by omega), List.append_nil]
  | succ e ih =>
    intro k acc i w hi he hw ha hk
    obtain ⟨k, rfl⟩ : ∃ m, k = m + 1 := ⟨k - 1, by omega⟩
    simp only [impl_Filter_places.l0, pl]
    have hm : wrap64 (8 * (bs.length : Int)) % 4294967296 = 8 * (bs.length : Int) := by
      rw [w64 (by omega) (by omega)]; omega
    rw [hm, if_pos (by omega), if_neg (by omega), if_pos (by omega)]
    have hi' : i % 4294967296 = i := by omega
    rw [hi', show wrap64 (i + 1) = i + 1 from w64 (by omega) (by omega)]
    have hp := Int.emod_nonneg ((h + i * d) % 4294967296) (show 8 * (bs.length : Int) ≠ 0 by omega)
    have hq := Int.emod_lt_of_pos ((h + i * d) % 4294967296) (show 0 < 8 * (bs.length : Int) by omega)
    rw [w64 (x := (h + i * d) % 4294967296 % (8 * (bs.length : Int))) (by omega) (by omega)]
    rw [ih k _ (i + 1) w (by omega) (by omega) hw (by rw [List.length_append, List.length_singleton]; omega) (by omega), List.append_assoc]
    rfl

theorem specPlaces_l0 (h d : Int) (l : Nat) (h1 : 1 ≤ l) (h2 : l ≤ 200) (e : Nat) : ∀ (k : Nat) (acc : List Int) (i w x : Int), 0 ≤ i → i + e = w → w ≤ 8 → acc.length + e ≤ 8 → e < k → x = (h + i * d) % 4294967296 →
    spec_l6Places.l0 k w (l : Int) x d acc i = some (acc ++ pl h d (8 * (l : Int)) i e) := by
  induction e with
  | zero =>
    intro k acc i w x hi he hw ha hk hx
    obtain ⟨k, rfl⟩ : ∃ m, k = m + 1 := ⟨k - 1, by omega⟩
    simp only [spec_l6Places.l0, pl]
    rw [if_neg (by omega), List.append_nil]
  | succ e ih =>
    intro k acc i w x hi he hw ha hk hx
    obtain ⟨k, rfl⟩ : ∃ m, k = m + 1 := ⟨k - 1, by omega⟩
    simp only [spec_l6Places.l0, pl]
    have hm : wrap64 (8 * (l : Int)) % 4294967296 = 8 * (l : Int) := by
      rw [w64 (by omega) (by omega)]; omega
    rw [hm, if_pos (by omega), if_neg (by omega), if_pos (by omega)]
    rw [show wrap64 (i + 1) = i + 1 from w64 (by omega) (by omega)]
    have hp := Int.emod_nonneg x (show 8 * (l : Int) ≠ 0 by omega)
    have hq := Int.emod_lt_of_pos x (show 0 < 8 * (l : Int) by omega)
    have hx0 : 0 ≤ x := by rw [hx]; exact Int.emod_nonneg _ (by decide)
    have hl : 8 * (l : Int) ≤ 1600 := by omega
    rw [Int.tmod_eq_emod_of_nonneg hx0, w64 (x := x % (8 * (l : Int))) (Int.le_trans (by decide) hp) (Int.lt_of_lt_of_le hq (Int.le_trans hl (by decide)))]
    have hn : (x + d) % 4294967296 = (h + (i + 1) * d) % 4294967296 := by
      rw [hx, Int.add_mul]; omega
    rw [ih k _ (i + 1) w _ (by omega) (by omega) hw (by rw [List.length_append, List.length_singleton]; omega) (by omega) hn, List.append_assoc, ← hx]
    rfl

/-- The places of a key. -/
def plOf (s : ByteArray) (w : Nat) (l : Nat) : List Int := pl (hsh s 0) (hsh s 1) (8 * (l : Int)) 0 w

theorem implPlaces_ok {s : ByteArray} (hs : s.size ≤ 100) {bs : List Int} (h1 : 1 ≤ bs.length) (h2 : bs.length ≤ 200) {w : Nat} (hw : w ≤ 8) {k : Nat} (hk : 100 < k) :
    impl_Filter_places.f k (w : Int) bs s = some (plOf s w bs.length) := by
  unfold impl_Filter_places.f
  rw [((hash_ok hs 0 (Or.inl rfl)).2.2 k hk).1, Option.bind_some, ((hash_ok hs 1 (Or.inr rfl)).2.2 k hk).1, Option.bind_some]
  rw [implPlaces_l0 (hsh s 0) (hsh s 1) bs h1 h2 w k ([] : List Int) 0 (w : Int) (by omega) (by omega) (by omega) (by rw [List.length_nil]; omega) (by omega)]
  rfl

theorem specPlaces_ok {s : ByteArray} (hs : s.size ≤ 100) {l : Nat} (h1 : 1 ≤ l) (h2 : l ≤ 200) {w : Nat} (hw : w ≤ 8) {k : Nat} (hk : 100 < k) :
    spec_l6Places.f k s (w : Int) (l : Int) = some (plOf s w l) := by
  have a := hash_ok hs 0 (Or.inl rfl)
  have b := hash_ok hs 1 (Or.inr rfl)
  unfold spec_l6Places.f
  rw [(a.2.2 k hk).2, Option.bind_some, (b.2.2 k hk).2, Option.bind_some]
  rw [specPlaces_l0 (hsh s 0) (hsh s 1) l h1 h2 w k ([] : List Int) 0 (w : Int) _ (by omega) (by omega) (by omega) (by rw [List.length_nil]; omega) (by omega) (by omega)]
  rfl

/-! ### bits -/
/-- A bit is set. -/
def has (bs : List Int) (p : Int) : Prop := Go.bits .and .u8 (shr .u8 (rd bs (p / 8)) (p % 8)) 1 ≠ 0
/-- A bit is made one. -/
def put (bs : List Int) (p : Int) : List Int := bs.set (p / 8).toNat (Go.bits .or .u8 (rd bs (p / 8)) (shl .u8 1 (p % 8)))
/-- Bits are made ones. -/
def puts (bs : List Int) : List Int → List Int
  | [] => bs
  | p :: ps => puts (put bs p) ps
theorem put_length (bs : List Int) (p : Int) : (put bs p).length = bs.length := by simp [put]
theorem puts_length : ∀ (ps bs : List Int), (puts bs ps).length = bs.length := by
  intro ps
  induction ps with
  | nil => intro bs; rfl
  | cons p ps ih => intro bs; simp [puts, ih, put_length]

theorem shl8 (j : Nat) (hj : j < 8) : shl .u8 1 (j : Int) = ((2 ^ j : Nat) : Int) := by
  have key : ∀ j : Fin 8, shl .u8 1 (j.val : Int) = ((2 ^ j.val : Nat) : Int) := by decide +kernel
  exact key ⟨j, hj⟩
theorem shr8 (x j : Nat) (hj : j < 8) : shr .u8 (x : Int) (j : Int) = ((x / 2 ^ j : Nat) : Int) := by
  unfold shr
  rw [Int.toNat_natCast, Nat.min_eq_left (by show j ≤ 8; omega)]
  push_cast
  rfl
theorem or8 (x j : Nat) (hx : x < 256) (hj : j < 8) : Go.bits .or .u8 (x : Int) (shl .u8 1 (j : Int)) = ((x ||| 2 ^ j : Nat) : Int) := by
  rw [shl8 j hj]
  have : 2 ^ j < 2 ^ 8 := Nat.pow_lt_pow_right (by decide) hj
  exact u8_or_nat x (2 ^ j) hx (by omega)
theorem bit8 (x j : Nat) (hx : x < 256) (hj : j < 8) : Go.bits .and .u8 (shr .u8 (x : Int) (j : Int)) 1 = ((x / 2 ^ j % 2 : Nat) : Int) := by
  rw [shr8 x j hj]
  have : x / 2 ^ j ≤ x := Nat.div_le_self _ _
  have e := u8_and_nat (x / 2 ^ j) 1 (by omega) (by decide)
  rw [Nat.and_one_is_mod] at e
  exact e
theorem bit_or : ∀ x : Fin 256, ∀ i j : Fin 8, (x.val ||| 2 ^ i.val) < 256 ∧ (x.val ||| 2 ^ i.val) / 2 ^ i.val % 2 = 1 ∧ (x.val / 2 ^ j.val % 2 = 1 → (x.val ||| 2 ^ i.val) / 2 ^ j.val % 2 = 1) := by decide +kernel

theorem has_iff {bs : List Int} (hb : Bytes bs) {p : Int} (_hp : 0 ≤ p) : has bs p ↔ (rd bs (p / 8)).toNat / 2 ^ (p % 8).toNat % 2 = 1 := by
  have h := hb.rd (p / 8)
  unfold has
  have e := bit8 (rd bs (p / 8)).toNat (p % 8).toNat (by omega) (by omega)
  rw [Int.toNat_of_nonneg h.1, Int.toNat_of_nonneg (show 0 ≤ p % 8 by omega)] at e
  rw [e]
  omega

theorem put_val {bs : List Int} (hb : Bytes bs) (p : Int) : Go.bits .or .u8 (rd bs (p / 8)) (shl .u8 1 (p % 8)) = (((rd bs (p / 8)).toNat ||| 2 ^ (p % 8).toNat : Nat) : Int) := by
  have h := hb.rd (p / 8)
  have e := or8 (rd bs (p / 8)).toNat (p % 8).toNat (by omega) (by omega)
  rw [Int.toNat_of_nonneg h.1, Int.toNat_of_nonneg (show 0 ≤ p % 8 by omega)] at e
  exact e

theorem bytes_set {bs : List Int} (hb : Bytes bs) (i : Nat) {x : Int} (h0 : 0 ≤ x) (h1 : x < 256) : Bytes (bs.set i x) := by
  intro y hy
  rcases List.mem_or_eq_of_mem_set hy with h | rfl
  · exact hb y h
  · exact ⟨h0, h1⟩

theorem put_bytes {bs : List Int} (hb : Bytes bs) (p : Int) : Bytes (put bs p) := by
  have h := hb.rd (p / 8)
  have := (bit_or ⟨(rd bs (p / 8)).toNat, by omega⟩ ⟨(p % 8).toNat, by omega⟩ 0).1
  simp only at this
  unfold put
  rw [put_val hb]
  exact bytes_set hb _ (by omega) (by omega)

theorem rd_set {bs : List Int} {q r x : Int} (hq : 0 ≤ q) (hq1 : q < (bs.length : Int)) (hr : 0 ≤ r) : rd (bs.set q.toNat x) r = if r = q then x else rd bs r := by
  unfold Go.Proofs.YthliooccgclbjaaW.PrintWords.rd
  rw [List.getD_eq_getElem?_getD, List.getElem?_set]
  by_cases h : r = q
  · subst h
    rw [if_pos rfl, if_pos (by omega), if_pos rfl]
    rfl
  · rw [if_neg (by omega), if_neg h, List.getD_eq_getElem?_getD]

theorem put_has {bs : List Int} (hb : Bytes bs) {p : Int} (hp : 0 ≤ p) (hp1 : p < 8 * (bs.length : Int)) : has (put bs p) p := by
  have h := hb.rd (p / 8)
  rw [has_iff (put_bytes hb p) hp]
  unfold put
  rw [rd_set (by omega) (by omega) (by omega), if_pos rfl, put_val hb, Int.toNat_natCast]
  exact (bit_or ⟨(rd bs (p / 8)).toNat, by omega⟩ ⟨(p % 8).toNat, by omega⟩ 0).2.1

theorem put_keep {bs : List Int} (hb : Bytes bs) {p q : Int} (hp : 0 ≤ p) (hp1 : p < 8 * (bs.length : Int)) (hq : 0 ≤ q) (h : has bs q) : has (put bs p) q := by
  have h8 := hb.rd (p / 8)
  rw [has_iff (put_bytes hb p) hq]
  rw [has_iff hb hq] at h
  unfold put
  rw [rd_set (by omega) (by omega) (by omega)]
  by_cases e : q / 8 = p / 8
  · rw [if_pos e, put_val hb, Int.toNat_natCast]
    rw [e] at h
    exact (bit_or ⟨(rd bs (p / 8)).toNat, by omega⟩ ⟨(p % 8).toNat, by omega⟩ ⟨(q % 8).toNat, by omega⟩).2.2 h
  · rw [if_neg e]
    exact h

theorem puts_bytes : ∀ (ps : List Int) {bs : List Int}, Bytes bs → Bytes (puts bs ps) := by
  intro ps
  induction ps with
  | nil => intro bs hb; exact hb
  | cons p ps ih => intro bs hb; exact ih (put_bytes hb p)
theorem puts_keep : ∀ (ps : List Int) {bs : List Int}, Bytes bs → (∀ p ∈ ps, 0 ≤ p ∧ p < 8 * (bs.length : Int)) → ∀ q, 0 ≤ q → has bs q → has (puts bs ps) q := by
  intro ps
  induction ps with
  | nil => intro bs hb _ q _ h; exact h
  | cons p ps ih =>
    intro bs hb hm q hq h
    have hp := hm p (List.mem_cons_self ..)
    exact ih (put_bytes hb p) (fun r hr => by rw [put_length]; exact hm r (List.mem_cons_of_mem _ hr)) q hq (put_keep hb hp.1 hp.2 hq h)
theorem puts_has : ∀ (ps : List Int) {bs : List Int}, Bytes bs → (∀ p ∈ ps, 0 ≤ p ∧ p < 8 * (bs.length : Int)) → ∀ q ∈ ps, has (puts bs ps) q := by
  intro ps
  induction ps with
  | nil => intro bs hb _ q hq; simp at hq
  | cons p ps ih =>
    intro bs hb hm q hq
    have hp := hm p (List.mem_cons_self ..)
    have hm' : ∀ r ∈ ps, 0 ≤ r ∧ r < 8 * ((put bs p).length : Int) := fun r hr => by rw [put_length]; exact hm r (List.mem_cons_of_mem _ hr)
    rcases List.mem_cons.1 hq with rfl | hq
    · exact puts_keep ps (put_bytes hb q) hm' q hp.1 (put_has hb hp.1 hp.2)
    · exact ih (put_bytes hb p) hm' q hq

/-- The keys' bits are made ones. -/
def putKeys (w : Nat) (bs : List Int) : List ByteArray → List Int
  | [] => bs
  | s :: ss => putKeys w (puts bs (plOf s w bs.length)) ss
theorem putKeys_length (w : Nat) : ∀ (ss : List ByteArray) (bs : List Int), (putKeys w bs ss).length = bs.length := by
  intro ss
  induction ss with
  | nil => intro bs; rfl
  | cons s ss ih => intro bs; simp [putKeys, ih, puts_length]
theorem plOf_mem (s : ByteArray) (w l : Nat) (hl : 1 ≤ l) : ∀ p ∈ plOf s w l, 0 ≤ p ∧ p < 8 * (l : Int) := pl_mem _ _ _ (by omega) w 0
theorem putKeys_bytes (w : Nat) : ∀ (ss : List ByteArray) (bs : List Int), Bytes bs → Bytes (putKeys w bs ss) := by
  intro ss
  induction ss with
  | nil => intro bs hb; exact hb
  | cons s ss ih => intro bs hb; exact ih _ (puts_bytes _ hb)
theorem putKeys_keep (w : Nat) : ∀ (ss : List ByteArray) (bs : List Int), Bytes bs → 1 ≤ bs.length → ∀ q, 0 ≤ q → has bs q → has (putKeys w bs ss) q := by
  intro ss
  induction ss with
  | nil => intro bs hb _ q _ h; exact h
  | cons s ss ih =>
    intro bs hb h1 q hq h
    exact ih _ (puts_bytes _ hb) (by rw [puts_length]; exact h1) q hq (puts_keep _ hb (plOf_mem s w _ h1) q hq h)
theorem putKeys_has (w : Nat) : ∀ (ss : List ByteArray) (bs : List Int), Bytes bs → 1 ≤ bs.length → ∀ s ∈ ss, ∀ q ∈ plOf s w bs.length, has (putKeys w bs ss) q := by
  intro ss
  induction ss with
  | nil => intro bs hb _ s hs; simp at hs
  | cons t ss ih =>
    intro bs hb h1 s hs q hq
    rcases List.mem_cons.1 hs with rfl | hs
    · exact putKeys_keep w ss _ (puts_bytes _ hb) (by rw [puts_length]; exact h1) q (plOf_mem s w _ h1 q hq).1 (puts_has _ hb (plOf_mem s w _ h1) q hq)
    · exact ih _ (puts_bytes _ hb) (by rw [puts_length]; exact h1) s hs q (by rw [puts_length]; exact hq)

end Go.Proofs.Ythliooccgclbjaa.Lem
