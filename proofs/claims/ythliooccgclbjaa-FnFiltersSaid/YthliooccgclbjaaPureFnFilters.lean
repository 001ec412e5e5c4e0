/- A filter answers yes for every key that went in, and comes back from its bytes, for drawn keys: FnFilters answers true at every input. No conditions. -/
import Derived.Test.YthliooccgclbjaaLemCur
import Derived.Test.YthliooccgclbjaaLemHash
import Derived.Test.YthliooccgclbjaaPf4
namespace Go.Proofs.Ythliooccgclbjaa.Pure
open Go.RowKit Go.Proofs.Ythliooccgclbjaa.P Go.Proofs.YthliooccgclbjaaW.PrintWords Go.Proofs.YthliooccgclbjaaW.PrintLast Go.Proofs.YthliooccgclbjaaW.PrintMore Go.Proofs.Ythliooccgclbjaa.Lem

theorem within_ok (a b c : Int) : impl_within.f a b c = some (decide (b ≤ a ∧ a ≤ c)) := by
  unfold impl_within.f
  by_cases h : a ≥ b
  · rw [if_pos h]
    congr 1
    by_cases g : a ≤ c <;> simp [g] <;> omega
  · rw [if_neg h]
    congr 1
    have : ¬ (b ≤ a ∧ a ≤ c) := by omega
    simp [this]
theorem l1In_ok (a b c : Int) : spec_l1In.f a b c = some (decide (b ≤ a ∧ a ≤ c)) := by
  unfold spec_l1In.f
  by_cases h : a ≥ b
  · rw [if_pos h]
    congr 1
    by_cases g : a ≤ c <;> simp [g] <;> omega
  · rw [if_neg h]
    congr 1
    have : ¬ (b ≤ a ∧ a ≤ c) := by omega
    simp [this]

theorem rdOf_mem {l : List ByteArray} {i : Int} (h0 : 0 ≤ i) (h1 : i < (l.length : Int)) : rdOf ByteArray.empty l i ∈ l := by
  unfold Go.Proofs.YthliooccgclbjaaW.PrintWords.rdOf
  rw [List.getD_eq_getElem?_getD, List.getElem?_eq_getElem (by omega)]
  exact List.getElem_mem _
theorem rd_mem {l : List Int} {i : Int} (h0 : 0 ≤ i) (h1 : i < (l.length : Int)) : rd l i ∈ l := by
  unfold Go.Proofs.YthliooccgclbjaaW.PrintWords.rd
  rw [List.getD_eq_getElem?_getD, List.getElem?_eq_getElem (by omega)]
  exact List.getElem_mem _
theorem rdOf_drop {l : List ByteArray} {i : Nat} (h : i < l.length) : l.drop i = rdOf ByteArray.empty l (i : Int) :: l.drop (i + 1) := by
  rw [List.drop_eq_getElem_cons h]
  unfold Go.Proofs.YthliooccgclbjaaW.PrintWords.rdOf
  rw [Int.toNat_natCast, List.getD_eq_getElem?_getD, List.getElem?_eq_getElem h]
  rfl
theorem rd_drop {l : List Int} {i : Nat} (h : i < l.length) : l.drop i = rd l (i : Int) :: l.drop (i + 1) := by
  rw [List.drop_eq_getElem_cons h]
  unfold Go.Proofs.YthliooccgclbjaaW.PrintWords.rd
  rw [Int.toNat_natCast, List.getD_eq_getElem?_getD, List.getElem?_eq_getElem h]
  rfl

/-! ### what is drawn -/
theorem of_ok {l : List Int} (hl : Bytes l) (ws : List ByteArray) (hw : 1 ≤ ws.length) (at_ s : Int) (h0 : 0 ≤ at_) (h1 : at_ < 4611686018427387900) :
    ∃ t a' s', spec_l1Cur_of.f l at_ s ws = some (t, a', s') ∧ t ∈ ws ∧ at_ ≤ a' ∧ a' ≤ at_ + 2 := by
  unfold spec_l1Cur_of.f
  obtain ⟨r, a1, s1, e1, g1, g1', r0, r1, _⟩ := pick_ok hl at_ s (ws.length : Int) h0 h1
  have hr := r1 (by omega)
  rw [e1, Option.bind_some]; try dsimp only
  rw [if_pos r0, if_pos hr]
  exact ⟨_, _, _, rfl, rdOf_mem r0 hr, g1, g1'⟩
theorem among_ok {l : List Int} (hl : Bytes l) (ws : List Int) (hw : 1 ≤ ws.length) (at_ s : Int) (h0 : 0 ≤ at_) (h1 : at_ < 4611686018427387900) :
    ∃ t a' s', spec_l1Cur_among.f l at_ s ws = some (t, a', s') ∧ t ∈ ws ∧ at_ ≤ a' ∧ a' ≤ at_ + 2 := by
  unfold spec_l1Cur_among.f
  obtain ⟨r, a1, s1, e1, g1, g1', r0, r1, _⟩ := pick_ok hl at_ s (ws.length : Int) h0 h1
  have hr := r1 (by omega)
  rw [e1, Option.bind_some]; try dsimp only
  rw [if_pos r0, if_pos hr]
  exact ⟨_, _, _, rfl, rd_mem r0 hr, g1, g1'⟩

theorem keyText_ok {l : List Int} (hl : Bytes l) (at_ s : Int) (h0 : 0 ≤ at_) (h1 : at_ < 4611686018427387900) :
    ∃ t a' s', spec_l1Cur_keyText.f l at_ s = some (t, a', s') ∧ t.size ≤ 3 ∧ at_ ≤ a' ∧ a' ≤ at_ + 2 := by
  unfold spec_l1Cur_keyText.f
  obtain ⟨t, a1, s1, e1, m, g1, g1'⟩ := of_ok hl [(⟨#[97]⟩ : ByteArray), (⟨#[97, 98]⟩ : ByteArray), (⟨#[98]⟩ : ByteArray), (⟨#[98, 97]⟩ : ByteArray), (⟨#[99]⟩ : ByteArray), (⟨#[99, 112, 117]⟩ : ByteArray), (⟨#[100]⟩ : ByteArray), (⟨#[109]⟩ : ByteArray)] (by simp) at_ s h0 h1
  rw [e1, Option.bind_some]; try dsimp only
  refine ⟨_, _, _, rfl, ?_, g1, g1'⟩
  have key : ∀ t ∈ [(⟨#[97]⟩ : ByteArray), (⟨#[97, 98]⟩ : ByteArray), (⟨#[98]⟩ : ByteArray), (⟨#[98, 97]⟩ : ByteArray), (⟨#[99]⟩ : ByteArray), (⟨#[99, 112, 117]⟩ : ByteArray), (⟨#[100]⟩ : ByteArray), (⟨#[109]⟩ : ByteArray)], t.size ≤ 3 := by decide
  exact key t m

theorem keysOf_l0 {l : List Int} (hl : Bytes l) (d : Nat) : ∀ (k : Nat) (acc : List ByteArray) (at_ s : Int), d ≤ 200 → acc.length + d ≤ 200 → (∀ t ∈ acc, t.size ≤ 100) → 0 ≤ at_ → at_ + 4 * d < 4611686018427387000 → d < k →
    ∃ ks a' s', spec_l1Cur_keysOf.l0 k acc (d : Int) l at_ s = some (ks, a', s') ∧ ks.length = acc.length + d ∧ (∀ t ∈ ks, t.size ≤ 100) ∧ at_ ≤ a' ∧ a' ≤ at_ + 4 * d := by
  induction d with
  | zero =>
    intro k acc at_ s _ _ hm h0 h1 hk
    obtain ⟨k, rfl⟩ : ∃ m, k = m + 1 := ⟨k - 1, by omega⟩
    simp only [spec_l1Cur_keysOf.l0]
    rw [if_neg (by omega)]
    exact ⟨_, _, _, rfl, rfl, hm, by omega, by omega⟩
  | succ d ih =>
    intro k acc at_ s hd ha hm h0 h1 hk
    obtain ⟨k, rfl⟩ : ∃ m, k = m + 1 := ⟨k - 1, by omega⟩
    simp only [spec_l1Cur_keysOf.l0]
    rw [if_pos (by omega)]
    obtain ⟨t, a1, s1, e1, t1, g1, g1'⟩ := keyText_ok hl at_ s h0 (by omega)
    rw [e1, Option.bind_some]; try dsimp only
    obtain ⟨u, a2, s2, e2, m2, g2, g2'⟩ := of_ok hl [(⟨#[]⟩ : ByteArray), (⟨#[49]⟩ : ByteArray), (⟨#[50]⟩ : ByteArray), (⟨#[120]⟩ : ByteArray)] (by simp) a1 s1 (by omega) (by omega)
    rw [e2, Option.bind_some]; try dsimp only
    have key : ∀ t ∈ [(⟨#[]⟩ : ByteArray), (⟨#[49]⟩ : ByteArray), (⟨#[50]⟩ : ByteArray), (⟨#[120]⟩ : ByteArray)], t.size ≤ 1 := by decide
    have u1 := key u m2
    have hsz : (t ++ u).size = t.size + u.size := ByteArray.size_append
    rw [if_pos (by omega), if_pos (by omega), show wrap64 (((d + 1 : Nat) : Int) - 1) = (d : Int) from by rw [w64 (by omega) (by omega)]; omega]
    obtain ⟨ks, a3, s3, e3, l3, m3, g3, g3'⟩ := ih k (acc ++ [t ++ u]) a2 s2 (by omega) (by rw [List.length_append, List.length_singleton]; omega) (by
      intro v hv
      rcases List.mem_append.1 hv with h | h
      · exact hm v h
      · rw [List.mem_singleton.1 h]; omega) (by omega) (by omega) (by omega)
    exact ⟨ks, a3, s3, e3, by rw [l3, List.length_append, List.length_singleton]; omega, m3, by omega, by omega⟩

theorem keysOf_ok {l : List Int} (hl : Bytes l) (k : Nat) (hk : 150 < k) (at_ s : Int) (h0 : 0 ≤ at_) (h1 : at_ < 461168601842738000) :
    ∃ ks a' s', spec_l1Cur_keysOf.f k l at_ s = some (ks, a', s') ∧ ks.length ≤ 101 ∧ (∀ t ∈ ks, t.size ≤ 100) := by
  unfold spec_l1Cur_keysOf.f
  obtain ⟨p, a1, s1, e1, g1, g1', p0, p1, _⟩ := pick_ok hl at_ s 12 h0 (by omega)
  have hp := p1 (by omega)
  rw [e1, Option.bind_some]; try dsimp only
  obtain ⟨b, a2, s2, e2, g2, g2'⟩ := one_ok hl a1 s1 20 (by omega) (by omega)
  rw [e2, Option.bind_some]; try dsimp only
  obtain ⟨k, rfl⟩ : ∃ m, k = m + 1 := ⟨k - 1, by omega⟩
  cases b
  · rw [if_neg (by decide)]
    simp only [spec_l1Cur_keysOf.j0]
    obtain ⟨ks, a3, s3, e3, l3, m3, _⟩ := keysOf_l0 hl p.toNat k [] a2 s2 (by omega) (by rw [List.length_nil]; omega) (by simp) (by omega) (by omega) (by omega)
    rw [show ((p.toNat : Nat) : Int) = p by omega] at e3
    exact ⟨ks, a3, s3, e3, by rw [l3, List.length_nil]; omega, m3⟩
  · rw [if_pos rfl]
    obtain ⟨q, a4, s4, e4, g4, g4', q0, q1, _⟩ := pick_ok hl a2 s2 2 (by omega) (by omega)
    have hq := q1 (by omega)
    rw [e4, Option.bind_some]; try dsimp only
    simp only [spec_l1Cur_keysOf.j0]
    obtain ⟨ks, a3, s3, e3, l3, m3, _⟩ := keysOf_l0 hl (100 + q).toNat k [] a4 s4 (by omega) (by rw [List.length_nil]; omega) (by simp) (by omega) (by omega) (by omega)
    rw [show (((100 + q).toNat : Nat) : Int) = wrap64 (100 + q) from by rw [w64 (by omega) (by omega)]; omega] at e3
    exact ⟨ks, a3, s3, e3, by rw [l3, List.length_nil]; omega, m3⟩

theorem draw_ok {l : List Int} (hl : Bytes l) (k : Nat) (hk : 150 < k) : ∃ ks n, spec_DrawFilterOf.f k l = some (ks, n) ∧ ks.length ≤ 101 ∧ (∀ t ∈ ks, t.size ≤ 100) ∧ 0 ≤ n ∧ n ≤ 21 := by
  unfold spec_DrawFilterOf.f
  obtain ⟨p, a1, s1, e1, g1, g1', p0, p1, _⟩ := pick_ok hl 0 0 12 (by omega) (by omega)
  have hp := p1 (by omega)
  rw [e1, Option.bind_some]; try dsimp only
  obtain ⟨b, a2, s2, e2, g2, g2'⟩ := one_ok hl a1 s1 16 (by omega) (by omega)
  rw [e2, Option.bind_some]; try dsimp only
  cases b
  · rw [if_neg (by decide)]
    obtain ⟨ks, a3, s3, e3, l3, m3⟩ := keysOf_ok hl k hk a2 s2 (by omega) (by omega)
    rw [e3, Option.bind_some]; try dsimp only
    exact ⟨_, _, rfl, l3, m3, by rw [w64 (by omega) (by omega)]; omega, by rw [w64 (by omega) (by omega)]; omega⟩
  · rw [if_pos rfl]
    obtain ⟨n, a4, s4, e4, m4, g4, g4'⟩ := among_ok hl [0, 20, 21] (by simp) a2 s2 (by omega) (by omega)
    rw [e4, Option.bind_some]; try dsimp only
    obtain ⟨ks, a3, s3, e3, l3, m3⟩ := keysOf_ok hl k hk a4 s4 (by omega) (by omega)
    rw [e3, Option.bind_some]; try dsimp only
    have key : ∀ t ∈ ([0, 20, 21] : List Int), 0 ≤ t ∧ t ≤ 21 := by decide
    exact ⟨_, _, rfl, l3, m3, (key n m4).1, (key n m4).2⟩

/-! ### both programs make the same filter -/
theorem implOf_l1 (ks : List ByteArray) (n i : Int) (ps : List Int) (w : Int) (hps : ps.length ≤ 8) (d : Nat) : ∀ (k j : Nat) (bs : List Int), j + d = ps.length → (∀ p ∈ ps, 0 ≤ p ∧ p < 8 * (bs.length : Int)) → bs.length ≤ 200 →
    impl_FilterOf.l1 (k + d + 1) ks n i ps (ps.length : Int) (j : Int) w bs = impl_FilterOf.l0 k ks n (wrap64 (i + 1)) w (puts bs (ps.drop j)) := by
  induction d with
  | zero =>
    intro k j bs hj _ _
    simp only [impl_FilterOf.l1]
    rw [if_neg (by omega), List.drop_of_length_le (by omega)]
    rfl
  | succ d ih =>
    intro k j bs hj hm hb
    have e : k + (d + 1) + 1 = (k + d + 1) + 1 := by omega
    rw [e]
    simp only [impl_FilterOf.l1]
    have hr := hm (rd ps (j : Int)) (rd_mem (by omega) (by omega))
    rw [if_pos (by omega), if_pos (by omega), if_pos (by omega)]
    rw [Int.tdiv_eq_ediv_of_nonneg hr.1, Int.tmod_eq_emod_of_nonneg hr.1, w64 (x := rd ps (j : Int) / 8) (by omega) (by omega)]
    rw [if_pos (by omega), if_pos (by omega), if_pos (by omega), show wrap64 ((j : Int) + 1) = ((j + 1 : Nat) : Int) from by rw [w64 (by omega) (by omega)]; omega]
    have ih' := ih k (j + 1) (put bs (rd ps (j : Int))) (by omega) (by rw [put_length]; exact hm) (by rw [put_length]; exact hb)
    rw [rd_drop (show j < ps.length by omega)]
    exact ih'

theorem specOf_l1 (v u : Int) (ks : List ByteArray) (n i : Int) (ps : List Int) (w : Int) (hps : ps.length ≤ 8) (d : Nat) : ∀ (k j : Nat) (bs : List Int), j + d = ps.length → (∀ p ∈ ps, 0 ≤ p ∧ p < 8 * (bs.length : Int)) → bs.length ≤ 200 →
    spec_l6Filter.l1 (k + d + 1) v u ks n i ps (ps.length : Int) (j : Int) w bs = spec_l6Filter.l0 k v u ks n (wrap64 (i + 1)) w (puts bs (ps.drop j)) := by
  induction d with
  | zero =>
    intro k j bs hj _ _
    simp only [spec_l6Filter.l1]
    rw [if_neg (by omega), List.drop_of_length_le (by omega)]
    rfl
  | succ d ih =>
    intro k j bs hj hm hb
    have e : k + (d + 1) + 1 = (k + d + 1) + 1 := by omega
    rw [e]
    simp only [spec_l6Filter.l1]
    have hr := hm (rd ps (j : Int)) (rd_mem (by omega) (by omega))
    rw [if_pos (by omega), if_pos (by omega), if_pos (by omega)]
    rw [Int.tdiv_eq_ediv_of_nonneg hr.1, Int.tmod_eq_emod_of_nonneg hr.1, w64 (x := rd ps (j : Int) / 8) (by omega) (by omega), wu64 (x := rd ps (j : Int) % 8) (by omega) (by omega)]
    rw [if_pos (by omega), if_pos (by omega), if_pos (by omega), show wrap64 ((j : Int) + 1) = ((j + 1 : Nat) : Int) from by rw [w64 (by omega) (by omega)]; omega]
    have ih' := ih k (j + 1) (put bs (rd ps (j : Int))) (by omega) (by rw [put_length]; exact hm) (by rw [put_length]; exact hb)
    rw [rd_drop (show j < ps.length by omega)]
    exact ih'

theorem implOf_l0 (ks : List ByteArray) (hks : ks.length ≤ 100) (hsz : ∀ t ∈ ks, t.size ≤ 100) (w : Nat) (hw : w ≤ 8) (d : Nat) : ∀ (k i : Nat) (bs : List Int), i + d = ks.length → 1 ≤ bs.length → bs.length ≤ 200 → 200 + d * 10 < k →
    impl_FilterOf.l0 k ks (ks.length : Int) (i : Int) (w : Int) bs = some ((w : Int), putKeys w bs (ks.drop i), true) := by
  induction d with
  | zero =>
    intro k i bs hi _ _ hk
    obtain ⟨k, rfl⟩ : ∃ m, k = m + 1 := ⟨k - 1, by omega⟩
    simp only [impl_FilterOf.l0]
    rw [if_neg (by omega), List.drop_of_length_le (by omega)]
    rfl
  | succ d ih =>
    intro k i bs hi h1 h2 hk
    obtain ⟨m, rfl⟩ : ∃ m, k = m + 1 := ⟨k - 1, by omega⟩
    simp only [impl_FilterOf.l0]
    rw [if_pos (by omega), if_pos (by omega), if_pos (by omega)]
    rw [implPlaces_ok (hsz _ (rdOf_mem (by omega) (by omega))) h1 h2 hw (by omega), Option.bind_some]
    have hlen : (plOf (rdOf ByteArray.empty ks (i : Int)) w bs.length).length = w := pl_length _ _ _ _ _
    obtain ⟨k, rfl⟩ : ∃ k, m = k + w + 1 := ⟨m - w - 1, by omega⟩
    have e := implOf_l1 ks (ks.length : Int) (i : Int) (plOf (rdOf ByteArray.empty ks (i : Int)) w bs.length) (w : Int) (by omega) w k 0 bs (by omega) (plOf_mem _ _ _ h1) h2
    rw [show ((0 : Nat) : Int) = 0 from rfl] at e
    rw [e, List.drop_zero, show wrap64 ((i : Int) + 1) = ((i + 1 : Nat) : Int) from by rw [w64 (by omega) (by omega)]; omega]
    rw [ih k (i + 1) _ (by omega) (by rw [puts_length]; exact h1) (by rw [puts_length]; exact h2) (by omega), rdOf_drop (show i < ks.length by omega)]
    rfl

theorem specOf_l0 (ks : List ByteArray) (hks : ks.length ≤ 100) (hsz : ∀ t ∈ ks, t.size ≤ 100) (w u : Nat) (hw : w ≤ 8) (hu1 : 1 ≤ u) (hu2 : u ≤ 200) (d : Nat) : ∀ (k i : Nat) (bs : List Int), i + d = ks.length → bs.length = u → 200 + d * 10 < k →
    spec_l6Filter.l0 k (w : Int) (u : Int) ks (ks.length : Int) (i : Int) (w : Int) bs = some ((w : Int), putKeys w bs (ks.drop i)) := by
  induction d with
  | zero =>
    intro k i bs hi _ hk
    obtain ⟨k, rfl⟩ : ∃ m, k = m + 1 := ⟨k - 1, by omega⟩
    simp only [spec_l6Filter.l0]
    rw [if_neg (by omega), List.drop_of_length_le (by omega)]
    rfl
  | succ d ih =>
    intro k i bs hi h1 hk
    obtain ⟨m, rfl⟩ : ∃ m, k = m + 1 := ⟨k - 1, by omega⟩
    simp only [spec_l6Filter.l0]
    rw [if_pos (by omega), if_pos (by omega), if_pos (by omega)]
    rw [specPlaces_ok (hsz _ (rdOf_mem (by omega) (by omega))) hu1 hu2 hw (by omega), Option.bind_some]
    have hlen : (plOf (rdOf ByteArray.empty ks (i : Int)) w u).length = w := pl_length _ _ _ _ _
    obtain ⟨k, rfl⟩ : ∃ k, m = k + w + 1 := ⟨m - w - 1, by omega⟩
    have e := specOf_l1 (w : Int) (u : Int) ks (ks.length : Int) (i : Int) (plOf (rdOf ByteArray.empty ks (i : Int)) w u) (w : Int) (by omega) w k 0 bs (by omega) (by rw [h1]; exact plOf_mem _ _ _ hu1) (by omega)
    rw [show ((0 : Nat) : Int) = 0 from rfl] at e
    rw [e, List.drop_zero, show wrap64 ((i : Int) + 1) = ((i + 1 : Nat) : Int) from by rw [w64 (by omega) (by omega)]; omega]
    rw [ih k (i + 1) _ (by omega) (by rw [puts_length]; exact h1) (by omega), rdOf_drop (show i < ks.length by omega)]
    simp only [putKeys, h1]

/-- How many ways. -/
def waysOf (n : Int) : Nat := (mn 8 (mx 1 (n * 69 / 100))).toNat
/-- How many bytes. -/
def bytesOf (m n : Int) : Nat := (mn 200 ((mx 64 (m * n) + 7) / 8)).toNat

theorem mul_b {m n : Int} (h0 : 0 ≤ m) (h1 : m ≤ 100) (g0 : 1 ≤ n) (g1 : n ≤ 20) : 0 ≤ m * n ∧ m * n ≤ 2000 :=
  ⟨Int.mul_nonneg h0 (by omega), Int.le_trans (Int.mul_le_mul h1 g1 (by omega) (by omega)) (by decide)⟩

theorem ways_b (n : Int) : 1 ≤ waysOf n ∧ waysOf n ≤ 8 := by
  unfold waysOf mn mx
  split <;> split <;> omega
theorem bytes_b (m n : Int) : 1 ≤ bytesOf m n ∧ bytesOf m n ≤ 200 := by
  unfold bytesOf mn mx
  generalize m * n = q
  split <;> split <;> omega

theorem replicate_bytes (n : Nat) : Bytes (List.replicate n 0) := by
  intro x hx
  rw [List.eq_of_mem_replicate hx]
  decide

/-- The filter that both make. -/
def bits0 (ks : List ByteArray) (n : Int) : List Int := putKeys (waysOf n) (List.replicate (bytesOf (ks.length : Int) n) 0) ks

theorem implOf_ok {ks : List ByteArray} (hks : ks.length ≤ 100) (hsz : ∀ t ∈ ks, t.size ≤ 100) {n : Int} (n0 : 1 ≤ n) (n1 : n ≤ 20) {k : Nat} (hk : 2000 < k) :
    impl_FilterOf.f k ks n = some ((waysOf n : Int), bits0 ks n, true) := by
  unfold impl_FilterOf.f
  rw [if_neg (by omega), within_ok, Option.bind_some, show decide (1 ≤ n ∧ n ≤ 20) = true from by simp [n0, n1]]
  obtain ⟨k, rfl⟩ : ∃ m, k = m + 1 := ⟨k - 1, by omega⟩
  simp only [impl_FilterOf.j0]
  rw [if_neg (by decide)]
  have hb := mul_b (m := (ks.length : Int)) (by omega) (by omega) n0 n1
  have hw := ways_b n
  have hl := bytes_b (ks.length : Int) n
  have e1 : mn 8 (mx 1 (wrap64 (Int.tdiv (wrap64 (n * 69)) 100))) = (waysOf n : Int) := by
    rw [w64 (x := n * 69) (by omega) (by omega), Int.tdiv_eq_ediv_of_nonneg (by omega), w64 (x := n * 69 / 100) (by omega) (by omega)]
    unfold waysOf
    rw [Int.toNat_of_nonneg]
    unfold mn mx
    split <;> split <;> omega
  have e2 : mn 200 (wrap64 (Int.tdiv (wrap64 ((mx 64 (wrap64 ((ks.length : Int) * n))) + 7)) 8)) = (bytesOf (ks.length : Int) n : Int) := by
    unfold bytesOf
    rw [w64 (x := (ks.length : Int) * n) (by omega) (by omega)]
    generalize (ks.length : Int) * n = q at hb
    have hq : 0 ≤ mx 64 q ∧ mx 64 q ≤ 2000 := by unfold mx; split <;> omega
    rw [w64 (x := mx 64 q + 7) (by omega) (by omega), Int.tdiv_eq_ediv_of_nonneg (by omega), w64 (x := (mx 64 q + 7) / 8) (by omega) (by omega)]
    rw [Int.toNat_of_nonneg]
    unfold mn
    split <;> omega
  rw [e1, e2, if_pos (by omega), if_pos (by omega), Int.toNat_natCast]
  have e := implOf_l0 ks hks hsz (waysOf n) hw.2 ks.length k 0 (List.replicate (bytesOf (ks.length : Int) n) 0) (by omega) (by rw [List.length_replicate]; exact hl.1) (by rw [List.length_replicate]; exact hl.2) (by omega)
  rw [show ((0 : Nat) : Int) = 0 from rfl] at e
  rw [e]
  rfl

theorem specOf_ok {ks : List ByteArray} (hks : ks.length ≤ 100) (hsz : ∀ t ∈ ks, t.size ≤ 100) {n : Int} (n0 : 1 ≤ n) (n1 : n ≤ 20) {k : Nat} (hk : 2000 < k) :
    spec_FilterOf.f k ks n = some ((waysOf n : Int), bits0 ks n, true) := by
  unfold spec_FilterOf.f
  rw [if_neg (by omega), l1In_ok, Option.bind_some, show decide (1 ≤ n ∧ n ≤ 20) = true from by simp [n0, n1], if_pos rfl]
  have hb := mul_b (m := (ks.length : Int)) (by omega) (by omega) n0 n1
  have hw := ways_b n
  have hl := bytes_b (ks.length : Int) n
  obtain ⟨k, rfl⟩ : ∃ m, k = m + 4 := ⟨k - 4, by omega⟩
  have e := specOf_l0 ks hks hsz (waysOf n) (bytesOf (ks.length : Int) n) hw.2 hl.1 hl.2 ks.length k 0 (List.replicate (bytesOf (ks.length : Int) n) 0) (by omega) (by rw [List.length_replicate]) (by omega)
  rw [show ((0 : Nat) : Int) = 0 from rfl] at e
  have s3 : spec_l6Filter.j3 (k + 1) ks (waysOf n : Int) (bytesOf (ks.length : Int) n : Int) = some ((waysOf n : Int), bits0 ks n) := by
    simp only [spec_l6Filter.j3]
    rw [if_pos (by omega), if_pos (by omega), Int.toNat_natCast, e]
    rfl
  have s2 : spec_l6Filter.j2 (k + 2) ks (waysOf n : Int) (mx 64 ((ks.length : Int) * n)) = some ((waysOf n : Int), bits0 ks n) := by
    simp only [spec_l6Filter.j2]
    rw [← s3]
    unfold bytesOf
    generalize (ks.length : Int) * n = q at hb
    have hq : 0 ≤ mx 64 q ∧ mx 64 q ≤ 2000 := by unfold mx; split <;> omega
    rw [w64 (x := mx 64 q + 7) (by omega) (by omega), Int.tdiv_eq_ediv_of_nonneg (by omega), w64 (x := (mx 64 q + 7) / 8) (by omega) (by omega)]
    unfold mn
    by_cases c : (mx 64 q + 7) / 8 > 200
    · rw [if_pos c, if_neg (by omega)]
      rfl
    · rw [if_neg c]
      by_cases c2 : (mx 64 q + 7) / 8 < 200
      · rw [if_pos c2, Int.toNat_of_nonneg (by omega)]
      · rw [if_neg c2, show (mx 64 q + 7) / 8 = 200 by omega]
        rfl
  have s1 : spec_l6Filter.j1 (k + 3) ks n (waysOf n : Int) = some ((waysOf n : Int), bits0 ks n) := by
    simp only [spec_l6Filter.j1]
    rw [← s2, w64 (x := (ks.length : Int) * n) (by omega) (by omega)]
    unfold mx
    by_cases c : (ks.length : Int) * n < 64
    · rw [if_pos c, if_neg (by omega)]
    · rw [if_neg c]
      by_cases c2 : 64 < (ks.length : Int) * n
      · rw [if_pos c2]
      · rw [if_neg c2, show (ks.length : Int) * n = 64 by omega]
  have s0 : spec_l6Filter.f (k + 4) ks n = some ((waysOf n : Int), bits0 ks n) := by
    unfold spec_l6Filter.f
    rw [← s1, w64 (x := n * 69) (by omega) (by omega), Int.tdiv_eq_ediv_of_nonneg (by omega), w64 (x := n * 69 / 100) (by omega) (by omega)]
    clear s1 s2 s3 e
    unfold waysOf mn mx
    simp only [spec_l6Filter.j0]
    by_cases c : n * 69 / 100 < 1
    · rw [if_pos c, if_neg (by omega), if_neg (show ¬ (1 : Int) < n * 69 / 100 by omega), if_pos (show (1 : Int) < 8 by decide)]
      rfl
    · rw [if_neg c]
      by_cases c8 : n * 69 / 100 > 8
      · rw [if_pos c8, if_pos (show (1 : Int) < n * 69 / 100 by omega), if_neg (show ¬ n * 69 / 100 < 8 by omega)]
        rfl
      · rw [if_neg c8]
        by_cases c1 : 1 < n * 69 / 100
        · rw [if_pos c1]
          by_cases c9 : n * 69 / 100 < 8
          · rw [if_pos c9, Int.toNat_of_nonneg (by omega)]
          · rw [if_neg c9, show n * 69 / 100 = 8 by omega]
            rfl
        · rw [if_neg c1, show n * 69 / 100 = 1 by omega, if_pos (show (1 : Int) < 8 by decide)]
          rfl
  rw [s0]
  rfl

/-! ### it may have every key -/
theorem bits0_length (ks : List ByteArray) (n : Int) : (bits0 ks n).length = bytesOf (ks.length : Int) n := by
  unfold bits0
  rw [putKeys_length, List.length_replicate]

theorem index_ok (ps bs : List Int) (w : Int) (hps : ps.length ≤ 8) (hm : ∀ p ∈ ps, 0 ≤ p ∧ p < 8 * (bs.length : Int)) (hbl : bs.length ≤ 200) (hh : ∀ p ∈ ps, has bs p) (d : Nat) : ∀ (k j : Nat), j + d = ps.length → d < k →
    slices_IndexFunc_int_int_with_impl_MayHave_1.l0 k ps (ps.length : Int) (j : Int) w bs = some (-1) := by
  induction d with
  | zero =>
    intro k j hj hk
    obtain ⟨k, rfl⟩ : ∃ m, k = m + 1 := ⟨k - 1, by omega⟩
    simp only [slices_IndexFunc_int_int_with_impl_MayHave_1.l0]
    rw [if_neg (by omega)]
  | succ d ih =>
    intro k j hj hk
    obtain ⟨k, rfl⟩ : ∃ m, k = m + 1 := ⟨k - 1, by omega⟩
    simp only [slices_IndexFunc_int_int_with_impl_MayHave_1.l0]
    rw [if_pos (by omega), if_pos (by omega), if_pos (by omega)]
    have hin := rd_mem (l := ps) (i := (j : Int)) (by omega) (by omega)
    have hr := hm _ hin
    have hv := hh _ hin
    unfold impl_MayHave_1.f
    rw [Int.tdiv_eq_ediv_of_nonneg hr.1, Int.tmod_eq_emod_of_nonneg hr.1, w64 (x := rd ps (j : Int) / 8) (by omega) (by omega)]
    rw [if_pos (by omega), if_pos (by omega), if_pos (by omega), Option.bind_some]
    have hz : (Go.bits .and .u8 (shr .u8 (rd bs (rd ps (j : Int) / 8)) (rd ps (j : Int) % 8)) 1 == 0) = false := by
      exact beq_eq_false_iff_ne.2 hv
    rw [hz, if_neg (by decide), show wrap64 ((j : Int) + 1) = ((j + 1 : Nat) : Int) from by rw [w64 (by omega) (by omega)]; omega]
    exact ih k (j + 1) (by omega) (by omega)

theorem goodFilter_ok {w : Nat} {bs : List Int} (w1 : 1 ≤ w) (w8 : w ≤ 8) (h1 : 1 ≤ bs.length) (h2 : bs.length ≤ 200) : impl_GoodFilter.f (w : Int) bs = some true := by
  unfold impl_GoodFilter.f
  rw [within_ok, Option.bind_some, show decide (1 ≤ (w : Int) ∧ (w : Int) ≤ 8) = true from decide_eq_true ⟨by omega, by omega⟩, if_pos rfl]
  rw [within_ok, Option.bind_some, show decide (1 ≤ (bs.length : Int) ∧ (bs.length : Int) ≤ 200) = true from decide_eq_true ⟨by omega, by omega⟩]

theorem mayHave_ok {ks : List ByteArray} (hsz : ∀ t ∈ ks, t.size ≤ 100) {n : Int} {s : ByteArray} (hs : s ∈ ks) {k : Nat} (hk : 100 < k) :
    impl_MayHave.f k (waysOf n : Int) (bits0 ks n) s = some true := by
  have hw := ways_b n
  have hl := bytes_b (ks.length : Int) n
  have el := bits0_length ks n
  unfold impl_MayHave.f
  rw [goodFilter_ok hw.1 hw.2 (by omega) (by omega), Option.bind_some, if_pos rfl]
  rw [implPlaces_ok (hsz s hs) (by omega) (by omega) hw.2 hk, Option.bind_some, el]
  have hlen : (plOf s (waysOf n) (bytesOf (ks.length : Int) n)).length = waysOf n := pl_length _ _ _ _ _
  unfold slices_ContainsFunc_int_int_with_impl_MayHave_1.f slices_IndexFunc_int_int_with_impl_MayHave_1.f
  have e := index_ok (plOf s (waysOf n) (bytesOf (ks.length : Int) n)) (bits0 ks n) (waysOf n : Int) (by omega) (by rw [el]; exact plOf_mem _ _ _ hl.1) (by omega) (by
    intro p hp
    have := putKeys_has (waysOf n) ks (List.replicate (bytesOf (ks.length : Int) n) 0) (replicate_bytes _) (by rw [List.length_replicate]; exact hl.1) s hs p (by rw [List.length_replicate]; exact hp)
    exact this) (waysOf n) k 0 (by omega) (by omega)
  rw [show ((0 : Nat) : Int) = 0 from rfl] at e
  rw [e]
  rfl

theorem clone_ok (l : List Int) (h : l.length < 140737488355328) : slices_Clone_byte_byte.f l = some l := by
  unfold slices_Clone_byte_byte.f
  rw [Option.bind_some, if_pos (by rw [List.length_nil]; omega), List.nil_append]

theorem end_ok {w : Nat} {bs : List Int} (w1 : 1 ≤ w) (w8 : w ≤ 8) (h1 : 1 ≤ bs.length) (h2 : bs.length ≤ 200) :
    impl_FilterBytes.f (w : Int) bs = some ((w : Int) :: bs, true) ∧ impl_ReadFilter.f ((w : Int) :: bs) = some ((w : Int), bs, true) := by
  have hg := goodFilter_ok w1 w8 h1 h2
  constructor
  · unfold impl_FilterBytes.f
    rw [hg, Option.bind_some, if_pos rfl, Option.bind_some, if_pos (by rw [List.length_singleton]; omega), show (w : Int) % 256 = w by omega]
    rfl
  · unfold impl_ReadFilter.f
    have hc : (((w : Int) :: bs).length : Int) = (bs.length : Int) + 1 := by rw [List.length_cons]; omega
    rw [hc, if_neg (by omega), if_pos (by omega), if_pos (by omega), List.drop_one, List.tail_cons, clone_ok bs (by omega), Option.bind_some]
    have hr : rd ((w : Int) :: bs) 0 = (w : Int) := rfl
    rw [hr, w64 (x := (w : Int)) (by omega) (by omega), hg, Option.bind_some, if_pos rfl]

theorem loop_ok {ks : List ByteArray} (hks : ks.length ≤ 100) (hsz : ∀ t ∈ ks, t.size ≤ 100) {n : Int} (d : Nat) : ∀ (k i : Nat), i + d = ks.length → 200 + d < k →
    laws_FnFilters.l0 k ks (ks.length : Int) (i : Int) (waysOf n : Int) (bits0 ks n) = some true := by
  induction d with
  | zero =>
    intro k i hi hk
    obtain ⟨k, rfl⟩ : ∃ m, k = m + 1 := ⟨k - 1, by omega⟩
    simp only [laws_FnFilters.l0]
    rw [if_neg (by omega)]
    have hw := ways_b n
    have hl := bytes_b (ks.length : Int) n
    have el := bits0_length ks n
    obtain ⟨ea, eb⟩ := end_ok (bs := bits0 ks n) hw.1 hw.2 (by omega) (by omega)
    rw [ea, Option.bind_some]; dsimp only
    rw [eb, Option.bind_some]; dsimp only
    rw [if_pos rfl, if_pos rfl, if_pos rfl]
    simp
  | succ d ih =>
    intro k i hi hk
    obtain ⟨k, rfl⟩ : ∃ m, k = m + 1 := ⟨k - 1, by omega⟩
    simp only [laws_FnFilters.l0]
    rw [if_pos (by omega), if_pos (by omega), if_pos (by omega)]
    rw [mayHave_ok hsz (rdOf_mem (by omega) (by omega)) (by omega), Option.bind_some, if_pos rfl, show wrap64 ((i : Int) + 1) = ((i + 1 : Nat) : Int) from by rw [w64 (by omega) (by omega)]; omega]
    exact ih k (i + 1) (by omega) (by omega)

theorem none_ok (k : Nat) (ks : List ByteArray) : laws_FnFilters.j0 (k + 1) ks false false 0 ([] : List Int) = some true := by
  simp only [laws_FnFilters.j0]
  rw [if_neg (by decide), if_neg (by decide)]

theorem FnFilters : laws_FnFilters.Pure := by
  intro l0 _ hb0 hw0
  have h0 := Bytes.of_wf hw0
  refine ⟨3000, ?_⟩
  unfold laws_FnFilters.f
  by_cases hs : (l0.length : Int) > 1048576
  · rw [if_pos hs]
  · rw [if_neg hs]
    obtain ⟨ks, n, e, hl, hsz, n0, n1⟩ := draw_ok h0 3000 (by omega)
    rw [e, Option.bind_some]; dsimp only
    by_cases hc : ks.length ≤ 100 ∧ 1 ≤ n ∧ n ≤ 20
    · obtain ⟨c1, c2, c3⟩ := hc
      rw [implOf_ok c1 hsz c2 c3 (by omega), Option.bind_some]; dsimp only
      rw [specOf_ok c1 hsz c2 c3 (by omega), Option.bind_some]; dsimp only
      rw [if_neg (by decide), if_pos rfl, show ((strOfNums (bits0 ks n)).toList != (strOfNums (bits0 ks n)).toList) = false from bne_self_eq_false _]
      have h3 : laws_FnFilters.j0 (2999 + 1) ks true false (waysOf n : Int) (bits0 ks n) = some true := by
        simp only [laws_FnFilters.j0]
        rw [if_neg (by decide), if_pos trivial]
        have el := loop_ok (n := n) c1 hsz ks.length 2999 0 (by omega) (by omega)
        exact el
      exact h3
    · have ei : impl_FilterOf.f 3000 ks n = some (0, ([] : List Int), false) := by
        unfold impl_FilterOf.f
        by_cases c1 : ks.length ≤ 100
        · rw [if_neg (by omega), within_ok, Option.bind_some, show decide (1 ≤ n ∧ n ≤ 20) = false from decide_eq_false (fun h => hc ⟨c1, h⟩)]
          show impl_FilterOf.j0 (2999 + 1) ks n true = _
          simp only [impl_FilterOf.j0]
          rw [if_pos trivial]
        · rw [if_pos (by omega)]
          show impl_FilterOf.j0 (2999 + 1) ks n true = _
          simp only [impl_FilterOf.j0]
          rw [if_pos trivial]
      have es : spec_FilterOf.f 3000 ks n = some (0, ([] : List Int), false) := by
        unfold spec_FilterOf.f
        by_cases c1 : ks.length ≤ 100
        · rw [if_neg (by omega), l1In_ok, Option.bind_some, show decide (1 ≤ n ∧ n ≤ 20) = false from decide_eq_false (fun h => hc ⟨c1, h⟩), if_neg (by decide)]
        · rw [if_pos (by omega)]
      rw [ei, Option.bind_some]; dsimp only
      rw [es, Option.bind_some]; dsimp only
      rw [if_neg (by decide), if_pos rfl, show ((strOfNums ([] : List Int)).toList != (strOfNums ([] : List Int)).toList) = false from bne_self_eq_false _]
      exact none_ok 2999 ks

end Go.Proofs.Ythliooccgclbjaa.Pure
