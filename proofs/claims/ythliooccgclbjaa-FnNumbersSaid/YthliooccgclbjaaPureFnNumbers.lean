/- A number comes back from its bytes, wherever it begins, for drawn numbers: FnNumbers answers true at every input. No conditions. -/
import Derived.Test.YthliooccgclbjaaLemCur
import Derived.Test.YthliooccgclbjaaLemFixed
import Derived.Test.YthliooccgclbjaaPf3
namespace Go.Proofs.Ythliooccgclbjaa.Pure
open Go.RowKit Go.Proofs.Ythliooccgclbjaa.P Go.Proofs.YthliooccgclbjaaW.PrintWords Go.Proofs.YthliooccgclbjaaW.PrintLast Go.Proofs.YthliooccgclbjaaW.PrintMore Go.Proofs.Ythliooccgclbjaa.Lem

theorem specPutVar_l0 : ∀ (k : Nat) (x : Int) (acc : List Int), spec_PutVar.l0 k x acc = impl_PutVar.l0 k x acc := by
  intro k
  induction k with
  | zero => intro x acc; rfl
  | succ k ih =>
    intro x acc
    simp only [spec_PutVar.l0, impl_PutVar.l0, ih]

theorem drawPutVar {l : List Int} (hl : Bytes l) (k : Nat) (hk : 8 < k) : ∃ n : Nat, n < 18446744073709551616 ∧ spec_DrawPutVar.f k l = some (n : Int) := by
  unfold spec_DrawPutVar.f
  obtain ⟨b, a1, s1, e1, h1, h1'⟩ := one_ok hl 0 0 2 (by omega) (by omega)
  rw [e1]
  rw [Option.bind_some]; try dsimp only
  cases b with
  | true =>
    rw [if_pos rfl]
    obtain ⟨r, a2, s2, e2, _, _, r0, r1, _⟩ := pick_ok hl a1 s1 300 (by omega) (by omega)
    rw [e2]
    rw [Option.bind_some]; try dsimp only
    have := r1 (by omega)
    rw [wu64 r0 (by omega)]
    exact ⟨r.toNat, by omega, by congr 1; omega⟩
  | false =>
    rw [if_neg (by decide)]
    obtain ⟨r, a2, s2, e2, g2, g2'⟩ := wide_ok hl k a1 s1 hk (by omega) (by omega)
    rw [e2]
    rw [Option.bind_some]; try dsimp only
    obtain ⟨q, a3, s3, e3, _, _, q0, q1, _⟩ := pick_ok hl a2 s2 64 (by omega) (by omega)
    rw [e3]
    rw [Option.bind_some]; try dsimp only
    rw [if_pos (wu64_lo q)]
    have h0 := shr_lo (k := .u64) (y := IntKind.u64.wrap q) (wu64_lo r)
    have h1 := shr_hi (k := .u64) (y := IntKind.u64.wrap q) (wu64_lo r) (wu64_hi r)
    exact ⟨(shr .u64 (IntKind.u64.wrap r) (IntKind.u64.wrap q)).toNat, by omega, by congr 1; omega⟩

theorem w64_range (x : Int) : -9223372036854775808 ≤ wrap64 x ∧ wrap64 x < 9223372036854775808 := by unfold wrap64; omega
theorem i64_range (x : Int) : -9223372036854775808 ≤ IntKind.i64.wrap x ∧ IntKind.i64.wrap x < 9223372036854775808 := by
  have e : IntKind.i64.wrap x = wrap64 x := i64_w x
  rw [e]; exact w64_range x

theorem wide_range {l : List Int} (hl : Bytes l) (d : Nat) : ∀ (k : Nat) (n i at_ s r a' s' : Int), i + d = 8 → 0 ≤ at_ → at_ + d < 4611686018427387900 → d < k → n < 9223372036854775808 →
    spec_l1Cur_wide.l0 k n i l at_ s = some (r, a', s') → r < 9223372036854775808 := by
  induction d with
  | zero =>
    intro k n i at_ s r a' s' hi h0 h1 hk hn h
    obtain ⟨k, rfl⟩ : ∃ m, k = m + 1 := ⟨k - 1, by omega⟩
    simp only [spec_l1Cur_wide.l0] at h
    rw [if_neg (by omega)] at h
    simp only [Option.some.injEq, Prod.mk.injEq] at h
    omega
  | succ d ih =>
    intro k n i at_ s r a' s' hi h0 h1 hk hn h
    obtain ⟨k, rfl⟩ : ∃ m, k = m + 1 := ⟨k - 1, by omega⟩
    simp only [spec_l1Cur_wide.l0] at h
    rw [if_pos (by omega)] at h
    obtain ⟨q, s1, e, _, _⟩ := next_ok hl at_ s h0 (by omega)
    rw [e] at h
    rw [Option.bind_some] at h; dsimp only at h
    rw [show wrap64 (i + 1) = i + 1 from w64 (by omega) (by omega)] at h
    exact ih k _ (i + 1) (at_ + 1) s1 r a' s' (by omega) (by omega) (by omega) (by omega) (i64_range _).2 h

theorem shr_range {k : IntKind} {x y : Int} (h1 : x < 9223372036854775808) : shr k x y < 9223372036854775808 := by
  unfold shr
  have hp : (0 : Int) < 2 ^ min y.toNat k.bits := Int.pow_pos (by decide)
  rcases Int.lt_or_le x 0 with h | h
  · have := Int.ediv_neg_of_neg_of_pos h hp
    omega
  · have := Int.ediv_le_self (2 ^ min y.toNat k.bits) h
    omega

theorem shl_range {x y : Int} : shl .i64 x y < 9223372036854775808 := (i64_range _).2

theorem sized_ok {l : List Int} (hl : Bytes l) (k : Nat) (at_ s : Int) (hk : 8 < k) (h0 : 0 ≤ at_) (h1 : at_ < 4611686018427380000) :
    ∃ r a' s', spec_l1Cur_sized.f k l at_ s = some (r, a', s') ∧ at_ ≤ a' ∧ a' ≤ at_ + 40 ∧ r < 9223372036854775808 := by
  unfold spec_l1Cur_sized.f
  obtain ⟨p, a1, s1, e1, g1, g1', p0, p1, _⟩ := pick_ok hl at_ s 5 h0 (by omega)
  have hp := p1 (by omega)
  rw [e1]
  rw [Option.bind_some]; try dsimp only
  obtain ⟨q, a2, s2, e2, g2, g2', q0, q1, _⟩ := pick_ok hl a1 s1 8 (by omega) (by omega)
  rw [e2]
  rw [Option.bind_some]; try dsimp only
  by_cases c0 : q = 0
  · rw [if_pos c0]
    obtain ⟨r, a3, s3, e3, g3, g3', r0, r1, _⟩ := pick_ok hl a2 s2 300 (by omega) (by omega)
    have hr := r1 (by omega)
    rw [e3]
    rw [Option.bind_some]; try dsimp only
    obtain ⟨b, a4, s4, e4, g4, g4'⟩ := one_ok hl a3 s3 3 (by omega) (by omega)
    rw [e4]
    rw [Option.bind_some]; try dsimp only
    cases b
    · exact ⟨_, _, _, by rw [if_neg (by decide)], by omega, by omega, by omega⟩
    · exact ⟨_, _, _, by rw [if_pos rfl], by omega, by omega, (w64_range _).2⟩
  · rw [if_neg c0]
    by_cases c1 : q = 1
    · rw [if_pos c1]
      obtain ⟨r, a3, s3, e3, g3, g3'⟩ := wide_ok hl k a2 s2 hk (by omega) (by omega)
      have hr : r < 9223372036854775808 := wide_range hl 8 k 0 0 a2 s2 r a3 s3 (by omega) (by omega) (by omega) hk (by decide) e3
      rw [e3]
      rw [Option.bind_some]; try dsimp only
      obtain ⟨y, a4, s4, e4, g4, g4', _⟩ := pick_ok hl a3 s3 64 (by omega) (by omega)
      rw [e4]
      rw [Option.bind_some]; try dsimp only
      rw [if_pos (wu64_lo y)]
      obtain ⟨b, a5, s5, e5, g5, g5'⟩ := one_ok hl a4 s4 3 (by omega) (by omega)
      rw [e5]
      rw [Option.bind_some]; try dsimp only
      cases b
      · exact ⟨_, _, _, by rw [if_neg (by decide)], by omega, by omega, shr_range hr⟩
      · exact ⟨_, _, _, by rw [if_pos rfl], by omega, by omega, (w64_range _).2⟩
    · rw [if_neg c1]
      by_cases c2 : q = 2
      · rw [if_pos c2]
        obtain ⟨y, a4, s4, e4, g4, g4', _⟩ := pick_ok hl a2 s2 64 (by omega) (by omega)
        rw [e4]
        rw [Option.bind_some]; try dsimp only
        rw [if_pos (wu64_lo y)]
        obtain ⟨b, a5, s5, e5, g5, g5'⟩ := one_ok hl a4 s4 3 (by omega) (by omega)
        rw [e5]
        rw [Option.bind_some]; try dsimp only
        cases b
        · exact ⟨_, _, _, by rw [if_neg (by decide)], by omega, by omega, shl_range⟩
        · exact ⟨_, _, _, by rw [if_pos rfl], by omega, by omega, (w64_range _).2⟩
      · rw [if_neg c2]
        by_cases c3 : q = 3
        · rw [if_pos c3]
          obtain ⟨y, a4, s4, e4, g4, g4', _⟩ := pick_ok hl a2 s2 64 (by omega) (by omega)
          rw [e4]
          rw [Option.bind_some]; try dsimp only
          rw [if_pos (wu64_lo y)]
          obtain ⟨b, a5, s5, e5, g5, g5'⟩ := one_ok hl a4 s4 3 (by omega) (by omega)
          rw [e5]
          rw [Option.bind_some]; try dsimp only
          cases b
          · exact ⟨_, _, _, by rw [if_neg (by decide)], by omega, by omega, (w64_range _).2⟩
          · exact ⟨_, _, _, by rw [if_pos rfl], by omega, by omega, (w64_range _).2⟩
        · rw [if_neg c3]
          obtain ⟨b, a5, s5, e5, g5, g5'⟩ := one_ok hl a2 s2 3 (by omega) (by omega)
          rw [e5]
          rw [Option.bind_some]; try dsimp only
          cases b
          · exact ⟨_, _, _, by rw [if_neg (by decide)], by omega, by omega, by omega⟩
          · exact ⟨_, _, _, by rw [if_pos rfl], by omega, by omega, (w64_range _).2⟩

theorem drawPutFixed {l : List Int} (hl : Bytes l) (k : Nat) (hk : 8 < k) : ∃ n many : Int, n < 9223372036854775808 ∧ 0 ≤ many ∧ many ≤ 9 ∧ spec_DrawPutFixed.f k l = some (n, many) := by
  unfold spec_DrawPutFixed.f
  obtain ⟨p, a1, s1, e1, g1, g1', p0, p1, _⟩ := pick_ok hl 0 0 70000 (by omega) (by omega)
  have hp := p1 (by omega)
  rw [e1]
  rw [Option.bind_some]; try dsimp only
  obtain ⟨b, a2, s2, e2, g2, g2'⟩ := one_ok hl a1 s1 3 (by omega) (by omega)
  rw [e2]
  rw [Option.bind_some]; try dsimp only
  cases b
  · rw [if_neg (by decide)]
    obtain ⟨q, a3, s3, e3, _, _, q0, q1, _⟩ := pick_ok hl a2 s2 10 (by omega) (by omega)
    have hq := q1 (by omega)
    rw [e3]
    exact ⟨_, _, by omega, q0, by omega, rfl⟩
  · rw [if_pos rfl]
    obtain ⟨r, a3, s3, e3, g3, g3', hr⟩ := sized_ok hl k a2 s2 hk (by omega) (by omega)
    rw [e3]
    rw [Option.bind_some]; try dsimp only
    obtain ⟨q, a4, s4, e4, _, _, q0, q1, _⟩ := pick_ok hl a3 s3 10 (by omega) (by omega)
    have hq := q1 (by omega)
    rw [e4]
    exact ⟨_, _, hr, q0, by omega, rfl⟩

theorem rest {l1 : List Int} (h1 : Bytes l1) (k : Nat) (hk : 40 < k) : laws_FnNumbers.j0 (k + 1) l1 false = some true := by
  simp only [laws_FnNumbers.j0]
  rw [if_neg (by decide)]
  obtain ⟨n, many, hn, m0, m9, e⟩ := drawPutFixed h1 k (by omega)
  rw [e]
  rw [Option.bind_some]; try dsimp only
  rcases putFixed_ok (k := k) (by omega) n many hn m0 m9 with ⟨ei, es⟩ | ⟨a, m, rfl, rfl, hm1, hm8, ha, ei, es⟩
  · rw [ei, es]
    rfl
  · rw [ei, Option.bind_some, es, Option.bind_some]; dsimp only
    rw [if_neg (by decide), if_pos rfl]
    have := readFixed_ok (k := k) (l := be m a) (at_ := 0) (many := m) (by omega) (be_bytes _ _) (by rw [be_length]; omega) hm1 hm8 (by rw [be_length]; omega)
    rw [show (be m a).drop 0 = be m a from rfl, show (be m a).take m = be m a from List.take_of_length_le (by rw [be_length]; omega), val_be _ _ _ ha] at this
    rw [show ((0 : Nat) : Int) = 0 from rfl] at this
    rw [this, if_pos (by omega)]
    rw [Option.bind_some]; try dsimp only
    rw [if_pos rfl]
    simp

theorem FnNumbers : laws_FnNumbers.Pure := by
  intro l0 l1 _ hb0 hw0 _ hb1 hw1
  have h0 := Bytes.of_wf hw0
  have h1 := Bytes.of_wf hw1
  refine ⟨51, ?_⟩
  unfold laws_FnNumbers.f
  rw [w64 (by omega) (by omega)]
  by_cases hs : (l0.length : Int) + (l1.length : Int) > 1048576
  · rw [if_pos hs]
  · rw [if_neg hs]
    obtain ⟨n, hn, e⟩ := drawPutVar h0 51 (by omega)
    rw [e]
    rw [Option.bind_some]; try dsimp only
    rw [putVar_ok (by omega) hn]
    rw [Option.bind_some]; try dsimp only
    obtain ⟨_, hp2, _⟩ := pvs_bytes 9 n (lt_pow10 hn)
    rw [Option.bind_some, if_pos (show ([] : List Int).length + l1.length < 140737488355328 by rw [List.length_nil]; omega), Option.bind_some, if_pos (show (([] : List Int) ++ l1).length + (pvs n).length < 140737488355328 by rw [List.nil_append]; omega), Option.bind_some]
    have hr := readVar_ok (k := 51) (pre := l1) (post := []) (by omega) hn (by rw [List.append_nil, List.length_append]; omega)
    rw [List.append_nil] at hr
    rw [List.nil_append, hr, Option.bind_some]; try dsimp only
    rw [if_pos rfl, if_pos rfl, if_pos (show ((l1.length + (pvs n).length : Nat) : Int) = ((l1 ++ pvs n).length : Int) by rw [List.length_append])]
    have hsp : spec_PutVar.f 51 (n : Int) = some (pvs n) := by
      unfold spec_PutVar.f
      rw [specPutVar_l0]
      exact putVar_ok (k := 51) (by omega) hn
    rw [hsp, Option.bind_some]
    rw [show ((strOfNums (pvs n)).toList != (strOfNums (pvs n)).toList) = false from bne_self_eq_false _]
    exact rest h1 50 (by omega)

end Go.Proofs.Ythliooccgclbjaa.Pure
