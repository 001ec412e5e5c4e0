/- The statement's own text and the last of the walks that it uses. -/
import Derived.SizedLaws
import Derived.ChangeSlices
import Derived.Test.YthliooccgclbjaaRows
import Derived.WalkKit
import Derived.ProofKit
import Derived.OpenShut
import Derived.ShutString
import Derived.ChangeOld
import Derived.Below
import Derived.Test.YthliooccgclbjaaMFnSums6

/- Both programs tell whether an agg is good, and tell it alike, for aggs in bounds. -/
namespace Go.Proofs.Ythliooccgclbjaa.Lem
open Go.RowKit Go.Proofs.Ythliooccgclbjaa.P Go.Proofs.YthliooccgclbjaaW.PrintWords Go.Proofs.YthliooccgclbjaaW.PrintLast Go.Proofs.YthliooccgclbjaaW.PrintMore

theorem l1In_ok (a b c : Int) : spec_l1In.f a b c = some (decide (b ≤ a ∧ a ≤ c)) := by
  unfold spec_l1In.f
  by_cases h : a ≥ b
  · rw [if_pos h]
    congr 1
    exact decide_eq_decide.2 ⟨fun h' => ⟨h, h'⟩, fun h' => h'.2⟩
  · rw [if_neg h]
    congr 1
    exact (decide_eq_false (fun h' => h h'.1)).symm
theorem isValue_ok (v : Int) : impl_isValue.f v = some (decide (-1000000000 ≤ v ∧ v ≤ 1000000000)) := by
  unfold impl_isValue.f
  rw [within_ok, Option.bind_some]
theorem l4Value_ok (v : Int) : spec_l4Value.f v = some (decide (-1000000000 ≤ v ∧ v ≤ 1000000000)) := by
  unfold spec_l4Value.f
  rw [l1In_ok, Option.bind_some]

/-- An agg in bounds. -/
structure Rg (a : Ag) : Prop where
  c : -4000000000 ≤ a.c ∧ a.c ≤ 4000000000
  s : -4000000000000000000 ≤ a.s ∧ a.s ≤ 4000000000000000000
  mi : -4000000000 ≤ a.mi ∧ a.mi ≤ 4000000000
  ma : -4000000000 ≤ a.ma ∧ a.ma ≤ 4000000000
  len : a.h.length ≤ 8
  nums : ∀ x ∈ a.h, -4000000000 ≤ x ∧ x ≤ 4000000000

theorem Good.rg {a : Ag} (h : Good a) : Rg a := by
  have h0 := h.c0; have h1 := h.c1
  refine ⟨by omega, ?_, ?_, ?_, by rw [h.len]; decide, fun x hx => by have := h.nums x hx; omega⟩
  · by_cases hf : a.f = true
    · rw [h.full hf]; decide
    · have := h.notfull (Bool.eq_false_iff.2 hf)
      omega
  · by_cases hc : a.c = 0
    · have := h.zero hc; omega
    · have := h.some hc; omega
  · by_cases hc : a.c = 0
    · have := h.zero hc; omega
    · have := h.some hc; omega

theorem rd_at0 {l : List Int} {i : Nat} (h : i < l.length) : l.drop i = rd l (i : Int) :: l.drop (i + 1) := by
  rw [List.drop_eq_getElem_cons h]
  unfold Go.Proofs.YthliooccgclbjaaW.PrintWords.rd
  rw [Int.toNat_natCast, List.getD_eq_getElem?_getD, List.getElem?_eq_getElem h]
  rfl

theorem gi_l0 {h : List Int} (hl : h.length ≤ 8) (c s mi ma : Int) (hh : List Int) (f : Bool) (d : Nat) : ∀ (k i : Nat) (x : Int), i + d = h.length → 0 ≤ x → x ≤ 1000000000 * (i : Int) →
    (Nums (h.drop i) → impl_GoodAgg.l0 (k + d) x h (h.length : Int) (i : Int) c s mi ma hh f = impl_GoodAgg.l0 k (x + (h.drop i).sum) h (h.length : Int) (h.length : Int) c s mi ma hh f) ∧
    (¬ Nums (h.drop i) → impl_GoodAgg.l0 (k + d + 1) x h (h.length : Int) (i : Int) c s mi ma hh f = some false) := by
  induction d with
  | zero =>
    intro k i x hi h0 h1
    have hd : h.drop i = [] := List.drop_eq_nil_of_le (by omega)
    have hi' : i = h.length := by omega
    refine ⟨fun _ => ?_, fun hn => ?_⟩
    · rw [hd, List.sum_nil, Int.add_zero, hi']; rfl
    · rw [hd] at hn; exact absurd (fun x hx => by simp at hx) hn
  | succ d ih =>
    intro k i x hi h0 h1
    have hd := rd_at0 (l := h) (i := i) (by omega)
    have e1 : wrap64 ((i : Int) + 1) = ((i + 1 : Nat) : Int) := by rw [w64 (by omega) (by omega)]; omega
    by_cases hw : 0 ≤ rd h (i : Int) ∧ rd h (i : Int) ≤ 1000000000
    · have ew : wrap64 (x + rd h (i : Int)) = x + rd h (i : Int) := w64 (by omega) (by omega)
      obtain ⟨i1, i2⟩ := ih k (i + 1) (x + rd h (i : Int)) (by omega) (by omega) (by omega)
      refine ⟨fun hn => ?_, fun hn => ?_⟩
      · rw [hd] at hn
        rw [show k + (d + 1) = (k + d) + 1 by omega]
        conv => lhs; unfold impl_GoodAgg.l0
        rw [if_pos (by omega), if_pos (by omega), if_pos (by omega), within_ok, decide_eq_true hw, Option.bind_some, if_pos rfl, ew, e1, i1 hn.tail, hd, List.sum_cons, Int.add_assoc]
      · rw [hd] at hn
        have hn' : ¬ Nums (h.drop (i + 1)) := fun hn' => hn (Nums.cons hw.1 hw.2 hn')
        rw [show k + (d + 1) + 1 = (k + d + 1) + 1 by omega]
        conv => lhs; unfold impl_GoodAgg.l0
        rw [if_pos (by omega), if_pos (by omega), if_pos (by omega), within_ok, decide_eq_true hw, Option.bind_some, if_pos rfl, ew, e1, i2 hn']
    · refine ⟨fun hn => ?_, fun _ => ?_⟩
      · rw [hd] at hn; exact absurd hn.head hw
      · rw [show k + (d + 1) + 1 = (k + d + 1) + 1 by omega]
        conv => lhs; unfold impl_GoodAgg.l0
        rw [if_pos (by omega), if_pos (by omega), if_pos (by omega), within_ok, decide_eq_false hw, Option.bind_some, if_neg (by decide)]

theorem gs_l0 {h : List Int} (hl : h.length ≤ 8) (c s mi ma : Int) (hh : List Int) (f : Bool) (d : Nat) : ∀ (k i : Nat) (x : Int), i + d = h.length → 0 ≤ x → x ≤ 1000000000 * (i : Int) →
    (Nums (h.drop i) → spec_GoodAgg.l0 (k + d) x h (h.length : Int) (i : Int) c s mi ma hh f = spec_GoodAgg.l0 k (x + (h.drop i).sum) h (h.length : Int) (h.length : Int) c s mi ma hh f) ∧
    (¬ Nums (h.drop i) → spec_GoodAgg.l0 (k + d + 1) x h (h.length : Int) (i : Int) c s mi ma hh f = some false) := by
  induction d with
  | zero =>
    intro k i x hi h0 h1
    have hd : h.drop i = [] := List.drop_eq_nil_of_le (by omega)
    have hi' : i = h.length := by omega
    refine ⟨fun _ => ?_, fun hn => ?_⟩
    · rw [hd, List.sum_nil, Int.add_zero, hi']; rfl
    · rw [hd] at hn; exact absurd (fun x hx => by simp at hx) hn
  | succ d ih =>
    intro k i x hi h0 h1
    have hd := rd_at0 (l := h) (i := i) (by omega)
    have e1 : wrap64 ((i : Int) + 1) = ((i + 1 : Nat) : Int) := by rw [w64 (by omega) (by omega)]; omega
    by_cases hw : 0 ≤ rd h (i : Int) ∧ rd h (i : Int) ≤ 1000000000
    · have ew : wrap64 (x + rd h (i : Int)) = x + rd h (i : Int) := w64 (by omega) (by omega)
      obtain ⟨i1, i2⟩ := ih k (i + 1) (x + rd h (i : Int)) (by omega) (by omega) (by omega)
      refine ⟨fun hn => ?_, fun hn => ?_⟩
      · rw [hd] at hn
        rw [show k + (d + 1) = (k + d) + 1 by omega]
        conv => lhs; unfold spec_GoodAgg.l0
        rw [if_pos (by omega), if_pos (by omega), if_pos (by omega), l1In_ok, decide_eq_true hw, Option.bind_some, if_pos rfl, ew, e1, i1 hn.tail, hd, List.sum_cons, Int.add_assoc]
      · rw [hd] at hn
        have hn' : ¬ Nums (h.drop (i + 1)) := fun hn' => hn (Nums.cons hw.1 hw.2 hn')
        rw [show k + (d + 1) + 1 = (k + d + 1) + 1 by omega]
        conv => lhs; unfold spec_GoodAgg.l0
        rw [if_pos (by omega), if_pos (by omega), if_pos (by omega), l1In_ok, decide_eq_true hw, Option.bind_some, if_pos rfl, ew, e1, i2 hn']
    · refine ⟨fun hn => ?_, fun _ => ?_⟩
      · rw [hd] at hn; exact absurd hn.head hw
      · rw [show k + (d + 1) + 1 = (k + d + 1) + 1 by omega]
        conv => lhs; unfold spec_GoodAgg.l0
        rw [if_pos (by omega), if_pos (by omega), if_pos (by omega), l1In_ok, decide_eq_false hw, Option.bind_some, if_neg (by decide)]

/-- The answer of a test. -/
def Tells (p : Prop) (r : Option Bool) : Prop := (p → r = some true) ∧ (¬ p → r = some false)
theorem Tells.yes {p : Prop} (h : p) : Tells p (some true) := ⟨fun _ => rfl, fun h' => absurd h h'⟩
theorem Tells.no {p : Prop} (h : ¬ p) : Tells p (some false) := ⟨fun h' => absurd h' h, fun _ => rfl⟩

theorem impl_good {a : Ag} (hr : Rg a) {k : Nat} (hk : 20 < k) : Tells (Good a) (impl_GoodAgg.f k a.c a.s a.mi a.ma a.h a.f) := by
  obtain ⟨c, s, mi, ma, h, f⟩ := a
  obtain ⟨r1, r2, r3, r4, r5, r6⟩ := hr
  simp only at r1 r2 r3 r4 r5 r6 ⊢
  obtain ⟨k, rfl⟩ : ∃ m, k = m + 15 := ⟨k - 15, by omega⟩
  unfold impl_GoodAgg.f
  rw [within_ok, Option.bind_some]
  by_cases hc : 0 ≤ c ∧ c ≤ 1000000000
  · rw [decide_eq_true hc, if_pos rfl]
    rw [show k + 15 = (k + 14) + 1 from rfl, impl_GoodAgg.j0]
    by_cases hl : h.length = 8
    · rw [if_neg (by simp [hl])]
      have hs := gi_l0 (h := h) (by omega) c s mi ma h f 8
      by_cases hn : Nums h
      · obtain ⟨i1, _⟩ := hs (k + 6) 0 0 (by omega) (by omega) (by omega)
        have i1' := i1 (by rw [List.drop_zero]; exact hn)
        rw [List.drop_zero, Int.zero_add] at i1'
        have e0 : ((0 : Nat) : Int) = 0 := rfl
        rw [e0] at i1'
        rw [show k + 14 = k + 6 + 8 from rfl, i1']
        have hsum := hn.sum_bound
        conv => arg 2; unfold impl_GoodAgg.l0
        rw [if_neg (by omega)]
        have em : wrap64 (-1000000000 * c) = -1000000000 * c := w64 (by omega) (by omega)
        have ep : wrap64 (1000000000 * c) = 1000000000 * c := w64 (by omega) (by omega)
        have hj3 : ∀ (b : Bool), (b = false → (f = true → s = 0) ∧ (f = false → h.sum = c ∧ -1000000000 * c ≤ s ∧ s ≤ 1000000000 * c)) → (b = true → ¬ Good ⟨c, s, mi, ma, h, f⟩) → Tells (Good ⟨c, s, mi, ma, h, f⟩) (impl_GoodAgg.j3 (k + 4) h.sum b c s mi ma h f) := by
          intro b hb hb'
          rw [show k + 4 = (k + 3) + 1 from rfl, impl_GoodAgg.j3]
          by_cases b0 : b = true
          · rw [if_pos b0]; exact .no (hb' b0)
          obtain ⟨q1, q2⟩ := hb (Bool.eq_false_iff.2 b0)
          rw [if_neg b0]
          by_cases c0 : c = 0
          · rw [if_pos c0]
            by_cases m0 : mi = 0
            · rw [if_pos m0]
              by_cases m1 : ma = 0
              · rw [if_pos m1]
                by_cases s0 : h.sum = 0
                · rw [if_pos s0]
                  cases f
                  · exact .yes ⟨hc.1, hc.2, hl, hn, q1, q2, fun _ => ⟨m0, m1, s0, rfl⟩, fun h' => absurd c0 h'⟩
                  · exact .no (fun g => absurd (g.zero c0).2.2.2 (by simp))
                · rw [if_neg s0]; exact .no (fun g => s0 (g.zero c0).2.2.1)
              · rw [if_neg m1]; exact .no (fun g => m1 (g.zero c0).2.1)
            · rw [if_neg m0]; exact .no (fun g => m0 (g.zero c0).1)
          · rw [if_neg c0, isValue_ok, Option.bind_some]
            by_cases v1 : -1000000000 ≤ mi ∧ mi ≤ 1000000000
            · rw [decide_eq_true v1, if_pos rfl, isValue_ok, Option.bind_some]
              by_cases v2 : -1000000000 ≤ ma ∧ ma ≤ 1000000000
              · rw [decide_eq_true v2, if_pos rfl]
                by_cases v3 : mi ≤ ma
                · rw [decide_eq_true v3]
                  exact .yes ⟨hc.1, hc.2, hl, hn, q1, q2, fun h' => absurd h' c0, fun _ => ⟨v1.1, v3, v2.2⟩⟩
                · rw [decide_eq_false v3]; exact .no (fun g => v3 (g.some c0).2.1)
              · rw [decide_eq_false v2, if_neg (by decide)]
                exact .no (fun g => v2 (by have := g.some c0; simp only at this; omega))
            · rw [decide_eq_false v1, if_neg (by decide)]
              exact .no (fun g => v1 (by have := g.some c0; simp only at this; omega))
        cases f
        · rw [if_neg (by decide), impl_GoodAgg.j2, if_neg (by decide), if_neg (by decide)]
          by_cases hsc : h.sum = c
          · rw [if_pos hsc, within_ok, Option.bind_some, em, ep]
            by_cases hs' : -1000000000 * c ≤ s ∧ s ≤ 1000000000 * c
            · rw [decide_eq_true hs']
              exact hj3 false (fun _ => ⟨fun h' => absurd h' (by decide), fun _ => ⟨hsc, hs'.1, hs'.2⟩⟩) (fun h' => absurd h' (by decide))
            · rw [decide_eq_false hs']
              exact hj3 true (fun h' => absurd h' (by decide)) (fun _ g => hs' (g.notfull rfl).2)
          · rw [if_neg hsc]
            exact hj3 true (fun h' => absurd h' (by decide)) (fun _ g => hsc (g.notfull rfl).1)
        · rw [if_pos rfl, impl_GoodAgg.j2]
          by_cases s0 : s = 0
          · rw [if_neg (by simp [s0]), if_pos rfl]
            exact hj3 false (fun _ => ⟨fun _ => s0, fun h' => absurd h' (by simp)⟩) (fun h' => absurd h' (by decide))
          · rw [if_pos (by simp [s0])]
            exact .no (fun g => s0 (g.full rfl))
      · obtain ⟨_, i2⟩ := hs (k + 5) 0 0 (by omega) (by omega) (by omega)
        have i2' := i2 (by rw [List.drop_zero]; exact hn)
        have e0 : ((0 : Nat) : Int) = 0 := rfl
        rw [e0] at i2'
        rw [show k + 14 = k + 5 + 8 + 1 from rfl, i2']
        exact .no (fun g => hn g.nums)
    · rw [if_pos (by simp only [bne_iff_ne, ne_eq]; omega)]
      exact .no (fun g => hl g.len)
  · rw [decide_eq_false hc, if_neg (by decide)]
    rw [show k + 15 = (k + 14) + 1 from rfl, impl_GoodAgg.j0, if_pos rfl]
    exact .no (fun g => hc ⟨g.c0, g.c1⟩)

theorem spec_good {a : Ag} (hr : Rg a) {k : Nat} (hk : 20 < k) : Tells (Good a) (spec_GoodAgg.f k a.c a.s a.mi a.ma a.h a.f) := by
  obtain ⟨c, s, mi, ma, h, f⟩ := a
  obtain ⟨r1, r2, r3, r4, r5, r6⟩ := hr
  simp only at r1 r2 r3 r4 r5 r6 ⊢
  obtain ⟨k, rfl⟩ : ∃ m, k = m + 15 := ⟨k - 15, by omega⟩
  unfold spec_GoodAgg.f
  rw [l1In_ok, Option.bind_some]
  by_cases hc : 0 ≤ c ∧ c ≤ 1000000000
  · rw [decide_eq_true hc, if_pos rfl]
    rw [show k + 15 = (k + 14) + 1 from rfl, spec_GoodAgg.j0]
    by_cases hl : h.length = 8
    · rw [if_neg (by simp [hl])]
      have hs := gs_l0 (h := h) (by omega) c s mi ma h f 8
      by_cases hn : Nums h
      · obtain ⟨i1, _⟩ := hs (k + 6) 0 0 (by omega) (by omega) (by omega)
        have i1' := i1 (by rw [List.drop_zero]; exact hn)
        rw [List.drop_zero, Int.zero_add] at i1'
        have e0 : ((0 : Nat) : Int) = 0 := rfl
        rw [e0] at i1'
        rw [show k + 14 = k + 6 + 8 from rfl, i1']
        have hsum := hn.sum_bound
        conv => arg 2; unfold spec_GoodAgg.l0
        rw [if_neg (by omega)]
        have em : wrap64 (-1000000000 * c) = -1000000000 * c := w64 (by omega) (by omega)
        have ep : wrap64 (1000000000 * c) = 1000000000 * c := w64 (by omega) (by omega)
        by_cases c0 : c = 0
        · rw [if_pos c0]
          by_cases s0 : h.sum = 0
          · rw [if_pos s0]
            by_cases m0 : mi = 0
            · rw [if_pos m0]
              by_cases m1 : ma = 0
              · rw [if_pos m1]
                by_cases t0 : s = 0
                · rw [if_pos t0]
                  cases f
                  · exact .yes ⟨hc.1, hc.2, hl, hn, fun _ => t0, fun _ => ⟨by simp only; omega, by simp only; omega, by simp only; omega⟩, fun _ => ⟨m0, m1, s0, rfl⟩, fun h' => absurd c0 h'⟩
                  · exact .no (fun g => absurd (g.zero c0).2.2.2 (by simp))
                · rw [if_neg t0]
                  exact .no (fun g => t0 (by have h1 := g.notfull (g.zero c0).2.2.2; simp only at h1; omega))
              · rw [if_neg m1]; exact .no (fun g => m1 (g.zero c0).2.1)
            · rw [if_neg m0]; exact .no (fun g => m0 (g.zero c0).1)
          · rw [if_neg s0]; exact .no (fun g => s0 (g.zero c0).2.2.1)
        · have hj2 : ∀ (b : Bool), (b = false → -1000000000 ≤ mi ∧ mi ≤ ma ∧ ma ≤ 1000000000) → (b = true → ¬ Good ⟨c, s, mi, ma, h, f⟩) → Tells (Good ⟨c, s, mi, ma, h, f⟩) (spec_GoodAgg.j2 (k + 5) h.sum b c s mi ma h f) := by
            intro b hb hb'
            rw [show k + 5 = (k + 4) + 1 from rfl, spec_GoodAgg.j2]
            by_cases b0 : b = true
            · rw [if_pos b0]; exact .no (hb' b0)
            have hv := hb (Bool.eq_false_iff.2 b0)
            rw [if_neg b0]
            cases f
            · rw [if_neg (by decide)]
              by_cases hsc : h.sum = c
              · rw [if_pos hsc, l1In_ok, Option.bind_some, em, ep]
                by_cases hs' : -1000000000 * c ≤ s ∧ s ≤ 1000000000 * c
                · rw [decide_eq_true hs']
                  exact .yes ⟨hc.1, hc.2, hl, hn, fun h' => absurd h' (by simp), fun _ => ⟨hsc, hs'.1, hs'.2⟩, fun h' => absurd h' c0, fun _ => hv⟩
                · rw [decide_eq_false hs']; exact .no (fun g => hs' (g.notfull rfl).2)
              · rw [if_neg hsc]; exact .no (fun g => hsc (g.notfull rfl).1)
            · rw [if_pos rfl]
              by_cases t0 : s = 0
              · rw [show (s == 0) = true from beq_iff_eq.2 t0]
                exact .yes ⟨hc.1, hc.2, hl, hn, fun _ => t0, fun h' => absurd h' (by simp), fun h' => absurd h' c0, fun _ => hv⟩
              · rw [show (s == 0) = false from beq_eq_false_iff_ne.2 t0]; exact .no (fun g => t0 (g.full rfl))
          rw [if_neg c0, l4Value_ok, Option.bind_some]
          by_cases v1 : -1000000000 ≤ mi ∧ mi ≤ 1000000000
          · rw [decide_eq_true v1, if_pos rfl, l4Value_ok, Option.bind_some]
            by_cases v2 : -1000000000 ≤ ma ∧ ma ≤ 1000000000
            · rw [decide_eq_true v2, if_pos rfl]
              by_cases v3 : mi > ma
              · rw [decide_eq_true v3]
                exact hj2 true (fun h' => absurd h' (by decide)) (fun _ g => by have := g.some c0; simp only at this; omega)
              · rw [decide_eq_false v3]
                exact hj2 false (fun _ => ⟨v1.1, by omega, v2.2⟩) (fun h' => absurd h' (by decide))
            · rw [decide_eq_false v2, if_neg (by decide)]
              exact hj2 true (fun h' => absurd h' (by decide)) (fun _ g => v2 (by have := g.some c0; simp only at this; omega))
          · rw [decide_eq_false v1, if_neg (by decide)]
            exact hj2 true (fun h' => absurd h' (by decide)) (fun _ g => v1 (by have := g.some c0; simp only at this; omega))
      · obtain ⟨_, i2⟩ := hs (k + 5) 0 0 (by omega) (by omega) (by omega)
        have i2' := i2 (by rw [List.drop_zero]; exact hn)
        have e0 : ((0 : Nat) : Int) = 0 := rfl
        rw [e0] at i2'
        rw [show k + 14 = k + 5 + 8 + 1 from rfl, i2']
        exact .no (fun g => hn g.nums)
    · rw [if_pos (by simp only [bne_iff_ne, ne_eq]; omega)]
      exact .no (fun g => hl g.len)
  · rw [decide_eq_false hc, if_neg (by decide)]
    rw [show k + 15 = (k + 14) + 1 from rfl, spec_GoodAgg.j0, if_pos rfl]
    exact .no (fun g => hc ⟨g.c0, g.c1⟩)

end Go.Proofs.Ythliooccgclbjaa.Lem

/- A good agg comes back from its bytes. -/
namespace Go.Proofs.Ythliooccgclbjaa.Lem
open Go.RowKit Go.Proofs.Ythliooccgclbjaa.P Go.Proofs.YthliooccgclbjaaW.PrintWords Go.Proofs.YthliooccgclbjaaW.PrintLast Go.Proofs.YthliooccgclbjaaW.PrintMore

/-- A number without its sign. -/
def zz (n : Int) : Nat := if n < 0 then (-2 * n - 1).toNat else (2 * n).toNat
/-- Numbers' bytes. -/
def body : List Int → List Int
  | [] => []
  | x :: xs => pvs (zz x) ++ body xs
theorem body_append : ∀ a b, body (a ++ b) = body a ++ body b
  | [], b => rfl
  | x :: xs, b => by rw [List.cons_append, body, body, body_append xs b, List.append_assoc]
/-- Numbers in bounds. -/
def Bd (l : List Int) : Prop := ∀ x ∈ l, -4000000000000000000 ≤ x ∧ x ≤ 4000000000000000000
theorem zz_lt {x : Int} (h0 : -4000000000000000000 ≤ x) (h1 : x ≤ 4000000000000000000) : zz x < 18446744073709551616 := by unfold zz; split <;> omega
theorem body_length : ∀ {l : List Int}, Bd l → (body l).length ≤ 10 * l.length
  | [], _ => Nat.le_refl _
  | x :: xs, h => by
    have hx := h x (List.mem_cons_self ..)
    have h1 := (pvs_bytes 9 (zz x) (lt_pow10 (zz_lt hx.1 hx.2))).2.1
    have ih := body_length (l := xs) (fun y hy => h y (List.mem_cons_of_mem _ hy))
    rw [body, List.length_append, List.length_cons]
    omega

theorem aggBytes_l0 {l : List Int} (hb : Bd l) (hl : l.length ≤ 20) (d : Nat) : ∀ (k i : Nat) (acc : List Int), i + d = l.length → acc.length ≤ 1000 + 10 * i → 20 + d < k →
    impl_aggBytes.l0 k acc l (l.length : Int) (i : Int) = some (acc ++ body (l.drop i)) := by
  induction d with
  | zero =>
    intro k i acc hi ha hk
    obtain ⟨k, rfl⟩ : ∃ m, k = m + 1 := ⟨k - 1, by omega⟩
    conv => lhs; unfold impl_aggBytes.l0
    rw [if_neg (by omega), List.drop_eq_nil_of_le (by omega), body, List.append_nil]
  | succ d ih =>
    intro k i acc hi ha hk
    obtain ⟨k, rfl⟩ : ∃ m, k = m + 1 := ⟨k - 1, by omega⟩
    have hd := rd_at0 (l := l) (i := i) (by omega)
    have hx := hb (rd l (i : Int)) (List.mem_of_mem_drop (i := i) (by rw [hd]; exact List.mem_cons_self ..))
    generalize rd l (i : Int) = x at hd hx
    have hz := zz_lt hx.1 hx.2
    have hp := pvs_bytes 9 (zz x) (lt_pow10 hz)
    have hnext := ih k (i + 1) (acc ++ pvs (zz x)) (by omega) (by rw [List.length_append]; omega) (by omega)
    have ei : wrap64 ((i : Int) + 1) = ((i + 1 : Nat) : Int) := by rw [w64 (by omega) (by omega)]; omega
    have hx0 : rd l (i : Int) = x := (List.cons.inj ((rd_at0 (l := l) (i := i) (by omega)).symm.trans hd)).1
    have fin : some (acc ++ body (l.drop i)) = some (acc ++ pvs (zz x) ++ body (l.drop (i + 1))) := by rw [hd, body, List.append_assoc]
    rw [fin, ← hnext]
    conv => lhs; unfold impl_aggBytes.l0
    rw [if_pos (by omega), if_pos (by omega), if_pos (by omega), hx0, ei]
    by_cases hn : x < 0
    · have e1 : wrap64 (-2 * x) = -2 * x := w64 (by omega) (by omega)
      have e2 : wrap64 (-2 * x - 1) = -2 * x - 1 := w64 (by omega) (by omega)
      have e3 : IntKind.u64.wrap (-2 * x - 1) = ((zz x : Nat) : Int) := by rw [wu64 (by omega) (by omega)]; unfold zz; rw [if_pos hn]; omega
      rw [if_pos hn, e1, e2, e3, putVar_ok (by omega) hz, Option.bind_some, if_pos (by omega)]
    · have e1 : wrap64 (2 * x) = 2 * x := w64 (by omega) (by omega)
      have e3 : IntKind.u64.wrap (2 * x) = ((zz x : Nat) : Int) := by rw [wu64 (by omega) (by omega)]; unfold zz; rw [if_neg hn]; omega
      rw [if_neg hn, e1, e3, putVar_ok (by omega) hz, Option.bind_some, if_pos (by omega)]

/-- An agg's numbers, its mark, its bytes. -/
def Ag.ns (a : Ag) : List Int := [a.c, a.s, a.mi, a.ma] ++ a.h
def Ag.mark (a : Ag) : Int := if a.f then 1 else 0
def Ag.bytes (a : Ag) : List Int := a.mark :: body a.ns
theorem ns_bd {a : Ag} (ha : Rg a) : Bd a.ns := by
  obtain ⟨r1, r2, r3, r4, r5, r6⟩ := ha
  intro x hx
  unfold Ag.ns at hx
  rcases List.mem_append.1 hx with h | h
  · simp only [List.mem_cons, List.not_mem_nil, or_false] at h
    rcases h with rfl | rfl | rfl | rfl <;> omega
  · have := r6 x h; omega

theorem aggBytes_ok {a : Ag} (ha : Good a) {k : Nat} (hk : 100 < k) : impl_aggBytes.f k a.c a.s a.mi a.ma a.h a.f = some a.bytes := by
  obtain ⟨k, rfl⟩ : ∃ m, k = m + 1 := ⟨k - 1, by omega⟩
  have hb := ns_bd ha.rg
  have hlen : a.ns.length = 12 := by unfold Ag.ns; rw [List.length_append, ha.len]; rfl
  have main : ∀ m : Int, impl_aggBytes.j0 (k + 1) [m] a.c a.s a.mi a.ma a.h a.f = some (m :: body a.ns) := by
    intro m
    rw [impl_aggBytes.j0]
    unfold impl_Agg_numbers.f
    rw [Option.bind_some, if_pos (by rw [ha.len]; show 4 + 8 < _; decide), Option.bind_some]
    have := aggBytes_l0 hb (by omega) 12 k 0 [m] (by omega) (by simp) (by omega)
    rw [List.drop_zero] at this
    exact this
  unfold impl_aggBytes.f
  rw [Option.bind_some]
  unfold Ag.bytes Ag.mark
  cases a.f
  · rw [if_neg (by decide)]
    exact main 0
  · rw [if_pos rfl, if_pos (by decide)]
    exact main 1

theorem AggBytes_yes {a : Ag} (ha : Good a) {k : Nat} (hk : 100 < k) : impl_AggBytes.f k a.c a.s a.mi a.ma a.h a.f = some (a.bytes, true) := by
  unfold impl_AggBytes.f
  rw [(impl_good ha.rg (by omega)).1 ha, Option.bind_some, if_pos rfl, aggBytes_ok ha hk, Option.bind_some]
theorem AggBytes_no {a : Ag} (hr : Rg a) (ha : ¬ Good a) {k : Nat} (hk : 100 < k) : impl_AggBytes.f k a.c a.s a.mi a.ma a.h a.f = some ([], false) := by
  unfold impl_AggBytes.f
  rw [(impl_good hr (by omega)).2 ha, Option.bind_some, if_neg (by decide)]

theorem and1 {x : Int} (h0 : 0 ≤ x) (h1 : x < 18446744073709551616) : Go.bits .and .u64 x 1 = x % 2 := by
  rw [u64_and x 1 h0 h1 (by decide) (by decide), show (1 : Int).toNat = 1 from rfl, Nat.and_one_is_mod]
  omega

theorem readAgg_l0 {l : List Int} (m : Int) (hb : Bd l) (hl : l.length = 12) (d : Nat) : ∀ (k i : Nat), i + d = 12 → 30 < k →
    impl_ReadAgg.l0 (k + d) (m :: body l) (l.take i) ((1 + (body (l.take i)).length : Nat) : Int) (i : Int) = impl_ReadAgg.l0 k (m :: body l) l ((1 + (body l).length : Nat) : Int) 12 := by
  induction d with
  | zero =>
    intro k i hi hk
    have hi12 : i = 12 := by omega
    rw [List.take_of_length_le (by omega), hi12]
    rfl
  | succ d ih =>
    intro k i hi hk
    have hd := rd_at0 (l := l) (i := i) (by omega)
    have hx := hb (rd l (i : Int)) (List.mem_of_mem_drop (i := i) (by rw [hd]; exact List.mem_cons_self ..))
    generalize rd l (i : Int) = x at hd hx
    have hz := zz_lt hx.1 hx.2
    have hbl := body_length hb
    have htake : l.take (i + 1) = l.take i ++ [x] := by
      have h1 := List.take_append_drop i l
      have h2 : l = (l.take i ++ [x]) ++ l.drop (i + 1) := by rw [List.append_assoc, List.singleton_append, ← hd, h1]
      have h3 : (l.take i ++ [x]).length = i + 1 := by rw [List.length_append, List.length_take, List.length_singleton]; omega
      have h4 := congrArg (List.take (i + 1)) h2
      rw [List.take_left' h3] at h4
      exact h4
    have hsplit : m :: body l = (m :: body (l.take i)) ++ pvs (zz x) ++ body (l.drop (i + 1)) := by
      have h1 : l = l.take i ++ x :: l.drop (i + 1) := by rw [← hd, List.take_append_drop]
      have h2 := congrArg body h1
      rw [body_append, body, ← List.append_assoc] at h2
      rw [h2]
      rfl
    have hrv := readVar_ok (k := k + d) (pre := m :: body (l.take i)) (post := body (l.drop (i + 1))) (by omega) hz (by rw [← hsplit, List.length_cons]; omega)
    rw [← hsplit, List.length_cons] at hrv
    have hnext := ih k (i + 1) (by omega) hk
    rw [htake, body_append, body, body, List.append_nil, List.length_append] at hnext
    have ei : wrap64 ((i : Int) + 1) = ((i + 1 : Nat) : Int) := by rw [w64 (by omega) (by omega)]; omega
    have hlt : (l.take i).length < 17592186044416 := by rw [List.length_take]; omega
    have hpl := (pvs_bytes 9 (zz x) (lt_pow10 hz)).2.1
    rw [show k + (d + 1) = (k + d) + 1 by omega, ← hnext]
    conv => lhs; unfold impl_ReadAgg.l0
    rw [if_pos (by omega), show ((1 + (body (l.take i)).length : Nat) : Int) = (((body (l.take i)).length + 1 : Nat) : Int) by rw [Nat.add_comm], hrv, Option.bind_some]
    try dsimp only
    rw [if_pos rfl, and1 (by omega) (by omega), ei]
    have e2 : wrap64 ((zz x : Int) / 2) = (zz x : Int) / 2 := w64 (by omega) (by omega)
    rw [e2, show (body (l.take i)).length + 1 + (pvs (zz x)).length = 1 + ((body (l.take i)).length + (pvs (zz x)).length) by omega]
    by_cases hn : x < 0
    · have hzx : (zz x : Int) = -2 * x - 1 := by unfold zz; rw [if_pos hn]; omega
      rw [if_pos (by rw [hzx]; omega), if_pos hlt, w64 (x := -((zz x : Int) / 2)) (by omega) (by omega), show wrap64 (-((zz x : Int) / 2) - 1) = x from by rw [w64 (by omega) (by omega), hzx]; omega]
    · have hzx : (zz x : Int) = 2 * x := by unfold zz; rw [if_neg hn]; omega
      rw [if_neg (by rw [hzx]; omega), if_pos hlt, show (zz x : Int) / 2 = x from by rw [hzx]; omega]

/-- An agg's cells, and that it is told. -/
def Ag.t1 (a : Ag) : Int × Int × Int × Int × List Int × Bool × Bool := (a.c, a.s, a.mi, a.ma, a.h, a.f, true)

theorem readAgg_ok {a : Ag} (ha : Good a) {k : Nat} (hk : 200 < k) : impl_ReadAgg.f k a.bytes = some a.t1 := by
  have hb := ns_bd ha.rg
  have hlen : a.ns.length = 12 := by unfold Ag.ns; rw [List.length_append, ha.len]; rfl
  obtain ⟨k, rfl⟩ : ∃ m, k = m + 1 + 12 := ⟨k - 13, by omega⟩
  have h0 : ¬ ((a.bytes.length : Int) = 0) := by unfold Ag.bytes; rw [List.length_cons]; omega
  have hl := readAgg_l0 a.mark hb hlen 12 (k + 1) 0 (by omega) (by omega)
  rw [List.take_zero] at hl
  unfold impl_ReadAgg.f
  rw [if_neg h0]
  have hl' : impl_ReadAgg.l0 (k + 1 + 12) a.bytes [] 1 0 = impl_ReadAgg.l0 (k + 1) a.bytes a.ns ((1 + (body a.ns).length : Nat) : Int) 12 := hl
  rw [hl']
  have r0 : rd a.ns 0 = a.c := rfl
  have r1 : rd a.ns 1 = a.s := rfl
  have r2 : rd a.ns 2 = a.mi := rfl
  have r3 : rd a.ns 3 = a.ma := rfl
  have r4 : a.ns.drop (4 : Int).toNat = a.h := rfl
  have rb : rd a.bytes 0 = a.mark := rfl
  have hm : (a.mark == 1) = a.f := by
    unfold Ag.mark
    cases a.f <;> rfl
  conv => lhs; unfold impl_ReadAgg.l0
  rw [if_neg (by omega), if_pos (by omega), if_pos (by omega), if_pos (by omega), if_pos (by omega), if_pos (by omega), r4, Option.bind_some, if_pos (by omega), r0, r1, r2, r3, rb, hm, (impl_good ha.rg (by omega)).1 ha, Option.bind_some, if_pos rfl, aggBytes_ok ha (by omega), Option.bind_some, equal_self, Option.bind_some, if_pos rfl]
  rfl

end Go.Proofs.Ythliooccgclbjaa.Lem

/- Both programs join two good aggs, and join them alike. -/
namespace Go.Proofs.Ythliooccgclbjaa.Lem
open Go.RowKit Go.Proofs.Ythliooccgclbjaa.P Go.Proofs.YthliooccgclbjaaW.PrintWords Go.Proofs.YthliooccgclbjaaW.PrintLast Go.Proofs.YthliooccgclbjaaW.PrintMore

theorem mn_cap (x : Int) : mn x 1000000000 = cap x := by unfold mn cap; (repeat' split) <;> omega

theorem addH_snoc : ∀ {a b : List Int} (x y : Int), a.length = b.length → addH (a ++ [x]) (b ++ [y]) = addH a b ++ [cap (x + y)] ∧ overH (a ++ [x]) (b ++ [y]) = (overH a b || decide (x + y > 1000000000))
  | [], [], x, y, _ => by simp [addH, overH]
  | [], _ :: _, _, _, h => by simp at h
  | _ :: _, [], _, _, h => by simp at h
  | p :: ps, q :: qs, x, y, h => by
    obtain ⟨i1, i2⟩ := addH_snoc (a := ps) (b := qs) x y (by simpa using h)
    simp only [List.cons_append, addH, overH, i1, i2, Bool.or_assoc]
    exact ⟨trivial, trivial⟩

/-- The first numbers of two histograms, one more of each. -/
theorem add_take {a b : List Int} (h : a.length = b.length) {i : Nat} (hi : i < a.length) :
    addH (a.take (i + 1)) (b.take (i + 1)) = addH (a.take i) (b.take i) ++ [cap (rd a (i : Int) + rd b (i : Int))] ∧ overH (a.take (i + 1)) (b.take (i + 1)) = (overH (a.take i) (b.take i) || decide (rd a (i : Int) + rd b (i : Int) > 1000000000)) := by
  have ea : a.take (i + 1) = a.take i ++ [rd a (i : Int)] := by
    rw [List.take_add_one, List.getElem?_eq_getElem hi]
    unfold Go.Proofs.YthliooccgclbjaaW.PrintWords.rd
    rw [Int.toNat_natCast, List.getD_eq_getElem?_getD, List.getElem?_eq_getElem hi]
    rfl
  have eb : b.take (i + 1) = b.take i ++ [rd b (i : Int)] := by
    rw [List.take_add_one, List.getElem?_eq_getElem (by omega)]
    unfold Go.Proofs.YthliooccgclbjaaW.PrintWords.rd
    rw [Int.toNat_natCast, List.getD_eq_getElem?_getD, List.getElem?_eq_getElem (by omega)]
    rfl
  rw [ea, eb]
  exact addH_snoc _ _ (by rw [List.length_take, List.length_take, h])

theorem nums_rd {l : List Int} (h : Nums l) (i : Int) : 0 ≤ rd l i ∧ rd l i ≤ 1000000000 := by
  unfold Go.Proofs.YthliooccgclbjaaW.PrintWords.rd
  rcases Nat.lt_or_ge i.toNat l.length with hl | hl
  · rw [List.getD_eq_getElem?_getD, List.getElem?_eq_getElem hl]
    exact h _ (List.getElem_mem hl)
  · rw [List.getD_eq_getElem?_getD, List.getElem?_eq_none hl]
    simp

/-- The end of the program's join. -/
def endJ (a b : Ag) (c : Int) (h : List Int) (f : Bool) : Int × Int × Int × Int × List Int × Bool :=
  (c, if f then 0 else a.s + b.s, if a.c = 0 then b.mi else if b.c = 0 then a.mi else mn a.mi b.mi, if a.c = 0 then b.ma else if b.c = 0 then a.ma else mx a.ma b.ma, h, f)

theorem joined1_ok (x : Int) (f : Bool) : impl_joined_1.f x f = some (cap x, f || decide (x > 1000000000)) := by
  unfold impl_joined_1.f
  rw [mn_cap]

theorem joined_l0 {a b : Ag} (ha : Good a) (hb : Good b) (c : Int) (d : Nat) : ∀ (k i : Nat) (h : List Int) (f : Bool), i + d = 8 → h = addH (a.h.take i) (b.h.take i) ++ List.replicate d 0 → d < k →
    impl_joined.l0 k 8 (i : Int) a.c a.s a.mi a.ma a.h a.f b.c b.s b.mi b.ma b.h b.f c 0 0 0 h (f || overH (a.h.take i) (b.h.take i)) = some (endJ a b c (addH a.h b.h) (f || overH a.h b.h)) := by
  have la := ha.len
  have lb := hb.len
  induction d with
  | zero =>
    intro k i h f hi hh hk
    obtain ⟨k, rfl⟩ : ∃ m, k = m + 1 := ⟨k - 1, by omega⟩
    have ta : a.h.take i = a.h := List.take_of_length_le (by omega)
    have tb : b.h.take i = b.h := List.take_of_length_le (by omega)
    rw [ta, tb, List.replicate_zero, List.append_nil] at hh
    rw [ta, tb, hh]
    have ew : wrap64 (a.s + b.s) = a.s + b.s := by
      have := ha.rg.s
      have := hb.rg.s
      exact w64 (by omega) (by omega)
    conv => lhs; unfold impl_joined.l0
    rw [if_neg (by omega), ew]
    generalize (f || overH a.h b.h) = F
    unfold endJ
    cases F <;> (by_cases h1 : a.c = 0) <;> (by_cases h2 : b.c = 0) <;> simp [h1, h2]
  | succ d ih =>
    intro k i h f hi hh hk
    obtain ⟨k, rfl⟩ : ∃ m, k = m + 1 := ⟨k - 1, by omega⟩
    obtain ⟨e1, e2⟩ := add_take (a := a.h) (b := b.h) (by omega) (i := i) (by omega)
    have ra := nums_rd ha.nums (i : Int)
    have rb := nums_rd hb.nums (i : Int)
    have hl : (addH (a.h.take i) (b.h.take i)).length = i := by rw [addH_length (by rw [List.length_take, List.length_take, la, lb]), List.length_take]; omega
    have hhl : h.length = 8 := by rw [hh, List.length_append, List.length_replicate, hl]; omega
    have hset : h.set i (cap (rd a.h (i : Int) + rd b.h (i : Int))) = addH (a.h.take (i + 1)) (b.h.take (i + 1)) ++ List.replicate d 0 := by
      rw [hh, e1, List.set_append_right _ _ (by omega), hl, Nat.sub_self, List.replicate_succ, List.set_cons_zero, List.append_assoc]
      rfl
    have hnext := ih k (i + 1) _ f (by omega) hset (by omega)
    conv => lhs; unfold impl_joined.l0
    rw [if_pos (by omega), if_pos (by omega), if_pos (by omega), if_pos (by omega), w64 (x := rd a.h (i : Int) + rd b.h (i : Int)) (by omega) (by omega), joined1_ok, Option.bind_some]
    try dsimp only
    rw [if_pos (by omega), Int.toNat_natCast, show wrap64 ((i : Int) + 1) = ((i + 1 : Nat) : Int) from by rw [w64 (by omega) (by omega)]; omega, Bool.or_assoc, ← e2]
    exact hnext

/-- The cells of an agg. -/
def Ag.t (a : Ag) : Int × Int × Int × Int × List Int × Bool := (a.c, a.s, a.mi, a.ma, a.h, a.f)

theorem joined_ok {a b : Ag} (ha : Good a) (hb : Good b) {k : Nat} (hk : 20 < k) : impl_joined.f k a.c a.s a.mi a.ma a.h a.f b.c b.s b.mi b.ma b.h b.f = some (join a b).t := by
  obtain ⟨k, rfl⟩ : ∃ m, k = m + 1 := ⟨k - 1, by omega⟩
  have a0 := ha.c0; have a1 := ha.c1; have b0 := hb.c0; have b1 := hb.c1
  have main : ∀ F : Bool, impl_joined.j0 (k + 1) a.c a.s a.mi a.ma a.h a.f b.c b.s b.mi b.ma b.h b.f 0 0 0 0 (List.replicate 8 0) F = some (endJ a b (cap (a.c + b.c)) (addH a.h b.h) ((F || decide (a.c + b.c > 1000000000)) || overH a.h b.h)) := by
    intro F
    rw [impl_joined.j0, w64 (x := a.c + b.c) (by omega) (by omega), joined1_ok, Option.bind_some]
    try dsimp only
    have := joined_l0 ha hb (cap (a.c + b.c)) 8 k 0 (List.replicate 8 0) (F || decide (a.c + b.c > 1000000000)) (by omega) (by simp [addH]) (by omega)
    rw [List.take_zero, List.take_zero, show overH ([] : List Int) [] = false from rfl, Bool.or_false] at this
    exact this
  have hn : impl_noAgg.f = some (0, 0, 0, 0, List.replicate 8 0, false) := by
    unfold impl_noAgg.f
    rw [if_pos (by decide)]
  unfold impl_joined.f
  rw [hn, Option.bind_some]
  try dsimp only
  have he : some (join a b).t = some (endJ a b (cap (a.c + b.c)) (addH a.h b.h) ((a.f || b.f || decide (a.c + b.c > 1000000000)) || overH a.h b.h)) := rfl
  rw [he]
  by_cases hf : a.f = true
  · rw [if_pos hf, main, hf]
    simp only [Bool.true_or]
  · rw [if_neg hf, main, Bool.eq_false_iff.2 hf]
    simp only [Bool.false_or]

theorem l4Own_ok {a : Ag} (ha : Good a) : spec_l4Own.f a.c a.s a.mi a.ma a.h a.f = some a.t := by
  unfold spec_l4Own.f
  rw [Option.bind_some, if_pos (by rw [ha.len]; decide), List.nil_append]
  rfl

theorem l4Join_l0 {a b : Ag} (ha : Good a) (hb : Good b) (c s mi ma : Int) (d : Nat) : ∀ (k i : Nat) (f : Bool), i + d = 8 → d < k →
    spec_l4Join.l0 k a.h (a.h.length : Int) (i : Int) b.c b.s b.mi b.ma b.h b.f c s mi ma (addH (a.h.take i) (b.h.take i)) (f || overH (a.h.take i) (b.h.take i)) = some (c, if f || overH a.h b.h then 0 else s, mi, ma, addH a.h b.h, f || overH a.h b.h) := by
  have la := ha.len
  have lb := hb.len
  induction d with
  | zero =>
    intro k i f hi hk
    obtain ⟨k, rfl⟩ : ∃ m, k = m + 1 := ⟨k - 1, by omega⟩
    have ta : a.h.take i = a.h := List.take_of_length_le (by omega)
    have tb : b.h.take i = b.h := List.take_of_length_le (by omega)
    rw [ta, tb]
    conv => lhs; unfold spec_l4Join.l0
    rw [if_neg (by omega)]
    generalize (f || overH a.h b.h) = F
    cases F <;> rfl
  | succ d ih =>
    intro k i f hi hk
    obtain ⟨k, rfl⟩ : ∃ m, k = m + 1 := ⟨k - 1, by omega⟩
    obtain ⟨e1, e2⟩ := add_take (a := a.h) (b := b.h) (by omega) (i := i) (by omega)
    have ra := nums_rd ha.nums (i : Int)
    have rb := nums_rd hb.nums (i : Int)
    have hl : (addH (a.h.take i) (b.h.take i)).length = i := by rw [addH_length (by rw [List.length_take, List.length_take, la, lb]), List.length_take]; omega
    have hnext := ih k (i + 1) f (by omega) (by omega)
    rw [e1, e2, ← Bool.or_assoc] at hnext
    have ei : wrap64 ((i : Int) + 1) = ((i + 1 : Nat) : Int) := by rw [w64 (by omega) (by omega)]; omega
    conv => lhs; unfold spec_l4Join.l0
    rw [if_pos (by omega), if_pos (by omega), if_pos (by omega), if_pos (by omega), w64 (x := rd a.h (i : Int) + rd b.h (i : Int)) (by omega) (by omega), ei]
    by_cases hc : rd a.h (i : Int) + rd b.h (i : Int) > 1000000000
    · rw [if_pos hc, if_pos (by rw [hl]; omega)]
      rw [decide_eq_true hc, Bool.or_true, show cap (rd a.h (i : Int) + rd b.h (i : Int)) = 1000000000 from by unfold cap; rw [if_pos hc]] at hnext
      exact hnext
    · rw [if_neg hc, if_pos (by rw [hl]; omega)]
      rw [decide_eq_false hc, Bool.or_false, show cap (rd a.h (i : Int) + rd b.h (i : Int)) = rd a.h (i : Int) + rd b.h (i : Int) from by unfold cap; rw [if_neg hc]] at hnext
      exact hnext

theorem l4Join_ok {a b : Ag} (ha : Good a) (hb : Good b) {k : Nat} (hk : 20 < k) : spec_l4Join.f k a.c a.s a.mi a.ma a.h a.f b.c b.s b.mi b.ma b.h b.f = some (join a b).t := by
  obtain ⟨k, rfl⟩ : ∃ m, k = m + 3 := ⟨k - 3, by omega⟩
  have a0 := ha.c0; have a1 := ha.c1; have b0 := hb.c0; have b1 := hb.c1
  unfold spec_l4Join.f
  by_cases h1 : a.c = 0
  · rw [if_pos h1, l4Own_ok hb, Option.bind_some, join_zero ha hb h1]
  rw [if_neg h1]
  by_cases h2 : b.c = 0
  · rw [if_pos h2, l4Own_ok ha, Option.bind_some, join_comm ha hb, join_zero hb ha h2]
  rw [if_neg h2]
  have ew : wrap64 (a.s + b.s) = a.s + b.s := by
    have := ha.rg.s
    have := hb.rg.s
    exact w64 (by omega) (by omega)
  rw [w64 (x := a.c + b.c) (by omega) (by omega), ew]
  have hmn : mn a.mi b.mi = if b.mi < a.mi then b.mi else a.mi := rfl
  have hmx : mx a.ma b.ma = if b.ma > a.ma then b.ma else a.ma := by unfold mx; (repeat' split) <;> omega
  have fin : ∀ (c : Int) (F : Bool), spec_l4Join.l0 k a.h (a.h.length : Int) 0 b.c b.s b.mi b.ma b.h b.f c (a.s + b.s) (mn a.mi b.mi) (mx a.ma b.ma) [] F = some (c, if F || overH a.h b.h then 0 else a.s + b.s, mn a.mi b.mi, mx a.ma b.ma, addH a.h b.h, F || overH a.h b.h) := by
    intro c F
    have := l4Join_l0 ha hb c (a.s + b.s) (mn a.mi b.mi) (mx a.ma b.ma) 8 k 0 F (by omega) (by omega)
    rw [List.take_zero, List.take_zero, show overH ([] : List Int) [] = false from rfl, Bool.or_false] at this
    exact this
  have viaJ0 : ∀ (c : Int) (F : Bool), spec_l4Join.j0 (k + 3) a.c a.s a.mi a.ma a.h a.f b.c b.s b.mi b.ma b.h b.f c (a.s + b.s) a.mi a.ma F = some (c, if F || overH a.h b.h then 0 else a.s + b.s, mn a.mi b.mi, mx a.ma b.ma, addH a.h b.h, F || overH a.h b.h) := by
    intro c F
    rw [← fin c F]
    rw [show k + 3 = (k + 2) + 1 from rfl, spec_l4Join.j0]
    have j1 : ∀ m : Int, spec_l4Join.j1 (k + 2) a.c a.s a.mi a.ma a.h a.f b.c b.s b.mi b.ma b.h b.f c (a.s + b.s) m a.ma F = spec_l4Join.l0 k a.h (a.h.length : Int) 0 b.c b.s b.mi b.ma b.h b.f c (a.s + b.s) m (mx a.ma b.ma) [] F := by
      intro m
      rw [show k + 2 = (k + 1) + 1 from rfl, spec_l4Join.j1, hmx]
      split
      · rw [spec_l4Join.j2]
      · rw [spec_l4Join.j2]
    rw [hmn]
    split
    · exact j1 _
    · exact j1 _
  have viaJ4 : ∀ (c : Int) (F : Bool), spec_l4Join.j4 (k + 3) a.c a.s a.mi a.ma a.h a.f b.c b.s b.mi b.ma b.h b.f c (a.s + b.s) a.mi a.ma F = some (c, if F || overH a.h b.h then 0 else a.s + b.s, mn a.mi b.mi, mx a.ma b.ma, addH a.h b.h, F || overH a.h b.h) := by
    intro c F
    rw [← fin c F]
    rw [show k + 3 = (k + 2) + 1 from rfl, spec_l4Join.j4]
    have j1 : ∀ m : Int, spec_l4Join.j5 (k + 2) a.c a.s a.mi a.ma a.h a.f b.c b.s b.mi b.ma b.h b.f c (a.s + b.s) m a.ma F = spec_l4Join.l0 k a.h (a.h.length : Int) 0 b.c b.s b.mi b.ma b.h b.f c (a.s + b.s) m (mx a.ma b.ma) [] F := by
      intro m
      rw [show k + 2 = (k + 1) + 1 from rfl, spec_l4Join.j5, hmx]
      split
      · rw [spec_l4Join.j6]
      · rw [spec_l4Join.j6]
    rw [hmn]
    split
    · exact j1 _
    · exact j1 _
  have he : ∀ F : Bool, F = (a.f || b.f || decide (a.c + b.c > 1000000000)) → some (join a b).t = some (cap (a.c + b.c), if F || overH a.h b.h then 0 else a.s + b.s, mn a.mi b.mi, mx a.ma b.ma, addH a.h b.h, F || overH a.h b.h) := by
    intro F hF
    subst hF
    unfold Ag.t join
    rw [if_neg h1, if_neg h2, if_neg h1, if_neg h2]
  by_cases hf : a.f = true
  · rw [if_pos hf, he true (by rw [hf, Bool.true_or, Bool.true_or])]
    by_cases hc : a.c + b.c > 1000000000
    · rw [if_pos hc, viaJ0, show cap (a.c + b.c) = 1000000000 from by unfold cap; rw [if_pos hc]]
    · rw [if_neg hc, viaJ0, show cap (a.c + b.c) = a.c + b.c from by unfold cap; rw [if_neg hc]]
  · rw [if_neg hf]
    have hf' := Bool.eq_false_iff.2 hf
    by_cases hc : a.c + b.c > 1000000000
    · rw [if_pos hc, viaJ4, he true (by rw [decide_eq_true hc, Bool.or_true]), show cap (a.c + b.c) = 1000000000 from by unfold cap; rw [if_pos hc]]
    · rw [if_neg hc, viaJ4, he b.f (by rw [hf', decide_eq_false hc, Bool.false_or, Bool.or_false]), show cap (a.c + b.c) = a.c + b.c from by unfold cap; rw [if_neg hc]]

/-- What is told where nothing is joined. -/
def noT : Int × Int × Int × Int × List Int × Bool × Bool := (0, 0, 0, 0, [], false, false)

theorem impl_join_yes {a b : Ag} (ha : Good a) (hb : Good b) {k : Nat} (hk : 20 < k) : impl_JoinAggs.f k a.c a.s a.mi a.ma a.h a.f b.c b.s b.mi b.ma b.h b.f = some (join a b).t1 := by
  unfold impl_JoinAggs.f
  rw [(impl_good ha.rg hk).1 ha, Option.bind_some, if_pos rfl, (impl_good hb.rg hk).1 hb, Option.bind_some, if_pos rfl, joined_ok ha hb hk, Option.bind_some]
  rfl
theorem impl_join_no {a b : Ag} (ra : Rg a) (rb : Rg b) (h : ¬ (Good a ∧ Good b)) {k : Nat} (hk : 20 < k) : impl_JoinAggs.f k a.c a.s a.mi a.ma a.h a.f b.c b.s b.mi b.ma b.h b.f = some noT := by
  unfold impl_JoinAggs.f
  by_cases ha : Good a
  · rw [(impl_good ra hk).1 ha, Option.bind_some, if_pos rfl, (impl_good rb hk).2 (fun hb => h ⟨ha, hb⟩), Option.bind_some, if_neg (by decide)]
    rfl
  · rw [(impl_good ra hk).2 ha, Option.bind_some, if_neg (by decide)]
    rfl
theorem spec_join_yes {a b : Ag} (ha : Good a) (hb : Good b) {k : Nat} (hk : 20 < k) : spec_JoinAggs.f k a.c a.s a.mi a.ma a.h a.f b.c b.s b.mi b.ma b.h b.f = some (join a b).t1 := by
  unfold spec_JoinAggs.f
  rw [(spec_good ha.rg hk).1 ha, Option.bind_some, if_pos rfl, (spec_good hb.rg hk).1 hb, Option.bind_some, if_pos rfl, l4Join_ok ha hb hk, Option.bind_some]
  rfl
theorem spec_join_no {a b : Ag} (ra : Rg a) (rb : Rg b) (h : ¬ (Good a ∧ Good b)) {k : Nat} (hk : 20 < k) : spec_JoinAggs.f k a.c a.s a.mi a.ma a.h a.f b.c b.s b.mi b.ma b.h b.f = some noT := by
  unfold spec_JoinAggs.f
  by_cases ha : Good a
  · rw [(spec_good ra hk).1 ha, Option.bind_some, if_pos rfl, (spec_good rb hk).2 (fun hb => h ⟨ha, hb⟩), Option.bind_some, if_neg (by decide)]
    rfl
  · rw [(spec_good ra hk).2 ha, Option.bind_some, if_neg (by decide)]
    rfl

end Go.Proofs.Ythliooccgclbjaa.Lem

namespace Go.Proofs.Ythliooccgclbjaa.Lem
open Go.RowKit Go.Proofs.Ythliooccgclbjaa.P Go.Proofs.YthliooccgclbjaaW.PrintWords Go.Proofs.YthliooccgclbjaaW.PrintLast Go.Proofs.YthliooccgclbjaaW.PrintMore

/-- The reader of choices goes on: a number, and a later place. -/
theorem next_ok {l : List Int} (hl : Bytes l) (at_ s : Int) (h0 : 0 ≤ at_) (h1 : at_ < 4611686018427387904) :
    ∃ r s', spec_l1Cur_next.f l at_ s = some (r, at_ + 1, s') ∧ 0 ≤ r ∧ r < 256 := by
  have hw : wrap64 (at_ + 1) = at_ + 1 := w64 (by omega) (by omega)
  have hb := hl.rd at_
  have hwr : wrap64 (rd l at_) = rd l at_ := w64 (by omega) (by omega)
  unfold spec_l1Cur_next.f
  rw [hw, hwr]
  have key : ∀ x : Int, 0 ≤ wrap64 (Go.bits .and .u64 (IntKind.u64.wrap x / 1099511627776) 255) ∧ wrap64 (Go.bits .and .u64 (IntKind.u64.wrap x / 1099511627776) 255) < 256 := by
    intro x
    have hx := wu64_lo x
    have hy := wu64_hi x
    have := and255 (x := IntKind.u64.wrap x / 1099511627776) (by omega) (by omega)
    rw [w64 (by omega) (by omega)]
    exact this
  by_cases c1 : at_ < (l.length : Int)
  · rw [if_pos c1, if_pos h0]
    by_cases c2 : at_ + 1 ≤ (l.length : Int)
    · rw [if_pos c2]
      exact ⟨_, _, rfl, hb.1, hb.2⟩
    · rw [if_neg c2]
      exact ⟨_, _, rfl, key _⟩
  · rw [if_neg c1]
    by_cases c2 : at_ + 1 ≤ (l.length : Int)
    · rw [if_pos c2]
      exact ⟨_, _, rfl, by decide, by decide⟩
    · rw [if_neg c2]
      exact ⟨_, _, rfl, key _⟩

theorem tmod_ok {x n : Int} (hx : 0 ≤ x) (hn : 0 < n) : 0 ≤ Int.tmod x n ∧ Int.tmod x n < n := by
  rw [Int.tmod_eq_emod_of_nonneg hx]
  exact ⟨Int.emod_nonneg _ (by omega), Int.emod_lt_of_pos _ hn⟩

theorem pick_ok {l : List Int} (hl : Bytes l) (at_ s n : Int) (h0 : 0 ≤ at_) (h1 : at_ < 4611686018427387900) :
    ∃ r a' s', spec_l1Cur_pick.f l at_ s n = some (r, a', s') ∧ at_ ≤ a' ∧ a' ≤ at_ + 2 ∧ 0 ≤ r ∧ (1 ≤ n → r < n) ∧ (n ≤ 1 → r = 0) := by
  unfold spec_l1Cur_pick.f
  by_cases c1 : n ≤ 1
  · rw [if_pos c1]
    exact ⟨0, at_, s, rfl, by omega, by omega, by omega, fun _ => by omega, fun _ => rfl⟩
  · rw [if_neg c1]
    obtain ⟨r, s1, e, r0, r1⟩ := next_ok hl at_ s h0 (by omega)
    rw [e]
    simp only [Option.bind_some]
    by_cases c2 : n > 200
    · rw [if_pos c2]
      obtain ⟨q, s2, e2, q0, q1⟩ := next_ok hl (at_ + 1) s1 (by omega) (by omega)
      rw [e2]
      simp only [Option.bind_some]
      rw [if_neg (by omega)]
      have hw1 : wrap64 (r * 256) = r * 256 := w64 (by omega) (by omega)
      rw [hw1]
      have hw2 : wrap64 (r * 256 + q) = r * 256 + q := w64 (by omega) (by omega)
      rw [hw2]
      have ht := tmod_ok (x := r * 256 + q) (n := n) (by omega) (by omega)
      exact ⟨_, _, _, rfl, by omega, by omega, ht.1, fun _ => ht.2, fun h => by omega⟩
    · rw [if_neg c2, if_neg (by omega)]
      have ht := tmod_ok (x := r) (n := n) (by omega) (by omega)
      exact ⟨_, _, _, rfl, by omega, by omega, ht.1, fun _ => ht.2, fun h => by omega⟩

theorem one_ok {l : List Int} (hl : Bytes l) (at_ s n : Int) (h0 : 0 ≤ at_) (h1 : at_ < 4611686018427387900) :
    ∃ b a' s', spec_l1Cur_one.f l at_ s n = some (b, a', s') ∧ at_ ≤ a' ∧ a' ≤ at_ + 2 := by
  unfold spec_l1Cur_one.f
  obtain ⟨r, a', s', e, ha, hb, _⟩ := pick_ok hl at_ s n h0 h1
  rw [e]
  exact ⟨_, _, _, rfl, ha, hb⟩

end Go.Proofs.Ythliooccgclbjaa.Lem

/- What is drawn out of a list of whole numbers is one of them. -/
namespace Go.Proofs.Ythliooccgclbjaa.Lem
open Go.RowKit Go.Proofs.Ythliooccgclbjaa.P Go.Proofs.YthliooccgclbjaaW.PrintWords Go.Proofs.YthliooccgclbjaaW.PrintLast Go.Proofs.YthliooccgclbjaaW.PrintMore

theorem rd_mem {l : List Int} {i : Int} (h0 : 0 ≤ i) (h1 : i < (l.length : Int)) : rd l i ∈ l := by
  unfold Go.Proofs.YthliooccgclbjaaW.PrintWords.rd
  rw [List.getD_eq_getElem?_getD, List.getElem?_eq_getElem (by omega)]
  exact List.getElem_mem _
theorem among_ok {l : List Int} (hl : Bytes l) (ws : List Int) (hw : 1 ≤ ws.length) (at_ s : Int) (h0 : 0 ≤ at_) (h1 : at_ < 4611686018427387900) :
    ∃ t a' s', spec_l1Cur_among.f l at_ s ws = some (t, a', s') ∧ t ∈ ws ∧ at_ ≤ a' ∧ a' ≤ at_ + 2 := by
  unfold spec_l1Cur_among.f
  obtain ⟨r, a1, s1, e1, g1, g1', r0, r1, _⟩ := pick_ok hl at_ s (ws.length : Int) h0 h1
  have hr := r1 (by omega)
  rw [e1, Option.bind_some]; try dsimp only
  rw [if_pos r0, if_pos hr]
  exact ⟨_, _, _, rfl, rd_mem r0 hr, g1, g1'⟩

end Go.Proofs.Ythliooccgclbjaa.Lem

/- What is drawn is an agg in bounds. -/
namespace Go.Proofs.Ythliooccgclbjaa.Lem
open Go.RowKit Go.Proofs.Ythliooccgclbjaa.P Go.Proofs.YthliooccgclbjaaW.PrintWords Go.Proofs.YthliooccgclbjaaW.PrintLast Go.Proofs.YthliooccgclbjaaW.PrintMore

theorem bucket_l0 (v : Int) (d : Nat) : ∀ (k b : Nat) (top : Int), b + d = 7 → 1 ≤ b → d < k → ∃ r : Nat, spec_l4Bucket.l0 k v (b : Int) top = some (r : Int) ∧ 1 ≤ r ∧ r ≤ 7 := by
  induction d with
  | zero =>
    intro k b top hb h1 hk
    obtain ⟨k, rfl⟩ : ∃ m, k = m + 1 := ⟨k - 1, by omega⟩
    refine ⟨b, ?_, h1, by omega⟩
    conv => lhs; unfold spec_l4Bucket.l0
    rw [if_neg (by omega)]
  | succ d ih =>
    intro k b top hb h1 hk
    obtain ⟨k, rfl⟩ : ∃ m, k = m + 1 := ⟨k - 1, by omega⟩
    obtain ⟨r, hr, r1, r2⟩ := ih k (b + 1) (wrap64 (top * 10)) (by omega) (by omega) (by omega)
    have ei : wrap64 ((b : Int) + 1) = ((b + 1 : Nat) : Int) := by rw [w64 (by omega) (by omega)]; omega
    by_cases hv : v ≥ top
    · refine ⟨r, ?_, r1, r2⟩
      conv => lhs; unfold spec_l4Bucket.l0
      rw [if_pos (by omega), if_pos hv, ei]
      exact hr
    · refine ⟨b, ?_, h1, by omega⟩
      conv => lhs; unfold spec_l4Bucket.l0
      rw [if_pos (by omega), if_neg hv]
theorem bucket_ok (v : Int) {k : Nat} (hk : 10 < k) : ∃ r : Nat, spec_l4Bucket.f k v = some (r : Int) ∧ r ≤ 7 := by
  unfold spec_l4Bucket.f
  by_cases h : v < 0
  · rw [if_pos h]
    exact ⟨0, rfl, by omega⟩
  · rw [if_neg h]
    obtain ⟨r, hr, _, r2⟩ := bucket_l0 v 6 k 1 1 (by omega) (by omega) (by omega)
    exact ⟨r, hr, r2⟩

theorem set_good : ∀ r : Fin 8, ((List.replicate 8 (0 : Int)).set r.val 1).sum = 1 ∧ ((List.replicate 8 (0 : Int)).set r.val 1).length = 8 ∧ ∀ x ∈ (List.replicate 8 (0 : Int)).set r.val 1, 0 ≤ x ∧ x ≤ 1000000000 := by decide +kernel

theorem of_good {v : Int} (h0 : -1000000000 ≤ v) (h1 : v ≤ 1000000000) {r : Nat} (hr : r ≤ 7) : Good ⟨1, v, v, v, (List.replicate 8 0).set r 1, false⟩ := by
  obtain ⟨e1, e2, e3⟩ := set_good ⟨r, by omega⟩
  exact ⟨by simp, by simp, e2, e3, fun h => by simp at h, fun _ => ⟨e1, by simp only; omega, by simp only; omega⟩, fun h => by simp at h, fun _ => ⟨h0, Int.le_refl _, h1⟩⟩

theorem zero_good : Good ⟨0, 0, 0, 0, List.replicate 8 0, false⟩ :=
  ⟨by simp, by simp, rfl, fun x hx => by rw [List.eq_of_mem_replicate hx]; decide, fun h => by simp at h, fun _ => ⟨rfl, by simp, by simp⟩, fun _ => ⟨rfl, rfl, rfl, rfl⟩, fun h => by simp at h⟩

theorem l4Of_ok {v : Int} (h0 : -1000000000 ≤ v) (h1 : v ≤ 1000000000) {k : Nat} (hk : 10 < k) : ∃ a : Ag, Good a ∧ spec_l4Of.f k v = some a.t := by
  obtain ⟨r, hr, r7⟩ := bucket_ok v hk
  refine ⟨_, of_good h0 h1 r7, ?_⟩
  unfold spec_l4Of.f
  rw [if_pos (by decide), Option.bind_some, hr, Option.bind_some, if_pos (by omega), if_pos (by rw [List.length_replicate]; omega), Int.toNat_natCast]
  rfl

theorem value_ok {l : List Int} (hl : Bytes l) (at_ s : Int) (h0 : 0 ≤ at_) (h1 : at_ < 4611686018427380000) :
    ∃ v a' s', spec_l1Cur_value.f l at_ s = some (v, a', s') ∧ -1000000000 ≤ v ∧ v ≤ 1000000000 ∧ at_ ≤ a' ∧ a' ≤ at_ + 4 := by
  unfold spec_l1Cur_value.f
  obtain ⟨b, a1, s1, e1, g1, g1'⟩ := one_ok hl at_ s 16 h0 (by omega)
  rw [e1, Option.bind_some]; try dsimp only
  by_cases hb : b = true
  · rw [if_pos hb]
    obtain ⟨t, a2, s2, e2, m2, g2, g2'⟩ := among_ok hl [1000000000, -1000000000, 999999999] (by simp) a1 s1 (by omega) (by omega)
    have ht : -1000000000 ≤ t ∧ t ≤ 1000000000 := by simp at m2; omega
    rw [e2, Option.bind_some]
    exact ⟨t, a2, s2, rfl, ht.1, ht.2, by omega, by omega⟩
  · rw [if_neg hb]
    obtain ⟨t, a2, s2, e2, m2, g2, g2'⟩ := among_ok hl [0, 1, 9, 10, 99, 100, 1000, 99999, 100000, -1, -50, 7] (by simp) a1 s1 (by omega) (by omega)
    have ht : -1000000000 ≤ t ∧ t ≤ 1000000000 := by simp at m2; omega
    rw [e2, Option.bind_some]
    exact ⟨t, a2, s2, rfl, ht.1, ht.2, by omega, by omega⟩

/-- Closer bounds. -/
structure Rg0 (a : Ag) : Prop where
  c : 0 ≤ a.c ∧ a.c ≤ 1000000000
  s : -1000000000000000000 ≤ a.s ∧ a.s ≤ 1000000000000000000
  mi : -1000000000 ≤ a.mi ∧ a.mi ≤ 1000000000
  ma : -1000000000 ≤ a.ma ∧ a.ma ≤ 1000000000
  len : a.h.length = 8
  nums : ∀ x ∈ a.h, 0 ≤ x ∧ x ≤ 2000000000
theorem Rg0.rg {a : Ag} (h : Rg0 a) : Rg a := by
  obtain ⟨r1, r2, r3, r4, r5, r6⟩ := h
  exact ⟨by omega, by omega, by omega, by omega, by omega, fun x hx => by have := r6 x hx; omega⟩
theorem Good.rg0 {a : Ag} (h : Good a) : Rg0 a := by
  have h0 := h.c0; have h1 := h.c1
  refine ⟨⟨h0, h1⟩, ?_, ?_, ?_, h.len, fun x hx => by have := h.nums x hx; omega⟩
  · by_cases hf : a.f = true
    · rw [h.full hf]; decide
    · have := h.notfull (Bool.eq_false_iff.2 hf)
      omega
  · by_cases hc : a.c = 0
    · have := h.zero hc; omega
    · have := h.some hc; omega
  · by_cases hc : a.c = 0
    · have := h.zero hc; omega
    · have := h.some hc; omega

/-- What the reader of choices tells: an agg in bounds, and where it stands. -/
def TellsAg (at_ : Int) (n : Int) (r : Option (Int × Int × Int × Int × List Int × Bool × Int × Int)) : Prop :=
  ∃ (a : Ag) (at' s' : Int), r = some (a.c, a.s, a.mi, a.ma, a.h, a.f, at', s') ∧ Rg a ∧ at_ ≤ at' ∧ at' ≤ at_ + n

theorem agg_j2 {l : List Int} (hl : Bytes l) {a : Ag} (ha : Rg0 a) {at_ s : Int} (h0 : 0 ≤ at_) (h1 : at_ < 4611686018427300000) (k : Nat) : TellsAg at_ 2 (spec_l1Cur_agg.j2 (k + 1) l at_ s a.c a.s a.mi a.ma a.h a.f) := by
  obtain ⟨r1, r2, r3, r4, r5, r6⟩ := ha
  obtain ⟨p, a1, s1, e1, g1, g1', _⟩ := pick_ok hl at_ s 60 h0 (by omega)
  rw [spec_l1Cur_agg.j2, e1, Option.bind_some]
  try dsimp only
  by_cases p0 : p = 0
  · rw [if_pos p0, if_pos (by omega)]
    exact ⟨⟨a.c, a.s, a.mi, a.ma, a.h.drop (1 : Int).toNat, a.f⟩, a1, s1, rfl, ⟨by simp only; omega, by simp only; omega, by simp only; omega, by simp only; omega, by simp only [List.length_drop]; omega, fun x hx => by have := r6 x (List.mem_of_mem_drop hx); omega⟩, g1, g1'⟩
  rw [if_neg p0]
  by_cases p1 : p = 1
  · rw [if_pos p1]
    have ew : wrap64 (a.ma + 1) = a.ma + 1 := w64 (by omega) (by omega)
    exact ⟨⟨a.c, a.s, wrap64 (a.ma + 1), a.ma, a.h, a.f⟩, a1, s1, rfl, ⟨by simp only; omega, by simp only; omega, by simp only [ew]; omega, by simp only; omega, by simp only; omega, fun x hx => by have := r6 x hx; omega⟩, g1, g1'⟩
  rw [if_neg p1]
  by_cases p2 : p = 2
  · rw [if_pos p2]
    exact ⟨⟨a.c, a.s, a.mi, a.ma, a.h, true⟩, a1, s1, rfl, ⟨by simp only; omega, by simp only; omega, by simp only; omega, by simp only; omega, by simp only; omega, fun x hx => by have := r6 x hx; omega⟩, g1, g1'⟩
  rw [if_neg p2]
  by_cases p3 : p = 3
  · rw [if_pos p3]
    have ew : wrap64 (a.c + 1) = a.c + 1 := w64 (by omega) (by omega)
    exact ⟨⟨wrap64 (a.c + 1), a.s, a.mi, a.ma, a.h, a.f⟩, a1, s1, rfl, ⟨by simp only [ew]; omega, by simp only; omega, by simp only; omega, by simp only; omega, by simp only; omega, fun x hx => by have := r6 x hx; omega⟩, g1, g1'⟩
  · rw [if_neg p3]
    exact ⟨a, a1, s1, rfl, ⟨by omega, by omega, by omega, by omega, by omega, fun x hx => by have := r6 x hx; omega⟩, g1, g1'⟩

theorem set_nums {l : List Int} (h : ∀ x ∈ l, 0 ≤ x ∧ x ≤ 2000000000) (n : Nat) {y : Int} (h0 : 0 ≤ y) (h1 : y ≤ 2000000000) : ∀ x ∈ l.set n y, 0 ≤ x ∧ x ≤ 2000000000 := by
  intro x hx
  rcases List.mem_or_eq_of_mem_set hx with h' | rfl
  · exact h x h'
  · exact ⟨h0, h1⟩

theorem agg_j1 {l : List Int} (hl : Bytes l) {a : Ag} (ha : Good a) {at_ s : Int} (h0 : 0 ≤ at_) (h1 : at_ < 4611686018427300000) (b : Bool) {k : Nat} (hk : 30 < k) : TellsAg at_ 2 (spec_l1Cur_agg.j1 (k + 1 + 1) b l at_ s a.c a.s a.mi a.ma a.h a.f) := by
  rw [spec_l1Cur_agg.j1]
  by_cases hb : b = true
  · have hlen := ha.len
    have h3 := nums_rd ha.nums 3
    have hc0 := ha.c0; have hc1 := ha.c1
    have e1 : wrap64 (1000000000 - a.c) = 1000000000 - a.c := w64 (by omega) (by omega)
    have e2 : wrap64 (rd a.h 3 + (1000000000 - a.c)) = rd a.h 3 + (1000000000 - a.c) := w64 (by omega) (by omega)
    have hr0 := ha.rg0
    have hset := set_nums hr0.nums (3 : Int).toNat (y := rd a.h 3 + (1000000000 - a.c)) (by omega) (by omega)
    have hr1 : Rg0 ⟨1000000000, a.s, a.mi, a.ma, a.h.set (3 : Int).toNat (rd a.h 3 + (1000000000 - a.c)), a.f⟩ := ⟨by simp, hr0.s, hr0.mi, hr0.ma, by simp only [List.length_set]; exact hlen, hset⟩
    rw [if_pos hb, if_pos (by omega), Option.bind_some, e1, e2]
    by_cases hg : Good ⟨1000000000, a.s, a.mi, a.ma, a.h.set (3 : Int).toNat (rd a.h 3 + (1000000000 - a.c)), a.f⟩
    · have := (spec_good hr1.rg (k := k + 1) (by omega)).1 hg
      simp only at this
      rw [this, Option.bind_some, if_pos rfl]
      exact agg_j2 hl hr1 h0 h1 k
    · have := (spec_good hr1.rg (k := k + 1) (by omega)).2 hg
      simp only at this
      rw [this, Option.bind_some, if_neg (by decide)]
      have hr2 : Rg0 ⟨1000000000, a.s, a.mi, a.ma, (a.h.set (3 : Int).toNat (rd a.h 3 + (1000000000 - a.c))).set (3 : Int).toNat 0, a.f⟩ := ⟨by simp, hr0.s, hr0.mi, hr0.ma, by simp only [List.length_set]; exact hlen, set_nums hset _ (by decide) (by decide)⟩
      exact agg_j2 hl hr2 h0 h1 k
  · rw [if_neg hb]
    exact agg_j2 hl ha.rg0 h0 h1 k

theorem agg_l0 {l : List Int} (hl : Bytes l) (d : Nat) : ∀ (k : Nat) (a : Ag) (at_ s : Int), Good a → 0 ≤ at_ → at_ + 10 * d < 4611686018427200000 → 50 + d < k → TellsAg at_ (10 * d + 10) (spec_l1Cur_agg.l0 k (d : Int) l at_ s a.c a.s a.mi a.ma a.h a.f) := by
  induction d with
  | zero =>
    intro k a at_ s ha h0 h1 hk
    obtain ⟨k, rfl⟩ : ∃ m, k = m + 1 + 1 + 1 := ⟨k - 3, by omega⟩
    obtain ⟨b, a1, s1, e1, g1, g1'⟩ := one_ok hl at_ s 30 h0 (by omega)
    have go : ∀ b', TellsAg at_ (10 * (0 : Nat) + 10) (spec_l1Cur_agg.j1 (k + 1 + 1) b' l a1 s1 a.c a.s a.mi a.ma a.h a.f) := by
      intro b'
      obtain ⟨x, at', s', e, r, q1, q2⟩ := agg_j1 hl ha (at_ := a1) (s := s1) (by omega) (by omega) b' (k := k) (by omega)
      exact ⟨x, at', s', e, r, by omega, by omega⟩
    conv => arg 3; unfold spec_l1Cur_agg.l0
    rw [if_neg (by omega), e1, Option.bind_some]
    try dsimp only
    by_cases hb : b = true
    · rw [if_pos hb]; exact go _
    · rw [if_neg hb]; exact go _
  | succ d ih =>
    intro k a at_ s ha h0 h1 hk
    obtain ⟨k, rfl⟩ : ∃ m, k = m + 1 := ⟨k - 1, by omega⟩
    obtain ⟨v, a1, s1, e1, v0, v1, g1, g1'⟩ := value_ok hl at_ s h0 (by omega)
    obtain ⟨y, hy, e2⟩ := l4Of_ok v0 v1 (k := k) (by omega)
    have e3 := l4Join_ok ha hy (k := k) (by omega)
    obtain ⟨x, at', s', e, r, q1, q2⟩ := ih k (join a y) a1 s1 (join_good ha hy) (by omega) (by omega) (by omega)
    refine ⟨x, at', s', ?_, r, by omega, by omega⟩
    conv => lhs; unfold spec_l1Cur_agg.l0
    rw [if_pos (by omega), e1, Option.bind_some]
    try dsimp only
    rw [e2, Option.bind_some]
    unfold Ag.t at e3 ⊢
    try dsimp only
    rw [e3, Option.bind_some]
    try dsimp only
    rw [show wrap64 (((d + 1 : Nat) : Int) - 1) = (d : Int) from by rw [w64 (by omega) (by omega)]; omega]
    exact e

theorem agg_ok {l : List Int} (hl : Bytes l) {at_ s : Int} (h0 : 0 ≤ at_) (h1 : at_ < 4611686018427100000) {k : Nat} (hk : 100 < k) : TellsAg at_ 100 (spec_l1Cur_agg.f k l at_ s) := by
  unfold spec_l1Cur_agg.f spec_l4Zero.f
  rw [if_pos (by decide), Option.bind_some]
  try dsimp only
  obtain ⟨p, a1, s1, e1, g1, g1', p0, p1, _⟩ := pick_ok hl at_ s 5 h0 (by omega)
  have hp := p1 (by omega)
  rw [e1, Option.bind_some]
  try dsimp only
  obtain ⟨x, at', s', e, r, q1, q2⟩ := agg_l0 hl p.toNat k ⟨0, 0, 0, 0, List.replicate 8 0, false⟩ a1 s1 zero_good (by omega) (by omega) (by omega)
  refine ⟨x, at', s', ?_, r, by omega, by omega⟩
  rw [show p = (p.toNat : Int) by omega]
  exact e

end Go.Proofs.Ythliooccgclbjaa.Lem

/- Sums are joined in any order and any brackets alike, and come back from their bytes, for drawn aggs: FnSums answers true at every input. No conditions. -/
namespace Go.Proofs.Ythliooccgclbjaa.Pure
open Go.RowKit Go.Proofs.Ythliooccgclbjaa.P Go.Proofs.YthliooccgclbjaaW.PrintWords Go.Proofs.YthliooccgclbjaaW.PrintLast Go.Proofs.YthliooccgclbjaaW.PrintMore Go.Proofs.Ythliooccgclbjaa.Lem

theorem sameInts_l0 (l : List Int) (hl : l.length ≤ 1000) (d : Nat) : ∀ (k i : Nat), i + d = l.length → d < k → laws_sameInts.l0 k l l (l.length : Int) (i : Int) = some true := by
  induction d with
  | zero =>
    intro k i hi hk
    obtain ⟨k, rfl⟩ : ∃ m, k = m + 1 := ⟨k - 1, by omega⟩
    conv => lhs; unfold laws_sameInts.l0
    rw [if_neg (by omega)]
  | succ d ih =>
    intro k i hi hk
    obtain ⟨k, rfl⟩ : ∃ m, k = m + 1 := ⟨k - 1, by omega⟩
    have hnext := ih k (i + 1) (by omega) (by omega)
    conv => lhs; unfold laws_sameInts.l0
    rw [if_pos (by omega), if_pos (by omega), if_pos (by omega), if_pos (by omega), if_pos rfl, show wrap64 ((i : Int) + 1) = ((i + 1 : Nat) : Int) from by rw [w64 (by omega) (by omega)]; omega]
    exact hnext
theorem same_ok (c s mi ma : Int) (l : List Int) (hl : l.length ≤ 100) (f : Bool) {k : Nat} (hk : 200 < k) : laws_sameAggs.f k c s mi ma l f c s mi ma l f = some true := by
  have h := sameInts_l0 l (by omega) l.length k 0 (by omega) (by omega)
  have h' : laws_sameInts.f k l l = some true := by
    unfold laws_sameInts.f
    rw [if_pos rfl]
    exact h
  unfold laws_sameAggs.f
  rw [if_pos rfl, if_pos rfl, if_pos rfl, if_pos rfl, if_pos (beq_self_eq_true f), h', Option.bind_some]

theorem draw1 {l : List Int} (hl : Bytes l) {k : Nat} (hk : 200 < k) : ∃ a : Ag, Rg a ∧ spec_DrawAggBytes.f k l = some a.t := by
  obtain ⟨a, at', s', e, r, _, _⟩ := agg_ok hl (at_ := 0) (s := 0) (by omega) (by omega) (k := k) (by omega)
  refine ⟨a, r, ?_⟩
  unfold spec_DrawAggBytes.f spec_DrawGoodAgg.f
  rw [e, Option.bind_some]
  try dsimp only
  rw [Option.bind_some]
  rfl
theorem draw2 {l : List Int} (hl : Bytes l) {k : Nat} (hk : 200 < k) : ∃ a b : Ag, Rg a ∧ Rg b ∧ spec_DrawJoinAggs.f k l = some (a.c, a.s, a.mi, a.ma, a.h, a.f, b.c, b.s, b.mi, b.ma, b.h, b.f) := by
  obtain ⟨a, at', s', e, r, g0, g1⟩ := agg_ok hl (at_ := 0) (s := 0) (by omega) (by omega) (k := k) (by omega)
  obtain ⟨b, at2, s2, e2, r2, _, _⟩ := agg_ok hl (at_ := at') (s := s') (by omega) (by omega) (k := k) (by omega)
  refine ⟨a, b, r, r2, ?_⟩
  unfold spec_DrawJoinAggs.f
  rw [e, Option.bind_some]
  try dsimp only
  rw [e2, Option.bind_some]

theorem law_j1 {a b c : Ag} (ha : Lem.Good a) (hb : Lem.Good b) (hc : Lem.Good c) {k : Nat} (hk : 300 < k) : laws_FnSums.j1 (k + 1) false a.c a.s a.mi a.ma a.h a.f b.c b.s b.mi b.ma b.h b.f (join a b).c (join a b).s (join a b).mi (join a b).ma (join a b).h (join a b).f c.c c.s c.mi c.ma c.h c.f = some true := by
  have e1 := impl_join_yes (join_good ha hb) hc (k := k) (by omega)
  have e2 := impl_join_yes hb hc (k := k) (by omega)
  have e3 := impl_join_yes ha (join_good hb hc) (k := k) (by omega)
  have hg := join_good (join_good ha hb) hc
  have e4 := (impl_good hg.rg (k := k) (by omega)).1 hg
  have e5 := same_ok (join (join a b) c).c (join (join a b) c).s (join (join a b) c).mi (join (join a b) c).ma (join (join a b) c).h (by rw [hg.len]; decide) (join (join a b) c).f (k := k) (by omega)
  rw [← join_assoc ha hb hc] at e3
  rw [laws_FnSums.j1, if_neg (by decide), e1, Option.bind_some, e2, Option.bind_some]
  unfold Ag.t1
  try dsimp only
  unfold Ag.t1 at e3
  rw [e3, Option.bind_some]
  try dsimp only
  rw [if_pos rfl, if_pos rfl, if_pos rfl, e4, Option.bind_some, if_pos rfl, e5, Option.bind_some]

theorem law_j0 {a b : Ag} (ha : Lem.Good a) (hb : Lem.Good b) {l1 : List Int} (h1 : Bytes l1) {k : Nat} (hk : 400 < k) : laws_FnSums.j0 (k + 1 + 1) l1 true false a.c a.s a.mi a.ma a.h a.f b.c b.s b.mi b.ma b.h b.f (join a b).c (join a b).s (join a b).mi (join a b).ma (join a b).h (join a b).f = some true := by
  obtain ⟨c, rc, e1⟩ := draw1 h1 (k := k + 1) (by omega)
  rw [laws_FnSums.j0, if_neg (by decide), if_pos rfl, e1, Option.bind_some]
  unfold Ag.t
  try dsimp only
  by_cases hc : Lem.Good c
  · have e2 := AggBytes_yes hc (k := k + 1) (by omega)
    have e3 := (spec_good rc (k := k + 1) (by omega)).1 hc
    have e4 := readAgg_ok hc (k := k + 1) (by omega)
    have e5 := same_ok c.c c.s c.mi c.ma c.h (by rw [hc.len]; decide) c.f (k := k + 1) (by omega)
    rw [e2, Option.bind_some, e3, Option.bind_some]
    try dsimp only
    rw [if_neg (by decide), if_pos rfl, e4, Option.bind_some]
    unfold Ag.t1
    try dsimp only
    rw [if_pos rfl, e5, Option.bind_some]
    exact law_j1 ha hb hc (by omega)
  · have e2 := AggBytes_no rc hc (k := k + 1) (by omega)
    have e3 := (spec_good rc (k := k + 1) (by omega)).2 hc
    rw [e2, Option.bind_some, e3, Option.bind_some]
    try dsimp only
    rw [if_neg (by decide), if_neg (by decide)]

theorem FnSums : laws_FnSums.Pure := by
  intro l0 l1 _ _ hw0 _ _ hw1
  have h0 := Bytes.of_wf hw0
  have h1 := Bytes.of_wf hw1
  refine ⟨500 + 1 + 1, ?_⟩
  unfold laws_FnSums.f
  by_cases hs : wrap64 ((l0.length : Int) + (l1.length : Int)) > 1048576
  · rw [if_pos hs]
  rw [if_neg hs]
  obtain ⟨a, b, ra, rb, e⟩ := draw2 h0 (k := 500 + 1 + 1) (by omega)
  rw [e, Option.bind_some]
  try dsimp only
  by_cases hg : Lem.Good a ∧ Lem.Good b
  · obtain ⟨ha, hb⟩ := hg
    have e1 := impl_join_yes ha hb (k := 500 + 1 + 1) (by omega)
    have e2 := impl_join_yes hb ha (k := 500 + 1 + 1) (by omega)
    have e3 := spec_join_yes ha hb (k := 500 + 1 + 1) (by omega)
    rw [← join_comm ha hb] at e2
    have hj := join_good ha hb
    have e5 := same_ok (join a b).c (join a b).s (join a b).mi (join a b).ma (join a b).h (by rw [hj.len]; decide) (join a b).f (k := 500 + 1 + 1) (by omega)
    rw [e1, Option.bind_some, e2, Option.bind_some, e3, Option.bind_some]
    unfold Ag.t1
    try dsimp only
    rw [if_neg (by decide), if_neg (by decide), e5, Option.bind_some, if_pos rfl, Option.bind_some]
    exact law_j0 ha hb h1 (by omega)
  · have e1 := impl_join_no ra rb hg (k := 500 + 1 + 1) (by omega)
    have e2 := impl_join_no rb ra (fun h => hg ⟨h.2, h.1⟩) (k := 500 + 1 + 1) (by omega)
    have e3 := spec_join_no ra rb hg (k := 500 + 1 + 1) (by omega)
    have e5 := same_ok 0 0 0 0 [] (by simp) false (k := 500 + 1 + 1) (by omega)
    rw [e1, Option.bind_some, e2, Option.bind_some, e3, Option.bind_some]
    unfold noT
    try dsimp only
    rw [if_neg (by decide), if_neg (by decide), e5, Option.bind_some, if_pos rfl, Option.bind_some]
    show laws_FnSums.j0 (500 + 1 + 1) l1 false false _ _ _ _ _ _ _ _ _ _ _ _ _ _ _ _ _ _ = _
    rw [laws_FnSums.j0, if_neg (by decide), if_neg (by decide)]

end Go.Proofs.Ythliooccgclbjaa.Pure

-- PRINTED BY print.sh 35421559b90ae4d0a3588c463048766b98c2df88dd9212a6774a882060cdf62d: not written by this session
-- PRINTED WORDS (module Derived/Print/Sized.lean): go-gate-2's, for the rows of laws over slices: an AI agent of Go's test side, Tue Nov 17 2026; no person has read it. Lean checks it.
namespace Go.Proofs.YthliooccgclbjaaW.PrintWords
open Go.ChangeShapes Go.WideShapes
/-- A row's slice of whole numbers is no longer than its weight allows. -/
theorem sized_ints {H : Type} {enc : TypeId × Value → H} {P : Program} {W : World} {base : Nat} {spare : Nat → Bool} {held : Bool} {t e : TypeId} {k : IntKind} {a : Option Addr} {len cap : Nat} {d : DataW H} {ps : List MemPlace} {ts : List TypeId} {ds : List (DataW H)} {j : Nat}
    (hsz : (DataW.weightsEach P ts ds).all (· ≤ reachBytes) = true) (ht : ts[j]? = some t) (hd : ds[j]? = some d) (hu : P.underlying t = some (.slice e)) (he : P.underlying e = some (.int k)) (hc : P.cellsOf e = 1) {B : Nat} (hB : P.bytesOf e = B)
    (h : DataW.Trod enc P W base spare held t (.slice a len cap) d ps) : len * B ≤ 140737488351232 := by
  obtain ⟨fuel, hf⟩ := h
  rcases open_ints hu he hc hf with ⟨hcs, _⟩ | ⟨x, l, c, zs, hcs, _, hl, _, hz, hx, _, _⟩
  · simp [Value.cells] at hcs
    obtain ⟨rfl, rfl, rfl⟩ := hcs
    simp
  · simp [Value.cells] at hcs
    obtain ⟨rfl, rfl, rfl⟩ := hcs
    obtain ⟨hx, _⟩ := Prod.mk.inj hx
    subst hx
    have z := sized_slice hsz ht hd hu
    rw [hB] at z
    have hl2 : len ≤ zs.length := by
      rw [hz]
      split
      · exact hl
      · exact Nat.le_refl _
    have h1 : (lits (H := H) k (zs.take len)).length + (lits (H := H) k (zs.drop len)).length = zs.length := by
      simp [lits]
      omega
    rw [h1] at z
    exact Nat.le_trans (Nat.mul_le_mul_right _ hl2) z
end Go.Proofs.YthliooccgclbjaaW.PrintWords

-- written by a program of this session's (wip/pp)
namespace Go.Proofs.Ythliooccgclbjaa.fnSums
open Go.ChangeShapes Go.WideShapes Go.ChangeAt Go.RowKit
open Go.ChangeMaps (open_string shut_string)
set_option linter.unusedVariables false
theorem own : ownKnob Try.prog.godebug = none := by kernel_rfl
theorem laidOut : laidOutB Try.prog = true := by kernel_rfl
def IsRow (k : IntKind) (w : World) (a : Option Addr) (len cap : Nat) (zs : List Int) : Prop :=
  (a = none ∧ len = 0 ∧ cap = 0 ∧ zs = []) ∨
  ∃ x, a = some x ∧ len ≤ cap ∧ cap ≤ maxLen ∧ zs.length = cap ∧ (∀ i, i < zs.length → w.cell? (x.add i) = some (.int k (zs.getD i 0))) ∧ ∀ n ∈ zs, (Lit.int k n).wf = true
set_option maxRecDepth 100000 in
theorem lifted (os : Os) (started : os.Started) (H : Type) (enc : TypeId × Value → H) :
    ReturnsInHanded {} Try.checked os 6 .any (Rows.fnSumsSpec.pre6 enc Try.prog Try.f6 Rows.fnSumsRow.domain false) (Rows.fnSumsSpec.post enc Try.prog Try.f6 false true false false) := by
  refine returnsInHanded_of_change_sized (C := Try.checked) own started (by kernel_rfl) Try.func6
    (ChangeSpec.witness6 (enc := enc) (C := Try.checked) false ⟨#[], #[.slice none 0 0, .slice none 0 0], []⟩ 8 (by kernel_rfl) (by kernel_rfl) (by kernel_rfl) (by kernel_rfl)) ?_
  intro W base args ds gs before hval0 hW hcnd hsz0 _
  have hsz : (DataW.weightsEach Try.prog (Try.f6.params.toList ++ Rows.fnSumsSpec.plain.varTypes Try.prog) (ds ++ gs)).all (· ≤ reachBytes) = true := hsz0
  have hval : ∀ (j : Nat) t v, Try.f6.params[j]? = some t → args[j]? = some v → Value.okWide Try.prog W .any base t v := hval0
  have hW' := hW
  obtain ⟨p, q, hA0, hV, rfl, hfz, hnd⟩ := hW
  have hA : DataW.TrodAll enc Try.prog W 0 (fun _ => true) true Try.f6.params.toList args.toList ds p := hA0
  rw [Try.params6] at hA hval hsz
  obtain ⟨v0, vs0, d0, ds0, p0, q0, hargs, rfl, rfl, h0, r0⟩ := trodAll_cons hA
  obtain ⟨v1, vs1, d1, ds1, p1, q1, rfl, rfl, rfl, h1, r1⟩ := trodAll_cons r0
  obtain ⟨rfl, rfl, rfl⟩ := trodAll_nil r1
  obtain rfl : args = #[v0, v1] := by cases args; simp_all
  obtain ⟨rfl, rfl⟩ := trodVars_none hV
  obtain ⟨a0, len0, cap0, rfl⟩ := okWide_slice Try.underlying22 (hval 0 22 v0 rfl rfl)
  have k0 := h0
  have lt0 : ∀ x ∈ p0, x.block < W.heap.size := by obtain ⟨m, hm⟩ := k0; exact DataW.trod_lt m _ _ _ hm
  obtain ⟨z0, w0⟩ : ∃ zs, IsRow .u8 W a0 len0 cap0 zs := by
    obtain ⟨fuel, hf⟩ := h0
    rcases open_ints Try.underlying22 Try.underlying5 (by kernel_rfl) hf with ⟨hcs, _⟩ | ⟨x, l, c, zs, hcs, _, hl, hm, hz, _, hcell, hwz⟩
    · simp [Value.cells] at hcs
      obtain ⟨rfl, rfl, rfl⟩ := hcs
      exact ⟨[], .inl ⟨rfl, rfl, rfl, rfl⟩⟩
    · simp [Value.cells] at hcs
      obtain ⟨rfl, rfl, rfl⟩ := hcs
      exact ⟨zs, .inr ⟨_, rfl, hl, hm, by simpa using hz, hcell, hwz⟩⟩
  have y0 : len0 * 1 ≤ 140737488351232 := Go.Proofs.YthliooccgclbjaaW.PrintWords.sized_ints hsz (j := 0) (t := 22) rfl rfl Try.underlying22 Try.underlying5 (by kernel_rfl) (by kernel_rfl) h0
  obtain ⟨a1, len1, cap1, rfl⟩ := okWide_slice Try.underlying22 (hval 1 22 v1 rfl rfl)
  have k1 := h1
  have lt1 : ∀ x ∈ p1, x.block < W.heap.size := by obtain ⟨m, hm⟩ := k1; exact DataW.trod_lt m _ _ _ hm
  obtain ⟨z1, w1⟩ : ∃ zs, IsRow .u8 W a1 len1 cap1 zs := by
    obtain ⟨fuel, hf⟩ := h1
    rcases open_ints Try.underlying22 Try.underlying5 (by kernel_rfl) hf with ⟨hcs, _⟩ | ⟨x, l, c, zs, hcs, _, hl, hm, hz, _, hcell, hwz⟩
    · simp [Value.cells] at hcs
      obtain ⟨rfl, rfl, rfl⟩ := hcs
      exact ⟨[], .inl ⟨rfl, rfl, rfl, rfl⟩⟩
    · simp [Value.cells] at hcs
      obtain ⟨rfl, rfl, rfl⟩ := hcs
      exact ⟨zs, .inr ⟨_, rfl, hl, hm, by simpa using hz, hcell, hwz⟩⟩
  have y1 : len1 * 1 ≤ 140737488351232 := Go.Proofs.YthliooccgclbjaaW.PrintWords.sized_ints hsz (j := 1) (t := 22) rfl rfl Try.underlying22 Try.underlying5 (by kernel_rfl) (by kernel_rfl) h1
  clear hA0 hval0 hsz0 hsz
  refine (P.laws_FnSums.walk Pure.FnSums a0 len0 cap0 z0 a1 len1 cap1 z1 W w0 y0 w1 y1).mono fun e W' ⟨he, bel⟩ => ?_
  subst he
  exact ⟨_, rfl, _, _, _, [], _, [], hW', trodAll_mk1 (shut_bool Try.underlying4 _), (trodAll_cons_mk (Below.trod laidOut (by kernel_rfl) (of_decide_eq_true (by kernel_rfl)) k0 bel lt0) (trodAll_cons_mk (Below.trod laidOut (by kernel_rfl) (of_decide_eq_true (by kernel_rfl)) k1 bel lt1) trodAll_mk0)), rfl, bel.frame _, fun h => by cases h⟩
theorem over : Rows.fnSumsRow.holds Try.pinned (OpenSpec.ofChange Rows.fnSumsSpec) :=
  OpenClaim.holds_of_wide 6 Try.f6 rfl rfl rfl rfl rfl rfl rfl ⟨rfl, rfl, rfl, rfl, rfl⟩ rfl rfl rfl rfl rfl (by kernel_rfl) Try.func6 (by kernel_rfl)
    (of_decide_eq_true (by kernel_rfl)) (by unfold Func.isWrapper; first | (rw [if_pos (by decide +kernel)]; kernel_rfl) | (rw [if_neg (by decide +kernel)]; exact ⟨rfl, rfl⟩))
    (fun os started H enc _ => lifted os started H enc)
theorem proved : Rows.FnSumsSaid := over
#print axioms proved
end Go.Proofs.Ythliooccgclbjaa.fnSums
namespace Go.Proofs.Ythliooccgclbjaa
/-- The row, under a short name, for the claim. -/
theorem fnSums_holds : Rows.FnSumsSaid := fnSums.proved
end Go.Proofs.Ythliooccgclbjaa
