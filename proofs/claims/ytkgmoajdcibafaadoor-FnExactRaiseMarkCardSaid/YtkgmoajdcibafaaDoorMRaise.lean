/- The statement's own text and the last of the walks that it uses. -/
import Derived.ChangeArms
import Derived.ChangeSlices
import Derived.DataReads
import Derived.Test.YtkgmoajdcibafaaDoorRows
import Derived.Test.YtkgmoajdcibafaaDoorTie
import Derived.Test.YtkgmoajdcibafaaDoorCards
import Derived.WalkKit
import Derived.ProofKit
import Derived.OpenShut
import Derived.ChangeOld
import Derived.Below
import Derived.Handed
import Derived.Lay
import Derived.MakeChecks
import Derived.LaidHandle
import Derived.Lib.LaidTab
import Derived.Stop.LaidErr
import Derived.JoinedOf
import Derived.SevenTiedAt
import Derived.RowKit
import Derived.Test.YtkgmoajdcibafaaDoorMRaise5

/- Both programs tell whether an agg is good, and tell it alike, for aggs in bounds. -/
namespace Go.Proofs.YtkgmoajdcibafaaDoor.Lem
open Go.RowKit Go.Proofs.YtkgmoajdcibafaaDoor.P Go.Proofs.YtkgmoajdcibafaaDoorW.PrintWords Go.Proofs.YtkgmoajdcibafaaDoorW.PrintLast Go.Proofs.YtkgmoajdcibafaaDoorW.PrintMore

theorem l1In_ok (a b c : Int) : spec_l1In.f a b c = some (decide (b ≤ a ∧ a ≤ c)) := by
  unfold spec_l1In.f
  by_cases h : a ≥ b
  · rw [if_pos h]
    congr 1
    exact decide_eq_decide.2 ⟨fun h' => ⟨h, h'⟩, fun h' => h'.2⟩
  · rw [if_neg h]
    congr 1
    exact (decide_eq_false (fun h' => h h'.1)).symm
theorem isValue_ok (v : Int) : impl_isValue.f v = some (decide (-1000000000 ≤ v ∧ v ≤ 1000000000)) := by
  unfold impl_isValue.f
  rw [within_ok, Option.bind_some]
theorem l4Value_ok (v : Int) : spec_l4Value.f v = some (decide (-1000000000 ≤ v ∧ v ≤ 1000000000)) := by
  unfold spec_l4Value.f
  rw [l1In_ok, Option.bind_some]

/-- An agg in bounds. -/
structure Rg (a : Ag) : Prop where
  c : -4000000000 ≤ a.c ∧ a.c ≤ 4000000000
  s : -4000000000000000000 ≤ a.s ∧ a.s ≤ 4000000000000000000
  mi : -4000000000 ≤ a.mi ∧ a.mi ≤ 4000000000
  ma : -4000000000 ≤ a.ma ∧ a.ma ≤ 4000000000
  len : a.h.length ≤ 8
  nums : ∀ x ∈ a.h, -4000000000 ≤ x ∧ x ≤ 4000000000

theorem Good.rg {a : Ag} (h : Good a) : Rg a := by
  have h0 := h.c0; have h1 := h.c1
  refine ⟨by omega, ?_, ?_, ?_, by rw [h.len]; decide, fun x hx => by have := h.nums x hx; omega⟩
  · by_cases hf : a.f = true
    · rw [h.full hf]; decide
    · have := h.notfull (Bool.eq_false_iff.2 hf)
      omega
  · by_cases hc : a.c = 0
    · have := h.zero hc; omega
    · have := h.some hc; omega
  · by_cases hc : a.c = 0
    · have := h.zero hc; omega
    · have := h.some hc; omega

theorem rd_at0 {l : List Int} {i : Nat} (h : i < l.length) : l.drop i = rd l (i : Int) :: l.drop (i + 1) := by
  rw [List.drop_eq_getElem_cons h]
  unfold Go.Proofs.YtkgmoajdcibafaaDoorW.PrintWords.rd
  rw [Int.toNat_natCast, List.getD_eq_getElem?_getD, List.getElem?_eq_getElem h]
  rfl

theorem gi_l0 {h : List Int} (hl : h.length ≤ 8) (c s mi ma : Int) (hh : List Int) (f : Bool) (d : Nat) : ∀ (k i : Nat) (x : Int), i + d = h.length → 0 ≤ x → x ≤ 1000000000 * (i : Int) →
    (Nums (h.drop i) → impl_GoodAgg.l0 (k + d) x h (h.length : Int) (i : Int) c s mi ma hh f = impl_GoodAgg.l0 k (x + (h.drop i).sum) h (h.length : Int) (h.length : Int) c s mi ma hh f) ∧
    (¬ Nums (h.drop i) → impl_GoodAgg.l0 (k + d + 1) x h (h.length : Int) (i : Int) c s mi ma hh f = some false) := by
  induction d with
  | zero =>
    intro k i x hi h0 h1
    have hd : h.drop i = [] := List.drop_eq_nil_of_le (by omega)
    have hi' : i = h.length := by omega
    refine ⟨fun _ => ?_, fun hn => ?_⟩
    · rw [hd, List.sum_nil, Int.add_zero, hi']; rfl
    · rw [hd] at hn; exact absurd (fun x hx => by simp at hx) hn
  | succ d ih =>
    intro k i x hi h0 h1
    have hd := rd_at0 (l := h) (i := i) (by omega)
    have e1 : wrap64 ((i : Int) + 1) = ((i + 1 : Nat) : Int) := by rw [w64 (by omega) (by omega)]; omega
    by_cases hw : 0 ≤ rd h (i : Int) ∧ rd h (i : Int) ≤ 1000000000
    · have ew : wrap64 (x + rd h (i : Int)) = x + rd h (i : Int) := w64 (by omega) (by omega)
      obtain ⟨i1, i2⟩ := ih k (i + 1) (x + rd h (i : Int)) (by omega) (by omega) (by omega)
      refine ⟨fun hn => ?_, fun hn => ?_⟩
      · rw [hd] at hn
        rw [show k + (d + 1) = (k + d) + 1 by omega]
        conv => lhs; unfold impl_GoodAgg.l0
        rw [if_pos (by omega), if_pos (by omega), if_pos (by omega), within_ok, decide_eq_true hw, Option.bind_some, if_pos rfl, ew, e1, i1 hn.tail, hd, List.sum_cons, Int.add_assoc]
      · rw [hd] at hn
        have hn' : ¬ Nums (h.drop (i + 1)) := fun hn' => hn (Nums.cons hw.1 hw.2 hn')
        rw [show k + (d + 1) + 1 = (k + d + 1) + 1 by omega]
        conv => lhs; unfold impl_GoodAgg.l0
        rw [if_pos (by omega), if_pos (by omega), if_pos (by omega), within_ok, decide_eq_true hw, Option.bind_some, if_pos rfl, ew, e1, i2 hn']
    · refine ⟨fun hn => ?_, fun _ => ?_⟩
      · rw [hd] at hn; exact absurd hn.head hw
      · rw [show k + (d + 1) + 1 = (k + d + 1) + 1 by omega]
        conv => lhs; unfold impl_GoodAgg.l0
        rw [if_pos (by omega), if_pos (by omega), if_pos (by omega), within_ok, decide_eq_false hw, Option.bind_some, if_neg (by decide)]

theorem gs_l0 {h : List Int} (hl : h.length ≤ 8) (c s mi ma : Int) (hh : List Int) (f : Bool) (d : Nat) : ∀ (k i : Nat) (x : Int), i + d = h.length → 0 ≤ x → x ≤ 1000000000 * (i : Int) →
    (Nums (h.drop i) → spec_GoodAgg.l0 (k + d) x h (h.length : Int) (i : Int) c s mi ma hh f = spec_GoodAgg.l0 k (x + (h.drop i).sum) h (h.length : Int) (h.length : Int) c s mi ma hh f) ∧
    (¬ Nums (h.drop i) → spec_GoodAgg.l0 (k + d + 1) x h (h.length : Int) (i : Int) c s mi ma hh f = some false) := by
  induction d with
  | zero =>
    intro k i x hi h0 h1
    have hd : h.drop i = [] := List.drop_eq_nil_of_le (by omega)
    have hi' : i = h.length := by omega
    refine ⟨fun _ => ?_, fun hn => ?_⟩
    · rw [hd, List.sum_nil, Int.add_zero, hi']; rfl
    · rw [hd] at hn; exact absurd (fun x hx => by simp at hx) hn
  | succ d ih =>
    intro k i x hi h0 h1
    have hd := rd_at0 (l := h) (i := i) (by omega)
    have e1 : wrap64 ((i : Int) + 1) = ((i + 1 : Nat) : Int) := by rw [w64 (by omega) (by omega)]; omega
    by_cases hw : 0 ≤ rd h (i : Int) ∧ rd h (i : Int) ≤ 1000000000
    · have ew : wrap64 (x + rd h (i : Int)) = x + rd h (i : Int) := w64 (by omega) (by omega)
      obtain ⟨i1, i2⟩ := ih k (i + 1) (x + rd h (i : Int)) (by omega) (by omega) (by omega)
      refine ⟨fun hn => ?_, fun hn => ?_⟩
      · rw [hd] at hn
        rw [show k + (d + 1) = (k + d) + 1 by omega]
        conv => lhs; unfold spec_GoodAgg.l0
        rw [if_pos (by omega), if_pos (by omega), if_pos (by omega), l1In_ok, decide_eq_true hw, Option.bind_some, if_pos rfl, ew, e1, i1 hn.tail, hd, List.sum_cons, Int.add_assoc]
      · rw [hd] at hn
        have hn' : ¬ Nums (h.drop (i + 1)) := fun hn' => hn (Nums.cons hw.1 hw.2 hn')
        rw [show k + (d + 1) + 1 = (k + d + 1) + 1 by omega]
        conv => lhs; unfold spec_GoodAgg.l0
        rw [if_pos (by omega), if_pos (by omega), if_pos (by omega), l1In_ok, decide_eq_true hw, Option.bind_some, if_pos rfl, ew, e1, i2 hn']
    · refine ⟨fun hn => ?_, fun _ => ?_⟩
      · rw [hd] at hn; exact absurd hn.head hw
      · rw [show k + (d + 1) + 1 = (k + d + 1) + 1 by omega]
        conv => lhs; unfold spec_GoodAgg.l0
        rw [if_pos (by omega), if_pos (by omega), if_pos (by omega), l1In_ok, decide_eq_false hw, Option.bind_some, if_neg (by decide)]

/-- The answer of a test. -/
def Tells (p : Prop) (r : Option Bool) : Prop := (p → r = some true) ∧ (¬ p → r = some false)
theorem Tells.yes {p : Prop} (h : p) : Tells p (some true) := ⟨fun _ => rfl, fun h' => absurd h h'⟩
theorem Tells.no {p : Prop} (h : ¬ p) : Tells p (some false) := ⟨fun h' => absurd h' h, fun _ => rfl⟩

theorem impl_goodAll (a : Ag) {k : Nat} (hk : 20 < k) : Tells (Good a) (impl_GoodAgg.f k a.c a.s a.mi a.ma a.h a.f) := by
  obtain ⟨c, s, mi, ma, h, f⟩ := a
  simp only
  obtain ⟨k, rfl⟩ : ∃ m, k = m + 15 := ⟨k - 15, by omega⟩
  unfold impl_GoodAgg.f
  rw [within_ok, Option.bind_some]
  by_cases hc : 0 ≤ c ∧ c ≤ 1000000000
  · rw [decide_eq_true hc, if_pos rfl]
    rw [show k + 15 = (k + 14) + 1 from rfl, impl_GoodAgg.j0]
    by_cases hl : h.length = 8
    · rw [if_neg (by simp [hl])]
      have hs := gi_l0 (h := h) (by omega) c s mi ma h f 8
      by_cases hn : Nums h
      · obtain ⟨i1, _⟩ := hs (k + 6) 0 0 (by omega) (by omega) (by omega)
        have i1' := i1 (by rw [List.drop_zero]; exact hn)
        rw [List.drop_zero, Int.zero_add] at i1'
        have e0 : ((0 : Nat) : Int) = 0 := rfl
        rw [e0] at i1'
        rw [show k + 14 = k + 6 + 8 from rfl, i1']
        have hsum := hn.sum_bound
        conv => arg 2; unfold impl_GoodAgg.l0
        rw [if_neg (by omega)]
        have em : wrap64 (-1000000000 * c) = -1000000000 * c := w64 (by omega) (by omega)
        have ep : wrap64 (1000000000 * c) = 1000000000 * c := w64 (by omega) (by omega)
        have hj3 : ∀ (b : Bool), (b = false → (f = true → s = 0) ∧ (f = false → h.sum = c ∧ -1000000000 * c ≤ s ∧ s ≤ 1000000000 * c)) → (b = true → ¬ Good ⟨c, s, mi, ma, h, f⟩) → Tells (Good ⟨c, s, mi, ma, h, f⟩) (impl_GoodAgg.j3 (k + 4) h.sum b c s mi ma h f) := by
          intro b hb hb'
          rw [show k + 4 = (k + 3) + 1 from rfl, impl_GoodAgg.j3]
          by_cases b0 : b = true
          · rw [if_pos b0]; exact .no (hb' b0)
          obtain ⟨q1, q2⟩ := hb (Bool.eq_false_iff.2 b0)
          rw [if_neg b0]
          by_cases c0 : c = 0
          · rw [if_pos c0]
            by_cases m0 : mi = 0
            · rw [if_pos m0]
              by_cases m1 : ma = 0
              · rw [if_pos m1]
                by_cases s0 : h.sum = 0
                · rw [if_pos s0]
                  cases f
                  · exact .yes ⟨hc.1, hc.2, hl, hn, q1, q2, fun _ => ⟨m0, m1, s0, rfl⟩, fun h' => absurd c0 h'⟩
                  · exact .no (fun g => absurd (g.zero c0).2.2.2 (by simp))
                · rw [if_neg s0]; exact .no (fun g => s0 (g.zero c0).2.2.1)
              · rw [if_neg m1]; exact .no (fun g => m1 (g.zero c0).2.1)
            · rw [if_neg m0]; exact .no (fun g => m0 (g.zero c0).1)
          · rw [if_neg c0, isValue_ok, Option.bind_some]
            by_cases v1 : -1000000000 ≤ mi ∧ mi ≤ 1000000000
            · rw [decide_eq_true v1, if_pos rfl, isValue_ok, Option.bind_some]
              by_cases v2 : -1000000000 ≤ ma ∧ ma ≤ 1000000000
              · rw [decide_eq_true v2, if_pos rfl]
                by_cases v3 : mi ≤ ma
                · rw [decide_eq_true v3]
                  exact .yes ⟨hc.1, hc.2, hl, hn, q1, q2, fun h' => absurd h' c0, fun _ => ⟨v1.1, v3, v2.2⟩⟩
                · rw [decide_eq_false v3]; exact .no (fun g => v3 (g.some c0).2.1)
              · rw [decide_eq_false v2, if_neg (by decide)]
                exact .no (fun g => v2 (by have := g.some c0; simp only at this; omega))
            · rw [decide_eq_false v1, if_neg (by decide)]
              exact .no (fun g => v1 (by have := g.some c0; simp only at this; omega))
        cases f
        · rw [if_neg (by decide), impl_GoodAgg.j2, if_neg (by decide), if_neg (by decide)]
          by_cases hsc : h.sum = c
          · rw [if_pos hsc, within_ok, Option.bind_some, em, ep]
            by_cases hs' : -1000000000 * c ≤ s ∧ s ≤ 1000000000 * c
            · rw [decide_eq_true hs']
              exact hj3 false (fun _ => ⟨fun h' => absurd h' (by decide), fun _ => ⟨hsc, hs'.1, hs'.2⟩⟩) (fun h' => absurd h' (by decide))
            · rw [decide_eq_false hs']
              exact hj3 true (fun h' => absurd h' (by decide)) (fun _ g => hs' (g.notfull rfl).2)
          · rw [if_neg hsc]
            exact hj3 true (fun h' => absurd h' (by decide)) (fun _ g => hsc (g.notfull rfl).1)
        · rw [if_pos rfl, impl_GoodAgg.j2]
          by_cases s0 : s = 0
          · rw [if_neg (by simp [s0]), if_pos rfl]
            exact hj3 false (fun _ => ⟨fun _ => s0, fun h' => absurd h' (by simp)⟩) (fun h' => absurd h' (by decide))
          · rw [if_pos (by simp [s0])]
            exact .no (fun g => s0 (g.full rfl))
      · obtain ⟨_, i2⟩ := hs (k + 5) 0 0 (by omega) (by omega) (by omega)
        have i2' := i2 (by rw [List.drop_zero]; exact hn)
        have e0 : ((0 : Nat) : Int) = 0 := rfl
        rw [e0] at i2'
        rw [show k + 14 = k + 5 + 8 + 1 from rfl, i2']
        exact .no (fun g => hn g.nums)
    · rw [if_pos (by simp only [bne_iff_ne, ne_eq]; omega)]
      exact .no (fun g => hl g.len)
  · rw [decide_eq_false hc, if_neg (by decide)]
    rw [show k + 15 = (k + 14) + 1 from rfl, impl_GoodAgg.j0, if_pos rfl]
    exact .no (fun g => hc ⟨g.c0, g.c1⟩)

theorem impl_good {a : Ag} (_hr : Rg a) {k : Nat} (hk : 20 < k) : Tells (Good a) (impl_GoodAgg.f k a.c a.s a.mi a.ma a.h a.f) := impl_goodAll a hk

theorem spec_goodAll (a : Ag) {k : Nat} (hk : 20 < k) : Tells (Good a) (spec_GoodAgg.f k a.c a.s a.mi a.ma a.h a.f) := by
  obtain ⟨c, s, mi, ma, h, f⟩ := a
  simp only
  obtain ⟨k, rfl⟩ : ∃ m, k = m + 15 := ⟨k - 15, by omega⟩
  unfold spec_GoodAgg.f
  rw [l1In_ok, Option.bind_some]
  by_cases hc : 0 ≤ c ∧ c ≤ 1000000000
  · rw [decide_eq_true hc, if_pos rfl]
    rw [show k + 15 = (k + 14) + 1 from rfl, spec_GoodAgg.j0]
    by_cases hl : h.length = 8
    · rw [if_neg (by simp [hl])]
      have hs := gs_l0 (h := h) (by omega) c s mi ma h f 8
      by_cases hn : Nums h
      · obtain ⟨i1, _⟩ := hs (k + 6) 0 0 (by omega) (by omega) (by omega)
        have i1' := i1 (by rw [List.drop_zero]; exact hn)
        rw [List.drop_zero, Int.zero_add] at i1'
        have e0 : ((0 : Nat) : Int) = 0 := rfl
        rw [e0] at i1'
        rw [show k + 14 = k + 6 + 8 from rfl, i1']
        have hsum := hn.sum_bound
        conv => arg 2; unfold spec_GoodAgg.l0
        rw [if_neg (by omega)]
        have em : wrap64 (-1000000000 * c) = -1000000000 * c := w64 (by omega) (by omega)
        have ep : wrap64 (1000000000 * c) = 1000000000 * c := w64 (by omega) (by omega)
        by_cases c0 : c = 0
        · rw [if_pos c0]
          by_cases s0 : h.sum = 0
          · rw [if_pos s0]
            by_cases m0 : mi = 0
            · rw [if_pos m0]
              by_cases m1 : ma = 0
              · rw [if_pos m1]
                by_cases t0 : s = 0
                · rw [if_pos t0]
                  cases f
                  · exact .yes ⟨hc.1, hc.2, hl, hn, fun _ => t0, fun _ => ⟨by simp only; omega, by simp only; omega, by simp only; omega⟩, fun _ => ⟨m0, m1, s0, rfl⟩, fun h' => absurd c0 h'⟩
                  · exact .no (fun g => absurd (g.zero c0).2.2.2 (by simp))
                · rw [if_neg t0]
                  exact .no (fun g => t0 (by have h1 := g.notfull (g.zero c0).2.2.2; simp only at h1; omega))
              · rw [if_neg m1]; exact .no (fun g => m1 (g.zero c0).2.1)
            · rw [if_neg m0]; exact .no (fun g => m0 (g.zero c0).1)
          · rw [if_neg s0]; exact .no (fun g => s0 (g.zero c0).2.2.1)
        · have hj2 : ∀ (b : Bool), (b = false → -1000000000 ≤ mi ∧ mi ≤ ma ∧ ma ≤ 1000000000) → (b = true → ¬ Good ⟨c, s, mi, ma, h, f⟩) → Tells (Good ⟨c, s, mi, ma, h, f⟩) (spec_GoodAgg.j2 (k + 5) h.sum b c s mi ma h f) := by
            intro b hb hb'
            rw [show k + 5 = (k + 4) + 1 from rfl, spec_GoodAgg.j2]
            by_cases b0 : b = true
            · rw [if_pos b0]; exact .no (hb' b0)
            have hv := hb (Bool.eq_false_iff.2 b0)
            rw [if_neg b0]
            cases f
            · rw [if_neg (by decide)]
              by_cases hsc : h.sum = c
              · rw [if_pos hsc, l1In_ok, Option.bind_some, em, ep]
                by_cases hs' : -1000000000 * c ≤ s ∧ s ≤ 1000000000 * c
                · rw [decide_eq_true hs']
                  exact .yes ⟨hc.1, hc.2, hl, hn, fun h' => absurd h' (by simp), fun _ => ⟨hsc, hs'.1, hs'.2⟩, fun h' => absurd h' c0, fun _ => hv⟩
                · rw [decide_eq_false hs']; exact .no (fun g => hs' (g.notfull rfl).2)
              · rw [if_neg hsc]; exact .no (fun g => hsc (g.notfull rfl).1)
            · rw [if_pos rfl]
              by_cases t0 : s = 0
              · rw [show (s == 0) = true from beq_iff_eq.2 t0]
                exact .yes ⟨hc.1, hc.2, hl, hn, fun _ => t0, fun h' => absurd h' (by simp), fun h' => absurd h' c0, fun _ => hv⟩
              · rw [show (s == 0) = false from beq_eq_false_iff_ne.2 t0]; exact .no (fun g => t0 (g.full rfl))
          rw [if_neg c0, l4Value_ok, Option.bind_some]
          by_cases v1 : -1000000000 ≤ mi ∧ mi ≤ 1000000000
          · rw [decide_eq_true v1, if_pos rfl, l4Value_ok, Option.bind_some]
            by_cases v2 : -1000000000 ≤ ma ∧ ma ≤ 1000000000
            · rw [decide_eq_true v2, if_pos rfl]
              by_cases v3 : mi > ma
              · rw [decide_eq_true v3]
                exact hj2 true (fun h' => absurd h' (by decide)) (fun _ g => by have := g.some c0; simp only at this; omega)
              · rw [decide_eq_false v3]
                exact hj2 false (fun _ => ⟨v1.1, by omega, v2.2⟩) (fun h' => absurd h' (by decide))
            · rw [decide_eq_false v2, if_neg (by decide)]
              exact hj2 true (fun h' => absurd h' (by decide)) (fun _ g => v2 (by have := g.some c0; simp only at this; omega))
          · rw [decide_eq_false v1, if_neg (by decide)]
            exact hj2 true (fun h' => absurd h' (by decide)) (fun _ g => v1 (by have := g.some c0; simp only at this; omega))
      · obtain ⟨_, i2⟩ := hs (k + 5) 0 0 (by omega) (by omega) (by omega)
        have i2' := i2 (by rw [List.drop_zero]; exact hn)
        have e0 : ((0 : Nat) : Int) = 0 := rfl
        rw [e0] at i2'
        rw [show k + 14 = k + 5 + 8 + 1 from rfl, i2']
        exact .no (fun g => hn g.nums)
    · rw [if_pos (by simp only [bne_iff_ne, ne_eq]; omega)]
      exact .no (fun g => hl g.len)
  · rw [decide_eq_false hc, if_neg (by decide)]
    rw [show k + 15 = (k + 14) + 1 from rfl, spec_GoodAgg.j0, if_pos rfl]
    exact .no (fun g => hc ⟨g.c0, g.c1⟩)

theorem spec_good {a : Ag} (_hr : Rg a) {k : Nat} (hk : 20 < k) : Tells (Good a) (spec_GoodAgg.f k a.c a.s a.mi a.ma a.h a.f) := spec_goodAll a hk

end Go.Proofs.YtkgmoajdcibafaaDoor.Lem

/- Boards: the program's GoodBoard and the specification's answer alike at every board. -/
namespace Go.Proofs.YtkgmoajdcibafaaDoor.Lem
open Go Go.RowKit Go.Proofs.YtkgmoajdcibafaaDoor.P Go.Proofs.YtkgmoajdcibafaaDoorW.PrintWords Go.Proofs.YtkgmoajdcibafaaDoorW.PrintLast Go.Proofs.YtkgmoajdcibafaaDoorW.PrintMore

abbrev Wn := S37
theorem rdW_get {l : List Wn} {i : Nat} (h : i < l.length) : rd_T37 l (i : Int) = l[i] := by
  unfold rd_T37
  rw [Int.toNat_natCast, List.getD_eq_getElem?_getD, List.getElem?_eq_getElem h]
  rfl
def keyOf (w : Wn) : Bool := keyB w.f0.f0 w.f0.f1 w.f0.f2
theorem agg_both (w : Wn) {k : Nat} (hk : 20 < k) : ∃ b, spec_GoodAgg.f k w.f1.f0 w.f1.f1 w.f1.f2 w.f1.f3 w.f1.f4 w.f1.f5 = some b ∧ impl_GoodAgg.f k w.f1.f0 w.f1.f1 w.f1.f2 w.f1.f3 w.f1.f4 w.f1.f5 = some b := by
  have h1 := spec_goodAll ⟨w.f1.f0, w.f1.f1, w.f1.f2, w.f1.f3, w.f1.f4, w.f1.f5⟩ hk
  have h2 := impl_goodAll ⟨w.f1.f0, w.f1.f1, w.f1.f2, w.f1.f3, w.f1.f4, w.f1.f5⟩ hk
  by_cases g : Good ⟨w.f1.f0, w.f1.f1, w.f1.f2, w.f1.f3, w.f1.f4, w.f1.f5⟩
  · exact ⟨true, h1.1 g, h2.1 g⟩
  · exact ⟨false, h1.2 g, h2.2 g⟩
theorem board_l0 (sz ho ma : Int) (hs : 1 ≤ sz) (l : List Wn) (hl : l.length ≤ 40) : ∀ (d i k : Nat), i + d = l.length → 2 * d + 40 < k → (0 < i → keyOf (rd_T37 l ((i - 1 : Nat) : Int)) = true) →
    Both (spec_GoodBoard.l0 k l (l.length : Int) (i : Int) sz ho ma l) (impl_GoodBoard.l0 k l (l.length : Int) (i : Int) sz ho ma l) := by
  intro d
  induction d with
  | zero =>
    intro i k hi hk _
    obtain ⟨k, rfl⟩ : ∃ q, k = q + 1 := ⟨k - 1, by omega⟩
    exact .of true (by rw [spec_GoodBoard.l0, if_neg (by omega)]) (by rw [impl_GoodBoard.l0, if_neg (by omega)])
  | succ d ih =>
    intro i k hi hk hprev
    obtain ⟨k, rfl⟩ : ∃ q, k = q + 2 := ⟨k - 2, by omega⟩
    have hlt : i < l.length := by omega
    have e0 : rd_T37 l (i : Int) = l[i] := rdW_get hlt
    have ew : wrap64 ((i : Int) + 1) = ((i + 1 : Nat) : Int) := by rw [w64 (by omega) (by omega)]; omega
    -- what is behind the conditions
    have hj : ∀ (x : Bool), keyOf l[i] = true → Both (spec_GoodBoard.j2 (k + 1) (i : Int) l (l.length : Int) (i : Int) x sz ho ma l l[i].f0.f0 l[i].f0.f1 l[i].f0.f2 l[i].f1.f0 l[i].f1.f1 l[i].f1.f2 l[i].f1.f3 l[i].f1.f4 l[i].f1.f5 l[i].f2 l[i].f3)
        (impl_GoodBoard.j2 (k + 1) (i : Int) l (l.length : Int) (i : Int) x sz ho ma l l[i].f0.f0 l[i].f0.f1 l[i].f0.f2 l[i].f1.f0 l[i].f1.f1 l[i].f1.f2 l[i].f1.f3 l[i].f1.f4 l[i].f1.f5 l[i].f2 l[i].f3) := by
      intro x hx
      have hnext := ih (i + 1) k (by omega) (by omega) (fun _ => by rw [Nat.add_sub_cancel, e0]; exact hx)
      rw [spec_GoodBoard.j2, impl_GoodBoard.j2, ew]
      refine .ite (fun _ => .of false rfl rfl) (fun _ => .ite (fun h0 => ?_) (fun _ => hnext))
      have e3 : wrap64 ((i : Int) - 1) = ((i - 1 : Nat) : Int) := by rw [w64 (by omega) (by omega)]; omega
      have hp : keyOf (rd_T37 l ((i - 1 : Nat) : Int)) = true := hprev (by omega)
      rw [e3]
      exact .yes (by omega) (.yes (by omega) (.bind (specCompare_ok hp hx (by omega)) (implCompare_ok hp hx (by omega)) (.ite (fun _ => .of false rfl rfl) (fun _ => hnext))))
    have hjt : Both (spec_GoodBoard.j2 (k + 1) (i : Int) l (l.length : Int) (i : Int) true sz ho ma l l[i].f0.f0 l[i].f0.f1 l[i].f0.f2 l[i].f1.f0 l[i].f1.f1 l[i].f1.f2 l[i].f1.f3 l[i].f1.f4 l[i].f1.f5 l[i].f2 l[i].f3)
        (impl_GoodBoard.j2 (k + 1) (i : Int) l (l.length : Int) (i : Int) true sz ho ma l l[i].f0.f0 l[i].f0.f1 l[i].f0.f2 l[i].f1.f0 l[i].f1.f1 l[i].f1.f2 l[i].f1.f3 l[i].f1.f4 l[i].f1.f5 l[i].f2 l[i].f3) := .of false (by rw [spec_GoodBoard.j2, if_pos rfl]) (by rw [impl_GoodBoard.j2, if_pos rfl])
    obtain ⟨b, hb1, hb2⟩ := agg_both l[i] (k := k + 1) (by omega)
    rw [spec_GoodBoard.l0, impl_GoodBoard.l0, e0]
    refine .yes (by omega) (.yes (by omega) (.yes (by omega) (.bind (specKey_ok _ _ _ (by omega)) (implKey_ok _ _ _ (by omega)) (.ite (fun hk1 => ?_) (fun _ => hjt)))))
    exact .no (by omega) (.ite (fun _ => .bind hb1 hb2 (.ite (fun _ => .ite (fun _ => hjt) (fun _ => .bind (l1InB_ok _ _ _) (withinB_ok _ _ _) (.ite (fun _ => .ite (fun _ => hj _ hk1) (fun _ => hj _ hk1)) (fun _ => hjt)))) (fun _ => hjt))) (fun _ => hjt))

theorem isSize_ok (n : Int) : impl_isSize.f n = some (decide (1 ≤ n) && decide (n ≤ 100000)) := by unfold impl_isSize.f; rw [withinB_ok]; rfl
theorem isTime_ok (n : Int) : impl_isTime.f n = some (decide (0 ≤ n) && decide (n ≤ 1000000000)) := by unfold impl_isTime.f; rw [withinB_ok]; rfl
theorem l11Time_ok (n : Int) : spec_l11Time.f n = some (decide (0 ≤ n) && decide (n ≤ 1000000000)) := by unfold spec_l11Time.f; rw [l1InB_ok]; rfl
theorem board_both (sz ho ma : Int) (l : List Wn) {k : Nat} (hk : 200 < k) : Both (spec_GoodBoard.f k sz ho ma l) (impl_GoodBoard.f k sz ho ma l) := by
  obtain ⟨k, rfl⟩ : ∃ q, k = q + 1 := ⟨k - 1, by omega⟩
  have hjt : Both (spec_GoodBoard.j0 (k + 1) true sz ho ma l) (impl_GoodBoard.j0 (k + 1) true sz ho ma l) := .of false (by rw [spec_GoodBoard.j0, if_pos rfl]) (by rw [impl_GoodBoard.j0, if_pos rfl])
  unfold spec_GoodBoard.f impl_GoodBoard.f
  refine .bind (l1InB_ok _ _ _) (isSize_ok _) (.ite (fun e1 => .bind (l1InB_ok _ _ _) (withinB_ok _ _ _) (.ite (fun _ => .bind (l11Time_ok _) (isTime_ok _) (.ite (fun _ => ?_) (fun _ => hjt))) (fun _ => hjt))) (fun _ => hjt))
  rw [spec_GoodBoard.j0, impl_GoodBoard.j0]
  refine .ite (fun _ => .of false rfl rfl) (fun h => ?_)
  rw [decide_eq_true_eq] at h
  rw [Bool.and_eq_true] at e1
  exact board_l0 sz ho ma (of_decide_eq_true e1.1) l (by omega) l.length 0 k (by omega) (by omega) (fun h => absurd h (by omega))
end Go.Proofs.YtkgmoajdcibafaaDoor.Lem

/- Keys that come in: their size, their copies, and that a copy equals itself. -/
namespace Go.Proofs.YtkgmoajdcibafaaDoor.Lem
open Go Go.RowKit Go.Proofs.YtkgmoajdcibafaaDoor.P Go.Proofs.YtkgmoajdcibafaaDoorW.PrintWords Go.Proofs.YtkgmoajdcibafaaDoorW.PrintLast Go.Proofs.YtkgmoajdcibafaaDoorW.PrintMore

abbrev Lt := S119
theorem rdL_get {l : List Lt} {i : Nat} (h : i < l.length) : rd_T119 l (i : Int) = l[i] := by
  unfold rd_T119
  rw [Int.toNat_natCast, List.getD_eq_getElem?_getD, List.getElem?_eq_getElem h]
  rfl
/-- Texts that Go can hold. -/
def Held (l : List Lt) : Prop := ∀ t ∈ l, t.f0.size ≤ 9223372036854775807 ∧ t.f1.size ≤ 9223372036854775807

theorem szTag_ok {a b : ByteArray} (ha : a.size ≤ 9223372036854775807) (hb : b.size ≤ 9223372036854775807) {x : Int} (h0 : 0 ≤ x) (h1 : x ≤ 1048576) : ∃ r, laws_szTag.f a b x = some r ∧ (r < 0 ∨ (0 ≤ r ∧ r ≤ x)) := by
  unfold laws_szTag.f
  rw [show wrap64 (x - (a.size : Int)) = x - (a.size : Int) from w64 (by omega) (by omega)]
  by_cases h : x - (a.size : Int) < 0
  · exact ⟨-1, by rw [if_pos h], .inl (by omega)⟩
  · rw [if_neg h, show wrap64 (x - (a.size : Int) - (b.size : Int)) = x - (a.size : Int) - (b.size : Int) from w64 (by omega) (by omega)]
    by_cases h2 : x - (a.size : Int) - (b.size : Int) < 0
    · exact ⟨-1, by rw [if_pos h2], .inl (by omega)⟩
    · exact ⟨_, by rw [if_neg h2], .inr ⟨by omega, by omega⟩⟩
theorem szTagS_l0 (l : List Lt) (hl : l.length ≤ 1048576) (hh : Held l) : ∀ (d i k : Nat) (x : Int), i + d = l.length → d < k → 0 ≤ x → x ≤ 1048576 → ∃ r, laws_szTagS.l0 k l x (i : Int) = some r ∧ (r < 0 ∨ (0 ≤ r ∧ r ≤ x)) := by
  intro d
  induction d with
  | zero =>
    intro i k x hi hk h0 h1
    obtain ⟨k, rfl⟩ : ∃ q, k = q + 1 := ⟨k - 1, by omega⟩
    exact ⟨x, by rw [laws_szTagS.l0, if_neg (by omega)], .inr ⟨h0, Int.le_refl _⟩⟩
  | succ d ih =>
    intro i k x hi hk h0 h1
    obtain ⟨k, rfl⟩ : ∃ q, k = q + 1 := ⟨k - 1, by omega⟩
    have hlt : i < l.length := by omega
    obtain ⟨ha, hb⟩ := hh l[i] (List.getElem_mem hlt)
    obtain ⟨r, hr, hr2⟩ := szTag_ok ha hb h0 h1
    rw [laws_szTagS.l0, if_pos (by omega), if_pos (by omega), rdL_get hlt, hr, Option.bind_some]
    by_cases hn : r < 0
    · exact ⟨-1, by rw [if_pos hn], .inl (by omega)⟩
    · rw [if_neg hn, show wrap64 ((i : Int) + 1) = ((i + 1 : Nat) : Int) from by rw [w64 (by omega) (by omega)]; omega]
      obtain ⟨r2, hq, hq2⟩ := ih (i + 1) k r (by omega) (by omega) (by omega) (by omega)
      exact ⟨r2, hq, by omega⟩
theorem szTagS_ok {l : List Lt} (hl : l.length ≤ 9223372036854775807) (hh : Held l) {x : Int} (h0 : 0 ≤ x) (h1 : x ≤ 1048576) {k : Nat} (hk : l.length < k ∨ 1048576 < k) : ∃ r, laws_szTagS.f k l x = some r ∧ (r < 0 ∨ (0 ≤ r ∧ r ≤ x ∧ l.length ≤ 1048576)) := by
  unfold laws_szTagS.f
  rw [show wrap64 (x - (l.length : Int)) = x - (l.length : Int) from w64 (by omega) (by omega)]
  by_cases h : x - (l.length : Int) < 0
  · exact ⟨-1, by rw [if_pos h], .inl (by omega)⟩
  · rw [if_neg h]
    obtain ⟨r, hr, hr2⟩ := szTagS_l0 l (by omega) hh l.length 0 k (x - (l.length : Int)) (by omega) (by omega) (by omega) (by omega)
    exact ⟨r, hr, by omega⟩
theorem szKey_ok {m : ByteArray} (hm : m.size ≤ 9223372036854775807) {l : List Lt} (hl : l.length ≤ 9223372036854775807) (hh : Held l) (st : Int) {x : Int} (h0 : 0 ≤ x) (h1 : x ≤ 1048576) {k : Nat} (hk : l.length < k ∨ 1048576 < k) : ∃ r, laws_szKey.f k m l st x = some r ∧ (r < 0 ∨ (0 ≤ r ∧ r ≤ x ∧ l.length ≤ 1048576)) := by
  unfold laws_szKey.f
  rw [show wrap64 (x - (m.size : Int)) = x - (m.size : Int) from w64 (by omega) (by omega)]
  by_cases h : x - (m.size : Int) < 0
  · exact ⟨-1, by rw [if_pos h], .inl (by omega)⟩
  · rw [if_neg h]
    obtain ⟨r, hr, hr2⟩ := szTagS_ok hl hh (x := x - (m.size : Int)) (by omega) (by omega) hk
    rw [hr, Option.bind_some]
    by_cases hn : r < 0
    · exact ⟨-1, by rw [if_pos hn], .inl (by omega)⟩
    · exact ⟨r, by rw [if_neg hn], by omega⟩

/-- The tag as the program has it. -/
def cvT (t : Lt) : Tg := ⟨t.f0, t.f1⟩
theorem set_copy {α β : Type} (f : α → β) (z : β) {l : List α} {i d : Nat} (h : i < l.length) : ((l.take i).map f ++ List.replicate (d + 1) z).set i (f l[i]) = (l.take (i + 1)).map f ++ List.replicate d z := by
  have hl : ((l.take i).map f).length = i := by rw [List.length_map, List.length_take]; omega
  rw [List.set_append_right _ _ (by omega), hl, Nat.sub_self, List.replicate_succ, List.set_cons_zero, List.take_succ_eq_append_getElem h, List.map_append, List.append_assoc]
  rfl
theorem toTagS_l0 {l : List Lt} (hl : l.length ≤ 1048576) : ∀ (d k i : Nat), i + d = l.length → d < k → laws_toTagS.l0 k l ((l.take i).map cvT ++ List.replicate d z123) (i : Int) = some (l.map cvT) := by
  intro d
  induction d with
  | zero =>
    intro k i hi hk
    obtain ⟨k, rfl⟩ : ∃ q, k = q + 1 := ⟨k - 1, by omega⟩
    rw [laws_toTagS.l0, if_neg (by omega), List.take_of_length_le (by omega), List.replicate_zero, List.append_nil]
  | succ d ih =>
    intro k i hi hk
    obtain ⟨k, rfl⟩ : ∃ q, k = q + 1 := ⟨k - 1, by omega⟩
    have hlt : i < l.length := by omega
    have hnext := ih k (i + 1) (by omega) (by omega)
    rw [laws_toTagS.l0, if_pos (by omega), if_pos (by omega), rdL_get hlt]
    unfold laws_toTag.f
    rw [Option.bind_some, if_pos (by rw [List.length_append, List.length_map, List.length_take, List.length_replicate]; omega), Int.toNat_natCast, show wrap64 ((i : Int) + 1) = ((i + 1 : Nat) : Int) from by rw [w64 (by omega) (by omega)]; omega]
    have e := set_copy cvT z123 (d := d) hlt
    show laws_toTagS.l0 k l (((l.take i).map cvT ++ List.replicate (d + 1) z123).set i (cvT l[i])) _ = _
    rw [e]
    exact hnext
theorem toTagS_ok {l : List Lt} (hl : l.length ≤ 1048576) {k : Nat} (hk : l.length < k) : laws_toTagS.f k l = some (l.map cvT) := by
  unfold laws_toTagS.f
  rw [if_pos (by omega), if_pos (by rw [Int.toNat_natCast]; omega), Int.toNat_natCast]
  have h := toTagS_l0 hl l.length k 0 (by omega) hk
  rw [List.take_zero, List.map_nil, List.nil_append] at h
  exact h
theorem toKey_ok (m : ByteArray) {l : List Lt} (hl : l.length ≤ 1048576) (st : Int) {k : Nat} (hk : l.length < k) : laws_toKey.f k m l st = some (m, l.map cvT, st) := by
  unfold laws_toKey.f
  rw [toTagS_ok hl hk, Option.bind_some]

theorem eqTagS_l0 (l : List Tg) (hl : l.length ≤ 1048576) : ∀ (d i k : Nat), i + d = l.length → d < k → laws_eqTagS.l0 k l l (i : Int) = some true := by
  intro d
  induction d with
  | zero =>
    intro i k hi hk
    obtain ⟨k, rfl⟩ : ∃ q, k = q + 1 := ⟨k - 1, by omega⟩
    rw [laws_eqTagS.l0, if_neg (by omega)]
  | succ d ih =>
    intro i k hi hk
    obtain ⟨k, rfl⟩ : ∃ q, k = q + 1 := ⟨k - 1, by omega⟩
    have hnext := ih (i + 1) k (by omega) (by omega)
    rw [laws_eqTagS.l0, if_pos (by omega), if_pos (by omega), if_pos (by omega)]
    unfold laws_eqTag.f
    rw [if_pos rfl, if_pos rfl, Option.bind_some, if_pos rfl, show wrap64 ((i : Int) + 1) = ((i + 1 : Nat) : Int) from by rw [w64 (by omega) (by omega)]; omega]
    exact hnext
theorem eqTagS_ok {l : List Tg} (hl : l.length ≤ 1048576) {k : Nat} (hk : l.length < k) : laws_eqTagS.f k l l = some true := by
  unfold laws_eqTagS.f
  rw [if_pos rfl]
  exact eqTagS_l0 l hl l.length 0 k (by omega) hk
theorem eqKey_ok (m : ByteArray) {l : List Tg} (hl : l.length ≤ 1048576) (st : Int) {k : Nat} (hk : l.length < k) : laws_eqKey.f k m l st m l st = some true := by
  unfold laws_eqKey.f
  rw [if_pos rfl, eqTagS_ok hl hk, Option.bind_some, if_pos rfl, if_pos rfl]
end Go.Proofs.YtkgmoajdcibafaaDoor.Lem

/- An argument of a row, opened by its type: what reads as a value of the type is of the printed kind, at whatever depth. -/
namespace Go.Proofs.YtkgmoajdcibafaaDoor.Lem
open Go Go.ChangeShapes Go.WideShapes Go.RowKit Go.Proofs.YtkgmoajdcibafaaDoor.P Go.Proofs.YtkgmoajdcibafaaDoorW.PrintWords Go.Proofs.YtkgmoajdcibafaaDoorW.PrintLast Go.Proofs.YtkgmoajdcibafaaDoorW.PrintMore

theorem list_of {α : Type} {p : Nat → α → Prop} : ∀ n, (∀ i, i < n → ∃ z, p i z) → ∃ l : List α, l.length = n ∧ ∀ i z, l[i]? = some z → p i z
  | 0, _ => ⟨[], rfl, fun i z h => by simp at h⟩
  | n + 1, h => by
    obtain ⟨l, hl, hp⟩ := list_of n (fun i hi => h i (by omega))
    obtain ⟨z, hz⟩ := h n (by omega)
    refine ⟨l ++ [z], by rw [List.length_append, hl]; rfl, fun i y hy => ?_⟩
    rcases Nat.lt_or_ge i l.length with hi | hi
    · rw [List.getElem?_append_left hi] at hy
      exact hp i y hy
    · have hi' : i = l.length := by
        have := (List.getElem?_eq_some_iff.1 hy).1
        rw [List.length_append, List.length_singleton] at this
        omega
      subst hi'
      have : z = y := by simpa using hy
      subst this
      rw [hl]
      exact hz

theorem addr_add2 (a : Addr) (x y : Nat) : (a.add x).add y = a.add (x + y) := by
  unfold Addr.add
  by_cases hx : x = 0
  · subst hx
    rw [if_pos rfl, Nat.zero_add]
  · by_cases hy : y = 0
    · subst hy
      rw [if_pos rfl, Nat.add_zero]
    · rw [if_neg hx, if_neg hy, if_neg (by omega)]
      simp only [Nat.add_assoc]
section
variable {H : Type} (enc : TypeId × Value → H) (P : Program) (w : World) (base : Nat) (spare : Nat → Bool) (held : Bool)
/-- What reads as a value of the type is of the kind, and good. -/
def Opens {α : Type} (d : Kd α) (t : TypeId) (g : α → Prop) : Prop :=
  ∀ (fuel : Nat) (cs : List Value) (x : DataW H × List MemPlace), DataW.trod enc P w base spare held fuel t cs = some x → ∃ a, d.K w a cs ∧ g a
/-- .. a struct's fields from a place on. -/
def OpensF {α : Type} (d : Kd α) (fs : List Field) (o : Nat) (g : α → Prop) : Prop :=
  ∀ (n : Nat) (cs : List Value) (xs : List (DataW H × List MemPlace)), xs.length = fs.length → cs.length = o + (fs.map fun f => P.cellsOf f.type).sum →
    (∀ (i : Nat) (f : Field), fs[i]? = some f → DataW.trod enc P w base spare held n f.type ((cs.drop f.offset).take (P.cellsOf f.type)) = xs[i]?) → ∃ a, d.K w a (cs.drop o) ∧ g a
variable {enc P w base spare held}
variable {α β : Type} {t e : TypeId}
theorem opens_int {k : IntKind} (ht : P.underlying t = some (.int k)) : Opens enc P w base spare held (Kd.int k) t (fun n => (Lit.int k n).wf = true) := fun fuel cs x h => by
  obtain ⟨n, rfl, _, hw⟩ := DataW.trod_int ht h
  exact ⟨n, rfl, hw⟩
theorem opens_bool (ht : P.underlying t = some .bool) : Opens enc P w base spare held Kd.bool t (fun _ => True) := fun fuel cs x h => by
  obtain ⟨b, rfl, _⟩ := DataW.trod_bool ht h
  exact ⟨b, rfl, trivial⟩
theorem opens_string (ht : P.underlying t = some .string) : Opens enc P w base spare held Kd.string t (fun s => s.size ≤ maxLen) := fun fuel cs x h => by
  obtain ⟨s, rfl, _, hs⟩ := DataW.trod_string ht h
  exact ⟨s, rfl, hs⟩
theorem opens_slice {d : Kd α} {g : α → Prop} (e' : Nat) (ht : P.underlying t = some (.slice e)) (hd : Opens enc P w base spare held d e g) (hc : P.cellsOf e = d.sz) :
    Opens enc P w base spare held (Kd.slice e' d) t (fun l => l.length ≤ maxLen ∧ ∀ a ∈ l, g a) := fun fuel cs x h => by
  rcases DataW.trod_slice ht h with ⟨rfl, _⟩ | ⟨a, len, cap, elems, rest, n, _, rfl, _, hb, hl, hm, hlen, hel, _, _⟩
  · exact ⟨[], ⟨none, 0, rfl, Nat.le_refl _, rfl, Nat.zero_le _, fun h => absurd h (Nat.lt_irrefl _)⟩, Nat.zero_le _, fun a h => by simp at h⟩
  · have each : ∀ i, i < len → ∃ z, (∃ c, c.length = d.sz ∧ d.K w z c ∧ ∀ j u, c[j]? = some u → w.cell? (a.add (i * d.sz + j)) = some u) ∧ g z := by
      intro i hi
      have h1 := hel i hi
      rw [List.getElem?_eq_getElem (by omega), Option.bind_eq_some_iff] at h1
      obtain ⟨cs', hcs, ht'⟩ := h1
      obtain ⟨z, hz, hg⟩ := hd _ _ _ ht'
      obtain ⟨_, hl', hcell⟩ := World.cells?_some hcs
      refine ⟨z, ⟨cs', by rw [← hc]; exact hl', hz, fun j u hj => ?_⟩, hg⟩
      have hj' : j < P.cellsOf e := by have := (List.getElem?_eq_some_iff.1 hj).1; omega
      have h2 := hcell j hj'
      rw [hj, hc] at h2
      have ea : (a.add (i * d.sz)).add j = a.add (i * d.sz + j) := addr_add2 a _ _
      rw [← ea]
      exact h2
    obtain ⟨l, hll, hp⟩ := list_of len each
    subst hll
    have hml : l.length ≤ maxLen := Nat.le_trans hl hm
    refine ⟨l, ⟨some a, cap, rfl, hl, rfl, Nat.le_trans hml (of_decide_eq_true (by kernel_rfl)), fun _ => ⟨a, rfl, fun j z hz => (hp j z hz).1⟩⟩, hml, fun z hz => ?_⟩
    obtain ⟨i, hi⟩ := List.getElem?_of_mem hz
    exact (hp i z hi).2
theorem opensF_one {d : Kd α} {g : α → Prop} {f : Field} {o : Nat} (ho : f.offset = o) (h : Opens enc P w base spare held d f.type g) : OpensF enc P w base spare held d [f] o g := fun n cs xs hx hl hf => by
  match xs, hx with
  | [y], _ =>
    obtain ⟨a, ha, hg⟩ := h _ _ _ (hf 0 f rfl)
    rw [List.map_cons, List.map_nil, List.sum_cons, List.sum_nil] at hl
    rw [ho, List.take_of_length_le (by rw [List.length_drop]; omega)] at ha
    exact ⟨a, ha, hg⟩
theorem opensF_cons {d : Kd α} {d2 : Kd β} {g : α → Prop} {g2 : β → Prop} {f : Field} {fs : List Field} {o : Nat} (ho : f.offset = o) (h : Opens enc P w base spare held d f.type g) (hr : OpensF enc P w base spare held d2 fs (o + P.cellsOf f.type) g2) :
    OpensF enc P w base spare held (Kd.pair d d2) (f :: fs) o (fun a => g a.1 ∧ g2 a.2) := fun n cs xs hx hl hf => by
  match xs, hx with
  | y :: ys, hx =>
    obtain ⟨a, ha, hg⟩ := h _ _ _ (hf 0 f rfl)
    rw [List.map_cons, List.sum_cons] at hl
    obtain ⟨b, hb, hg2⟩ := hr n cs ys (by simpa using hx) (by omega) (fun i f' hi => hf (i + 1) f' hi)
    rw [ho] at ha
    refine ⟨(a, b), ⟨_, _, ?_, ha, hb⟩, hg, hg2⟩
    rw [← List.drop_drop, List.take_append_drop]
theorem opens_struct {d : Kd α} {g : α → Prop} {fs : Array Field} (ht : P.underlying t = some (.struct fs)) (hc : P.cellsOf t = (fs.toList.map fun f => P.cellsOf f.type).sum) (h : OpensF enc P w base spare held d fs.toList 0 g) : Opens enc P w base spare held d t g := fun fuel cs x hx => by
  obtain ⟨xs, n, _, _, hl, hlen, hf⟩ := DataW.trod_struct ht hx
  have := h n cs xs (by rw [hlen]; simp) (by omega) (fun i f hi => hf i f (by simpa using hi))
  rw [List.drop_zero] at this
  exact this
theorem opens_iso {d : Kd α} {g : α → Prop} (f : β → α) (mk : α → β) (hmk : ∀ a, f (mk a) = a) (h : Opens enc P w base spare held d t g) : Opens enc P w base spare held (Kd.iso d f) t (fun b => g (f b)) := fun fuel cs x hx => by
  obtain ⟨a, ha, hg⟩ := h fuel cs x hx
  exact ⟨mk a, by show d.K w (f (mk a)) cs; rw [hmk]; exact ha, by show g (f (mk a)); rw [hmk]; exact hg⟩
end
end Go.Proofs.YtkgmoajdcibafaaDoor.Lem

/- What is known of a key that comes in as an argument: its texts and rows are no longer than memory. No conditions. -/
namespace Go.Proofs.YtkgmoajdcibafaaDoor.Lem
open Go Go.RowKit Go.Proofs.YtkgmoajdcibafaaDoor.P
theorem maxLen_le {n : Nat} (h : n ≤ maxLen) : n ≤ 9223372036854775807 := Nat.le_trans h (of_decide_eq_true (by kernel_rfl))
def GTag (t : S119) : Prop := t.f0.size ≤ maxLen ∧ t.f1.size ≤ maxLen
def GKey (k : S27) : Prop := k.f0.size ≤ maxLen ∧ (k.f1.length ≤ maxLen ∧ ∀ t ∈ k.f1, GTag t) ∧ (Lit.int .i64 k.f2).wf = true
end Go.Proofs.YtkgmoajdcibafaaDoor.Lem

/- What is known of an agg that comes in as an argument. No conditions. -/
namespace Go.Proofs.YtkgmoajdcibafaaDoor.Lem
open Go Go.RowKit Go.Proofs.YtkgmoajdcibafaaDoor.P
def GAgg (a : S92) : Prop := (Lit.int .i64 a.f0).wf = true ∧ (Lit.int .i64 a.f1).wf = true ∧ (Lit.int .i64 a.f2).wf = true ∧ (Lit.int .i64 a.f3).wf = true ∧ (a.f4.length ≤ maxLen ∧ ∀ n ∈ a.f4, (Lit.int .i64 n).wf = true) ∧ True
end Go.Proofs.YtkgmoajdcibafaaDoor.Lem

/- What is known of a window that comes in as an argument. No conditions. -/
namespace Go.Proofs.YtkgmoajdcibafaaDoor.Lem
open Go Go.RowKit Go.Proofs.YtkgmoajdcibafaaDoor.P
def GWin (w : S116) : Prop := GKey w.f0 ∧ GAgg w.f1 ∧ (Lit.int .i64 w.f2).wf = true ∧ True
end Go.Proofs.YtkgmoajdcibafaaDoor.Lem

/- Aggs that come in: their copies, and that a copy equals itself. -/
namespace Go.Proofs.YtkgmoajdcibafaaDoor.Lem
open Go Go.RowKit Go.Proofs.YtkgmoajdcibafaaDoor.P Go.Proofs.YtkgmoajdcibafaaDoorW.PrintWords Go.Proofs.YtkgmoajdcibafaaDoorW.PrintLast Go.Proofs.YtkgmoajdcibafaaDoorW.PrintMore

theorem rd_at1 {l : List Int} {i : Nat} (h : i < l.length) : l.drop i = rd l (i : Int) :: l.drop (i + 1) := by
  rw [List.drop_eq_getElem_cons h]
  unfold rd
  rw [Int.toNat_natCast, List.getD_eq_getElem?_getD, List.getElem?_eq_getElem h]
  rfl
/-! ### copies -/
theorem rd_set_copy {l : List Int} {i d : Nat} (hi : i + (d + 1) = l.length) : (l.take i ++ List.replicate (d + 1) 0).set i (rd l (i : Int)) = l.take (i + 1) ++ List.replicate d 0 := by
  have hl : (l.take i).length = i := by rw [List.length_take]; omega
  have hd := rd_at1 (l := l) (i := i) (by omega)
  have ht : l.take (i + 1) = l.take i ++ [rd l (i : Int)] := by
    have h1 := List.take_append_drop i l
    have h2 : l = (l.take i ++ [rd l (i : Int)]) ++ l.drop (i + 1) := by rw [List.append_assoc, List.singleton_append, ← hd, h1]
    have h3 : (l.take i ++ [rd l (i : Int)]).length = i + 1 := by rw [List.length_append, List.length_take, List.length_singleton]; omega
    have h4 := congrArg (List.take (i + 1)) h2
    rw [List.take_left' h3] at h4
    exact h4
  rw [ht, List.set_append_right _ _ (by omega), hl, Nat.sub_self, List.replicate_succ, List.set_cons_zero, List.append_assoc]
  rfl
theorem toInts_l0 {l : List Int} (hl : l.length ≤ 1048576) (d : Nat) : ∀ (k i : Nat), i + d = l.length → d < k → laws_toIntS.l0 k l (l.take i ++ List.replicate d 0) (i : Int) = some l := by
  induction d with
  | zero =>
    intro k i hi hk
    obtain ⟨k, rfl⟩ : ∃ m, k = m + 1 := ⟨k - 1, by omega⟩
    conv => lhs; unfold laws_toIntS.l0
    rw [if_neg (by omega), List.take_of_length_le (by omega), List.replicate_zero, List.append_nil]
  | succ d ih =>
    intro k i hi hk
    obtain ⟨k, rfl⟩ : ∃ m, k = m + 1 := ⟨k - 1, by omega⟩
    have hnext := ih k (i + 1) (by omega) (by omega)
    have ht : (l.take i).length = i := by rw [List.length_take]; omega
    conv => lhs; unfold laws_toIntS.l0
    rw [if_pos (by omega), if_pos (by omega), if_pos (by rw [List.length_append, List.length_replicate, ht]; omega), Int.toNat_natCast, rd_set_copy hi, show wrap64 ((i : Int) + 1) = ((i + 1 : Nat) : Int) from by rw [w64 (by omega) (by omega)]; omega]
    exact hnext
theorem toAgg_ok (c s mi ma : Int) {l : List Int} (hl : l.length ≤ 1048576) (f : Bool) {k : Nat} (hk : 1048576 < k) : laws_toAgg.f k c s mi ma l f = some (c, s, mi, ma, l, f) := by
  have h := toInts_l0 hl l.length k 0 (by omega) (by omega)
  rw [List.take_zero, List.nil_append] at h
  have h' : laws_toIntS.f k l = some l := by
    unfold laws_toIntS.f
    rw [if_pos (by omega), if_pos (by omega), Int.toNat_natCast]
    exact h
  unfold laws_toAgg.f
  rw [h', Option.bind_some]
theorem eqInts_l0 {l : List Int} (hl : l.length ≤ 1048576) (d : Nat) : ∀ (k i : Nat), i + d = l.length → d < k → laws_eqIntS.l0 k l l (i : Int) = some true := by
  induction d with
  | zero =>
    intro k i hi hk
    obtain ⟨k, rfl⟩ : ∃ m, k = m + 1 := ⟨k - 1, by omega⟩
    conv => lhs; unfold laws_eqIntS.l0
    rw [if_neg (by omega)]
  | succ d ih =>
    intro k i hi hk
    obtain ⟨k, rfl⟩ : ∃ m, k = m + 1 := ⟨k - 1, by omega⟩
    have hnext := ih k (i + 1) (by omega) (by omega)
    conv => lhs; unfold laws_eqIntS.l0
    rw [if_pos (by omega), if_pos (by omega), if_pos (by omega), if_pos rfl, show wrap64 ((i : Int) + 1) = ((i + 1 : Nat) : Int) from by rw [w64 (by omega) (by omega)]; omega]
    exact hnext
theorem eqAgg_ok (c s mi ma : Int) {l : List Int} (hl : l.length ≤ 1048576) (f : Bool) {k : Nat} (hk : 1048576 < k) : laws_eqAgg.f k c s mi ma l f c s mi ma l f = some true := by
  have h := eqInts_l0 hl l.length k 0 (by omega) (by omega)
  have h' : laws_eqIntS.f k l l = some true := by
    unfold laws_eqIntS.f
    rw [if_pos rfl]
    exact h
  unfold laws_eqAgg.f
  rw [if_pos rfl, if_pos rfl, if_pos rfl, if_pos rfl, h', Option.bind_some, if_pos rfl, if_neg (by cases f <;> decide)]


theorem szAgg_ok (c s mi ma : Int) {l : List Int} (hl : l.length ≤ 9223372036854775807) (f : Bool) {x : Int} (h0 : 0 ≤ x) (h1 : x ≤ 1048576) : ∃ r, laws_szAgg.f c s mi ma l f x = some r ∧ (r < 0 ∨ (0 ≤ r ∧ r ≤ x ∧ l.length ≤ 1048576)) := by
  unfold laws_szAgg.f laws_szIntS.f
  rw [show wrap64 (x - (l.length : Int)) = x - (l.length : Int) from w64 (by omega) (by omega)]
  by_cases h : x - (l.length : Int) < 0
  · exact ⟨-1, by rw [if_pos h, Option.bind_some, if_pos (by decide)], .inl (by omega)⟩
  · exact ⟨_, by rw [if_neg h, Option.bind_some, if_neg h], .inr ⟨by omega, by omega, by omega⟩⟩
end Go.Proofs.YtkgmoajdcibafaaDoor.Lem

/- Boards that are handed in: their measure, their copy, and that they are equal to themselves. -/
namespace Go.Proofs.YtkgmoajdcibafaaDoor.Lem
open Go Go.RowKit Go.Proofs.YtkgmoajdcibafaaDoor.P Go.Proofs.YtkgmoajdcibafaaDoorW.PrintWords Go.Proofs.YtkgmoajdcibafaaDoorW.PrintLast Go.Proofs.YtkgmoajdcibafaaDoorW.PrintMore

abbrev Lw := S116
theorem rdLw_get {l : List Lw} {i : Nat} (h : i < l.length) : rd_T116 l (i : Int) = l[i] := by
  unfold rd_T116
  rw [Int.toNat_natCast, List.getD_eq_getElem?_getD, List.getElem?_eq_getElem h]
  rfl
/-- A window that Go can hold. -/
def HeldW (w : Lw) : Prop := w.f0.f0.size ≤ 9223372036854775807 ∧ w.f0.f1.length ≤ 9223372036854775807 ∧ Held w.f0.f1 ∧ w.f1.f4.length ≤ 9223372036854775807
/-- A window that is no longer than the bound. -/
def Short (w : Lw) : Prop := w.f0.f1.length ≤ 1048576 ∧ w.f1.f4.length ≤ 1048576

theorem heldW {w : Lw} (h : GWin w) : HeldW w := ⟨maxLen_le h.1.1, maxLen_le h.1.2.1.1, fun t ht => ⟨maxLen_le (h.1.2.1.2 t ht).1, maxLen_le (h.1.2.1.2 t ht).2⟩, maxLen_le h.2.1.2.2.2.2.1.1⟩
theorem szWin_ok {w : Lw} (hw : HeldW w) {x : Int} (h0 : 0 ≤ x) (h1 : x ≤ 1048576) {k : Nat} (hk : 1048577 < k) : ∃ r, laws_szWin.f k w.f0.f0 w.f0.f1 w.f0.f2 w.f1.f0 w.f1.f1 w.f1.f2 w.f1.f3 w.f1.f4 w.f1.f5 w.f2 w.f3 x = some r ∧ (r < 0 ∨ (0 ≤ r ∧ r ≤ x ∧ Short w)) := by
  obtain ⟨hm, hl, hh, ha⟩ := hw
  unfold laws_szWin.f
  obtain ⟨r, hr, hr2⟩ := szKey_ok hm hl hh w.f0.f2 h0 h1 (k := k) (.inr (by omega))
  rw [hr, Option.bind_some]
  by_cases hn : r < 0
  · exact ⟨-1, by rw [if_pos hn], .inl (by omega)⟩
  · obtain ⟨r2, hq, hq2⟩ := szAgg_ok w.f1.f0 w.f1.f1 w.f1.f2 w.f1.f3 ha w.f1.f5 (x := r) (by omega) (by omega)
    rw [if_neg hn, hq, Option.bind_some]
    by_cases hn2 : r2 < 0
    · exact ⟨-1, by rw [if_pos hn2], .inl (by omega)⟩
    · exact ⟨r2, by rw [if_neg hn2], .inr ⟨by omega, by omega, by omega, by omega⟩⟩
theorem szWinS_l0 (l : List Lw) (hl : l.length ≤ 1048576) (hh : ∀ w ∈ l, HeldW w) : ∀ (d i k : Nat) (x : Int), i + d = l.length → d + 1048580 < k → 0 ≤ x → x ≤ 1048576 → ∃ r, laws_szWinS.l0 k l x (i : Int) = some r ∧ (r < 0 ∨ (0 ≤ r ∧ r ≤ x ∧ ∀ w ∈ l.drop i, Short w)) := by
  intro d
  induction d with
  | zero =>
    intro i k x hi hk h0 h1
    obtain ⟨k, rfl⟩ : ∃ q, k = q + 1 := ⟨k - 1, by omega⟩
    exact ⟨x, by rw [laws_szWinS.l0, if_neg (by omega)], .inr ⟨h0, Int.le_refl _, fun w hw => by rw [List.drop_of_length_le (by omega)] at hw; simp at hw⟩⟩
  | succ d ih =>
    intro i k x hi hk h0 h1
    obtain ⟨k, rfl⟩ : ∃ q, k = q + 1 := ⟨k - 1, by omega⟩
    have hlt : i < l.length := by omega
    obtain ⟨r, hr, hr2⟩ := szWin_ok (hh l[i] (List.getElem_mem hlt)) h0 h1 (k := k) (by omega)
    rw [laws_szWinS.l0, if_pos (by omega), if_pos (by omega), rdLw_get hlt, hr, Option.bind_some]
    by_cases hn : r < 0
    · exact ⟨-1, by rw [if_pos hn], .inl (by omega)⟩
    · rw [if_neg hn, show wrap64 ((i : Int) + 1) = ((i + 1 : Nat) : Int) from by rw [w64 (by omega) (by omega)]; omega]
      have hr3 : 0 ≤ r ∧ r ≤ x ∧ Short l[i] := by
        rcases hr2 with h | h
        · exact absurd h hn
        · exact h
      obtain ⟨r2, hq, hq2⟩ := ih (i + 1) k r (by omega) (by omega) (by omega) (by omega)
      refine ⟨r2, hq, ?_⟩
      rcases hq2 with h | ⟨h, h', h''⟩
      · exact .inl h
      · refine .inr ⟨h, by omega, fun w hw => ?_⟩
        rw [drop_get hlt] at hw
        rcases List.mem_cons.1 hw with rfl | hw
        · exact hr3.2.2
        · exact h'' w hw
theorem szBoard_ok (a b c : Int) {l : List Lw} (hl : l.length ≤ 9223372036854775807) (hh : ∀ w ∈ l, HeldW w) {k : Nat} (hk : 2097160 < k) : ∃ r, laws_szBoard.f k a b c l 1048576 = some r ∧ (r < 0 ∨ (0 ≤ r ∧ l.length ≤ 1048576 ∧ ∀ w ∈ l, Short w)) := by
  unfold laws_szBoard.f laws_szWinS.f
  rw [show wrap64 (1048576 - (l.length : Int)) = 1048576 - (l.length : Int) from w64 (by omega) (by omega)]
  by_cases h : 1048576 - (l.length : Int) < 0
  · exact ⟨-1, by rw [if_pos h, Option.bind_some, if_pos (by decide)], .inl (by omega)⟩
  · rw [if_neg h]
    obtain ⟨r, hr, hr2⟩ := szWinS_l0 l (by omega) hh l.length 0 k (1048576 - (l.length : Int)) (by omega) (by omega) (by omega) (by omega)
    rw [List.drop_zero] at hr2
    have hr' : laws_szWinS.l0 k l (1048576 - (l.length : Int)) 0 = some r := hr
    rw [hr', Option.bind_some]
    by_cases hn : r < 0
    · exact ⟨-1, by rw [if_pos hn], .inl (by omega)⟩
    · refine ⟨r, by rw [if_neg hn], ?_⟩
      rcases hr2 with h2 | ⟨h2, _, h3⟩
      · exact .inl h2
      · exact .inr ⟨h2, by omega, h3⟩

/-- The window as the program has it. -/
def cvW (w : Lw) : Wn := ⟨⟨w.f0.f0, w.f0.f1.map cvT, w.f0.f2⟩, ⟨w.f1.f0, w.f1.f1, w.f1.f2, w.f1.f3, w.f1.f4, w.f1.f5⟩, w.f2, w.f3⟩
theorem toWin_ok {w : Lw} (hw : Short w) {k : Nat} (hk : 1048577 < k) : laws_toWin.f k w.f0.f0 w.f0.f1 w.f0.f2 w.f1.f0 w.f1.f1 w.f1.f2 w.f1.f3 w.f1.f4 w.f1.f5 w.f2 w.f3 =
    some (w.f0.f0, w.f0.f1.map cvT, w.f0.f2, w.f1.f0, w.f1.f1, w.f1.f2, w.f1.f3, w.f1.f4, w.f1.f5, w.f2, w.f3) := by
  unfold laws_toWin.f
  rw [toKey_ok w.f0.f0 hw.1 w.f0.f2 (by have := hw.1; omega), Option.bind_some, toAgg_ok w.f1.f0 w.f1.f1 w.f1.f2 w.f1.f3 hw.2 w.f1.f5 (by omega), Option.bind_some]
theorem toWinS_l0 {l : List Lw} (hl : l.length ≤ 1048576) (hh : ∀ w ∈ l, Short w) : ∀ (d k i : Nat), i + d = l.length → d + 1048580 < k → laws_toWinS.l0 k l ((l.take i).map cvW ++ List.replicate d z37) (i : Int) = some (l.map cvW) := by
  intro d
  induction d with
  | zero =>
    intro k i hi hk
    obtain ⟨k, rfl⟩ : ∃ q, k = q + 1 := ⟨k - 1, by omega⟩
    rw [laws_toWinS.l0, if_neg (by omega), List.take_of_length_le (by omega), List.replicate_zero, List.append_nil]
  | succ d ih =>
    intro k i hi hk
    obtain ⟨k, rfl⟩ : ∃ q, k = q + 1 := ⟨k - 1, by omega⟩
    have hlt : i < l.length := by omega
    have hnext := ih k (i + 1) (by omega) (by omega)
    rw [laws_toWinS.l0, if_pos (by omega), if_pos (by omega), rdLw_get hlt, toWin_ok (hh _ (List.getElem_mem hlt)) (by omega)]
    rw [Option.bind_some, if_pos (by rw [List.length_append, List.length_map, List.length_take, List.length_replicate]; omega), Int.toNat_natCast, show wrap64 ((i : Int) + 1) = ((i + 1 : Nat) : Int) from by rw [w64 (by omega) (by omega)]; omega]
    have e := set_copy cvW z37 (d := d) hlt
    show laws_toWinS.l0 k l (((l.take i).map cvW ++ List.replicate (d + 1) z37).set i (cvW l[i])) _ = _
    rw [e]
    exact hnext
theorem toBoard_ok (a b c : Int) {l : List Lw} (hl : l.length ≤ 1048576) (hh : ∀ w ∈ l, Short w) {k : Nat} (hk : 2097160 < k) : laws_toBoard.f k a b c l = some (a, b, c, l.map cvW) := by
  unfold laws_toBoard.f laws_toWinS.f
  rw [if_pos (by omega), if_pos (by rw [Int.toNat_natCast]; omega), Int.toNat_natCast]
  have h := toWinS_l0 hl hh l.length k 0 (by omega) (by omega)
  rw [List.take_zero, List.map_nil, List.nil_append] at h
  have h' : laws_toWinS.l0 k l (List.replicate l.length z37) 0 = some (l.map cvW) := h
  rw [h', Option.bind_some]

theorem eqWin_ok {w : Wn} (h1 : w.f0.f1.length ≤ 1048576) (h2 : w.f1.f4.length ≤ 1048576) {k : Nat} (hk : 1048577 < k) :
    laws_eqWin.f k w.f0.f0 w.f0.f1 w.f0.f2 w.f1.f0 w.f1.f1 w.f1.f2 w.f1.f3 w.f1.f4 w.f1.f5 w.f2 w.f3 w.f0.f0 w.f0.f1 w.f0.f2 w.f1.f0 w.f1.f1 w.f1.f2 w.f1.f3 w.f1.f4 w.f1.f5 w.f2 w.f3 = some true := by
  unfold laws_eqWin.f
  rw [eqKey_ok w.f0.f0 h1 w.f0.f2 (by omega), Option.bind_some, if_pos rfl, eqAgg_ok w.f1.f0 w.f1.f1 w.f1.f2 w.f1.f3 h2 w.f1.f5 (by omega), Option.bind_some, if_pos rfl, if_pos rfl, if_neg (by cases w.f3 <;> decide)]
theorem eqWinS_l0 (l : List Wn) (hl : l.length ≤ 1048576) (hh : ∀ w ∈ l, w.f0.f1.length ≤ 1048576 ∧ w.f1.f4.length ≤ 1048576) : ∀ (d i k : Nat), i + d = l.length → d + 1048580 < k → laws_eqWinS.l0 k l l (i : Int) = some true := by
  intro d
  induction d with
  | zero =>
    intro i k hi hk
    obtain ⟨k, rfl⟩ : ∃ q, k = q + 1 := ⟨k - 1, by omega⟩
    rw [laws_eqWinS.l0, if_neg (by omega)]
  | succ d ih =>
    intro i k hi hk
    obtain ⟨k, rfl⟩ : ∃ q, k = q + 1 := ⟨k - 1, by omega⟩
    have hlt : i < l.length := by omega
    have hnext := ih (i + 1) k (by omega) (by omega)
    obtain ⟨q1, q2⟩ := hh l[i] (List.getElem_mem hlt)
    rw [laws_eqWinS.l0, if_pos (by omega), if_pos (by omega), if_pos (by omega), rdW_get hlt, eqWin_ok q1 q2 (by omega), Option.bind_some, if_pos rfl, show wrap64 ((i : Int) + 1) = ((i + 1 : Nat) : Int) from by rw [w64 (by omega) (by omega)]; omega]
    exact hnext
theorem eqBoard_ok (a b c : Int) {l : List Wn} (hl : l.length ≤ 1048576) (hh : ∀ w ∈ l, w.f0.f1.length ≤ 1048576 ∧ w.f1.f4.length ≤ 1048576) {k : Nat} (hk : 2097160 < k) : laws_eqBoard.f k a b c l a b c l = some true := by
  unfold laws_eqBoard.f laws_eqWinS.f
  have h : laws_eqWinS.l0 k l l 0 = some true := eqWinS_l0 l hl hh l.length 0 k (by omega) (by omega)
  rw [if_pos rfl, if_pos rfl, if_pos rfl, if_pos rfl, h, Option.bind_some, if_pos rfl]

end Go.Proofs.YtkgmoajdcibafaaDoor.Lem

/- Marks that are written into rows, and told again: texts and tags. No conditions. -/
namespace Go.Proofs.YtkgmoajdcibafaaDoor.Lem
open Go Go.RowKit Go.Proofs.YtkgmoajdcibafaaDoor.P Go.Proofs.YtkgmoajdcibafaaDoorW.PrintWords Go.Proofs.YtkgmoajdcibafaaDoorW.PrintLast Go.Proofs.YtkgmoajdcibafaaDoorW.PrintMore

theorem set_mid {α : Type} (pre : List α) (a v : α) (rest : List α) {i : Nat} (h : i = pre.length) : (pre ++ a :: rest).set i v = pre ++ v :: rest := by
  subst h
  rw [List.set_append_right _ _ (Nat.le_refl _), Nat.sub_self, List.set_cons_zero]
theorem getD_mid {α : Type} (pre : List α) (a : α) (rest : List α) (d : α) {i : Nat} (h : i = pre.length) : (pre ++ a :: rest).getD i d = a := by
  subst h
  rw [List.getD_eq_getElem?_getD, List.getElem?_append_right (Nat.le_refl _), Nat.sub_self]
  rfl

def markTl : Nat → Int → ByteArray → ByteArray
  | 0, _, acc => (⟨#[109]⟩ : ByteArray) ++ acc
  | d + 1, x, acc => if x > 0 then markTl d (Int.tdiv x 10) ((strOfNums [(wrap64 (48 + (Int.tmod x 10))) % 256]) ++ acc) else (⟨#[109]⟩ : ByteArray) ++ acc
theorem markText_l0 : ∀ (d k : Nat) (x : Int) (acc : ByteArray), 0 ≤ x → x < 10 ^ d → x ≤ 9223372036854775807 → d < k → acc.size + d ≤ 1000 → laws_markText.l0 k x acc = some (markTl d x acc)
  | 0, k, x, acc, h0, h1, _, hk, ha => by
    obtain ⟨k, rfl⟩ : ∃ q, k = q + 1 := ⟨k - 1, by omega⟩
    have hx : ¬ x > 0 := by simp at h1; omega
    rw [laws_markText.l0, if_neg hx, if_pos (by omega)]
    rfl
  | d + 1, k, x, acc, h0, h1, hb, hk, ha => by
    obtain ⟨k, rfl⟩ : ∃ q, k = q + 1 := ⟨k - 1, by omega⟩
    rw [laws_markText.l0, markTl]
    by_cases hx : x > 0
    · have hz : (strOfNums [(wrap64 (48 + (Int.tmod x 10))) % 256]).size = 1 := rfl
      have e : Int.tdiv x 10 = x / 10 := Int.tdiv_eq_ediv_of_nonneg h0
      have hp : (10 : Int) ^ (d + 1) = 10 ^ d * 10 := Int.pow_succ 10 d
      have hlt : x / 10 < 10 ^ d := by omega
      have ih := markText_l0 d k (x / 10) ((strOfNums [(wrap64 (48 + (Int.tmod x 10))) % 256]) ++ acc) (by omega) hlt (by omega) (by omega) (by rw [ByteArray.size_append, hz]; omega)
      rw [if_pos hx, if_pos hx, Option.bind_some, hz, if_pos (by omega), e, w64 (by omega) (by omega)]
      exact ih
    · rw [if_neg hx, if_neg hx, if_pos (by omega)]
def markT (x : Int) : ByteArray := if x ≤ 0 then ⟨#[109, 48]⟩ else markTl 18 x ⟨#[]⟩
theorem markText_ok {x : Int} (h0 : 0 ≤ x) (h1 : x < 1000000000000000000) {k : Nat} (hk : 20 < k) : laws_markText.f k x = some (markT x) := by
  unfold laws_markText.f markT
  split
  · rfl
  · exact markText_l0 18 k x _ h0 (by simpa using h1) (by omega) (by omega) (by decide)

abbrev MTg := S123
def markTags : List MTg → Int → List MTg
  | [], _ => []
  | _ :: r, x => ⟨markT x, markT (x + 1)⟩ :: markTags r (x + 2)
theorem markTags_length : ∀ (l : List MTg) (x : Int), (markTags l x).length = l.length
  | [], _ => rfl
  | _ :: r, x => by rw [markTags, List.length_cons, List.length_cons, markTags_length r]
theorem rdTg_mid (pre : List MTg) (a : MTg) (rest : List MTg) : rd_T123 (pre ++ a :: rest) (pre.length : Int) = a := getD_mid _ _ _ _ rfl
theorem markTagS_l0 : ∀ (rest pre : List MTg) (k : Nat) (x : Int), 0 ≤ x → x + 2 * rest.length < 1000000000000000000 → pre.length + rest.length ≤ 1000000000 → rest.length + 21 < k →
    laws_markTagS.l0 k (pre ++ rest) x (pre.length : Int) = some (x + 2 * rest.length, pre ++ markTags rest x)
  | [], pre, k, x, h0, h1, h2, hk => by
    obtain ⟨k, rfl⟩ : ∃ q, k = q + 1 := ⟨k - 1, by omega⟩
    rw [laws_markTagS.l0, if_neg (by rw [List.append_nil]; omega), List.append_nil, markTags, List.append_nil]
    simp
  | a :: rest, pre, k, x, h0, h1, h2, hk => by
    obtain ⟨k, rfl⟩ : ∃ q, k = q + 1 := ⟨k - 1, by omega⟩
    rw [List.length_cons] at h1 h2 hk
    have ih := markTagS_l0 rest (pre ++ [⟨markT x, markT (x + 1)⟩]) k (x + 2) (by omega) (by omega) (by rw [List.length_append, List.length_singleton]; omega) (by omega)
    rw [laws_markTagS.l0, if_pos (by rw [List.length_append, List.length_cons]; omega), markText_ok h0 (by omega) (by omega), Option.bind_some, if_pos (by omega), Int.toNat_natCast, set_mid _ _ _ _ rfl, Option.bind_some,
      w64 (by omega) (by omega), markText_ok (by omega) (by omega) (by omega), Option.bind_some, set_mid _ _ _ _ rfl, rdTg_mid, rdTg_mid, w64 (x := x + 1 + 1) (by omega) (by omega), show wrap64 ((pre.length : Int) + 1) = ((pre ++ [(⟨markT x, markT (x + 1)⟩ : MTg)]).length : Int) from by rw [w64 (by omega) (by omega), List.length_append, List.length_singleton]; omega, show x + 1 + 1 = x + 2 from by omega]
    rw [List.append_assoc, List.singleton_append] at ih
    rw [ih, markTags, List.length_cons, List.append_assoc, List.singleton_append]
    congr 2
    omega
theorem markTagS_ok (l : List MTg) {k : Nat} {x : Int} (h0 : 0 ≤ x) (h1 : x + 2 * l.length < 1000000000000000000) (h2 : l.length ≤ 1000000000) (hk : l.length + 21 < k) : laws_markTagS.f k l x = some (x + 2 * l.length, markTags l x) := markTagS_l0 l [] k x h0 h1 (by simpa using h2) hk
theorem heldTagS_l0 : ∀ (rest pre : List MTg) (k : Nat) (x : Int), 0 ≤ x → x + 2 * rest.length < 1000000000000000000 → pre.length + rest.length ≤ 1000000000 → rest.length + 21 < k →
    laws_heldTagS.l0 k (pre ++ markTags rest x) x (pre.length : Int) = some (x + 2 * rest.length)
  | [], pre, k, x, h0, h1, h2, hk => by
    obtain ⟨k, rfl⟩ : ∃ q, k = q + 1 := ⟨k - 1, by omega⟩
    rw [laws_heldTagS.l0, markTags, List.append_nil, if_neg (by omega)]
    simp
  | a :: rest, pre, k, x, h0, h1, h2, hk => by
    obtain ⟨k, rfl⟩ : ∃ q, k = q + 1 := ⟨k - 1, by omega⟩
    rw [List.length_cons] at h1 h2 hk
    have ih := heldTagS_l0 rest (pre ++ [⟨markT x, markT (x + 1)⟩]) k (x + 2) (by omega) (by omega) (by rw [List.length_append, List.length_singleton]; omega) (by omega)
    rw [List.append_assoc, List.singleton_append] at ih
    rw [laws_heldTagS.l0, markTags, if_pos (by rw [List.length_append, List.length_cons]; omega), if_pos (by omega), markText_ok h0 (by omega) (by omega), Option.bind_some, rdTg_mid, if_pos rfl, w64 (by omega) (by omega), markText_ok (by omega) (by omega) (by omega), Option.bind_some, if_pos rfl,
      w64 (x := x + 1 + 1) (by omega) (by omega), show wrap64 ((pre.length : Int) + 1) = ((pre ++ [(⟨markT x, markT (x + 1)⟩ : MTg)]).length : Int) from by rw [w64 (by omega) (by omega), List.length_append, List.length_singleton]; omega, show x + 1 + 1 = x + 2 from by omega, ih, List.length_cons]
    congr 1
    omega
theorem heldTagS_ok (l : List MTg) {k : Nat} {x : Int} (h0 : 0 ≤ x) (h1 : x + 2 * l.length < 1000000000000000000) (h2 : l.length ≤ 1000000000) (hk : l.length + 21 < k) : laws_heldTagS.f k (markTags l x) x = some (x + 2 * l.length) := heldTagS_l0 l [] k x h0 h1 (by simpa using h2) hk
end Go.Proofs.YtkgmoajdcibafaaDoor.Lem

/- Marks that are written into windows, and told again. No conditions. -/
namespace Go.Proofs.YtkgmoajdcibafaaDoor.Lem
open Go Go.RowKit Go.Proofs.YtkgmoajdcibafaaDoor.P Go.Proofs.YtkgmoajdcibafaaDoorW.PrintWords Go.Proofs.YtkgmoajdcibafaaDoorW.PrintLast Go.Proofs.YtkgmoajdcibafaaDoorW.PrintMore

def markInts : List Int → Int → List Int
  | [], _ => []
  | _ :: r, x => x :: markInts r (x + 1)
theorem markInts_length : ∀ (l : List Int) (x : Int), (markInts l x).length = l.length
  | [], _ => rfl
  | _ :: r, x => by rw [markInts, List.length_cons, List.length_cons, markInts_length r]
theorem markIntS_l0 : ∀ (rest pre : List Int) (k : Nat) (x : Int), 0 ≤ x → x + rest.length < 1000000000000000000 → pre.length + rest.length ≤ 1000000000 → rest.length < k →
    laws_markIntS.l0 k (pre ++ rest) x (pre.length : Int) = some (x + rest.length, pre ++ markInts rest x)
  | [], pre, k, x, h0, h1, h2, hk => by
    obtain ⟨k, rfl⟩ : ∃ q, k = q + 1 := ⟨k - 1, by omega⟩
    rw [laws_markIntS.l0, if_neg (by rw [List.append_nil]; omega), List.append_nil, markInts, List.append_nil]
    simp
  | a :: rest, pre, k, x, h0, h1, h2, hk => by
    obtain ⟨k, rfl⟩ : ∃ q, k = q + 1 := ⟨k - 1, by omega⟩
    rw [List.length_cons] at h1 h2 hk
    have ih := markIntS_l0 rest (pre ++ [x]) k (x + 1) (by omega) (by omega) (by rw [List.length_append, List.length_singleton]; omega) (by omega)
    rw [laws_markIntS.l0, if_pos (by rw [List.length_append, List.length_cons]; omega), if_pos (by omega), Int.toNat_natCast, set_mid _ _ _ _ rfl, w64 (by omega) (by omega),
      show wrap64 ((pre.length : Int) + 1) = ((pre ++ [x]).length : Int) from by rw [w64 (by omega) (by omega), List.length_append, List.length_singleton]; omega]
    rw [List.append_assoc, List.singleton_append] at ih
    rw [ih, markInts, List.length_cons, List.append_assoc, List.singleton_append]
    congr 2
    omega
theorem markIntS_ok (l : List Int) {k : Nat} {x : Int} (h0 : 0 ≤ x) (h1 : x + l.length < 1000000000000000000) (h2 : l.length ≤ 1000000000) (hk : l.length < k) : laws_markIntS.f k l x = some (x + l.length, markInts l x) := markIntS_l0 l [] k x h0 h1 (by simpa using h2) hk
theorem heldIntS_l0 : ∀ (rest pre : List Int) (k : Nat) (x : Int), 0 ≤ x → x + rest.length < 1000000000000000000 → pre.length + rest.length ≤ 1000000000 → rest.length < k →
    laws_heldIntS.l0 k (pre ++ markInts rest x) x (pre.length : Int) = some (x + rest.length)
  | [], pre, k, x, h0, h1, h2, hk => by
    obtain ⟨k, rfl⟩ : ∃ q, k = q + 1 := ⟨k - 1, by omega⟩
    rw [laws_heldIntS.l0, markInts, List.append_nil, if_neg (by omega)]
    simp
  | a :: rest, pre, k, x, h0, h1, h2, hk => by
    obtain ⟨k, rfl⟩ : ∃ q, k = q + 1 := ⟨k - 1, by omega⟩
    rw [List.length_cons] at h1 h2 hk
    have ih := heldIntS_l0 rest (pre ++ [x]) k (x + 1) (by omega) (by omega) (by rw [List.length_append, List.length_singleton]; omega) (by omega)
    rw [List.append_assoc, List.singleton_append] at ih
    rw [laws_heldIntS.l0, markInts, if_pos (by rw [List.length_append, List.length_cons]; omega), if_pos (by omega), show rd (pre ++ x :: markInts rest (x + 1)) (pre.length : Int) = x from getD_mid _ _ _ _ rfl, if_pos rfl, w64 (by omega) (by omega),
      show wrap64 ((pre.length : Int) + 1) = ((pre ++ [x]).length : Int) from by rw [w64 (by omega) (by omega), List.length_append, List.length_singleton]; omega, ih, List.length_cons]
    congr 1
    omega
theorem heldIntS_ok (l : List Int) {k : Nat} {x : Int} (h0 : 0 ≤ x) (h1 : x + l.length < 1000000000000000000) (h2 : l.length ≤ 1000000000) (hk : l.length < k) : laws_heldIntS.f k (markInts l x) x = some (x + l.length) := heldIntS_l0 l [] k x h0 h1 (by simpa using h2) hk

abbrev MWn := S37
def markWY (w : MWn) (x y z : Int) : MWn :=
  ⟨⟨markT x, markTags w.f0.f1 (x + 1), y⟩, ⟨y + 1, y + 1 + 1, y + 1 + 1 + 1, y + 1 + 1 + 1 + 1, markInts w.f1.f4 (y + 1 + 1 + 1 + 1 + 1), Int.tmod z 3 == 0⟩, z + 1, Int.tmod (z + 1 + 1) 3 == 0⟩
def yW (w : MWn) (x : Int) : Int := x + 1 + 2 * (w.f0.f1.length : Int)
def zW (w : MWn) (x : Int) : Int := yW w x + 1 + 1 + 1 + 1 + 1 + (w.f1.f4.length : Int)
def markW (w : MWn) (x : Int) : MWn := markWY w x (yW w x) (zW w x)
def markWs : List MWn → Int → List MWn
  | [], _ => []
  | w :: r, x => markW w x :: markWs r (zW w x + 1 + 1 + 1)
def endW : List MWn → Int → Int
  | [], x => x
  | w :: r, x => endW r (zW w x + 1 + 1 + 1)
theorem zW_eq (w : MWn) (x : Int) : zW w x = x + 6 + 2 * (w.f0.f1.length : Int) + (w.f1.f4.length : Int) := by unfold zW yW; omega
theorem markWs_length : ∀ (l : List MWn) (x : Int), (markWs l x).length = l.length
  | [], _ => rfl
  | _ :: r, x => by rw [markWs, List.length_cons, List.length_cons, markWs_length r]
/-- Windows with rows within the bound. -/
def Rows_ (l : List MWn) : Prop := ∀ w ∈ l, w.f0.f1.length ≤ 1048576 ∧ w.f1.f4.length ≤ 1048576
theorem endW_le : ∀ (l : List MWn) (x : Int), Rows_ l → x ≤ endW l x ∧ endW l x ≤ x + 4194304 * (l.length : Int)
  | [], x, _ => by simp [endW]
  | w :: r, x, h => by
    have ih := endW_le r (zW w x + 1 + 1 + 1) (fun v hv => h v (List.mem_cons_of_mem _ hv))
    have hw := h w List.mem_cons_self
    rw [endW, List.length_cons]
    rw [zW_eq] at ih ⊢
    omega
theorem rdWn_mid (pre : List MWn) (a : MWn) (rest : List MWn) : rd_T37 (pre ++ a :: rest) (pre.length : Int) = a := getD_mid _ _ _ _ rfl
theorem markWinS_l0 : ∀ (rest pre : List MWn) (k : Nat) (x : Int), 0 ≤ x → x + 4194304 * (rest.length : Int) < 1000000000000000000 → pre.length + rest.length ≤ 1000000000 → Rows_ rest → rest.length + 1048600 < k →
    laws_markWinS.l0 k (pre ++ rest) x (pre.length : Int) = some (endW rest x, pre ++ markWs rest x)
  | [], pre, k, x, h0, h1, h2, h3, hk => by
    obtain ⟨k, rfl⟩ : ∃ q, k = q + 1 := ⟨k - 1, by omega⟩
    rw [laws_markWinS.l0, if_neg (by rw [List.append_nil]; omega), List.append_nil, markWs, List.append_nil]
    rfl
  | a :: rest, pre, k, x, h0, h1, h2, h3, hk => by
    obtain ⟨k, rfl⟩ : ∃ q, k = q + 1 := ⟨k - 1, by omega⟩
    rw [List.length_cons] at h1 h2 hk
    obtain ⟨t1, t2⟩ := h3 a List.mem_cons_self
    have hz := zW_eq a x
    have ih := markWinS_l0 rest (pre ++ [markW a x]) k (zW a x + 1 + 1 + 1) (by omega) (by omega) (by rw [List.length_append, List.length_singleton]; omega) (fun v hv => h3 v (List.mem_cons_of_mem _ hv)) (by omega)
    rw [List.append_assoc, List.singleton_append] at ih
    rw [laws_markWinS.l0, if_pos (by rw [List.length_append, List.length_cons]; omega), if_pos (by omega), markText_ok h0 (by omega) (by omega), Option.bind_some, rdWn_mid,
      w64 (x := x + 1) (by omega) (by omega), markTagS_ok _ (by omega) (by omega) (by omega) (by omega), Option.bind_some]
    dsimp only
    rw [show x + 1 + 2 * (a.f0.f1.length : Int) = yW a x from rfl]
    have hy : yW a x = x + 1 + 2 * (a.f0.f1.length : Int) := rfl
    rw [w64 (x := yW a x + 1) (by omega) (by omega), w64 (x := yW a x + 1 + 1) (by omega) (by omega), w64 (x := yW a x + 1 + 1 + 1) (by omega) (by omega), w64 (x := yW a x + 1 + 1 + 1 + 1) (by omega) (by omega), w64 (x := yW a x + 1 + 1 + 1 + 1 + 1) (by omega) (by omega),
      markIntS_ok _ (by omega) (by omega) (by omega) (by omega), Option.bind_some]
    dsimp only
    rw [show yW a x + 1 + 1 + 1 + 1 + 1 + (a.f1.f4.length : Int) = zW a x from rfl, w64 (x := zW a x + 1) (by omega) (by omega), w64 (x := zW a x + 1 + 1) (by omega) (by omega), w64 (x := zW a x + 1 + 1 + 1) (by omega) (by omega), Int.toNat_natCast, set_mid _ _ _ _ rfl,
      show wrap64 ((pre.length : Int) + 1) = ((pre ++ [markW a x]).length : Int) from by rw [w64 (by omega) (by omega), List.length_append, List.length_singleton]; omega]
    rw [endW, markWs]
    refine Eq.trans ?_ (ih.trans ?_)
    · rfl
    · rw [List.append_assoc, List.singleton_append]
theorem markWinS_ok (l : List MWn) {k : Nat} {x : Int} (h0 : 0 ≤ x) (h1 : x ≤ 10) (h2 : l.length ≤ 1048576) (h3 : Rows_ l) (hk : 2097180 < k) : laws_markWinS.f k l x = some (endW l x, markWs l x) := markWinS_l0 l [] k x h0 (by omega) (by simpa using (by omega : l.length ≤ 1000000000)) h3 (by omega)
theorem heldWinS_l0 : ∀ (rest pre : List MWn) (k : Nat) (x : Int), 0 ≤ x → x + 4194304 * (rest.length : Int) < 1000000000000000000 → pre.length + rest.length ≤ 1000000000 → Rows_ rest → rest.length + 1048600 < k →
    laws_heldWinS.l0 k (pre ++ markWs rest x) x (pre.length : Int) = some (endW rest x)
  | [], pre, k, x, h0, h1, h2, h3, hk => by
    obtain ⟨k, rfl⟩ : ∃ q, k = q + 1 := ⟨k - 1, by omega⟩
    rw [laws_heldWinS.l0, markWs, List.append_nil, if_neg (by omega)]
    rfl
  | a :: rest, pre, k, x, h0, h1, h2, h3, hk => by
    obtain ⟨k, rfl⟩ : ∃ q, k = q + 1 := ⟨k - 1, by omega⟩
    rw [List.length_cons] at h1 h2 hk
    obtain ⟨t1, t2⟩ := h3 a List.mem_cons_self
    have hz := zW_eq a x
    have hy : yW a x = x + 1 + 2 * (a.f0.f1.length : Int) := rfl
    have ih := heldWinS_l0 rest (pre ++ [markW a x]) k (zW a x + 1 + 1 + 1) (by omega) (by omega) (by rw [List.length_append, List.length_singleton]; omega) (fun v hv => h3 v (List.mem_cons_of_mem _ hv)) (by omega)
    rw [List.append_assoc, List.singleton_append] at ih
    rw [laws_heldWinS.l0, markWs, if_pos (by rw [List.length_append, List.length_cons]; omega), if_pos (by omega), markText_ok h0 (by omega) (by omega), Option.bind_some, rdWn_mid, if_pos (show (markW a x).f0.f0.toList = (markT x).toList from rfl),
      w64 (x := x + 1) (by omega) (by omega), show (markW a x).f0.f1 = markTags a.f0.f1 (x + 1) from rfl, heldTagS_ok _ (by omega) (by omega) (by omega) (by omega), Option.bind_some, show x + 1 + 2 * (a.f0.f1.length : Int) = yW a x from rfl,
      if_neg (by omega), if_pos (show (markW a x).f0.f2 = yW a x from rfl), w64 (x := yW a x + 1) (by omega) (by omega), if_pos (show (markW a x).f1.f0 = yW a x + 1 from rfl), w64 (x := yW a x + 1 + 1) (by omega) (by omega), if_pos (show (markW a x).f1.f1 = yW a x + 1 + 1 from rfl),
      w64 (x := yW a x + 1 + 1 + 1) (by omega) (by omega), if_pos (show (markW a x).f1.f2 = yW a x + 1 + 1 + 1 from rfl), w64 (x := yW a x + 1 + 1 + 1 + 1) (by omega) (by omega), if_pos (show (markW a x).f1.f3 = yW a x + 1 + 1 + 1 + 1 from rfl), w64 (x := yW a x + 1 + 1 + 1 + 1 + 1) (by omega) (by omega),
      show (markW a x).f1.f4 = markInts a.f1.f4 (yW a x + 1 + 1 + 1 + 1 + 1) from rfl, heldIntS_ok _ (by omega) (by omega) (by omega) (by omega), Option.bind_some, show yW a x + 1 + 1 + 1 + 1 + 1 + (a.f1.f4.length : Int) = zW a x from rfl,
      if_neg (by omega), show (markW a x).f1.f5 = (Int.tmod (zW a x) 3 == 0) from rfl, bne_self_eq_false, if_neg (by decide), w64 (x := zW a x + 1) (by omega) (by omega), if_pos (show (markW a x).f2 = zW a x + 1 from rfl), w64 (x := zW a x + 1 + 1) (by omega) (by omega),
      show (markW a x).f3 = (Int.tmod (zW a x + 1 + 1) 3 == 0) from rfl, bne_self_eq_false, if_neg (by decide), w64 (x := zW a x + 1 + 1 + 1) (by omega) (by omega),
      show wrap64 ((pre.length : Int) + 1) = ((pre ++ [markW a x]).length : Int) from by rw [w64 (by omega) (by omega), List.length_append, List.length_singleton]; omega, ih, endW]
theorem heldWinS_ok (l : List MWn) {k : Nat} {x : Int} (h0 : 0 ≤ x) (h1 : x ≤ 10) (h2 : l.length ≤ 1048576) (h3 : Rows_ l) (hk : 2097180 < k) : laws_heldWinS.f k (markWs l x) x = some (endW l x) := heldWinS_l0 l [] k x h0 (by omega) (by simpa using (by omega : l.length ≤ 1000000000)) h3 (by omega)
end Go.Proofs.YtkgmoajdcibafaaDoor.Lem

/- Boards that share no memory with others: the same windows. -/
namespace Go.Proofs.YtkgmoajdcibafaaDoor.Lem
open Go Go.RowKit Go.Proofs.YtkgmoajdcibafaaDoor.P Go.Proofs.YtkgmoajdcibafaaDoorW.PrintWords Go.Proofs.YtkgmoajdcibafaaDoorW.PrintLast Go.Proofs.YtkgmoajdcibafaaDoorW.PrintMore

theorem cloneTags_ok {l : List Tg} (h : l.length ≤ 1048576) : impl_Tag_101.f l = some l := by
  unfold impl_Tag_101.f
  rw [Option.bind_some, if_pos (by rw [List.length_nil]; omega), List.nil_append]
theorem cloneInts_ok {l : List Int} (h : l.length ≤ 1048576) : slices_Clone_int_int.f l = some l := by
  unfold slices_Clone_int_int.f
  rw [Option.bind_some, if_pos (by rw [List.length_nil]; omega), List.nil_append]
theorem winCloned_ok (w : Wn) (h : w.f0.f1.length ≤ 1048576 ∧ w.f1.f4.length ≤ 1048576) : impl_Win_cloned.f w.f0.f0 w.f0.f1 w.f0.f2 w.f1.f0 w.f1.f1 w.f1.f2 w.f1.f3 w.f1.f4 w.f1.f5 w.f2 w.f3 = some (w.f0.f0, w.f0.f1, w.f0.f2, w.f1.f0, w.f1.f1, w.f1.f2, w.f1.f3, w.f1.f4, w.f1.f5, w.f2, w.f3) := by
  unfold impl_Win_cloned.f impl_Key_cloned.f
  rw [cloneTags_ok h.1, Option.bind_some, Option.bind_some, cloneInts_ok h.2, Option.bind_some]
theorem ownKey_ok (m : ByteArray) {l : List Tg} (h : l.length ≤ 1048576) (s : Int) : spec_l11OwnKey.f m l s = some (m, l, s) := by
  unfold spec_l11OwnKey.f
  rw [Option.bind_some, if_pos (by rw [List.length_nil]; omega), List.nil_append]
theorem l4Own_ok (c s mi ma : Int) {l : List Int} (h : l.length ≤ 1048576) (f : Bool) : spec_l4Own.f c s mi ma l f = some (c, s, mi, ma, l, f) := by
  unfold spec_l4Own.f
  rw [Option.bind_some, if_pos (by rw [List.length_nil]; omega), List.nil_append]
theorem cloned_l0 (a b c : Int) (z : List Wn) {l : List Wn} (hl : l.length ≤ 1048576) (hh : ∀ w ∈ l, w.f0.f1.length ≤ 1048576 ∧ w.f1.f4.length ≤ 1048576) : ∀ (d i k : Nat) (acc : List Wn), i + d = l.length → d < k → acc.length ≤ i →
    impl_Board_cloned.l0 k acc l (l.length : Int) (i : Int) a b c z = some (a, b, c, acc ++ l.drop i) := by
  intro d
  induction d with
  | zero =>
    intro i k acc hi hk _
    obtain ⟨k, rfl⟩ : ∃ q, k = q + 1 := ⟨k - 1, by omega⟩
    rw [impl_Board_cloned.l0, if_neg (by omega), List.drop_of_length_le (by omega), List.append_nil]
  | succ d ih =>
    intro i k acc hi hk ha
    obtain ⟨k, rfl⟩ : ∃ q, k = q + 1 := ⟨k - 1, by omega⟩
    have hlt : i < l.length := by omega
    have hw := hh l[i] (List.getElem_mem hlt)
    rw [impl_Board_cloned.l0, if_pos (by omega), if_pos (by omega), if_pos (by omega), rdW_get hlt, winCloned_ok _ hw, Option.bind_some]
    dsimp only
    rw [if_pos (by omega), show wrap64 ((i : Int) + 1) = ((i + 1 : Nat) : Int) from by rw [w64 (by omega) (by omega)]; omega, ih (i + 1) k _ (by omega) (by omega) (by rw [List.length_append, List.length_singleton]; omega), drop_get hlt, List.append_assoc]
    rfl
theorem cloned_ok (a b c : Int) {l : List Wn} (hl : l.length ≤ 1048576) (hh : ∀ w ∈ l, w.f0.f1.length ≤ 1048576 ∧ w.f1.f4.length ≤ 1048576) {k : Nat} (hk : 1048577 < k) : impl_Board_cloned.f k a b c l = some (a, b, c, l) :=
  cloned_l0 a b c l hl hh l.length 0 k [] (by omega) (by omega) (Nat.le_refl _)
theorem own_l0 (a b c : Int) (z : List Wn) {l : List Wn} (hl : l.length ≤ 1048576) (hh : ∀ w ∈ l, w.f0.f1.length ≤ 1048576 ∧ w.f1.f4.length ≤ 1048576) : ∀ (d i k : Nat) (acc : List Wn), i + d = l.length → d < k → acc.length ≤ i →
    spec_l11Own.l0 k acc l (l.length : Int) (i : Int) a b c z = some (a, b, c, acc ++ l.drop i) := by
  intro d
  induction d with
  | zero =>
    intro i k acc hi hk _
    obtain ⟨k, rfl⟩ : ∃ q, k = q + 1 := ⟨k - 1, by omega⟩
    rw [spec_l11Own.l0, if_neg (by omega), List.drop_of_length_le (by omega), List.append_nil]
  | succ d ih =>
    intro i k acc hi hk ha
    obtain ⟨k, rfl⟩ : ∃ q, k = q + 1 := ⟨k - 1, by omega⟩
    have hlt : i < l.length := by omega
    have hw := hh l[i] (List.getElem_mem hlt)
    rw [spec_l11Own.l0, if_pos (by omega), if_pos (by omega), if_pos (by omega), rdW_get hlt, ownKey_ok _ hw.1, Option.bind_some, l4Own_ok _ _ _ _ hw.2, Option.bind_some]
    dsimp only
    rw [if_pos (by omega), show wrap64 ((i : Int) + 1) = ((i + 1 : Nat) : Int) from by rw [w64 (by omega) (by omega)]; omega, ih (i + 1) k _ (by omega) (by omega) (by rw [List.length_append, List.length_singleton]; omega), drop_get hlt, List.append_assoc]
    rfl
theorem own_ok (a b c : Int) {l : List Wn} (hl : l.length ≤ 1048576) (hh : ∀ w ∈ l, w.f0.f1.length ≤ 1048576 ∧ w.f1.f4.length ≤ 1048576) {k : Nat} (hk : 1048577 < k) : spec_l11Own.f k a b c l = some (a, b, c, l) :=
  own_l0 a b c l hl hh l.length 0 k [] (by omega) (by omega) (Nat.le_refl _)
end Go.Proofs.YtkgmoajdcibafaaDoor.Lem

/- The program's RaiseMark returns what the reference's returns: what FnExactRaiseMark's callees answer, at every board that Go can hold. -/
namespace Go.Proofs.YtkgmoajdcibafaaDoor.Pure
open Go Go.RowKit Go.Proofs.YtkgmoajdcibafaaDoor.P Go.Proofs.YtkgmoajdcibafaaDoorW.PrintWords Go.Proofs.YtkgmoajdcibafaaDoorW.PrintLast Go.Proofs.YtkgmoajdcibafaaDoorW.PrintMore Go.Proofs.YtkgmoajdcibafaaDoor.Lem

theorem raise_both (a b c t : Int) {l : List Wn} (hl : l.length ≤ 1048576) (hh : ∀ w ∈ l, w.f0.f1.length ≤ 1048576 ∧ w.f1.f4.length ≤ 1048576) {k : Nat} (hk : 2097160 < k) :
    ∃ a' b' c' l' e, spec_RaiseMark.f k a b c l t = some (a', b', c', l', e) ∧ impl_RaiseMark.f k a b c l t = some (a', b', c', l', e) ∧ (l' = l ∨ l' = []) := by
  obtain ⟨g, hg1, hg2⟩ := board_both a b c l (k := k) (by omega)
  unfold spec_RaiseMark.f impl_RaiseMark.f
  rw [hg1, hg2, Option.bind_some, Option.bind_some]
  by_cases hg : g = true
  · rw [if_pos hg, if_pos hg, own_ok a b c hl hh (by omega), cloned_ok a b c hl hh (by omega), Option.bind_some, Option.bind_some, l11Time_ok, isTime_ok, Option.bind_some]
    dsimp only
    by_cases h1 : (decide (0 ≤ t) && decide (t ≤ 1000000000)) = true
    · rw [if_pos h1]
      by_cases h2 : t < c
      · rw [if_pos h2]
        exact ⟨_, _, _, _, _, rfl, rfl, Or.inl rfl⟩
      · rw [if_neg h2]
        exact ⟨_, _, _, _, _, rfl, rfl, Or.inl rfl⟩
    · rw [if_neg h1]
      exact ⟨_, _, _, _, _, rfl, rfl, Or.inl rfl⟩
  · rw [if_neg hg, if_neg hg]
    exact ⟨_, _, _, _, _, rfl, rfl, Or.inr rfl⟩
theorem FnExactRaiseMark (a b c : Int) (l : List Lw) (t : Int) (hg : (Lit.int .i64 a).wf = true ∧ (Lit.int .i64 b).wf = true ∧ (Lit.int .i64 c).wf = true ∧ l.length ≤ maxLen ∧ ∀ w ∈ l, GWin w) {p : Prop} (_ : p) : ∃ k, laws_FnExactRaiseMark.Ok k a b c l t := by
  have hl : l.length ≤ 9223372036854775807 := maxLen_le hg.2.2.2.1
  have hh : ∀ w ∈ l, HeldW w := fun w hw => heldW (hg.2.2.2.2 w hw)
  refine ⟨3000000, ?_⟩
  unfold laws_FnExactRaiseMark.Ok
  obtain ⟨r, hr, hr2⟩ := szBoard_ok a b c hl hh (k := 3000000) (by decide)
  refine ⟨r, hr, ?_⟩
  rcases hr2 with hn | ⟨hn, hl', hs⟩
  · exact Or.inl hn
  · refine Or.inr ⟨hn, ?_⟩
    have hlm : (l.map cvW).length ≤ 1048576 := by rw [List.length_map]; exact hl'
    have hsm : ∀ w ∈ l.map cvW, w.f0.f1.length ≤ 1048576 ∧ w.f1.f4.length ≤ 1048576 := by
      intro w hw
      obtain ⟨v, hv, rfl⟩ := List.mem_map.1 hw
      obtain ⟨q1, q2⟩ := hs v hv
      exact ⟨by show (v.f0.f1.map cvT).length ≤ _; rw [List.length_map]; exact q1, q2⟩
    have ht := toBoard_ok a b c hl' hs (k := 3000000) (by decide)
    obtain ⟨a', b', c', l2, e, h1, h2, h3⟩ := raise_both a b c t hlm hsm (k := 3000000) (by decide)
    have hl2 : l2.length ≤ 1048576 := by rcases h3 with rfl | rfl; exact hlm; exact Nat.zero_le _
    have hs2 : ∀ w ∈ l2, w.f0.f1.length ≤ 1048576 ∧ w.f1.f4.length ≤ 1048576 := by
      rcases h3 with rfl | rfl
      · exact hsm
      · intro w hw
        exact absurd hw (by simp)
    have e1 := endW_le (l.map cvW) 1 hsm
    have e2 := endW_le l2 1 hs2
    refine ⟨a, b, c, l.map cvW, a', b', c', l2, e, _, _, _, _, ht, h1, h2, eqBoard_ok _ _ _ hl2 hs2 (by decide), eqBoard_ok _ _ _ hlm hsm (by decide), markWinS_ok _ (by decide) (by decide) hlm hsm (by decide), markWinS_ok _ (by decide) (by decide) hl2 hs2 (by decide), ?_, by omega, by omega⟩
    unfold laws_heldBoard.f
    rw [heldWinS_ok _ (by decide) (by decide) hl2 hs2 (by decide), Option.bind_some, if_neg (by omega)]
end Go.Proofs.YtkgmoajdcibafaaDoor.Pure

/- The row of laws.FnExactRaiseMark: its arguments opened, the walk, and the tied card. -/
namespace Go.Proofs.YtkgmoajdcibafaaDoor.fnExactRaiseMark
open Go Go.ChangeShapes Go.WideShapes Go.ChangeAt Go.RowKit Go.Proofs.YtkgmoajdcibafaaDoor.P Go.Proofs.YtkgmoajdcibafaaDoorW.PrintWords Go.Proofs.YtkgmoajdcibafaaDoorW.PrintLast Go.Proofs.YtkgmoajdcibafaaDoorW.PrintMore Go.Proofs.YtkgmoajdcibafaaDoor.Lem
set_option linter.unusedVariables false
theorem own : ownKnob Tryd.prog.godebug = none := by kernel_rfl
theorem laidOut : laidOutB Tryd.prog = true := by kernel_rfl
noncomputable def laidWorld (os : Os) : World := World.laidAll Tryd.prog os Rows.fnExactRaiseMarkRow.laid
theorem laidWorld_met (os : Os) (args : Array Value) : laidMetH Tryd.prog Rows.fnExactRaiseMarkRow.laid ((laidWorld os).forCall (fun _ _ => 0) ⟨#[], args, []⟩).memory := by
  rw [Go.MakeChecks.laidMetH_plain _ _ _ (by kernel_rfl)]
  exact laidMet_laidAll args (by kernel_rfl) (by kernel_rfl)

set_option maxRecDepth 100000 in
theorem lifted (os : Os) (started : os.Started) (H : Type) (enc : TypeId × Value → H) :
    ReturnsInHanded {} Tryd.checked os 4 .any (fun w args => (Rows.fnExactRaiseMarkSpec.pre enc Tryd.prog Tryd.f4 [] false w args ∧ laidMetH Tryd.prog Rows.fnExactRaiseMarkRow.laid w) ∧ sizedMet enc Tryd.prog Tryd.f4 (OpenSpec.ofChange Rows.fnExactRaiseMarkSpec) false w args)
      (Rows.fnExactRaiseMarkSpec.post enc Tryd.prog Tryd.f4 false true false false) := by
  refine returnsInHanded_of_change_and (C := Tryd.checked) (X := fun w _ => laidMetH Tryd.prog Rows.fnExactRaiseMarkRow.laid w) (fun _ _ _ hh h => h.of_heap hh) own started (by kernel_rfl) Tryd.func4
    (ChangeSpec.witness_at (enc := enc) (C := Tryd.checked) (os := os) (X := fun w _ => laidMetH Tryd.prog Rows.fnExactRaiseMarkRow.laid w) false (laidWorld os) #[.agg #[.int .i64 0, .int .i64 0, .int .i64 0, .slice none 0 0], .int .i64 0] 8 rfl (by kernel_rfl) (by kernel_rfl) (by kernel_rfl) (by kernel_rfl) (by kernel_rfl) (laidWorld_met os _)) ?_
  intro W base args ds gs before hval0 hW _ _ hL _
  have hval : ∀ (j : Nat) t v, Tryd.f4.params[j]? = some t → args[j]? = some v → Value.okWide Tryd.prog W .any base t v := hval0
  have hW' := hW
  obtain ⟨p, q, hA0, hV, rfl, hfz, hnd⟩ := hW
  have hA : DataW.TrodAll enc Tryd.prog W 0 (fun _ => true) true Tryd.f4.params.toList args.toList ds p := hA0
  rw [Tryd.params4] at hA hval
  obtain ⟨v0, vs0, d0, ds0, p0, q0, hargs, rfl, rfl, h0, r0⟩ := trodAll_cons hA
  obtain ⟨v1, vs1, d1, ds1, p1, q1, rfl, rfl, rfl, h1, r1⟩ := trodAll_cons r0
  obtain ⟨rfl, rfl, rfl⟩ := trodAll_nil r1
  obtain rfl : args = #[v0, v1] := by cases args; simp_all
  obtain ⟨rfl, rfl⟩ := trodVars_none hV
  have k0 := h0
  have lt0 : ∀ x ∈ p0, x.block < W.heap.size := by obtain ⟨m, hm⟩ := k0; exact DataW.trod_lt m _ _ _ hm
  have k1 := h1
  have lt1 : ∀ x ∈ p1, x.block < W.heap.size := by obtain ⟨m, hm⟩ := k1; exact DataW.trod_lt m _ _ _ hm
  have hO0 : Opens enc Tryd.prog W 0 (fun _ => true) true (Kd.pair (Kd.int .i64) (Kd.pair (Kd.int .i64) (Kd.pair (Kd.int .i64) (Kd.slice 116 k116)))) 24 _ := (opens_struct Tryd.underlying24 (by kernel_rfl) (opensF_cons (by kernel_rfl) (opens_int Tryd.underlying3) (opensF_cons (by kernel_rfl) (opens_int Tryd.underlying3) (opensF_cons (by kernel_rfl) (opens_int Tryd.underlying3) (opensF_one (by kernel_rfl) (opens_slice 116 Tryd.underlying22 (opens_iso (fun x : S116 => (x.f0, x.f1, x.f2, x.f3)) (fun a => ⟨a.1, a.2.1, a.2.2.1, a.2.2.2⟩) (fun _ => rfl) (opens_struct Tryd.underlying116 (by kernel_rfl) (opensF_cons (by kernel_rfl) (opens_iso (fun x : S27 => (x.f0, x.f1, x.f2)) (fun a => ⟨a.1, a.2.1, a.2.2⟩) (fun _ => rfl) (opens_struct Tryd.underlying27 (by kernel_rfl) (opensF_cons (by kernel_rfl) (opens_string Tryd.underlying9) (opensF_cons (by kernel_rfl) (opens_slice 119 Tryd.underlying25 (opens_iso (fun x : S119 => (x.f0, x.f1)) (fun a => ⟨a.1, a.2⟩) (fun _ => rfl) (opens_struct Tryd.underlying119 (by kernel_rfl) (opensF_cons (by kernel_rfl) (opens_string Tryd.underlying9) (opensF_one (by kernel_rfl) (opens_string Tryd.underlying9))))) (by kernel_rfl)) (opensF_one (by kernel_rfl) (opens_int Tryd.underlying3)))))) (opensF_cons (by kernel_rfl) (opens_iso (fun x : S92 => (x.f0, x.f1, x.f2, x.f3, x.f4, x.f5)) (fun a => ⟨a.1, a.2.1, a.2.2.1, a.2.2.2.1, a.2.2.2.2.1, a.2.2.2.2.2⟩) (fun _ => rfl) (opens_struct Tryd.underlying92 (by kernel_rfl) (opensF_cons (by kernel_rfl) (opens_int Tryd.underlying3) (opensF_cons (by kernel_rfl) (opens_int Tryd.underlying3) (opensF_cons (by kernel_rfl) (opens_int Tryd.underlying3) (opensF_cons (by kernel_rfl) (opens_int Tryd.underlying3) (opensF_cons (by kernel_rfl) (opens_slice 3 Tryd.underlying33 (opens_int Tryd.underlying3) (by kernel_rfl)) (opensF_one (by kernel_rfl) (opens_bool Tryd.underlying4))))))))) (opensF_cons (by kernel_rfl) (opens_int Tryd.underlying3) (opensF_one (by kernel_rfl) (opens_bool Tryd.underlying4))))))) (by kernel_rfl)))))))
  obtain ⟨cs0, rfl, hsz0⟩ := okWide_struct Tryd.underlying24 (hval 0 24 v0 rfl rfl)
  obtain ⟨⟨a0_0, a0_1, a0_2, l0_3⟩, ⟨_, _, e0, rfl, ⟨_, _, rfl, rfl, ⟨_, _, rfl, rfl, ⟨A0_3, c0_3, rfl, hc0_3, hC0_3⟩⟩⟩⟩, hg0⟩ := hO0 _ _ _ h0.choose_spec
  obtain rfl : cs0 = #[.int .i64 a0_0, .int .i64 a0_1, .int .i64 a0_2, .slice A0_3 l0_3.length c0_3] := by
    have e1 : (Value.agg cs0).cells.toList = [.int .i64 a0_0, .int .i64 a0_1, .int .i64 a0_2, .slice A0_3 l0_3.length c0_3] := e0
    cases cs0
    simpa [Value.cells] using e1
  have hO1 : Opens enc Tryd.prog W 0 (fun _ => true) true (Kd.int .i64) 3 _ := (opens_int Tryd.underlying3)
  obtain ⟨b1, rfl⟩ := okWide_int Tryd.underlying3 (hval 1 3 v1 rfl rfl)
  obtain ⟨a1, e1, hg1⟩ := hO1 _ _ _ h1.choose_spec
  obtain rfl : a1 = b1 := by
    have e1 : (Value.int .i64 b1).cells.toList = [.int .i64 a1] := e1
    simpa [Value.cells] using e1.symm
  clear hA0 hval0
  obtain ⟨k, hk⟩ := Pure.FnExactRaiseMark a0_0 a0_1 a0_2 l0_3 a1 hg0 hg1
  refine (laws_FnExactRaiseMark.calls (k := k) (a0_0 := a0_0) (a0_1 := a0_1) (a0_2 := a0_2) (l0_3 := l0_3) (A0_3 := A0_3) (c0_3 := c0_3) (hr0_3 := hC0_3) (hc0_3 := hc0_3) (a1 := a1) (w := W) (h := hk)).mono fun e W' ⟨he, bel⟩ => ?_
  subst he
  exact ⟨_, rfl, _, _, _, [], _, [], hW', trodAll_mk1 (shut_bool Tryd.underlying4 _), (trodAll_cons_mk (Below.trod laidOut (by kernel_rfl) (of_decide_eq_true (by kernel_rfl)) k0 bel lt0) (trodAll_cons_mk (Below.trod laidOut (by kernel_rfl) (of_decide_eq_true (by kernel_rfl)) k1 bel lt1) trodAll_mk0)), rfl, bel.frame _, fun h => by cases h⟩

theorem said : Rows.FnExactRaiseMarkSaid :=
  OpenClaim.holds_of_wide 4 Tryd.f4 rfl rfl rfl rfl rfl rfl rfl ⟨rfl, rfl, rfl, rfl, rfl⟩ rfl rfl rfl rfl rfl (by kernel_rfl) Tryd.func4 (by kernel_rfl)
    (of_decide_eq_true (by kernel_rfl)) (by unfold Func.isWrapper; first | (rw [if_pos (by decide +kernel)]; kernel_rfl) | (rw [if_neg (of_decide_eq_false (by kernel_rfl))]; exact ⟨rfl, rfl⟩))
    (fun os started H enc _ => lifted os started H enc)
theorem proved : Rows.FnExactRaiseMarkCardSaid :=
  Claim7.holds_tied_plain_at .later [] [.data, .pinned] true (true, "dbe4185d9b14acd1f21281ce2ffaf2428158838d079ea547a5009293e05bd213") false
    said (fun _ h => by cases h) (by kernel_rfl) (fun _ h => by cases h) fnExactRaiseMark_row_tie rfl ⟨rfl, rfl⟩ (by kernel_rfl) rfl
    (fun f fn hf hfn => by
      obtain rfl : f = 4 := Option.some.inj ((show Tryd.prog.funcNamed "loop.example/g00150/laws.FnExactRaiseMark" = some 4 by kernel_rfl).symm.trans hf) |>.symm
      obtain rfl : fn = Tryd.f4 := (Option.some.inj (Tryd.func4.symm.trans hfn)).symm
      exact ⟨by kernel_rfl, fun j t ht => by
        rw [Tryd.params4] at ht
        have h3 : t = 24 ∨ t = 3 := by
          rcases j with _ | j
          · exact (.inl (by simpa using ht.symm))
          · rcases j with _ | j
            · exact .inr (((by simpa using ht.symm)))
            · simp at ht
        rcases h3 with rfl | rfl
        · exact (show Tryd.prog.wantsStandIn 24 = false by kernel_rfl)
        · exact (show Tryd.prog.wantsStandIn 3 = false by kernel_rfl)⟩)
    (by kernel_rfl)
#print axioms proved
end Go.Proofs.YtkgmoajdcibafaaDoor.fnExactRaiseMark
namespace Go.Proofs.YtkgmoajdcibafaaDoor
/-- The tied card, under a short name, for the claim. -/
theorem fnExactRaiseMark_holds : Rows.FnExactRaiseMarkCardSaid := fnExactRaiseMark.proved
end Go.Proofs.YtkgmoajdcibafaaDoor
