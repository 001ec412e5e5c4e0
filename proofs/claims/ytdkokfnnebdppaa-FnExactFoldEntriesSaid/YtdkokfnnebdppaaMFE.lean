/- The statement's own text and the last of the walks that it uses. -/
import Derived.Lib.SlicesCompact
import Derived.Test.YtdkokfnnebdppaaRows
import Derived.WalkKit
import Derived.ProofKit
import Derived.OpenShut
import Derived.ChangeOld
import Derived.Below
import Derived.Handed
import Derived.SizedLaws
import Derived.RowKit
import Derived.Test.YtdkokfnnebdppaaMFE5

/- Entries that come in: their measure, their copies, and that a copy equals itself. -/
namespace Go.Proofs.Ytdkokfnnebdppaa.Lem
open Go Go.RowKit Go.Proofs.Ytdkokfnnebdppaa.P Go.Proofs.YtdkokfnnebdppaaW.PrintWords Go.Proofs.YtdkokfnnebdppaaW.PrintLast Go.Proofs.YtdkokfnnebdppaaW.PrintMore

abbrev Le := S41
abbrev En := S45
theorem rdLe_get {l : List Le} {i : Nat} (h : i < l.length) : rd_T41 l (i : Int) = l[i] := by
  unfold rd_T41
  rw [Int.toNat_natCast, List.getD_eq_getElem?_getD, List.getElem?_eq_getElem h]
  rfl
theorem rdE_get {l : List En} {i : Nat} (h : i < l.length) : rd_T45 l (i : Int) = l[i] := by
  unfold rd_T45
  rw [Int.toNat_natCast, List.getD_eq_getElem?_getD, List.getElem?_eq_getElem h]
  rfl
/-- The place behind i. -/
theorem wrapS {i n : Nat} (h : i < n) (hn : n ≤ 1000000000000) : wrap64 ((i : Int) + 1) = ((i + 1 : Nat) : Int) := by rw [w64 (by omega) (by omega)]; omega
/-- An entry that Go can hold. -/
def HeldE (e : Le) : Prop := e.f0.size ≤ 9223372036854775807 ∧ e.f3.f4.length ≤ 9223372036854775807
/-- An entry that is no longer than the bound. -/
def ShortE (e : Le) : Prop := e.f0.size ≤ 1048576 ∧ e.f3.f4.length ≤ 1048576
theorem heldE {e : Le} (h : GEntry e) : HeldE e := ⟨maxLen_le h.1, maxLen_le h.2.2.2.2.2.2.2.1.1⟩
theorem szEntry_ok {e : Le} (he : HeldE e) {x : Int} (h0 : 0 ≤ x) (h1 : x ≤ 1048576) : ∃ r, laws_szEntry.f e.f0 e.f1 e.f2 e.f3.f0 e.f3.f1 e.f3.f2 e.f3.f3 e.f3.f4 e.f3.f5 x = some r ∧ (r < 0 ∨ (0 ≤ r ∧ r ≤ x ∧ ShortE e)) := by
  obtain ⟨hm, hl⟩ := he
  unfold laws_szEntry.f
  rw [show wrap64 (x - (e.f0.size : Int)) = x - (e.f0.size : Int) from w64 (by omega) (by omega)]
  by_cases h : x - (e.f0.size : Int) < 0
  · exact ⟨-1, by rw [if_pos h], .inl (by omega)⟩
  · obtain ⟨r, hr, hr2⟩ := szAgg_ok e.f3.f0 e.f3.f1 e.f3.f2 e.f3.f3 hl e.f3.f5 (x := x - (e.f0.size : Int)) (by omega) (by omega)
    rw [if_neg h, hr, Option.bind_some]
    by_cases hn : r < 0
    · exact ⟨-1, by rw [if_pos hn], .inl (by omega)⟩
    · exact ⟨r, by rw [if_neg hn], .inr ⟨by omega, by omega, by omega, by omega⟩⟩
theorem szEntryS_l0 (l : List Le) (hl : l.length ≤ 1048576) (hh : ∀ w ∈ l, HeldE w) : ∀ (d i k : Nat) (x : Int), i + d = l.length → d < k → 0 ≤ x → x ≤ 1048576 → ∃ r, laws_szEntryS.l0 k l x (i : Int) = some r ∧ (r < 0 ∨ (0 ≤ r ∧ r ≤ x ∧ ∀ w ∈ l.drop i, ShortE w)) := by
  intro d
  induction d with
  | zero =>
    intro i k x hi hk h0 h1
    obtain ⟨k, rfl⟩ : ∃ q, k = q + 1 := ⟨k - 1, by omega⟩
    exact ⟨x, by rw [laws_szEntryS.l0, if_neg (by omega)], .inr ⟨h0, Int.le_refl _, fun w hw => by rw [List.drop_of_length_le (by omega)] at hw; simp at hw⟩⟩
  | succ d ih =>
    intro i k x hi hk h0 h1
    obtain ⟨k, rfl⟩ : ∃ q, k = q + 1 := ⟨k - 1, by omega⟩
    have hlt : i < l.length := by omega
    obtain ⟨r, hr, hr2⟩ := szEntry_ok (hh l[i] (List.getElem_mem hlt)) h0 h1
    rw [laws_szEntryS.l0, if_pos (by omega), if_pos (by omega), rdLe_get hlt, hr, Option.bind_some]
    by_cases hn : r < 0
    · exact ⟨-1, by rw [if_pos hn], .inl (by omega)⟩
    · rw [if_neg hn, wrapS hlt (by omega)]
      have hr3 : 0 ≤ r ∧ r ≤ x ∧ ShortE l[i] := by
        rcases hr2 with h | h
        · exact absurd h hn
        · exact h
      obtain ⟨r2, hq, hq2⟩ := ih (i + 1) k r (by omega) (by omega) (by omega) (by omega)
      refine ⟨r2, hq, ?_⟩
      rcases hq2 with h | ⟨h, h', h''⟩
      · exact .inl h
      · refine .inr ⟨h, by omega, fun w hw => ?_⟩
        rw [drop_get hlt] at hw
        rcases List.mem_cons.1 hw with rfl | hw
        · exact hr3.2.2
        · exact h'' w hw
theorem szEntryS_ok {l : List Le} (hl : l.length ≤ 9223372036854775807) (hh : ∀ w ∈ l, HeldE w) {x : Int} (h0 : 0 ≤ x) (h1 : x ≤ 1048576) {k : Nat} (hk : 1048577 < k) : ∃ r, laws_szEntryS.f k l x = some r ∧ (r < 0 ∨ (0 ≤ r ∧ r ≤ x ∧ l.length ≤ 1048576 ∧ ∀ w ∈ l, ShortE w)) := by
  unfold laws_szEntryS.f
  rw [show wrap64 (x - (l.length : Int)) = x - (l.length : Int) from w64 (by omega) (by omega)]
  by_cases h : x - (l.length : Int) < 0
  · exact ⟨-1, by rw [if_pos h], .inl (by omega)⟩
  · rw [if_neg h]
    obtain ⟨r, hr, hr2⟩ := szEntryS_l0 l (by omega) hh l.length 0 k (x - (l.length : Int)) (by omega) (by omega) (by omega) (by omega)
    rw [List.drop_zero] at hr2
    refine ⟨r, hr, ?_⟩
    rcases hr2 with h2 | ⟨h2, h3, h4⟩
    · exact .inl h2
    · exact .inr ⟨h2, by omega, by omega, h4⟩

/-- The entry as the program has it. -/
def cvE (e : Le) : En := ⟨e.f0, e.f1, e.f2, ⟨e.f3.f0, e.f3.f1, e.f3.f2, e.f3.f3, e.f3.f4, e.f3.f5⟩⟩
theorem toEntryS_l0 {l : List Le} (hl : l.length ≤ 1048576) (hh : ∀ w ∈ l, ShortE w) : ∀ (d k i : Nat), i + d = l.length → d + 1048580 < k → laws_toEntryS.l0 k l ((l.take i).map cvE ++ List.replicate d z45) (i : Int) = some (l.map cvE) := by
  intro d
  induction d with
  | zero =>
    intro k i hi hk
    obtain ⟨k, rfl⟩ : ∃ q, k = q + 1 := ⟨k - 1, by omega⟩
    rw [laws_toEntryS.l0, if_neg (by omega), List.take_of_length_le (by omega), List.replicate_zero, List.append_nil]
  | succ d ih =>
    intro k i hi hk
    obtain ⟨k, rfl⟩ : ∃ q, k = q + 1 := ⟨k - 1, by omega⟩
    have hlt : i < l.length := by omega
    have hnext := ih k (i + 1) (by omega) (by omega)
    have he : laws_toEntry.f k l[i].f0 l[i].f1 l[i].f2 l[i].f3.f0 l[i].f3.f1 l[i].f3.f2 l[i].f3.f3 l[i].f3.f4 l[i].f3.f5 = some (l[i].f0, l[i].f1, l[i].f2, l[i].f3.f0, l[i].f3.f1, l[i].f3.f2, l[i].f3.f3, l[i].f3.f4, l[i].f3.f5) := by
      unfold laws_toEntry.f
      rw [toAgg_ok _ _ _ _ (hh _ (List.getElem_mem hlt)).2 _ (by omega), Option.bind_some]
    rw [laws_toEntryS.l0, if_pos (by omega), if_pos (by omega), rdLe_get hlt, he]
    rw [Option.bind_some, if_pos (by rw [List.length_append, List.length_map, List.length_take, List.length_replicate]; omega), Int.toNat_natCast, wrapS hlt (by omega)]
    have e := set_copy cvE z45 (d := d) hlt
    show laws_toEntryS.l0 k l (((l.take i).map cvE ++ List.replicate (d + 1) z45).set i (cvE l[i])) _ = _
    rw [e]
    exact hnext
theorem toEntryS_ok {l : List Le} (hl : l.length ≤ 1048576) (hh : ∀ w ∈ l, ShortE w) {k : Nat} (hk : 2097160 < k) : laws_toEntryS.f k l = some (l.map cvE) := by
  unfold laws_toEntryS.f
  rw [if_pos (by omega), if_pos (by rw [Int.toNat_natCast]; omega), Int.toNat_natCast]
  have h := toEntryS_l0 hl hh l.length k 0 (by omega) (by omega)
  rw [List.take_zero, List.map_nil, List.nil_append] at h
  exact h

/-- Entries whose rows are within the bound. -/
def RowsE (l : List En) : Prop := ∀ e ∈ l, e.f3.f4.length ≤ 1048576
theorem rowsE_map {l : List Le} (h : ∀ w ∈ l, ShortE w) : RowsE (l.map cvE) := by
  intro e he
  obtain ⟨v, hv, rfl⟩ := List.mem_map.1 he
  exact (h v hv).2
theorem eqEntry_ok {e : En} (h : e.f3.f4.length ≤ 1048576) {k : Nat} (hk : 1048577 < k) :
    laws_eqEntry.f k e.f0 e.f1 e.f2 e.f3.f0 e.f3.f1 e.f3.f2 e.f3.f3 e.f3.f4 e.f3.f5 e.f0 e.f1 e.f2 e.f3.f0 e.f3.f1 e.f3.f2 e.f3.f3 e.f3.f4 e.f3.f5 = some true := by
  unfold laws_eqEntry.f
  rw [if_pos rfl, if_pos rfl, if_pos rfl, eqAgg_ok e.f3.f0 e.f3.f1 e.f3.f2 e.f3.f3 h e.f3.f5 (by omega), Option.bind_some, if_pos rfl]
theorem eqEntryS_l0 (l : List En) (hl : l.length ≤ 1048576) (hh : RowsE l) : ∀ (d i k : Nat), i + d = l.length → d + 1048580 < k → laws_eqEntryS.l0 k l l (i : Int) = some true := by
  intro d
  induction d with
  | zero =>
    intro i k hi hk
    obtain ⟨k, rfl⟩ : ∃ q, k = q + 1 := ⟨k - 1, by omega⟩
    rw [laws_eqEntryS.l0, if_neg (by omega)]
  | succ d ih =>
    intro i k hi hk
    obtain ⟨k, rfl⟩ : ∃ q, k = q + 1 := ⟨k - 1, by omega⟩
    have hlt : i < l.length := by omega
    have hnext := ih (i + 1) k (by omega) (by omega)
    have q1 := hh l[i] (List.getElem_mem hlt)
    rw [laws_eqEntryS.l0, if_pos (by omega), if_pos (by omega), if_pos (by omega), rdE_get hlt, eqEntry_ok q1 (by omega), Option.bind_some, if_pos rfl, wrapS hlt (by omega)]
    exact hnext
theorem eqEntryS_ok {l : List En} (hl : l.length ≤ 1048576) (hh : RowsE l) {k : Nat} (hk : 2097160 < k) : laws_eqEntryS.f k l l = some true := by
  unfold laws_eqEntryS.f
  rw [if_pos rfl]
  exact eqEntryS_l0 l hl hh l.length 0 k (by omega) (by omega)
end Go.Proofs.Ytdkokfnnebdppaa.Lem

/- Both programs tell whether an entry is good, and whether entries are, and tell it alike. -/
namespace Go.Proofs.Ytdkokfnnebdppaa.Lem
open Go Go.RowKit Go.Proofs.Ytdkokfnnebdppaa.P Go.Proofs.YtdkokfnnebdppaaW.PrintWords Go.Proofs.YtdkokfnnebdppaaW.PrintLast Go.Proofs.YtdkokfnnebdppaaW.PrintMore

abbrev Ga := S26
def aggOf (a : Ga) : Ag := ⟨a.f0, a.f1, a.f2, a.f3, a.f4, a.f5⟩
def ZeroA (a : Ga) : Prop := a.f0 = 0 ∧ a.f1 = 0 ∧ a.f2 = 0 ∧ a.f3 = 0 ∧ a.f4.length = 0 ∧ a.f5 = false
/-- A good entry. -/
def GoodE (e : En) : Prop := (1 ≤ (e.f0.size : Int) ∧ (e.f0.size : Int) ≤ 140) ∧ (1 ≤ e.f1 ∧ e.f1 ≤ 1000000000) ∧ (((e.f2 = 1 ∨ e.f2 = 3) ∧ Good (aggOf e.f3)) ∨ (e.f2 = 2 ∧ ZeroA e.f3))
theorem Tells.bind_id {p : Prop} {r : Option Bool} (h : Tells p r) : Tells p (r.bind fun t => some t) := by
  have e : (r.bind fun t => some t) = r := by cases r <;> rfl
  rw [e]; exact h
theorem Tells.iff {p q : Prop} {r : Option Bool} (h : Tells p r) (e : p ↔ q) : Tells q r := ⟨fun hq => h.1 (e.2 hq), fun hq => h.2 (fun hp => hq (e.1 hp))⟩
theorem Tells.both {p : Prop} {r s : Option Bool} (h : Tells p r) (h' : Tells p s) : ∃ b : Bool, r = some b ∧ s = some b ∧ (b = true ↔ p) := by
  by_cases c : p
  · exact ⟨true, h.1 c, h'.1 c, by simp [c]⟩
  · exact ⟨false, h.2 c, h'.2 c, by simp [c]⟩
theorem l5Zero_ok (a : Ga) : Tells (ZeroA a) (spec_l5Zero.f a.f0 a.f1 a.f2 a.f3 a.f4 a.f5) := by
  unfold spec_l5Zero.f ZeroA
  by_cases h0 : a.f0 = 0
  · rw [if_pos h0]
    by_cases h1 : a.f1 = 0
    · rw [if_pos h1]
      by_cases h2 : a.f2 = 0
      · rw [if_pos h2]
        by_cases h3 : a.f3 = 0
        · rw [if_pos h3]
          by_cases h4 : a.f4.length = 0
          · rw [if_pos (by omega)]
            cases h5 : a.f5
            · exact .yes ⟨h0, h1, h2, h3, h4, rfl⟩
            · exact .no (fun h => by have := h.2.2.2.2.2; simp at this)
          · rw [if_neg (by omega)]; exact .no (fun h => h4 h.2.2.2.2.1)
        · rw [if_neg h3]; exact .no (fun h => h3 h.2.2.2.1)
      · rw [if_neg h2]; exact .no (fun h => h2 h.2.2.1)
    · rw [if_neg h1]; exact .no (fun h => h1 h.2.1)
  · rw [if_neg h0]; exact .no (fun h => h0 h.1)
theorem isZero_ok (a : Ga) : Tells (ZeroA a) (impl_Agg_isZero.f a.f0 a.f1 a.f2 a.f3 a.f4 a.f5) := l5Zero_ok a
theorem spec_goodE (e : En) {k : Nat} (hk : 30 < k) : Tells (GoodE e) (spec_GoodEntry.f k e.f0 e.f1 e.f2 e.f3.f0 e.f3.f1 e.f3.f2 e.f3.f3 e.f3.f4 e.f3.f5) := by
  obtain ⟨k, rfl⟩ : ∃ q, k = q + 1 + 1 := ⟨k - 2, by omega⟩
  unfold spec_GoodEntry.f
  rw [l1In_ok, Option.bind_some]
  by_cases h0 : 1 ≤ (e.f0.size : Int) ∧ (e.f0.size : Int) ≤ 140
  · rw [decide_eq_true h0, if_pos rfl, l1In_ok, Option.bind_some]
    by_cases h1 : 1 ≤ e.f1 ∧ e.f1 ≤ 1000000000
    · rw [decide_eq_true h1, spec_GoodEntry.j0, if_neg (by decide)]
      have g := spec_goodAll (aggOf e.f3) (k := k) (by omega)
      by_cases h2 : e.f2 = 1
      · rw [if_pos h2, spec_GoodEntry.j1, if_pos (by rw [h2]; rfl)]
        exact g.bind_id.iff ⟨fun q => ⟨h0, h1, .inl ⟨.inl h2, q⟩⟩, fun q => by rcases q.2.2 with q | q; exact q.2; have := q.1; omega⟩
      · rw [if_neg h2, spec_GoodEntry.j1]
        by_cases h3 : e.f2 = 3
        · rw [if_pos (by rw [h3]; rfl)]
          exact g.bind_id.iff ⟨fun q => ⟨h0, h1, .inl ⟨.inr h3, q⟩⟩, fun q => by rcases q.2.2 with q | q; exact q.2; have := q.1; omega⟩
        · rw [if_neg (by simpa using h3)]
          by_cases h4 : e.f2 = 2
          · rw [if_pos h4]
            exact (l5Zero_ok e.f3).bind_id.iff ⟨fun q => ⟨h0, h1, .inr ⟨h4, q⟩⟩, fun q => by rcases q.2.2 with q | q; have := q.1; omega; exact q.2⟩
          · rw [if_neg h4]
            exact .no (fun q => by rcases q.2.2 with q | q; have := q.1; omega; exact h4 q.1)
    · rw [decide_eq_false h1, spec_GoodEntry.j0, if_pos (by decide)]
      exact .no (fun q => h1 q.2.1)
  · rw [decide_eq_false h0, if_neg (by decide), spec_GoodEntry.j0, if_pos rfl]
    exact .no (fun q => h0 q.1)
theorem impl_goodE (e : En) {k : Nat} (hk : 30 < k) : Tells (GoodE e) (impl_GoodEntry.f k e.f0 e.f1 e.f2 e.f3.f0 e.f3.f1 e.f3.f2 e.f3.f3 e.f3.f4 e.f3.f5) := by
  obtain ⟨k, rfl⟩ : ∃ q, k = q + 1 := ⟨k - 1, by omega⟩
  unfold impl_GoodEntry.f impl_isKeyText.f
  rw [within_ok, Option.bind_some, Option.bind_some]
  by_cases h0 : 1 ≤ (e.f0.size : Int) ∧ (e.f0.size : Int) ≤ 140
  · rw [decide_eq_true h0, if_pos rfl, within_ok, Option.bind_some]
    by_cases h1 : 1 ≤ e.f1 ∧ e.f1 ≤ 1000000000
    · rw [decide_eq_true h1, impl_GoodEntry.j0, if_neg (by decide)]
      have g := impl_goodAll (aggOf e.f3) (k := k) (by omega)
      by_cases h4 : e.f2 = 2
      · rw [if_pos h4]
        exact (isZero_ok e.f3).bind_id.iff ⟨fun q => ⟨h0, h1, .inr ⟨h4, q⟩⟩, fun q => by rcases q.2.2 with q | q; have := q.1; omega; exact q.2⟩
      · rw [if_neg h4]
        by_cases h2 : e.f2 = 1
        · rw [if_pos h2]
          exact g.bind_id.iff ⟨fun q => ⟨h0, h1, .inl ⟨.inl h2, q⟩⟩, fun q => by rcases q.2.2 with q | q; exact q.2; have := q.1; omega⟩
        · rw [if_neg h2]
          by_cases h3 : e.f2 = 3
          · rw [if_pos h3]
            exact g.bind_id.iff ⟨fun q => ⟨h0, h1, .inl ⟨.inr h3, q⟩⟩, fun q => by rcases q.2.2 with q | q; exact q.2; have := q.1; omega⟩
          · rw [if_neg h3]
            exact .no (fun q => by rcases q.2.2 with q | q; have := q.1; omega; exact h4 q.1)
    · rw [decide_eq_false h1, impl_GoodEntry.j0, if_pos (by decide)]
      exact .no (fun q => h1 q.2.1)
  · rw [decide_eq_false h0, if_neg (by decide), impl_GoodEntry.j0, if_pos rfl]
    exact .no (fun q => h0 q.1)

/-- Whether an entry stands ahead of another. -/
def Before (a b : En) : Prop := ordB a.f0 b.f0 = -1 ∨ (ordB a.f0 b.f0 = 0 ∧ a.f1 > b.f1)
theorem ordB_three (a b : ByteArray) : ordB a b = -1 ∨ ordB a b = 0 ∨ ordB a b = 1 := by
  unfold ordB ord
  split
  · exact .inl rfl
  · split
    · exact .inr (.inr rfl)
    · exact .inr (.inl rfl)
theorem ordB_zero {a b : ByteArray} : ordB a b = 0 ↔ a.toList = b.toList := by
  rw [Go.Lib.toList_data, Go.Lib.toList_data]
  exact ⟨ord_eq_zero, fun h => by unfold ordB; rw [h, ord_self]⟩
theorem ordB_lt {a b : ByteArray} : ordB a b = -1 ↔ Op.bytesLess a.toList b.toList = true := by
  rw [Go.Lib.toList_data, Go.Lib.toList_data]
  unfold ordB ord
  by_cases h : Op.bytesLess a.data.toList b.data.toList = true
  · rw [if_pos h]; exact ⟨fun _ => h, fun _ => rfl⟩
  · rw [if_neg h]
    refine ⟨fun q => ?_, fun q => absurd q h⟩
    split at q <;> simp at q
theorem l5Before_ok (a b : En) : Tells (Before a b) (spec_l5Before.f a.f0 a.f1 a.f2 a.f3.f0 a.f3.f1 a.f3.f2 a.f3.f3 a.f3.f4 a.f3.f5 b.f0 b.f1 b.f2 b.f3.f0 b.f3.f1 b.f3.f2 b.f3.f3 b.f3.f4 b.f3.f5) := by
  unfold spec_l5Before.f Before
  by_cases h : ordB a.f0 b.f0 = -1
  · rw [if_pos (ordB_lt.1 h)]; exact .yes (.inl h)
  · rw [if_neg (fun q => h (ordB_lt.2 q))]
    by_cases h0 : ordB a.f0 b.f0 = 0
    · rw [if_pos (ordB_zero.1 h0)]
      by_cases h1 : a.f1 > b.f1
      · rw [decide_eq_true h1]; exact .yes (.inr ⟨h0, h1⟩)
      · rw [decide_eq_false h1]; exact .no (fun q => by rcases q with q | q; exact h q; exact h1 q.2)
    · rw [if_neg (fun q => h0 (ordB_zero.2 q))]
      exact .no (fun q => by rcases q with q | q; exact h q; exact h0 q.1)
def cmpE (a b : En) : Int := if ordB a.f0 b.f0 = 0 then sgnI b.f1 a.f1 else ordB a.f0 b.f0
theorem compareEntries_ok (a b : En) {k : Nat} (hk : 3 < k) : impl_compareEntries.f k a.f0 a.f1 a.f2 a.f3.f0 a.f3.f1 a.f3.f2 a.f3.f3 a.f3.f4 a.f3.f5 b.f0 b.f1 b.f2 b.f3.f0 b.f3.f1 b.f3.f2 b.f3.f3 b.f3.f4 b.f3.f5 = some (cmpE a b) := by
  obtain ⟨k, rfl⟩ : ∃ q, k = q + 3 := ⟨k - 3, by omega⟩
  unfold impl_compareEntries.f
  rw [cmpS_ok, cmpI_ok, Option.bind_some, Option.bind_some, or2_ok, Option.bind_some]
  rfl
theorem cmpE_neg (a b : En) : cmpE a b < 0 ↔ Before a b := by
  unfold cmpE Before sgnI
  rcases ordB_three a.f0 b.f0 with h | h | h
  · rw [if_neg (by omega)]; exact ⟨fun _ => .inl h, fun _ => by omega⟩
  · rw [if_pos h]
    by_cases h1 : b.f1 < a.f1
    · rw [if_pos h1]; exact ⟨fun _ => .inr ⟨h, h1⟩, fun _ => by decide⟩
    · rw [if_neg h1]
      refine ⟨fun q => ?_, fun q => ?_⟩
      · split at q <;> exact absurd q (by decide)
      · rcases q with q | q
        · omega
        · exact absurd q.2 h1
  · rw [if_neg (by omega)]
    exact ⟨fun q => by omega, fun q => by rcases q with q | q <;> omega⟩
end Go.Proofs.Ytdkokfnnebdppaa.Lem

/- Numbers without repetition: sorted and compacted they are as many as before, and only then. No program in sight. -/
namespace Go.Proofs.Ytdkokfnnebdppaa.Lem
open Go

/-- From place i on each number stands nowhere ahead of itself. -/
def FreshFrom (s : List Int) (i : Nat) : Prop := ∀ j (h : j < s.length), i ≤ j → s[j] ∉ s.take j
theorem fresh_nodup (s : List Int) : FreshFrom s 0 ↔ s.Nodup := by
  unfold List.Nodup
  rw [List.pairwise_iff_getElem]
  constructor
  · intro h i j hi hj hij he
    exact h j hj (Nat.zero_le _) (List.mem_take_iff_getElem.2 ⟨i, by omega, he⟩)
  · intro h j hj _ hm
    obtain ⟨i, hi, he⟩ := List.mem_take_iff_getElem.1 hm
    exact h i j (by omega) hj (by omega) he
theorem keeps_len (zs : List Int) : (Lib.compact zs).length = zs.length ↔ ∀ j, j < zs.length → Lib.keeps zs.toArray j = true := by
  unfold Lib.compact Lib.compactUpTo
  rw [List.length_map]
  constructor
  · intro h
    have h2 : ((List.range zs.length).filter (Lib.keeps zs.toArray)).length = (List.range zs.length).length := by rw [h, List.length_range]
    have h3 := List.length_filter_eq_length_iff.1 h2
    exact fun j hj => h3 j (List.mem_range.2 hj)
  · intro h
    rw [List.filter_eq_self.2 (fun j hj => h j (List.mem_range.1 hj)), List.length_range]
theorem compact_sort_len (s : List Int) : (Lib.compact (s.mergeSort fun x y => decide (x ≤ y))).length = s.length ↔ s.Nodup := by
  have hp := List.mergeSort_perm s (fun x y => decide (x ≤ y))
  have hs := List.pairwise_mergeSort (le := fun x y : Int => decide (x ≤ y)) (fun a b c h1 h2 => by simp at *; omega) (fun a b => by simp; omega) s
  rw [← hp.nodup_iff, ← hp.length_eq, keeps_len]
  generalize (s.mergeSort fun x y => decide (x ≤ y)) = zs at hs
  clear hp
  unfold List.Nodup
  rw [List.pairwise_iff_getElem] at hs ⊢
  constructor
  · intro h i j hi hj hij
    have hk := h j hj
    unfold Lib.keeps at hk
    simp only [decide_eq_true_eq] at hk
    rcases hk with hk | hk
    · omega
    · have e1 : zs.toArray[j]! = zs[j] := by simp [getElem!_pos, hj]
      have e2 : zs.toArray[j - 1]! = zs[j - 1] := by simp [getElem!_pos, show j - 1 < zs.length by omega]
      rw [e1, e2] at hk
      have h1 : zs[j - 1] ≤ zs[j] := by
        have := hs (j - 1) j (by omega) hj (by omega)
        simpa using this
      have h2 : zs[i] ≤ zs[j - 1] := by
        by_cases c : i = j - 1
        · subst c; exact Int.le_refl _
        · have := hs i (j - 1) hi (by omega) (by omega)
          simpa using this
      omega
  · intro h j hj
    unfold Lib.keeps
    simp only [decide_eq_true_eq]
    by_cases c : j = 0
    · exact .inl c
    · refine .inr ?_
      have e1 : zs.toArray[j]! = zs[j] := by simp [getElem!_pos, hj]
      have e2 : zs.toArray[j - 1]! = zs[j - 1] := by simp [getElem!_pos, show j - 1 < zs.length by omega]
      rw [e1, e2]
      exact fun q => h (j - 1) j (by omega) hj (by omega) q.symm
end Go.Proofs.Ytdkokfnnebdppaa.Lem

/- Both programs tell whether entries are good, and tell it alike. -/
namespace Go.Proofs.Ytdkokfnnebdppaa.Lem
open Go Go.RowKit Go.Proofs.Ytdkokfnnebdppaa.P Go.Proofs.YtdkokfnnebdppaaW.PrintWords Go.Proofs.YtdkokfnnebdppaaW.PrintLast Go.Proofs.YtdkokfnnebdppaaW.PrintMore

/-- Place j is good: its entry is, and the one ahead stands ahead. -/
def OkAt (l : List En) (j : Nat) : Prop := ∀ (h : j < l.length), GoodE l[j] ∧ (∀ (_ : 0 < j), Before l[j - 1] l[j])
def OkFrom (l : List En) (i : Nat) : Prop := ∀ j, i ≤ j → OkAt l j
theorem okFrom_step {l : List En} {i : Nat} : OkFrom l i ↔ OkAt l i ∧ OkFrom l (i + 1) := by
  constructor
  · exact fun h => ⟨h i (Nat.le_refl _), fun j hj => h j (by omega)⟩
  · intro ⟨h1, h2⟩ j hj
    by_cases c : i = j
    · exact c ▸ h1
    · exact h2 j (by omega)
/-- Good entries. -/
def GoodEs (l : List En) : Prop := OkFrom l 0 ∧ (l.map (·.f1)).Nodup

/-- The search among those ahead. -/
theorem spec_l2 (s : List Int) (v : Int) (i : Nat) (y : List Int) (hy : y.length ≤ 1048576) : ∀ (d m k : Nat), m + d = y.length →
    (v ∈ y.drop m → spec_GoodEntries.l2 (k + d + 1) s v s (s.length : Int) (i : Int) y (y.length : Int) (m : Int) = some false) ∧
    (v ∉ y.drop m → spec_GoodEntries.l2 (k + d + 1) s v s (s.length : Int) (i : Int) y (y.length : Int) (m : Int) = spec_GoodEntries.l1 k s s (s.length : Int) (wrap64 ((i : Int) + 1))) := by
  intro d
  induction d with
  | zero =>
    intro m k hm
    refine ⟨fun h => ?_, fun h => ?_⟩
    · rw [List.drop_of_length_le (by omega)] at h; simp at h
    · rw [spec_GoodEntries.l2, if_neg (by omega)]
  | succ d ih =>
    intro m k hm
    have hlt : m < y.length := by omega
    obtain ⟨i1, i2⟩ := ih (m + 1) k (by omega)
    rw [drop_get hlt]
    have e0 : rd y (m : Int) = y[m] := by unfold rd; rw [Int.toNat_natCast, List.getD_eq_getElem?_getD, List.getElem?_eq_getElem hlt]; rfl
    refine ⟨fun h => ?_, fun h => ?_⟩
    · rw [spec_GoodEntries.l2, if_pos (by omega), if_pos (by omega), if_pos (by omega), e0]
      by_cases c : y[m] = v
      · rw [if_pos c]
      · rw [if_neg c, wrapS hlt (by omega)]
        rcases List.mem_cons.1 h with q | q
        · exact absurd q.symm c
        · exact i1 q
    · rw [spec_GoodEntries.l2, if_pos (by omega), if_pos (by omega), if_pos (by omega), e0]
      rw [if_neg (fun q => h (List.mem_cons.2 (.inl q.symm))), wrapS hlt (by omega)]
      exact i2 (fun q => h (List.mem_cons_of_mem _ q))
theorem fresh_step {s : List Int} {i : Nat} (hi : i < s.length) : FreshFrom s i ↔ s[i] ∉ s.take i ∧ FreshFrom s (i + 1) := by
  constructor
  · exact fun h => ⟨h i hi (Nat.le_refl _), fun j hj hij => h j hj (by omega)⟩
  · intro ⟨h1, h2⟩ j hj hij
    by_cases c : i = j
    · subst c; exact h1
    · exact h2 j hj (by omega)
theorem spec_l1 (s : List Int) (hs : s.length ≤ 1048576) {N : Nat} (hN : s.length + 4 ≤ N) : ∀ (d i k : Nat), i + d = s.length → d * N < k → Tells (FreshFrom s i) (spec_GoodEntries.l1 k s s (s.length : Int) (i : Int)) := by
  intro d
  induction d with
  | zero =>
    intro i k hi hk
    obtain ⟨k, rfl⟩ : ∃ q, k = q + 1 := ⟨k - 1, by omega⟩
    rw [spec_GoodEntries.l1, if_neg (by omega)]
    exact .yes (fun j hj hij => by omega)
  | succ d ih =>
    intro i k hi hk
    have hlt : i < s.length := by omega
    have ht : (s.take i).length = i := by rw [List.length_take]; omega
    have e0 : rd s (i : Int) = s[i] := by unfold rd; rw [Int.toNat_natCast, List.getD_eq_getElem?_getD, List.getElem?_eq_getElem hlt]; rfl
    rw [Nat.succ_mul] at hk
    obtain ⟨k, rfl⟩ : ∃ q, k = q + i + 1 + 1 := ⟨k - i - 2, by omega⟩
    obtain ⟨i1, i2⟩ := spec_l2 s s[i] i (s.take i) (by omega) i 0 k (by omega)
    rw [List.drop_zero] at i1 i2
    have e1 : spec_GoodEntries.l1 (k + i + 1 + 1) s s (s.length : Int) (i : Int) = spec_GoodEntries.l2 (k + i + 1) s s[i] s (s.length : Int) (i : Int) (s.take i) ((s.take i).length : Int) ((0 : Nat) : Int) := by
      rw [spec_GoodEntries.l1, if_pos (by omega), if_pos (by omega), if_pos (by omega), if_pos (by omega), Option.bind_some, e0]
      rfl
    rw [e1]
    by_cases c : s[i] ∈ s.take i
    · rw [i1 c]
      exact .no (fun q => ((fresh_step hlt).1 q).1 c)
    · rw [i2 c, wrapS hlt (by omega)]
      exact (ih (i + 1) k (by omega) (by omega)).iff ⟨fun q => (fresh_step hlt).2 ⟨c, q⟩, fun q => ((fresh_step hlt).1 q).2⟩

theorem map_step {l : List En} {i : Nat} (h : i < l.length) : (l.take i).map (·.f1) ++ [l[i].f1] = (l.take (i + 1)).map (·.f1) := by
  rw [List.take_succ_eq_append_getElem h, List.map_append]
  rfl
theorem spec_l0 (l : List En) (hl : l.length ≤ 1048576) : ∀ (d i k : Nat), i + d = l.length → 1099515822080 + d + 100 < k → Tells (OkFrom l i ∧ (l.map (·.f1)).Nodup) (spec_GoodEntries.l0 k l ((l.take i).map (·.f1)) l (l.length : Int) (i : Int)) := by
  intro d
  induction d with
  | zero =>
    intro i k hi hk
    obtain ⟨k, rfl⟩ : ∃ q, k = q + 1 := ⟨k - 1, by omega⟩
    have hm : (l.map (·.f1)).length = l.length := List.length_map ..
    have h := spec_l1 (l.map (·.f1)) (by omega) (N := 1048580) (by omega) l.length 0 k (by omega) (by omega)
    rw [spec_GoodEntries.l0, if_neg (by omega), List.take_of_length_le (by omega)]
    refine h.iff ?_
    rw [fresh_nodup]
    exact ⟨fun q => ⟨fun j hj hj2 => by omega, q⟩, fun q => q.2⟩
  | succ d ih =>
    intro i k hi hk
    obtain ⟨k, rfl⟩ : ∃ q, k = q + 1 := ⟨k - 1, by omega⟩
    have hlt : i < l.length := by omega
    have ht : ((l.take i).map (·.f1)).length = i := by rw [List.length_map, List.length_take]; omega
    have hnext := ih (i + 1) k (by omega) (by omega)
    rw [← map_step hlt] at hnext
    obtain ⟨g1, g2⟩ := spec_goodE l[i] (k := k) (by omega)
    rw [spec_GoodEntries.l0, if_pos (by omega), if_pos (by omega), if_pos (by omega), rdE_get hlt]
    by_cases c : GoodE l[i]
    · rw [g1 c, Option.bind_some, if_pos rfl]
      by_cases c0 : 0 < i
      · have e1 : wrap64 ((i : Int) - 1) = ((i - 1 : Nat) : Int) := by rw [w64 (by omega) (by omega)]; omega
        obtain ⟨b1, b2⟩ := l5Before_ok l[i - 1] l[i]
        rw [if_pos (by omega), e1, if_pos (by omega), if_pos (by omega), rdE_get (show i - 1 < l.length by omega)]
        by_cases cb : Before l[i - 1] l[i]
        · rw [b1 cb, Option.bind_some, if_pos rfl, if_pos (by omega), wrapS hlt (by omega)]
          exact hnext.iff ⟨fun q => ⟨okFrom_step.2 ⟨fun _ => ⟨c, fun _ => cb⟩, q.1⟩, q.2⟩, fun q => ⟨(okFrom_step.1 q.1).2, q.2⟩⟩
        · rw [b2 cb, Option.bind_some, if_neg (by decide)]
          exact .no (fun q => cb (((okFrom_step.1 q.1).1 hlt).2 c0))
      · rw [if_neg (by omega), if_pos (by omega), wrapS hlt (by omega)]
        exact hnext.iff ⟨fun q => ⟨okFrom_step.2 ⟨fun _ => ⟨c, fun h => absurd h c0⟩, q.1⟩, q.2⟩, fun q => ⟨(okFrom_step.1 q.1).2, q.2⟩⟩
    · rw [g2 c, Option.bind_some, if_neg (by decide)]
      exact .no (fun q => c ((okFrom_step.1 q.1).1 hlt).1)
theorem spec_goodEs (l : List En) (hl : l.length ≤ 1048576) {k : Nat} (hk : 2000000000000 < k) : Tells (GoodEs l) (spec_GoodEntries.f k l) := spec_l0 l hl l.length 0 k (by omega) (by omega)

theorem impl_l0 (l : List En) (hl : l.length ≤ 1048576) : ∀ (d i k : Nat), i + d = l.length → d + 100 < k → Tells (OkFrom l i ∧ (l.map (·.f1)).Nodup) (impl_GoodEntries.l0 k l ((l.take i).map (·.f1)) l (l.length : Int) (i : Int)) := by
  intro d
  induction d with
  | zero =>
    intro i k hi hk
    obtain ⟨k, rfl⟩ : ∃ q, k = q + 1 := ⟨k - 1, by omega⟩
    have hm : (l.map (·.f1)).length = l.length := List.length_map ..
    have hc := compact_sort_len (l.map (·.f1))
    have hle : ((l.map (·.f1)).mergeSort fun x y => decide (x ≤ y)).length = l.length := by rw [List.length_mergeSort, hm]
    rw [impl_GoodEntries.l0, if_neg (by omega), List.take_of_length_le (by omega)]
    unfold slices_Sort_int_int.f slices_Compact_int_int.f
    rw [if_pos (by omega), Option.bind_some, if_pos (by omega), Option.bind_some]
    by_cases c : (l.map (·.f1)).Nodup
    · have h := hc.2 c
      rw [h, hm, beq_self_eq_true]
      exact .yes ⟨fun j hj hj2 => by omega, c⟩
    · rw [beq_eq_false_iff_ne.2 (fun q => c (hc.1 (by rw [hm]; omega)))]
      exact .no (fun q => c q.2)
  | succ d ih =>
    intro i k hi hk
    obtain ⟨k, rfl⟩ : ∃ q, k = q + 1 := ⟨k - 1, by omega⟩
    have hlt : i < l.length := by omega
    have ht : ((l.take i).map (·.f1)).length = i := by rw [List.length_map, List.length_take]; omega
    have hnext := ih (i + 1) k (by omega) (by omega)
    rw [← map_step hlt] at hnext
    obtain ⟨g1, g2⟩ := impl_goodE l[i] (k := k) (by omega)
    rw [impl_GoodEntries.l0, if_pos (by omega), if_pos (by omega), if_pos (by omega), rdE_get hlt]
    by_cases c : GoodE l[i]
    · rw [g1 c, Option.bind_some, if_pos rfl]
      by_cases c0 : 0 < i
      · have e1 : wrap64 ((i : Int) - 1) = ((i - 1 : Nat) : Int) := by rw [w64 (by omega) (by omega)]; omega
        rw [if_pos (by omega), e1, if_pos (by omega), if_pos (by omega), rdE_get (show i - 1 < l.length by omega), compareEntries_ok _ _ (by omega), Option.bind_some]
        by_cases cb : Before l[i - 1] l[i]
        · have cb' := (cmpE_neg _ _).2 cb
          rw [if_neg (by omega), if_pos (by omega), wrapS hlt (by omega)]
          exact hnext.iff ⟨fun q => ⟨okFrom_step.2 ⟨fun _ => ⟨c, fun _ => cb⟩, q.1⟩, q.2⟩, fun q => ⟨(okFrom_step.1 q.1).2, q.2⟩⟩
        · have cb' : ¬ cmpE l[i - 1] l[i] < 0 := fun q => cb ((cmpE_neg _ _).1 q)
          rw [if_pos (by omega)]
          exact .no (fun q => cb (((okFrom_step.1 q.1).1 hlt).2 c0))
      · rw [if_neg (by omega), if_pos (by omega), wrapS hlt (by omega)]
        exact hnext.iff ⟨fun q => ⟨okFrom_step.2 ⟨fun _ => ⟨c, fun h => absurd h c0⟩, q.1⟩, q.2⟩, fun q => ⟨(okFrom_step.1 q.1).2, q.2⟩⟩
    · rw [g2 c, Option.bind_some, if_neg (by decide)]
      exact .no (fun q => c ((okFrom_step.1 q.1).1 hlt).1)
theorem impl_goodEs (l : List En) (hl : l.length ≤ 1048576) {k : Nat} (hk : 1050000 < k) : Tells (GoodEs l) (impl_GoodEntries.f k l) := impl_l0 l hl l.length 0 k (by omega) (by omega)
end Go.Proofs.Ytdkokfnnebdppaa.Lem

-- written by a program of this session's (wip/pp)
namespace Go.Proofs.Ytdkokfnnebdppaa.P
open Go.RowKit Go.Proofs.YtdkokfnnebdppaaW.PrintWords Go.Proofs.YtdkokfnnebdppaaW.PrintLast Go.Proofs.YtdkokfnnebdppaaW.PrintMore
attribute [local go_sem] max2_int min2_int max_two min_two max_three min_three max_four min_four str_geq str_gtr str_leq   -- for this text's walks alone
set_option linter.unusedVariables false
set_option linter.unusedSimpArgs false

/-! ### spec_l5Own: function 44 -/
def spec_l5Own.l0 : Nat → List (S45) → List (S45) → Int → Int → Option ((List (S45)))
 | 0, _, _, _, _ => none
 | k + 1, x3, x6, x7, x8 => if x8 < x7 then (if 0 ≤ x8 then (if x8 < (x6.length : Int) then ((spec_l4Own.f ((rd_T45 x6 x8).f3.f0) ((rd_T45 x6 x8).f3.f1) ((rd_T45 x6 x8).f3.f2) ((rd_T45 x6 x8).f3.f3) ((rd_T45 x6 x8).f3.f4) ((rd_T45 x6 x8).f3.f5)).bind fun bt103 => (if x3.length < 1466015503701 then (spec_l5Own.l0 k (x3 ++ [(⟨(rd_T45 x6 x8).f0, (rd_T45 x6 x8).f1, (rd_T45 x6 x8).f2, (⟨bt103.1, bt103.2.1, bt103.2.2.1, bt103.2.2.2.1, bt103.2.2.2.2.1, bt103.2.2.2.2.2⟩ : S26)⟩ : S45)]) x6 x7 (wrap64 (x8 + 1))) else (none))) else (none)) else (none)) else (some x3)
def spec_l5Own.f (k : Nat) (l0 : List (S45)) : Option ((List (S45))) := spec_l5Own.l0 k ([] : List (S45)) l0 (l0.length : Int) 0
theorem spec_l5Own.mono_l : ∀ k, (∀ y0 y1 y2 y3, LeO (spec_l5Own.l0 k y0 y1 y2 y3) (spec_l5Own.l0 (k + 1) y0 y1 y2 y3))
 | 0 => fun _ _ _ _ r h => by simp [spec_l5Own.l0] at h
 | k + 1 => by
  have ih0 := spec_l5Own.mono_l k
  · intro y0 y1 y2 y3
    unfold spec_l5Own.l0
    repeat' first
     | (with_reducible first | exact ih0 .. | exact LeO.refl _ | exact LeO.none _ | refine LeO.ite ?_ ?_ | refine LeO.bind ?_ (fun _ => ?_))
     | exact LeO.none _
     | refine LeO.ite ?_ ?_
     | refine LeO.bind ?_ (fun _ => ?_)
theorem spec_l5Own.mono : ∀ a0 k, LeO (spec_l5Own.f k a0) (spec_l5Own.f (k + 1) a0) := by
 intro a0 k
 have ih0 := spec_l5Own.mono_l k
 unfold spec_l5Own.f
 repeat' first
  | (with_reducible first | exact ih0 .. | exact LeO.refl _ | exact LeO.none _ | refine LeO.ite ?_ ?_ | refine LeO.bind ?_ (fun _ => ?_))
  | exact LeO.none _
  | refine LeO.ite ?_ ?_
  | refine LeO.bind ?_ (fun _ => ?_)
set_option maxHeartbeats 8000000 in
set_option maxRecDepth 100000 in
theorem spec_l5Own.calls (k : Nat) (A0 : Option Addr) (c0 : Nat) (l0 : List (S45)) (r : List (S45)) (w : World) (hr0 : Kd.C k45 w A0 l0.length l0) (hc0 : l0.length ≤ c0) (h : spec_l5Own.f k l0 = some r) :
 Calls Try.prog 44 #[.slice A0 l0.length c0] w fun e w' => ∃ v0_ : Value, e = .returned (v0_) ∧ Kd.S k45 45 w' w.heap.size (fun _ => True) v0_ r ∧ Below w.heap.size w w' := by
 have hu45 := Try.underlying45
 have hu26 := Try.underlying26
 have HR0 := aM hr0
 have HC0 := aM hc0
 clear hr0 hc0
 have HB := aM (Below.refl w.heap.size w)
 have H : (spec_l5Own.l0 k ([] : List (S45)) l0 (l0.length : Int) 0) = some r := h
 clear h
 have H' := aM H
 clear H
 go_enter Try.func44, Try.ntmps44
 go_wp2
 go_loopg [3, 8] k (fun kq v3 v8 w' => ∃ (x3_1 : List (S45)) (x8_1 : Int), v8 = .int .i64 x8_1 ∧ Aside0 (spec_l5Own.l0 kq x3_1 l0 (l0.length : Int) x8_1 = some r) ∧ Aside0 (kq ≤ k) ∧ Aside0 (Kd.S k45 45 w' w.heap.size (fun _ => True) v3 x3_1) ∧ Aside0 (Below w.heap.size w w'))
 case atStart => exact ⟨(([] : List (S45))), (0), z4458, H', ⟨Nat.le_refl _⟩, ⟨z2bfb⟩, ⟨z5acd⟩⟩
 case round =>
  clear H'
  obtain ⟨x3_1, x8_1, rfl, HA, HK1, HO_3, HB⟩ := hrel
  cases gk with
  | zero => exact absurd HA.out (by simp [spec_l5Own.l0])
  | succ k1 =>
   have H := HA.out
   clear HA
   simp only [spec_l5Own.l0] at H
   by_cases c2 : x8_1 < (l0.length : Int)
   · rw [if_pos c2] at H
     have c2b0 : decide (x8_1 < (l0.length : Int)) = true := decide_eq_true c2
     clear c2
     replace H := ifS H; obtain ⟨c3, H⟩ := H
     have c3b0 : decide (0 ≤ x8_1) = true := decide_eq_true c3
     clear c3
     replace H := ifS H; obtain ⟨c4, H⟩ := H
     have c4b0 : decide (x8_1 < (l0.length : Int)) = true := decide_eq_true c4
     clear c4
     replace H := Option.bind_eq_some_iff.mp H
     obtain ⟨⟨t103, t104, t105, t106, t107, t110⟩, A50, H⟩ := H
     try dsimp only at H
     have A5 := aM A50
     clear A50
     replace H := ifS H; obtain ⟨c6, H⟩ := H
     have LMc6 := aM c6
     clear c6
     obtain ⟨y111, hy111⟩ : ∃ y_ : List (S45), y_ = (x3_1 ++ [(⟨(rd_T45 l0 x8_1).f0, (rd_T45 l0 x8_1).f1, (rd_T45 l0 x8_1).f2, (⟨t103, t104, t105, t106, t107, t110⟩ : S26)⟩ : S45)]) := ⟨_, rfl⟩
     first | (replace H := bindS H; rw [← hy111] at H; try dsimp only at H) | rw [← hy111] at H
     have Ny111 := aM hy111
     clear hy111
     have H' := aM H
     clear H
     have p101 : 0 ≤ (x8_1 : Int) := of_decide_eq_true z1200
     have q101 : x8_1 < (l0.length : Int) := of_decide_eq_true z1200
     obtain ⟨ad101, A101_7, c101_7, e101, hx101_0, hx101_1, hx101_2, hx101_3, hx101_4, hx101_5, hx101_6, hx101_7, hx101_8, hl101_7, hi101_7⟩ := at_T45 HR0.out x8_1 p101 q101
     cases e101
     have TW101_7 := aM hx101_7
     replace hx101_0 := (HB.out.cell (World.block_lt_of_cell? w _ hx101_0)).trans hx101_0
     replace hx101_1 := (HB.out.cell (World.block_lt_of_cell? w _ hx101_1)).trans hx101_1
     replace hx101_2 := (HB.out.cell (World.block_lt_of_cell? w _ hx101_2)).trans hx101_2
     replace hx101_3 := (HB.out.cell (World.block_lt_of_cell? w _ hx101_3)).trans hx101_3
     replace hx101_4 := (HB.out.cell (World.block_lt_of_cell? w _ hx101_4)).trans hx101_4
     replace hx101_5 := (HB.out.cell (World.block_lt_of_cell? w _ hx101_5)).trans hx101_5
     replace hx101_6 := (HB.out.cell (World.block_lt_of_cell? w _ hx101_6)).trans hx101_6
     replace hx101_7 := (HB.out.cell (World.block_lt_of_cell? w _ hx101_7)).trans hx101_7
     replace hx101_8 := (HB.out.cell (World.block_lt_of_cell? w _ hx101_8)).trans hx101_8
     have HR101_7 := aM hi101_7
     have HC101_7 := aM hl101_7
     clear hi101_7 hl101_7
     replace p101 := eq_true p101
     replace q101 := eq_true q101
     go_wp2_with (first | ((with_reducible refine gate_dst (N := 5) rfl ?_); refine box_event ?hg (N := 5) ?hd (cs := #[.string (⟨#[]⟩ : ByteArray), .int .i64 0, .int .i64 0, .int .i64 0, .int .i64 0, .int .i64 0, .int .i64 0, .slice none 0 0, .bool false]) (t := 45) ?hr ?_; (case hd => rfl); (case hg => rfl); (case hr => first | (go_simp; done) | (go_simp; rfl)); intro gb102 hg w7 hbox hb; have _ := aM (Kd.S_below (Kd.S_elderB (by (with_reducible repeat (first | apply Kd.S_alloc | apply Kd.S_drewN | apply Kd.S_drew)); exact HO_3.out) gb102 (Nat.le_of_eq hg.symm)) hb); have _ := aM (below_step hbZ hb); have _ := aM hbox; have _ := szZ hg; have _ := szZ hg; clear HO_3 HB; rename_i HO_3 HB BK102 GW102 GE102; clear hb hbox hg; obtain ⟨hcz8_0, hcz8_1, hcz8_2, hcz8_3, hcz8_4, hcz8_5, hcz8_6, hcz8_7, hcz8_8, hfz8_0, hfz8_1, hfz8_2, hfz8_3, hfz8_4, hfz8_5, hfz8_6, hfz8_7, hfz8_8⟩ := cellsZ9 BK102.out) | ((with_reducible refine gate_callee (f := 67) rfl ?_); refine goesL_ (some 14) rfl rfl Try.func67 (by kernel_rfl) rfl #[.agg #[.int .i64 ((rd_T45 l0 x8_1).f3.f0), .int .i64 ((rd_T45 l0 x8_1).f3.f1), .int .i64 ((rd_T45 l0 x8_1).f3.f2), .int .i64 ((rd_T45 l0 x8_1).f3.f3), .slice A101_7 ((rd_T45 l0 x8_1).f3.f4).length c101_7, .bool ((rd_T45 l0 x8_1).f3.f5)]] rfl zee81 ?_; (with_reducible refine (spec_l4Own.calls ((rd_T45 l0 x8_1).f3.f0) ((rd_T45 l0 x8_1).f3.f1) ((rd_T45 l0 x8_1).f3.f2) ((rd_T45 l0 x8_1).f3.f3) _ _ ((rd_T45 l0 x8_1).f3.f4) ((rd_T45 l0 x8_1).f3.f5) t103 t104 t105 t106 t107 t110 _ ?side1 ?side2 A5.out).mono ?_); (case side1 => exact Kd.C_below HR101_7.out hbZ); (case side2 => exact HC101_7.out); rintro e w9 ⟨v108, rfl, ho0, hb⟩; refine ⟨_, rfl, ?_⟩; have _ := aM (Kd.S_elder' (by (with_reducible repeat (first | apply Kd.S_alloc | apply Kd.S_drewN | apply Kd.S_drew)); exact (Kd.S_mono (Kd.S_far (p := ⟨gb102, 8, none⟩) (Kd.S_far (p := ⟨gb102, 7, none⟩) (Kd.S_far (p := ⟨gb102, 6, none⟩) (Kd.S_far (p := ⟨gb102, 5, none⟩) (Kd.S_far (p := ⟨gb102, 4, none⟩) (Kd.S_far (p := ⟨gb102, 3, none⟩) (Kd.S_far (p := ⟨gb102, 2, none⟩) (Kd.S_far (p := ⟨gb102, 1, none⟩) (Kd.S_far (p := ⟨gb102, 0, none⟩) (Kd.S_mono HO_3.out (fun k_ hk => (⟨hk, hk.2⟩ : _ ∧ k_ ≠ gb102))) (fun _ hk => hk.2) (.string ((rd_T45 l0 x8_1).f0))) (fun _ hk => hk.2) (.int .i64 ((rd_T45 l0 x8_1).f1))) (fun _ hk => hk.2) (.int .i64 ((rd_T45 l0 x8_1).f2))) (fun _ hk => hk.2) (.int .i64 ((rd_T45 l0 x8_1).f3.f0))) (fun _ hk => hk.2) (.int .i64 ((rd_T45 l0 x8_1).f3.f1))) (fun _ hk => hk.2) (.int .i64 ((rd_T45 l0 x8_1).f3.f2))) (fun _ hk => hk.2) (.int .i64 ((rd_T45 l0 x8_1).f3.f3))) (fun _ hk => hk.2) (.slice A101_7 ((rd_T45 l0 x8_1).f3.f4).length c101_7)) (fun _ hk => hk.2) (.bool ((rd_T45 l0 x8_1).f3.f5))) (fun _ h_ => h_.1))) (Kd.R_base ho0) hb); have _ := aM (Kd.R_lower ho0 (below_size hbZ)); have _ := aM (blk_below (g := gb102) (o := .cells #[.string ((rd_T45 l0 x8_1).f0), .int .i64 ((rd_T45 l0 x8_1).f1), .int .i64 ((rd_T45 l0 x8_1).f2), .int .i64 ((rd_T45 l0 x8_1).f3.f0), .int .i64 ((rd_T45 l0 x8_1).f3.f1), .int .i64 ((rd_T45 l0 x8_1).f3.f2), .int .i64 ((rd_T45 l0 x8_1).f3.f3), .slice A101_7 ((rd_T45 l0 x8_1).f3.f4).length c101_7, .bool ((rd_T45 l0 x8_1).f3.f5)] 45 (0, 0)) bkZ hb); have _ := aM (below_step hbZ hb); clear HO_3 BK102 HB; rename_i HO_3 HO109 BK102 HB; (try clear hb); (try clear ho0); obtain ⟨hcz10_0, hcz10_1, hcz10_2, hcz10_3, hcz10_4, hcz10_5, hcz10_6, hcz10_7, hcz10_8, hfz10_0, hfz10_1, hfz10_2, hfz10_3, hfz10_4, hfz10_5, hfz10_6, hfz10_7, hfz10_8⟩ := cellsZ9 BK102.out; obtain ⟨Ao11, co11, eo11⟩ := Kd.R_slice HO109.out; subst eo11) | ((with_reducible refine gate_store (t := 26) (p := 15) rfl ?_); refine store_event (t := 26) (p := 15) (v := ?vo_w12) (w1 := ((((((w9.setCell ⟨gb102, 3, none⟩ (.int .i64 t103)).setCell ⟨gb102, 4, none⟩ (.int .i64 t104)).setCell ⟨gb102, 5, none⟩ (.int .i64 t105)).setCell ⟨gb102, 6, none⟩ (.int .i64 t106)).setCell ⟨gb102, 7, none⟩ (.slice Ao11 t107.length co11)).setCell ⟨gb102, 8, none⟩ (.bool t110))) ?hg ?ho ?hn ?hr ?_; (case ho => rfl); (case hg => rfl); (case hn => rfl); (case hr => first | (go_simp; done) | (go_simp; rfl)); intro w12 hw; have _ : Aside0 (Kd.S k45 45 w12 w.heap.size (fun k_ => some k_ ≠ (.slice Ao11 t107.length co11 : Value).ownBlock ∧ k_ ≠ gb102) u3 x3_1) := ⟨(by rw [hw]; exact (by (with_reducible repeat (first | apply Kd.S_alloc | apply Kd.S_drewN | apply Kd.S_drew)); exact Kd.S_mono (Kd.S_far (p := ⟨gb102, 8, none⟩) (Kd.S_far (p := ⟨gb102, 7, none⟩) (Kd.S_far (p := ⟨gb102, 6, none⟩) (Kd.S_far (p := ⟨gb102, 5, none⟩) (Kd.S_far (p := ⟨gb102, 4, none⟩) (Kd.S_far (p := ⟨gb102, 3, none⟩) (Kd.S_mono HO_3.out (fun k_ hk => (⟨hk, hk.1.2⟩ : _ ∧ k_ ≠ gb102))) (fun _ hk => hk.2) (.int .i64 t103)) (fun _ hk => hk.2) (.int .i64 t104)) (fun _ hk => hk.2) (.int .i64 t105)) (fun _ hk => hk.2) (.int .i64 t106)) (fun _ hk => hk.2) (.slice Ao11 t107.length co11)) (fun _ hk => hk.2) (.bool t110)) (fun _ hk => ⟨hk.1.2, hk.1.1.2⟩)))⟩; have _ : Aside0 (Kd.R (Kd.int .i64) 3 w12 w.heap.size (fun _ => True) (.slice Ao11 t107.length co11) t107) := ⟨(by rw [hw]; exact (by (with_reducible repeat (first | apply Kd.R_alloc | apply Kd.R_drewN | apply Kd.R_drew)); exact Kd.R_mono (Kd.R_far (p := ⟨gb102, 8, none⟩) (Kd.R_far (p := ⟨gb102, 7, none⟩) (Kd.R_far (p := ⟨gb102, 6, none⟩) (Kd.R_far (p := ⟨gb102, 5, none⟩) (Kd.R_far (p := ⟨gb102, 4, none⟩) (Kd.R_far (p := ⟨gb102, 3, none⟩) (Kd.R_types HO109.out BK102.out (by decide)) (fun _ hk => hk.2) (.int .i64 t103)) (fun _ hk => hk.2) (.int .i64 t104)) (fun _ hk => hk.2) (.int .i64 t105)) (fun _ hk => hk.2) (.int .i64 t106)) (fun _ hk => hk.2) (.slice Ao11 t107.length co11)) (fun _ hk => hk.2) (.bool t110)) (fun _ hk => trivial)))⟩; have _ : Aside0 (w12.heap[gb102]? = some (.cells #[.string ((rd_T45 l0 x8_1).f0), .int .i64 ((rd_T45 l0 x8_1).f1), .int .i64 ((rd_T45 l0 x8_1).f2), .int .i64 t103, .int .i64 t104, .int .i64 t105, .int .i64 t106, .slice Ao11 t107.length co11, .bool t110] 45 (0, 0))) := ⟨(by rw [hw]; exact bkZ)⟩; have _ : Aside0 (Below w.heap.size w w12) := ⟨(by rw [hw]; exact hbZ)⟩; clear hw HO_3 HO109 BK102 HB; rename_i HO_3 HO109 BK102 HB; obtain ⟨hcz13_0, hcz13_1, hcz13_2, hcz13_3, hcz13_4, hcz13_5, hcz13_6, hcz13_7, hcz13_8, hfz13_0, hfz13_1, hfz13_2, hfz13_3, hfz13_4, hfz13_5, hfz13_6, hfz13_7, hfz13_8⟩ := cellsZ9 BK102.out) | ((with_reducible refine gate_builtin (b := .append) (xs := #[.tmp 16, .tmp 18]) rfl ?_); at_builtin; refine Kd.S_append k45 (w0 := w) w.heap.size rfl (.tmp 16) (.tmp 18) 29 45 (.agg #[(.string ⟨#[]⟩), (.int .i64 0), (.int .i64 0), (.int .i64 0), (.int .i64 0), (.int .i64 0), (.int .i64 0), (.slice none 0 0), (.bool false)]) 96 rfl Try.underlying29 info45 rfl (by decide) (by omega) u3 x3_1 (⟨(rd_T45 l0 x8_1).f0, (rd_T45 l0 x8_1).f1, (rd_T45 l0 x8_1).f2, (⟨t103, t104, t105, t106, t107, t110⟩ : S26)⟩ : S45) [.string ((rd_T45 l0 x8_1).f0), .int .i64 ((rd_T45 l0 x8_1).f1), .int .i64 ((rd_T45 l0 x8_1).f2), .int .i64 t103, .int .i64 t104, .int .i64 t105, .int .i64 t106, .slice Ao11 t107.length co11, .bool t110] (fun k_ => k_ ≠ gb102) (fun k_ => some k_ = (.slice Ao11 t107.length co11 : Value).ownBlock) rfl rfl ?aP (fun k_ hk_ => ((Kd.R_mono (ok' := fun k_ => ((fun k_ => k_ ≠ gb102)) k_ ∧ some k_ ≠ (u3 : Value).ownBlock) (Kd.R_types (Kd.R_apart' (HO109.out) (Kd.S_typed HO_3.out) (by decide)) BK102.out (by decide)) (fun k_ hk => ⟨hk.2, hk.1.2⟩))).1 k_ hk_.symm) ?aF ?aO ?aB ?aS ?aL ?_; (case aP => exact k45_mkM _ _ _ (⟨(rd_T45 l0 x8_1).f0, (rd_T45 l0 x8_1).f1, (rd_T45 l0 x8_1).f2, (⟨t103, t104, t105, t106, t107, t110⟩ : S26)⟩ : S45) (Kd.R_mono (Kd.R_tight rfl (Kd.R_mono (ok' := fun k_ => ((fun k_ => k_ ≠ gb102)) k_ ∧ some k_ ≠ (u3 : Value).ownBlock) (Kd.R_types (Kd.R_apart' (HO109.out) (Kd.S_typed HO_3.out) (by decide)) BK102.out (by decide)) (fun k_ hk => ⟨hk.2, hk.1.2⟩))) (fun _ h_ => h_))); (case aB => exact hbZ); (case aF => exact (fun k_ hk => Kd.freshB (g := gb102) bkZ k_ hk)); (case aO => exact (by (with_reducible repeat (first | apply Kd.S_alloc | apply Kd.S_drewN | apply Kd.S_drew)); exact Kd.S_mono HO_3.out (fun k_ hk => ⟨hk.2, fun e_ => hk.1 e_⟩))); (case aS => exact (below_size hbZ)); (case aL => have := LMc6.out; omega); intro v112 w14 ho hb hg hat; rw [← Ny111.out] at ho; have _ := aM (blk_grown (g := gb102) bkZ hg (Kd.S_away HO_3.out (fun _ hk => hk.2))); have _ := aM hb; have _ := aM ho; clear BK102 HB HO_3 HO109; rename_i BK102 HB HO113; clear ho hb hg hat))
     go_roundg k1
     case measure => have := HK1.out; omega
     case rel => exact ⟨(y111), (wrap64 (x8_1 + 1)), z4458, H', ⟨zfb39⟩, ⟨by (with_reducible repeat (first | apply Kd.S_alloc | apply Kd.S_drewN | apply Kd.S_drew)); exact Kd.S_mono HO113.out (fun _ hk => trivial)⟩, ⟨zcb41⟩⟩
   · rw [if_neg c2] at H
     have c2b0 : decide (x8_1 < (l0.length : Int)) = false := decide_eq_false c2
     clear c2
     obtain rfl := Option.some.inj H
     go_wp2
     go_ret
     exact ⟨_, z674d, by (with_reducible repeat (first | apply Kd.S_alloc | apply Kd.S_drewN | apply Kd.S_drew)); exact HO_3.out, z5acd⟩

end Go.Proofs.Ytdkokfnnebdppaa.P

/- Entries that share no memory with others. -/
namespace Go.Proofs.Ytdkokfnnebdppaa.Lem
open Go Go.RowKit Go.Proofs.Ytdkokfnnebdppaa.P Go.Proofs.YtdkokfnnebdppaaW.PrintWords Go.Proofs.YtdkokfnnebdppaaW.PrintLast Go.Proofs.YtdkokfnnebdppaaW.PrintMore

theorem cloneI_ok {l : List Int} (h : l.length ≤ 1048576) : slices_Clone_int_int.f l = some l := by
  unfold slices_Clone_int_int.f
  rw [Option.bind_some, if_pos (by rw [List.length_nil]; omega), List.nil_append]
theorem ownA_ok (c s mi ma : Int) {l : List Int} (h : l.length ≤ 1048576) (f : Bool) : spec_l4Own.f c s mi ma l f = some (c, s, mi, ma, l, f) := by
  unfold spec_l4Own.f
  rw [Option.bind_some, if_pos (by rw [List.length_nil]; omega), List.nil_append]
theorem entryCloned_ok (e : En) (h : e.f3.f4.length ≤ 1048576) : impl_Entry_cloned.f e.f0 e.f1 e.f2 e.f3.f0 e.f3.f1 e.f3.f2 e.f3.f3 e.f3.f4 e.f3.f5 = some (e.f0, e.f1, e.f2, e.f3.f0, e.f3.f1, e.f3.f2, e.f3.f3, e.f3.f4, e.f3.f5) := by
  unfold impl_Entry_cloned.f
  rw [cloneI_ok h, Option.bind_some]
theorem l5Own_l0 {l : List En} (hl : l.length ≤ 1048576) (hh : RowsE l) : ∀ (d i k : Nat) (acc : List En), i + d = l.length → d < k → acc.length ≤ i → spec_l5Own.l0 k acc l (l.length : Int) (i : Int) = some (acc ++ l.drop i) := by
  intro d
  induction d with
  | zero =>
    intro i k acc hi hk _
    obtain ⟨k, rfl⟩ : ∃ q, k = q + 1 := ⟨k - 1, by omega⟩
    rw [spec_l5Own.l0, if_neg (by omega), List.drop_of_length_le (by omega), List.append_nil]
  | succ d ih =>
    intro i k acc hi hk ha
    obtain ⟨k, rfl⟩ : ∃ q, k = q + 1 := ⟨k - 1, by omega⟩
    have hlt : i < l.length := by omega
    have hw := hh l[i] (List.getElem_mem hlt)
    rw [spec_l5Own.l0, if_pos (by omega), if_pos (by omega), if_pos (by omega), rdE_get hlt, ownA_ok _ _ _ _ hw, Option.bind_some]
    dsimp only
    rw [if_pos (by omega), wrapS hlt (by omega), ih (i + 1) k _ (by omega) (by omega) (by rw [List.length_append, List.length_singleton]; omega), drop_get hlt, List.append_assoc]
    rfl
theorem l5Own_ok {l : List En} (hl : l.length ≤ 1048576) (hh : RowsE l) {k : Nat} (hk : 1048577 < k) : spec_l5Own.f k l = some l := l5Own_l0 hl hh l.length 0 k [] (by omega) (by omega) (Nat.le_refl _)
end Go.Proofs.Ytdkokfnnebdppaa.Lem

/- Entries of one key folded: both programs' folds give one agg. -/
namespace Go.Proofs.Ytdkokfnnebdppaa.Lem
open Go Go.RowKit Go.Proofs.Ytdkokfnnebdppaa.P Go.Proofs.YtdkokfnnebdppaaW.PrintWords Go.Proofs.YtdkokfnnebdppaaW.PrintLast Go.Proofs.YtdkokfnnebdppaaW.PrintMore

def Ag.t7 (a : Ag) (b : Bool) : Int × Int × Int × Int × List Int × Bool × Bool := (a.c, a.s, a.mi, a.ma, a.h, a.f, b)
def zero8 : Ag := ⟨0, 0, 0, 0, List.replicate 8 0, false⟩
def noneA : Ag := ⟨0, 0, 0, 0, [], false⟩
theorem zero8_good : Good zero8 := by
  refine ⟨by decide, by decide, rfl, ?_, fun h => absurd h (by decide), fun _ => by decide, fun _ => by decide, fun h => absurd rfl h⟩
  intro x hx
  have := List.eq_of_mem_replicate hx
  omega
/-- Entry n. -/
abbrev en (l : List En) (n : Nat) : En := rd_T45 l (n : Int)
theorem en_mem {l : List En} {n : Nat} (h : n < l.length) : en l n ∈ l := by rw [show en l n = l[n] from rdE_get h]; exact List.getElem_mem h
def foldFrom (l : List En) : Nat → Ag → Ag
  | 0, a => a
  | n + 1, a => foldFrom l n (join a (aggOf (en l n).f3))
/-- How many entries stand ahead of the first that is no join. -/
def ends : List En → Nat
  | [] => 0
  | e :: r => if e.f2 = 3 then ends r + 1 else 0
theorem ends_le : ∀ l : List En, ends l ≤ l.length
  | [] => Nat.le_refl _
  | e :: r => by rw [ends]; split; exact Nat.succ_le_succ (ends_le r); exact Nat.zero_le _
theorem en_cons (e : En) (r : List En) (n : Nat) : en (e :: r) (n + 1) = en r n := by
  unfold en rd_T45
  rw [Int.toNat_natCast, Int.toNat_natCast, List.getD_cons_succ]
theorem ends_join : ∀ (l : List En) (n : Nat), n < ends l → (en l n).f2 = 3
  | [], n, h => absurd h (Nat.not_lt_zero n)
  | e :: r, n, h => by
    rw [ends] at h
    split at h
    · rename_i c
      cases n with
      | zero => exact c
      | succ n => rw [en_cons]; exact ends_join r n (by omega)
    · exact absurd h (Nat.not_lt_zero n)
theorem ends_stop : ∀ (l : List En), ends l < l.length → (en l (ends l)).f2 ≠ 3
  | [], h => absurd h (Nat.lt_irrefl 0)
  | e :: r, h => by
    rw [ends] at h ⊢
    split at h
    · rename_i c
      rw [if_pos c, en_cons]
      exact ends_stop r (by simpa using h)
    · rename_i c
      rw [if_neg c]
      exact c
theorem foldI (l : List En) (hl : l.length ≤ 1048576) : ∀ (n k : Nat) (a : Ag), n ≤ l.length → (∀ j, j < n → Good (aggOf (en l j).f3)) → Good a → n + 30 < k →
    impl_fold.l0 k l ((n : Int) - 1) a.c a.s a.mi a.ma a.h a.f = some ((foldFrom l n a).t7 true) ∧ Good (foldFrom l n a) := by
  intro n
  induction n with
  | zero =>
    intro k a hn hg ha hk
    obtain ⟨k, rfl⟩ : ∃ q, k = q + 1 := ⟨k - 1, by omega⟩
    rw [impl_fold.l0, if_neg (by omega)]
    exact ⟨rfl, ha⟩
  | succ n ih =>
    intro k a hn hg ha hk
    obtain ⟨k, rfl⟩ : ∃ q, k = q + 1 := ⟨k - 1, by omega⟩
    have hb := hg n (Nat.lt_succ_self n)
    have h := joined_ok ha hb (k := k) (by omega)
    have e0 : ((n + 1 : Nat) : Int) - 1 = (n : Int) := by omega
    obtain ⟨i1, i2⟩ := ih k (join a (aggOf (en l n).f3)) (by omega) (fun j hj => hg j (by omega)) (join_good ha hb) (by omega)
    have h' : impl_joined.f k a.c a.s a.mi a.ma a.h a.f (en l n).f3.f0 (en l n).f3.f1 (en l n).f3.f2 (en l n).f3.f3 (en l n).f3.f4 (en l n).f3.f5 = some (join a (aggOf (en l n).f3)).t := h
    rw [e0, impl_fold.l0, if_pos (by omega), if_pos (by omega), if_pos (by omega), h', Option.bind_some, show wrap64 ((n : Int) - 1) = (n : Int) - 1 from w64 (by omega) (by omega)]
    exact ⟨i1, i2⟩
theorem foldS (l : List En) (hl : l.length ≤ 1048576) : ∀ (n k : Nat) (a : Ag), n ≤ l.length → (∀ j, j < n → Good (aggOf (en l j).f3)) → Good a → n + 30 < k →
    spec_l5Fold.l1 k l ((n : Int) - 1) a.c a.s a.mi a.ma a.h a.f = some ((foldFrom l n a).t7 true) := by
  intro n
  induction n with
  | zero =>
    intro k a hn hg ha hk
    obtain ⟨k, rfl⟩ : ∃ q, k = q + 1 := ⟨k - 1, by omega⟩
    rw [spec_l5Fold.l1, if_neg (by omega)]
    rfl
  | succ n ih =>
    intro k a hn hg ha hk
    obtain ⟨k, rfl⟩ : ∃ q, k = q + 1 := ⟨k - 1, by omega⟩
    have hb := hg n (Nat.lt_succ_self n)
    have h := l4Join_ok ha hb (k := k) (by omega)
    have e0 : ((n + 1 : Nat) : Int) - 1 = (n : Int) := by omega
    have i1 := ih k (join a (aggOf (en l n).f3)) (by omega) (fun j hj => hg j (by omega)) (join_good ha hb) (by omega)
    have h' : spec_l4Join.f k a.c a.s a.mi a.ma a.h a.f (en l n).f3.f0 (en l n).f3.f1 (en l n).f3.f2 (en l n).f3.f3 (en l n).f3.f4 (en l n).f3.f5 = some (join a (aggOf (en l n).f3)).t := h
    rw [e0, spec_l5Fold.l1, if_pos (by omega), if_pos (by omega), if_pos (by omega), h', Option.bind_some, show wrap64 ((n : Int) - 1) = (n : Int) - 1 from w64 (by omega) (by omega)]
    exact i1
/-- What is folded, and whether there is something. -/
def baseA (l : List En) : Ag := if ends l < l.length ∧ (en l (ends l)).f2 = 1 then aggOf (en l (ends l)).f3 else zero8
def isN (l : List En) : Prop := l.length = 0 ∨ (en l 0).f2 = 2
theorem good_join {e : En} (h : GoodE e) (hk : e.f2 ≠ 2) : Good (aggOf e.f3) := by
  rcases h.2.2 with q | q
  · exact q.2
  · exact absurd q.1 hk
theorem good_kind {e : En} (h : GoodE e) : e.f2 = 1 ∨ e.f2 = 2 ∨ e.f2 = 3 := by
  rcases h.2.2 with q | q
  · rcases q.1 with q | q
    · exact .inl q
    · exact .inr (.inr q)
  · exact .inr (.inl q.1)
theorem good_len {e : En} (h : GoodE e) : e.f3.f4.length ≤ 8 := by
  rcases h.2.2 with q | q
  · have : e.f3.f4.length = 8 := q.2.len
    omega
  · have := q.2.2.2.2.2.1; omega
set_option linter.unusedSectionVars false
section
variable {l : List En} (hl : l.length ≤ 1048576) (hg : ∀ e ∈ l, GoodE e)
include hl hg
theorem joins_good (j : Nat) (hj : j < ends l) : Good (aggOf (en l j).f3) := by
  have hle := ends_le l
  exact good_join (hg _ (en_mem (by omega))) (by rw [ends_join l j hj]; decide)
theorem base_good : Good (baseA l) := by
  unfold baseA
  split
  · rename_i h
    exact good_join (hg _ (en_mem h.1)) (by rw [h.2]; decide)
  · exact zero8_good
theorem idx_l0 : ∀ (d i k : Nat), i + d = ends l → d + 1 < k → impl_Entry_with_impl_fold_1.l0 k l (l.length : Int) (i : Int) = some (if ends l < l.length then (ends l : Int) else -1) := by
  have hle := ends_le l
  intro d
  induction d with
  | zero =>
    intro i k hi hk
    obtain ⟨k, rfl⟩ : ∃ q, k = q + 1 := ⟨k - 1, by omega⟩
    obtain rfl : i = ends l := by omega
    rw [impl_Entry_with_impl_fold_1.l0]
    by_cases c : ends l < l.length
    · have hs := ends_stop l c
      rw [if_pos (by omega), if_pos (by omega), if_pos (by omega)]
      unfold impl_fold_1.f
      rw [Option.bind_some, if_pos (by simpa using hs), if_pos c]
    · rw [if_neg (by omega), if_neg c]
  | succ d ih =>
    intro i k hi hk
    obtain ⟨k, rfl⟩ : ∃ q, k = q + 1 := ⟨k - 1, by omega⟩
    have hs := ends_join l i (by omega)
    have hnext := ih (i + 1) k (by omega) (by omega)
    rw [impl_Entry_with_impl_fold_1.l0, if_pos (by omega), if_pos (by omega), if_pos (by omega)]
    unfold impl_fold_1.f
    rw [Option.bind_some, if_neg (by simpa using hs), wrapS (n := l.length) (by omega) (by omega)]
    exact hnext
theorem impl_fold_ok {k : Nat} (hk : 2000000 < k) : (isN l → impl_fold.f k l = some (noneA.t7 false)) ∧ (¬ isN l → impl_fold.f k l = some ((foldFrom l (ends l) (baseA l)).t7 true)) := by
  have hle := ends_le l
  have hidx := idx_l0 hl hg (ends l) 0 k (by omega) (by omega)
  obtain ⟨k, rfl⟩ : ∃ q, k = q + 1 + 1 + 1 := ⟨k - 3, by omega⟩
  have hidx' : impl_Entry_with_impl_fold_1.f (k + 1 + 1 + 1) l = some (if ends l < l.length then (ends l : Int) else -1) := hidx
  have hno : impl_noAgg.f = some zero8.t := by unfold impl_noAgg.f; rw [if_pos (by decide)]; rfl
  obtain ⟨hf, _⟩ := foldI l hl (ends l) k (baseA l) hle (joins_good hl hg) (base_good hl hg) (by omega)
  unfold impl_fold.f
  rw [hidx', Option.bind_some]
  by_cases c : ends l < l.length
  · have hs := ends_stop l c
    have hk1 := good_kind (hg _ (en_mem c))
    rw [if_pos c, if_neg (by omega), impl_fold.j0, hno, Option.bind_some, if_pos (by omega), if_pos (by omega), impl_fold.j1]
    by_cases c1 : (en l (ends l)).f2 = 1
    · have hb : baseA l = aggOf (en l (ends l)).f3 := by unfold baseA; rw [if_pos ⟨c, c1⟩]
      rw [if_pos (by simpa using c1), if_pos (by omega), if_pos (by omega), entryCloned_ok (en l (ends l)) (by have := good_len (hg _ (en_mem c)); omega), Option.bind_some, impl_fold.j2, show wrap64 ((ends l : Int) - 1) = (ends l : Int) - 1 from w64 (by omega) (by omega)]
      rw [hb] at hf ⊢
      refine ⟨fun hn => ?_, fun _ => hf⟩
      exfalso
      rcases hn with hn | hn
      · omega
      · by_cases c0 : ends l = 0
        · rw [c0] at c1; rw [hn] at c1; exact absurd c1 (by decide)
        · rw [ends_join l 0 (by omega)] at hn; exact absurd hn (by decide)
    · have hb : baseA l = zero8 := by unfold baseA; rw [if_neg (fun q => c1 q.2)]
      rw [if_neg (by simpa using c1)]
      by_cases c0 : ends l = 0
      · rw [if_pos (by omega)]
        refine ⟨fun _ => rfl, fun hn => ?_⟩
        exfalso
        apply hn
        refine .inr ?_
        rw [c0] at c1 hs hk1
        rcases hk1 with q | q | q
        · exact absurd q c1
        · exact q
        · exact absurd q hs
      · rw [if_neg (by omega), impl_fold.j2, show wrap64 ((ends l : Int) - 1) = (ends l : Int) - 1 from w64 (by omega) (by omega)]
        rw [hb] at hf ⊢
        refine ⟨fun hn => ?_, fun _ => hf⟩
        exfalso
        rcases hn with hn | hn
        · omega
        · rw [ends_join l 0 (by omega)] at hn; exact absurd hn (by decide)
  · have hb : baseA l = zero8 := by unfold baseA; rw [if_neg (fun q => c q.1)]
    rw [if_neg c, if_pos (by decide), impl_fold.j0, hno, Option.bind_some, if_neg (by omega), impl_fold.j1, if_neg (by decide)]
    by_cases c0 : l.length = 0
    · rw [if_pos (by omega)]
      exact ⟨fun _ => rfl, fun hn => absurd (.inl c0) hn⟩
    · rw [if_neg (by omega), impl_fold.j2, show wrap64 ((l.length : Int) - 1) = (ends l : Int) - 1 from by rw [w64 (by omega) (by omega)]; omega]
      rw [hb] at hf ⊢
      refine ⟨fun hn => ?_, fun _ => hf⟩
      exfalso
      rcases hn with hn | hn
      · omega
      · rw [ends_join l 0 (by omega)] at hn; exact absurd hn (by decide)
theorem spec_idx : ∀ (d i k : Nat), i + d = ends l → spec_l5Fold.l0 (k + d + 1) l (i : Int) = spec_l5Fold.j2 k l (ends l : Int) := by
  have hle := ends_le l
  intro d
  induction d with
  | zero =>
    intro i k hi
    obtain rfl : i = ends l := by omega
    rw [spec_l5Fold.l0]
    by_cases c : ends l < l.length
    · have hs := ends_stop l c
      rw [if_pos (by omega), if_pos (by omega), if_neg hs]
    · rw [if_neg (by omega)]
  | succ d ih =>
    intro i k hi
    have hs := ends_join l i (by omega)
    have hnext := ih (i + 1) k (by omega)
    rw [spec_l5Fold.l0, if_pos (by omega), if_pos (by omega), if_pos hs, wrapS (n := l.length) (by omega) (by omega)]
    exact hnext
theorem spec_fold_ok {k : Nat} (hk : 3000000 < k) : (isN l → spec_l5Fold.f k l = some (noneA.t7 false)) ∧ (¬ isN l → spec_l5Fold.f k l = some ((foldFrom l (ends l) (baseA l)).t7 true)) := by
  have hle := ends_le l
  obtain ⟨k, rfl⟩ : ∃ q, k = q + 1 := ⟨k - 1, by omega⟩
  unfold spec_l5Fold.f
  by_cases c0 : l.length = 0
  · rw [if_pos (by omega), spec_l5Fold.j0, if_pos rfl]
    exact ⟨fun _ => rfl, fun hn => absurd (.inl c0) hn⟩
  · rw [if_neg (by omega), if_pos (by omega), spec_l5Fold.j0]
    by_cases c2 : (en l 0).f2 = 2
    · have c2' : (rd_T45 l 0).f2 = 2 := c2
      rw [if_pos (beq_iff_eq.2 c2')]
      exact ⟨fun _ => rfl, fun hn => absurd (.inr c2) hn⟩
    · have c2' : ¬ (rd_T45 l 0).f2 = 2 := c2
      rw [if_neg (fun q => c2' (beq_iff_eq.1 q))]
      refine ⟨fun hn => by rcases hn with q | q; exact absurd q c0; exact absurd q c2, fun _ => ?_⟩
      obtain ⟨k, rfl⟩ : ∃ q, k = (q + 1 + 1 + 1) + ends l + 1 := ⟨k - ends l - 4, by omega⟩
      have e1 := spec_idx hl hg (ends l) 0 (k + 1 + 1 + 1) (by omega)
      have e1' : spec_l5Fold.l0 (k + 1 + 1 + 1 + ends l + 1) l 0 = spec_l5Fold.j2 (k + 1 + 1 + 1) l (ends l : Int) := e1
      have hz : spec_l4Zero.f = some zero8.t := by unfold spec_l4Zero.f; rw [if_pos (by decide)]; rfl
      have hf := foldS l hl (ends l) k (baseA l) hle (joins_good hl hg) (base_good hl hg) (by omega)
      rw [e1', spec_l5Fold.j2, hz, Option.bind_some]
      by_cases c : ends l < l.length
      · rw [if_pos (by omega), if_pos (by omega), spec_l5Fold.j3]
        by_cases c1 : (en l (ends l)).f2 = 1
        · have hb : baseA l = aggOf (en l (ends l)).f3 := by unfold baseA; rw [if_pos ⟨c, c1⟩]
          rw [if_pos (by simpa using c1), if_pos (by omega), if_pos (by omega), ownA_ok _ _ _ _ (l := (en l (ends l)).f3.f4) (by have := good_len (hg _ (en_mem c)); omega), Option.bind_some, spec_l5Fold.j4, show wrap64 ((ends l : Int) - 1) = (ends l : Int) - 1 from w64 (by omega) (by omega)]
          rw [hb] at hf ⊢
          exact hf
        · have hb : baseA l = zero8 := by unfold baseA; rw [if_neg (fun q => c1 q.2)]
          rw [if_neg (by simpa using c1), spec_l5Fold.j4, show wrap64 ((ends l : Int) - 1) = (ends l : Int) - 1 from w64 (by omega) (by omega)]
          rw [hb] at hf ⊢
          exact hf
      · have hb : baseA l = zero8 := by unfold baseA; rw [if_neg (fun q => c q.1)]
        rw [if_neg (by omega), spec_l5Fold.j3, if_neg (by decide), spec_l5Fold.j4, show wrap64 ((ends l : Int) - 1) = (ends l : Int) - 1 from w64 (by omega) (by omega)]
        rw [hb] at hf ⊢
        exact hf
end
end Go.Proofs.Ytdkokfnnebdppaa.Lem

/- Good entries of one key: the first and the last have it if all have. -/
namespace Go.Proofs.Ytdkokfnnebdppaa.Lem
open Go Go.RowKit Go.Proofs.Ytdkokfnnebdppaa.P Go.Proofs.YtdkokfnnebdppaaW.PrintWords Go.Proofs.YtdkokfnnebdppaaW.PrintLast Go.Proofs.YtdkokfnnebdppaaW.PrintMore

/-- From place i on each entry has the first one's key. -/
def SameFrom (l : List En) (i : Nat) : Prop := ∀ j, j < l.length → i ≤ j → (en l j).f0.toList = (en l 0).f0.toList
theorem goodEs_all {l : List En} (h : GoodEs l) : ∀ e ∈ l, GoodE e := by
  intro e he
  obtain ⟨j, hj, rfl⟩ := List.getElem_of_mem he
  exact (h.1 j (Nat.zero_le _) hj).1
theorem foldFrom_good {l : List En} (hl : l.length ≤ 1048576) (hg : ∀ e ∈ l, GoodE e) : Good (foldFrom l (ends l) (baseA l)) :=
  (foldI l hl (ends l) (ends l + 31) (baseA l) (ends_le l) (joins_good hl hg) (base_good hl hg) (by omega)).2
/-- x does not stand behind y. -/
def LeU (x y : List UInt8) : Prop := Op.bytesLess y x = false
theorem LeU.trans : ∀ {x y z : List UInt8}, LeU x y → LeU y z → LeU x z
  | [], [], z, _, h => h
  | [], _ :: _, [], _, h => by exact absurd h (by unfold LeU Op.bytesLess; decide)
  | [], _ :: _, _ :: _, _, _ => rfl
  | _ :: _, [], _, h, _ => by exact absurd h (by unfold LeU Op.bytesLess; decide)
  | _ :: _, _ :: _, [], _, h => by exact absurd h (by unfold LeU Op.bytesLess; decide)
  | a :: x, b :: y, c :: z, h1, h2 => by
    unfold LeU at h1 h2 ⊢
    rw [less_cons] at h1 h2 ⊢
    have n1 : b ≠ a → ¬ b.toNat < a.toNat := fun e => by rw [if_neg e] at h1; simpa [UInt8.lt_iff_toNat_lt] using h1
    have n2 : c ≠ b → ¬ c.toNat < b.toNat := fun e => by rw [if_neg e] at h2; simpa [UInt8.lt_iff_toNat_lt] using h2
    by_cases e1 : b = a
    · by_cases e2 : c = b
      · rw [if_pos e1] at h1
        rw [if_pos e2] at h2
        rw [if_pos (e2.trans e1)]
        exact LeU.trans h1 h2
      · subst e1
        rw [if_neg e2]
        exact decide_eq_false (by rw [UInt8.lt_iff_toNat_lt]; exact n2 e2)
    · have e1' : b.toNat ≠ a.toNat := fun q => e1 (UInt8.toNat_inj.1 q)
      have m1 := n1 e1
      by_cases e2 : c = b
      · subst e2
        rw [if_neg e1]
        exact decide_eq_false (by rw [UInt8.lt_iff_toNat_lt]; exact m1)
      · have m2 := n2 e2
        rw [if_neg (fun q => by subst q; omega)]
        exact decide_eq_false (by rw [UInt8.lt_iff_toNat_lt]; omega)
theorem LeU.anti {x y : List UInt8} (h1 : LeU x y) (h2 : LeU y x) : x = y := by
  unfold LeU at h1 h2
  have h := less_tri x y
  rw [h1, h2] at h
  simpa using h
theorem LeU.of_before {a b : En} (h : Before a b) : LeU a.f0.toList b.f0.toList := by
  unfold LeU
  rcases h with h | h
  · rw [less_tri a.f0.toList b.f0.toList, ordB_lt.1 h, Bool.true_or]; rfl
  · rw [ordB_zero.1 h.1, less_irrefl]
theorem keys_le {l : List En} (h : GoodEs l) : ∀ (d i : Nat), i + d < l.length → LeU (en l i).f0.toList (en l (i + d)).f0.toList := by
  intro d
  induction d with
  | zero => intro i _; exact less_irrefl _
  | succ d ih =>
    intro i hi
    refine (ih i (by omega)).trans ?_
    have hb := (h.1 (i + d + 1) (Nat.zero_le _) (by omega)).2 (Nat.succ_pos _)
    have e1 : en l (i + d + 1) = l[i + d + 1] := rdE_get (by omega)
    have e2 : en l (i + d) = l[i + d + 1 - 1] := rdE_get (l := l) (i := i + d) (by omega)
    rw [show i + (d + 1) = i + d + 1 from rfl, e1, e2]
    exact LeU.of_before hb
theorem same_last {l : List En} (_hl : l.length ≤ 1048576) (h : GoodEs l) (h0 : 0 < l.length) : (en l 0).f0.toList = (en l (l.length - 1)).f0.toList ↔ SameFrom l 0 := by
  constructor
  · intro e j hj _
    have h1 := keys_le h j 0 (by omega)
    have h2 := keys_le h (l.length - 1 - j) j (by omega)
    rw [show j + (l.length - 1 - j) = l.length - 1 by omega, ← e] at h2
    rw [Nat.zero_add] at h1
    exact LeU.anti h2 h1
  · intro hs
    exact (hs (l.length - 1) (by omega) (Nat.zero_le _)).symm
end Go.Proofs.Ytdkokfnnebdppaa.Lem

/- Marks as texts. No conditions. -/
namespace Go.Proofs.Ytdkokfnnebdppaa.Lem
open Go Go.RowKit Go.Proofs.Ytdkokfnnebdppaa.P Go.Proofs.YtdkokfnnebdppaaW.PrintWords Go.Proofs.YtdkokfnnebdppaaW.PrintLast Go.Proofs.YtdkokfnnebdppaaW.PrintMore

def markTl : Nat → Int → ByteArray → ByteArray
  | 0, _, acc => (⟨#[109]⟩ : ByteArray) ++ acc
  | d + 1, x, acc => if x > 0 then markTl d (Int.tdiv x 10) ((strOfNums [(wrap64 (48 + (Int.tmod x 10))) % 256]) ++ acc) else (⟨#[109]⟩ : ByteArray) ++ acc
theorem markText_l0 : ∀ (d k : Nat) (x : Int) (acc : ByteArray), 0 ≤ x → x < 10 ^ d → x ≤ 9223372036854775807 → d < k → acc.size + d ≤ 1000 → laws_markText.l0 k x acc = some (markTl d x acc)
  | 0, k, x, acc, h0, h1, _, hk, ha => by
    obtain ⟨k, rfl⟩ : ∃ q, k = q + 1 := ⟨k - 1, by omega⟩
    have hx : ¬ x > 0 := by simp at h1; omega
    rw [laws_markText.l0, if_neg hx, if_pos (by omega)]
    rfl
  | d + 1, k, x, acc, h0, h1, hb, hk, ha => by
    obtain ⟨k, rfl⟩ : ∃ q, k = q + 1 := ⟨k - 1, by omega⟩
    rw [laws_markText.l0, markTl]
    by_cases hx : x > 0
    · have hz : (strOfNums [(wrap64 (48 + (Int.tmod x 10))) % 256]).size = 1 := rfl
      have e : Int.tdiv x 10 = x / 10 := Int.tdiv_eq_ediv_of_nonneg h0
      have hp : (10 : Int) ^ (d + 1) = 10 ^ d * 10 := Int.pow_succ 10 d
      have hlt : x / 10 < 10 ^ d := by omega
      have ih := markText_l0 d k (x / 10) ((strOfNums [(wrap64 (48 + (Int.tmod x 10))) % 256]) ++ acc) (by omega) hlt (by omega) (by omega) (by rw [ByteArray.size_append, hz]; omega)
      rw [if_pos hx, if_pos hx, Option.bind_some, hz, if_pos (by omega), e, w64 (by omega) (by omega)]
      exact ih
    · rw [if_neg hx, if_neg hx, if_pos (by omega)]
def markT (x : Int) : ByteArray := if x ≤ 0 then ⟨#[109, 48]⟩ else markTl 18 x ⟨#[]⟩
theorem markText_ok {x : Int} (h0 : 0 ≤ x) (h1 : x < 1000000000000000000) {k : Nat} (hk : 20 < k) : laws_markText.f k x = some (markT x) := by
  unfold laws_markText.f markT
  split
  · rfl
  · exact markText_l0 18 k x _ h0 (by simpa using h1) (by omega) (by omega) (by decide)
end Go.Proofs.Ytdkokfnnebdppaa.Lem

/- Marks in rows of numbers, written and told again. No conditions. -/
namespace Go.Proofs.Ytdkokfnnebdppaa.Lem
open Go Go.RowKit Go.Proofs.Ytdkokfnnebdppaa.P Go.Proofs.YtdkokfnnebdppaaW.PrintWords Go.Proofs.YtdkokfnnebdppaaW.PrintLast Go.Proofs.YtdkokfnnebdppaaW.PrintMore

def markInts : List Int → Int → List Int
  | [], _ => []
  | _ :: r, x => x :: markInts r (x + 1)
theorem markInts_length : ∀ (l : List Int) (x : Int), (markInts l x).length = l.length
  | [], _ => rfl
  | _ :: r, x => by rw [markInts, List.length_cons, List.length_cons, markInts_length r]
theorem markIntS_l0 : ∀ (rest pre : List Int) (k : Nat) (x : Int), 0 ≤ x → x + rest.length < 1000000000000000000 → pre.length + rest.length ≤ 1000000000 → rest.length < k →
    laws_markIntS.l0 k (pre ++ rest) x (pre.length : Int) = some (x + rest.length, pre ++ markInts rest x)
  | [], pre, k, x, h0, h1, h2, hk => by
    obtain ⟨k, rfl⟩ : ∃ q, k = q + 1 := ⟨k - 1, by omega⟩
    rw [laws_markIntS.l0, if_neg (by rw [List.append_nil]; omega), List.append_nil, markInts, List.append_nil]
    simp
  | a :: rest, pre, k, x, h0, h1, h2, hk => by
    obtain ⟨k, rfl⟩ : ∃ q, k = q + 1 := ⟨k - 1, by omega⟩
    rw [List.length_cons] at h1 h2 hk
    have ih := markIntS_l0 rest (pre ++ [x]) k (x + 1) (by omega) (by omega) (by rw [List.length_append, List.length_singleton]; omega) (by omega)
    rw [laws_markIntS.l0, if_pos (by rw [List.length_append, List.length_cons]; omega), if_pos (by omega), Int.toNat_natCast, set_mid _ _ _ _ rfl, w64 (by omega) (by omega),
      show wrap64 ((pre.length : Int) + 1) = ((pre ++ [x]).length : Int) from by rw [w64 (by omega) (by omega), List.length_append, List.length_singleton]; omega]
    rw [List.append_assoc, List.singleton_append] at ih
    rw [ih, markInts, List.length_cons, List.append_assoc, List.singleton_append]
    congr 2
    omega
theorem markIntS_ok (l : List Int) {k : Nat} {x : Int} (h0 : 0 ≤ x) (h1 : x + l.length < 1000000000000000000) (h2 : l.length ≤ 1000000000) (hk : l.length < k) : laws_markIntS.f k l x = some (x + l.length, markInts l x) := markIntS_l0 l [] k x h0 h1 (by simpa using h2) hk
theorem heldIntS_l0 : ∀ (rest pre : List Int) (k : Nat) (x : Int), 0 ≤ x → x + rest.length < 1000000000000000000 → pre.length + rest.length ≤ 1000000000 → rest.length < k →
    laws_heldIntS.l0 k (pre ++ markInts rest x) x (pre.length : Int) = some (x + rest.length)
  | [], pre, k, x, h0, h1, h2, hk => by
    obtain ⟨k, rfl⟩ : ∃ q, k = q + 1 := ⟨k - 1, by omega⟩
    rw [laws_heldIntS.l0, markInts, List.append_nil, if_neg (by omega)]
    simp
  | a :: rest, pre, k, x, h0, h1, h2, hk => by
    obtain ⟨k, rfl⟩ : ∃ q, k = q + 1 := ⟨k - 1, by omega⟩
    rw [List.length_cons] at h1 h2 hk
    have ih := heldIntS_l0 rest (pre ++ [x]) k (x + 1) (by omega) (by omega) (by rw [List.length_append, List.length_singleton]; omega) (by omega)
    rw [List.append_assoc, List.singleton_append] at ih
    rw [laws_heldIntS.l0, markInts, if_pos (by rw [List.length_append, List.length_cons]; omega), if_pos (by omega), show rd (pre ++ x :: markInts rest (x + 1)) (pre.length : Int) = x from getD_mid _ _ _ _ rfl, if_pos rfl, w64 (by omega) (by omega),
      show wrap64 ((pre.length : Int) + 1) = ((pre ++ [x]).length : Int) from by rw [w64 (by omega) (by omega), List.length_append, List.length_singleton]; omega, ih, List.length_cons]
    congr 1
    omega
theorem heldIntS_ok (l : List Int) {k : Nat} {x : Int} (h0 : 0 ≤ x) (h1 : x + l.length < 1000000000000000000) (h2 : l.length ≤ 1000000000) (hk : l.length < k) : laws_heldIntS.f k (markInts l x) x = some (x + l.length) := heldIntS_l0 l [] k x h0 h1 (by simpa using h2) hk
end Go.Proofs.Ytdkokfnnebdppaa.Lem

-- written by a program of this session's (wip/pp)
namespace Go.Proofs.Ytdkokfnnebdppaa.P
open Go.RowKit Go.Proofs.YtdkokfnnebdppaaW.PrintWords Go.Proofs.YtdkokfnnebdppaaW.PrintLast Go.Proofs.YtdkokfnnebdppaaW.PrintMore
attribute [local go_sem] max2_int min2_int max_two min_two max_three min_three max_four min_four str_geq str_gtr str_leq   -- for this text's walks alone
set_option linter.unusedVariables false
set_option linter.unusedSimpArgs false

/-! ### laws_heldEntryS: function 18 -/
def laws_heldEntryS.l0 : Nat → List (S45) → Int → Int → Option (Int)
 | 0, _, _, _ => none
 | k + 1, x0, x1, x5 => if x5 < (x0.length : Int) then (if 0 ≤ x5 then ((laws_markText.f k x1).bind fun t102 => (if ((rd_T45 x0 x5).f0).toList = t102.toList then (if ((rd_T45 x0 x5).f1) = (wrap64 (x1 + 1)) then (if ((rd_T45 x0 x5).f2) = (wrap64 ((wrap64 (x1 + 1)) + 1)) then (if ((rd_T45 x0 x5).f3.f0) = (wrap64 ((wrap64 ((wrap64 (x1 + 1)) + 1)) + 1)) then (if ((rd_T45 x0 x5).f3.f1) = (wrap64 ((wrap64 ((wrap64 ((wrap64 (x1 + 1)) + 1)) + 1)) + 1)) then (if ((rd_T45 x0 x5).f3.f2) = (wrap64 ((wrap64 ((wrap64 ((wrap64 ((wrap64 (x1 + 1)) + 1)) + 1)) + 1)) + 1)) then (if ((rd_T45 x0 x5).f3.f3) = (wrap64 ((wrap64 ((wrap64 ((wrap64 ((wrap64 ((wrap64 (x1 + 1)) + 1)) + 1)) + 1)) + 1)) + 1)) then ((laws_heldIntS.f k ((rd_T45 x0 x5).f3.f4) (wrap64 ((wrap64 ((wrap64 ((wrap64 ((wrap64 ((wrap64 ((wrap64 (x1 + 1)) + 1)) + 1)) + 1)) + 1)) + 1)) + 1))).bind fun t110 => (if t110 < 0 then (none) else (if (((rd_T45 x0 x5).f3.f5) != ((Int.tmod t110 3) == 0)) = true then (none) else (laws_heldEntryS.l0 k x0 (wrap64 (t110 + 1)) (wrap64 (x5 + 1)))))) else (none)) else (none)) else (none)) else (none)) else (none)) else (none)) else (none))) else (none)) else (some x1)
def laws_heldEntryS.f (k : Nat) (l0 : List (S45)) (a1 : Int) : Option (Int) := laws_heldEntryS.l0 k l0 a1 0
theorem laws_heldEntryS.mono_l : ∀ k, (∀ y0 y1 y2, LeO (laws_heldEntryS.l0 k y0 y1 y2) (laws_heldEntryS.l0 (k + 1) y0 y1 y2))
 | 0 => fun _ _ _ r h => by simp [laws_heldEntryS.l0] at h
 | k + 1 => by
  have ih0 := laws_heldEntryS.mono_l k
  · intro y0 y1 y2
    unfold laws_heldEntryS.l0
    repeat' first
     | (with_reducible first | exact ih0 .. | exact laws_heldIntS.mono .. | exact laws_markText.mono .. | exact LeO.refl _ | exact LeO.none _ | refine LeO.ite ?_ ?_ | refine LeO.bind ?_ (fun _ => ?_))
     | exact LeO.none _
     | refine LeO.ite ?_ ?_
     | refine LeO.bind ?_ (fun _ => ?_)
theorem laws_heldEntryS.mono : ∀ a0 a1 k, LeO (laws_heldEntryS.f k a0 a1) (laws_heldEntryS.f (k + 1) a0 a1) := by
 intro a0 a1 k
 have ih0 := laws_heldEntryS.mono_l k
 unfold laws_heldEntryS.f
 repeat' first
  | (with_reducible first | exact ih0 .. | exact laws_heldIntS.mono .. | exact laws_markText.mono .. | exact LeO.refl _ | exact LeO.none _ | refine LeO.ite ?_ ?_ | refine LeO.bind ?_ (fun _ => ?_))
  | exact LeO.none _
  | refine LeO.ite ?_ ?_
  | refine LeO.bind ?_ (fun _ => ?_)
def laws_heldEntryS.T4 : Bool × List (List Nat × List Nat) := (true, [([], []), ([], []), ([0, 1], [0, 1]), ([2], [2]), ([3], [3]), ([], []), ([5], [5]), ([4, 6], [4, 6])])
def laws_heldEntryS.B4 : List Nat := [0, 0, 3, 7, 15, 0, 32, 127]
theorem laws_heldEntryS.tab4 : rtab .any (opsOf Try.f18 4) = laws_heldEntryS.T4 := by kernel_rfl
theorem laws_heldEntryS.bits4 : waitsOk laws_heldEntryS.T4.2 laws_heldEntryS.B4 = true := by kernel_rfl
set_option maxHeartbeats 8000000 in
set_option maxRecDepth 100000 in
theorem laws_heldEntryS.calls (k : Nat) (A0 : Option Addr) (c0 : Nat) (l0 : List (S45)) (a1 : Int) (r : Int) (w : World) (hr0 : Kd.C k45 w A0 l0.length l0) (hc0 : l0.length ≤ c0) (h : laws_heldEntryS.f k l0 a1 = some r) :
 Calls Try.prog 18 #[.slice A0 l0.length c0, .int .i64 a1] w fun e w' => e = .returned (.int .i64 r) ∧ Below w.heap.size w w' := by
 have HR0 := aM hr0
 have HC0 := aM hc0
 clear hr0 hc0
 have HB := aM (Below.refl w.heap.size w)
 have H : (laws_heldEntryS.l0 k l0 a1 0) = some r := h
 clear h
 have H' := aM H
 clear H
 go_enter Try.func18, Try.ntmps18
 go_wp2
 go_loopg [1, 5] k (fun kq v1 v5 w' => ∃ (x1_1 : Int) (x5_1 : Int), v1 = .int .i64 x1_1 ∧ v5 = .int .i64 x5_1 ∧ Aside0 (laws_heldEntryS.l0 kq l0 x1_1 x5_1 = some r) ∧ Aside0 (kq ≤ k) ∧ Aside0 (Below w.heap.size w w'))
 case atStart => exact ⟨(a1), (0), z4458, z4458, H', ⟨Nat.le_refl _⟩, ⟨z5acd⟩⟩
 case round =>
  clear H'
  try clear c1
  try clear p2
  obtain ⟨x1_1, x5_1, rfl, rfl, HA, HK1, HB⟩ := hrel
  cases gk with
  | zero => exact absurd HA.out (by simp [laws_heldEntryS.l0])
  | succ k1 =>
   have H := HA.out
   clear HA
   simp only [laws_heldEntryS.l0] at H
   by_cases c3 : x5_1 < (l0.length : Int)
   · rw [if_pos c3] at H
     have c3b0 : decide (x5_1 < (l0.length : Int)) = true := decide_eq_true c3
     clear c3
     replace H := ifS H; obtain ⟨c4, H⟩ := H
     have c4b0 : decide (0 ≤ x5_1) = true := decide_eq_true c4
     clear c4
     replace H := Option.bind_eq_some_iff.mp H
     obtain ⟨t102, A50, H⟩ := H
     try dsimp only at H
     have A5 := aM A50
     clear A50
     replace H := ifS H; obtain ⟨c6, H⟩ := H
     have c6b0 : (((rd_T45 l0 x5_1).f0).toList == t102.toList) = true := beq_iff_eq.mpr c6
     have c6b1 : (((rd_T45 l0 x5_1).f0).toList != t102.toList) = false := bne_eq_false_iff_eq.mpr c6
     clear c6
     replace H := ifS H; obtain ⟨c7, H⟩ := H
     have c7b0 : (((rd_T45 l0 x5_1).f1) == (wrap64 (x1_1 + 1))) = true := beq_iff_eq.mpr c7
     have c7b1 : (((rd_T45 l0 x5_1).f1) != (wrap64 (x1_1 + 1))) = false := bne_eq_false_iff_eq.mpr c7
     clear c7
     replace H := ifS H; obtain ⟨c8, H⟩ := H
     have c8b0 : (((rd_T45 l0 x5_1).f2) == (wrap64 ((wrap64 (x1_1 + 1)) + 1))) = true := beq_iff_eq.mpr c8
     have c8b1 : (((rd_T45 l0 x5_1).f2) != (wrap64 ((wrap64 (x1_1 + 1)) + 1))) = false := bne_eq_false_iff_eq.mpr c8
     clear c8
     replace H := ifS H; obtain ⟨c9, H⟩ := H
     have c9b0 : (((rd_T45 l0 x5_1).f3.f0) == (wrap64 ((wrap64 ((wrap64 (x1_1 + 1)) + 1)) + 1))) = true := beq_iff_eq.mpr c9
     have c9b1 : (((rd_T45 l0 x5_1).f3.f0) != (wrap64 ((wrap64 ((wrap64 (x1_1 + 1)) + 1)) + 1))) = false := bne_eq_false_iff_eq.mpr c9
     clear c9
     replace H := ifS H; obtain ⟨c10, H⟩ := H
     have c10b0 : (((rd_T45 l0 x5_1).f3.f1) == (wrap64 ((wrap64 ((wrap64 ((wrap64 (x1_1 + 1)) + 1)) + 1)) + 1))) = true := beq_iff_eq.mpr c10
     have c10b1 : (((rd_T45 l0 x5_1).f3.f1) != (wrap64 ((wrap64 ((wrap64 ((wrap64 (x1_1 + 1)) + 1)) + 1)) + 1))) = false := bne_eq_false_iff_eq.mpr c10
     clear c10
     replace H := ifS H; obtain ⟨c11, H⟩ := H
     have c11b0 : (((rd_T45 l0 x5_1).f3.f2) == (wrap64 ((wrap64 ((wrap64 ((wrap64 ((wrap64 (x1_1 + 1)) + 1)) + 1)) + 1)) + 1))) = true := beq_iff_eq.mpr c11
     have c11b1 : (((rd_T45 l0 x5_1).f3.f2) != (wrap64 ((wrap64 ((wrap64 ((wrap64 ((wrap64 (x1_1 + 1)) + 1)) + 1)) + 1)) + 1))) = false := bne_eq_false_iff_eq.mpr c11
     clear c11
     replace H := ifS H; obtain ⟨c12, H⟩ := H
     have c12b0 : (((rd_T45 l0 x5_1).f3.f3) == (wrap64 ((wrap64 ((wrap64 ((wrap64 ((wrap64 ((wrap64 (x1_1 + 1)) + 1)) + 1)) + 1)) + 1)) + 1))) = true := beq_iff_eq.mpr c12
     have c12b1 : (((rd_T45 l0 x5_1).f3.f3) != (wrap64 ((wrap64 ((wrap64 ((wrap64 ((wrap64 ((wrap64 (x1_1 + 1)) + 1)) + 1)) + 1)) + 1)) + 1))) = false := bne_eq_false_iff_eq.mpr c12
     clear c12
     replace H := Option.bind_eq_some_iff.mp H
     obtain ⟨t110, A130, H⟩ := H
     try dsimp only at H
     have A13 := aM A130
     clear A130
     replace H := ifN H; obtain ⟨c14, H⟩ := H
     have c14b0 : decide (t110 < 0) = false := decide_eq_false c14
     clear c14
     replace H := ifN H; obtain ⟨c15, H⟩ := H
     have c15b0 : (((rd_T45 l0 x5_1).f3.f5) != ((Int.tmod t110 3) == 0)) = false := by simpa using c15
     (try (have c15b1 : decide (((rd_T45 l0 x5_1).f3.f5) = ((Int.tmod t110 3) == 0)) = true := by simpa using c15))
     (try (have c15b2 : (((rd_T45 l0 x5_1).f3.f5) == ((Int.tmod t110 3) == 0)) = true := by simpa using c15))
     clear c15
     have H' := aM H
     clear H
     try go_wp2
     have _ := aM (below_drew1 HB.out)
     clear HB
     rename_i HB
     have p101 : 0 ≤ (x5_1 : Int) := of_decide_eq_true z1200
     have q101 : x5_1 < (l0.length : Int) := of_decide_eq_true z1200
     obtain ⟨ad101, A101_7, c101_7, e101, hx101_0, hx101_1, hx101_2, hx101_3, hx101_4, hx101_5, hx101_6, hx101_7, hx101_8, hl101_7, hi101_7⟩ := at_T45 HR0.out x5_1 p101 q101
     have hw101_8 := hx101_8
     have hw101_7 := hx101_7
     have hw101_6 := hx101_6
     have hw101_5 := hx101_5
     have hw101_4 := hx101_4
     have hw101_3 := hx101_3
     have hw101_2 := hx101_2
     have hw101_1 := hx101_1
     have hw101_0 := hx101_0
     cases e101
     have TW101_7 := aM hx101_7
     replace hx101_0 := (HB.out.cell (World.block_lt_of_cell? w _ hx101_0)).trans hx101_0
     replace hx101_1 := (HB.out.cell (World.block_lt_of_cell? w _ hx101_1)).trans hx101_1
     replace hx101_2 := (HB.out.cell (World.block_lt_of_cell? w _ hx101_2)).trans hx101_2
     replace hx101_3 := (HB.out.cell (World.block_lt_of_cell? w _ hx101_3)).trans hx101_3
     replace hx101_4 := (HB.out.cell (World.block_lt_of_cell? w _ hx101_4)).trans hx101_4
     replace hx101_5 := (HB.out.cell (World.block_lt_of_cell? w _ hx101_5)).trans hx101_5
     replace hx101_6 := (HB.out.cell (World.block_lt_of_cell? w _ hx101_6)).trans hx101_6
     replace hx101_7 := (HB.out.cell (World.block_lt_of_cell? w _ hx101_7)).trans hx101_7
     replace hx101_8 := (HB.out.cell (World.block_lt_of_cell? w _ hx101_8)).trans hx101_8
     have HR101_7 := aM hi101_7
     have HC101_7 := aM hl101_7
     clear hi101_7 hl101_7
     replace p101 := eq_true p101
     replace q101 := eq_true q101
     refine sA 8 laws_heldEntryS.tab4 laws_heldEntryS.bits4 (fun w' => w'.cell? (ad101.add ((x5_1).toNat * 9)) = some (.string ((rd_T45 l0 x5_1).f0)) ∧ w'.cell? ⟨(ad101.add ((x5_1).toNat * 9)).block, (ad101.add ((x5_1).toNat * 9)).off + 1, none⟩ = some (.int .i64 ((rd_T45 l0 x5_1).f1)) ∧ w'.cell? ⟨(ad101.add ((x5_1).toNat * 9)).block, (ad101.add ((x5_1).toNat * 9)).off + 2, none⟩ = some (.int .i64 ((rd_T45 l0 x5_1).f2)) ∧ w'.cell? ⟨(ad101.add ((x5_1).toNat * 9)).block, (ad101.add ((x5_1).toNat * 9)).off + 3, none⟩ = some (.int .i64 ((rd_T45 l0 x5_1).f3.f0)) ∧ w'.cell? ⟨(ad101.add ((x5_1).toNat * 9)).block, (ad101.add ((x5_1).toNat * 9)).off + 4, none⟩ = some (.int .i64 ((rd_T45 l0 x5_1).f3.f1)) ∧ w'.cell? ⟨(ad101.add ((x5_1).toNat * 9)).block, (ad101.add ((x5_1).toNat * 9)).off + 5, none⟩ = some (.int .i64 ((rd_T45 l0 x5_1).f3.f2)) ∧ w'.cell? ⟨(ad101.add ((x5_1).toNat * 9)).block, (ad101.add ((x5_1).toNat * 9)).off + 6, none⟩ = some (.int .i64 ((rd_T45 l0 x5_1).f3.f3)) ∧ w'.cell? ⟨(ad101.add ((x5_1).toNat * 9)).block, (ad101.add ((x5_1).toNat * 9)).off + 7, none⟩ = some (.slice A101_7 ((rd_T45 l0 x5_1).f3.f4).length c101_7) ∧ w'.cell? ⟨(ad101.add ((x5_1).toNat * 9)).block, (ad101.add ((x5_1).toNat * 9)).off + 8, none⟩ = some (.bool ((rd_T45 l0 x5_1).f3.f5))) [] (fun hHeld HT_ HW_ => ?_)
     generalize wr.drew = w16 at HB HR101_7 hx101_0 hx101_1 hx101_2 hx101_3 hx101_4 hx101_5 hx101_6 hx101_7 hx101_8 hHeld ⊢
     refine pA 0 12 HT_ ?_; refine pA 1 13 HT_ ?_; refine pA 2 14 HT_ ?_; refine pA 3 15 HT_ ?_; refine pA 5 17 HT_ ?_; refine tA 4 16 HT_ HW_ hHeld ?_; refine oA 6 18 HT_ (fun K hK => ?_)
     refine goes_ Try.func37 (by kernel_rfl) rfl #[.int .i64 x1_1] (by rfl) rfl rfl zee81 ?_
     with_reducible refine (laws_markText.calls k1 x1_1 t102 _ A5.out).mono ?_
     rintro e w17 ⟨rfl, hb⟩
     refine ⟨_, rfl, ?_⟩
     have _ := aM (below_step hbZ hb)
     clear HB
     rename_i HB
     (try clear hb)
     (try clear hb2)
     (try clear hk)
     (try clear hi)
     refine hK.out _ _ sZ (fun hHeld => ?_)
     clear hK K
     refine nA 18 ?_; refine pA 7 19 HT_ ?_
     refine done_ (done_of HT_.out (by kernel_rfl)) ?_
     have p103 : 0 ≤ (x5_1 : Int) := of_decide_eq_true z1200
     have q103 : x5_1 < (l0.length : Int) := of_decide_eq_true z1200
     obtain ⟨ad103, A103_7, c103_7, e103, hx103_0, hx103_1, hx103_2, hx103_3, hx103_4, hx103_5, hx103_6, hx103_7, hx103_8, hl103_7, hi103_7⟩ := at_T45 HR0.out x5_1 p103 q103
     obtain rfl : ad101 = ad103 := (by injection e103)
     (try (have ez_ := hx103_7.symm.trans TW101_7.out; simp only [Option.some.injEq, Value.slice.injEq, true_and] at ez_; obtain ⟨ez1_, ez2_⟩ := ez_; subst ez1_ ez2_))
     have TW103_7 := aM hx103_7
     replace hx103_0 := (HB.out.cell (World.block_lt_of_cell? w _ hx103_0)).trans hx103_0
     replace hx103_1 := (HB.out.cell (World.block_lt_of_cell? w _ hx103_1)).trans hx103_1
     replace hx103_2 := (HB.out.cell (World.block_lt_of_cell? w _ hx103_2)).trans hx103_2
     replace hx103_3 := (HB.out.cell (World.block_lt_of_cell? w _ hx103_3)).trans hx103_3
     replace hx103_4 := (HB.out.cell (World.block_lt_of_cell? w _ hx103_4)).trans hx103_4
     replace hx103_5 := (HB.out.cell (World.block_lt_of_cell? w _ hx103_5)).trans hx103_5
     replace hx103_6 := (HB.out.cell (World.block_lt_of_cell? w _ hx103_6)).trans hx103_6
     replace hx103_7 := (HB.out.cell (World.block_lt_of_cell? w _ hx103_7)).trans hx103_7
     replace hx103_8 := (HB.out.cell (World.block_lt_of_cell? w _ hx103_8)).trans hx103_8
     have HR103_7 := aM hi103_7
     have HC103_7 := aM hl103_7
     clear hi103_7 hl103_7
     replace p103 := eq_true p103
     replace q103 := eq_true q103
     have p104 : 0 ≤ (x5_1 : Int) := of_decide_eq_true z1200
     have q104 : x5_1 < (l0.length : Int) := of_decide_eq_true z1200
     obtain ⟨ad104, A104_7, c104_7, e104, hx104_0, hx104_1, hx104_2, hx104_3, hx104_4, hx104_5, hx104_6, hx104_7, hx104_8, hl104_7, hi104_7⟩ := at_T45 HR0.out x5_1 p104 q104
     obtain rfl : ad101 = ad104 := (by injection e104)
     replace hx104_0 := (HB.out.cell (World.block_lt_of_cell? w _ hx104_0)).trans hx104_0
     replace hx104_1 := (HB.out.cell (World.block_lt_of_cell? w _ hx104_1)).trans hx104_1
     replace hx104_2 := (HB.out.cell (World.block_lt_of_cell? w _ hx104_2)).trans hx104_2
     replace hx104_3 := (HB.out.cell (World.block_lt_of_cell? w _ hx104_3)).trans hx104_3
     replace hx104_4 := (HB.out.cell (World.block_lt_of_cell? w _ hx104_4)).trans hx104_4
     replace hx104_5 := (HB.out.cell (World.block_lt_of_cell? w _ hx104_5)).trans hx104_5
     replace hx104_6 := (HB.out.cell (World.block_lt_of_cell? w _ hx104_6)).trans hx104_6
     replace hx104_7 := (HB.out.cell (World.block_lt_of_cell? w _ hx104_7)).trans hx104_7
     replace hx104_8 := (HB.out.cell (World.block_lt_of_cell? w _ hx104_8)).trans hx104_8
     have HR104_7 := aM hi104_7
     have HC104_7 := aM hl104_7
     clear hi104_7 hl104_7
     replace p104 := eq_true p104
     replace q104 := eq_true q104
     have ea_ := Option.some.inj (hx103_7.symm.trans hx104_7)
     injection ea_ with ea_ en_ ec_
     subst ea_
     subst ec_
     clear en_
     have p105 : 0 ≤ (x5_1 : Int) := of_decide_eq_true z1200
     have q105 : x5_1 < (l0.length : Int) := of_decide_eq_true z1200
     obtain ⟨ad105, A105_7, c105_7, e105, hx105_0, hx105_1, hx105_2, hx105_3, hx105_4, hx105_5, hx105_6, hx105_7, hx105_8, hl105_7, hi105_7⟩ := at_T45 HR0.out x5_1 p105 q105
     obtain rfl : ad101 = ad105 := (by injection e105)
     replace hx105_0 := (HB.out.cell (World.block_lt_of_cell? w _ hx105_0)).trans hx105_0
     replace hx105_1 := (HB.out.cell (World.block_lt_of_cell? w _ hx105_1)).trans hx105_1
     replace hx105_2 := (HB.out.cell (World.block_lt_of_cell? w _ hx105_2)).trans hx105_2
     replace hx105_3 := (HB.out.cell (World.block_lt_of_cell? w _ hx105_3)).trans hx105_3
     replace hx105_4 := (HB.out.cell (World.block_lt_of_cell? w _ hx105_4)).trans hx105_4
     replace hx105_5 := (HB.out.cell (World.block_lt_of_cell? w _ hx105_5)).trans hx105_5
     replace hx105_6 := (HB.out.cell (World.block_lt_of_cell? w _ hx105_6)).trans hx105_6
     replace hx105_7 := (HB.out.cell (World.block_lt_of_cell? w _ hx105_7)).trans hx105_7
     replace hx105_8 := (HB.out.cell (World.block_lt_of_cell? w _ hx105_8)).trans hx105_8
     have HR105_7 := aM hi105_7
     have HC105_7 := aM hl105_7
     clear hi105_7 hl105_7
     replace p105 := eq_true p105
     replace q105 := eq_true q105
     have ea_ := Option.some.inj (hx103_7.symm.trans hx105_7)
     injection ea_ with ea_ en_ ec_
     subst ea_
     subst ec_
     clear en_
     have p106 : 0 ≤ (x5_1 : Int) := of_decide_eq_true z1200
     have q106 : x5_1 < (l0.length : Int) := of_decide_eq_true z1200
     obtain ⟨ad106, A106_7, c106_7, e106, hx106_0, hx106_1, hx106_2, hx106_3, hx106_4, hx106_5, hx106_6, hx106_7, hx106_8, hl106_7, hi106_7⟩ := at_T45 HR0.out x5_1 p106 q106
     obtain rfl : ad101 = ad106 := (by injection e106)
     replace hx106_0 := (HB.out.cell (World.block_lt_of_cell? w _ hx106_0)).trans hx106_0
     replace hx106_1 := (HB.out.cell (World.block_lt_of_cell? w _ hx106_1)).trans hx106_1
     replace hx106_2 := (HB.out.cell (World.block_lt_of_cell? w _ hx106_2)).trans hx106_2
     replace hx106_3 := (HB.out.cell (World.block_lt_of_cell? w _ hx106_3)).trans hx106_3
     replace hx106_4 := (HB.out.cell (World.block_lt_of_cell? w _ hx106_4)).trans hx106_4
     replace hx106_5 := (HB.out.cell (World.block_lt_of_cell? w _ hx106_5)).trans hx106_5
     replace hx106_6 := (HB.out.cell (World.block_lt_of_cell? w _ hx106_6)).trans hx106_6
     replace hx106_7 := (HB.out.cell (World.block_lt_of_cell? w _ hx106_7)).trans hx106_7
     replace hx106_8 := (HB.out.cell (World.block_lt_of_cell? w _ hx106_8)).trans hx106_8
     have HR106_7 := aM hi106_7
     have HC106_7 := aM hl106_7
     clear hi106_7 hl106_7
     replace p106 := eq_true p106
     replace q106 := eq_true q106
     have ea_ := Option.some.inj (hx103_7.symm.trans hx106_7)
     injection ea_ with ea_ en_ ec_
     subst ea_
     subst ec_
     clear en_
     have p107 : 0 ≤ (x5_1 : Int) := of_decide_eq_true z1200
     have q107 : x5_1 < (l0.length : Int) := of_decide_eq_true z1200
     obtain ⟨ad107, A107_7, c107_7, e107, hx107_0, hx107_1, hx107_2, hx107_3, hx107_4, hx107_5, hx107_6, hx107_7, hx107_8, hl107_7, hi107_7⟩ := at_T45 HR0.out x5_1 p107 q107
     obtain rfl : ad101 = ad107 := (by injection e107)
     replace hx107_0 := (HB.out.cell (World.block_lt_of_cell? w _ hx107_0)).trans hx107_0
     replace hx107_1 := (HB.out.cell (World.block_lt_of_cell? w _ hx107_1)).trans hx107_1
     replace hx107_2 := (HB.out.cell (World.block_lt_of_cell? w _ hx107_2)).trans hx107_2
     replace hx107_3 := (HB.out.cell (World.block_lt_of_cell? w _ hx107_3)).trans hx107_3
     replace hx107_4 := (HB.out.cell (World.block_lt_of_cell? w _ hx107_4)).trans hx107_4
     replace hx107_5 := (HB.out.cell (World.block_lt_of_cell? w _ hx107_5)).trans hx107_5
     replace hx107_6 := (HB.out.cell (World.block_lt_of_cell? w _ hx107_6)).trans hx107_6
     replace hx107_7 := (HB.out.cell (World.block_lt_of_cell? w _ hx107_7)).trans hx107_7
     replace hx107_8 := (HB.out.cell (World.block_lt_of_cell? w _ hx107_8)).trans hx107_8
     have HR107_7 := aM hi107_7
     have HC107_7 := aM hl107_7
     clear hi107_7 hl107_7
     replace p107 := eq_true p107
     replace q107 := eq_true q107
     have ea_ := Option.some.inj (hx103_7.symm.trans hx107_7)
     injection ea_ with ea_ en_ ec_
     subst ea_
     subst ec_
     clear en_
     have p108 : 0 ≤ (x5_1 : Int) := of_decide_eq_true z1200
     have q108 : x5_1 < (l0.length : Int) := of_decide_eq_true z1200
     obtain ⟨ad108, A108_7, c108_7, e108, hx108_0, hx108_1, hx108_2, hx108_3, hx108_4, hx108_5, hx108_6, hx108_7, hx108_8, hl108_7, hi108_7⟩ := at_T45 HR0.out x5_1 p108 q108
     obtain rfl : ad101 = ad108 := (by injection e108)
     replace hx108_0 := (HB.out.cell (World.block_lt_of_cell? w _ hx108_0)).trans hx108_0
     replace hx108_1 := (HB.out.cell (World.block_lt_of_cell? w _ hx108_1)).trans hx108_1
     replace hx108_2 := (HB.out.cell (World.block_lt_of_cell? w _ hx108_2)).trans hx108_2
     replace hx108_3 := (HB.out.cell (World.block_lt_of_cell? w _ hx108_3)).trans hx108_3
     replace hx108_4 := (HB.out.cell (World.block_lt_of_cell? w _ hx108_4)).trans hx108_4
     replace hx108_5 := (HB.out.cell (World.block_lt_of_cell? w _ hx108_5)).trans hx108_5
     replace hx108_6 := (HB.out.cell (World.block_lt_of_cell? w _ hx108_6)).trans hx108_6
     replace hx108_7 := (HB.out.cell (World.block_lt_of_cell? w _ hx108_7)).trans hx108_7
     replace hx108_8 := (HB.out.cell (World.block_lt_of_cell? w _ hx108_8)).trans hx108_8
     have HR108_7 := aM hi108_7
     have HC108_7 := aM hl108_7
     clear hi108_7 hl108_7
     replace p108 := eq_true p108
     replace q108 := eq_true q108
     have ea_ := Option.some.inj (hx103_7.symm.trans hx108_7)
     injection ea_ with ea_ en_ ec_
     subst ea_
     subst ec_
     clear en_
     have p109 : 0 ≤ (x5_1 : Int) := of_decide_eq_true z1200
     have q109 : x5_1 < (l0.length : Int) := of_decide_eq_true z1200
     obtain ⟨ad109, A109_7, c109_7, e109, hx109_0, hx109_1, hx109_2, hx109_3, hx109_4, hx109_5, hx109_6, hx109_7, hx109_8, hl109_7, hi109_7⟩ := at_T45 HR0.out x5_1 p109 q109
     obtain rfl : ad101 = ad109 := (by injection e109)
     replace hx109_0 := (HB.out.cell (World.block_lt_of_cell? w _ hx109_0)).trans hx109_0
     replace hx109_1 := (HB.out.cell (World.block_lt_of_cell? w _ hx109_1)).trans hx109_1
     replace hx109_2 := (HB.out.cell (World.block_lt_of_cell? w _ hx109_2)).trans hx109_2
     replace hx109_3 := (HB.out.cell (World.block_lt_of_cell? w _ hx109_3)).trans hx109_3
     replace hx109_4 := (HB.out.cell (World.block_lt_of_cell? w _ hx109_4)).trans hx109_4
     replace hx109_5 := (HB.out.cell (World.block_lt_of_cell? w _ hx109_5)).trans hx109_5
     replace hx109_6 := (HB.out.cell (World.block_lt_of_cell? w _ hx109_6)).trans hx109_6
     replace hx109_7 := (HB.out.cell (World.block_lt_of_cell? w _ hx109_7)).trans hx109_7
     replace hx109_8 := (HB.out.cell (World.block_lt_of_cell? w _ hx109_8)).trans hx109_8
     have HR109_7 := aM hi109_7
     have HC109_7 := aM hl109_7
     clear hi109_7 hl109_7
     replace p109 := eq_true p109
     replace q109 := eq_true q109
     have ea_ := Option.some.inj (hx103_7.symm.trans hx109_7)
     injection ea_ with ea_ en_ ec_
     subst ea_
     subst ec_
     clear en_
     try go_wp2_with (first | ((with_reducible refine gate_callee (f := 39) rfl ?_); refine goesL_ (some 87) rfl rfl Try.func39 (by kernel_rfl) rfl #[.slice A103_7 ((rd_T45 l0 x5_1).f3.f4).length c103_7, .int .i64 (wrap64 ((wrap64 ((wrap64 ((wrap64 ((wrap64 ((wrap64 ((wrap64 (x1_1 + 1)) + 1)) + 1)) + 1)) + 1)) + 1)) + 1))] rfl zee81 ?_; (with_reducible refine (laws_heldIntS.calls k1 _ _ ((rd_T45 l0 x5_1).f3.f4) (wrap64 ((wrap64 ((wrap64 ((wrap64 ((wrap64 ((wrap64 ((wrap64 (x1_1 + 1)) + 1)) + 1)) + 1)) + 1)) + 1)) + 1)) t110 _ ?side1 ?side2 A13.out).mono ?_); (case side1 => exact (cZ (Kd.C_below HR109_7.out HB.out))); (case side2 => exact HC109_7.out); rintro e w' ⟨rfl, ⟨nd, rfl⟩⟩; refine ⟨_, rfl, ?_⟩; have p111 : 0 ≤ (x5_1 : Int) := of_decide_eq_true z1200; have q111 : x5_1 < (l0.length : Int) := of_decide_eq_true z1200; obtain ⟨ad111, A111_7, c111_7, e111, hx111_0, hx111_1, hx111_2, hx111_3, hx111_4, hx111_5, hx111_6, hx111_7, hx111_8, hl111_7, hi111_7⟩ := at_T45 HR0.out x5_1 p111 q111; obtain rfl : ad101 = ad111 := (by injection e111); replace hx111_0 := (HB.out.cell (World.block_lt_of_cell? w _ hx111_0)).trans hx111_0; replace hx111_1 := (HB.out.cell (World.block_lt_of_cell? w _ hx111_1)).trans hx111_1; replace hx111_2 := (HB.out.cell (World.block_lt_of_cell? w _ hx111_2)).trans hx111_2; replace hx111_3 := (HB.out.cell (World.block_lt_of_cell? w _ hx111_3)).trans hx111_3; replace hx111_4 := (HB.out.cell (World.block_lt_of_cell? w _ hx111_4)).trans hx111_4; replace hx111_5 := (HB.out.cell (World.block_lt_of_cell? w _ hx111_5)).trans hx111_5; replace hx111_6 := (HB.out.cell (World.block_lt_of_cell? w _ hx111_6)).trans hx111_6; replace hx111_7 := (HB.out.cell (World.block_lt_of_cell? w _ hx111_7)).trans hx111_7; replace hx111_8 := (HB.out.cell (World.block_lt_of_cell? w _ hx111_8)).trans hx111_8; have HR111_7 := aM hi111_7; have HC111_7 := aM hl111_7; clear hi111_7 hl111_7; replace p111 := eq_true p111; replace q111 := eq_true q111; have ea_ := Option.some.inj (hx103_7.symm.trans hx111_7); injection ea_ with ea_ en_ ec_; subst ea_; subst ec_; clear en_))
     go_roundg k1
     case measure => have := HK1.out; omega
     case rel => exact ⟨(wrap64 (t110 + 1)), (wrap64 (x5_1 + 1)), z4458, z4458, H', ⟨zfb39⟩, ⟨z5acd⟩⟩
   · rw [if_neg c3] at H
     have c3b0 : decide (x5_1 < (l0.length : Int)) = false := decide_eq_false c3
     clear c3
     obtain rfl := Option.some.inj H
     go_wp2
     go_ret
     exact ⟨z674d, z5acd⟩

end Go.Proofs.Ytdkokfnnebdppaa.P

/- Marks that are written into entries, and told again. No conditions. -/
namespace Go.Proofs.Ytdkokfnnebdppaa.Lem
open Go Go.RowKit Go.Proofs.Ytdkokfnnebdppaa.P Go.Proofs.YtdkokfnnebdppaaW.PrintWords Go.Proofs.YtdkokfnnebdppaaW.PrintLast Go.Proofs.YtdkokfnnebdppaaW.PrintMore

def zE (e : En) (x : Int) : Int := x + 1 + 1 + 1 + 1 + 1 + 1 + 1 + (e.f3.f4.length : Int)
def markE (e : En) (x : Int) : En := ⟨markT x, x + 1, x + 1 + 1, ⟨x + 1 + 1 + 1, x + 1 + 1 + 1 + 1, x + 1 + 1 + 1 + 1 + 1, x + 1 + 1 + 1 + 1 + 1 + 1, markInts e.f3.f4 (x + 1 + 1 + 1 + 1 + 1 + 1 + 1), Int.tmod (zE e x) 3 == 0⟩⟩
def markEs : List En → Int → List En
  | [], _ => []
  | e :: r, x => markE e x :: markEs r (zE e x + 1)
def endE : List En → Int → Int
  | [], x => x
  | e :: r, x => endE r (zE e x + 1)
theorem markEs_length : ∀ (l : List En) (x : Int), (markEs l x).length = l.length
  | [], _ => rfl
  | _ :: r, x => by rw [markEs, List.length_cons, List.length_cons, markEs_length r]
theorem endE_le : ∀ (l : List En) (x : Int), RowsE l → x ≤ endE l x ∧ endE l x ≤ x + 4194304 * (l.length : Int)
  | [], x, _ => by simp [endE]
  | w :: r, x, h => by
    have ih := endE_le r (zE w x + 1) (fun v hv => h v (List.mem_cons_of_mem _ hv))
    have hw := h w List.mem_cons_self
    have hz : zE w x = x + 1 + 1 + 1 + 1 + 1 + 1 + 1 + (w.f3.f4.length : Int) := rfl
    rw [endE, List.length_cons]
    omega
theorem rdE_mid (pre : List En) (a : En) (rest : List En) : rd_T45 (pre ++ a :: rest) (pre.length : Int) = a := getD_mid _ _ _ _ rfl
theorem wrapP (pre : List En) (a : En) (h : pre.length ≤ 1000000000) : wrap64 ((pre.length : Int) + 1) = ((pre ++ [a]).length : Int) := by rw [w64 (by omega) (by omega), List.length_append, List.length_singleton]; omega
theorem markEntryS_l0 : ∀ (rest pre : List En) (k : Nat) (x : Int), 0 ≤ x → x + 4194304 * (rest.length : Int) < 1000000000000000000 → pre.length + rest.length ≤ 1000000000 → RowsE rest → rest.length + 1048600 < k →
    laws_markEntryS.l0 k (pre ++ rest) x (pre.length : Int) = some (endE rest x, pre ++ markEs rest x)
  | [], pre, k, x, h0, h1, h2, h3, hk => by
    obtain ⟨k, rfl⟩ : ∃ q, k = q + 1 := ⟨k - 1, by omega⟩
    rw [laws_markEntryS.l0, if_neg (by rw [List.append_nil]; omega), List.append_nil, markEs, List.append_nil]
    rfl
  | a :: rest, pre, k, x, h0, h1, h2, h3, hk => by
    obtain ⟨k, rfl⟩ : ∃ q, k = q + 1 := ⟨k - 1, by omega⟩
    rw [List.length_cons] at h1 h2 hk
    have t1 := h3 a List.mem_cons_self
    have hz : zE a x = x + 1 + 1 + 1 + 1 + 1 + 1 + 1 + (a.f3.f4.length : Int) := rfl
    have ih := markEntryS_l0 rest (pre ++ [markE a x]) k (zE a x + 1) (by omega) (by omega) (by rw [List.length_append, List.length_singleton]; omega) (fun v hv => h3 v (List.mem_cons_of_mem _ hv)) (by omega)
    rw [List.append_assoc, List.singleton_append] at ih
    rw [laws_markEntryS.l0, if_pos (by rw [List.length_append, List.length_cons]; omega), if_pos (by omega), markText_ok h0 (by omega) (by omega), Option.bind_some, rdE_mid,
      w64 (x := x + 1) (by omega) (by omega), w64 (x := x + 1 + 1) (by omega) (by omega), w64 (x := x + 1 + 1 + 1) (by omega) (by omega), w64 (x := x + 1 + 1 + 1 + 1) (by omega) (by omega), w64 (x := x + 1 + 1 + 1 + 1 + 1) (by omega) (by omega), w64 (x := x + 1 + 1 + 1 + 1 + 1 + 1) (by omega) (by omega), w64 (x := x + 1 + 1 + 1 + 1 + 1 + 1 + 1) (by omega) (by omega),
      markIntS_ok _ (by omega) (by omega) (by omega) (by omega), Option.bind_some]
    dsimp only
    rw [show x + 1 + 1 + 1 + 1 + 1 + 1 + 1 + (a.f3.f4.length : Int) = zE a x from rfl, w64 (x := zE a x + 1) (by omega) (by omega), Int.toNat_natCast, set_mid _ _ _ _ rfl, wrapP pre (markE a x) (by omega)]
    rw [endE, markEs]
    refine Eq.trans ?_ (ih.trans ?_)
    · rfl
    · rw [List.append_assoc, List.singleton_append]
theorem markEntryS_ok (l : List En) {k : Nat} {x : Int} (h0 : 0 ≤ x) (h1 : x ≤ 10000000000000) (h2 : l.length ≤ 1048576) (h3 : RowsE l) (hk : 2097180 < k) : laws_markEntryS.f k l x = some (endE l x, markEs l x) := markEntryS_l0 l [] k x h0 (by omega) (by simpa using (by omega : l.length ≤ 1000000000)) h3 (by omega)
theorem heldEntryS_l0 : ∀ (rest pre : List En) (k : Nat) (x : Int), 0 ≤ x → x + 4194304 * (rest.length : Int) < 1000000000000000000 → pre.length + rest.length ≤ 1000000000 → RowsE rest → rest.length + 1048600 < k →
    laws_heldEntryS.l0 k (pre ++ markEs rest x) x (pre.length : Int) = some (endE rest x)
  | [], pre, k, x, h0, h1, h2, h3, hk => by
    obtain ⟨k, rfl⟩ : ∃ q, k = q + 1 := ⟨k - 1, by omega⟩
    rw [laws_heldEntryS.l0, markEs, List.append_nil, if_neg (by omega)]
    rfl
  | a :: rest, pre, k, x, h0, h1, h2, h3, hk => by
    obtain ⟨k, rfl⟩ : ∃ q, k = q + 1 := ⟨k - 1, by omega⟩
    rw [List.length_cons] at h1 h2 hk
    have t1 := h3 a List.mem_cons_self
    have hz : zE a x = x + 1 + 1 + 1 + 1 + 1 + 1 + 1 + (a.f3.f4.length : Int) := rfl
    have ih := heldEntryS_l0 rest (pre ++ [markE a x]) k (zE a x + 1) (by omega) (by omega) (by rw [List.length_append, List.length_singleton]; omega) (fun v hv => h3 v (List.mem_cons_of_mem _ hv)) (by omega)
    rw [List.append_assoc, List.singleton_append] at ih
    rw [laws_heldEntryS.l0, markEs, if_pos (by rw [List.length_append, List.length_cons]; omega), if_pos (by omega), markText_ok h0 (by omega) (by omega), Option.bind_some, rdE_mid, if_pos (show (markE a x).f0.toList = (markT x).toList from rfl),
      w64 (x := x + 1) (by omega) (by omega), if_pos (show (markE a x).f1 = x + 1 from rfl), w64 (x := x + 1 + 1) (by omega) (by omega), if_pos (show (markE a x).f2 = x + 1 + 1 from rfl), w64 (x := x + 1 + 1 + 1) (by omega) (by omega), if_pos (show (markE a x).f3.f0 = x + 1 + 1 + 1 from rfl),
      w64 (x := x + 1 + 1 + 1 + 1) (by omega) (by omega), if_pos (show (markE a x).f3.f1 = x + 1 + 1 + 1 + 1 from rfl), w64 (x := x + 1 + 1 + 1 + 1 + 1) (by omega) (by omega), if_pos (show (markE a x).f3.f2 = x + 1 + 1 + 1 + 1 + 1 from rfl), w64 (x := x + 1 + 1 + 1 + 1 + 1 + 1) (by omega) (by omega), if_pos (show (markE a x).f3.f3 = x + 1 + 1 + 1 + 1 + 1 + 1 from rfl),
      w64 (x := x + 1 + 1 + 1 + 1 + 1 + 1 + 1) (by omega) (by omega), show (markE a x).f3.f4 = markInts a.f3.f4 (x + 1 + 1 + 1 + 1 + 1 + 1 + 1) from rfl, heldIntS_ok _ (by omega) (by omega) (by omega) (by omega), Option.bind_some, show x + 1 + 1 + 1 + 1 + 1 + 1 + 1 + (a.f3.f4.length : Int) = zE a x from rfl,
      if_neg (by omega), show (markE a x).f3.f5 = (Int.tmod (zE a x) 3 == 0) from rfl, bne_self_eq_false, if_neg (by decide), w64 (x := zE a x + 1) (by omega) (by omega), wrapP pre (markE a x) (by omega), ih, endE]
theorem heldEntryS_ok (l : List En) {k : Nat} {x : Int} (h0 : 0 ≤ x) (h1 : x ≤ 10000000000000) (h2 : l.length ≤ 1048576) (h3 : RowsE l) (hk : 2097180 < k) : laws_heldEntryS.f k (markEs l x) x = some (endE l x) := heldEntryS_l0 l [] k x h0 (by omega) (by simpa using (by omega : l.length ≤ 1000000000)) h3 (by omega)
end Go.Proofs.Ytdkokfnnebdppaa.Lem

/- The program's FoldEntries returns what the reference's returns: what FnExactFoldEntries' callees answer, at all entries that Go can hold. -/
namespace Go.Proofs.Ytdkokfnnebdppaa.Pure
open Go Go.RowKit Go.Proofs.Ytdkokfnnebdppaa.P Go.Proofs.YtdkokfnnebdppaaW.PrintWords Go.Proofs.YtdkokfnnebdppaaW.PrintLast Go.Proofs.YtdkokfnnebdppaaW.PrintMore Go.Proofs.Ytdkokfnnebdppaa.Lem

def noF : Int × Int × Int × Int × List Int × Bool × Bool × Bool := (0, 0, 0, 0, [], false, false, false)
def t8 (a : Ag) (b c : Bool) : Int × Int × Int × Int × List Int × Bool × Bool × Bool := (a.c, a.s, a.mi, a.ma, a.h, a.f, b, c)
theorem spec_l0 (l : List En) (hl : l.length ≤ 1048576) : ∀ (d i k : Nat), i + d = l.length → 1 ≤ i + d →
    (SameFrom l i → spec_FoldEntries.l0 (k + d + 1) l l (l.length : Int) (i : Int) = ((spec_l5Fold.f k l).bind fun t => some (t.1, t.2.1, t.2.2.1, t.2.2.2.1, t.2.2.2.2.1, t.2.2.2.2.2.1, t.2.2.2.2.2.2, true))) ∧
    (¬ SameFrom l i → spec_FoldEntries.l0 (k + d + 1) l l (l.length : Int) (i : Int) = some noF) := by
  intro d
  induction d with
  | zero =>
    intro i k hi h1
    rw [spec_FoldEntries.l0, if_neg (by omega)]
    exact ⟨fun _ => rfl, fun h => absurd (fun j hj hj2 => absurd hj (by omega)) h⟩
  | succ d ih =>
    intro i k hi h1
    obtain ⟨i1, i2⟩ := ih (i + 1) k (by omega) (by omega)
    rw [spec_FoldEntries.l0, if_pos (by omega), if_pos (by omega), if_pos (by omega), if_pos (by omega), wrapS (n := l.length) (by omega) (by omega)]
    by_cases c : (en l i).f0.toList = (en l 0).f0.toList
    · rw [if_pos (show (rd_T45 l (i : Int)).f0.toList = (rd_T45 l 0).f0.toList from c)]
      exact ⟨fun h => i1 (fun j hj hj2 => h j hj (by omega)), fun h => i2 (fun h' => h (fun j hj hj2 => by
        by_cases e : j = i
        · subst e; exact c
        · exact h' j hj (by omega)))⟩
    · rw [if_neg (show ¬ (rd_T45 l (i : Int)).f0.toList = (rd_T45 l 0).f0.toList from c)]
      exact ⟨fun h => absurd (h i (by omega) (Nat.le_refl _)) c, fun _ => rfl⟩
theorem fold_both (l : List En) (hl : l.length ≤ 1048576) {k : Nat} (hk : 2000000000000 < k) :
    ∃ (a : Ag) (b c : Bool), spec_FoldEntries.f k l = some (t8 a b c) ∧ impl_FoldEntries.f k l = some (t8 a b c) ∧ a.h.length ≤ 1048576 := by
  obtain ⟨g, hg1, hg2, hgg⟩ := (spec_goodEs l hl hk).both (impl_goodEs l hl (k := k) (by omega))
  unfold spec_FoldEntries.f impl_FoldEntries.f
  rw [hg1, hg2, Option.bind_some, Option.bind_some]
  by_cases hg : g = true
  · have hG := hgg.1 hg
    rw [if_pos hg, if_pos hg]
    obtain ⟨fi1, fi2⟩ := impl_fold_ok hl (goodEs_all hG) (k := k) (by omega)
    have key : ∀ q, 3000000 < q → ∃ (a : Ag) (b : Bool), spec_l5Fold.f q l = some (a.t7 b) ∧ impl_fold.f k l = some (a.t7 b) ∧ a.h.length ≤ 1048576 := by
      intro q hq
      obtain ⟨fs1, fs2⟩ := spec_fold_ok hl (goodEs_all hG) hq
      by_cases c : isN l
      · exact ⟨_, _, fs1 c, fi1 c, by decide⟩
      · exact ⟨_, _, fs2 c, fi2 c, by rw [(foldFrom_good hl (goodEs_all hG)).len]; decide⟩
    by_cases c0 : l.length = 0
    · obtain ⟨q, rfl⟩ : ∃ q, k = q + 1 := ⟨k - 1, by omega⟩
      obtain ⟨a, b, h1, h2, h3⟩ := key q (by omega)
      rw [if_neg (by omega), spec_FoldEntries.l0, if_neg (by omega), h1, h2, Option.bind_some]
      exact ⟨a, b, true, rfl, rfl, h3⟩
    · obtain ⟨q, rfl⟩ : ∃ q, k = q + l.length + 1 := ⟨k - l.length - 1, by omega⟩
      obtain ⟨a, b, h1, h2, h3⟩ := key q (by omega)
      obtain ⟨s1, s2⟩ := spec_l0 l hl l.length 0 q (by omega) (by omega)
      have e1 : wrap64 ((l.length : Int) - 1) = ((l.length - 1 : Nat) : Int) := by rw [w64 (by omega) (by omega)]; omega
      have hs := same_last hl hG (by omega)
      rw [if_pos (by omega), if_pos (by omega), e1, if_pos (by omega), if_pos (by omega), h2]
      by_cases c : (en l 0).f0.toList = (en l (l.length - 1)).f0.toList
      · have s1' : spec_FoldEntries.l0 (q + l.length + 1) l l (l.length : Int) 0 = _ := s1 (hs.1 c)
        rw [if_pos (show (rd_T45 l 0).f0.toList = (rd_T45 l ((l.length - 1 : Nat) : Int)).f0.toList from c), s1', h1, Option.bind_some]
        exact ⟨a, b, true, rfl, rfl, h3⟩
      · have s2' : spec_FoldEntries.l0 (q + l.length + 1) l l (l.length : Int) 0 = _ := s2 (fun h => c (hs.2 h))
        rw [if_neg (show ¬ (rd_T45 l 0).f0.toList = (rd_T45 l ((l.length - 1 : Nat) : Int)).f0.toList from c), s2']
        exact ⟨noneA, false, false, rfl, rfl, by decide⟩
  · rw [if_neg hg, if_neg hg]
    exact ⟨noneA, false, false, rfl, rfl, by decide⟩
theorem FnExactFoldEntries (l : List Le) (hg : l.length ≤ maxLen ∧ ∀ e ∈ l, GEntry e) : ∃ k, laws_FnExactFoldEntries.Ok k l := by
  have hl : l.length ≤ 9223372036854775807 := maxLen_le hg.1
  have hh : ∀ e ∈ l, HeldE e := fun e he => heldE (hg.2 e he)
  obtain ⟨k, hk⟩ : ∃ k, 2000000000000 < k := ⟨2000000000001, by omega⟩
  refine ⟨k, ?_⟩
  unfold laws_FnExactFoldEntries.Ok
  obtain ⟨r, hr, hr2⟩ := szEntryS_ok hl hh (x := 1048576) (by decide) (by decide) (k := k) (by omega)
  refine ⟨r, hr, ?_⟩
  rcases hr2 with hn | ⟨hn, _, hl', hs'⟩
  · exact Or.inl hn
  · refine Or.inr ⟨hn, ?_⟩
    have hlm : (l.map cvE).length ≤ 1048576 := by rw [List.length_map]; exact hl'
    have hsm := rowsE_map hs'
    have ht := toEntryS_ok hl' hs' (k := k) (by omega)
    obtain ⟨a, b, c, h1, h2, hl2⟩ := fold_both (l.map cvE) hlm hk
    have e1 := endE_le (l.map cvE) 1 hsm
    have hm : laws_markAgg.f k a.c a.s a.mi a.ma a.h a.f 1 = some (1 + (a.h.length : Int), markInts a.h 1) := by
      unfold laws_markAgg.f
      rw [markIntS_ok _ (by decide) (by omega) (by omega) (by omega), Option.bind_some]
    have hd : laws_heldAgg.f k a.c a.s a.mi a.ma (markInts a.h 1) a.f 1 = some (1 + (a.h.length : Int)) := by
      unfold laws_heldAgg.f
      rw [heldIntS_ok _ (by decide) (by omega) (by omega) (by omega), Option.bind_some, if_neg (by omega)]
    exact ⟨l.map cvE, a.c, a.s, a.mi, a.ma, a.h, a.f, b, c, _, _, _, _, ht, h1, h2, eqAgg_ok _ _ _ _ hl2 _ (by omega), eqEntryS_ok hlm hsm (by omega), markEntryS_ok _ (by decide) (by decide) hlm hsm (by omega), hm, hd, by omega, by omega⟩
end Go.Proofs.Ytdkokfnnebdppaa.Pure

/- The row of laws.FnExactFoldEntries: its arguments opened, the walk, and the row. -/
namespace Go.Proofs.Ytdkokfnnebdppaa.fnExactFoldEntries
open Go Go.ChangeShapes Go.WideShapes Go.ChangeAt Go.RowKit Go.Proofs.Ytdkokfnnebdppaa.P Go.Proofs.YtdkokfnnebdppaaW.PrintWords Go.Proofs.YtdkokfnnebdppaaW.PrintLast Go.Proofs.YtdkokfnnebdppaaW.PrintMore Go.Proofs.Ytdkokfnnebdppaa.Lem
set_option linter.unusedVariables false
theorem own : ownKnob Try.prog.godebug = none := by kernel_rfl
theorem laidOut : laidOutB Try.prog = true := by kernel_rfl
set_option maxRecDepth 100000 in
theorem lifted (os : Os) (started : os.Started) (H : Type) (enc : TypeId × Value → H) :
    ReturnsInHanded {} Try.checked os 3 .any (Rows.fnExactFoldEntriesSpec.pre6 enc Try.prog Try.f3 Rows.fnExactFoldEntriesRow.domain false) (Rows.fnExactFoldEntriesSpec.post enc Try.prog Try.f3 false true false false) := by
  refine returnsInHanded_of_change_sized (C := Try.checked) own started (by kernel_rfl) Try.func3
    (ChangeSpec.witness6 (enc := enc) (C := Try.checked) false ⟨#[], #[.slice none 0 0], []⟩ 8 (by kernel_rfl) (by kernel_rfl) (by kernel_rfl) (by kernel_rfl)) ?_
  intro W base args ds gs before hval0 hW hcnd hsz0 _
  have hval : ∀ (j : Nat) t v, Try.f3.params[j]? = some t → args[j]? = some v → Value.okWide Try.prog W .any base t v := hval0
  have hW' := hW
  obtain ⟨p, q, hA0, hV, rfl, hfz, hnd⟩ := hW
  have hA : DataW.TrodAll enc Try.prog W 0 (fun _ => true) true Try.f3.params.toList args.toList ds p := hA0
  rw [Try.params3] at hA hval
  obtain ⟨v0, vs0, d0, ds0, p0, q0, hargs, rfl, rfl, h0, r0⟩ := trodAll_cons hA
  obtain ⟨rfl, rfl, rfl⟩ := trodAll_nil r0
  obtain rfl : args = #[v0] := by cases args; simp_all
  obtain ⟨rfl, rfl⟩ := trodVars_none hV
  have k0 := h0
  have lt0 : ∀ x ∈ p0, x.block < W.heap.size := by obtain ⟨m, hm⟩ := k0; exact DataW.trod_lt m _ _ _ hm
  have hO0 : Opens enc Try.prog W 0 (fun _ => true) true (Kd.slice 41 k41) 22 _ := (opens_slice 41 Try.underlying22 (opens_iso (fun x : S41 => (x.f0, x.f1, x.f2, x.f3)) (fun a => ⟨a.1, a.2.1, a.2.2.1, a.2.2.2⟩) (fun _ => rfl) (opens_struct Try.underlying41 (by kernel_rfl) (opensF_cons (by kernel_rfl) (opens_string Try.underlying9) (opensF_cons (by kernel_rfl) (opens_int Try.underlying3) (opensF_cons (by kernel_rfl) (opens_int Try.underlying3) (opensF_one (by kernel_rfl) (opens_iso (fun x : S39 => (x.f0, x.f1, x.f2, x.f3, x.f4, x.f5)) (fun a => ⟨a.1, a.2.1, a.2.2.1, a.2.2.2.1, a.2.2.2.2.1, a.2.2.2.2.2⟩) (fun _ => rfl) (opens_struct Try.underlying39 (by kernel_rfl) (opensF_cons (by kernel_rfl) (opens_int Try.underlying3) (opensF_cons (by kernel_rfl) (opens_int Try.underlying3) (opensF_cons (by kernel_rfl) (opens_int Try.underlying3) (opensF_cons (by kernel_rfl) (opens_int Try.underlying3) (opensF_cons (by kernel_rfl) (opens_slice 3 Try.underlying24 (opens_int Try.underlying3) (by kernel_rfl)) (opensF_one (by kernel_rfl) (opens_bool Try.underlying4))))))))))))))) (by kernel_rfl))
  obtain ⟨A0, n0, c0, rfl⟩ := okWide_slice Try.underlying22 (hval 0 22 v0 rfl rfl)
  obtain ⟨l0, ⟨A0', c0', e0, hc0, hC0⟩, hg0⟩ := hO0 _ _ _ h0.choose_spec
  obtain ⟨rfl, rfl, rfl⟩ : A0 = A0' ∧ n0 = l0.length ∧ c0 = c0' := by
    have e1 : (Value.slice A0 n0 c0).cells.toList = [.slice A0' l0.length c0'] := e0
    simpa [Value.cells] using e1
  clear hA0 hval0
  obtain ⟨k, hk⟩ := Pure.FnExactFoldEntries l0 hg0
  refine (laws_FnExactFoldEntries.calls (k := k) (l0 := l0) (A0 := A0) (c0 := c0) (hr0 := hC0) (hc0 := hc0) (w := W) (h := hk)).mono fun e W' ⟨he, bel⟩ => ?_
  subst he
  exact ⟨_, rfl, _, _, _, [], _, [], hW', trodAll_mk1 (shut_bool Try.underlying4 _), (trodAll_cons_mk (Below.trod laidOut (by kernel_rfl) (of_decide_eq_true (by kernel_rfl)) k0 bel lt0) trodAll_mk0), rfl, bel.frame _, fun h => by cases h⟩

theorem said : Rows.FnExactFoldEntriesSaid :=
  OpenClaim.holds_of_wide 3 Try.f3 rfl rfl rfl rfl rfl rfl rfl ⟨rfl, rfl, rfl, rfl, rfl⟩ rfl rfl rfl rfl rfl (by kernel_rfl) Try.func3 (by kernel_rfl)
    (of_decide_eq_true (by kernel_rfl)) (by unfold Func.isWrapper; first | (rw [if_pos (by decide +kernel)]; kernel_rfl) | (rw [if_neg (of_decide_eq_false (by kernel_rfl))]; exact ⟨rfl, rfl⟩))
    (fun os started H enc _ => lifted os started H enc)
theorem proved : Rows.FnExactFoldEntriesSaid := said
#print axioms proved
end Go.Proofs.Ytdkokfnnebdppaa.fnExactFoldEntries
namespace Go.Proofs.Ytdkokfnnebdppaa
/-- The tied card, under a short name, for the claim. -/
theorem fnExactFoldEntries_holds : Rows.FnExactFoldEntriesSaid := fnExactFoldEntries.proved
end Go.Proofs.Ytdkokfnnebdppaa
