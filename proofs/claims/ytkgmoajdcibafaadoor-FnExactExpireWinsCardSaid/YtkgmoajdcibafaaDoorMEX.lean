/- The statement's own text and the last of the walks that it uses. -/
import Derived.Test.YtkgmoajdcibafaaDoorRows
import Derived.Test.YtkgmoajdcibafaaDoorTie
import Derived.Test.YtkgmoajdcibafaaDoorCards
import Derived.WalkKit
import Derived.ProofKit
import Derived.OpenShut
import Derived.ChangeOld
import Derived.Below
import Derived.Handed
import Derived.Lay
import Derived.MakeChecks
import Derived.LaidHandle
import Derived.Lib.LaidTab
import Derived.Stop.LaidErr
import Derived.JoinedOf
import Derived.SevenTiedAt
import Derived.RowKit
import Derived.Test.YtkgmoajdcibafaaDoorMEX5

/- Boards that are handed in: their measure, their copy, and that they are equal to themselves. -/
namespace Go.Proofs.YtkgmoajdcibafaaDoor.Lem
open Go Go.RowKit Go.Proofs.YtkgmoajdcibafaaDoor.P Go.Proofs.YtkgmoajdcibafaaDoorW.PrintWords Go.Proofs.YtkgmoajdcibafaaDoorW.PrintLast Go.Proofs.YtkgmoajdcibafaaDoorW.PrintMore

abbrev Lw := S116
theorem rdLw_get {l : List Lw} {i : Nat} (h : i < l.length) : rd_T116 l (i : Int) = l[i] := by
  unfold rd_T116
  rw [Int.toNat_natCast, List.getD_eq_getElem?_getD, List.getElem?_eq_getElem h]
  rfl
/-- A window that Go can hold. -/
def HeldW (w : Lw) : Prop := w.f0.f0.size ≤ 9223372036854775807 ∧ w.f0.f1.length ≤ 9223372036854775807 ∧ Held w.f0.f1 ∧ w.f1.f4.length ≤ 9223372036854775807
/-- A window that is no longer than the bound. -/
def Short (w : Lw) : Prop := w.f0.f1.length ≤ 1048576 ∧ w.f1.f4.length ≤ 1048576

theorem heldW {w : Lw} (h : GWin w) : HeldW w := ⟨maxLen_le h.1.1, maxLen_le h.1.2.1.1, fun t ht => ⟨maxLen_le (h.1.2.1.2 t ht).1, maxLen_le (h.1.2.1.2 t ht).2⟩, maxLen_le h.2.1.2.2.2.2.1.1⟩
theorem szWin_ok {w : Lw} (hw : HeldW w) {x : Int} (h0 : 0 ≤ x) (h1 : x ≤ 1048576) {k : Nat} (hk : 1048577 < k) : ∃ r, laws_szWin.f k w.f0.f0 w.f0.f1 w.f0.f2 w.f1.f0 w.f1.f1 w.f1.f2 w.f1.f3 w.f1.f4 w.f1.f5 w.f2 w.f3 x = some r ∧ (r < 0 ∨ (0 ≤ r ∧ r ≤ x ∧ Short w)) := by
  obtain ⟨hm, hl, hh, ha⟩ := hw
  unfold laws_szWin.f
  obtain ⟨r, hr, hr2⟩ := szKey_ok hm hl hh w.f0.f2 h0 h1 (k := k) (.inr (by omega))
  rw [hr, Option.bind_some]
  by_cases hn : r < 0
  · exact ⟨-1, by rw [if_pos hn], .inl (by omega)⟩
  · obtain ⟨r2, hq, hq2⟩ := szAgg_ok w.f1.f0 w.f1.f1 w.f1.f2 w.f1.f3 ha w.f1.f5 (x := r) (by omega) (by omega)
    rw [if_neg hn, hq, Option.bind_some]
    by_cases hn2 : r2 < 0
    · exact ⟨-1, by rw [if_pos hn2], .inl (by omega)⟩
    · exact ⟨r2, by rw [if_neg hn2], .inr ⟨by omega, by omega, by omega, by omega⟩⟩
theorem szWinS_l0 (l : List Lw) (hl : l.length ≤ 1048576) (hh : ∀ w ∈ l, HeldW w) : ∀ (d i k : Nat) (x : Int), i + d = l.length → d + 1048580 < k → 0 ≤ x → x ≤ 1048576 → ∃ r, laws_szWinS.l0 k l x (i : Int) = some r ∧ (r < 0 ∨ (0 ≤ r ∧ r ≤ x ∧ ∀ w ∈ l.drop i, Short w)) := by
  intro d
  induction d with
  | zero =>
    intro i k x hi hk h0 h1
    obtain ⟨k, rfl⟩ : ∃ q, k = q + 1 := ⟨k - 1, by omega⟩
    exact ⟨x, by rw [laws_szWinS.l0, if_neg (by omega)], .inr ⟨h0, Int.le_refl _, fun w hw => by rw [List.drop_of_length_le (by omega)] at hw; simp at hw⟩⟩
  | succ d ih =>
    intro i k x hi hk h0 h1
    obtain ⟨k, rfl⟩ : ∃ q, k = q + 1 := ⟨k - 1, by omega⟩
    have hlt : i < l.length := by omega
    obtain ⟨r, hr, hr2⟩ := szWin_ok (hh l[i] (List.getElem_mem hlt)) h0 h1 (k := k) (by omega)
    rw [laws_szWinS.l0, if_pos (by omega), if_pos (by omega), rdLw_get hlt, hr, Option.bind_some]
    by_cases hn : r < 0
    · exact ⟨-1, by rw [if_pos hn], .inl (by omega)⟩
    · rw [if_neg hn, show wrap64 ((i : Int) + 1) = ((i + 1 : Nat) : Int) from by rw [w64 (by omega) (by omega)]; omega]
      have hr3 : 0 ≤ r ∧ r ≤ x ∧ Short l[i] := by
        rcases hr2 with h | h
        · exact absurd h hn
        · exact h
      obtain ⟨r2, hq, hq2⟩ := ih (i + 1) k r (by omega) (by omega) (by omega) (by omega)
      refine ⟨r2, hq, ?_⟩
      rcases hq2 with h | ⟨h, h', h''⟩
      · exact .inl h
      · refine .inr ⟨h, by omega, fun w hw => ?_⟩
        rw [drop_get hlt] at hw
        rcases List.mem_cons.1 hw with rfl | hw
        · exact hr3.2.2
        · exact h'' w hw
theorem szBoard_ok (a b c : Int) {l : List Lw} (hl : l.length ≤ 9223372036854775807) (hh : ∀ w ∈ l, HeldW w) {k : Nat} (hk : 2097160 < k) : ∃ r, laws_szBoard.f k a b c l 1048576 = some r ∧ (r < 0 ∨ (0 ≤ r ∧ l.length ≤ 1048576 ∧ ∀ w ∈ l, Short w)) := by
  unfold laws_szBoard.f laws_szWinS.f
  rw [show wrap64 (1048576 - (l.length : Int)) = 1048576 - (l.length : Int) from w64 (by omega) (by omega)]
  by_cases h : 1048576 - (l.length : Int) < 0
  · exact ⟨-1, by rw [if_pos h, Option.bind_some, if_pos (by decide)], .inl (by omega)⟩
  · rw [if_neg h]
    obtain ⟨r, hr, hr2⟩ := szWinS_l0 l (by omega) hh l.length 0 k (1048576 - (l.length : Int)) (by omega) (by omega) (by omega) (by omega)
    rw [List.drop_zero] at hr2
    have hr' : laws_szWinS.l0 k l (1048576 - (l.length : Int)) 0 = some r := hr
    rw [hr', Option.bind_some]
    by_cases hn : r < 0
    · exact ⟨-1, by rw [if_pos hn], .inl (by omega)⟩
    · refine ⟨r, by rw [if_neg hn], ?_⟩
      rcases hr2 with h2 | ⟨h2, _, h3⟩
      · exact .inl h2
      · exact .inr ⟨h2, by omega, h3⟩

/-- The window as the program has it. -/
def cvW (w : Lw) : Wn := ⟨⟨w.f0.f0, w.f0.f1.map cvT, w.f0.f2⟩, ⟨w.f1.f0, w.f1.f1, w.f1.f2, w.f1.f3, w.f1.f4, w.f1.f5⟩, w.f2, w.f3⟩
theorem toWin_ok {w : Lw} (hw : Short w) {k : Nat} (hk : 1048577 < k) : laws_toWin.f k w.f0.f0 w.f0.f1 w.f0.f2 w.f1.f0 w.f1.f1 w.f1.f2 w.f1.f3 w.f1.f4 w.f1.f5 w.f2 w.f3 =
    some (w.f0.f0, w.f0.f1.map cvT, w.f0.f2, w.f1.f0, w.f1.f1, w.f1.f2, w.f1.f3, w.f1.f4, w.f1.f5, w.f2, w.f3) := by
  unfold laws_toWin.f
  rw [toKey_ok w.f0.f0 hw.1 w.f0.f2 (by have := hw.1; omega), Option.bind_some, toAgg_ok w.f1.f0 w.f1.f1 w.f1.f2 w.f1.f3 hw.2 w.f1.f5 (by omega), Option.bind_some]
theorem toWinS_l0 {l : List Lw} (hl : l.length ≤ 1048576) (hh : ∀ w ∈ l, Short w) : ∀ (d k i : Nat), i + d = l.length → d + 1048580 < k → laws_toWinS.l0 k l ((l.take i).map cvW ++ List.replicate d z37) (i : Int) = some (l.map cvW) := by
  intro d
  induction d with
  | zero =>
    intro k i hi hk
    obtain ⟨k, rfl⟩ : ∃ q, k = q + 1 := ⟨k - 1, by omega⟩
    rw [laws_toWinS.l0, if_neg (by omega), List.take_of_length_le (by omega), List.replicate_zero, List.append_nil]
  | succ d ih =>
    intro k i hi hk
    obtain ⟨k, rfl⟩ : ∃ q, k = q + 1 := ⟨k - 1, by omega⟩
    have hlt : i < l.length := by omega
    have hnext := ih k (i + 1) (by omega) (by omega)
    rw [laws_toWinS.l0, if_pos (by omega), if_pos (by omega), rdLw_get hlt, toWin_ok (hh _ (List.getElem_mem hlt)) (by omega)]
    rw [Option.bind_some, if_pos (by rw [List.length_append, List.length_map, List.length_take, List.length_replicate]; omega), Int.toNat_natCast, show wrap64 ((i : Int) + 1) = ((i + 1 : Nat) : Int) from by rw [w64 (by omega) (by omega)]; omega]
    have e := set_copy cvW z37 (d := d) hlt
    show laws_toWinS.l0 k l (((l.take i).map cvW ++ List.replicate (d + 1) z37).set i (cvW l[i])) _ = _
    rw [e]
    exact hnext
theorem toBoard_ok (a b c : Int) {l : List Lw} (hl : l.length ≤ 1048576) (hh : ∀ w ∈ l, Short w) {k : Nat} (hk : 2097160 < k) : laws_toBoard.f k a b c l = some (a, b, c, l.map cvW) := by
  unfold laws_toBoard.f laws_toWinS.f
  rw [if_pos (by omega), if_pos (by rw [Int.toNat_natCast]; omega), Int.toNat_natCast]
  have h := toWinS_l0 hl hh l.length k 0 (by omega) (by omega)
  rw [List.take_zero, List.map_nil, List.nil_append] at h
  have h' : laws_toWinS.l0 k l (List.replicate l.length z37) 0 = some (l.map cvW) := h
  rw [h', Option.bind_some]

theorem eqWin_ok {w : Wn} (h1 : w.f0.f1.length ≤ 1048576) (h2 : w.f1.f4.length ≤ 1048576) {k : Nat} (hk : 1048577 < k) :
    laws_eqWin.f k w.f0.f0 w.f0.f1 w.f0.f2 w.f1.f0 w.f1.f1 w.f1.f2 w.f1.f3 w.f1.f4 w.f1.f5 w.f2 w.f3 w.f0.f0 w.f0.f1 w.f0.f2 w.f1.f0 w.f1.f1 w.f1.f2 w.f1.f3 w.f1.f4 w.f1.f5 w.f2 w.f3 = some true := by
  unfold laws_eqWin.f
  rw [eqKey_ok w.f0.f0 h1 w.f0.f2 (by omega), Option.bind_some, if_pos rfl, eqAgg_ok w.f1.f0 w.f1.f1 w.f1.f2 w.f1.f3 h2 w.f1.f5 (by omega), Option.bind_some, if_pos rfl, if_pos rfl, if_neg (by cases w.f3 <;> decide)]
theorem eqWinS_l0 (l : List Wn) (hl : l.length ≤ 1048576) (hh : ∀ w ∈ l, w.f0.f1.length ≤ 1048576 ∧ w.f1.f4.length ≤ 1048576) : ∀ (d i k : Nat), i + d = l.length → d + 1048580 < k → laws_eqWinS.l0 k l l (i : Int) = some true := by
  intro d
  induction d with
  | zero =>
    intro i k hi hk
    obtain ⟨k, rfl⟩ : ∃ q, k = q + 1 := ⟨k - 1, by omega⟩
    rw [laws_eqWinS.l0, if_neg (by omega)]
  | succ d ih =>
    intro i k hi hk
    obtain ⟨k, rfl⟩ : ∃ q, k = q + 1 := ⟨k - 1, by omega⟩
    have hlt : i < l.length := by omega
    have hnext := ih (i + 1) k (by omega) (by omega)
    obtain ⟨q1, q2⟩ := hh l[i] (List.getElem_mem hlt)
    rw [laws_eqWinS.l0, if_pos (by omega), if_pos (by omega), if_pos (by omega), rdW_get hlt, eqWin_ok q1 q2 (by omega), Option.bind_some, if_pos rfl, show wrap64 ((i : Int) + 1) = ((i + 1 : Nat) : Int) from by rw [w64 (by omega) (by omega)]; omega]
    exact hnext
theorem eqBoard_ok (a b c : Int) {l : List Wn} (hl : l.length ≤ 1048576) (hh : ∀ w ∈ l, w.f0.f1.length ≤ 1048576 ∧ w.f1.f4.length ≤ 1048576) {k : Nat} (hk : 2097160 < k) : laws_eqBoard.f k a b c l a b c l = some true := by
  unfold laws_eqBoard.f laws_eqWinS.f
  have h : laws_eqWinS.l0 k l l 0 = some true := eqWinS_l0 l hl hh l.length 0 k (by omega) (by omega)
  rw [if_pos rfl, if_pos rfl, if_pos rfl, if_pos rfl, h, Option.bind_some, if_pos rfl]

end Go.Proofs.YtkgmoajdcibafaaDoor.Lem

/- Marks in rows of numbers, written and told again. No conditions. -/
namespace Go.Proofs.YtkgmoajdcibafaaDoor.Lem
open Go Go.RowKit Go.Proofs.YtkgmoajdcibafaaDoor.P Go.Proofs.YtkgmoajdcibafaaDoorW.PrintWords Go.Proofs.YtkgmoajdcibafaaDoorW.PrintLast Go.Proofs.YtkgmoajdcibafaaDoorW.PrintMore

def markInts : List Int → Int → List Int
  | [], _ => []
  | _ :: r, x => x :: markInts r (x + 1)
theorem markInts_length : ∀ (l : List Int) (x : Int), (markInts l x).length = l.length
  | [], _ => rfl
  | _ :: r, x => by rw [markInts, List.length_cons, List.length_cons, markInts_length r]
theorem markIntS_l0 : ∀ (rest pre : List Int) (k : Nat) (x : Int), 0 ≤ x → x + rest.length < 1000000000000000000 → pre.length + rest.length ≤ 1000000000 → rest.length < k →
    laws_markIntS.l0 k (pre ++ rest) x (pre.length : Int) = some (x + rest.length, pre ++ markInts rest x)
  | [], pre, k, x, h0, h1, h2, hk => by
    obtain ⟨k, rfl⟩ : ∃ q, k = q + 1 := ⟨k - 1, by omega⟩
    rw [laws_markIntS.l0, if_neg (by rw [List.append_nil]; omega), List.append_nil, markInts, List.append_nil]
    simp
  | a :: rest, pre, k, x, h0, h1, h2, hk => by
    obtain ⟨k, rfl⟩ : ∃ q, k = q + 1 := ⟨k - 1, by omega⟩
    rw [List.length_cons] at h1 h2 hk
    have ih := markIntS_l0 rest (pre ++ [x]) k (x + 1) (by omega) (by omega) (by rw [List.length_append, List.length_singleton]; omega) (by omega)
    rw [laws_markIntS.l0, if_pos (by rw [List.length_append, List.length_cons]; omega), if_pos (by omega), Int.toNat_natCast, set_mid _ _ _ _ rfl, w64 (by omega) (by omega),
      show wrap64 ((pre.length : Int) + 1) = ((pre ++ [x]).length : Int) from by rw [w64 (by omega) (by omega), List.length_append, List.length_singleton]; omega]
    rw [List.append_assoc, List.singleton_append] at ih
    rw [ih, markInts, List.length_cons, List.append_assoc, List.singleton_append]
    congr 2
    omega
theorem markIntS_ok (l : List Int) {k : Nat} {x : Int} (h0 : 0 ≤ x) (h1 : x + l.length < 1000000000000000000) (h2 : l.length ≤ 1000000000) (hk : l.length < k) : laws_markIntS.f k l x = some (x + l.length, markInts l x) := markIntS_l0 l [] k x h0 h1 (by simpa using h2) hk
theorem heldIntS_l0 : ∀ (rest pre : List Int) (k : Nat) (x : Int), 0 ≤ x → x + rest.length < 1000000000000000000 → pre.length + rest.length ≤ 1000000000 → rest.length < k →
    laws_heldIntS.l0 k (pre ++ markInts rest x) x (pre.length : Int) = some (x + rest.length)
  | [], pre, k, x, h0, h1, h2, hk => by
    obtain ⟨k, rfl⟩ : ∃ q, k = q + 1 := ⟨k - 1, by omega⟩
    rw [laws_heldIntS.l0, markInts, List.append_nil, if_neg (by omega)]
    simp
  | a :: rest, pre, k, x, h0, h1, h2, hk => by
    obtain ⟨k, rfl⟩ : ∃ q, k = q + 1 := ⟨k - 1, by omega⟩
    rw [List.length_cons] at h1 h2 hk
    have ih := heldIntS_l0 rest (pre ++ [x]) k (x + 1) (by omega) (by omega) (by rw [List.length_append, List.length_singleton]; omega) (by omega)
    rw [List.append_assoc, List.singleton_append] at ih
    rw [laws_heldIntS.l0, markInts, if_pos (by rw [List.length_append, List.length_cons]; omega), if_pos (by omega), show rd (pre ++ x :: markInts rest (x + 1)) (pre.length : Int) = x from getD_mid _ _ _ _ rfl, if_pos rfl, w64 (by omega) (by omega),
      show wrap64 ((pre.length : Int) + 1) = ((pre ++ [x]).length : Int) from by rw [w64 (by omega) (by omega), List.length_append, List.length_singleton]; omega, ih, List.length_cons]
    congr 1
    omega
theorem heldIntS_ok (l : List Int) {k : Nat} {x : Int} (h0 : 0 ≤ x) (h1 : x + l.length < 1000000000000000000) (h2 : l.length ≤ 1000000000) (hk : l.length < k) : laws_heldIntS.f k (markInts l x) x = some (x + l.length) := heldIntS_l0 l [] k x h0 h1 (by simpa using h2) hk
end Go.Proofs.YtkgmoajdcibafaaDoor.Lem

/- Marks as texts. No conditions. -/
namespace Go.Proofs.YtkgmoajdcibafaaDoor.Lem
open Go Go.RowKit Go.Proofs.YtkgmoajdcibafaaDoor.P Go.Proofs.YtkgmoajdcibafaaDoorW.PrintWords Go.Proofs.YtkgmoajdcibafaaDoorW.PrintLast Go.Proofs.YtkgmoajdcibafaaDoorW.PrintMore

def markTl : Nat → Int → ByteArray → ByteArray
  | 0, _, acc => (⟨#[109]⟩ : ByteArray) ++ acc
  | d + 1, x, acc => if x > 0 then markTl d (Int.tdiv x 10) ((strOfNums [(wrap64 (48 + (Int.tmod x 10))) % 256]) ++ acc) else (⟨#[109]⟩ : ByteArray) ++ acc
theorem markText_l0 : ∀ (d k : Nat) (x : Int) (acc : ByteArray), 0 ≤ x → x < 10 ^ d → x ≤ 9223372036854775807 → d < k → acc.size + d ≤ 1000 → laws_markText.l0 k x acc = some (markTl d x acc)
  | 0, k, x, acc, h0, h1, _, hk, ha => by
    obtain ⟨k, rfl⟩ : ∃ q, k = q + 1 := ⟨k - 1, by omega⟩
    have hx : ¬ x > 0 := by simp at h1; omega
    rw [laws_markText.l0, if_neg hx, if_pos (by omega)]
    rfl
  | d + 1, k, x, acc, h0, h1, hb, hk, ha => by
    obtain ⟨k, rfl⟩ : ∃ q, k = q + 1 := ⟨k - 1, by omega⟩
    rw [laws_markText.l0, markTl]
    by_cases hx : x > 0
    · have hz : (strOfNums [(wrap64 (48 + (Int.tmod x 10))) % 256]).size = 1 := rfl
      have e : Int.tdiv x 10 = x / 10 := Int.tdiv_eq_ediv_of_nonneg h0
      have hp : (10 : Int) ^ (d + 1) = 10 ^ d * 10 := Int.pow_succ 10 d
      have hlt : x / 10 < 10 ^ d := by omega
      have ih := markText_l0 d k (x / 10) ((strOfNums [(wrap64 (48 + (Int.tmod x 10))) % 256]) ++ acc) (by omega) hlt (by omega) (by omega) (by rw [ByteArray.size_append, hz]; omega)
      rw [if_pos hx, if_pos hx, Option.bind_some, hz, if_pos (by omega), e, w64 (by omega) (by omega)]
      exact ih
    · rw [if_neg hx, if_neg hx, if_pos (by omega)]
def markT (x : Int) : ByteArray := if x ≤ 0 then ⟨#[109, 48]⟩ else markTl 18 x ⟨#[]⟩
theorem markText_ok {x : Int} (h0 : 0 ≤ x) (h1 : x < 1000000000000000000) {k : Nat} (hk : 20 < k) : laws_markText.f k x = some (markT x) := by
  unfold laws_markText.f markT
  split
  · rfl
  · exact markText_l0 18 k x _ h0 (by simpa using h1) (by omega) (by omega) (by decide)
end Go.Proofs.YtkgmoajdcibafaaDoor.Lem

/- Marks that are written into rows, and told again: texts and tags. No conditions. -/
namespace Go.Proofs.YtkgmoajdcibafaaDoor.Lem
open Go Go.RowKit Go.Proofs.YtkgmoajdcibafaaDoor.P Go.Proofs.YtkgmoajdcibafaaDoorW.PrintWords Go.Proofs.YtkgmoajdcibafaaDoorW.PrintLast Go.Proofs.YtkgmoajdcibafaaDoorW.PrintMore

abbrev MTg := S123
def markTags : List MTg → Int → List MTg
  | [], _ => []
  | _ :: r, x => ⟨markT x, markT (x + 1)⟩ :: markTags r (x + 2)
theorem markTags_length : ∀ (l : List MTg) (x : Int), (markTags l x).length = l.length
  | [], _ => rfl
  | _ :: r, x => by rw [markTags, List.length_cons, List.length_cons, markTags_length r]
theorem rdTg_mid (pre : List MTg) (a : MTg) (rest : List MTg) : rd_T123 (pre ++ a :: rest) (pre.length : Int) = a := getD_mid _ _ _ _ rfl
theorem markTagS_l0 : ∀ (rest pre : List MTg) (k : Nat) (x : Int), 0 ≤ x → x + 2 * rest.length < 1000000000000000000 → pre.length + rest.length ≤ 1000000000 → rest.length + 21 < k →
    laws_markTagS.l0 k (pre ++ rest) x (pre.length : Int) = some (x + 2 * rest.length, pre ++ markTags rest x)
  | [], pre, k, x, h0, h1, h2, hk => by
    obtain ⟨k, rfl⟩ : ∃ q, k = q + 1 := ⟨k - 1, by omega⟩
    rw [laws_markTagS.l0, if_neg (by rw [List.append_nil]; omega), List.append_nil, markTags, List.append_nil]
    simp
  | a :: rest, pre, k, x, h0, h1, h2, hk => by
    obtain ⟨k, rfl⟩ : ∃ q, k = q + 1 := ⟨k - 1, by omega⟩
    rw [List.length_cons] at h1 h2 hk
    have ih := markTagS_l0 rest (pre ++ [⟨markT x, markT (x + 1)⟩]) k (x + 2) (by omega) (by omega) (by rw [List.length_append, List.length_singleton]; omega) (by omega)
    rw [laws_markTagS.l0, if_pos (by rw [List.length_append, List.length_cons]; omega), markText_ok h0 (by omega) (by omega), Option.bind_some, if_pos (by omega), Int.toNat_natCast, set_mid _ _ _ _ rfl, Option.bind_some,
      w64 (by omega) (by omega), markText_ok (by omega) (by omega) (by omega), Option.bind_some, set_mid _ _ _ _ rfl, rdTg_mid, rdTg_mid, w64 (x := x + 1 + 1) (by omega) (by omega), show wrap64 ((pre.length : Int) + 1) = ((pre ++ [(⟨markT x, markT (x + 1)⟩ : MTg)]).length : Int) from by rw [w64 (by omega) (by omega), List.length_append, List.length_singleton]; omega, show x + 1 + 1 = x + 2 from by omega]
    rw [List.append_assoc, List.singleton_append] at ih
    rw [ih, markTags, List.length_cons, List.append_assoc, List.singleton_append]
    congr 2
    omega
theorem markTagS_ok (l : List MTg) {k : Nat} {x : Int} (h0 : 0 ≤ x) (h1 : x + 2 * l.length < 1000000000000000000) (h2 : l.length ≤ 1000000000) (hk : l.length + 21 < k) : laws_markTagS.f k l x = some (x + 2 * l.length, markTags l x) := markTagS_l0 l [] k x h0 h1 (by simpa using h2) hk
theorem heldTagS_l0 : ∀ (rest pre : List MTg) (k : Nat) (x : Int), 0 ≤ x → x + 2 * rest.length < 1000000000000000000 → pre.length + rest.length ≤ 1000000000 → rest.length + 21 < k →
    laws_heldTagS.l0 k (pre ++ markTags rest x) x (pre.length : Int) = some (x + 2 * rest.length)
  | [], pre, k, x, h0, h1, h2, hk => by
    obtain ⟨k, rfl⟩ : ∃ q, k = q + 1 := ⟨k - 1, by omega⟩
    rw [laws_heldTagS.l0, markTags, List.append_nil, if_neg (by omega)]
    simp
  | a :: rest, pre, k, x, h0, h1, h2, hk => by
    obtain ⟨k, rfl⟩ : ∃ q, k = q + 1 := ⟨k - 1, by omega⟩
    rw [List.length_cons] at h1 h2 hk
    have ih := heldTagS_l0 rest (pre ++ [⟨markT x, markT (x + 1)⟩]) k (x + 2) (by omega) (by omega) (by rw [List.length_append, List.length_singleton]; omega) (by omega)
    rw [List.append_assoc, List.singleton_append] at ih
    rw [laws_heldTagS.l0, markTags, if_pos (by rw [List.length_append, List.length_cons]; omega), if_pos (by omega), markText_ok h0 (by omega) (by omega), Option.bind_some, rdTg_mid, if_pos rfl, w64 (by omega) (by omega), markText_ok (by omega) (by omega) (by omega), Option.bind_some, if_pos rfl,
      w64 (x := x + 1 + 1) (by omega) (by omega), show wrap64 ((pre.length : Int) + 1) = ((pre ++ [(⟨markT x, markT (x + 1)⟩ : MTg)]).length : Int) from by rw [w64 (by omega) (by omega), List.length_append, List.length_singleton]; omega, show x + 1 + 1 = x + 2 from by omega, ih, List.length_cons]
    congr 1
    omega
theorem heldTagS_ok (l : List MTg) {k : Nat} {x : Int} (h0 : 0 ≤ x) (h1 : x + 2 * l.length < 1000000000000000000) (h2 : l.length ≤ 1000000000) (hk : l.length + 21 < k) : laws_heldTagS.f k (markTags l x) x = some (x + 2 * l.length) := heldTagS_l0 l [] k x h0 h1 (by simpa using h2) hk
end Go.Proofs.YtkgmoajdcibafaaDoor.Lem

/- Marks that are written into windows, and told again. No conditions. -/
namespace Go.Proofs.YtkgmoajdcibafaaDoor.Lem
open Go Go.RowKit Go.Proofs.YtkgmoajdcibafaaDoor.P Go.Proofs.YtkgmoajdcibafaaDoorW.PrintWords Go.Proofs.YtkgmoajdcibafaaDoorW.PrintLast Go.Proofs.YtkgmoajdcibafaaDoorW.PrintMore

abbrev MWn := S37
def markWY (w : MWn) (x y z : Int) : MWn :=
  ⟨⟨markT x, markTags w.f0.f1 (x + 1), y⟩, ⟨y + 1, y + 1 + 1, y + 1 + 1 + 1, y + 1 + 1 + 1 + 1, markInts w.f1.f4 (y + 1 + 1 + 1 + 1 + 1), Int.tmod z 3 == 0⟩, z + 1, Int.tmod (z + 1 + 1) 3 == 0⟩
def yW (w : MWn) (x : Int) : Int := x + 1 + 2 * (w.f0.f1.length : Int)
def zW (w : MWn) (x : Int) : Int := yW w x + 1 + 1 + 1 + 1 + 1 + (w.f1.f4.length : Int)
def markW (w : MWn) (x : Int) : MWn := markWY w x (yW w x) (zW w x)
def markWs : List MWn → Int → List MWn
  | [], _ => []
  | w :: r, x => markW w x :: markWs r (zW w x + 1 + 1 + 1)
def endW : List MWn → Int → Int
  | [], x => x
  | w :: r, x => endW r (zW w x + 1 + 1 + 1)
theorem zW_eq (w : MWn) (x : Int) : zW w x = x + 6 + 2 * (w.f0.f1.length : Int) + (w.f1.f4.length : Int) := by unfold zW yW; omega
theorem markWs_length : ∀ (l : List MWn) (x : Int), (markWs l x).length = l.length
  | [], _ => rfl
  | _ :: r, x => by rw [markWs, List.length_cons, List.length_cons, markWs_length r]
/-- Windows with rows within the bound. -/
def Rows_ (l : List MWn) : Prop := ∀ w ∈ l, w.f0.f1.length ≤ 1048576 ∧ w.f1.f4.length ≤ 1048576
theorem endW_le : ∀ (l : List MWn) (x : Int), Rows_ l → x ≤ endW l x ∧ endW l x ≤ x + 4194304 * (l.length : Int)
  | [], x, _ => by simp [endW]
  | w :: r, x, h => by
    have ih := endW_le r (zW w x + 1 + 1 + 1) (fun v hv => h v (List.mem_cons_of_mem _ hv))
    have hw := h w List.mem_cons_self
    rw [endW, List.length_cons]
    rw [zW_eq] at ih ⊢
    omega
theorem rdWn_mid (pre : List MWn) (a : MWn) (rest : List MWn) : rd_T37 (pre ++ a :: rest) (pre.length : Int) = a := getD_mid _ _ _ _ rfl
theorem markWinS_l0 : ∀ (rest pre : List MWn) (k : Nat) (x : Int), 0 ≤ x → x + 4194304 * (rest.length : Int) < 1000000000000000000 → pre.length + rest.length ≤ 1000000000 → Rows_ rest → rest.length + 1048600 < k →
    laws_markWinS.l0 k (pre ++ rest) x (pre.length : Int) = some (endW rest x, pre ++ markWs rest x)
  | [], pre, k, x, h0, h1, h2, h3, hk => by
    obtain ⟨k, rfl⟩ : ∃ q, k = q + 1 := ⟨k - 1, by omega⟩
    rw [laws_markWinS.l0, if_neg (by rw [List.append_nil]; omega), List.append_nil, markWs, List.append_nil]
    rfl
  | a :: rest, pre, k, x, h0, h1, h2, h3, hk => by
    obtain ⟨k, rfl⟩ : ∃ q, k = q + 1 := ⟨k - 1, by omega⟩
    rw [List.length_cons] at h1 h2 hk
    obtain ⟨t1, t2⟩ := h3 a List.mem_cons_self
    have hz := zW_eq a x
    have ih := markWinS_l0 rest (pre ++ [markW a x]) k (zW a x + 1 + 1 + 1) (by omega) (by omega) (by rw [List.length_append, List.length_singleton]; omega) (fun v hv => h3 v (List.mem_cons_of_mem _ hv)) (by omega)
    rw [List.append_assoc, List.singleton_append] at ih
    rw [laws_markWinS.l0, if_pos (by rw [List.length_append, List.length_cons]; omega), if_pos (by omega), markText_ok h0 (by omega) (by omega), Option.bind_some, rdWn_mid,
      w64 (x := x + 1) (by omega) (by omega), markTagS_ok _ (by omega) (by omega) (by omega) (by omega), Option.bind_some]
    dsimp only
    rw [show x + 1 + 2 * (a.f0.f1.length : Int) = yW a x from rfl]
    have hy : yW a x = x + 1 + 2 * (a.f0.f1.length : Int) := rfl
    rw [w64 (x := yW a x + 1) (by omega) (by omega), w64 (x := yW a x + 1 + 1) (by omega) (by omega), w64 (x := yW a x + 1 + 1 + 1) (by omega) (by omega), w64 (x := yW a x + 1 + 1 + 1 + 1) (by omega) (by omega), w64 (x := yW a x + 1 + 1 + 1 + 1 + 1) (by omega) (by omega),
      markIntS_ok _ (by omega) (by omega) (by omega) (by omega), Option.bind_some]
    dsimp only
    rw [show yW a x + 1 + 1 + 1 + 1 + 1 + (a.f1.f4.length : Int) = zW a x from rfl, w64 (x := zW a x + 1) (by omega) (by omega), w64 (x := zW a x + 1 + 1) (by omega) (by omega), w64 (x := zW a x + 1 + 1 + 1) (by omega) (by omega), Int.toNat_natCast, set_mid _ _ _ _ rfl,
      show wrap64 ((pre.length : Int) + 1) = ((pre ++ [markW a x]).length : Int) from by rw [w64 (by omega) (by omega), List.length_append, List.length_singleton]; omega]
    rw [endW, markWs]
    refine Eq.trans ?_ (ih.trans ?_)
    · rfl
    · rw [List.append_assoc, List.singleton_append]
theorem markWinS_ok (l : List MWn) {k : Nat} {x : Int} (h0 : 0 ≤ x) (h1 : x ≤ 10) (h2 : l.length ≤ 1048576) (h3 : Rows_ l) (hk : 2097180 < k) : laws_markWinS.f k l x = some (endW l x, markWs l x) := markWinS_l0 l [] k x h0 (by omega) (by simpa using (by omega : l.length ≤ 1000000000)) h3 (by omega)
theorem heldWinS_l0 : ∀ (rest pre : List MWn) (k : Nat) (x : Int), 0 ≤ x → x + 4194304 * (rest.length : Int) < 1000000000000000000 → pre.length + rest.length ≤ 1000000000 → Rows_ rest → rest.length + 1048600 < k →
    laws_heldWinS.l0 k (pre ++ markWs rest x) x (pre.length : Int) = some (endW rest x)
  | [], pre, k, x, h0, h1, h2, h3, hk => by
    obtain ⟨k, rfl⟩ : ∃ q, k = q + 1 := ⟨k - 1, by omega⟩
    rw [laws_heldWinS.l0, markWs, List.append_nil, if_neg (by omega)]
    rfl
  | a :: rest, pre, k, x, h0, h1, h2, h3, hk => by
    obtain ⟨k, rfl⟩ : ∃ q, k = q + 1 := ⟨k - 1, by omega⟩
    rw [List.length_cons] at h1 h2 hk
    obtain ⟨t1, t2⟩ := h3 a List.mem_cons_self
    have hz := zW_eq a x
    have hy : yW a x = x + 1 + 2 * (a.f0.f1.length : Int) := rfl
    have ih := heldWinS_l0 rest (pre ++ [markW a x]) k (zW a x + 1 + 1 + 1) (by omega) (by omega) (by rw [List.length_append, List.length_singleton]; omega) (fun v hv => h3 v (List.mem_cons_of_mem _ hv)) (by omega)
    rw [List.append_assoc, List.singleton_append] at ih
    rw [laws_heldWinS.l0, markWs, if_pos (by rw [List.length_append, List.length_cons]; omega), if_pos (by omega), markText_ok h0 (by omega) (by omega), Option.bind_some, rdWn_mid, if_pos (show (markW a x).f0.f0.toList = (markT x).toList from rfl),
      w64 (x := x + 1) (by omega) (by omega), show (markW a x).f0.f1 = markTags a.f0.f1 (x + 1) from rfl, heldTagS_ok _ (by omega) (by omega) (by omega) (by omega), Option.bind_some, show x + 1 + 2 * (a.f0.f1.length : Int) = yW a x from rfl,
      if_neg (by omega), if_pos (show (markW a x).f0.f2 = yW a x from rfl), w64 (x := yW a x + 1) (by omega) (by omega), if_pos (show (markW a x).f1.f0 = yW a x + 1 from rfl), w64 (x := yW a x + 1 + 1) (by omega) (by omega), if_pos (show (markW a x).f1.f1 = yW a x + 1 + 1 from rfl),
      w64 (x := yW a x + 1 + 1 + 1) (by omega) (by omega), if_pos (show (markW a x).f1.f2 = yW a x + 1 + 1 + 1 from rfl), w64 (x := yW a x + 1 + 1 + 1 + 1) (by omega) (by omega), if_pos (show (markW a x).f1.f3 = yW a x + 1 + 1 + 1 + 1 from rfl), w64 (x := yW a x + 1 + 1 + 1 + 1 + 1) (by omega) (by omega),
      show (markW a x).f1.f4 = markInts a.f1.f4 (yW a x + 1 + 1 + 1 + 1 + 1) from rfl, heldIntS_ok _ (by omega) (by omega) (by omega) (by omega), Option.bind_some, show yW a x + 1 + 1 + 1 + 1 + 1 + (a.f1.f4.length : Int) = zW a x from rfl,
      if_neg (by omega), show (markW a x).f1.f5 = (Int.tmod (zW a x) 3 == 0) from rfl, bne_self_eq_false, if_neg (by decide), w64 (x := zW a x + 1) (by omega) (by omega), if_pos (show (markW a x).f2 = zW a x + 1 from rfl), w64 (x := zW a x + 1 + 1) (by omega) (by omega),
      show (markW a x).f3 = (Int.tmod (zW a x + 1 + 1) 3 == 0) from rfl, bne_self_eq_false, if_neg (by decide), w64 (x := zW a x + 1 + 1 + 1) (by omega) (by omega),
      show wrap64 ((pre.length : Int) + 1) = ((pre ++ [markW a x]).length : Int) from by rw [w64 (by omega) (by omega), List.length_append, List.length_singleton]; omega, ih, endW]
theorem heldWinS_ok (l : List MWn) {k : Nat} {x : Int} (h0 : 0 ≤ x) (h1 : x ≤ 10) (h2 : l.length ≤ 1048576) (h3 : Rows_ l) (hk : 2097180 < k) : laws_heldWinS.f k (markWs l x) x = some (endW l x) := heldWinS_l0 l [] k x h0 (by omega) (by simpa using (by omega : l.length ≤ 1000000000)) h3 (by omega)
end Go.Proofs.YtkgmoajdcibafaaDoor.Lem

/- Marks that are written into keys, and told again; keys that are equal. No conditions. -/
namespace Go.Proofs.YtkgmoajdcibafaaDoor.Lem
open Go Go.RowKit Go.Proofs.YtkgmoajdcibafaaDoor.P Go.Proofs.YtkgmoajdcibafaaDoorW.PrintWords Go.Proofs.YtkgmoajdcibafaaDoorW.PrintLast Go.Proofs.YtkgmoajdcibafaaDoorW.PrintMore
abbrev MKy := S32
def yK (w : MKy) (x : Int) : Int := x + 1 + 2 * (w.f1.length : Int)
def markKs : List MKy → Int → List MKy
  | [], _ => []
  | w :: r, x => ⟨markT x, markTags w.f1 (x + 1), yK w x⟩ :: markKs r (yK w x + 1)
def endK : List MKy → Int → Int
  | [], x => x
  | w :: r, x => endK r (yK w x + 1)
def RowsK (l : List MKy) : Prop := ∀ w ∈ l, w.f1.length ≤ 1048576
theorem endK_le : ∀ (l : List MKy) (x : Int), RowsK l → x ≤ endK l x ∧ endK l x ≤ x + 4194304 * (l.length : Int)
  | [], x, _ => by simp [endK]
  | w :: r, x, h => by
    have ih := endK_le r (yK w x + 1) (fun v hv => h v (List.mem_cons_of_mem _ hv))
    have hw := h w List.mem_cons_self
    rw [endK, List.length_cons]
    unfold yK at ih ⊢
    omega
theorem rdK_mid (pre : List MKy) (a : MKy) (rest : List MKy) : rd_T32 (pre ++ a :: rest) (pre.length : Int) = a := getD_mid _ _ _ _ rfl
theorem markKeyS_l0 : ∀ (rest pre : List MKy) (k : Nat) (x : Int), 0 ≤ x → x + 4194304 * (rest.length : Int) < 1000000000000000000 → pre.length + rest.length ≤ 1000000000 → RowsK rest → rest.length + 1048600 < k →
    laws_markKeyS.l0 k (pre ++ rest) x (pre.length : Int) = some (endK rest x, pre ++ markKs rest x)
  | [], pre, k, x, h0, h1, h2, h3, hk => by
    obtain ⟨k, rfl⟩ : ∃ q, k = q + 1 := ⟨k - 1, by omega⟩
    rw [laws_markKeyS.l0, if_neg (by rw [List.append_nil]; omega), List.append_nil, markKs, List.append_nil]
    rfl
  | a :: rest, pre, k, x, h0, h1, h2, h3, hk => by
    obtain ⟨k, rfl⟩ : ∃ q, k = q + 1 := ⟨k - 1, by omega⟩
    rw [List.length_cons] at h1 h2 hk
    have t1 := h3 a List.mem_cons_self
    have hy : yK a x = x + 1 + 2 * (a.f1.length : Int) := rfl
    have ih := markKeyS_l0 rest (pre ++ [⟨markT x, markTags a.f1 (x + 1), yK a x⟩]) k (yK a x + 1) (by omega) (by omega) (by rw [List.length_append, List.length_singleton]; omega) (fun v hv => h3 v (List.mem_cons_of_mem _ hv)) (by omega)
    rw [List.append_assoc, List.singleton_append] at ih
    rw [laws_markKeyS.l0, if_pos (by rw [List.length_append, List.length_cons]; omega), if_pos (by omega), markText_ok h0 (by omega) (by omega), Option.bind_some, rdK_mid,
      w64 (x := x + 1) (by omega) (by omega), markTagS_ok _ (by omega) (by omega) (by omega) (by omega), Option.bind_some]
    dsimp only
    rw [show x + 1 + 2 * (a.f1.length : Int) = yK a x from rfl, w64 (x := yK a x + 1) (by omega) (by omega), Int.toNat_natCast, set_mid _ _ _ _ rfl,
      show wrap64 ((pre.length : Int) + 1) = ((pre ++ [(⟨markT x, markTags a.f1 (x + 1), yK a x⟩ : MKy)]).length : Int) from by rw [w64 (by omega) (by omega), List.length_append, List.length_singleton]; omega]
    rw [endK, markKs]
    refine Eq.trans ?_ (ih.trans ?_)
    · rfl
    · rw [List.append_assoc, List.singleton_append]
theorem markKeyS_ok (l : List MKy) {k : Nat} {x : Int} (h0 : 0 ≤ x) (h1 : x ≤ 100000000000000) (h2 : l.length ≤ 1048576) (h3 : RowsK l) (hk : 2097180 < k) : laws_markKeyS.f k l x = some (endK l x, markKs l x) := markKeyS_l0 l [] k x h0 (by omega) (by simpa using (by omega : l.length ≤ 1000000000)) h3 (by omega)
theorem heldKeyS_l0 : ∀ (rest pre : List MKy) (k : Nat) (x : Int), 0 ≤ x → x + 4194304 * (rest.length : Int) < 1000000000000000000 → pre.length + rest.length ≤ 1000000000 → RowsK rest → rest.length + 1048600 < k →
    laws_heldKeyS.l0 k (pre ++ markKs rest x) x (pre.length : Int) = some (endK rest x)
  | [], pre, k, x, h0, h1, h2, h3, hk => by
    obtain ⟨k, rfl⟩ : ∃ q, k = q + 1 := ⟨k - 1, by omega⟩
    rw [laws_heldKeyS.l0, markKs, List.append_nil, if_neg (by omega)]
    rfl
  | a :: rest, pre, k, x, h0, h1, h2, h3, hk => by
    obtain ⟨k, rfl⟩ : ∃ q, k = q + 1 := ⟨k - 1, by omega⟩
    rw [List.length_cons] at h1 h2 hk
    have t1 := h3 a List.mem_cons_self
    have hy : yK a x = x + 1 + 2 * (a.f1.length : Int) := rfl
    have ih := heldKeyS_l0 rest (pre ++ [⟨markT x, markTags a.f1 (x + 1), yK a x⟩]) k (yK a x + 1) (by omega) (by omega) (by rw [List.length_append, List.length_singleton]; omega) (fun v hv => h3 v (List.mem_cons_of_mem _ hv)) (by omega)
    rw [List.append_assoc, List.singleton_append] at ih
    rw [laws_heldKeyS.l0, markKs, if_pos (by rw [List.length_append, List.length_cons]; omega), if_pos (by omega), markText_ok h0 (by omega) (by omega), Option.bind_some, rdK_mid, if_pos rfl,
      w64 (x := x + 1) (by omega) (by omega), heldTagS_ok _ (by omega) (by omega) (by omega) (by omega), Option.bind_some, show x + 1 + 2 * (a.f1.length : Int) = yK a x from rfl, if_neg (by omega), if_pos rfl, w64 (x := yK a x + 1) (by omega) (by omega),
      show wrap64 ((pre.length : Int) + 1) = ((pre ++ [(⟨markT x, markTags a.f1 (x + 1), yK a x⟩ : MKy)]).length : Int) from by rw [w64 (by omega) (by omega), List.length_append, List.length_singleton]; omega, ih, endK]
theorem heldKeyS_ok (l : List MKy) {k : Nat} {x : Int} (h0 : 0 ≤ x) (h1 : x ≤ 100000000000000) (h2 : l.length ≤ 1048576) (h3 : RowsK l) (hk : 2097180 < k) : laws_heldKeyS.f k (markKs l x) x = some (endK l x) := heldKeyS_l0 l [] k x h0 (by omega) (by simpa using (by omega : l.length ≤ 1000000000)) h3 (by omega)
theorem eqKeyS_l0 (l : List MKy) (hl : l.length ≤ 1048576) (hh : RowsK l) : ∀ (d i k : Nat), i + d = l.length → d + 1048580 < k → laws_eqKeyS.l0 k l l (i : Int) = some true := by
  intro d
  induction d with
  | zero =>
    intro i k hi hk
    obtain ⟨k, rfl⟩ : ∃ q, k = q + 1 := ⟨k - 1, by omega⟩
    rw [laws_eqKeyS.l0, if_neg (by omega)]
  | succ d ih =>
    intro i k hi hk
    obtain ⟨k, rfl⟩ : ∃ q, k = q + 1 := ⟨k - 1, by omega⟩
    have hlt : i < l.length := by omega
    have e : rd_T32 l (i : Int) = l[i] := by
      unfold rd_T32
      rw [Int.toNat_natCast, List.getD_eq_getElem?_getD, List.getElem?_eq_getElem hlt]
      rfl
    have h2 := hh l[i] (List.getElem_mem hlt)
    rw [laws_eqKeyS.l0, if_pos (by omega), if_pos (by omega), if_pos (by omega), e, eqKey_ok _ h2 _ (by omega), Option.bind_some, if_pos rfl, w64 (by omega) (by omega)]
    exact ih (i + 1) k (by omega) (by omega)
theorem eqKeyS_ok {l : List MKy} (hl : l.length ≤ 1048576) (hh : RowsK l) {k : Nat} (hk : 2097160 < k) : laws_eqKeyS.f k l l = some true := by
  unfold laws_eqKeyS.f
  rw [if_pos rfl]
  exact eqKeyS_l0 l hl hh l.length 0 k (by omega) (by omega)
end Go.Proofs.YtkgmoajdcibafaaDoor.Lem

/- The program's ExpireWins returns what the reference's returns: what FnExactExpireWins's callees answer, at every board that Go can hold. -/
namespace Go.Proofs.YtkgmoajdcibafaaDoor.Pure
open Go Go.RowKit Go.Proofs.YtkgmoajdcibafaaDoor.P Go.Proofs.YtkgmoajdcibafaaDoorW.PrintWords Go.Proofs.YtkgmoajdcibafaaDoorW.PrintLast Go.Proofs.YtkgmoajdcibafaaDoorW.PrintMore Go.Proofs.YtkgmoajdcibafaaDoor.Lem

theorem kgW_yes {a b c : Int} {x : Wn} {r : List Wn} (h : exW a b c x = true) : keepW a b c (x :: r) = keepW a b c r ∧ goneW a b c (x :: r) = x.f0 :: goneW a b c r := by
  unfold keepW goneW
  rw [List.filter_cons_of_neg (by rw [h]; decide), List.filter_cons_of_pos h, List.map_cons]
  exact ⟨rfl, rfl⟩
theorem kgW_no {a b c : Int} {x : Wn} {r : List Wn} (h : exW a b c x = false) : keepW a b c (x :: r) = x :: keepW a b c r ∧ goneW a b c (x :: r) = goneW a b c r := by
  unfold keepW goneW
  rw [List.filter_cons_of_pos (by rw [h]; rfl), List.filter_cons_of_neg (by rw [h]; decide)]
  exact ⟨rfl, rfl⟩
theorem expire_l0 (a b c : Int) (z : List Wn) {l : List Wn} (hl : l.length ≤ 1048576) : ∀ (d i k : Nat) (ks : List Wn) (gs : List MKy), i + d = l.length → d < k → ks.length ≤ i → gs.length ≤ i →
    spec_ExpireWins.l0 k ks gs l (l.length : Int) (i : Int) a b c z = some (a, b, c, ks ++ keepW a b c (l.drop i), gs ++ goneW a b c (l.drop i), true) := by
  intro d
  induction d with
  | zero =>
    intro i k ks gs hi hk h1 h2
    obtain ⟨k, rfl⟩ : ∃ q, k = q + 1 := ⟨k - 1, by omega⟩
    rw [spec_ExpireWins.l0, if_neg (by omega), List.drop_of_length_le (by omega)]
    simp [keepW, goneW]
  | succ d ih =>
    intro i k ks gs hi hk h1 h2
    obtain ⟨k, rfl⟩ : ∃ q, k = q + 1 := ⟨k - 1, by omega⟩
    have hlt : i < l.length := by omega
    rw [spec_ExpireWins.l0, if_pos (by omega), if_pos (by omega), if_pos (by omega), rdW_get hlt, show wrap64 ((i : Int) + 1) = ((i + 1 : Nat) : Int) by rw [w64 (by omega) (by omega)]; omega, List.drop_eq_getElem_cons hlt]
    by_cases he : wrap64 (wrap64 (l[i].f0.f2 + a) + b) ≤ c
    · have hx : exW a b c l[i] = true := decide_eq_true he
      rw [if_pos he, if_pos (by omega), ih (i + 1) k _ _ (by omega) (by omega) (by omega) (by rw [List.length_append, List.length_singleton]; omega), (kgW_yes hx).1, (kgW_yes hx).2, List.append_assoc]
      rfl
    · have hx : exW a b c l[i] = false := decide_eq_false he
      rw [if_neg he, if_pos (by omega), ih (i + 1) k _ _ (by omega) (by omega) (by rw [List.length_append, List.length_singleton]; omega) (by omega), (kgW_no hx).1, (kgW_no hx).2, List.append_assoc]
      rfl
theorem shortsW_ok {l : List Wn} (hh : ∀ w ∈ l, w.f0.f1.length ≤ 1048576 ∧ w.f1.f4.length ≤ 1048576) : shortsW l = true := by
  unfold shortsW
  rw [List.all_eq_true]
  intro w hw
  rw [decide_eq_true (hh w hw).1, decide_eq_true (hh w hw).2]
  rfl
theorem expire_both (a b c : Int) {l : List Wn} (hl : l.length ≤ 1048576) (hh : ∀ w ∈ l, w.f0.f1.length ≤ 1048576 ∧ w.f1.f4.length ≤ 1048576) {k : Nat} (hk : 2097160 < k) :
    ∃ a' b' c' l' g e, spec_ExpireWins.f k a b c l = some (a', b', c', l', g, e) ∧ impl_ExpireWins.f k a b c l = some (a', b', c', l', g, e) ∧ l'.length ≤ 1048576 ∧ g.length ≤ 1048576 ∧ Rows_ l' ∧ RowsK g := by
  obtain ⟨g, hg1, hg2⟩ := board_both a b c l (k := k) (by omega)
  unfold spec_ExpireWins.f impl_ExpireWins.f
  rw [hg1, hg2, Option.bind_some, Option.bind_some]
  by_cases hg : g = true
  · rw [if_pos hg, if_pos hg, own_ok a b c hl hh (by omega), cloned_ok a b c hl hh (by omega), Option.bind_some, Option.bind_some]
    dsimp only
    rw [if_pos ⟨shortsW_ok hh, by omega⟩]
    have h := expire_l0 a b c l hl l.length 0 k [] [] (by omega) (by omega) (Nat.le_refl _) (Nat.le_refl _)
    rw [List.drop_zero, List.nil_append, List.nil_append, show ((0 : Nat) : Int) = 0 from rfl] at h
    have h1 := List.length_filter_le (fun x => !exW a b c x) l
    have h2 := List.length_filter_le (exW a b c) l
    refine ⟨_, _, _, _, _, _, h, rfl, Nat.le_trans h1 hl, ?_, fun w hw => hh w (List.mem_filter.1 hw).1, fun w hw => ?_⟩
    · show ((l.filter (exW a b c)).map (·.f0)).length ≤ _
      rw [List.length_map]; omega
    · obtain ⟨v, hv, rfl⟩ := List.mem_map.1 hw
      exact (hh v (List.mem_filter.1 hv).1).1
  · rw [if_neg hg, if_neg hg]
    exact ⟨_, _, _, _, _, _, rfl, rfl, Nat.zero_le _, Nat.zero_le _, fun w hw => absurd hw (by simp), fun w hw => absurd hw (by simp)⟩
theorem FnExactExpireWins (a b c : Int) (l : List Lw) (hg : (Lit.int .i64 a).wf = true ∧ (Lit.int .i64 b).wf = true ∧ (Lit.int .i64 c).wf = true ∧ l.length ≤ maxLen ∧ ∀ w ∈ l, GWin w) : ∃ k, laws_FnExactExpireWins.Ok k a b c l := by
  have hl : l.length ≤ 9223372036854775807 := maxLen_le hg.2.2.2.1
  have hh : ∀ w ∈ l, HeldW w := fun w hw => heldW (hg.2.2.2.2 w hw)
  refine ⟨3000000, ?_⟩
  unfold laws_FnExactExpireWins.Ok
  obtain ⟨r, hr, hr2⟩ := szBoard_ok a b c hl hh (k := 3000000) (by decide)
  refine ⟨r, hr, ?_⟩
  rcases hr2 with hn | ⟨hn, hl', hs⟩
  · exact Or.inl hn
  refine Or.inr ⟨hn, ?_⟩
  have hlm : (l.map cvW).length ≤ 1048576 := by rw [List.length_map]; exact hl'
  have hsm : ∀ w ∈ l.map cvW, w.f0.f1.length ≤ 1048576 ∧ w.f1.f4.length ≤ 1048576 := by
    intro w hw
    obtain ⟨v, hv, rfl⟩ := List.mem_map.1 hw
    obtain ⟨q1, q2⟩ := hs v hv
    exact ⟨by show (v.f0.f1.map cvT).length ≤ _; rw [List.length_map]; exact q1, q2⟩
  obtain ⟨a', b', c', l2, g, e, h1, h2, hl2, hlg, hs2, hsg⟩ := expire_both a b c hlm hsm (k := 3000000) (by decide)
  have e1 := endW_le (l.map cvW) 1 hsm
  have e2 := endW_le l2 1 hs2
  have e3 := endK_le g (endW l2 1) hsg
  refine ⟨a, b, c, l.map cvW, a', b', c', l2, g, e, _, _, _, _, endK g (endW l2 1), markKs g (endW l2 1), toBoard_ok a b c hl' hs (k := 3000000) (by decide), h1, h2, eqBoard_ok _ _ _ hl2 hs2 (by decide), eqKeyS_ok hlg hsg (by decide), eqBoard_ok _ _ _ hlm hsm (by decide), markWinS_ok _ (by decide) (by decide) hlm hsm (by decide), markWinS_ok _ (by decide) (by decide) hl2 hs2 (by decide), markKeyS_ok g (by omega) (by omega) hlg hsg (by decide), ?_, heldKeyS_ok g (by omega) (by omega) hlg hsg (by decide), by omega, by omega, by omega⟩
  unfold laws_heldBoard.f
  rw [heldWinS_ok _ (by decide) (by decide) hl2 hs2 (by decide), Option.bind_some, if_neg (by omega)]
end Go.Proofs.YtkgmoajdcibafaaDoor.Pure

/- The row of laws.FnExactExpireWins: its arguments opened, the walk, and the tied card. -/
namespace Go.Proofs.YtkgmoajdcibafaaDoor.fnExactExpireWins
open Go Go.ChangeShapes Go.WideShapes Go.ChangeAt Go.RowKit Go.Proofs.YtkgmoajdcibafaaDoor.P Go.Proofs.YtkgmoajdcibafaaDoorW.PrintWords Go.Proofs.YtkgmoajdcibafaaDoorW.PrintLast Go.Proofs.YtkgmoajdcibafaaDoorW.PrintMore Go.Proofs.YtkgmoajdcibafaaDoor.Lem
set_option linter.unusedVariables false
theorem own : ownKnob Tryd.prog.godebug = none := by kernel_rfl
theorem laidOut : laidOutB Tryd.prog = true := by kernel_rfl
noncomputable def laidWorld (os : Os) : World := World.laidAll Tryd.prog os Rows.fnExactExpireWinsRow.laid
theorem laidWorld_met (os : Os) (args : Array Value) : laidMetH Tryd.prog Rows.fnExactExpireWinsRow.laid ((laidWorld os).forCall (fun _ _ => 0) ⟨#[], args, []⟩).memory := by
  rw [Go.MakeChecks.laidMetH_plain _ _ _ (by kernel_rfl)]
  exact laidMet_laidAll args (by kernel_rfl) (by kernel_rfl)

set_option maxRecDepth 100000 in
theorem lifted (os : Os) (started : os.Started) (H : Type) (enc : TypeId × Value → H) :
    ReturnsInHanded {} Tryd.checked os 6 .any (fun w args => (Rows.fnExactExpireWinsSpec.pre enc Tryd.prog Tryd.f6 [] false w args ∧ laidMetH Tryd.prog Rows.fnExactExpireWinsRow.laid w) ∧ sizedMet enc Tryd.prog Tryd.f6 (OpenSpec.ofChange Rows.fnExactExpireWinsSpec) false w args)
      (Rows.fnExactExpireWinsSpec.post enc Tryd.prog Tryd.f6 false true false false) := by
  refine returnsInHanded_of_change_and (C := Tryd.checked) (X := fun w _ => laidMetH Tryd.prog Rows.fnExactExpireWinsRow.laid w) (fun _ _ _ hh h => h.of_heap hh) own started (by kernel_rfl) Tryd.func6
    (ChangeSpec.witness_at (enc := enc) (C := Tryd.checked) (os := os) (X := fun w _ => laidMetH Tryd.prog Rows.fnExactExpireWinsRow.laid w) false (laidWorld os) #[.agg #[.int .i64 0, .int .i64 0, .int .i64 0, .slice none 0 0]] 8 rfl (by kernel_rfl) (by kernel_rfl) (by kernel_rfl) (by kernel_rfl) (by kernel_rfl) (laidWorld_met os _)) ?_
  intro W base args ds gs before hval0 hW _ _ hL _
  have hval : ∀ (j : Nat) t v, Tryd.f6.params[j]? = some t → args[j]? = some v → Value.okWide Tryd.prog W .any base t v := hval0
  have hW' := hW
  obtain ⟨p, q, hA0, hV, rfl, hfz, hnd⟩ := hW
  have hA : DataW.TrodAll enc Tryd.prog W 0 (fun _ => true) true Tryd.f6.params.toList args.toList ds p := hA0
  rw [Tryd.params6] at hA hval
  obtain ⟨v0, vs0, d0, ds0, p0, q0, hargs, rfl, rfl, h0, r0⟩ := trodAll_cons hA
  obtain ⟨rfl, rfl, rfl⟩ := trodAll_nil r0
  obtain rfl : args = #[v0] := by cases args; simp_all
  obtain ⟨rfl, rfl⟩ := trodVars_none hV
  have k0 := h0
  have lt0 : ∀ x ∈ p0, x.block < W.heap.size := by obtain ⟨m, hm⟩ := k0; exact DataW.trod_lt m _ _ _ hm
  have hO0 : Opens enc Tryd.prog W 0 (fun _ => true) true (Kd.pair (Kd.int .i64) (Kd.pair (Kd.int .i64) (Kd.pair (Kd.int .i64) (Kd.slice 116 k116)))) 24 _ := (opens_struct Tryd.underlying24 (by kernel_rfl) (opensF_cons (by kernel_rfl) (opens_int Tryd.underlying3) (opensF_cons (by kernel_rfl) (opens_int Tryd.underlying3) (opensF_cons (by kernel_rfl) (opens_int Tryd.underlying3) (opensF_one (by kernel_rfl) (opens_slice 116 Tryd.underlying22 (opens_iso (fun x : S116 => (x.f0, x.f1, x.f2, x.f3)) (fun a => ⟨a.1, a.2.1, a.2.2.1, a.2.2.2⟩) (fun _ => rfl) (opens_struct Tryd.underlying116 (by kernel_rfl) (opensF_cons (by kernel_rfl) (opens_iso (fun x : S27 => (x.f0, x.f1, x.f2)) (fun a => ⟨a.1, a.2.1, a.2.2⟩) (fun _ => rfl) (opens_struct Tryd.underlying27 (by kernel_rfl) (opensF_cons (by kernel_rfl) (opens_string Tryd.underlying9) (opensF_cons (by kernel_rfl) (opens_slice 119 Tryd.underlying25 (opens_iso (fun x : S119 => (x.f0, x.f1)) (fun a => ⟨a.1, a.2⟩) (fun _ => rfl) (opens_struct Tryd.underlying119 (by kernel_rfl) (opensF_cons (by kernel_rfl) (opens_string Tryd.underlying9) (opensF_one (by kernel_rfl) (opens_string Tryd.underlying9))))) (by kernel_rfl)) (opensF_one (by kernel_rfl) (opens_int Tryd.underlying3)))))) (opensF_cons (by kernel_rfl) (opens_iso (fun x : S92 => (x.f0, x.f1, x.f2, x.f3, x.f4, x.f5)) (fun a => ⟨a.1, a.2.1, a.2.2.1, a.2.2.2.1, a.2.2.2.2.1, a.2.2.2.2.2⟩) (fun _ => rfl) (opens_struct Tryd.underlying92 (by kernel_rfl) (opensF_cons (by kernel_rfl) (opens_int Tryd.underlying3) (opensF_cons (by kernel_rfl) (opens_int Tryd.underlying3) (opensF_cons (by kernel_rfl) (opens_int Tryd.underlying3) (opensF_cons (by kernel_rfl) (opens_int Tryd.underlying3) (opensF_cons (by kernel_rfl) (opens_slice 3 Tryd.underlying33 (opens_int Tryd.underlying3) (by kernel_rfl)) (opensF_one (by kernel_rfl) (opens_bool Tryd.underlying4))))))))) (opensF_cons (by kernel_rfl) (opens_int Tryd.underlying3) (opensF_one (by kernel_rfl) (opens_bool Tryd.underlying4))))))) (by kernel_rfl)))))))
  obtain ⟨cs0, rfl, hsz0⟩ := okWide_struct Tryd.underlying24 (hval 0 24 v0 rfl rfl)
  obtain ⟨⟨a0_0, a0_1, a0_2, l0_3⟩, ⟨_, _, e0, rfl, ⟨_, _, rfl, rfl, ⟨_, _, rfl, rfl, ⟨A0_3, c0_3, rfl, hc0_3, hC0_3⟩⟩⟩⟩, hg0⟩ := hO0 _ _ _ h0.choose_spec
  obtain rfl : cs0 = #[.int .i64 a0_0, .int .i64 a0_1, .int .i64 a0_2, .slice A0_3 l0_3.length c0_3] := by
    have e1 : (Value.agg cs0).cells.toList = [.int .i64 a0_0, .int .i64 a0_1, .int .i64 a0_2, .slice A0_3 l0_3.length c0_3] := e0
    cases cs0
    simpa [Value.cells] using e1
  clear hA0 hval0
  obtain ⟨k, hk⟩ := Pure.FnExactExpireWins a0_0 a0_1 a0_2 l0_3 hg0
  refine (laws_FnExactExpireWins.calls (k := k) (a0_0 := a0_0) (a0_1 := a0_1) (a0_2 := a0_2) (l0_3 := l0_3) (A0_3 := A0_3) (c0_3 := c0_3) (hr0_3 := hC0_3) (hc0_3 := hc0_3) (w := W) (h := hk)).mono fun e W' ⟨he, bel⟩ => ?_
  subst he
  exact ⟨_, rfl, _, _, _, [], _, [], hW', trodAll_mk1 (shut_bool Tryd.underlying4 _), (trodAll_cons_mk (Below.trod laidOut (by kernel_rfl) (of_decide_eq_true (by kernel_rfl)) k0 bel lt0) trodAll_mk0), rfl, bel.frame _, fun h => by cases h⟩

theorem said : Rows.FnExactExpireWinsSaid :=
  OpenClaim.holds_of_wide 6 Tryd.f6 rfl rfl rfl rfl rfl rfl rfl ⟨rfl, rfl, rfl, rfl, rfl⟩ rfl rfl rfl rfl rfl (by kernel_rfl) Tryd.func6 (by kernel_rfl)
    (of_decide_eq_true (by kernel_rfl)) (by unfold Func.isWrapper; first | (rw [if_pos (by decide +kernel)]; kernel_rfl) | (rw [if_neg (of_decide_eq_false (by kernel_rfl))]; exact ⟨rfl, rfl⟩))
    (fun os started H enc _ => lifted os started H enc)
theorem proved : Rows.FnExactExpireWinsCardSaid :=
  Claim7.holds_tied_plain_at .later [] [.data, .pinned] true (true, "dbe4185d9b14acd1f21281ce2ffaf2428158838d079ea547a5009293e05bd213") false
    said (fun _ h => by cases h) (by kernel_rfl) (fun _ h => by cases h) fnExactExpireWins_row_tie rfl ⟨rfl, rfl⟩ (by kernel_rfl) rfl
    (fun f fn hf hfn => by
      obtain rfl : f = 6 := Option.some.inj ((show Tryd.prog.funcNamed "loop.example/g00150/laws.FnExactExpireWins" = some 6 by kernel_rfl).symm.trans hf) |>.symm
      obtain rfl : fn = Tryd.f6 := (Option.some.inj (Tryd.func6.symm.trans hfn)).symm
      exact ⟨by kernel_rfl, fun j t ht => by
        rw [Tryd.params6] at ht
        have h3 : t = 24 := by
          rcases j with _ | j
          · exact ((by simpa using ht.symm))
          · simp at ht
        obtain rfl := h3
        · exact (show Tryd.prog.wantsStandIn 24 = false by kernel_rfl)⟩)
    (by kernel_rfl)
#print axioms proved
end Go.Proofs.YtkgmoajdcibafaaDoor.fnExactExpireWins
namespace Go.Proofs.YtkgmoajdcibafaaDoor
/-- The tied card, under a short name, for the claim. -/
theorem fnExactExpireWins_holds : Rows.FnExactExpireWinsCardSaid := fnExactExpireWins.proved
end Go.Proofs.YtkgmoajdcibafaaDoor
