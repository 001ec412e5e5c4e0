/- The statement's own text and the last of the walks that it uses. -/
import Derived.Lib.SlTrimSet
import Derived.Lib.Bytealg
import Derived.Test.YtmlclmbplbbbhaaDoorRows
import Derived.Test.YtmlclmbplbbbhaaDoorTie
import Derived.Test.YtmlclmbplbbbhaaDoorCards
import Derived.WalkKit
import Derived.ProofKit
import Derived.OpenShut
import Derived.ChangeOld
import Derived.Below
import Derived.Handed
import Derived.Lay
import Derived.MakeChecks
import Derived.LaidHandle
import Derived.Lib.LaidTab
import Derived.Stop.LaidErr
import Derived.JoinedOf
import Derived.SevenTiedAt
import Derived.RowKit
import Derived.Test.YtmlclmbplbbbhaaDoorMAF3

section
/- Good files: what both programs say of names and of files; the place of a name. -/
namespace Go.Proofs.YtmlclmbplbbbhaaDoor.Lem
open Go Go.RowKit Go.Proofs.YtmlclmbplbbbhaaDoor.P Go.Proofs.YtmlclmbplbbbhaaDoorW.PrintWords Go.Proofs.YtmlclmbplbbbhaaDoorW.PrintLast Go.Proofs.YtmlclmbplbbbhaaDoorW.PrintMore

/-! ### the order of texts -/
theorem lessT : ∀ {x y z : List UInt8}, Op.bytesLess x y = true → Op.bytesLess y z = true → Op.bytesLess x z = true
  | [], [], _, h, _ => by exact absurd h (by unfold Op.bytesLess; decide)
  | [], _ :: _, [], _, h => by exact absurd h (by unfold Op.bytesLess; decide)
  | [], _ :: _, _ :: _, _, _ => rfl
  | _ :: _, [], _, h, _ => by exact absurd h (by unfold Op.bytesLess; decide)
  | _ :: _, _ :: _, [], _, h => by exact absurd h (by unfold Op.bytesLess; decide)
  | a :: x, b :: y, c :: z, h1, h2 => by
    rw [less_cons] at h1 h2 ⊢
    by_cases e1 : a = b
    · subst e1
      rw [if_pos rfl] at h1
      by_cases e2 : a = c
      · rw [if_pos e2] at h2 ⊢; exact lessT h1 h2
      · rw [if_neg e2] at h2 ⊢; exact h2
    · rw [if_neg e1] at h1
      have l1 := of_decide_eq_true h1
      by_cases e2 : b = c
      · subst e2; rw [if_neg e1]; exact h1
      · rw [if_neg e2] at h2
        have l2 := of_decide_eq_true h2
        rw [UInt8.lt_iff_toNat_lt] at l1 l2
        rw [if_neg (fun q => by subst q; omega)]
        exact decide_eq_true (by rw [UInt8.lt_iff_toNat_lt]; omega)
theorem lessTot : ∀ {x y : List UInt8}, Op.bytesLess x y = false → x ≠ y → Op.bytesLess y x = true
  | [], [], _, h => absurd rfl h
  | [], _ :: _, h, _ => by exact absurd h (by unfold Op.bytesLess; decide)
  | _ :: _, [], _, _ => rfl
  | a :: x, b :: y, h, hn => by
    rw [less_cons] at h ⊢
    by_cases e : a = b
    · subst e
      rw [if_pos rfl] at h ⊢
      exact lessTot h (fun q => hn (by rw [q]))
    · rw [if_neg e] at h
      have h1 := of_decide_eq_false h
      rw [if_neg (Ne.symm e)]
      have hne : a.toNat ≠ b.toNat := fun q => e (UInt8.toNat_inj.1 q)
      rw [UInt8.lt_iff_toNat_lt] at h1
      exact decide_eq_true (by rw [UInt8.lt_iff_toNat_lt]; omega)
theorem cmpB_eq : ∀ (x y : List UInt8), Go.Lib.compareBytes x y = if Op.bytesLess x y = true then -1 else if x = y then 0 else 1
  | [], [] => rfl
  | [], _ :: _ => rfl
  | _ :: _, [] => rfl
  | a :: x, b :: y => by
    rw [Go.Lib.compareBytes, less_cons, cmpB_eq x y]
    by_cases e : a = b
    · subst e
      have hn : ¬ a < a := by rw [UInt8.lt_iff_toNat_lt]; omega
      rw [if_neg hn, if_neg hn, if_pos rfl]
      simp
    · have hne : a.toNat ≠ b.toNat := fun q => e (UInt8.toNat_inj.1 q)
      rw [if_neg e]
      by_cases h : a < b
      · rw [if_pos h, if_pos (decide_eq_true h)]
      · have h' := h
        rw [UInt8.lt_iff_toNat_lt] at h'
        rw [if_neg h, if_pos (by rw [UInt8.lt_iff_toNat_lt]; omega), if_neg (by simp [h]), if_neg (fun q => e (by injection q))]
/-! ### names -/
theorem dropWhile_head {α : Type} (p : α → Bool) : ∀ (l : List α) (x : α) (r : List α), l.dropWhile p = x :: r → p x = false
  | [], x, r, h => by simp at h
  | a :: l, x, r, h => by
    rw [List.dropWhile_cons] at h
    cases e : p a with
    | true => rw [e, if_pos rfl] at h; exact dropWhile_head p l x r h
    | false =>
      rw [e, if_neg (by decide)] at h
      injection h with h _
      rw [← h]; exact e
theorem dropWhile_all {α : Type} (p : α → Bool) : ∀ l : List α, l.all p = true → l.dropWhile p = []
  | [], _ => rfl
  | a :: l, h => by
    rw [List.all_cons, Bool.and_eq_true] at h
    rw [List.dropWhile_cons, h.1, if_pos rfl]
    exact dropWhile_all p l h.2
theorem dropWhile_nil {α : Type} (p : α → Bool) : ∀ l : List α, l.dropWhile p = [] → l.all p = true
  | [], _ => rfl
  | a :: l, h => by
    rw [List.dropWhile_cons] at h
    cases e : p a with
    | true => rw [e, if_pos rfl] at h; rw [List.all_cons, e, dropWhile_nil p l h]; rfl
    | false => rw [e, if_neg (by decide)] at h; exact absurd h (by simp)
theorem trim_nil (l cs : List UInt8) : (Go.Lib.trimS l cs == []) = l.all (cs.contains ·) := by
  unfold Go.Lib.trimS Go.Lib.trimLeftS Go.Lib.trimRightS
  cases e : l.all (cs.contains ·) with
  | true =>
    have h1 : l.reverse.all (cs.contains ·) = true := by rw [List.all_reverse]; exact e
    rw [dropWhile_all _ _ h1, List.reverse_nil, List.dropWhile_nil]
    rfl
  | false =>
    rw [beq_eq_false_iff_ne]
    intro h
    have h1 := dropWhile_nil _ _ h
    rw [List.all_reverse] at h1
    cases e2 : l.reverse.dropWhile (cs.contains ·) with
    | nil =>
      have h3 := dropWhile_nil _ _ e2
      rw [List.all_reverse, e] at h3
      exact absurd h3 (by decide)
    | cons x r =>
      have h3 := dropWhile_head _ _ x r e2
      rw [e2, List.all_cons, h3, Bool.false_and] at h1
      exact absurd h1 (by decide)
/-- A byte of a file's name. -/
def letterF (b : UInt8) : Bool := (decide (97 ≤ b.toNat) && decide (b.toNat ≤ 122)) || ((decide (48 ≤ b.toNat) && decide (b.toNat ≤ 57)) || decide (b.toNat = 45))
def alphabetF : List UInt8 := [97, 98, 99, 100, 101, 102, 103, 104, 105, 106, 107, 108, 109, 110, 111, 112, 113, 114, 115, 116, 117, 118, 119, 120, 121, 122, 48, 49, 50, 51, 52, 53, 54, 55, 56, 57, 45]
theorem alphabetF_all : ∀ n, n < 256 → (alphabetF.contains (UInt8.ofNat n) == letterF (UInt8.ofNat n)) = true := of_decide_eq_true (by kernel_rfl)
theorem alphabetF_letter (b : UInt8) : alphabetF.contains b = letterF b := by
  have h := alphabetF_all b.toNat b.toNat_lt
  rw [UInt8.ofNat_toNat] at h
  exact eq_of_beq h
def nameF (s : ByteArray) : Bool := decide (1 ≤ s.size) && decide (s.size ≤ 20) && s.data.toList.all letterF
theorem withinB_ok (n a b : Int) : impl_within.f n a b = some (decide (a ≤ n) && decide (n ≤ b)) := by
  unfold impl_within.f
  by_cases h : n ≥ a
  · rw [if_pos h, decide_eq_true h, Bool.true_and]
  · rw [if_neg h, decide_eq_false h, Bool.false_and]
theorem l1InB_ok (n a b : Int) : spec_l1In.f n a b = some (decide (a ≤ n) && decide (n ≤ b)) := by
  unfold spec_l1In.f
  by_cases h : n ≥ a
  · rw [if_pos h, decide_eq_true h, Bool.true_and]
  · rw [if_neg h, decide_eq_false h, Bool.false_and]
theorem size_b (s : ByteArray) : (decide ((1 : Int) ≤ (s.size : Int)) && decide ((s.size : Int) ≤ 20)) = (decide (1 ≤ s.size) && decide (s.size ≤ 20)) := by
  have e1 : ((1 : Int) ≤ (s.size : Int)) ↔ 1 ≤ s.size := by omega
  have e2 : ((s.size : Int) ≤ 20) ↔ s.size ≤ 20 := by omega
  rw [decide_eq_decide.2 e1, decide_eq_decide.2 e2]
theorem isFileName_ok (s : ByteArray) : impl_isFileName.f s = some (nameF s) := by
  unfold impl_isFileName.f nameF
  rw [withinB_ok, Option.bind_some, size_b]
  cases e : (decide (1 ≤ s.size) && decide (s.size ≤ 20)) with
  | false => rw [if_neg (by decide), Bool.false_and]
  | true =>
    rw [Bool.and_eq_true] at e
    have h1 := of_decide_eq_true e.2
    rw [if_pos rfl, Bool.true_and]
    unfold strings_Trim.f
    rw [if_pos ⟨by omega, of_decide_eq_true (by kernel_rfl), by kernel_rfl⟩, Option.bind_some, Go.Lib.toList_data]
    have e3 : s.data.toList.all (alphabetF.contains ·) = s.data.toList.all letterF := by
      congr 1
      funext b
      exact alphabetF_letter b
    rw [← e3, ← trim_nil]
    rfl
theorem bt_get {s : ByteArray} {i : Nat} (h : i < s.size) : bt s (i : Int) = ((s.data.toList[i]'(by rw [← Go.Lib.size_eq]; exact h)).toNat : Int) := by
  rw [← bt_at s (i : Int) (by rw [Int.toNat_natCast]; exact h)]
  simp only [Int.toNat_natCast]
  rfl
theorem l2Name_l0 (s : ByteArray) (hs : s.size ≤ 20) : ∀ (d i k : Nat), i + d = s.size → d < k → spec_l2Name.l0 k s (i : Int) = some ((s.data.toList.drop i).all letterF) := by
  intro d
  induction d with
  | zero =>
    intro i k hi hk
    obtain ⟨k, rfl⟩ : ∃ m, k = m + 1 := ⟨k - 1, by omega⟩
    rw [spec_l2Name.l0, if_neg (by omega), List.drop_of_length_le (by rw [← Go.Lib.size_eq]; omega)]
    rfl
  | succ d ih =>
    intro i k hi hk
    obtain ⟨k, rfl⟩ : ∃ m, k = m + 1 := ⟨k - 1, by omega⟩
    have hn := ih (i + 1) k (by omega) (by omega)
    have hlt : i < s.data.toList.length := by rw [← Go.Lib.size_eq]; omega
    rw [spec_l2Name.l0, if_pos (by omega), if_pos (by omega), bt_get (by omega), wrapS (n := s.size) (by omega) (by omega), hn, drop_get hlt, List.all_cons]
    generalize s.data.toList[i] = b
    generalize (List.drop (i + 1) s.data.toList).all letterF = v
    have h45 : ((b.toNat : Int) = 45) ↔ b.toNat = 45 := by omega
    unfold letterF
    by_cases h1 : 97 ≤ b.toNat
    · rw [if_pos (by omega), decide_eq_true h1, Bool.true_and]
      by_cases h2 : b.toNat ≤ 122
      · rw [if_pos (by omega), decide_eq_true h2, Bool.true_or, Bool.true_and]
      · rw [if_neg (by omega), if_pos (by omega), if_neg (by omega), if_neg (by omega), decide_eq_false h2, decide_eq_false (show ¬ b.toNat ≤ 57 by omega), decide_eq_false (show ¬ b.toNat = 45 by omega), Bool.and_false, Bool.false_or, Bool.false_or, Bool.false_and]
    · rw [if_neg (by omega), decide_eq_false h1, Bool.false_and, Bool.false_or]
      by_cases h2 : 48 ≤ b.toNat
      · rw [if_pos (by omega), decide_eq_true h2, Bool.true_and]
        by_cases h3 : b.toNat ≤ 57
        · rw [if_pos (by omega), decide_eq_true h3, Bool.true_or, Bool.true_and]
        · rw [if_neg (by omega), if_neg (by omega), decide_eq_false h3, decide_eq_false (show ¬ b.toNat = 45 by omega), Bool.false_or, Bool.false_and]
      · rw [if_neg (by omega), decide_eq_false h2, Bool.false_and, Bool.false_or]
        by_cases h3 : b.toNat = 45
        · rw [if_pos (by omega), decide_eq_true h3, Bool.true_and]
        · rw [if_neg (by omega), decide_eq_false h3, Bool.false_and]
theorem l2Name_ok (s : ByteArray) {k : Nat} (hk : 20 < k) : spec_l2Name.f k s = some (nameF s) := by
  unfold spec_l2Name.f nameF
  rw [l1InB_ok, Option.bind_some, size_b]
  cases e : (decide (1 ≤ s.size) && decide (s.size ≤ 20)) with
  | false => rw [if_neg (by decide), Bool.false_and]
  | true =>
    rw [Bool.and_eq_true] at e
    have h1 := of_decide_eq_true e.2
    rw [if_pos rfl, Bool.true_and]
    have h := l2Name_l0 s h1 s.size 0 k (by omega) (by omega)
    rw [List.drop_zero] at h
    exact h
/-! ### files -/
def aftF : Option ByteArray → ByteArray → Bool
  | none, _ => true
  | some q, x => Op.bytesLess q.toList x.toList
/-- Files in their order: behind a name, or at the beginning. -/
def goodFs : Option ByteArray → List Fi → Bool
  | _, [] => true
  | p, f :: l => nameF f.f0 && ((decide ((0 : Int) ≤ f.f2) && decide (f.f2 ≤ (f.f1.length : Int))) && (aftF p f.f0 && goodFs (some f.f0) l))
def usedF : List Fi → Nat
  | [] => 0
  | f :: l => f.f1.length + usedF l
theorem usedF_le : ∀ (l : List Fi), RowsF l → usedF l ≤ 1048576 * l.length
  | [], _ => Nat.le_refl _
  | f :: l, h => by
    have h1 := h f List.mem_cons_self
    have h2 := usedF_le l (fun x hx => h x (List.mem_cons_of_mem _ hx))
    rw [usedF, List.length_cons]
    omega
def prevF (l : List Fi) (i : Nat) : Option ByteArray := if i = 0 then none else some (rd_T53 l ((i - 1 : Nat) : Int)).f0
def goodQ (q : Int) (l : List Fi) : Bool := (decide (0 ≤ q) && decide (q ≤ 60000)) && (decide (l.length ≤ 40) && (decide ((usedF l : Int) ≤ q) && goodFs none l))
section
set_option linter.unusedSectionVars false
variable {l : List Fi} (hl : l.length ≤ 1048576) (hh : RowsF l)
include hl hh
theorem used_l0 (g : Nat → Int → List Fi → Int → Int → Option Int) (hg : ∀ k x y z i, g (k + 1) x y z i = if i < z then (if 0 ≤ i then (if i < (y.length : Int) then (g k (wrap64 (x + ((rd_T53 y i).f1.length : Int))) y z (wrap64 (i + 1))) else none) else none) else some x) :
    ∀ (d i k a : Nat), i + d = l.length → d < k → a ≤ 1048576 * i → g k (a : Int) l (l.length : Int) (i : Int) = some (((a + usedF (l.drop i) : Nat)) : Int) := by
  intro d
  induction d with
  | zero =>
    intro i k a hi hk _
    obtain ⟨k, rfl⟩ : ∃ m, k = m + 1 := ⟨k - 1, by omega⟩
    rw [hg, if_neg (by omega), List.drop_of_length_le (by omega), usedF, Nat.add_zero]
  | succ d ih =>
    intro i k a hi hk ha
    obtain ⟨k, rfl⟩ : ∃ m, k = m + 1 := ⟨k - 1, by omega⟩
    have hlt : i < l.length := by omega
    have h1 := hh l[i] (List.getElem_mem hlt)
    rw [hg, if_pos (by omega), if_pos (by omega), if_pos (by omega), rdF_get hlt, wrapS hlt (by omega), w64 (by omega) (by omega), show (a : Int) + (l[i].f1.length : Int) = ((a + l[i].f1.length : Nat) : Int) by omega, ih (i + 1) k _ (by omega) (by omega) (by omega), drop_get hlt, usedF, Nat.add_assoc]
theorem implUsed_ok (q : Int) {k : Nat} (hk : 1048577 < k) : impl_Files_used.f k q l = some ((usedF l : Nat) : Int) := by
  have h := used_l0 hl hh impl_Files_used.l0 (fun k x y z i => by rw [impl_Files_used.l0]) l.length 0 k 0 (by omega) (by omega) (by omega)
  rw [List.drop_zero, Nat.zero_add] at h
  exact h
theorem specUsed_ok (q : Int) {k : Nat} (hk : 1048577 < k) : spec_l2Used.f k q l = some ((usedF l : Nat) : Int) := by
  have h := used_l0 hl hh spec_l2Used.l0 (fun k x y z i => by rw [spec_l2Used.l0]) l.length 0 k 0 (by omega) (by omega) (by omega)
  rw [List.drop_zero, Nat.zero_add] at h
  exact h
theorem implGood_l0 (q : Int) : ∀ (d i k : Nat), i + d = l.length → d < k → impl_GoodFiles.l0 k l (l.length : Int) (i : Int) q l = some (goodFs (prevF l i) (l.drop i)) := by
  intro d
  induction d with
  | zero =>
    intro i k hi hk
    obtain ⟨k, rfl⟩ : ∃ m, k = m + 1 := ⟨k - 1, by omega⟩
    rw [impl_GoodFiles.l0, if_neg (by omega), List.drop_of_length_le (by omega), goodFs]
  | succ d ih =>
    intro i k hi hk
    obtain ⟨k, rfl⟩ : ∃ m, k = m + 1 := ⟨k - 1, by omega⟩
    have hlt : i < l.length := by omega
    have hn := ih (i + 1) k (by omega) (by omega)
    have hp : prevF l (i + 1) = some l[i].f0 := by unfold prevF; rw [if_neg (by omega), Nat.add_sub_cancel, rdF_get hlt]
    rw [hp] at hn
    rw [impl_GoodFiles.l0, if_pos (by omega), if_pos (by omega), if_pos (by omega), rdF_get hlt, isFileName_ok, Option.bind_some, wrapS hlt (by omega), hn, drop_get hlt, goodFs, withinB_ok]
    cases e1 : nameF l[i].f0 with
    | false => rw [if_neg (by decide), Bool.false_and]
    | true =>
      rw [if_pos rfl, Option.bind_some, Bool.true_and]
      cases e2 : (decide ((0 : Int) ≤ l[i].f2) && decide (l[i].f2 ≤ (l[i].f1.length : Int))) with
      | false => rw [if_neg (by decide), Bool.false_and]
      | true =>
        rw [if_pos rfl, Bool.true_and]
        by_cases h0 : i = 0
        · rw [if_neg (by omega)]
          unfold prevF
          rw [if_pos h0, aftF, Bool.true_and]
        · have e3 : wrap64 ((i : Int) - 1) = ((i - 1 : Nat) : Int) := by rw [w64 (by omega) (by omega)]; omega
          rw [if_pos (by omega), e3, if_pos (by omega), if_pos (by omega)]
          unfold prevF
          rw [if_neg h0, aftF]
          cases Op.bytesLess (rd_T53 l ((i - 1 : Nat) : Int)).f0.toList l[i].f0.toList with
          | true => rw [if_pos rfl, Bool.true_and]
          | false => rw [if_neg (by decide), Bool.false_and]
theorem specGood_l0 (q : Int) : ∀ (d i k : Nat), i + d = l.length → d + 1048580 < k → spec_GoodFiles.l0 k l (l.length : Int) (i : Int) q l = some (goodFs (prevF l i) (l.drop i) && decide ((usedF l : Int) ≤ q)) := by
  intro d
  induction d with
  | zero =>
    intro i k hi hk
    obtain ⟨k, rfl⟩ : ∃ m, k = m + 1 := ⟨k - 1, by omega⟩
    rw [spec_GoodFiles.l0, if_neg (by omega), List.drop_of_length_le (by omega), goodFs, specUsed_ok hl hh q (by omega), Option.bind_some, Bool.true_and]
  | succ d ih =>
    intro i k hi hk
    obtain ⟨k, rfl⟩ : ∃ m, k = m + 1 := ⟨k - 1, by omega⟩
    have hlt : i < l.length := by omega
    have hn := ih (i + 1) k (by omega) (by omega)
    have hp : prevF l (i + 1) = some l[i].f0 := by unfold prevF; rw [if_neg (by omega), Nat.add_sub_cancel, rdF_get hlt]
    rw [hp] at hn
    rw [spec_GoodFiles.l0, if_pos (by omega), if_pos (by omega), if_pos (by omega), rdF_get hlt, l2Name_ok _ (by omega), Option.bind_some, wrapS hlt (by omega), hn, drop_get hlt, goodFs, l1InB_ok]
    cases e1 : nameF l[i].f0 with
    | false => rw [if_neg (by decide), Bool.false_and, Bool.false_and]
    | true =>
      rw [if_pos rfl, Option.bind_some, Bool.true_and]
      by_cases h0 : i = 0
      · rw [if_neg (by omega)]
        unfold prevF
        rw [if_pos h0, aftF, Bool.true_and]
        cases (decide ((0 : Int) ≤ l[i].f2) && decide (l[i].f2 ≤ (l[i].f1.length : Int))) with
        | false => rw [if_neg (by decide), Bool.false_and, Bool.false_and]
        | true => rw [if_pos rfl, Bool.true_and]
      · have e3 : wrap64 ((i : Int) - 1) = ((i - 1 : Nat) : Int) := by rw [w64 (by omega) (by omega)]; omega
        rw [if_pos (by omega), e3, if_pos (by omega), if_pos (by omega)]
        unfold prevF
        rw [if_neg h0, aftF]
        cases Op.bytesLess (rd_T53 l ((i - 1 : Nat) : Int)).f0.toList l[i].f0.toList with
        | false => rw [if_neg (by decide), Bool.false_and, Bool.and_false, Bool.false_and]
        | true =>
          rw [if_pos rfl, Bool.true_and]
          cases (decide ((0 : Int) ≤ l[i].f2) && decide (l[i].f2 ≤ (l[i].f1.length : Int))) with
          | false => rw [if_neg (by decide), Bool.false_and, Bool.false_and]
          | true => rw [if_pos rfl, Bool.true_and]
theorem implGood_ok (q : Int) {k : Nat} (hk : 2097200 < k) : impl_GoodFiles.f k q l = some (goodQ q l) := by
  obtain ⟨k, rfl⟩ : ∃ m, k = m + 1 := ⟨k - 1, by omega⟩
  unfold impl_GoodFiles.f goodQ
  rw [withinB_ok, Option.bind_some]
  cases (decide ((0 : Int) ≤ q) && decide (q ≤ 60000)) with
  | false => rw [if_neg (by decide), impl_GoodFiles.j0, if_pos rfl, Bool.false_and]
  | true =>
    rw [if_pos rfl, Bool.true_and]
    by_cases h : l.length ≤ 40
    · rw [if_neg (by omega), implUsed_ok hl hh q (by omega), Option.bind_some, impl_GoodFiles.j0, decide_eq_true h, Bool.true_and]
      by_cases h2 : (usedF l : Int) ≤ q
      · have h3 := implGood_l0 hl hh q l.length 0 k (by omega) (by omega)
        rw [List.drop_zero] at h3
        rw [if_neg (by simpa using h2), decide_eq_true h2, Bool.true_and]
        exact h3
      · rw [if_pos (by simpa using h2), decide_eq_false h2, Bool.false_and]
    · rw [if_pos (by omega), impl_GoodFiles.j0, if_pos rfl, decide_eq_false h, Bool.false_and]
theorem specGood_ok (q : Int) {k : Nat} (hk : 2097200 < k) : spec_GoodFiles.f k q l = some (goodQ q l) := by
  obtain ⟨k, rfl⟩ : ∃ m, k = m + 1 := ⟨k - 1, by omega⟩
  unfold spec_GoodFiles.f goodQ
  rw [l1InB_ok, Option.bind_some]
  cases (decide ((0 : Int) ≤ q) && decide (q ≤ 60000)) with
  | false => rw [if_neg (by decide), spec_GoodFiles.j0, if_pos rfl, Bool.false_and]
  | true =>
    rw [if_pos rfl, Bool.true_and, spec_GoodFiles.j0]
    by_cases h : l.length ≤ 40
    · have h3 := specGood_l0 hl hh q l.length 0 k (by omega) (by omega)
      rw [List.drop_zero] at h3
      rw [if_neg (fun q => by have := of_decide_eq_true q; omega), decide_eq_true h, Bool.true_and, Bool.and_comm]
      exact h3
    · rw [if_pos (decide_eq_true (by omega)), decide_eq_false h, Bool.false_and]
/-! ### copies of their own -/
theorem own_l0 (q : Int) : ∀ (d i k : Nat) (acc : List Fi), i + d = l.length → d < k → acc.length ≤ i → spec_l2Own.l0 k acc l (l.length : Int) (i : Int) q l = some (q, acc ++ l.drop i) := by
  intro d
  induction d with
  | zero =>
    intro i k acc hi hk _
    obtain ⟨k, rfl⟩ : ∃ m, k = m + 1 := ⟨k - 1, by omega⟩
    rw [spec_l2Own.l0, if_neg (by omega), List.drop_of_length_le (by omega), List.append_nil]
  | succ d ih =>
    intro i k acc hi hk ha
    obtain ⟨k, rfl⟩ : ∃ m, k = m + 1 := ⟨k - 1, by omega⟩
    have hlt : i < l.length := by omega
    have h1 := hh l[i] (List.getElem_mem hlt)
    rw [spec_l2Own.l0, if_pos (by omega), if_pos (by omega), if_pos (by omega), rdF_get hlt, Option.bind_some, if_pos (by rw [List.length_nil]; omega), if_pos (by omega), wrapS hlt (by omega), ih (i + 1) k _ (by omega) (by omega) (by rw [List.length_append, List.length_singleton]; omega), drop_get hlt, List.append_assoc, List.nil_append]
    rfl
theorem own_ok (q : Int) {k : Nat} (hk : 1048577 < k) : spec_l2Own.f k q l = some (q, l) := own_l0 hl hh q l.length 0 k [] (by omega) (by omega) (Nat.le_refl _)
theorem cloned_l0 (q : Int) : ∀ (d i k : Nat) (acc : List Fi), i + d = l.length → d < k → acc.length ≤ i → impl_Files_cloned.l0 k l (l.length : Int) (i : Int) q acc = some (q, acc ++ l.drop i) := by
  intro d
  induction d with
  | zero =>
    intro i k acc hi hk _
    obtain ⟨k, rfl⟩ : ∃ m, k = m + 1 := ⟨k - 1, by omega⟩
    rw [impl_Files_cloned.l0, if_neg (by omega), List.drop_of_length_le (by omega), List.append_nil]
  | succ d ih =>
    intro i k acc hi hk ha
    obtain ⟨k, rfl⟩ : ∃ m, k = m + 1 := ⟨k - 1, by omega⟩
    have hlt : i < l.length := by omega
    have h1 := hh l[i] (List.getElem_mem hlt)
    rw [impl_Files_cloned.l0, if_pos (by omega), if_pos (by omega), if_pos (by omega), rdF_get hlt]
    unfold slices_Clone_byte_byte.f
    rw [Option.bind_some, if_pos (by rw [List.length_nil]; omega), Option.bind_some, if_pos (by omega), wrapS hlt (by omega), ih (i + 1) k _ (by omega) (by omega) (by rw [List.length_append, List.length_singleton]; omega), drop_get hlt, List.append_assoc, List.nil_append]
    rfl
theorem cloned_ok (q : Int) {k : Nat} (hk : 1048577 < k) : impl_Files_cloned.f k q l = some (q, l) := cloned_l0 hl hh q l.length 0 k [] (by omega) (by omega) (Nat.le_refl _)
end
/-! ### the place of a name -/
abbrev fi (l : List Fi) (n : Nat) : Fi := rd_T53 l (n : Int)
theorem fi_cons (e : Fi) (r : List Fi) (n : Nat) : fi (e :: r) (n + 1) = fi r n := by
  unfold fi rd_T53
  rw [Int.toNat_natCast, Int.toNat_natCast, List.getD_cons_succ]
def posF (n : ByteArray) : List Fi → Nat
  | [] => 0
  | f :: r => if Op.bytesLess f.f0.toList n.toList = true then posF n r + 1 else 0
theorem posF_le (n : ByteArray) : ∀ l : List Fi, posF n l ≤ l.length
  | [] => Nat.le_refl _
  | a :: r => by rw [posF]; split; exact Nat.succ_le_succ (posF_le n r); exact Nat.zero_le _
theorem posF_lt (n : ByteArray) : ∀ (l : List Fi) (j : Nat), j < posF n l → Op.bytesLess (fi l j).f0.toList n.toList = true
  | [], j, h => absurd h (Nat.not_lt_zero j)
  | a :: r, j, h => by
    rw [posF] at h
    split at h
    · rename_i c
      cases j with
      | zero => exact c
      | succ j => rw [fi_cons]; exact posF_lt n r j (by omega)
    · exact absurd h (Nat.not_lt_zero j)
theorem goodFs_head {p : Option ByteArray} {f : Fi} {r : List Fi} (h : goodFs p (f :: r) = true) : aftF p f.f0 = true ∧ goodFs (some f.f0) r = true := by
  rw [goodFs, Bool.and_eq_true, Bool.and_eq_true, Bool.and_eq_true, Bool.and_eq_true] at h
  exact h.2.2
/-- Behind the name m, all names are greater. -/
theorem goodFs_all : ∀ (l : List Fi) (m : ByteArray), goodFs (some m) l = true → ∀ j, j < l.length → Op.bytesLess m.toList (fi l j).f0.toList = true
  | [], _, _, j, hj => absurd hj (Nat.not_lt_zero j)
  | a :: r, m, h, j, hj => by
    obtain ⟨h1, h2⟩ := goodFs_head h
    cases j with
    | zero => exact h1
    | succ j => rw [fi_cons]; exact lessT h1 (goodFs_all r a.f0 h2 j (by simpa using hj))
theorem posF_ge (n : ByteArray) : ∀ (l : List Fi) (p : Option ByteArray), goodFs p l = true → ∀ j, posF n l ≤ j → j < l.length → Op.bytesLess (fi l j).f0.toList n.toList = false
  | [], _, _, j, _, hj => absurd hj (Nat.not_lt_zero j)
  | a :: r, p, h, j, h1, hj => by
    obtain ⟨_, h2⟩ := goodFs_head h
    rw [posF] at h1
    split at h1
    · cases j with
      | zero => omega
      | succ j => rw [fi_cons]; exact posF_ge n r _ h2 j (by omega) (by simpa using hj)
    · rename_i c
      cases j with
      | zero => exact (by simpa using c : Op.bytesLess a.f0.toList n.toList = false)
      | succ j =>
        rw [fi_cons]
        cases q : Op.bytesLess (fi r j).f0.toList n.toList with
        | false => rfl
        | true => exact absurd (lessT (goodFs_all r a.f0 h2 j (by simpa using hj)) q) c
/-- The name stands there. -/
def hasF (n : ByteArray) (l : List Fi) : Bool := decide (posF n l < l.length) && decide ((fi l (posF n l)).f0.toList = n.toList)
theorem hasF_none {n : ByteArray} {l : List Fi} (hg : goodFs none l = true) (h : hasF n l = false) : ∀ j, j < l.length → (fi l j).f0.toList ≠ n.toList := by
  intro j hj he
  by_cases h1 : j < posF n l
  · have := posF_lt n l j h1
    rw [he, less_irrefl] at this
    exact absurd this (by decide)
  · have hp : posF n l < l.length := by omega
    rw [hasF, decide_eq_true hp, Bool.true_and] at h
    have hne := of_decide_eq_false h
    have h2 := posF_ge n l none hg (posF n l) (Nat.le_refl _) hp
    have h3 := lessTot h2 hne
    by_cases h4 : j = posF n l
    · rw [← h4] at hne; exact hne he
    · -- behind the place all are greater
      have h5 : ∀ (l : List Fi) (p : Option ByteArray), goodFs p l = true → ∀ i j, i < j → j < l.length → Op.bytesLess (fi l i).f0.toList (fi l j).f0.toList = true := by
        intro l
        induction l with
        | nil => intro p _ i j _ hj; exact absurd hj (Nat.not_lt_zero j)
        | cons a r ih =>
          intro p hp i j hij hj
          obtain ⟨_, q2⟩ := goodFs_head hp
          obtain ⟨j, rfl⟩ : ∃ m, j = m + 1 := ⟨j - 1, by omega⟩
          rw [fi_cons]
          cases i with
          | zero => exact goodFs_all r a.f0 q2 j (by simpa using hj)
          | succ i => rw [fi_cons]; exact ih _ q2 i j (by omega) (by simpa using hj)
      have h6 := h5 l none hg (posF n l) j (by omega) hj
      have h7 := lessT h3 h6
      rw [he, less_irrefl] at h7
      exact absurd h7 (by decide)
theorem find1_ok (f : Fi) (n : ByteArray) : impl_Files_find_1.f f.f0 f.f1 f.f2 n = some (if Op.bytesLess f.f0.toList n.toList = true then -1 else if f.f0.toList = n.toList then 0 else 1) := by
  unfold impl_Files_find_1.f strings_Compare.f
  rw [Option.bind_some, cmpB_eq, Go.Lib.toList_data, Go.Lib.toList_data]
section
set_option linter.unusedSectionVars false
variable {l : List Fi} {n : ByteArray} (hl : l.length ≤ 1048576) (hg : goodFs none l = true)
include hl hg
theorem find_l0 : ∀ (d i j k : Nat), j - i ≤ d → i ≤ posF n l → posF n l ≤ j → j ≤ l.length → d + 10 < k →
    impl_File_string_with_impl_Files_find_1.l0 k l n (l.length : Int) (i : Int) (j : Int) = some ((posF n l : Int), hasF n l) := by
  intro d
  induction d with
  | zero =>
    intro i j k hd h1 h2 h3 hk
    obtain ⟨k, rfl⟩ : ∃ q, k = q + 1 := ⟨k - 1, by omega⟩
    obtain rfl : i = posF n l := by omega
    rw [impl_File_string_with_impl_Files_find_1.l0, if_neg (by omega)]
    by_cases c : posF n l < l.length
    · have hge := posF_ge n l none hg (posF n l) (Nat.le_refl _) c
      rw [if_pos (by omega), if_pos (by omega), if_pos (by omega), find1_ok (rd_T53 l (posF n l : Int)) n, Option.bind_some, if_neg (by rw [show (rd_T53 l (posF n l : Int)) = fi l (posF n l) from rfl, hge]; decide), hasF, decide_eq_true c, Bool.true_and]
      by_cases e : (fi l (posF n l)).f0.toList = n.toList
      · rw [if_pos e, decide_eq_true e]; rfl
      · rw [if_neg e, decide_eq_false e]; rfl
    · rw [if_neg (by omega), hasF, decide_eq_false c, Bool.false_and]
  | succ d ih =>
    intro i j k hd h1 h2 h3 hk
    obtain ⟨k, rfl⟩ : ∃ q, k = q + 1 := ⟨k - 1, by omega⟩
    by_cases hij : i < j
    · have hm : wrap64 ((IntKind.u64.wrap (wrap64 ((i : Int) + (j : Int)))) / 2) = (((i + j) / 2 : Nat) : Int) := by
        rw [w64 (x := (i : Int) + (j : Int)) (by omega) (by omega), wu64 (by omega) (by omega), w64 (by omega) (by omega)]; omega
      obtain ⟨m, hme⟩ : ∃ m, m = (i + j) / 2 := ⟨_, rfl⟩
      rw [impl_File_string_with_impl_Files_find_1.l0, if_pos (by omega), hm, ← hme, if_pos (by omega), if_pos (by omega), find1_ok (rd_T53 l (m : Int)) n, Option.bind_some]
      by_cases cb : Op.bytesLess (fi l m).f0.toList n.toList = true
      · rw [if_pos cb, if_pos (by decide), wrapS (n := l.length) (by omega) (by omega)]
        exact ih (m + 1) j k (by omega) (by
          rcases Nat.lt_or_ge m (posF n l) with q | q
          · omega
          · exact absurd cb (by rw [posF_ge n l none hg m q (by omega)]; decide)) h2 h3 (by omega)
      · rw [if_neg cb, if_neg (by split <;> decide)]
        exact ih i m k (by omega) h1 (by
          rcases Nat.lt_or_ge m (posF n l) with q | q
          · exact absurd (posF_lt n l m q) cb
          · exact q) (by omega) (by omega)
    · exact ih i j (k + 1) (by omega) h1 h2 h3 (by omega)
theorem find_ok (q : Int) {k : Nat} (hk : 2000000 < k) : impl_Files_find.f k q l n = some ((posF n l : Int), hasF n l) := by
  have h := find_l0 (n := n) hl hg l.length 0 l.length k (by omega) (Nat.zero_le _) (posF_le n l) (Nat.le_refl _) (by omega)
  rw [show ((0 : Nat) : Int) = 0 from rfl] at h
  unfold impl_Files_find.f impl_File_string_with_impl_Files_find_1.f
  rw [h, Option.bind_some]
theorem at_l0 : ∀ (d i k : Nat), i + d = l.length → d < k → (∀ j, j < i → (fi l j).f0.toList ≠ n.toList) → spec_l2At.l0 k n l (l.length : Int) (i : Int) = some (if hasF n l = true then (posF n l : Int) else -1) := by
  intro d
  induction d with
  | zero =>
    intro i k hi hk hn
    obtain ⟨k, rfl⟩ : ∃ q, k = q + 1 := ⟨k - 1, by omega⟩
    rw [spec_l2At.l0, if_neg (by omega)]
    cases e : hasF n l with
    | false => rw [if_neg (by decide)]
    | true =>
      rw [hasF, Bool.and_eq_true] at e
      exact absurd (of_decide_eq_true e.2) (hn _ (by have := of_decide_eq_true e.1; omega))
  | succ d ih =>
    intro i k hi hk hn
    obtain ⟨k, rfl⟩ : ∃ q, k = q + 1 := ⟨k - 1, by omega⟩
    rw [spec_l2At.l0, if_pos (by omega), if_pos (by omega), if_pos (by omega)]
    by_cases c : (fi l i).f0.toList = n.toList
    · rw [if_pos (show (rd_T53 l (i : Int)).f0.toList = n.toList from c)]
      cases e : hasF n l with
      | false => exact absurd c (hasF_none hg e i (by omega))
      | true =>
        rw [hasF, Bool.and_eq_true] at e
        have e1 := of_decide_eq_true e.1
        have e2 := of_decide_eq_true e.2
        have h1 : ¬ i < posF n l := fun q => by
          have := posF_lt n l i q
          rw [c, less_irrefl] at this
          exact absurd this (by decide)
        have h2 : ¬ posF n l < i := fun q => hn _ q e2
        rw [if_pos rfl, show i = posF n l by omega]
    · rw [if_neg (show ¬ (rd_T53 l (i : Int)).f0.toList = n.toList from c), wrapS (n := l.length) (by omega) (by omega)]
      exact ih (i + 1) k (by omega) (by omega) (fun j hj => by
        by_cases q : j = i
        · subst q; exact c
        · exact hn j (by omega))
theorem at_ok (q : Int) {k : Nat} (hk : 1048577 < k) : spec_l2At.f k q l n = some (if hasF n l = true then (posF n l : Int) else -1) := at_l0 hl hg l.length 0 k (by omega) (by omega) (fun j hj => absurd hj (Nat.not_lt_zero j))
end
theorem goodQ_parts {q : Int} {l : List Fi} (h : goodQ q l = true) : l.length ≤ 40 ∧ goodFs none l = true ∧ (usedF l : Int) ≤ q ∧ 0 ≤ q ∧ q ≤ 60000 := by
  unfold goodQ at h
  simp only [Bool.and_eq_true] at h
  exact ⟨of_decide_eq_true h.2.1, h.2.2.2, of_decide_eq_true h.2.2.1, of_decide_eq_true h.1.1, of_decide_eq_true h.1.2⟩
end Go.Proofs.YtmlclmbplbbbhaaDoor.Lem
end

/- What impl.changed asks of names. No conditions of its own. -/
namespace Go.Proofs.YtmlclmbplbbbhaaDoor.Lem
open Go Go.RowKit Go.Proofs.YtmlclmbplbbbhaaDoor.P Go.Proofs.YtmlclmbplbbbhaaDoorW.PrintWords Go.Proofs.YtmlclmbplbbbhaaDoorW.PrintLast Go.Proofs.YtmlclmbplbbbhaaDoorW.PrintMore
theorem changed1_ok (n : ByteArray) : impl_changed_1.f n = some (!nameF n) := by
  unfold impl_changed_1.f
  rw [isFileName_ok, Option.bind_some]
theorem names0_ok {k : Nat} (hk : 4 < k) : slices_ContainsFunc_string_string_with_impl_changed_1.f k [] = some false := by
  obtain ⟨k, rfl⟩ : ∃ q, k = q + 4 := ⟨k - 4, by omega⟩
  rfl
theorem names1_ok (n : ByteArray) {k : Nat} (hk : 4 < k) : slices_ContainsFunc_string_string_with_impl_changed_1.f k [n] = some (!nameF n) := by
  obtain ⟨k, rfl⟩ : ∃ q, k = q + 4 := ⟨k - 4, by omega⟩
  unfold slices_ContainsFunc_string_string_with_impl_changed_1.f slices_IndexFunc_string_string_with_impl_changed_1.f
  show (slices_IndexFunc_string_string_with_impl_changed_1.l0 (k + 4) [n] 1 0).bind _ = _
  rw [slices_IndexFunc_string_string_with_impl_changed_1.l0, if_pos (by decide), if_pos (by decide), if_pos (show (0 : Int) < (([n].length : Nat) : Int) by simp), show rdOf ByteArray.empty [n] 0 = n from rfl, changed1_ok, Option.bind_some]
  cases nameF n with
  | true =>
    rw [if_neg (by decide), show wrap64 (0 + 1) = 1 from w64 (by decide) (by decide), slices_IndexFunc_string_string_with_impl_changed_1.l0, if_neg (by decide), Option.bind_some]
    rfl
  | false => rw [if_pos (by rfl), Option.bind_some]; rfl
theorem names2_ok (n m : ByteArray) {k : Nat} (hk : 4 < k) : slices_ContainsFunc_string_string_with_impl_changed_1.f k [n, m] = some (!nameF n || !nameF m) := by
  obtain ⟨k, rfl⟩ : ∃ q, k = q + 4 := ⟨k - 4, by omega⟩
  unfold slices_ContainsFunc_string_string_with_impl_changed_1.f slices_IndexFunc_string_string_with_impl_changed_1.f
  show (slices_IndexFunc_string_string_with_impl_changed_1.l0 (k + 4) [n, m] 2 0).bind _ = _
  rw [slices_IndexFunc_string_string_with_impl_changed_1.l0, if_pos (by decide), if_pos (by decide), if_pos (show (0 : Int) < (([n, m].length : Nat) : Int) by simp), show rdOf ByteArray.empty [n, m] 0 = n from rfl, changed1_ok, Option.bind_some]
  cases nameF n with
  | true =>
    rw [if_neg (by decide), show wrap64 (0 + 1) = 1 from w64 (by decide) (by decide), slices_IndexFunc_string_string_with_impl_changed_1.l0, if_pos (by decide), if_pos (by decide), if_pos (show (1 : Int) < (([n, m].length : Nat) : Int) by simp), show rdOf ByteArray.empty [n, m] 1 = m from rfl, changed1_ok, Option.bind_some]
    cases nameF m with
    | true =>
      rw [if_neg (by decide), show wrap64 (1 + 1) = 2 from w64 (by decide) (by decide), slices_IndexFunc_string_string_with_impl_changed_1.l0, if_neg (by decide), Option.bind_some]
      rfl
    | false => rw [if_pos (by rfl), Option.bind_some]; rfl
  | false => rw [if_pos (by rfl), Option.bind_some]; rfl
end Go.Proofs.YtmlclmbplbbbhaaDoor.Lem

section
/- The program's AppendFile returns what the reference's returns: what FnExactAppendFile's callees answer, at all files that Go can hold. -/
set_option linter.unusedVariables false
namespace Go.Proofs.YtmlclmbplbbbhaaDoor.Pure
open Go Go.RowKit Go.Proofs.YtmlclmbplbbbhaaDoor.P Go.Proofs.YtmlclmbplbbbhaaDoorW.PrintWords Go.Proofs.YtmlclmbplbbbhaaDoorW.PrintLast Go.Proofs.YtmlclmbplbbbhaaDoorW.PrintMore Go.Proofs.YtmlclmbplbbbhaaDoor.Lem

theorem used_mem : ∀ (l : List Fi) (j : Nat), j < l.length → (fi l j).f1.length ≤ usedF l
  | [], j, h => absurd h (Nat.not_lt_zero j)
  | a :: r, 0, h => by
    show a.f1.length ≤ usedF (a :: r)
    rw [usedF]; omega
  | a :: r, j + 1, h => by
    rw [fi_cons, usedF]
    have := used_mem r j (by simpa using h)
    omega
theorem append_both (q : Int) (l : List Fi) (n : ByteArray) (d : List Int) (hl : l.length ≤ 1048576) (hh : RowsF l) (hd : d.length ≤ 1048576) {k : Nat} (hk : 3000000 < k) :
    ∃ (q' : Int) (l' : List Fi) (c : Int), spec_AppendFile.f k q l n d = some (q', l', c) ∧ impl_AppendFile.f k q l n d = some (q', l', c) ∧ l'.length ≤ 1048576 ∧ RowsF l' := by
  unfold spec_AppendFile.f impl_AppendFile.f impl_changed.g
  rw [specGood_ok hl hh q (by omega), implGood_ok hl hh q (by omega), Option.bind_some, Option.bind_some]
  cases hg : goodQ q l with
  | false => exact ⟨0, [], 1, by rw [if_neg (by decide)], by rw [if_neg (by decide)], by simp, fun x hx => by simp at hx⟩
  | true =>
    obtain ⟨h40, hs, hu, hq0, hq⟩ := goodQ_parts hg
    rw [if_pos rfl, if_pos rfl, l2Name_ok n (by omega), names1_ok n (by omega), Option.bind_some, Option.bind_some]
    cases hn : nameF n with
    | false => exact ⟨0, [], 1, by rw [if_neg (by decide)], by rw [if_pos (by rfl)], by simp, fun x hx => by simp at hx⟩
    | true =>
      rw [if_pos rfl, if_neg (by decide), own_ok hl hh q (by omega), cloned_ok hl hh q (by omega), Option.bind_some, Option.bind_some]
      unfold spec_l2Append.f impl_Files_append.f
      dsimp only
      rw [at_ok hl hs q (by omega), find_ok hl hs q (by omega), Option.bind_some, Option.bind_some]
      dsimp only
      cases hf : hasF n l with
      | false => exact ⟨q, l, 2, by rw [show (if false = true then ((posF n l : Nat) : Int) else -1) = -1 from rfl, if_pos (by decide)]; rfl, by rw [if_neg (by decide)]; rfl, hl, hh⟩
      | true =>
        have hp : posF n l < l.length := by
          unfold hasF at hf
          exact of_decide_eq_true (Bool.and_eq_true_iff.mp hf).1
        have hum := used_mem l (posF n l) hp
        have hw : wrap64 (((usedF l : Nat) : Int) + (d.length : Int)) = ((usedF l : Nat) : Int) + (d.length : Int) := w64 (by omega) (by omega)
        rw [if_pos rfl, if_neg (show ¬ ((posF n l : Nat) : Int) < 0 by omega), if_pos (show ((posF n l : Nat) : Int) < (l.length : Int) by omega), if_pos rfl, if_pos (show 0 ≤ ((posF n l : Nat) : Int) ∧ ((posF n l : Nat) : Int) < (l.length : Int) from ⟨by omega, by omega⟩), specUsed_ok hl hh q (by omega), implUsed_ok hl hh q (by omega), Option.bind_some, hw]
        by_cases c : ((usedF l : Nat) : Int) + (d.length : Int) > q
        · rw [if_pos c]
          exact ⟨q, l, 4, rfl, rfl, hl, hh⟩
        · have hb : (rd_T53 l ((posF n l : Nat) : Int)).f1.length + d.length ≤ 1000000000 := by
            show (fi l (posF n l)).f1.length + d.length ≤ 1000000000
            omega
          rw [if_neg c, if_pos hb]
          refine ⟨q, _, 0, rfl, rfl, by rw [List.length_set]; exact hl, fun x hx => ?_⟩
          rcases List.mem_or_eq_of_mem_set hx with hx | rfl
          · exact hh x hx
          · show ((fi l (posF n l)).f1 ++ d).length ≤ 1048576
            rw [List.length_append]
            omega
theorem FnExactAppendFile (q : Int) (l : List Lf) (n : ByteArray) (d : List Int) (hg : (Lit.int .i64 q).wf = true ∧ l.length ≤ maxLen ∧ ∀ e ∈ l, GFile e) (hg1 : n.size ≤ maxLen) (hg2 : d.length ≤ maxLen ∧ ∀ x ∈ d, (Lit.int .u8 x).wf = true) : ∃ k, laws_FnExactAppendFile.Ok k q l n d := by
  have hl : l.length ≤ 9223372036854775807 := maxLen_le hg.2.1
  have hh : ∀ e ∈ l, HeldF e := fun e he => heldF (hg.2.2 e he)
  obtain ⟨k, hk⟩ : ∃ k, 2000000000100 < k := ⟨2000000000101, by omega⟩
  refine ⟨k, ?_⟩
  unfold laws_FnExactAppendFile.Ok
  by_cases hs : (n.size : Int) > 1048576
  · exact .inl hs
  refine .inr ⟨by omega, ?_⟩
  by_cases hs2 : (d.length : Int) > 1048576
  · exact .inl hs2
  refine .inr ⟨by omega, ?_⟩
  obtain ⟨r, hr, hr2⟩ := szFiles_ok q hl hh (x := 1048576) (by decide) (by decide) (k := k) (by omega)
  refine ⟨r, hr, ?_⟩
  rcases hr2 with hn | ⟨hn, hn1, hl', hs'⟩
  · exact .inl hn
  refine .inr ⟨hn, ?_⟩
  have hlm : (l.map cvF).length ≤ 1048576 := by rw [List.length_map]; exact hl'
  have hsm := rowsF_map hs'
  obtain ⟨q2, l2, c, h1, h2, hl2, hs2⟩ := append_both q (l.map cvF) n d hlm hsm (by omega) (k := k) (by omega)
  have e1 := endF_le (l.map cvF) 1 hsm
  have e2 := endF_le l2 1 hs2
  have hdl : d.length ≤ 1048576 := by omega
  exact ⟨q, l.map cvF, d, q2, l2, c, _, _, _, _, _, _, toFiles_ok q hl' hs' (by omega), toBytes_ok hdl (by omega), h1, h2, eqFiles_ok q2 hl2 hs2 (by omega), eqFiles_ok q hlm hsm (by omega), eqBytes_ok hdl (by omega), markFileS_ok _ (by decide) (by decide) hlm hsm (by omega), markByteS_ok d (by omega) (by omega) (by omega) (by omega), markFileS_ok _ (by decide) (by decide) hl2 hs2 (by omega), heldFiles_ok q2 l2 (by decide) (by decide) hl2 hs2 (by omega), by omega, by omega, by omega⟩
end Go.Proofs.YtmlclmbplbbbhaaDoor.Pure
end

/- The row of laws.FnExactAppendFile: its arguments opened, the walk, and the tied card. -/
namespace Go.Proofs.YtmlclmbplbbbhaaDoor.fnExactAppendFile
open Go Go.ChangeShapes Go.WideShapes Go.ChangeAt Go.RowKit Go.Proofs.YtmlclmbplbbbhaaDoor.P Go.Proofs.YtmlclmbplbbbhaaDoorW.PrintWords Go.Proofs.YtmlclmbplbbbhaaDoorW.PrintLast Go.Proofs.YtmlclmbplbbbhaaDoorW.PrintMore Go.Proofs.YtmlclmbplbbbhaaDoor.Lem
set_option linter.unusedVariables false
theorem own : ownKnob Tryd.prog.godebug = none := by kernel_rfl
theorem laidOut : laidOutB Tryd.prog = true := by kernel_rfl
noncomputable def laidWorld (os : Os) : World := World.laidAll Tryd.prog os Rows.fnExactAppendFileRow.laid
theorem laidWorld_met (os : Os) (args : Array Value) : laidMetH Tryd.prog Rows.fnExactAppendFileRow.laid ((laidWorld os).forCall (fun _ _ => 0) ⟨#[], args, []⟩).memory := by
  rw [Go.MakeChecks.laidMetH_plain _ _ _ (by kernel_rfl)]
  exact laidMet_laidAll args (by kernel_rfl) (by kernel_rfl)

set_option maxRecDepth 100000 in
theorem lifted (os : Os) (started : os.Started) (H : Type) (enc : TypeId × Value → H) :
    ReturnsInHanded {} Tryd.checked os 3 .any (fun w args => (Rows.fnExactAppendFileSpec.pre enc Tryd.prog Tryd.f3 [] false w args ∧ laidMetH Tryd.prog Rows.fnExactAppendFileRow.laid w) ∧ sizedMet enc Tryd.prog Tryd.f3 (OpenSpec.ofChange Rows.fnExactAppendFileSpec) false w args)
      (Rows.fnExactAppendFileSpec.post enc Tryd.prog Tryd.f3 false true false false) := by
  refine returnsInHanded_of_change_and (C := Tryd.checked) (X := fun w _ => laidMetH Tryd.prog Rows.fnExactAppendFileRow.laid w) (fun _ _ _ hh h => h.of_heap hh) own started (by kernel_rfl) Tryd.func3
    (ChangeSpec.witness_at (enc := enc) (C := Tryd.checked) (os := os) (X := fun w _ => laidMetH Tryd.prog Rows.fnExactAppendFileRow.laid w) false (laidWorld os) #[.agg #[.int .i64 0, .slice none 0 0], .string ⟨#[]⟩, .slice none 0 0] 8 rfl (by kernel_rfl) (by kernel_rfl) (by kernel_rfl) (by kernel_rfl) (by kernel_rfl) (laidWorld_met os _)) ?_
  intro W base args ds gs before hval0 hW _ _ hL _
  have hval : ∀ (j : Nat) t v, Tryd.f3.params[j]? = some t → args[j]? = some v → Value.okWide Tryd.prog W .any base t v := hval0
  have hW' := hW
  obtain ⟨p, q, hA0, hV, rfl, hfz, hnd⟩ := hW
  have hA : DataW.TrodAll enc Tryd.prog W 0 (fun _ => true) true Tryd.f3.params.toList args.toList ds p := hA0
  rw [Tryd.params3] at hA hval
  obtain ⟨v0, vs0, d0, ds0, p0, q0, hargs, rfl, rfl, h0, r0⟩ := trodAll_cons hA
  obtain ⟨v1, vs1, d1, ds1, p1, q1, rfl, rfl, rfl, h1, r1⟩ := trodAll_cons r0
  obtain ⟨v2, vs2, d2, ds2, p2, q2, rfl, rfl, rfl, h2, r2⟩ := trodAll_cons r1
  obtain ⟨rfl, rfl, rfl⟩ := trodAll_nil r2
  obtain rfl : args = #[v0, v1, v2] := by cases args; simp_all
  obtain ⟨rfl, rfl⟩ := trodVars_none hV
  have k0 := h0
  have lt0 : ∀ x ∈ p0, x.block < W.heap.size := by obtain ⟨m, hm⟩ := k0; exact DataW.trod_lt m _ _ _ hm
  have k1 := h1
  have lt1 : ∀ x ∈ p1, x.block < W.heap.size := by obtain ⟨m, hm⟩ := k1; exact DataW.trod_lt m _ _ _ hm
  have k2 := h2
  have lt2 : ∀ x ∈ p2, x.block < W.heap.size := by obtain ⟨m, hm⟩ := k2; exact DataW.trod_lt m _ _ _ hm
  have hO0 : Opens enc Tryd.prog W 0 (fun _ => true) true (Kd.pair (Kd.int .i64) (Kd.slice 84 k84)) 24 _ := (opens_struct Tryd.underlying24 (by kernel_rfl) (opensF_cons (by kernel_rfl) (opens_int Tryd.underlying3) (opensF_one (by kernel_rfl) (opens_slice 84 Tryd.underlying22 (opens_iso (fun x : S84 => (x.f0, x.f1, x.f2)) (fun a => ⟨a.1, a.2.1, a.2.2⟩) (fun _ => rfl) (opens_struct Tryd.underlying84 (by kernel_rfl) (opensF_cons (by kernel_rfl) (opens_string Tryd.underlying9) (opensF_cons (by kernel_rfl) (opens_slice 5 Tryd.underlying25 (opens_int Tryd.underlying5) (by kernel_rfl)) (opensF_one (by kernel_rfl) (opens_int Tryd.underlying3)))))) (by kernel_rfl)))))
  obtain ⟨cs0, rfl, hsz0⟩ := okWide_struct Tryd.underlying24 (hval 0 24 v0 rfl rfl)
  obtain ⟨⟨a0_0, l0_1⟩, ⟨_, _, e0, rfl, ⟨A0_1, c0_1, rfl, hc0_1, hC0_1⟩⟩, hg0⟩ := hO0 _ _ _ h0.choose_spec
  obtain rfl : cs0 = #[.int .i64 a0_0, .slice A0_1 l0_1.length c0_1] := by
    have e1 : (Value.agg cs0).cells.toList = [.int .i64 a0_0, .slice A0_1 l0_1.length c0_1] := e0
    cases cs0
    simpa [Value.cells] using e1
  have hO1 : Opens enc Tryd.prog W 0 (fun _ => true) true Kd.string 9 _ := (opens_string Tryd.underlying9)
  obtain ⟨b1, rfl⟩ := okWide_string Tryd.underlying9 (hval 1 9 v1 rfl rfl)
  obtain ⟨a1, e1, hg1⟩ := hO1 _ _ _ h1.choose_spec
  obtain rfl : a1 = b1 := by
    have e1 : (Value.string b1).cells.toList = [.string a1] := e1
    simpa [Value.cells] using e1.symm
  have hO2 : Opens enc Tryd.prog W 0 (fun _ => true) true (Kd.slice 5 (Kd.int .u8)) 25 _ := (opens_slice 5 Tryd.underlying25 (opens_int Tryd.underlying5) (by kernel_rfl))
  obtain ⟨A2, n2, c2, rfl⟩ := okWide_slice Tryd.underlying25 (hval 2 25 v2 rfl rfl)
  obtain ⟨l2, ⟨A2', c2', e2, hc2, hC2⟩, hg2⟩ := hO2 _ _ _ h2.choose_spec
  obtain ⟨rfl, rfl, rfl⟩ : A2 = A2' ∧ n2 = l2.length ∧ c2 = c2' := by
    have e1 : (Value.slice A2 n2 c2).cells.toList = [.slice A2' l2.length c2'] := e2
    simpa [Value.cells] using e1
  clear hA0 hval0
  obtain ⟨k, hk⟩ := Pure.FnExactAppendFile a0_0 l0_1 a1 l2 hg0 hg1 hg2
  refine (laws_FnExactAppendFile.calls (k := k) (a0_0 := a0_0) (l0_1 := l0_1) (A0_1 := A0_1) (c0_1 := c0_1) (hr0_1 := hC0_1) (hc0_1 := hc0_1) (a1 := a1) (l2 := l2) (A2 := A2) (c2 := c2) (hr2 := hC2) (hc2 := hc2) (w := W) (h := hk)).mono fun e W' ⟨he, bel⟩ => ?_
  subst he
  exact ⟨_, rfl, _, _, _, [], _, [], hW', trodAll_mk1 (shut_bool Tryd.underlying4 _), (trodAll_cons_mk (Below.trod laidOut (by kernel_rfl) (of_decide_eq_true (by kernel_rfl)) k0 bel lt0) (trodAll_cons_mk (Below.trod laidOut (by kernel_rfl) (of_decide_eq_true (by kernel_rfl)) k1 bel lt1) (trodAll_cons_mk (Below.trod laidOut (by kernel_rfl) (of_decide_eq_true (by kernel_rfl)) k2 bel lt2) trodAll_mk0))), rfl, bel.frame _, fun h => by cases h⟩

theorem said : Rows.FnExactAppendFileSaid :=
  OpenClaim.holds_of_wide 3 Tryd.f3 rfl rfl rfl rfl rfl rfl rfl ⟨rfl, rfl, rfl, rfl, rfl⟩ rfl rfl rfl rfl rfl (by kernel_rfl) Tryd.func3 (by kernel_rfl)
    (of_decide_eq_true (by kernel_rfl)) (by unfold Func.isWrapper; first | (rw [if_pos (by decide +kernel)]; kernel_rfl) | (rw [if_neg (of_decide_eq_false (by kernel_rfl))]; exact ⟨rfl, rfl⟩))
    (fun os started H enc _ => lifted os started H enc)
theorem proved : Rows.FnExactAppendFileCardSaid :=
  Claim7.holds_tied_plain_at .later [] [.data, .pinned] true (true, "f17f0eca07c51690a4619ded57bb7d3894f853b06b03bd7acb8b0fc1f86a8723") false
    said (fun _ h => by cases h) (by kernel_rfl) (fun _ h => by cases h) fnExactAppendFile_row_tie rfl ⟨rfl, rfl⟩ (by kernel_rfl) rfl
    (fun f fn hf hfn => by
      obtain rfl : f = 3 := Option.some.inj ((show Tryd.prog.funcNamed "loop.example/g00150/laws.FnExactAppendFile" = some 3 by kernel_rfl).symm.trans hf) |>.symm
      obtain rfl : fn = Tryd.f3 := (Option.some.inj (Tryd.func3.symm.trans hfn)).symm
      exact ⟨by kernel_rfl, fun j t ht => by
        rw [Tryd.params3] at ht
        have h3 : t = 24 ∨ t = 9 ∨ t = 25 := by
          rcases j with _ | j
          · exact (.inl (by simpa using ht.symm))
          · rcases j with _ | j
            · exact .inr ((.inl (by simpa using ht.symm)))
            · rcases j with _ | j
              · exact .inr (.inr (((by simpa using ht.symm))))
              · simp at ht
        rcases h3 with rfl | rfl | rfl
        · exact (show Tryd.prog.wantsStandIn 24 = false by kernel_rfl)
        · exact (show Tryd.prog.wantsStandIn 9 = false by kernel_rfl)
        · exact (show Tryd.prog.wantsStandIn 25 = false by kernel_rfl)⟩)
    (by kernel_rfl)
#print axioms proved
end Go.Proofs.YtmlclmbplbbbhaaDoor.fnExactAppendFile
namespace Go.Proofs.YtmlclmbplbbbhaaDoor
/-- The tied card, under a short name, for the claim. -/
theorem fnExactAppendFile_holds : Rows.FnExactAppendFileCardSaid := fnExactAppendFile.proved
end Go.Proofs.YtmlclmbplbbbhaaDoor
