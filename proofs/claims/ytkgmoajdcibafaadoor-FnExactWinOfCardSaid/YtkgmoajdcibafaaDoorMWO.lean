/- The statement's own text and the last of the walks that it uses. -/
import Derived.Test.YtkgmoajdcibafaaDoorRows
import Derived.Test.YtkgmoajdcibafaaDoorTie
import Derived.Test.YtkgmoajdcibafaaDoorCards
import Derived.WalkKit
import Derived.ProofKit
import Derived.OpenShut
import Derived.ChangeOld
import Derived.Below
import Derived.Handed
import Derived.Lay
import Derived.MakeChecks
import Derived.LaidHandle
import Derived.Lib.LaidTab
import Derived.Stop.LaidErr
import Derived.JoinedOf
import Derived.SevenTiedAt
import Derived.RowKit
import Derived.Test.YtkgmoajdcibafaaDoorMWO5

/- Marks in rows of numbers, written and told again. No conditions. -/
namespace Go.Proofs.YtkgmoajdcibafaaDoor.Lem
open Go Go.RowKit Go.Proofs.YtkgmoajdcibafaaDoor.P Go.Proofs.YtkgmoajdcibafaaDoorW.PrintWords Go.Proofs.YtkgmoajdcibafaaDoorW.PrintLast Go.Proofs.YtkgmoajdcibafaaDoorW.PrintMore

def markInts : List Int → Int → List Int
  | [], _ => []
  | _ :: r, x => x :: markInts r (x + 1)
theorem markInts_length : ∀ (l : List Int) (x : Int), (markInts l x).length = l.length
  | [], _ => rfl
  | _ :: r, x => by rw [markInts, List.length_cons, List.length_cons, markInts_length r]
theorem markIntS_l0 : ∀ (rest pre : List Int) (k : Nat) (x : Int), 0 ≤ x → x + rest.length < 1000000000000000000 → pre.length + rest.length ≤ 1000000000 → rest.length < k →
    laws_markIntS.l0 k (pre ++ rest) x (pre.length : Int) = some (x + rest.length, pre ++ markInts rest x)
  | [], pre, k, x, h0, h1, h2, hk => by
    obtain ⟨k, rfl⟩ : ∃ q, k = q + 1 := ⟨k - 1, by omega⟩
    rw [laws_markIntS.l0, if_neg (by rw [List.append_nil]; omega), List.append_nil, markInts, List.append_nil]
    simp
  | a :: rest, pre, k, x, h0, h1, h2, hk => by
    obtain ⟨k, rfl⟩ : ∃ q, k = q + 1 := ⟨k - 1, by omega⟩
    rw [List.length_cons] at h1 h2 hk
    have ih := markIntS_l0 rest (pre ++ [x]) k (x + 1) (by omega) (by omega) (by rw [List.length_append, List.length_singleton]; omega) (by omega)
    rw [laws_markIntS.l0, if_pos (by rw [List.length_append, List.length_cons]; omega), if_pos (by omega), Int.toNat_natCast, set_mid _ _ _ _ rfl, w64 (by omega) (by omega),
      show wrap64 ((pre.length : Int) + 1) = ((pre ++ [x]).length : Int) from by rw [w64 (by omega) (by omega), List.length_append, List.length_singleton]; omega]
    rw [List.append_assoc, List.singleton_append] at ih
    rw [ih, markInts, List.length_cons, List.append_assoc, List.singleton_append]
    congr 2
    omega
theorem markIntS_ok (l : List Int) {k : Nat} {x : Int} (h0 : 0 ≤ x) (h1 : x + l.length < 1000000000000000000) (h2 : l.length ≤ 1000000000) (hk : l.length < k) : laws_markIntS.f k l x = some (x + l.length, markInts l x) := markIntS_l0 l [] k x h0 h1 (by simpa using h2) hk
theorem heldIntS_l0 : ∀ (rest pre : List Int) (k : Nat) (x : Int), 0 ≤ x → x + rest.length < 1000000000000000000 → pre.length + rest.length ≤ 1000000000 → rest.length < k →
    laws_heldIntS.l0 k (pre ++ markInts rest x) x (pre.length : Int) = some (x + rest.length)
  | [], pre, k, x, h0, h1, h2, hk => by
    obtain ⟨k, rfl⟩ : ∃ q, k = q + 1 := ⟨k - 1, by omega⟩
    rw [laws_heldIntS.l0, markInts, List.append_nil, if_neg (by omega)]
    simp
  | a :: rest, pre, k, x, h0, h1, h2, hk => by
    obtain ⟨k, rfl⟩ : ∃ q, k = q + 1 := ⟨k - 1, by omega⟩
    rw [List.length_cons] at h1 h2 hk
    have ih := heldIntS_l0 rest (pre ++ [x]) k (x + 1) (by omega) (by omega) (by rw [List.length_append, List.length_singleton]; omega) (by omega)
    rw [List.append_assoc, List.singleton_append] at ih
    rw [laws_heldIntS.l0, markInts, if_pos (by rw [List.length_append, List.length_cons]; omega), if_pos (by omega), show rd (pre ++ x :: markInts rest (x + 1)) (pre.length : Int) = x from getD_mid _ _ _ _ rfl, if_pos rfl, w64 (by omega) (by omega),
      show wrap64 ((pre.length : Int) + 1) = ((pre ++ [x]).length : Int) from by rw [w64 (by omega) (by omega), List.length_append, List.length_singleton]; omega, ih, List.length_cons]
    congr 1
    omega
theorem heldIntS_ok (l : List Int) {k : Nat} {x : Int} (h0 : 0 ≤ x) (h1 : x + l.length < 1000000000000000000) (h2 : l.length ≤ 1000000000) (hk : l.length < k) : laws_heldIntS.f k (markInts l x) x = some (x + l.length) := heldIntS_l0 l [] k x h0 h1 (by simpa using h2) hk
end Go.Proofs.YtkgmoajdcibafaaDoor.Lem

/- Marks as texts. No conditions. -/
namespace Go.Proofs.YtkgmoajdcibafaaDoor.Lem
open Go Go.RowKit Go.Proofs.YtkgmoajdcibafaaDoor.P Go.Proofs.YtkgmoajdcibafaaDoorW.PrintWords Go.Proofs.YtkgmoajdcibafaaDoorW.PrintLast Go.Proofs.YtkgmoajdcibafaaDoorW.PrintMore

def markTl : Nat → Int → ByteArray → ByteArray
  | 0, _, acc => (⟨#[109]⟩ : ByteArray) ++ acc
  | d + 1, x, acc => if x > 0 then markTl d (Int.tdiv x 10) ((strOfNums [(wrap64 (48 + (Int.tmod x 10))) % 256]) ++ acc) else (⟨#[109]⟩ : ByteArray) ++ acc
theorem markText_l0 : ∀ (d k : Nat) (x : Int) (acc : ByteArray), 0 ≤ x → x < 10 ^ d → x ≤ 9223372036854775807 → d < k → acc.size + d ≤ 1000 → laws_markText.l0 k x acc = some (markTl d x acc)
  | 0, k, x, acc, h0, h1, _, hk, ha => by
    obtain ⟨k, rfl⟩ : ∃ q, k = q + 1 := ⟨k - 1, by omega⟩
    have hx : ¬ x > 0 := by simp at h1; omega
    rw [laws_markText.l0, if_neg hx, if_pos (by omega)]
    rfl
  | d + 1, k, x, acc, h0, h1, hb, hk, ha => by
    obtain ⟨k, rfl⟩ : ∃ q, k = q + 1 := ⟨k - 1, by omega⟩
    rw [laws_markText.l0, markTl]
    by_cases hx : x > 0
    · have hz : (strOfNums [(wrap64 (48 + (Int.tmod x 10))) % 256]).size = 1 := rfl
      have e : Int.tdiv x 10 = x / 10 := Int.tdiv_eq_ediv_of_nonneg h0
      have hp : (10 : Int) ^ (d + 1) = 10 ^ d * 10 := Int.pow_succ 10 d
      have hlt : x / 10 < 10 ^ d := by omega
      have ih := markText_l0 d k (x / 10) ((strOfNums [(wrap64 (48 + (Int.tmod x 10))) % 256]) ++ acc) (by omega) hlt (by omega) (by omega) (by rw [ByteArray.size_append, hz]; omega)
      rw [if_pos hx, if_pos hx, Option.bind_some, hz, if_pos (by omega), e, w64 (by omega) (by omega)]
      exact ih
    · rw [if_neg hx, if_neg hx, if_pos (by omega)]
def markT (x : Int) : ByteArray := if x ≤ 0 then ⟨#[109, 48]⟩ else markTl 18 x ⟨#[]⟩
theorem markText_ok {x : Int} (h0 : 0 ≤ x) (h1 : x < 1000000000000000000) {k : Nat} (hk : 20 < k) : laws_markText.f k x = some (markT x) := by
  unfold laws_markText.f markT
  split
  · rfl
  · exact markText_l0 18 k x _ h0 (by simpa using h1) (by omega) (by omega) (by decide)
end Go.Proofs.YtkgmoajdcibafaaDoor.Lem

/- Marks that are written into rows, and told again: texts and tags. No conditions. -/
namespace Go.Proofs.YtkgmoajdcibafaaDoor.Lem
open Go Go.RowKit Go.Proofs.YtkgmoajdcibafaaDoor.P Go.Proofs.YtkgmoajdcibafaaDoorW.PrintWords Go.Proofs.YtkgmoajdcibafaaDoorW.PrintLast Go.Proofs.YtkgmoajdcibafaaDoorW.PrintMore

abbrev MTg := S123
def markTags : List MTg → Int → List MTg
  | [], _ => []
  | _ :: r, x => ⟨markT x, markT (x + 1)⟩ :: markTags r (x + 2)
theorem markTags_length : ∀ (l : List MTg) (x : Int), (markTags l x).length = l.length
  | [], _ => rfl
  | _ :: r, x => by rw [markTags, List.length_cons, List.length_cons, markTags_length r]
theorem rdTg_mid (pre : List MTg) (a : MTg) (rest : List MTg) : rd_T123 (pre ++ a :: rest) (pre.length : Int) = a := getD_mid _ _ _ _ rfl
theorem markTagS_l0 : ∀ (rest pre : List MTg) (k : Nat) (x : Int), 0 ≤ x → x + 2 * rest.length < 1000000000000000000 → pre.length + rest.length ≤ 1000000000 → rest.length + 21 < k →
    laws_markTagS.l0 k (pre ++ rest) x (pre.length : Int) = some (x + 2 * rest.length, pre ++ markTags rest x)
  | [], pre, k, x, h0, h1, h2, hk => by
    obtain ⟨k, rfl⟩ : ∃ q, k = q + 1 := ⟨k - 1, by omega⟩
    rw [laws_markTagS.l0, if_neg (by rw [List.append_nil]; omega), List.append_nil, markTags, List.append_nil]
    simp
  | a :: rest, pre, k, x, h0, h1, h2, hk => by
    obtain ⟨k, rfl⟩ : ∃ q, k = q + 1 := ⟨k - 1, by omega⟩
    rw [List.length_cons] at h1 h2 hk
    have ih := markTagS_l0 rest (pre ++ [⟨markT x, markT (x + 1)⟩]) k (x + 2) (by omega) (by omega) (by rw [List.length_append, List.length_singleton]; omega) (by omega)
    rw [laws_markTagS.l0, if_pos (by rw [List.length_append, List.length_cons]; omega), markText_ok h0 (by omega) (by omega), Option.bind_some, if_pos (by omega), Int.toNat_natCast, set_mid _ _ _ _ rfl, Option.bind_some,
      w64 (by omega) (by omega), markText_ok (by omega) (by omega) (by omega), Option.bind_some, set_mid _ _ _ _ rfl, rdTg_mid, rdTg_mid, w64 (x := x + 1 + 1) (by omega) (by omega), show wrap64 ((pre.length : Int) + 1) = ((pre ++ [(⟨markT x, markT (x + 1)⟩ : MTg)]).length : Int) from by rw [w64 (by omega) (by omega), List.length_append, List.length_singleton]; omega, show x + 1 + 1 = x + 2 from by omega]
    rw [List.append_assoc, List.singleton_append] at ih
    rw [ih, markTags, List.length_cons, List.append_assoc, List.singleton_append]
    congr 2
    omega
theorem markTagS_ok (l : List MTg) {k : Nat} {x : Int} (h0 : 0 ≤ x) (h1 : x + 2 * l.length < 1000000000000000000) (h2 : l.length ≤ 1000000000) (hk : l.length + 21 < k) : laws_markTagS.f k l x = some (x + 2 * l.length, markTags l x) := markTagS_l0 l [] k x h0 h1 (by simpa using h2) hk
theorem heldTagS_l0 : ∀ (rest pre : List MTg) (k : Nat) (x : Int), 0 ≤ x → x + 2 * rest.length < 1000000000000000000 → pre.length + rest.length ≤ 1000000000 → rest.length + 21 < k →
    laws_heldTagS.l0 k (pre ++ markTags rest x) x (pre.length : Int) = some (x + 2 * rest.length)
  | [], pre, k, x, h0, h1, h2, hk => by
    obtain ⟨k, rfl⟩ : ∃ q, k = q + 1 := ⟨k - 1, by omega⟩
    rw [laws_heldTagS.l0, markTags, List.append_nil, if_neg (by omega)]
    simp
  | a :: rest, pre, k, x, h0, h1, h2, hk => by
    obtain ⟨k, rfl⟩ : ∃ q, k = q + 1 := ⟨k - 1, by omega⟩
    rw [List.length_cons] at h1 h2 hk
    have ih := heldTagS_l0 rest (pre ++ [⟨markT x, markT (x + 1)⟩]) k (x + 2) (by omega) (by omega) (by rw [List.length_append, List.length_singleton]; omega) (by omega)
    rw [List.append_assoc, List.singleton_append] at ih
    rw [laws_heldTagS.l0, markTags, if_pos (by rw [List.length_append, List.length_cons]; omega), if_pos (by omega), markText_ok h0 (by omega) (by omega), Option.bind_some, rdTg_mid, if_pos rfl, w64 (by omega) (by omega), markText_ok (by omega) (by omega) (by omega), Option.bind_some, if_pos rfl,
      w64 (x := x + 1 + 1) (by omega) (by omega), show wrap64 ((pre.length : Int) + 1) = ((pre ++ [(⟨markT x, markT (x + 1)⟩ : MTg)]).length : Int) from by rw [w64 (by omega) (by omega), List.length_append, List.length_singleton]; omega, show x + 1 + 1 = x + 2 from by omega, ih, List.length_cons]
    congr 1
    omega
theorem heldTagS_ok (l : List MTg) {k : Nat} {x : Int} (h0 : 0 ≤ x) (h1 : x + 2 * l.length < 1000000000000000000) (h2 : l.length ≤ 1000000000) (hk : l.length + 21 < k) : laws_heldTagS.f k (markTags l x) x = some (x + 2 * l.length) := heldTagS_l0 l [] k x h0 h1 (by simpa using h2) hk
end Go.Proofs.YtkgmoajdcibafaaDoor.Lem

-- written by a program of this session's (wip/pp)
namespace Go.Proofs.YtkgmoajdcibafaaDoor.P
open Go.RowKit Go.Proofs.YtkgmoajdcibafaaDoorW.PrintWords Go.Proofs.YtkgmoajdcibafaaDoorW.PrintLast Go.Proofs.YtkgmoajdcibafaaDoorW.PrintMore
attribute [local go_sem] max2_int min2_int max_two min_two max_three min_three max_four min_four str_geq str_gtr str_leq   -- for this text's walks alone
set_option linter.unusedVariables false
set_option linter.unusedSimpArgs false

/-! ### laws_heldWinS: function 61 -/
def laws_heldWinS.l0 : Nat → List (S37) → Int → Int → Option (Int)
 | 0, _, _, _ => none
 | k + 1, x0, x1, x5 => if x5 < (x0.length : Int) then (if 0 ≤ x5 then ((laws_markText.f k x1).bind fun t102 => (if ((rd_T37 x0 x5).f0.f0).toList = t102.toList then ((laws_heldTagS.f k ((rd_T37 x0 x5).f0.f1) (wrap64 (x1 + 1))).bind fun t104 => (if t104 < 0 then (none) else (if ((rd_T37 x0 x5).f0.f2) = t104 then (if ((rd_T37 x0 x5).f1.f0) = (wrap64 (t104 + 1)) then (if ((rd_T37 x0 x5).f1.f1) = (wrap64 ((wrap64 (t104 + 1)) + 1)) then (if ((rd_T37 x0 x5).f1.f2) = (wrap64 ((wrap64 ((wrap64 (t104 + 1)) + 1)) + 1)) then (if ((rd_T37 x0 x5).f1.f3) = (wrap64 ((wrap64 ((wrap64 ((wrap64 (t104 + 1)) + 1)) + 1)) + 1)) then ((laws_heldIntS.f k ((rd_T37 x0 x5).f1.f4) (wrap64 ((wrap64 ((wrap64 ((wrap64 ((wrap64 (t104 + 1)) + 1)) + 1)) + 1)) + 1))).bind fun t111 => (if t111 < 0 then (none) else (if (((rd_T37 x0 x5).f1.f5) != ((Int.tmod t111 3) == 0)) = true then (none) else (if ((rd_T37 x0 x5).f2) = (wrap64 (t111 + 1)) then (if (((rd_T37 x0 x5).f3) != ((Int.tmod (wrap64 ((wrap64 (t111 + 1)) + 1)) 3) == 0)) = true then (none) else (laws_heldWinS.l0 k x0 (wrap64 ((wrap64 ((wrap64 (t111 + 1)) + 1)) + 1)) (wrap64 (x5 + 1)))) else (none))))) else (none)) else (none)) else (none)) else (none)) else (none)))) else (none))) else (none)) else (some x1)
def laws_heldWinS.f (k : Nat) (l0 : List (S37)) (a1 : Int) : Option (Int) := laws_heldWinS.l0 k l0 a1 0
theorem laws_heldWinS.mono_l : ∀ k, (∀ y0 y1 y2, LeO (laws_heldWinS.l0 k y0 y1 y2) (laws_heldWinS.l0 (k + 1) y0 y1 y2))
 | 0 => fun _ _ _ r h => by simp [laws_heldWinS.l0] at h
 | k + 1 => by
  have ih0 := laws_heldWinS.mono_l k; have m0 := @laws_heldIntS.mono; have m1 := @laws_heldTagS.mono; have m2 := @laws_markText.mono
  · intro y0 y1 y2
    unfold laws_heldWinS.l0
    exact moZ
theorem laws_heldWinS.mono : ∀ a0 a1 k, LeO (laws_heldWinS.f k a0 a1) (laws_heldWinS.f (k + 1) a0 a1) := by
 intro a0 a1 k
 have ih0 := laws_heldWinS.mono_l k
 have m0 := @laws_heldIntS.mono; have m1 := @laws_heldTagS.mono; have m2 := @laws_markText.mono
 unfold laws_heldWinS.f
 exact moZ
def laws_heldWinS.T4 : Bool × List (List Nat × List Nat) := (true, [([], []), ([], []), ([0, 1], [0, 1]), ([2], [2]), ([3], [3]), ([4], [4]), ([], []), ([6], [6]), ([5, 7], [5, 7])])
def laws_heldWinS.B4 : List Nat := [0, 0, 3, 7, 15, 31, 0, 64, 255]
theorem laws_heldWinS.tab4 : rtab .any (opsOf Tryd.f61 4) = laws_heldWinS.T4 := by kernel_rfl
theorem laws_heldWinS.bits4 : waitsOk laws_heldWinS.T4.2 laws_heldWinS.B4 = true := by kernel_rfl
set_option maxHeartbeats 8000000 in
set_option maxRecDepth 100000 in
theorem laws_heldWinS.calls (k : Nat) (A0 : Option Addr) (c0 : Nat) (l0 : List (S37)) (a1 : Int) (r : Int) (w : World) (hr0 : Kd.C k37 w A0 l0.length l0) (hc0 : l0.length ≤ c0) (h : laws_heldWinS.f k l0 a1 = some r) :
 Calls Tryd.prog 61 #[.slice A0 l0.length c0, .int .i64 a1] w fun e w' => e = .returned (.int .i64 r) ∧ Below w.heap.size w w' := by
 have HR0 := aM hr0
 have HC0 := aM hc0
 clear hr0 hc0
 have HB := aM (Below.refl w.heap.size w)
 have H : (laws_heldWinS.l0 k l0 a1 0) = some r := h
 clear h
 have H' := aM H
 clear H
 go_enter Tryd.func61, Tryd.ntmps61
 go_wp2
 go_loopg [1, 5] k (fun kq v1 v5 w' => ∃ (x1_1 : Int) (x5_1 : Int), v1 = .int .i64 x1_1 ∧ v5 = .int .i64 x5_1 ∧ Aside0 (laws_heldWinS.l0 kq l0 x1_1 x5_1 = some r) ∧ Aside0 (kq ≤ k) ∧ Aside0 (Below w.heap.size w w'))
 case atStart => exact ⟨(a1), (0), z4458, z4458, H', ⟨Nat.le_refl _⟩, ⟨z5acd⟩⟩
 case round =>
  clear H'
  obtain ⟨x1_1, x5_1, rfl, rfl, HA, HK1, HB⟩ := hrel
  cases gk with
  | zero => exact absurd HA.out (by simp [laws_heldWinS.l0])
  | succ k1 =>
   have H := HA.out
   clear HA
   simp only [laws_heldWinS.l0] at H
   by_cases c3 : x5_1 < (l0.length : Int)
   · rw [if_pos c3] at H
     have c3b0 := dL c3
     clear c3
     obtain ⟨c4b0, H⟩ := sE H
     obtain ⟨t102, A5, H⟩ := bS H; try dsimp only at H
     replace H := ifS H; obtain ⟨c6, H⟩ := H
     have c6b0 := eqE c6
     clear c6
     obtain ⟨t104, A7, H⟩ := bS H; try dsimp only at H
     replace H := ifN H; obtain ⟨c8, H⟩ := H
     have c8b0 := nL c8
     clear c8
     replace H := ifS H; obtain ⟨c9, H⟩ := H
     have c9b0 := eqE c9
     clear c9
     replace H := ifS H; obtain ⟨c10, H⟩ := H
     have c10b0 := eqE c10
     clear c10
     replace H := ifS H; obtain ⟨c11, H⟩ := H
     have c11b0 := eqE c11
     clear c11
     replace H := ifS H; obtain ⟨c12, H⟩ := H
     have c12b0 := eqE c12
     clear c12
     replace H := ifS H; obtain ⟨c13, H⟩ := H
     have c13b0 := eqE c13
     clear c13
     obtain ⟨t111, A14, H⟩ := bS H; try dsimp only at H
     replace H := ifN H; obtain ⟨c15, H⟩ := H
     have c15b0 := nL c15
     clear c15
     replace H := ifN H; obtain ⟨c16, H⟩ := H
     have c16b0 : (((rd_T37 l0 x5_1).f1.f5) != ((Int.tmod t111 3) == 0)) = false := by simpa using c16
     (try (have c16b1 : decide (((rd_T37 l0 x5_1).f1.f5) = ((Int.tmod t111 3) == 0)) = true := by simpa using c16))
     (try (have c16b2 : (((rd_T37 l0 x5_1).f1.f5) == ((Int.tmod t111 3) == 0)) = true := by simpa using c16))
     clear c16
     replace H := ifS H; obtain ⟨c17, H⟩ := H
     have c17b0 := eqE c17
     clear c17
     replace H := ifN H; obtain ⟨c18, H⟩ := H
     have c18b0 : (((rd_T37 l0 x5_1).f3) != ((Int.tmod (wrap64 ((wrap64 (t111 + 1)) + 1)) 3) == 0)) = false := by simpa using c18
     (try (have c18b1 : decide (((rd_T37 l0 x5_1).f3) = ((Int.tmod (wrap64 ((wrap64 (t111 + 1)) + 1)) 3) == 0)) = true := by simpa using c18))
     (try (have c18b2 : (((rd_T37 l0 x5_1).f3) == ((Int.tmod (wrap64 ((wrap64 (t111 + 1)) + 1)) 3) == 0)) = true := by simpa using c18))
     clear c18
     have H' := aM H
     clear H
     try go_wp2
     have _ := aM (below_drew1 HB.out)
     clear HB
     rename_i HB
     have p101 : 0 ≤ (x5_1 : Int) := of_decide_eq_true z1200
     have q101 : x5_1 < (l0.length : Int) := of_decide_eq_true z1200
     obtain ⟨ad101, A101_1, c101_1, A101_7, c101_7, e101, hx101_0, hx101_1, hx101_2, hx101_3, hx101_4, hx101_5, hx101_6, hx101_7, hx101_8, hx101_9, hx101_10, hl101_1, hi101_1, hl101_7, hi101_7⟩ := at_T37 HR0.out x5_1 p101 q101
     have hw101_10 := hx101_10
     have hw101_9 := hx101_9
     have hw101_8 := hx101_8
     have hw101_7 := hx101_7
     have hw101_6 := hx101_6
     have hw101_5 := hx101_5
     have hw101_4 := hx101_4
     have hw101_3 := hx101_3
     have hw101_2 := hx101_2
     have hw101_1 := hx101_1
     have hw101_0 := hx101_0
     cases e101
     have TW101_1 := aM hx101_1
     have TW101_7 := aM hx101_7
     replace hx101_0 := (HB.out.cell (World.block_lt_of_cell? w _ hx101_0)).trans hx101_0
     replace hx101_1 := (HB.out.cell (World.block_lt_of_cell? w _ hx101_1)).trans hx101_1
     replace hx101_2 := (HB.out.cell (World.block_lt_of_cell? w _ hx101_2)).trans hx101_2
     replace hx101_3 := (HB.out.cell (World.block_lt_of_cell? w _ hx101_3)).trans hx101_3
     replace hx101_4 := (HB.out.cell (World.block_lt_of_cell? w _ hx101_4)).trans hx101_4
     replace hx101_5 := (HB.out.cell (World.block_lt_of_cell? w _ hx101_5)).trans hx101_5
     replace hx101_6 := (HB.out.cell (World.block_lt_of_cell? w _ hx101_6)).trans hx101_6
     replace hx101_7 := (HB.out.cell (World.block_lt_of_cell? w _ hx101_7)).trans hx101_7
     replace hx101_8 := (HB.out.cell (World.block_lt_of_cell? w _ hx101_8)).trans hx101_8
     replace hx101_9 := (HB.out.cell (World.block_lt_of_cell? w _ hx101_9)).trans hx101_9
     replace hx101_10 := (HB.out.cell (World.block_lt_of_cell? w _ hx101_10)).trans hx101_10
     have HR101_1 := aM hi101_1
     have HC101_1 := aM hl101_1
     clear hi101_1 hl101_1
     have HR101_7 := aM hi101_7
     have HC101_7 := aM hl101_7
     clear hi101_7 hl101_7
     replace p101 := eq_true p101
     replace q101 := eq_true q101
     refine sA 9 laws_heldWinS.tab4 laws_heldWinS.bits4 (fun w' => w'.cell? (ad101.add ((x5_1).toNat * 11)) = some (.string ((rd_T37 l0 x5_1).f0.f0)) ∧ w'.cell? ⟨(ad101.add ((x5_1).toNat * 11)).block, (ad101.add ((x5_1).toNat * 11)).off + 1, none⟩ = some (.slice A101_1 ((rd_T37 l0 x5_1).f0.f1).length c101_1) ∧ w'.cell? ⟨(ad101.add ((x5_1).toNat * 11)).block, (ad101.add ((x5_1).toNat * 11)).off + 2, none⟩ = some (.int .i64 ((rd_T37 l0 x5_1).f0.f2)) ∧ w'.cell? ⟨(ad101.add ((x5_1).toNat * 11)).block, (ad101.add ((x5_1).toNat * 11)).off + 3, none⟩ = some (.int .i64 ((rd_T37 l0 x5_1).f1.f0)) ∧ w'.cell? ⟨(ad101.add ((x5_1).toNat * 11)).block, (ad101.add ((x5_1).toNat * 11)).off + 4, none⟩ = some (.int .i64 ((rd_T37 l0 x5_1).f1.f1)) ∧ w'.cell? ⟨(ad101.add ((x5_1).toNat * 11)).block, (ad101.add ((x5_1).toNat * 11)).off + 5, none⟩ = some (.int .i64 ((rd_T37 l0 x5_1).f1.f2)) ∧ w'.cell? ⟨(ad101.add ((x5_1).toNat * 11)).block, (ad101.add ((x5_1).toNat * 11)).off + 6, none⟩ = some (.int .i64 ((rd_T37 l0 x5_1).f1.f3)) ∧ w'.cell? ⟨(ad101.add ((x5_1).toNat * 11)).block, (ad101.add ((x5_1).toNat * 11)).off + 7, none⟩ = some (.slice A101_7 ((rd_T37 l0 x5_1).f1.f4).length c101_7) ∧ w'.cell? ⟨(ad101.add ((x5_1).toNat * 11)).block, (ad101.add ((x5_1).toNat * 11)).off + 8, none⟩ = some (.bool ((rd_T37 l0 x5_1).f1.f5)) ∧ w'.cell? ⟨(ad101.add ((x5_1).toNat * 11)).block, (ad101.add ((x5_1).toNat * 11)).off + 9, none⟩ = some (.int .i64 ((rd_T37 l0 x5_1).f2)) ∧ w'.cell? ⟨(ad101.add ((x5_1).toNat * 11)).block, (ad101.add ((x5_1).toNat * 11)).off + 10, none⟩ = some (.bool ((rd_T37 l0 x5_1).f3))) [] (fun hHeld HT_ HW_ => ?_)
     generalize wr.drew = w19 at HB HR101_1 HR101_7 hx101_0 hx101_1 hx101_10 hx101_2 hx101_3 hx101_4 hx101_5 hx101_6 hx101_7 hx101_8 hx101_9 hHeld ⊢
     refine pA 0 12 HT_ ?_; refine pA 1 13 HT_ ?_; refine pA 2 14 HT_ ?_; refine pA 3 15 HT_ ?_; refine pA 4 16 HT_ ?_; refine pA 6 18 HT_ ?_; refine tA 5 17 HT_ HW_ hHeld ?_; refine oA 7 19 HT_ (fun K hK => ?_)
     refine goes_ Tryd.func75 (by kernel_rfl) rfl #[.int .i64 x1_1] (by rfl) rfl rfl zee81 ?_
     with_reducible refine (laws_markText.calls k1 x1_1 t102 _ A5.out).mono ?_
     rintro e w20 ⟨rfl, hb⟩
     refine ⟨_, rfl, ?_⟩
     have _ := aM (below_step hbZ hb)
     clear HB
     rename_i HB
     (try clear hb)
     refine hK.out _ _ sZ (fun hHeld => ?_)
     clear hK K
     refine nA 19 ?_; refine pA 8 20 HT_ ?_
     refine done_ (done_of HT_.out (by kernel_rfl)) ?_
     have p103 : 0 ≤ (x5_1 : Int) := of_decide_eq_true z1200
     have q103 : x5_1 < (l0.length : Int) := of_decide_eq_true z1200
     obtain ⟨ad103, A103_1, c103_1, A103_7, c103_7, e103, hx103_0, hx103_1, hx103_2, hx103_3, hx103_4, hx103_5, hx103_6, hx103_7, hx103_8, hx103_9, hx103_10, hl103_1, hi103_1, hl103_7, hi103_7⟩ := at_T37 HR0.out x5_1 p103 q103
     obtain rfl : ad101 = ad103 := (by injection e103)
     (try (have ez_ := hx103_1.symm.trans TW101_1.out; simp only [Option.some.injEq, Value.slice.injEq, true_and] at ez_; obtain ⟨ez1_, ez2_⟩ := ez_; subst ez1_ ez2_))
     (try (have ez_ := hx103_7.symm.trans TW101_7.out; simp only [Option.some.injEq, Value.slice.injEq, true_and] at ez_; obtain ⟨ez1_, ez2_⟩ := ez_; subst ez1_ ez2_))
     have TW103_1 := aM hx103_1
     have TW103_7 := aM hx103_7
     replace hx103_0 := (HB.out.cell (World.block_lt_of_cell? w _ hx103_0)).trans hx103_0
     replace hx103_1 := (HB.out.cell (World.block_lt_of_cell? w _ hx103_1)).trans hx103_1
     replace hx103_2 := (HB.out.cell (World.block_lt_of_cell? w _ hx103_2)).trans hx103_2
     replace hx103_3 := (HB.out.cell (World.block_lt_of_cell? w _ hx103_3)).trans hx103_3
     replace hx103_4 := (HB.out.cell (World.block_lt_of_cell? w _ hx103_4)).trans hx103_4
     replace hx103_5 := (HB.out.cell (World.block_lt_of_cell? w _ hx103_5)).trans hx103_5
     replace hx103_6 := (HB.out.cell (World.block_lt_of_cell? w _ hx103_6)).trans hx103_6
     replace hx103_7 := (HB.out.cell (World.block_lt_of_cell? w _ hx103_7)).trans hx103_7
     replace hx103_8 := (HB.out.cell (World.block_lt_of_cell? w _ hx103_8)).trans hx103_8
     replace hx103_9 := (HB.out.cell (World.block_lt_of_cell? w _ hx103_9)).trans hx103_9
     replace hx103_10 := (HB.out.cell (World.block_lt_of_cell? w _ hx103_10)).trans hx103_10
     have HR103_1 := aM hi103_1
     have HC103_1 := aM hl103_1
     clear hi103_1 hl103_1
     have HR103_7 := aM hi103_7
     have HC103_7 := aM hl103_7
     clear hi103_7 hl103_7
     replace p103 := eq_true p103
     replace q103 := eq_true q103
     try go_wp2_with (first | ((with_reducible refine gate_callee (f := 77) rfl ?_); refine gL 30 Tryd.func77 #[.slice A103_1 ((rd_T37 l0 x5_1).f0.f1).length c103_1, .int .i64 (wrap64 (x1_1 + 1))] ?_; (with_reducible refine (laws_heldTagS.calls k1 _ _ ((rd_T37 l0 x5_1).f0.f1) (wrap64 (x1_1 + 1)) t104 _ ?side1 ?side2 A7.out).mono ?_); (case side1 => exact (cZ (Kd.C_below HR103_1.out HB.out))); (case side2 => exact HC103_1.out); rintro e w21 ⟨rfl, hb⟩; refine ⟨_, rfl, ?_⟩; have _ := aM (below_step hbZ hb); clear HB; rename_i HB; (try clear hb); have p105 : 0 ≤ (x5_1 : Int) := of_decide_eq_true z1200; have q105 : x5_1 < (l0.length : Int) := of_decide_eq_true z1200; obtain ⟨ad105, A105_1, c105_1, A105_7, c105_7, e105, hx105_0, hx105_1, hx105_2, hx105_3, hx105_4, hx105_5, hx105_6, hx105_7, hx105_8, hx105_9, hx105_10, hl105_1, hi105_1, hl105_7, hi105_7⟩ := at_T37 HR0.out x5_1 p105 q105; obtain rfl : ad101 = ad105 := (by injection e105); (try (have ez_ := hx105_1.symm.trans TW101_1.out; simp only [Option.some.injEq, Value.slice.injEq, true_and] at ez_; obtain ⟨ez1_, ez2_⟩ := ez_; subst ez1_ ez2_)); (try (have ez_ := hx105_7.symm.trans TW101_7.out; simp only [Option.some.injEq, Value.slice.injEq, true_and] at ez_; obtain ⟨ez1_, ez2_⟩ := ez_; subst ez1_ ez2_)); (try (have ez_ := hx105_1.symm.trans TW103_1.out; simp only [Option.some.injEq, Value.slice.injEq, true_and] at ez_; obtain ⟨ez1_, ez2_⟩ := ez_; subst ez1_ ez2_)); (try (have ez_ := hx105_7.symm.trans TW103_7.out; simp only [Option.some.injEq, Value.slice.injEq, true_and] at ez_; obtain ⟨ez1_, ez2_⟩ := ez_; subst ez1_ ez2_)); have TW105_1 := aM hx105_1; have TW105_7 := aM hx105_7; replace hx105_0 := (HB.out.cell (World.block_lt_of_cell? w _ hx105_0)).trans hx105_0; replace hx105_1 := (HB.out.cell (World.block_lt_of_cell? w _ hx105_1)).trans hx105_1; replace hx105_2 := (HB.out.cell (World.block_lt_of_cell? w _ hx105_2)).trans hx105_2; replace hx105_3 := (HB.out.cell (World.block_lt_of_cell? w _ hx105_3)).trans hx105_3; replace hx105_4 := (HB.out.cell (World.block_lt_of_cell? w _ hx105_4)).trans hx105_4; replace hx105_5 := (HB.out.cell (World.block_lt_of_cell? w _ hx105_5)).trans hx105_5; replace hx105_6 := (HB.out.cell (World.block_lt_of_cell? w _ hx105_6)).trans hx105_6; replace hx105_7 := (HB.out.cell (World.block_lt_of_cell? w _ hx105_7)).trans hx105_7; replace hx105_8 := (HB.out.cell (World.block_lt_of_cell? w _ hx105_8)).trans hx105_8; replace hx105_9 := (HB.out.cell (World.block_lt_of_cell? w _ hx105_9)).trans hx105_9; replace hx105_10 := (HB.out.cell (World.block_lt_of_cell? w _ hx105_10)).trans hx105_10; have HR105_1 := aM hi105_1; have HC105_1 := aM hl105_1; clear hi105_1 hl105_1; have HR105_7 := aM hi105_7; have HC105_7 := aM hl105_7; clear hi105_7 hl105_7; replace p105 := eq_true p105; replace q105 := eq_true q105; have p106 : 0 ≤ (x5_1 : Int) := of_decide_eq_true z1200; have q106 : x5_1 < (l0.length : Int) := of_decide_eq_true z1200; obtain ⟨ad106, A106_1, c106_1, A106_7, c106_7, e106, hx106_0, hx106_1, hx106_2, hx106_3, hx106_4, hx106_5, hx106_6, hx106_7, hx106_8, hx106_9, hx106_10, hl106_1, hi106_1, hl106_7, hi106_7⟩ := at_T37 HR0.out x5_1 p106 q106; obtain rfl : ad101 = ad106 := (by injection e106); replace hx106_0 := (HB.out.cell (World.block_lt_of_cell? w _ hx106_0)).trans hx106_0; replace hx106_1 := (HB.out.cell (World.block_lt_of_cell? w _ hx106_1)).trans hx106_1; replace hx106_2 := (HB.out.cell (World.block_lt_of_cell? w _ hx106_2)).trans hx106_2; replace hx106_3 := (HB.out.cell (World.block_lt_of_cell? w _ hx106_3)).trans hx106_3; replace hx106_4 := (HB.out.cell (World.block_lt_of_cell? w _ hx106_4)).trans hx106_4; replace hx106_5 := (HB.out.cell (World.block_lt_of_cell? w _ hx106_5)).trans hx106_5; replace hx106_6 := (HB.out.cell (World.block_lt_of_cell? w _ hx106_6)).trans hx106_6; replace hx106_7 := (HB.out.cell (World.block_lt_of_cell? w _ hx106_7)).trans hx106_7; replace hx106_8 := (HB.out.cell (World.block_lt_of_cell? w _ hx106_8)).trans hx106_8; replace hx106_9 := (HB.out.cell (World.block_lt_of_cell? w _ hx106_9)).trans hx106_9; replace hx106_10 := (HB.out.cell (World.block_lt_of_cell? w _ hx106_10)).trans hx106_10; have HR106_1 := aM hi106_1; have HC106_1 := aM hl106_1; clear hi106_1 hl106_1; have HR106_7 := aM hi106_7; have HC106_7 := aM hl106_7; clear hi106_7 hl106_7; replace p106 := eq_true p106; replace q106 := eq_true q106; have ea_ := Option.some.inj (hx105_1.symm.trans hx106_1); injection ea_ with ea_ en_ ec_; subst ea_; subst ec_; clear en_; have ea_ := Option.some.inj (hx105_7.symm.trans hx106_7); injection ea_ with ea_ en_ ec_; subst ea_; subst ec_; clear en_; have p107 : 0 ≤ (x5_1 : Int) := of_decide_eq_true z1200; have q107 : x5_1 < (l0.length : Int) := of_decide_eq_true z1200; obtain ⟨ad107, A107_1, c107_1, A107_7, c107_7, e107, hx107_0, hx107_1, hx107_2, hx107_3, hx107_4, hx107_5, hx107_6, hx107_7, hx107_8, hx107_9, hx107_10, hl107_1, hi107_1, hl107_7, hi107_7⟩ := at_T37 HR0.out x5_1 p107 q107; obtain rfl : ad101 = ad107 := (by injection e107); replace hx107_0 := (HB.out.cell (World.block_lt_of_cell? w _ hx107_0)).trans hx107_0; replace hx107_1 := (HB.out.cell (World.block_lt_of_cell? w _ hx107_1)).trans hx107_1; replace hx107_2 := (HB.out.cell (World.block_lt_of_cell? w _ hx107_2)).trans hx107_2; replace hx107_3 := (HB.out.cell (World.block_lt_of_cell? w _ hx107_3)).trans hx107_3; replace hx107_4 := (HB.out.cell (World.block_lt_of_cell? w _ hx107_4)).trans hx107_4; replace hx107_5 := (HB.out.cell (World.block_lt_of_cell? w _ hx107_5)).trans hx107_5; replace hx107_6 := (HB.out.cell (World.block_lt_of_cell? w _ hx107_6)).trans hx107_6; replace hx107_7 := (HB.out.cell (World.block_lt_of_cell? w _ hx107_7)).trans hx107_7; replace hx107_8 := (HB.out.cell (World.block_lt_of_cell? w _ hx107_8)).trans hx107_8; replace hx107_9 := (HB.out.cell (World.block_lt_of_cell? w _ hx107_9)).trans hx107_9; replace hx107_10 := (HB.out.cell (World.block_lt_of_cell? w _ hx107_10)).trans hx107_10; have HR107_1 := aM hi107_1; have HC107_1 := aM hl107_1; clear hi107_1 hl107_1; have HR107_7 := aM hi107_7; have HC107_7 := aM hl107_7; clear hi107_7 hl107_7; replace p107 := eq_true p107; replace q107 := eq_true q107; have ea_ := Option.some.inj (hx105_1.symm.trans hx107_1); injection ea_ with ea_ en_ ec_; subst ea_; subst ec_; clear en_; have ea_ := Option.some.inj (hx105_7.symm.trans hx107_7); injection ea_ with ea_ en_ ec_; subst ea_; subst ec_; clear en_; have p108 : 0 ≤ (x5_1 : Int) := of_decide_eq_true z1200; have q108 : x5_1 < (l0.length : Int) := of_decide_eq_true z1200; obtain ⟨ad108, A108_1, c108_1, A108_7, c108_7, e108, hx108_0, hx108_1, hx108_2, hx108_3, hx108_4, hx108_5, hx108_6, hx108_7, hx108_8, hx108_9, hx108_10, hl108_1, hi108_1, hl108_7, hi108_7⟩ := at_T37 HR0.out x5_1 p108 q108; obtain rfl : ad101 = ad108 := (by injection e108); replace hx108_0 := (HB.out.cell (World.block_lt_of_cell? w _ hx108_0)).trans hx108_0; replace hx108_1 := (HB.out.cell (World.block_lt_of_cell? w _ hx108_1)).trans hx108_1; replace hx108_2 := (HB.out.cell (World.block_lt_of_cell? w _ hx108_2)).trans hx108_2; replace hx108_3 := (HB.out.cell (World.block_lt_of_cell? w _ hx108_3)).trans hx108_3; replace hx108_4 := (HB.out.cell (World.block_lt_of_cell? w _ hx108_4)).trans hx108_4; replace hx108_5 := (HB.out.cell (World.block_lt_of_cell? w _ hx108_5)).trans hx108_5; replace hx108_6 := (HB.out.cell (World.block_lt_of_cell? w _ hx108_6)).trans hx108_6; replace hx108_7 := (HB.out.cell (World.block_lt_of_cell? w _ hx108_7)).trans hx108_7; replace hx108_8 := (HB.out.cell (World.block_lt_of_cell? w _ hx108_8)).trans hx108_8; replace hx108_9 := (HB.out.cell (World.block_lt_of_cell? w _ hx108_9)).trans hx108_9; replace hx108_10 := (HB.out.cell (World.block_lt_of_cell? w _ hx108_10)).trans hx108_10; have HR108_1 := aM hi108_1; have HC108_1 := aM hl108_1; clear hi108_1 hl108_1; have HR108_7 := aM hi108_7; have HC108_7 := aM hl108_7; clear hi108_7 hl108_7; replace p108 := eq_true p108; replace q108 := eq_true q108; have ea_ := Option.some.inj (hx105_1.symm.trans hx108_1); injection ea_ with ea_ en_ ec_; subst ea_; subst ec_; clear en_; have ea_ := Option.some.inj (hx105_7.symm.trans hx108_7); injection ea_ with ea_ en_ ec_; subst ea_; subst ec_; clear en_; have p109 : 0 ≤ (x5_1 : Int) := of_decide_eq_true z1200; have q109 : x5_1 < (l0.length : Int) := of_decide_eq_true z1200; obtain ⟨ad109, A109_1, c109_1, A109_7, c109_7, e109, hx109_0, hx109_1, hx109_2, hx109_3, hx109_4, hx109_5, hx109_6, hx109_7, hx109_8, hx109_9, hx109_10, hl109_1, hi109_1, hl109_7, hi109_7⟩ := at_T37 HR0.out x5_1 p109 q109; obtain rfl : ad101 = ad109 := (by injection e109); replace hx109_0 := (HB.out.cell (World.block_lt_of_cell? w _ hx109_0)).trans hx109_0; replace hx109_1 := (HB.out.cell (World.block_lt_of_cell? w _ hx109_1)).trans hx109_1; replace hx109_2 := (HB.out.cell (World.block_lt_of_cell? w _ hx109_2)).trans hx109_2; replace hx109_3 := (HB.out.cell (World.block_lt_of_cell? w _ hx109_3)).trans hx109_3; replace hx109_4 := (HB.out.cell (World.block_lt_of_cell? w _ hx109_4)).trans hx109_4; replace hx109_5 := (HB.out.cell (World.block_lt_of_cell? w _ hx109_5)).trans hx109_5; replace hx109_6 := (HB.out.cell (World.block_lt_of_cell? w _ hx109_6)).trans hx109_6; replace hx109_7 := (HB.out.cell (World.block_lt_of_cell? w _ hx109_7)).trans hx109_7; replace hx109_8 := (HB.out.cell (World.block_lt_of_cell? w _ hx109_8)).trans hx109_8; replace hx109_9 := (HB.out.cell (World.block_lt_of_cell? w _ hx109_9)).trans hx109_9; replace hx109_10 := (HB.out.cell (World.block_lt_of_cell? w _ hx109_10)).trans hx109_10; have HR109_1 := aM hi109_1; have HC109_1 := aM hl109_1; clear hi109_1 hl109_1; have HR109_7 := aM hi109_7; have HC109_7 := aM hl109_7; clear hi109_7 hl109_7; replace p109 := eq_true p109; replace q109 := eq_true q109; have ea_ := Option.some.inj (hx105_1.symm.trans hx109_1); injection ea_ with ea_ en_ ec_; subst ea_; subst ec_; clear en_; have ea_ := Option.some.inj (hx105_7.symm.trans hx109_7); injection ea_ with ea_ en_ ec_; subst ea_; subst ec_; clear en_; have p110 : 0 ≤ (x5_1 : Int) := of_decide_eq_true z1200; have q110 : x5_1 < (l0.length : Int) := of_decide_eq_true z1200; obtain ⟨ad110, A110_1, c110_1, A110_7, c110_7, e110, hx110_0, hx110_1, hx110_2, hx110_3, hx110_4, hx110_5, hx110_6, hx110_7, hx110_8, hx110_9, hx110_10, hl110_1, hi110_1, hl110_7, hi110_7⟩ := at_T37 HR0.out x5_1 p110 q110; obtain rfl : ad101 = ad110 := (by injection e110); replace hx110_0 := (HB.out.cell (World.block_lt_of_cell? w _ hx110_0)).trans hx110_0; replace hx110_1 := (HB.out.cell (World.block_lt_of_cell? w _ hx110_1)).trans hx110_1; replace hx110_2 := (HB.out.cell (World.block_lt_of_cell? w _ hx110_2)).trans hx110_2; replace hx110_3 := (HB.out.cell (World.block_lt_of_cell? w _ hx110_3)).trans hx110_3; replace hx110_4 := (HB.out.cell (World.block_lt_of_cell? w _ hx110_4)).trans hx110_4; replace hx110_5 := (HB.out.cell (World.block_lt_of_cell? w _ hx110_5)).trans hx110_5; replace hx110_6 := (HB.out.cell (World.block_lt_of_cell? w _ hx110_6)).trans hx110_6; replace hx110_7 := (HB.out.cell (World.block_lt_of_cell? w _ hx110_7)).trans hx110_7; replace hx110_8 := (HB.out.cell (World.block_lt_of_cell? w _ hx110_8)).trans hx110_8; replace hx110_9 := (HB.out.cell (World.block_lt_of_cell? w _ hx110_9)).trans hx110_9; replace hx110_10 := (HB.out.cell (World.block_lt_of_cell? w _ hx110_10)).trans hx110_10; have HR110_1 := aM hi110_1; have HC110_1 := aM hl110_1; clear hi110_1 hl110_1; have HR110_7 := aM hi110_7; have HC110_7 := aM hl110_7; clear hi110_7 hl110_7; replace p110 := eq_true p110; replace q110 := eq_true q110; have ea_ := Option.some.inj (hx105_1.symm.trans hx110_1); injection ea_ with ea_ en_ ec_; subst ea_; subst ec_; clear en_; have ea_ := Option.some.inj (hx105_7.symm.trans hx110_7); injection ea_ with ea_ en_ ec_; subst ea_; subst ec_; clear en_) | ((with_reducible refine gate_callee (f := 78) rfl ?_); refine gL 90 Tryd.func78 #[.slice A105_7 ((rd_T37 l0 x5_1).f1.f4).length c105_7, .int .i64 (wrap64 ((wrap64 ((wrap64 ((wrap64 ((wrap64 (t104 + 1)) + 1)) + 1)) + 1)) + 1))] ?_; (with_reducible refine (laws_heldIntS.calls k1 _ _ ((rd_T37 l0 x5_1).f1.f4) (wrap64 ((wrap64 ((wrap64 ((wrap64 ((wrap64 (t104 + 1)) + 1)) + 1)) + 1)) + 1)) t111 _ ?side1 ?side2 A14.out).mono ?_); (case side1 => exact (cZ (Kd.C_below HR110_7.out HB.out))); (case side2 => exact HC110_7.out); rintro e w' ⟨rfl, ⟨nd, rfl⟩⟩; refine ⟨_, rfl, ?_⟩; have p112 : 0 ≤ (x5_1 : Int) := of_decide_eq_true z1200; have q112 : x5_1 < (l0.length : Int) := of_decide_eq_true z1200; obtain ⟨ad112, A112_1, c112_1, A112_7, c112_7, e112, hx112_0, hx112_1, hx112_2, hx112_3, hx112_4, hx112_5, hx112_6, hx112_7, hx112_8, hx112_9, hx112_10, hl112_1, hi112_1, hl112_7, hi112_7⟩ := at_T37 HR0.out x5_1 p112 q112; obtain rfl : ad101 = ad112 := (by injection e112); replace hx112_0 := (HB.out.cell (World.block_lt_of_cell? w _ hx112_0)).trans hx112_0; replace hx112_1 := (HB.out.cell (World.block_lt_of_cell? w _ hx112_1)).trans hx112_1; replace hx112_2 := (HB.out.cell (World.block_lt_of_cell? w _ hx112_2)).trans hx112_2; replace hx112_3 := (HB.out.cell (World.block_lt_of_cell? w _ hx112_3)).trans hx112_3; replace hx112_4 := (HB.out.cell (World.block_lt_of_cell? w _ hx112_4)).trans hx112_4; replace hx112_5 := (HB.out.cell (World.block_lt_of_cell? w _ hx112_5)).trans hx112_5; replace hx112_6 := (HB.out.cell (World.block_lt_of_cell? w _ hx112_6)).trans hx112_6; replace hx112_7 := (HB.out.cell (World.block_lt_of_cell? w _ hx112_7)).trans hx112_7; replace hx112_8 := (HB.out.cell (World.block_lt_of_cell? w _ hx112_8)).trans hx112_8; replace hx112_9 := (HB.out.cell (World.block_lt_of_cell? w _ hx112_9)).trans hx112_9; replace hx112_10 := (HB.out.cell (World.block_lt_of_cell? w _ hx112_10)).trans hx112_10; have HR112_1 := aM hi112_1; have HC112_1 := aM hl112_1; clear hi112_1 hl112_1; have HR112_7 := aM hi112_7; have HC112_7 := aM hl112_7; clear hi112_7 hl112_7; replace p112 := eq_true p112; replace q112 := eq_true q112; have ea_ := Option.some.inj (hx105_1.symm.trans hx112_1); injection ea_ with ea_ en_ ec_; subst ea_; subst ec_; clear en_; have ea_ := Option.some.inj (hx105_7.symm.trans hx112_7); injection ea_ with ea_ en_ ec_; subst ea_; subst ec_; clear en_; have p113 : 0 ≤ (x5_1 : Int) := of_decide_eq_true z1200; have q113 : x5_1 < (l0.length : Int) := of_decide_eq_true z1200; obtain ⟨ad113, A113_1, c113_1, A113_7, c113_7, e113, hx113_0, hx113_1, hx113_2, hx113_3, hx113_4, hx113_5, hx113_6, hx113_7, hx113_8, hx113_9, hx113_10, hl113_1, hi113_1, hl113_7, hi113_7⟩ := at_T37 HR0.out x5_1 p113 q113; obtain rfl : ad101 = ad113 := (by injection e113); replace hx113_0 := (HB.out.cell (World.block_lt_of_cell? w _ hx113_0)).trans hx113_0; replace hx113_1 := (HB.out.cell (World.block_lt_of_cell? w _ hx113_1)).trans hx113_1; replace hx113_2 := (HB.out.cell (World.block_lt_of_cell? w _ hx113_2)).trans hx113_2; replace hx113_3 := (HB.out.cell (World.block_lt_of_cell? w _ hx113_3)).trans hx113_3; replace hx113_4 := (HB.out.cell (World.block_lt_of_cell? w _ hx113_4)).trans hx113_4; replace hx113_5 := (HB.out.cell (World.block_lt_of_cell? w _ hx113_5)).trans hx113_5; replace hx113_6 := (HB.out.cell (World.block_lt_of_cell? w _ hx113_6)).trans hx113_6; replace hx113_7 := (HB.out.cell (World.block_lt_of_cell? w _ hx113_7)).trans hx113_7; replace hx113_8 := (HB.out.cell (World.block_lt_of_cell? w _ hx113_8)).trans hx113_8; replace hx113_9 := (HB.out.cell (World.block_lt_of_cell? w _ hx113_9)).trans hx113_9; replace hx113_10 := (HB.out.cell (World.block_lt_of_cell? w _ hx113_10)).trans hx113_10; have HR113_1 := aM hi113_1; have HC113_1 := aM hl113_1; clear hi113_1 hl113_1; have HR113_7 := aM hi113_7; have HC113_7 := aM hl113_7; clear hi113_7 hl113_7; replace p113 := eq_true p113; replace q113 := eq_true q113; have ea_ := Option.some.inj (hx105_1.symm.trans hx113_1); injection ea_ with ea_ en_ ec_; subst ea_; subst ec_; clear en_; have ea_ := Option.some.inj (hx105_7.symm.trans hx113_7); injection ea_ with ea_ en_ ec_; subst ea_; subst ec_; clear en_; have p114 : 0 ≤ (x5_1 : Int) := of_decide_eq_true z1200; have q114 : x5_1 < (l0.length : Int) := of_decide_eq_true z1200; obtain ⟨ad114, A114_1, c114_1, A114_7, c114_7, e114, hx114_0, hx114_1, hx114_2, hx114_3, hx114_4, hx114_5, hx114_6, hx114_7, hx114_8, hx114_9, hx114_10, hl114_1, hi114_1, hl114_7, hi114_7⟩ := at_T37 HR0.out x5_1 p114 q114; obtain rfl : ad101 = ad114 := (by injection e114); replace hx114_0 := (HB.out.cell (World.block_lt_of_cell? w _ hx114_0)).trans hx114_0; replace hx114_1 := (HB.out.cell (World.block_lt_of_cell? w _ hx114_1)).trans hx114_1; replace hx114_2 := (HB.out.cell (World.block_lt_of_cell? w _ hx114_2)).trans hx114_2; replace hx114_3 := (HB.out.cell (World.block_lt_of_cell? w _ hx114_3)).trans hx114_3; replace hx114_4 := (HB.out.cell (World.block_lt_of_cell? w _ hx114_4)).trans hx114_4; replace hx114_5 := (HB.out.cell (World.block_lt_of_cell? w _ hx114_5)).trans hx114_5; replace hx114_6 := (HB.out.cell (World.block_lt_of_cell? w _ hx114_6)).trans hx114_6; replace hx114_7 := (HB.out.cell (World.block_lt_of_cell? w _ hx114_7)).trans hx114_7; replace hx114_8 := (HB.out.cell (World.block_lt_of_cell? w _ hx114_8)).trans hx114_8; replace hx114_9 := (HB.out.cell (World.block_lt_of_cell? w _ hx114_9)).trans hx114_9; replace hx114_10 := (HB.out.cell (World.block_lt_of_cell? w _ hx114_10)).trans hx114_10; have HR114_1 := aM hi114_1; have HC114_1 := aM hl114_1; clear hi114_1 hl114_1; have HR114_7 := aM hi114_7; have HC114_7 := aM hl114_7; clear hi114_7 hl114_7; replace p114 := eq_true p114; replace q114 := eq_true q114; have ea_ := Option.some.inj (hx105_1.symm.trans hx114_1); injection ea_ with ea_ en_ ec_; subst ea_; subst ec_; clear en_; have ea_ := Option.some.inj (hx105_7.symm.trans hx114_7); injection ea_ with ea_ en_ ec_; subst ea_; subst ec_; clear en_))
     go_roundg k1
     case measure => have := HK1.out; omega
     case rel => exact ⟨(wrap64 ((wrap64 ((wrap64 (t111 + 1)) + 1)) + 1)), (wrap64 (x5_1 + 1)), z4458, z4458, H', ⟨zfb39⟩, ⟨z5acd⟩⟩
   · rw [if_neg c3] at H
     have c3b0 := nL c3
     clear c3
     obtain rfl := Option.some.inj H
     go_wp2
     go_ret
     exact ⟨z674d, z5acd⟩

end Go.Proofs.YtkgmoajdcibafaaDoor.P

/- Marks that are written into windows, and told again. No conditions. -/
namespace Go.Proofs.YtkgmoajdcibafaaDoor.Lem
open Go Go.RowKit Go.Proofs.YtkgmoajdcibafaaDoor.P Go.Proofs.YtkgmoajdcibafaaDoorW.PrintWords Go.Proofs.YtkgmoajdcibafaaDoorW.PrintLast Go.Proofs.YtkgmoajdcibafaaDoorW.PrintMore

abbrev MWn := S37
def markWY (w : MWn) (x y z : Int) : MWn :=
  ⟨⟨markT x, markTags w.f0.f1 (x + 1), y⟩, ⟨y + 1, y + 1 + 1, y + 1 + 1 + 1, y + 1 + 1 + 1 + 1, markInts w.f1.f4 (y + 1 + 1 + 1 + 1 + 1), Int.tmod z 3 == 0⟩, z + 1, Int.tmod (z + 1 + 1) 3 == 0⟩
def yW (w : MWn) (x : Int) : Int := x + 1 + 2 * (w.f0.f1.length : Int)
def zW (w : MWn) (x : Int) : Int := yW w x + 1 + 1 + 1 + 1 + 1 + (w.f1.f4.length : Int)
def markW (w : MWn) (x : Int) : MWn := markWY w x (yW w x) (zW w x)
def markWs : List MWn → Int → List MWn
  | [], _ => []
  | w :: r, x => markW w x :: markWs r (zW w x + 1 + 1 + 1)
def endW : List MWn → Int → Int
  | [], x => x
  | w :: r, x => endW r (zW w x + 1 + 1 + 1)
theorem zW_eq (w : MWn) (x : Int) : zW w x = x + 6 + 2 * (w.f0.f1.length : Int) + (w.f1.f4.length : Int) := by unfold zW yW; omega
theorem markWs_length : ∀ (l : List MWn) (x : Int), (markWs l x).length = l.length
  | [], _ => rfl
  | _ :: r, x => by rw [markWs, List.length_cons, List.length_cons, markWs_length r]
/-- Windows with rows within the bound. -/
def Rows_ (l : List MWn) : Prop := ∀ w ∈ l, w.f0.f1.length ≤ 1048576 ∧ w.f1.f4.length ≤ 1048576
theorem endW_le : ∀ (l : List MWn) (x : Int), Rows_ l → x ≤ endW l x ∧ endW l x ≤ x + 4194304 * (l.length : Int)
  | [], x, _ => by simp [endW]
  | w :: r, x, h => by
    have ih := endW_le r (zW w x + 1 + 1 + 1) (fun v hv => h v (List.mem_cons_of_mem _ hv))
    have hw := h w List.mem_cons_self
    rw [endW, List.length_cons]
    rw [zW_eq] at ih ⊢
    omega
theorem rdWn_mid (pre : List MWn) (a : MWn) (rest : List MWn) : rd_T37 (pre ++ a :: rest) (pre.length : Int) = a := getD_mid _ _ _ _ rfl
theorem markWinS_l0 : ∀ (rest pre : List MWn) (k : Nat) (x : Int), 0 ≤ x → x + 4194304 * (rest.length : Int) < 1000000000000000000 → pre.length + rest.length ≤ 1000000000 → Rows_ rest → rest.length + 1048600 < k →
    laws_markWinS.l0 k (pre ++ rest) x (pre.length : Int) = some (endW rest x, pre ++ markWs rest x)
  | [], pre, k, x, h0, h1, h2, h3, hk => by
    obtain ⟨k, rfl⟩ : ∃ q, k = q + 1 := ⟨k - 1, by omega⟩
    rw [laws_markWinS.l0, if_neg (by rw [List.append_nil]; omega), List.append_nil, markWs, List.append_nil]
    rfl
  | a :: rest, pre, k, x, h0, h1, h2, h3, hk => by
    obtain ⟨k, rfl⟩ : ∃ q, k = q + 1 := ⟨k - 1, by omega⟩
    rw [List.length_cons] at h1 h2 hk
    obtain ⟨t1, t2⟩ := h3 a List.mem_cons_self
    have hz := zW_eq a x
    have ih := markWinS_l0 rest (pre ++ [markW a x]) k (zW a x + 1 + 1 + 1) (by omega) (by omega) (by rw [List.length_append, List.length_singleton]; omega) (fun v hv => h3 v (List.mem_cons_of_mem _ hv)) (by omega)
    rw [List.append_assoc, List.singleton_append] at ih
    rw [laws_markWinS.l0, if_pos (by rw [List.length_append, List.length_cons]; omega), if_pos (by omega), markText_ok h0 (by omega) (by omega), Option.bind_some, rdWn_mid,
      w64 (x := x + 1) (by omega) (by omega), markTagS_ok _ (by omega) (by omega) (by omega) (by omega), Option.bind_some]
    dsimp only
    rw [show x + 1 + 2 * (a.f0.f1.length : Int) = yW a x from rfl]
    have hy : yW a x = x + 1 + 2 * (a.f0.f1.length : Int) := rfl
    rw [w64 (x := yW a x + 1) (by omega) (by omega), w64 (x := yW a x + 1 + 1) (by omega) (by omega), w64 (x := yW a x + 1 + 1 + 1) (by omega) (by omega), w64 (x := yW a x + 1 + 1 + 1 + 1) (by omega) (by omega), w64 (x := yW a x + 1 + 1 + 1 + 1 + 1) (by omega) (by omega),
      markIntS_ok _ (by omega) (by omega) (by omega) (by omega), Option.bind_some]
    dsimp only
    rw [show yW a x + 1 + 1 + 1 + 1 + 1 + (a.f1.f4.length : Int) = zW a x from rfl, w64 (x := zW a x + 1) (by omega) (by omega), w64 (x := zW a x + 1 + 1) (by omega) (by omega), w64 (x := zW a x + 1 + 1 + 1) (by omega) (by omega), Int.toNat_natCast, set_mid _ _ _ _ rfl,
      show wrap64 ((pre.length : Int) + 1) = ((pre ++ [markW a x]).length : Int) from by rw [w64 (by omega) (by omega), List.length_append, List.length_singleton]; omega]
    rw [endW, markWs]
    refine Eq.trans ?_ (ih.trans ?_)
    · rfl
    · rw [List.append_assoc, List.singleton_append]
theorem markWinS_ok (l : List MWn) {k : Nat} {x : Int} (h0 : 0 ≤ x) (h1 : x ≤ 10) (h2 : l.length ≤ 1048576) (h3 : Rows_ l) (hk : 2097180 < k) : laws_markWinS.f k l x = some (endW l x, markWs l x) := markWinS_l0 l [] k x h0 (by omega) (by simpa using (by omega : l.length ≤ 1000000000)) h3 (by omega)
theorem heldWinS_l0 : ∀ (rest pre : List MWn) (k : Nat) (x : Int), 0 ≤ x → x + 4194304 * (rest.length : Int) < 1000000000000000000 → pre.length + rest.length ≤ 1000000000 → Rows_ rest → rest.length + 1048600 < k →
    laws_heldWinS.l0 k (pre ++ markWs rest x) x (pre.length : Int) = some (endW rest x)
  | [], pre, k, x, h0, h1, h2, h3, hk => by
    obtain ⟨k, rfl⟩ : ∃ q, k = q + 1 := ⟨k - 1, by omega⟩
    rw [laws_heldWinS.l0, markWs, List.append_nil, if_neg (by omega)]
    rfl
  | a :: rest, pre, k, x, h0, h1, h2, h3, hk => by
    obtain ⟨k, rfl⟩ : ∃ q, k = q + 1 := ⟨k - 1, by omega⟩
    rw [List.length_cons] at h1 h2 hk
    obtain ⟨t1, t2⟩ := h3 a List.mem_cons_self
    have hz := zW_eq a x
    have hy : yW a x = x + 1 + 2 * (a.f0.f1.length : Int) := rfl
    have ih := heldWinS_l0 rest (pre ++ [markW a x]) k (zW a x + 1 + 1 + 1) (by omega) (by omega) (by rw [List.length_append, List.length_singleton]; omega) (fun v hv => h3 v (List.mem_cons_of_mem _ hv)) (by omega)
    rw [List.append_assoc, List.singleton_append] at ih
    rw [laws_heldWinS.l0, markWs, if_pos (by rw [List.length_append, List.length_cons]; omega), if_pos (by omega), markText_ok h0 (by omega) (by omega), Option.bind_some, rdWn_mid, if_pos (show (markW a x).f0.f0.toList = (markT x).toList from rfl),
      w64 (x := x + 1) (by omega) (by omega), show (markW a x).f0.f1 = markTags a.f0.f1 (x + 1) from rfl, heldTagS_ok _ (by omega) (by omega) (by omega) (by omega), Option.bind_some, show x + 1 + 2 * (a.f0.f1.length : Int) = yW a x from rfl,
      if_neg (by omega), if_pos (show (markW a x).f0.f2 = yW a x from rfl), w64 (x := yW a x + 1) (by omega) (by omega), if_pos (show (markW a x).f1.f0 = yW a x + 1 from rfl), w64 (x := yW a x + 1 + 1) (by omega) (by omega), if_pos (show (markW a x).f1.f1 = yW a x + 1 + 1 from rfl),
      w64 (x := yW a x + 1 + 1 + 1) (by omega) (by omega), if_pos (show (markW a x).f1.f2 = yW a x + 1 + 1 + 1 from rfl), w64 (x := yW a x + 1 + 1 + 1 + 1) (by omega) (by omega), if_pos (show (markW a x).f1.f3 = yW a x + 1 + 1 + 1 + 1 from rfl), w64 (x := yW a x + 1 + 1 + 1 + 1 + 1) (by omega) (by omega),
      show (markW a x).f1.f4 = markInts a.f1.f4 (yW a x + 1 + 1 + 1 + 1 + 1) from rfl, heldIntS_ok _ (by omega) (by omega) (by omega) (by omega), Option.bind_some, show yW a x + 1 + 1 + 1 + 1 + 1 + (a.f1.f4.length : Int) = zW a x from rfl,
      if_neg (by omega), show (markW a x).f1.f5 = (Int.tmod (zW a x) 3 == 0) from rfl, bne_self_eq_false, if_neg (by decide), w64 (x := zW a x + 1) (by omega) (by omega), if_pos (show (markW a x).f2 = zW a x + 1 from rfl), w64 (x := zW a x + 1 + 1) (by omega) (by omega),
      show (markW a x).f3 = (Int.tmod (zW a x + 1 + 1) 3 == 0) from rfl, bne_self_eq_false, if_neg (by decide), w64 (x := zW a x + 1 + 1 + 1) (by omega) (by omega),
      show wrap64 ((pre.length : Int) + 1) = ((pre ++ [markW a x]).length : Int) from by rw [w64 (by omega) (by omega), List.length_append, List.length_singleton]; omega, ih, endW]
theorem heldWinS_ok (l : List MWn) {k : Nat} {x : Int} (h0 : 0 ≤ x) (h1 : x ≤ 10) (h2 : l.length ≤ 1048576) (h3 : Rows_ l) (hk : 2097180 < k) : laws_heldWinS.f k (markWs l x) x = some (endW l x) := heldWinS_l0 l [] k x h0 (by omega) (by simpa using (by omega : l.length ≤ 1000000000)) h3 (by omega)
end Go.Proofs.YtkgmoajdcibafaaDoor.Lem

-- written by a program of this session's (wip/pp)
namespace Go.Proofs.YtkgmoajdcibafaaDoor.P
open Go.RowKit Go.Proofs.YtkgmoajdcibafaaDoorW.PrintWords Go.Proofs.YtkgmoajdcibafaaDoorW.PrintLast Go.Proofs.YtkgmoajdcibafaaDoorW.PrintMore
attribute [local go_sem] max2_int min2_int max_two min_two max_three min_three max_four min_four str_geq str_gtr str_leq   -- for this text's walks alone
set_option linter.unusedVariables false
set_option linter.unusedSimpArgs false

/-! ### impl_Board_cloned: function 59 -/
def impl_Board_cloned.l0 : Nat → List (S37) → List (S37) → Int → Int → Int → Int → Int → List (S37) → Option (Int × Int × Int × (List (S37)))
 | 0, _, _, _, _, _, _, _, _ => none
 | k + 1, x3, x8, x9, x10, x102000, x102001, x102002, x102003 => if x10 < x9 then (if 0 ≤ x10 then (if x10 < (x8.length : Int) then ((impl_Win_cloned.f ((rd_T37 x8 x10).f0.f0) ((rd_T37 x8 x10).f0.f1) ((rd_T37 x8 x10).f0.f2) ((rd_T37 x8 x10).f1.f0) ((rd_T37 x8 x10).f1.f1) ((rd_T37 x8 x10).f1.f2) ((rd_T37 x8 x10).f1.f3) ((rd_T37 x8 x10).f1.f4) ((rd_T37 x8 x10).f1.f5) ((rd_T37 x8 x10).f2) ((rd_T37 x8 x10).f3)).bind fun bt108 => (if x3.length < 1099511627776 then (impl_Board_cloned.l0 k (x3 ++ [(⟨(⟨bt108.1, bt108.2.1, bt108.2.2.1⟩ : S32), (⟨bt108.2.2.2.1, bt108.2.2.2.2.1, bt108.2.2.2.2.2.1, bt108.2.2.2.2.2.2.1, bt108.2.2.2.2.2.2.2.1, bt108.2.2.2.2.2.2.2.2.1⟩ : S35), bt108.2.2.2.2.2.2.2.2.2.1, bt108.2.2.2.2.2.2.2.2.2.2⟩ : S37)]) x8 x9 (wrap64 (x10 + 1)) x102000 x102001 x102002 x102003) else (none))) else (none)) else (none)) else (some (x102000, x102001, x102002, x3))
def impl_Board_cloned.f (k : Nat) (a0_0 : Int) (a0_1 : Int) (a0_2 : Int) (l0_3 : List (S37)) : Option (Int × Int × Int × (List (S37))) := impl_Board_cloned.l0 k (([] : List (S37))) l0_3 (l0_3.length : Int) 0 a0_0 a0_1 a0_2 l0_3
theorem impl_Board_cloned.mono_l : ∀ k, (∀ y0 y1 y2 y3 y4 y5 y6 y7, LeO (impl_Board_cloned.l0 k y0 y1 y2 y3 y4 y5 y6 y7) (impl_Board_cloned.l0 (k + 1) y0 y1 y2 y3 y4 y5 y6 y7))
 | 0 => fun _ _ _ _ _ _ _ _ r h => by simp [impl_Board_cloned.l0] at h
 | k + 1 => by
  have ih0 := impl_Board_cloned.mono_l k
  · intro y0 y1 y2 y3 y4 y5 y6 y7
    unfold impl_Board_cloned.l0
    exact moZ
theorem impl_Board_cloned.mono : ∀ a0 a1 a2 a3 k, LeO (impl_Board_cloned.f k a0 a1 a2 a3) (impl_Board_cloned.f (k + 1) a0 a1 a2 a3) := by
 intro a0 a1 a2 a3 k
 have ih0 := impl_Board_cloned.mono_l k
 unfold impl_Board_cloned.f
 exact moZ
set_option maxHeartbeats 8000000 in
set_option maxRecDepth 100000 in
theorem impl_Board_cloned.calls (k : Nat) (a0_0 : Int) (a0_1 : Int) (a0_2 : Int) (A0_3 : Option Addr) (c0_3 : Nat) (l0_3 : List (S37)) (r1 : Int) (r2 : Int) (r3 : Int) (r4 : List (S37)) (w : World) (hr0_3 : Kd.C k37 w A0_3 l0_3.length l0_3) (hc0_3 : l0_3.length ≤ c0_3) (h : impl_Board_cloned.f k a0_0 a0_1 a0_2 l0_3 = some (r1, r2, r3, r4)) :
 Calls Tryd.prog 59 #[.agg #[.int .i64 a0_0, .int .i64 a0_1, .int .i64 a0_2, .slice A0_3 l0_3.length c0_3]] w fun e w' => ∃ v3_ : Value, e = .returned (.agg #[.int .i64 r1, .int .i64 r2, .int .i64 r3, v3_]) ∧ Kd.S k37 37 w' w.heap.size (fun _ => True) v3_ r4 ∧ Below w.heap.size w w' := by
 have hu42 := Tryd.underlying42
 have hu37 := Tryd.underlying37
 have HR0_3 := aM hr0_3
 have HC0_3 := aM hc0_3
 clear hr0_3 hc0_3
 have HB := aM (Below.refl w.heap.size w)
 have H : (impl_Board_cloned.l0 k (([] : List (S37))) l0_3 (l0_3.length : Int) 0 a0_0 a0_1 a0_2 l0_3) = some (r1, r2, r3, r4) := h
 clear h
 obtain ⟨y103, hy103⟩ : ∃ y_ : List (S37), y_ = (([] : List (S37))) := ⟨_, rfl⟩
 first | (replace H := bindS H; rw [← hy103] at H; try dsimp only at H) | rw [← hy103] at H
 have Ny103 := aM hy103
 clear hy103
 have H' := aM H
 clear H
 go_enter Tryd.func59, Tryd.ntmps59
 go_wp2_with (first | ((with_reducible refine gate_dst (N := 1) rfl ?_); refine bX 1 42 #[.int .i64 a0_0, .int .i64 a0_1, .int .i64 a0_2, .slice A0_3 l0_3.length c0_3] ?_; intro gb101 hg w2 hbox hb; have _ := aM (below_step hbZ hb); have _ := aM hbox; have _ := szZ hg; have _ := szZ hg; clear HB; rename_i HB BK101 GW101 GE101; clear hb hbox hg) | ((with_reducible refine gate_dst (N := 2) rfl ?_); refine bX 2 42 #[.int .i64 0, .int .i64 0, .int .i64 0, .slice none 0 0] ?_; intro gb102 hg w3 hbox hb; have _ := bB gb101 hb; have _ := aM (below_step hbZ hb); have _ := aM hbox; have _ := szZ hg; have _ := szZ hg; have ⟨_, _⟩ := nbB gb101 hg; clear BK101 HB; rename_i BK101 HB BK102 GW102 GE102 NB101_102 NB102_101; clear hb hbox hg) | ((with_reducible refine gate_dst (N := 6) rfl ?_); refine Kd.S_lit k37 _ 37 ?hg (N := 6) ?hd (xs := ([] : List (S37))) (inner := []) (ok := fun _ => True) (okp := fun _ => True) ?hr ?hp (fun _ hk => hk) trivial (Below.refl _ _) (Nat.le_refl _) (by simp) ?_; (case hd => rfl); (case hg => rfl); (case hr => first | (go_simp; done) | (go_simp; rfl)); (case hp => exact (Reps.none _ _)); intro v104 w4 ho5 hb hg_ hnew_; clear hg_ hnew_; (first | rw [← Ny103.out] at ho5 | (simp only [Int.reduceToNat] at ho5; rw [← Ny103.out] at ho5)); have _ := aM (Kd.S_lower ho5 (below_size hbZ)); have _ := bB gb101 hb; have _ := bB gb102 hb; have _ := aM (below_step hbZ hb); clear BK101 BK102 HB; rename_i HO105 BK101 BK102 HB; clear hb ho5; have hnb6 := NB101_102.out; have hnc6 := NB102_101.out; have hz7 := cellsZ4 BK101.out))
 go_loopg [3, 10] k (fun kq v3 v10 w' => ∃ (x3_1 : List (S37)) (x10_1 : Int), v10 = .int .i64 x10_1 ∧ Aside0 (impl_Board_cloned.l0 kq x3_1 l0_3 (l0_3.length : Int) x10_1 a0_0 a0_1 a0_2 l0_3 = some (r1, r2, r3, r4)) ∧ Aside0 (kq ≤ k) ∧ Aside0 (Kd.S k37 37 w' w.heap.size (fun _ => True) v3 x3_1) ∧ Aside0 (w'.heap[gb101]? = some (.cells #[.int .i64 a0_0, .int .i64 a0_1, .int .i64 a0_2, (.slice A0_3 l0_3.length c0_3)] 42 (0, 0))) ∧ Aside0 (w'.heap[gb102]? = some (.cells #[.int .i64 0, .int .i64 0, .int .i64 0, (.slice none 0 0)] 42 (0, 0))) ∧ Aside0 (Below w.heap.size w w'))
 case atStart => exact ⟨(y103), (0), z4458, H', ⟨Nat.le_refl _⟩, ⟨by (with_reducible repeat (first | apply Kd.S_alloc | apply Kd.S_drewN | apply Kd.S_drew)); exact HO105.out⟩, ⟨bkZ⟩, ⟨bkZ⟩, ⟨zcb41⟩⟩
 case round =>
  clear H'
  (try clear hz7)
  obtain ⟨x3_1, x10_1, rfl, HA, HK1, HO_3, BK101, BK102, HB⟩ := hrel
  cases gk with
  | zero => exact absurd HA.out (by simp [impl_Board_cloned.l0])
  | succ k1 =>
   have H := HA.out
   clear HA
   simp only [impl_Board_cloned.l0] at H
   by_cases c8 : x10_1 < (l0_3.length : Int)
   · rw [if_pos c8] at H
     have c8b0 := dL c8
     clear c8
     obtain ⟨c9b0, H⟩ := sE H
     obtain ⟨c10b0, H⟩ := sL H
     obtain ⟨⟨t108, t109, t112, t113, t114, t115, t116, t117, t120, t121, t122⟩, A11, H⟩ := bS H; try dsimp only at H
     obtain ⟨LMc12, H⟩ := sM H
     obtain ⟨y123, hy123⟩ : ∃ y_ : List (S37), y_ = (x3_1 ++ [(⟨(⟨t108, t109, t112⟩ : S32), (⟨t113, t114, t115, t116, t117, t120⟩ : S35), t121, t122⟩ : S37)]) := ⟨_, rfl⟩
     first | (replace H := bindS H; rw [← hy123] at H; try dsimp only at H) | rw [← hy123] at H
     have Ny123 := aM hy123
     clear hy123
     have H' := aM H
     clear H
     have p106 : 0 ≤ (x10_1 : Int) := of_decide_eq_true z1200
     have q106 : x10_1 < (l0_3.length : Int) := of_decide_eq_true z1200
     obtain ⟨ad106, A106_1, c106_1, A106_7, c106_7, e106, hx106_0, hx106_1, hx106_2, hx106_3, hx106_4, hx106_5, hx106_6, hx106_7, hx106_8, hx106_9, hx106_10, hl106_1, hi106_1, hl106_7, hi106_7⟩ := at_T37 HR0_3.out x10_1 p106 q106
     cases e106
     have TW106_1 := aM hx106_1
     have TW106_7 := aM hx106_7
     replace hx106_0 := (HB.out.cell (World.block_lt_of_cell? w _ hx106_0)).trans hx106_0
     replace hx106_1 := (HB.out.cell (World.block_lt_of_cell? w _ hx106_1)).trans hx106_1
     replace hx106_2 := (HB.out.cell (World.block_lt_of_cell? w _ hx106_2)).trans hx106_2
     replace hx106_3 := (HB.out.cell (World.block_lt_of_cell? w _ hx106_3)).trans hx106_3
     replace hx106_4 := (HB.out.cell (World.block_lt_of_cell? w _ hx106_4)).trans hx106_4
     replace hx106_5 := (HB.out.cell (World.block_lt_of_cell? w _ hx106_5)).trans hx106_5
     replace hx106_6 := (HB.out.cell (World.block_lt_of_cell? w _ hx106_6)).trans hx106_6
     replace hx106_7 := (HB.out.cell (World.block_lt_of_cell? w _ hx106_7)).trans hx106_7
     replace hx106_8 := (HB.out.cell (World.block_lt_of_cell? w _ hx106_8)).trans hx106_8
     replace hx106_9 := (HB.out.cell (World.block_lt_of_cell? w _ hx106_9)).trans hx106_9
     replace hx106_10 := (HB.out.cell (World.block_lt_of_cell? w _ hx106_10)).trans hx106_10
     have HR106_1 := aM hi106_1
     have HC106_1 := aM hl106_1
     clear hi106_1 hl106_1
     have HR106_7 := aM hi106_7
     have HC106_7 := aM hl106_7
     clear hi106_7 hl106_7
     replace p106 := eq_true p106
     replace q106 := eq_true q106
     go_wp2_with (first | ((with_reducible refine gate_dst (N := 5) rfl ?_); refine bX 5 37 #[.string (⟨#[]⟩ : ByteArray), .slice none 0 0, .int .i64 0, .int .i64 0, .int .i64 0, .int .i64 0, .int .i64 0, .slice none 0 0, .bool false, .int .i64 0, .bool false] ?_; intro gb107 hg w13 hbox hb; have _ := aM (Kd.S_below (Kd.S_elderB zd74a gb107 (Nat.le_of_eq hg.symm)) hb); have _ := bB gb101 hb; have _ := bB gb102 hb; have _ := aM (below_step hbZ hb); have _ := aM hbox; have _ := szZ hg; have _ := szZ hg; have ⟨_, _⟩ := nbB gb101 hg; have ⟨_, _⟩ := nbB gb102 hg; clear HO_3 BK101 BK102 HB; rename_i HO_3 BK101 BK102 HB BK107 GW107 GE107 NB101_107 NB107_101 NB102_107 NB107_102; clear hb hbox hg; have hnb14 := NB107_101.out; have hnc14 := NB101_107.out; have hnb15 := NB107_102.out; have hnc15 := NB102_107.out; have hz16 := cellsZ11 BK107.out) | ((with_reducible refine gate_callee (f := 49) rfl ?_); refine gL 16 Tryd.func49 #[.agg #[.string ((rd_T37 l0_3 x10_1).f0.f0), .slice A106_1 ((rd_T37 l0_3 x10_1).f0.f1).length c106_1, .int .i64 ((rd_T37 l0_3 x10_1).f0.f2), .int .i64 ((rd_T37 l0_3 x10_1).f1.f0), .int .i64 ((rd_T37 l0_3 x10_1).f1.f1), .int .i64 ((rd_T37 l0_3 x10_1).f1.f2), .int .i64 ((rd_T37 l0_3 x10_1).f1.f3), .slice A106_7 ((rd_T37 l0_3 x10_1).f1.f4).length c106_7, .bool ((rd_T37 l0_3 x10_1).f1.f5), .int .i64 ((rd_T37 l0_3 x10_1).f2), .bool ((rd_T37 l0_3 x10_1).f3)]] ?_; (with_reducible refine (impl_Win_cloned.calls ((rd_T37 l0_3 x10_1).f0.f0) _ _ ((rd_T37 l0_3 x10_1).f0.f1) ((rd_T37 l0_3 x10_1).f0.f2) ((rd_T37 l0_3 x10_1).f1.f0) ((rd_T37 l0_3 x10_1).f1.f1) ((rd_T37 l0_3 x10_1).f1.f2) ((rd_T37 l0_3 x10_1).f1.f3) _ _ ((rd_T37 l0_3 x10_1).f1.f4) ((rd_T37 l0_3 x10_1).f1.f5) ((rd_T37 l0_3 x10_1).f2) ((rd_T37 l0_3 x10_1).f3) t108 t109 t112 t113 t114 t115 t116 t117 t120 t121 t122 _ ?side1 ?side2 ?side3 ?side4 A11.out).mono ?_); (case side1 => exact Kd.C_below HR106_1.out hbZ); (case side2 => exact HC106_1.out); (case side3 => exact Kd.C_below HR106_7.out hbZ); (case side4 => exact HC106_7.out); rintro e w17 ⟨v110, v118, rfl, ho0, ho1, hb⟩; refine ⟨_, rfl, ?_⟩; have _ := aM (Kd.S_mono (Kd.S_told (Kd.S_told (Kd.S_old (by (with_reducible repeat (first | apply Kd.S_alloc | apply Kd.S_drewN | apply Kd.S_drew)); exact (Kd.S_mono (Kd.S_far (p := ⟨gb107, 10, none⟩) (Kd.S_far (p := ⟨gb107, 9, none⟩) (Kd.S_far (p := ⟨gb107, 8, none⟩) (Kd.S_far (p := ⟨gb107, 7, none⟩) (Kd.S_far (p := ⟨gb107, 6, none⟩) (Kd.S_far (p := ⟨gb107, 5, none⟩) (Kd.S_far (p := ⟨gb107, 4, none⟩) (Kd.S_far (p := ⟨gb107, 3, none⟩) (Kd.S_far (p := ⟨gb107, 2, none⟩) (Kd.S_far (p := ⟨gb107, 1, none⟩) (Kd.S_far (p := ⟨gb107, 0, none⟩) (Kd.S_mono HO_3.out (fun k_ hk => (⟨hk, hk.2⟩ : _ ∧ k_ ≠ gb107))) (fun _ hk => hk.2) (.string ((rd_T37 l0_3 x10_1).f0.f0))) (fun _ hk => hk.2) (.slice A106_1 ((rd_T37 l0_3 x10_1).f0.f1).length c106_1)) (fun _ hk => hk.2) (.int .i64 ((rd_T37 l0_3 x10_1).f0.f2))) (fun _ hk => hk.2) (.int .i64 ((rd_T37 l0_3 x10_1).f1.f0))) (fun _ hk => hk.2) (.int .i64 ((rd_T37 l0_3 x10_1).f1.f1))) (fun _ hk => hk.2) (.int .i64 ((rd_T37 l0_3 x10_1).f1.f2))) (fun _ hk => hk.2) (.int .i64 ((rd_T37 l0_3 x10_1).f1.f3))) (fun _ hk => hk.2) (.slice A106_7 ((rd_T37 l0_3 x10_1).f1.f4).length c106_7)) (fun _ hk => hk.2) (.bool ((rd_T37 l0_3 x10_1).f1.f5))) (fun _ hk => hk.2) (.int .i64 ((rd_T37 l0_3 x10_1).f2))) (fun _ hk => hk.2) (.bool ((rd_T37 l0_3 x10_1).f3))) (fun _ h_ => h_.1))) hb) (Kd.R_base ho0)) (Kd.R_base ho1)) (fun _ h_ => h_.1)); have _ := aM (Kd.R_lower ho0 (below_size hbZ)); have _ := aM (Kd.R_lower ho1 (below_size hbZ)); have _ := bB gb101 hb; have _ := bB gb102 hb; have _ := aM (blk_below (g := gb107) (o := .cells #[.string ((rd_T37 l0_3 x10_1).f0.f0), .slice A106_1 ((rd_T37 l0_3 x10_1).f0.f1).length c106_1, .int .i64 ((rd_T37 l0_3 x10_1).f0.f2), .int .i64 ((rd_T37 l0_3 x10_1).f1.f0), .int .i64 ((rd_T37 l0_3 x10_1).f1.f1), .int .i64 ((rd_T37 l0_3 x10_1).f1.f2), .int .i64 ((rd_T37 l0_3 x10_1).f1.f3), .slice A106_7 ((rd_T37 l0_3 x10_1).f1.f4).length c106_7, .bool ((rd_T37 l0_3 x10_1).f1.f5), .int .i64 ((rd_T37 l0_3 x10_1).f2), .bool ((rd_T37 l0_3 x10_1).f3)] 37 (0, 0)) bkZ hb); have _ := aM (below_step hbZ hb); clear HO_3 BK101 BK102 BK107 HB; rename_i HO_3 HO111 HO119 BK101 BK102 BK107 HB; (try clear hb); (try clear ho0); (try clear ho1); obtain ⟨Ao19, co19, eo19⟩ := Kd.R_slice HO111.out; subst eo19; obtain ⟨Ao20, co20, eo20⟩ := Kd.R_slice HO119.out; subst eo20) | ((with_reducible refine gate_builtin (b := .append) (xs := #[.tmp 14, .tmp 17]) rfl ?_); at_builtin; refine Kd.S_append k37 (w0 := w) w.heap.size rfl (.tmp 14) (.tmp 17) 40 37 (.agg #[(.string ⟨#[]⟩), (.slice none 0 0), (.int .i64 0), (.int .i64 0), (.int .i64 0), (.int .i64 0), (.int .i64 0), (.slice none 0 0), (.bool false), (.int .i64 0), (.bool false)]) 128 rfl Tryd.underlying40 info37 rfl (by decide) (by omega) u3 x3_1 (⟨(⟨t108, t109, t112⟩ : S32), (⟨t113, t114, t115, t116, t117, t120⟩ : S35), t121, t122⟩ : S37) [.string t108, .slice Ao19 t109.length co19, .int .i64 t112, .int .i64 t113, .int .i64 t114, .int .i64 t115, .int .i64 t116, .slice Ao20 t117.length co20, .bool t120, .int .i64 t121, .bool t122] (fun k_ => k_ ≠ gb107) (fun k_ => some k_ = (.slice Ao19 t109.length co19 : Value).ownBlock ∨ some k_ = (.slice Ao20 t117.length co20 : Value).ownBlock) rfl rfl ?aP (fun k_ hk_ => hk_.elim (fun h_ => ((Kd.R_mono (ok' := fun k_ => ((fun k_ => k_ ≠ gb107)) k_ ∧ some k_ ≠ (u3 : Value).ownBlock) (Kd.R_types (Kd.R_apart' (HO111.out) (Kd.S_typed HO_3.out) (by decide)) BK107.out (by decide)) (fun k_ hk => ⟨hk.2, hk.1.2⟩))).1 k_ h_.symm) (fun h_ => ((Kd.R_mono (ok' := fun k_ => ((fun k_ => k_ ≠ gb107)) k_ ∧ some k_ ≠ (u3 : Value).ownBlock) (Kd.R_types (Kd.R_apart' (HO119.out) (Kd.S_typed HO_3.out) (by decide)) BK107.out (by decide)) (fun k_ hk => ⟨hk.2, hk.1.2⟩))).1 k_ h_.symm)) ?aF ?aO ?aB ?aS ?aL ?_; (case aP => exact k37_mkM _ _ _ (⟨(⟨t108, t109, t112⟩ : S32), (⟨t113, t114, t115, t116, t117, t120⟩ : S35), t121, t122⟩ : S37) (Kd.R_mono (Kd.R_tight rfl (Kd.R_mono (ok' := fun k_ => ((fun k_ => k_ ≠ gb107)) k_ ∧ some k_ ≠ (u3 : Value).ownBlock) (Kd.R_types (Kd.R_apart' (HO111.out) (Kd.S_typed HO_3.out) (by decide)) BK107.out (by decide)) (fun k_ hk => ⟨hk.2, hk.1.2⟩))) (fun _ h_ => Or.inl h_)) (Kd.R_mono (Kd.R_tight rfl (Kd.R_mono (ok' := fun k_ => ((fun k_ => k_ ≠ gb107)) k_ ∧ some k_ ≠ (u3 : Value).ownBlock) (Kd.R_types (Kd.R_apart' (HO119.out) (Kd.S_typed HO_3.out) (by decide)) BK107.out (by decide)) (fun k_ hk => ⟨hk.2, hk.1.2⟩))) (fun _ h_ => Or.inr (h_)))); (case aB => exact hbZ); (case aF => exact (fun k_ hk => Kd.freshB (g := gb107) bkZ k_ hk)); (case aO => exact (by (with_reducible repeat (first | apply Kd.S_alloc | apply Kd.S_drewN | apply Kd.S_drew)); exact Kd.S_mono HO_3.out (fun k_ hk => ⟨hk.1.1.2, fun e_ => e_.elim (fun h_ => hk.1.2 h_) (fun h_ => hk.2 h_)⟩))); (case aS => exact (below_size hbZ)); (case aL => have := LMc12.out; omega); intro v124 w18 ho hb hg hat; rw [← Ny123.out] at ho; have _ := aM (blk_grown (g := gb101) bkZ hg (Kd.S_ne HO_3.out BK101.out (by decide))); have _ := aM (blk_grown (g := gb102) bkZ hg (Kd.S_ne HO_3.out BK102.out (by decide))); have _ := aM (blk_grown (g := gb107) bkZ hg (Kd.S_away HO_3.out (fun _ hk => hk.1.1.2))); have _ := aM hb; have _ := aM ho; clear BK101 BK102 BK107 HB HO_3 HO111 HO119; rename_i BK101 BK102 BK107 HB HO125; clear ho hb hg hat))
     go_roundg k1
     case measure => have := HK1.out; omega
     case rel => exact ⟨(y123), (wrap64 (x10_1 + 1)), z4458, H', ⟨zfb39⟩, ⟨by (with_reducible repeat (first | apply Kd.S_alloc | apply Kd.S_drewN | apply Kd.S_drew)); exact Kd.S_mono HO125.out (fun _ hk => trivial)⟩, ⟨bkZ⟩, ⟨bkZ⟩, ⟨zcb41⟩⟩
   · rw [if_neg c8] at H
     have c8b0 := nL c8
     clear c8
     simp only [Option.some.injEq, Prod.mk.injEq] at H
     obtain ⟨rfl, rfl, rfl, rfl⟩ := H
     obtain ⟨Ao21, co21, eo21⟩ := Kd.S_slice HO_3.out
     subst eo21
     have hnb22 := NB101_102.out
     have hnc22 := NB102_101.out
     have hz23 := cellsZ4 BK101.out
     have hz24 := cellsZ4 BK102.out
     go_wp2
     refine bodyPost_ret (results_cell_row rfl _ _ gb102 42 #[.int .i64 a0_0, .int .i64 a0_1, .int .i64 a0_2, .slice Ao21 x3_1.length co21] (0, 0) _ rfl bkZ Tryd.underlying42 rfl (by kernel_rfl)) rfl ?_
     exact ⟨_, z674d, by (with_reducible repeat (first | apply Kd.S_alloc | apply Kd.S_drewN | apply Kd.S_drew)); exact Kd.S_mono (Kd.S_far (p := ⟨gb102, 3, none⟩) (Kd.S_far (p := ⟨gb102, 2, none⟩) (Kd.S_far (p := ⟨gb102, 1, none⟩) (Kd.S_far (p := ⟨gb102, 0, none⟩) (Kd.S_far (p := ⟨gb101, 3, none⟩) (Kd.S_types (Kd.S_types HO_3.out BK101.out (by decide)) BK102.out (by decide)) (fun _ hk => hk.1.2) (.slice Ao21 x3_1.length co21)) (fun _ hk => hk.2) (.int .i64 a0_0)) (fun _ hk => hk.2) (.int .i64 a0_1)) (fun _ hk => hk.2) (.int .i64 a0_2)) (fun _ hk => hk.2) (.slice Ao21 x3_1.length co21)) (fun _ hk => trivial), zcb41⟩

end Go.Proofs.YtkgmoajdcibafaaDoor.P

/- Boards that share no memory with others: the same windows. -/
namespace Go.Proofs.YtkgmoajdcibafaaDoor.Lem
open Go Go.RowKit Go.Proofs.YtkgmoajdcibafaaDoor.P Go.Proofs.YtkgmoajdcibafaaDoorW.PrintWords Go.Proofs.YtkgmoajdcibafaaDoorW.PrintLast Go.Proofs.YtkgmoajdcibafaaDoorW.PrintMore

theorem cloneTags_ok {l : List Tg} (h : l.length ≤ 1048576) : impl_Tag_101.f l = some l := by
  unfold impl_Tag_101.f
  rw [Option.bind_some, if_pos (by rw [List.length_nil]; omega), List.nil_append]
theorem cloneInts_ok {l : List Int} (h : l.length ≤ 1048576) : slices_Clone_int_int.f l = some l := by
  unfold slices_Clone_int_int.f
  rw [Option.bind_some, if_pos (by rw [List.length_nil]; omega), List.nil_append]
theorem winCloned_ok (w : Wn) (h : w.f0.f1.length ≤ 1048576 ∧ w.f1.f4.length ≤ 1048576) : impl_Win_cloned.f w.f0.f0 w.f0.f1 w.f0.f2 w.f1.f0 w.f1.f1 w.f1.f2 w.f1.f3 w.f1.f4 w.f1.f5 w.f2 w.f3 = some (w.f0.f0, w.f0.f1, w.f0.f2, w.f1.f0, w.f1.f1, w.f1.f2, w.f1.f3, w.f1.f4, w.f1.f5, w.f2, w.f3) := by
  unfold impl_Win_cloned.f impl_Key_cloned.f
  rw [cloneTags_ok h.1, Option.bind_some, Option.bind_some, cloneInts_ok h.2, Option.bind_some]
theorem ownKey_ok (m : ByteArray) {l : List Tg} (h : l.length ≤ 1048576) (s : Int) : spec_l11OwnKey.f m l s = some (m, l, s) := by
  unfold spec_l11OwnKey.f
  rw [Option.bind_some, if_pos (by rw [List.length_nil]; omega), List.nil_append]
theorem l4Own_ok (c s mi ma : Int) {l : List Int} (h : l.length ≤ 1048576) (f : Bool) : spec_l4Own.f c s mi ma l f = some (c, s, mi, ma, l, f) := by
  unfold spec_l4Own.f
  rw [Option.bind_some, if_pos (by rw [List.length_nil]; omega), List.nil_append]
theorem cloned_l0 (a b c : Int) (z : List Wn) {l : List Wn} (hl : l.length ≤ 1048576) (hh : ∀ w ∈ l, w.f0.f1.length ≤ 1048576 ∧ w.f1.f4.length ≤ 1048576) : ∀ (d i k : Nat) (acc : List Wn), i + d = l.length → d < k → acc.length ≤ i →
    impl_Board_cloned.l0 k acc l (l.length : Int) (i : Int) a b c z = some (a, b, c, acc ++ l.drop i) := by
  intro d
  induction d with
  | zero =>
    intro i k acc hi hk _
    obtain ⟨k, rfl⟩ : ∃ q, k = q + 1 := ⟨k - 1, by omega⟩
    rw [impl_Board_cloned.l0, if_neg (by omega), List.drop_of_length_le (by omega), List.append_nil]
  | succ d ih =>
    intro i k acc hi hk ha
    obtain ⟨k, rfl⟩ : ∃ q, k = q + 1 := ⟨k - 1, by omega⟩
    have hlt : i < l.length := by omega
    have hw := hh l[i] (List.getElem_mem hlt)
    rw [impl_Board_cloned.l0, if_pos (by omega), if_pos (by omega), if_pos (by omega), rdW_get hlt, winCloned_ok _ hw, Option.bind_some]
    dsimp only
    rw [if_pos (by omega), show wrap64 ((i : Int) + 1) = ((i + 1 : Nat) : Int) from by rw [w64 (by omega) (by omega)]; omega, ih (i + 1) k _ (by omega) (by omega) (by rw [List.length_append, List.length_singleton]; omega), drop_get hlt, List.append_assoc]
    rfl
theorem cloned_ok (a b c : Int) {l : List Wn} (hl : l.length ≤ 1048576) (hh : ∀ w ∈ l, w.f0.f1.length ≤ 1048576 ∧ w.f1.f4.length ≤ 1048576) {k : Nat} (hk : 1048577 < k) : impl_Board_cloned.f k a b c l = some (a, b, c, l) :=
  cloned_l0 a b c l hl hh l.length 0 k [] (by omega) (by omega) (Nat.le_refl _)
theorem own_l0 (a b c : Int) (z : List Wn) {l : List Wn} (hl : l.length ≤ 1048576) (hh : ∀ w ∈ l, w.f0.f1.length ≤ 1048576 ∧ w.f1.f4.length ≤ 1048576) : ∀ (d i k : Nat) (acc : List Wn), i + d = l.length → d < k → acc.length ≤ i →
    spec_l11Own.l0 k acc l (l.length : Int) (i : Int) a b c z = some (a, b, c, acc ++ l.drop i) := by
  intro d
  induction d with
  | zero =>
    intro i k acc hi hk _
    obtain ⟨k, rfl⟩ : ∃ q, k = q + 1 := ⟨k - 1, by omega⟩
    rw [spec_l11Own.l0, if_neg (by omega), List.drop_of_length_le (by omega), List.append_nil]
  | succ d ih =>
    intro i k acc hi hk ha
    obtain ⟨k, rfl⟩ : ∃ q, k = q + 1 := ⟨k - 1, by omega⟩
    have hlt : i < l.length := by omega
    have hw := hh l[i] (List.getElem_mem hlt)
    rw [spec_l11Own.l0, if_pos (by omega), if_pos (by omega), if_pos (by omega), rdW_get hlt, ownKey_ok _ hw.1, Option.bind_some, l4Own_ok _ _ _ _ hw.2, Option.bind_some]
    dsimp only
    rw [if_pos (by omega), show wrap64 ((i : Int) + 1) = ((i + 1 : Nat) : Int) from by rw [w64 (by omega) (by omega)]; omega, ih (i + 1) k _ (by omega) (by omega) (by rw [List.length_append, List.length_singleton]; omega), drop_get hlt, List.append_assoc]
    rfl
theorem own_ok (a b c : Int) {l : List Wn} (hl : l.length ≤ 1048576) (hh : ∀ w ∈ l, w.f0.f1.length ≤ 1048576 ∧ w.f1.f4.length ≤ 1048576) {k : Nat} (hk : 1048577 < k) : spec_l11Own.f k a b c l = some (a, b, c, l) :=
  own_l0 a b c l hl hh l.length 0 k [] (by omega) (by omega) (Nat.le_refl _)
end Go.Proofs.YtkgmoajdcibafaaDoor.Lem

/- The order of keys is transitive. No conditions. -/
namespace Go.Proofs.YtkgmoajdcibafaaDoor.Lem
open Go Go.RowKit Go.Proofs.YtkgmoajdcibafaaDoor.P Go.Proofs.YtkgmoajdcibafaaDoorW.PrintWords Go.Proofs.YtkgmoajdcibafaaDoorW.PrintLast Go.Proofs.YtkgmoajdcibafaaDoorW.PrintMore
theorem lessTr : ∀ {x y z : List UInt8}, Op.bytesLess x y = true → Op.bytesLess y z = true → Op.bytesLess x z = true
  | [], [], _, h, _ => by exact absurd h (by unfold Op.bytesLess; decide)
  | [], _ :: _, [], _, h => by exact absurd h (by unfold Op.bytesLess; decide)
  | [], _ :: _, _ :: _, _, _ => rfl
  | _ :: _, [], _, h, _ => by exact absurd h (by unfold Op.bytesLess; decide)
  | _ :: _, _ :: _, [], _, h => by exact absurd h (by unfold Op.bytesLess; decide)
  | a :: x, b :: y, c :: z, h1, h2 => by
    rw [less_cons] at h1 h2 ⊢
    by_cases e1 : a = b
    · subst e1
      rw [if_pos rfl] at h1
      by_cases e2 : a = c
      · rw [if_pos e2] at h2 ⊢; exact lessTr h1 h2
      · rw [if_neg e2] at h2 ⊢; exact h2
    · rw [if_neg e1] at h1
      have l1 := of_decide_eq_true h1
      by_cases e2 : b = c
      · subst e2; rw [if_neg e1]; exact h1
      · rw [if_neg e2] at h2
        have l2 := of_decide_eq_true h2
        rw [UInt8.lt_iff_toNat_lt] at l1 l2
        rw [if_neg (fun q => by subst q; omega)]
        exact decide_eq_true (by rw [UInt8.lt_iff_toNat_lt]; omega)
theorem lessTo : ∀ {x y : List UInt8}, Op.bytesLess x y = false → x ≠ y → Op.bytesLess y x = true
  | [], [], _, h => absurd rfl h
  | [], _ :: _, h, _ => by exact absurd h (by unfold Op.bytesLess; decide)
  | _ :: _, [], _, _ => rfl
  | a :: x, b :: y, h, hn => by
    rw [less_cons] at h ⊢
    by_cases e : a = b
    · subst e
      rw [if_pos rfl] at h ⊢
      exact lessTo h (fun q => hn (by rw [q]))
    · rw [if_neg e] at h
      have h1 := of_decide_eq_false h
      rw [if_neg (Ne.symm e)]
      have hne : a.toNat ≠ b.toNat := fun q => e (UInt8.toNat_inj.1 q)
      rw [UInt8.lt_iff_toNat_lt] at h1
      exact decide_eq_true (by rw [UInt8.lt_iff_toNat_lt]; omega)
theorem ordB_neg {a b : ByteArray} : ordB a b < 0 ↔ Op.bytesLess a.data.toList b.data.toList = true := by
  unfold ordB ord
  by_cases h : Op.bytesLess a.data.toList b.data.toList = true
  · simp [h]
  · rw [if_neg h]
    constructor
    · intro q; split at q <;> omega
    · intro q; exact absurd q h
theorem ordB_same {a b : ByteArray} (h : ordB a b = 0) : a = b := by
  unfold ordB ord at h
  by_cases h1 : Op.bytesLess a.data.toList b.data.toList = true
  · rw [if_pos h1] at h; omega
  · rw [if_neg h1] at h
    by_cases h2 : Op.bytesLess b.data.toList a.data.toList = true
    · rw [if_pos h2] at h; omega
    · by_cases e : a.data.toList = b.data.toList
      · exact ByteArray.ext (Array.toList_inj.1 e)
      · exact absurd (lessTo (by simpa using h1) e) h2
theorem ordB_self (a : ByteArray) : ordB a a = 0 := ord_self _
theorem ordB_tr {a b c : ByteArray} (h1 : ordB a b < 0) (h2 : ordB b c < 0) : ordB a c < 0 := ordB_neg.2 (lessTr (ordB_neg.1 h1) (ordB_neg.1 h2))
/-- Of two orders, one behind the other. -/
theorem lex_tr {α : Type} {f : α → α → Int} (hz : ∀ x y, f x y = 0 → x = y) (ht : ∀ x y z, f x y < 0 → f y z < 0 → f x z < 0) {x y z : α} {p q r : Int}
    (h1 : (if f x y = 0 then p else f x y) < 0) (h2 : (if f y z = 0 then q else f y z) < 0) (hr : x = y → y = z → p < 0 → q < 0 → r < 0) : (if f x z = 0 then r else f x z) < 0 := by
  by_cases c1 : f x y = 0
  · have e := hz _ _ c1
    subst e
    rw [if_pos c1] at h1
    by_cases c2 : f x z = 0
    · rw [if_pos c2] at h2 ⊢; exact hr rfl (hz _ _ c2) h1 h2
    · rw [if_neg c2] at h2 ⊢; exact h2
  · rw [if_neg c1] at h1
    by_cases c2 : f y z = 0
    · have e := hz _ _ c2
      subst e
      rw [if_neg c1]; exact h1
    · rw [if_neg c2] at h2
      have := ht _ _ _ h1 h2
      rw [if_neg (by omega)]; exact this
theorem ordT_same : ∀ {l l' : List Tg}, ordT l l' = 0 → l = l'
  | [], [], _ => rfl
  | [], _ :: _, h => by simp [ordT] at h
  | _ :: _, [], h => by simp [ordT] at h
  | a :: x, b :: y, h => by
    rw [ordT] at h
    by_cases c1 : ordB a.f0 b.f0 = 0
    · rw [if_pos c1] at h
      by_cases c2 : ordB a.f1 b.f1 = 0
      · rw [if_pos c2] at h
        have e1 := ordB_same c1
        have e2 := ordB_same c2
        rw [ordT_same h]
        cases a; cases b
        dsimp only at e1 e2
        rw [e1, e2]
      · rw [if_neg c2] at h; exact absurd h c2
    · rw [if_neg c1] at h; exact absurd h c1
theorem ordT_tr : ∀ {l l' l'' : List Tg}, ordT l l' < 0 → ordT l' l'' < 0 → ordT l l'' < 0
  | [], [], _, h, _ => by simp [ordT] at h
  | [], _ :: _, [], _, h => by simp [ordT] at h
  | [], _ :: _, _ :: _, _, _ => by simp [ordT]
  | _ :: _, [], _, h, _ => by simp [ordT] at h
  | _ :: _, _ :: _, [], _, h => by simp [ordT] at h
  | a :: x, b :: y, c :: z, h1, h2 => by
    rw [ordT] at h1 h2 ⊢
    exact lex_tr (f := ordB) (fun _ _ => ordB_same) (fun _ _ _ => ordB_tr) h1 h2 (fun _ _ h3 h4 => lex_tr (f := ordB) (fun _ _ => ordB_same) (fun _ _ _ => ordB_tr) h3 h4 (fun _ _ h5 h6 => ordT_tr h5 h6))
theorem sgnI_tr {a b c : Int} (h1 : sgnI a b < 0) (h2 : sgnI b c < 0) : sgnI a c < 0 := by
  unfold sgnI at *
  have h3 : a < b := by
    by_cases h : a < b
    · exact h
    · rw [if_neg h] at h1; split at h1 <;> omega
  have h4 : b < c := by
    by_cases h : b < c
    · exact h
    · rw [if_neg h] at h2; split at h2 <;> omega
  rw [if_pos (by omega)]; decide
theorem keyOrd_tr {m m' m'' : ByteArray} {l l' l'' : List Tg} {s s' s'' : Int} (h1 : keyOrd m l s m' l' s' < 0) (h2 : keyOrd m' l' s' m'' l'' s'' < 0) : keyOrd m l s m'' l'' s'' < 0 := by
  unfold keyOrd at *
  exact lex_tr (f := ordB) (fun _ _ => ordB_same) (fun _ _ _ => ordB_tr) h1 h2 (fun _ _ h3 h4 => lex_tr (f := ordT) (fun _ _ => ordT_same) (fun _ _ _ => ordT_tr) h3 h4 (fun _ _ h5 h6 => sgnI_tr h5 h6))
end Go.Proofs.YtkgmoajdcibafaaDoor.Lem

section
/- A good board's windows are in order; the place of a key in it: one by one, and by halves. No conditions. -/
set_option linter.unusedSectionVars false
namespace Go.Proofs.YtkgmoajdcibafaaDoor.Lem
open Go Go.RowKit Go.Proofs.YtkgmoajdcibafaaDoor.P Go.Proofs.YtkgmoajdcibafaaDoorW.PrintWords Go.Proofs.YtkgmoajdcibafaaDoorW.PrintLast Go.Proofs.YtkgmoajdcibafaaDoorW.PrintMore
abbrev wn (l : List Wn) (i : Nat) : Wn := rd_T37 l (i : Int)
/-- The order of two windows. -/
def ordW (a b : Wn) : Int := keyOrd a.f0.f0 a.f0.f1 a.f0.f2 b.f0.f0 b.f0.f1 b.f0.f2
def ordQ (a : Wn) (m : ByteArray) (t : List Tg) (s : Int) : Int := keyOrd a.f0.f0 a.f0.f1 a.f0.f2 m t s
theorem boardS_l0 (sz ho ma : Int) (hs : 1 ≤ sz) (l : List Wn) (hl : l.length ≤ 40) : ∀ (d i k : Nat), i + d = l.length → 2 * d + 40 < k → (0 < i → keyOf (rd_T37 l ((i - 1 : Nat) : Int)) = true) →
    spec_GoodBoard.l0 k l (l.length : Int) (i : Int) sz ho ma l = some true → ∀ j, i ≤ j → j < l.length → keyOf (wn l j) = true ∧ (0 < j → ordW (wn l (j - 1)) (wn l j) < 0) := by
  intro d
  induction d with
  | zero => intro i k hi hk _ _ j h1 h2; omega
  | succ d ih =>
    intro i k hi hk hprev h
    obtain ⟨k, rfl⟩ : ∃ q, k = q + 2 := ⟨k - 2, by omega⟩
    have ew : wrap64 ((i : Int) + 1) = ((i + 1 : Nat) : Int) := by rw [w64 (by omega) (by omega)]; omega
    have e0 : rd_T37 l (i : Int) = wn l i := rfl
    generalize hv : wn l i = v at e0
    have hj : ∀ (x : Bool), keyOf v = true → spec_GoodBoard.j2 (k + 1) (i : Int) l (l.length : Int) (i : Int) x sz ho ma l v.f0.f0 v.f0.f1 v.f0.f2 v.f1.f0 v.f1.f1 v.f1.f2 v.f1.f3 v.f1.f4 v.f1.f5 v.f2 v.f3 = some true →
        ∀ j, i ≤ j → j < l.length → keyOf (wn l j) = true ∧ (0 < j → ordW (wn l (j - 1)) (wn l j) < 0) := by
      intro x hx h
      have hnext := ih (i + 1) k (by omega) (by omega) (fun _ => by rw [Nat.add_sub_cancel, e0]; exact hx)
      rw [spec_GoodBoard.j2, ew] at h
      have key : (0 < i → ordW (wn l (i - 1)) v < 0) ∧ spec_GoodBoard.l0 k l (l.length : Int) ((i + 1 : Nat) : Int) sz ho ma l = some true := by
        split at h
        · cases h
        · split at h
          · rename_i h0
            have e3 : wrap64 ((i : Int) - 1) = ((i - 1 : Nat) : Int) := by rw [w64 (by omega) (by omega)]; omega
            have hp := hprev (by omega)
            rw [e3, if_pos (by omega), if_pos (by omega), specCompare_ok hp hx (by omega), Option.bind_some] at h
            split at h
            · cases h
            · rename_i hc
              exact ⟨fun _ => Int.not_le.1 hc, h⟩
          · exact ⟨fun q => by omega, h⟩
      intro j h1 h2
      by_cases e : j = i
      · subst e; rw [hv]; exact ⟨hx, key.1⟩
      · exact hnext key.2 j (by omega) h2
    rw [spec_GoodBoard.l0, if_pos (by omega), if_pos (by omega), if_pos (by omega), e0, specKey_ok _ _ _ (by omega), Option.bind_some] at h
    by_cases hk1 : keyB v.f0.f0 v.f0.f1 v.f0.f2 = true
    · rw [if_pos hk1, if_neg (by omega)] at h
      split at h
      · obtain ⟨b, _, h⟩ := Option.bind_eq_some_iff.1 h
        split at h
        · split at h
          · exact hj _ hk1 h
          · obtain ⟨c, _, h⟩ := Option.bind_eq_some_iff.1 h
            split at h
            · split at h
              · exact hj _ hk1 h
              · exact hj _ hk1 h
            · exact hj _ hk1 h
        · exact hj _ hk1 h
      · exact hj _ hk1 h
    · rw [if_neg hk1, spec_GoodBoard.j2, if_pos rfl] at h
      cases h
/-- A board whose windows are in order. -/
def SortedW (l : List Wn) : Prop := l.length ≤ 40 ∧ ∀ j, j < l.length → keyOf (wn l j) = true ∧ (0 < j → ordW (wn l (j - 1)) (wn l j) < 0)
theorem board_sorted {sz ho ma : Int} {l : List Wn} {k : Nat} (hk : 200 < k) (h : spec_GoodBoard.f k sz ho ma l = some true) : SortedW l ∧ 1 ≤ sz := by
  obtain ⟨k, rfl⟩ : ∃ q, k = q + 1 := ⟨k - 1, by omega⟩
  unfold spec_GoodBoard.f at h
  have hn : spec_GoodBoard.j0 (k + 1) true sz ho ma l ≠ some true := by rw [spec_GoodBoard.j0, if_pos rfl]; decide
  rw [l1InB_ok, Option.bind_some] at h
  split at h
  · rename_i e1
    rw [Bool.and_eq_true] at e1
    have hs := of_decide_eq_true e1.1
    obtain ⟨b, _, h⟩ := Option.bind_eq_some_iff.1 h
    split at h
    · obtain ⟨c, _, h⟩ := Option.bind_eq_some_iff.1 h
      split at h
      · rw [spec_GoodBoard.j0] at h
        split at h
        · cases h
        · rename_i hc
          rw [decide_eq_true_eq] at hc
          have hl : l.length ≤ 40 := by omega
          exact ⟨⟨hl, fun j hj => boardS_l0 sz ho ma hs l hl l.length 0 k (by omega) (by omega) (fun q => absurd q (by omega)) h j (Nat.zero_le _) hj⟩, hs⟩
      · exact absurd h hn
    · exact absurd h hn
  · exact absurd h hn
theorem sorted_lt {l : List Wn} (h : SortedW l) : ∀ (d i j : Nat), j = i + 1 + d → j < l.length → ordW (wn l i) (wn l j) < 0 := by
  intro d
  induction d with
  | zero => intro i j hj hl; have := (h.2 j hl).2 (by omega); rw [show j - 1 = i by omega] at this; exact this
  | succ d ih =>
    intro i j hj hl
    have h1 := ih i (j - 1) (by omega) (by omega)
    have h2 := (h.2 j hl).2 (by omega)
    exact keyOrd_tr h1 h2
section
variable (m : ByteArray) (t : List Tg) (s : Int)
/-- How many windows stand ahead of a key. -/
def posW : List Wn → Nat
  | [] => 0
  | w :: r => if ordQ w m t s < 0 then posW r + 1 else 0
theorem wn_cons (w : Wn) (r : List Wn) (n : Nat) : wn (w :: r) (n + 1) = wn r n := by
  unfold wn rd_T37
  rw [Int.toNat_natCast, Int.toNat_natCast, List.getD_cons_succ]
theorem posW_le : ∀ l : List Wn, posW m t s l ≤ l.length
  | [] => Nat.le_refl _
  | a :: r => by rw [posW]; split; exact Nat.succ_le_succ (posW_le r); exact Nat.zero_le _
theorem posW_lt : ∀ (l : List Wn) (j : Nat), j < posW m t s l → ordQ (wn l j) m t s < 0
  | [], j, h => absurd h (Nat.not_lt_zero j)
  | a :: r, j, h => by
    rw [posW] at h
    split at h
    · rename_i c
      cases j with
      | zero => exact c
      | succ j => rw [wn_cons]; exact posW_lt r j (by omega)
    · exact absurd h (Nat.not_lt_zero j)
theorem posW_at : ∀ (l : List Wn), posW m t s l < l.length → ¬ ordQ (wn l (posW m t s l)) m t s < 0
  | [], h => absurd h (Nat.not_lt_zero _)
  | a :: r, h => by
    rw [posW] at h ⊢
    split at h
    · rename_i c
      rw [if_pos c, wn_cons]
      exact posW_at r (by simpa using h)
    · rename_i c
      rw [if_neg c]
      exact c
def hasW (l : List Wn) : Bool := decide (posW m t s l < l.length) && (ordQ (wn l (posW m t s l)) m t s == 0)
variable {l : List Wn} (h : SortedW l) (hq : keyB m t s = true)
include h hq
theorem posW_ge (j : Nat) (h1 : posW m t s l ≤ j) (h2 : j < l.length) : ¬ ordQ (wn l j) m t s < 0 := by
  intro q
  have hp := posW_at m t s l (by omega)
  rcases Nat.lt_or_ge (posW m t s l) j with e | e
  · have h3 := sorted_lt h (j - posW m t s l - 1) (posW m t s l) j (by omega) h2
    exact hp (keyOrd_tr h3 q)
  · rw [show posW m t s l = j by omega] at hp; exact hp q
theorem l11At_l0 (a b c : Int) : ∀ (d i k : Nat), i + d = l.length → d + 30 < k → i ≤ posW m t s l → spec_l11At.l0 k (i : Int) a b c l m t s = some ((posW m t s l : Int), hasW m t s l) := by
  intro d
  induction d with
  | zero =>
    intro i k hi hk h1
    obtain ⟨k, rfl⟩ : ∃ q, k = q + 1 := ⟨k - 1, by omega⟩
    have h2 := posW_le m t s l
    have h40 := h.1
    rw [spec_l11At.l0, if_neg (by omega), hasW, decide_eq_false (by omega), Bool.false_and, show i = posW m t s l by omega]
  | succ d ih =>
    intro i k hi hk h1
    have h40 := h.1
    obtain ⟨k, rfl⟩ : ∃ q, k = q + 1 := ⟨k - 1, by omega⟩
    rw [spec_l11At.l0, if_pos (by omega), if_pos (by omega), specCompare_ok (h.2 i (by omega)).1 hq (by omega), Option.bind_some]
    by_cases cb : i < posW m t s l
    · have h3 := posW_lt m t s l i cb
      rw [if_pos (show keyOrd _ _ _ m t s < 0 from h3), show wrap64 ((i : Int) + 1) = ((i + 1 : Nat) : Int) by rw [w64 (by omega) (by omega)]; omega]
      exact ih (i + 1) k (by omega) (by omega) (by omega)
    · obtain rfl : i = posW m t s l := by omega
      have h3 := posW_at m t s l (by omega)
      rw [if_neg (show ¬ keyOrd _ _ _ m t s < 0 from h3), Option.bind_some, hasW, decide_eq_true (by omega), Bool.true_and]
      rfl
theorem l11At_ok (a b c : Int) {k : Nat} (hk : 80 < k) : spec_l11At.f k a b c l m t s = some ((posW m t s l : Int), hasW m t s l) := l11At_l0 m t s h hq a b c l.length 0 k (by omega) (by have := h.1; omega) (Nat.zero_le _)
theorem findW_l0 : ∀ (d i j k : Nat), j - i ≤ d → i ≤ posW m t s l → posW m t s l ≤ j → j ≤ l.length → d + 30 < k →
    impl_Key_with_impl_Board_find_1.l0 k l (l.length : Int) (i : Int) (j : Int) m t s = some ((posW m t s l : Int), hasW m t s l) := by
  have h40 := h.1
  have cmp : ∀ (i k : Nat), i < l.length → 20 < k → impl_Board_find_1.f k (wn l i).f0.f0 (wn l i).f0.f1 (wn l i).f0.f2 (wn l i).f1.f0 (wn l i).f1.f1 (wn l i).f1.f2 (wn l i).f1.f3 (wn l i).f1.f4 (wn l i).f1.f5 (wn l i).f2 (wn l i).f3 m t s = some (ordQ (wn l i) m t s) := fun i k hi hk => by
    unfold impl_Board_find_1.f
    rw [implCompare_ok (h.2 i hi).1 hq hk, Option.bind_some]
    rfl
  intro d
  induction d with
  | zero =>
    intro i j k hd h1 h2 h3 hk
    obtain ⟨k, rfl⟩ : ∃ q, k = q + 1 := ⟨k - 1, by omega⟩
    obtain rfl : i = posW m t s l := by omega
    rw [impl_Key_with_impl_Board_find_1.l0, if_neg (by omega)]
    by_cases c : posW m t s l < l.length
    · rw [if_pos (by omega), if_pos (by omega), if_pos (by omega), cmp (posW m t s l) k c (by omega), Option.bind_some, hasW, decide_eq_true c, Bool.true_and]
    · rw [if_neg (by omega), hasW, decide_eq_false c, Bool.false_and]
  | succ d ih =>
    intro i j k hd h1 h2 h3 hk
    obtain ⟨k, rfl⟩ : ∃ q, k = q + 1 := ⟨k - 1, by omega⟩
    by_cases hij : i < j
    · have hm : wrap64 ((IntKind.u64.wrap (wrap64 ((i : Int) + (j : Int)))) / 2) = (((i + j) / 2 : Nat) : Int) := by
        rw [w64 (x := (i : Int) + (j : Int)) (by omega) (by omega), wu64 (by omega) (by omega), w64 (by omega) (by omega)]; omega
      obtain ⟨n, hme⟩ : ∃ n, n = (i + j) / 2 := ⟨_, rfl⟩
      rw [impl_Key_with_impl_Board_find_1.l0, if_pos (by omega), hm, ← hme, if_pos (by omega), if_pos (by omega), cmp n k (by omega) (by omega), Option.bind_some]
      by_cases cb : ordQ (wn l n) m t s < 0
      · rw [if_pos cb, show wrap64 ((n : Int) + 1) = ((n + 1 : Nat) : Int) by rw [w64 (by omega) (by omega)]; omega]
        exact ih (n + 1) j k (by omega) (by
          rcases Nat.lt_or_ge n (posW m t s l) with q | q
          · omega
          · exact absurd cb (posW_ge m t s h hq n q (by omega))) h2 h3 (by omega)
      · rw [if_neg cb]
        exact ih i n k (by omega) h1 (by
          rcases Nat.lt_or_ge n (posW m t s l) with q | q
          · exact absurd (posW_lt m t s l n q) cb
          · exact q) (by omega) (by omega)
    · exact ih i j (k + 1) (by omega) h1 h2 h3 (by omega)
theorem findW_ok (a b c : Int) {k : Nat} (hk : 80 < k) : impl_Board_find.f k a b c l m t s = some ((posW m t s l : Int), hasW m t s l) := by
  have h1 := findW_l0 m t s h hq l.length 0 l.length k (by omega) (Nat.zero_le _) (posW_le m t s l) (Nat.le_refl _) (by have := h.1; omega)
  rw [show ((0 : Nat) : Int) = 0 from rfl] at h1
  unfold impl_Board_find.f impl_Key_with_impl_Board_find_1.f
  rw [h1, Option.bind_some]
end
end Go.Proofs.YtkgmoajdcibafaaDoor.Lem
end

/- The program's WinOf returns what the reference's returns: what FnExactWinOf's callees answer, at every board and key that Go can hold. -/
namespace Go.Proofs.YtkgmoajdcibafaaDoor.Pure
open Go Go.RowKit Go.Proofs.YtkgmoajdcibafaaDoor.P Go.Proofs.YtkgmoajdcibafaaDoorW.PrintWords Go.Proofs.YtkgmoajdcibafaaDoorW.PrintLast Go.Proofs.YtkgmoajdcibafaaDoorW.PrintMore Go.Proofs.YtkgmoajdcibafaaDoor.Lem

theorem szBoard_le (a b c : Int) {l : List Lw} (hl : l.length ≤ 9223372036854775807) (hh : ∀ w ∈ l, HeldW w) {k : Nat} (hk : 2097160 < k) : ∃ r, laws_szBoard.f k a b c l 1048576 = some r ∧ (r < 0 ∨ (0 ≤ r ∧ r ≤ 1048576 ∧ l.length ≤ 1048576 ∧ ∀ w ∈ l, Short w)) := by
  unfold laws_szBoard.f laws_szWinS.f
  rw [show wrap64 (1048576 - (l.length : Int)) = 1048576 - (l.length : Int) from w64 (by omega) (by omega)]
  by_cases h : 1048576 - (l.length : Int) < 0
  · exact ⟨-1, by rw [if_pos h, Option.bind_some, if_pos (by decide)], .inl (by omega)⟩
  · rw [if_neg h]
    obtain ⟨r, hr, hr2⟩ := szWinS_l0 l (by omega) hh l.length 0 k (1048576 - (l.length : Int)) (by omega) (by omega) (by omega) (by omega)
    rw [List.drop_zero] at hr2
    have hr' : laws_szWinS.l0 k l (1048576 - (l.length : Int)) 0 = some r := hr
    rw [hr', Option.bind_some]
    by_cases hn : r < 0
    · exact ⟨-1, by rw [if_pos hn], .inl (by omega)⟩
    · refine ⟨r, by rw [if_neg hn], ?_⟩
      rcases hr2 with h2 | ⟨h2, h4, h3⟩
      · exact .inl h2
      · exact .inr ⟨h2, by omega, by omega, h3⟩
theorem wn_mem {l : List Wn} {i : Nat} (h : i < l.length) : wn l i ∈ l := by
  rw [show wn l i = l[i] from rdW_get h]
  exact List.getElem_mem h
/-- What both answer: a window with rows within the bound. -/
theorem win_both (a b c : Int) {l : List Wn} (m : ByteArray) {t : List Tg} (s : Int) (hl : l.length ≤ 1048576) (hh : ∀ w ∈ l, w.f0.f1.length ≤ 1048576 ∧ w.f1.f4.length ≤ 1048576) {k : Nat} (hk : 2097160 < k) :
    ∃ (v : Wn) (g : Bool), spec_WinOf.f k a b c l m t s = some (v.f0.f0, v.f0.f1, v.f0.f2, v.f1.f0, v.f1.f1, v.f1.f2, v.f1.f3, v.f1.f4, v.f1.f5, v.f2, v.f3, g) ∧
      impl_WinOf.f k a b c l m t s = some (v.f0.f0, v.f0.f1, v.f0.f2, v.f1.f0, v.f1.f1, v.f1.f2, v.f1.f3, v.f1.f4, v.f1.f5, v.f2, v.f3, g) ∧ v.f0.f1.length ≤ 1048576 ∧ v.f1.f4.length ≤ 1048576 := by
  obtain ⟨k, rfl⟩ : ∃ q, k = q + 1 := ⟨k - 1, by omega⟩
  obtain ⟨g, hg1, hg2⟩ := board_both a b c l (k := k + 1) (by omega)
  unfold spec_WinOf.f impl_WinOf.f
  rw [hg1, hg2, Option.bind_some, Option.bind_some]
  have bad : ∀ (p : Prop), (∃ (v : Wn) (g : Bool), spec_WinOf.j0 (k + 1) true a b c l m t s = some (v.f0.f0, v.f0.f1, v.f0.f2, v.f1.f0, v.f1.f1, v.f1.f2, v.f1.f3, v.f1.f4, v.f1.f5, v.f2, v.f3, g) ∧
      impl_WinOf.j0 (k + 1) true a b c l m t s = some (v.f0.f0, v.f0.f1, v.f0.f2, v.f1.f0, v.f1.f1, v.f1.f2, v.f1.f3, v.f1.f4, v.f1.f5, v.f2, v.f3, g) ∧ v.f0.f1.length ≤ 1048576 ∧ v.f1.f4.length ≤ 1048576) := fun _ =>
    ⟨⟨⟨⟨#[]⟩, [], 0⟩, ⟨0, 0, 0, 0, [], false⟩, 0, false⟩, false, by rw [spec_WinOf.j0, if_pos rfl], by rw [impl_WinOf.j0, if_pos rfl], Nat.zero_le _, Nat.zero_le _⟩
  by_cases hg : g = true
  · subst hg
    obtain ⟨hs, _⟩ := board_sorted (by omega) hg1
    rw [if_pos rfl, if_pos rfl, specKey_ok _ _ _ (by omega), implKey_ok _ _ _ (by omega), Option.bind_some, Option.bind_some]
    by_cases hq : keyB m t s = true
    · rw [hq, Bool.not_true, spec_WinOf.j0, impl_WinOf.j0, if_neg (by decide), if_neg (by decide), l11At_ok m t s hs hq a b c (by omega), findW_ok m t s hs hq a b c (by omega), Option.bind_some, Option.bind_some]
      dsimp only
      by_cases hh2 : hasW m t s l = true
      · rw [if_pos hh2, if_pos hh2, own_ok a b c hl hh (by omega), Option.bind_some]
        dsimp only
        have hp : posW m t s l < l.length := by rw [hasW, Bool.and_eq_true] at hh2; exact of_decide_eq_true hh2.1
        have hw := hh _ (wn_mem hp)
        rw [if_pos (by omega), if_pos (by omega), if_pos (by omega), if_pos (by omega), winCloned_ok (wn l (posW m t s l)) hw, Option.bind_some]
        exact ⟨wn l (posW m t s l), true, rfl, rfl, hw.1, hw.2⟩
      · rw [if_neg hh2, if_neg hh2]
        exact ⟨⟨⟨⟨#[]⟩, [], 0⟩, ⟨0, 0, 0, 0, [], false⟩, 0, false⟩, false, rfl, rfl, Nat.zero_le _, Nat.zero_le _⟩
    · rw [Bool.not_eq_true] at hq
      rw [hq, Bool.not_false]
      exact bad True
  · rw [if_neg hg, if_neg hg]
    exact bad True
theorem FnExactWinOf (a b c : Int) (l : List Lw) (m : ByteArray) (t : List Lt) (s : Int) (hg : (Lit.int .i64 a).wf = true ∧ (Lit.int .i64 b).wf = true ∧ (Lit.int .i64 c).wf = true ∧ l.length ≤ maxLen ∧ ∀ w ∈ l, GWin w)
    (hg1 : m.size ≤ maxLen ∧ (t.length ≤ maxLen ∧ ∀ x ∈ t, GTag x) ∧ (Lit.int .i64 s).wf = true) : ∃ k, laws_FnExactWinOf.Ok k a b c l m t s := by
  have hl : l.length ≤ 9223372036854775807 := maxLen_le hg.2.2.2.1
  have hh : ∀ w ∈ l, HeldW w := fun w hw => heldW (hg.2.2.2.2 w hw)
  have hm : m.size ≤ 9223372036854775807 := maxLen_le hg1.1
  have ht : t.length ≤ 9223372036854775807 := maxLen_le hg1.2.1.1
  have hht : Held t := fun x hx => ⟨maxLen_le (hg1.2.1.2 x hx).1, maxLen_le (hg1.2.1.2 x hx).2⟩
  refine ⟨3000000, ?_⟩
  unfold laws_FnExactWinOf.Ok
  obtain ⟨r, hr, hr2⟩ := szBoard_le a b c hl hh (k := 3000000) (by decide)
  refine ⟨r, hr, ?_⟩
  rcases hr2 with hn | ⟨hn, hn1, hl', hs⟩
  · exact Or.inl hn
  refine Or.inr ⟨hn, ?_⟩
  obtain ⟨r2, hr3, hr4⟩ := szKey_ok hm ht hht s hn hn1 (k := 3000000) (.inr (by decide))
  refine ⟨r2, hr3, ?_⟩
  rcases hr4 with hn2 | ⟨hn2, _, ht'⟩
  · exact Or.inl hn2
  refine Or.inr ⟨hn2, ?_⟩
  have hlm : (l.map cvW).length ≤ 1048576 := by rw [List.length_map]; exact hl'
  have htm : (t.map cvT).length ≤ 1048576 := by rw [List.length_map]; exact ht'
  have hsm : ∀ w ∈ l.map cvW, w.f0.f1.length ≤ 1048576 ∧ w.f1.f4.length ≤ 1048576 := by
    intro w hw
    obtain ⟨v, hv, rfl⟩ := List.mem_map.1 hw
    obtain ⟨q1, q2⟩ := hs v hv
    exact ⟨by show (v.f0.f1.map cvT).length ≤ _; rw [List.length_map]; exact q1, q2⟩
  obtain ⟨v, g, h1, h2, hv1, hv2⟩ := win_both a b c m (t := t.map cvT) s hlm hsm (k := 3000000) (by decide)
  have e1 := endW_le (l.map cvW) 1 hsm
  have hmk : laws_markTagS.f 3000000 (t.map cvT) (endW (l.map cvW) 1) = some (endW (l.map cvW) 1 + 2 * ((t.map cvT).length : Int), markTags (t.map cvT) (endW (l.map cvW) 1)) := markTagS_ok _ (by omega) (by omega) (by omega) (by omega)
  have hmt : laws_markTagS.f 3000000 v.f0.f1 1 = some (1 + 2 * (v.f0.f1.length : Int), markTags v.f0.f1 1) := markTagS_ok _ (by omega) (by omega) (by omega) (by omega)
  have hht2 : laws_heldTagS.f 3000000 (markTags v.f0.f1 1) 1 = some (1 + 2 * (v.f0.f1.length : Int)) := heldTagS_ok _ (by omega) (by omega) (by omega) (by omega)
  have hmi : laws_markIntS.f 3000000 v.f1.f4 (1 + 2 * (v.f0.f1.length : Int)) = some (1 + 2 * (v.f0.f1.length : Int) + (v.f1.f4.length : Int), markInts v.f1.f4 (1 + 2 * (v.f0.f1.length : Int))) := markIntS_ok _ (by omega) (by omega) (by omega) (by omega)
  have hhi : laws_heldIntS.f 3000000 (markInts v.f1.f4 (1 + 2 * (v.f0.f1.length : Int))) (1 + 2 * (v.f0.f1.length : Int)) = some (1 + 2 * (v.f0.f1.length : Int) + (v.f1.f4.length : Int)) := heldIntS_ok _ (by omega) (by omega) (by omega) (by omega)
  refine ⟨a, b, c, l.map cvW, m, t.map cvT, s, _, _, _, _, _, _, _, _, _, _, _, g, _, _, endW (l.map cvW) 1 + 2 * ((t.map cvT).length : Int), markTags (t.map cvT) (endW (l.map cvW) 1), 1 + 2 * (v.f0.f1.length : Int) + (v.f1.f4.length : Int), markTags v.f0.f1 1, markInts v.f1.f4 (1 + 2 * (v.f0.f1.length : Int)), toBoard_ok a b c hl' hs (k := 3000000) (by decide), toKey_ok m ht' s (by omega), h1, h2, eqWin_ok hv1 hv2 (by decide), eqBoard_ok _ _ _ hlm hsm (by decide), eqKey_ok m htm s (by omega), markWinS_ok _ (by decide) (by decide) hlm hsm (by decide), ?_, ?_, ?_, ?_, ?_, ?_⟩
  · unfold laws_markKey.f
    rw [hmk, Option.bind_some]
  · unfold laws_markWin.f laws_markKey.f laws_markAgg.f
    rw [hmt, Option.bind_some, Option.bind_some]
    dsimp only
    rw [hmi, Option.bind_some, Option.bind_some]
  · unfold laws_heldWin.f laws_heldKey.f laws_heldAgg.f
    rw [hht2, Option.bind_some, if_neg (by omega), Option.bind_some, if_neg (by omega), hhi, Option.bind_some, if_neg (by omega), Option.bind_some, if_neg (by omega)]
  · omega
  · omega
  · omega
end Go.Proofs.YtkgmoajdcibafaaDoor.Pure

/- The row of laws.FnExactWinOf: its arguments opened, the walk, and the tied card. -/
namespace Go.Proofs.YtkgmoajdcibafaaDoor.fnExactWinOf
open Go Go.ChangeShapes Go.WideShapes Go.ChangeAt Go.RowKit Go.Proofs.YtkgmoajdcibafaaDoor.P Go.Proofs.YtkgmoajdcibafaaDoorW.PrintWords Go.Proofs.YtkgmoajdcibafaaDoorW.PrintLast Go.Proofs.YtkgmoajdcibafaaDoorW.PrintMore Go.Proofs.YtkgmoajdcibafaaDoor.Lem
set_option linter.unusedVariables false
theorem own : ownKnob Tryd.prog.godebug = none := by kernel_rfl
theorem laidOut : laidOutB Tryd.prog = true := by kernel_rfl
noncomputable def laidWorld (os : Os) : World := World.laidAll Tryd.prog os Rows.fnExactWinOfRow.laid
theorem laidWorld_met (os : Os) (args : Array Value) : laidMetH Tryd.prog Rows.fnExactWinOfRow.laid ((laidWorld os).forCall (fun _ _ => 0) ⟨#[], args, []⟩).memory := by
  rw [Go.MakeChecks.laidMetH_plain _ _ _ (by kernel_rfl)]
  exact laidMet_laidAll args (by kernel_rfl) (by kernel_rfl)

set_option maxRecDepth 100000 in
theorem lifted (os : Os) (started : os.Started) (H : Type) (enc : TypeId × Value → H) :
    ReturnsInHanded {} Tryd.checked os 3 .any (fun w args => (Rows.fnExactWinOfSpec.pre enc Tryd.prog Tryd.f3 [] false w args ∧ laidMetH Tryd.prog Rows.fnExactWinOfRow.laid w) ∧ sizedMet enc Tryd.prog Tryd.f3 (OpenSpec.ofChange Rows.fnExactWinOfSpec) false w args)
      (Rows.fnExactWinOfSpec.post enc Tryd.prog Tryd.f3 false true false false) := by
  refine returnsInHanded_of_change_and (C := Tryd.checked) (X := fun w _ => laidMetH Tryd.prog Rows.fnExactWinOfRow.laid w) (fun _ _ _ hh h => h.of_heap hh) own started (by kernel_rfl) Tryd.func3
    (ChangeSpec.witness_at (enc := enc) (C := Tryd.checked) (os := os) (X := fun w _ => laidMetH Tryd.prog Rows.fnExactWinOfRow.laid w) false (laidWorld os) #[.agg #[.int .i64 0, .int .i64 0, .int .i64 0, .slice none 0 0], .agg #[.string ⟨#[]⟩, .slice none 0 0, .int .i64 0]] 8 rfl (by kernel_rfl) (by kernel_rfl) (by kernel_rfl) (by kernel_rfl) (by kernel_rfl) (laidWorld_met os _)) ?_
  intro W base args ds gs before hval0 hW _ _ hL _
  have hval : ∀ (j : Nat) t v, Tryd.f3.params[j]? = some t → args[j]? = some v → Value.okWide Tryd.prog W .any base t v := hval0
  have hW' := hW
  obtain ⟨p, q, hA0, hV, rfl, hfz, hnd⟩ := hW
  have hA : DataW.TrodAll enc Tryd.prog W 0 (fun _ => true) true Tryd.f3.params.toList args.toList ds p := hA0
  rw [Tryd.params3] at hA hval
  obtain ⟨v0, vs0, d0, ds0, p0, q0, hargs, rfl, rfl, h0, r0⟩ := trodAll_cons hA
  obtain ⟨v1, vs1, d1, ds1, p1, q1, rfl, rfl, rfl, h1, r1⟩ := trodAll_cons r0
  obtain ⟨rfl, rfl, rfl⟩ := trodAll_nil r1
  obtain rfl : args = #[v0, v1] := by cases args; simp_all
  obtain ⟨rfl, rfl⟩ := trodVars_none hV
  have k0 := h0
  have lt0 : ∀ x ∈ p0, x.block < W.heap.size := by obtain ⟨m, hm⟩ := k0; exact DataW.trod_lt m _ _ _ hm
  have k1 := h1
  have lt1 : ∀ x ∈ p1, x.block < W.heap.size := by obtain ⟨m, hm⟩ := k1; exact DataW.trod_lt m _ _ _ hm
  have hO0 : Opens enc Tryd.prog W 0 (fun _ => true) true (Kd.pair (Kd.int .i64) (Kd.pair (Kd.int .i64) (Kd.pair (Kd.int .i64) (Kd.slice 116 k116)))) 24 _ := (opens_struct Tryd.underlying24 (by kernel_rfl) (opensF_cons (by kernel_rfl) (opens_int Tryd.underlying3) (opensF_cons (by kernel_rfl) (opens_int Tryd.underlying3) (opensF_cons (by kernel_rfl) (opens_int Tryd.underlying3) (opensF_one (by kernel_rfl) (opens_slice 116 Tryd.underlying22 (opens_iso (fun x : S116 => (x.f0, x.f1, x.f2, x.f3)) (fun a => ⟨a.1, a.2.1, a.2.2.1, a.2.2.2⟩) (fun _ => rfl) (opens_struct Tryd.underlying116 (by kernel_rfl) (opensF_cons (by kernel_rfl) (opens_iso (fun x : S27 => (x.f0, x.f1, x.f2)) (fun a => ⟨a.1, a.2.1, a.2.2⟩) (fun _ => rfl) (opens_struct Tryd.underlying27 (by kernel_rfl) (opensF_cons (by kernel_rfl) (opens_string Tryd.underlying9) (opensF_cons (by kernel_rfl) (opens_slice 119 Tryd.underlying25 (opens_iso (fun x : S119 => (x.f0, x.f1)) (fun a => ⟨a.1, a.2⟩) (fun _ => rfl) (opens_struct Tryd.underlying119 (by kernel_rfl) (opensF_cons (by kernel_rfl) (opens_string Tryd.underlying9) (opensF_one (by kernel_rfl) (opens_string Tryd.underlying9))))) (by kernel_rfl)) (opensF_one (by kernel_rfl) (opens_int Tryd.underlying3)))))) (opensF_cons (by kernel_rfl) (opens_iso (fun x : S92 => (x.f0, x.f1, x.f2, x.f3, x.f4, x.f5)) (fun a => ⟨a.1, a.2.1, a.2.2.1, a.2.2.2.1, a.2.2.2.2.1, a.2.2.2.2.2⟩) (fun _ => rfl) (opens_struct Tryd.underlying92 (by kernel_rfl) (opensF_cons (by kernel_rfl) (opens_int Tryd.underlying3) (opensF_cons (by kernel_rfl) (opens_int Tryd.underlying3) (opensF_cons (by kernel_rfl) (opens_int Tryd.underlying3) (opensF_cons (by kernel_rfl) (opens_int Tryd.underlying3) (opensF_cons (by kernel_rfl) (opens_slice 3 Tryd.underlying33 (opens_int Tryd.underlying3) (by kernel_rfl)) (opensF_one (by kernel_rfl) (opens_bool Tryd.underlying4))))))))) (opensF_cons (by kernel_rfl) (opens_int Tryd.underlying3) (opensF_one (by kernel_rfl) (opens_bool Tryd.underlying4))))))) (by kernel_rfl)))))))
  obtain ⟨cs0, rfl, hsz0⟩ := okWide_struct Tryd.underlying24 (hval 0 24 v0 rfl rfl)
  obtain ⟨⟨a0_0, a0_1, a0_2, l0_3⟩, ⟨_, _, e0, rfl, ⟨_, _, rfl, rfl, ⟨_, _, rfl, rfl, ⟨A0_3, c0_3, rfl, hc0_3, hC0_3⟩⟩⟩⟩, hg0⟩ := hO0 _ _ _ h0.choose_spec
  obtain rfl : cs0 = #[.int .i64 a0_0, .int .i64 a0_1, .int .i64 a0_2, .slice A0_3 l0_3.length c0_3] := by
    have e1 : (Value.agg cs0).cells.toList = [.int .i64 a0_0, .int .i64 a0_1, .int .i64 a0_2, .slice A0_3 l0_3.length c0_3] := e0
    cases cs0
    simpa [Value.cells] using e1
  have hO1 : Opens enc Tryd.prog W 0 (fun _ => true) true (Kd.pair Kd.string (Kd.pair (Kd.slice 119 k119) (Kd.int .i64))) 27 _ := (opens_struct Tryd.underlying27 (by kernel_rfl) (opensF_cons (by kernel_rfl) (opens_string Tryd.underlying9) (opensF_cons (by kernel_rfl) (opens_slice 119 Tryd.underlying25 (opens_iso (fun x : S119 => (x.f0, x.f1)) (fun a => ⟨a.1, a.2⟩) (fun _ => rfl) (opens_struct Tryd.underlying119 (by kernel_rfl) (opensF_cons (by kernel_rfl) (opens_string Tryd.underlying9) (opensF_one (by kernel_rfl) (opens_string Tryd.underlying9))))) (by kernel_rfl)) (opensF_one (by kernel_rfl) (opens_int Tryd.underlying3)))))
  obtain ⟨cs1, rfl, hsz1⟩ := okWide_struct Tryd.underlying27 (hval 1 27 v1 rfl rfl)
  obtain ⟨⟨a1_0, l1_1, a1_2⟩, ⟨_, _, e1, rfl, ⟨_, _, rfl, ⟨A1_1, c1_1, rfl, hc1_1, hC1_1⟩, rfl⟩⟩, hg1⟩ := hO1 _ _ _ h1.choose_spec
  obtain rfl : cs1 = #[.string a1_0, .slice A1_1 l1_1.length c1_1, .int .i64 a1_2] := by
    have e1 : (Value.agg cs1).cells.toList = [.string a1_0, .slice A1_1 l1_1.length c1_1, .int .i64 a1_2] := e1
    cases cs1
    simpa [Value.cells] using e1
  clear hA0 hval0
  obtain ⟨k, hk⟩ := Pure.FnExactWinOf a0_0 a0_1 a0_2 l0_3 a1_0 l1_1 a1_2 hg0 hg1
  refine (laws_FnExactWinOf.calls (k := k) (a0_0 := a0_0) (a0_1 := a0_1) (a0_2 := a0_2) (l0_3 := l0_3) (A0_3 := A0_3) (c0_3 := c0_3) (hr0_3 := hC0_3) (hc0_3 := hc0_3) (a1_0 := a1_0) (l1_1 := l1_1) (A1_1 := A1_1) (c1_1 := c1_1) (hr1_1 := hC1_1) (hc1_1 := hc1_1) (a1_2 := a1_2) (w := W) (h := hk)).mono fun e W' ⟨he, bel⟩ => ?_
  subst he
  exact ⟨_, rfl, _, _, _, [], _, [], hW', trodAll_mk1 (shut_bool Tryd.underlying4 _), (trodAll_cons_mk (Below.trod laidOut (by kernel_rfl) (of_decide_eq_true (by kernel_rfl)) k0 bel lt0) (trodAll_cons_mk (Below.trod laidOut (by kernel_rfl) (of_decide_eq_true (by kernel_rfl)) k1 bel lt1) trodAll_mk0)), rfl, bel.frame _, fun h => by cases h⟩

theorem said : Rows.FnExactWinOfSaid :=
  OpenClaim.holds_of_wide 3 Tryd.f3 rfl rfl rfl rfl rfl rfl rfl ⟨rfl, rfl, rfl, rfl, rfl⟩ rfl rfl rfl rfl rfl (by kernel_rfl) Tryd.func3 (by kernel_rfl)
    (of_decide_eq_true (by kernel_rfl)) (by unfold Func.isWrapper; first | (rw [if_pos (by decide +kernel)]; kernel_rfl) | (rw [if_neg (of_decide_eq_false (by kernel_rfl))]; exact ⟨rfl, rfl⟩))
    (fun os started H enc _ => lifted os started H enc)
theorem proved : Rows.FnExactWinOfCardSaid :=
  Claim7.holds_tied_plain_at .later [] [.data, .pinned] true (true, "dbe4185d9b14acd1f21281ce2ffaf2428158838d079ea547a5009293e05bd213") false
    said (fun _ h => by cases h) (by kernel_rfl) (fun _ h => by cases h) fnExactWinOf_row_tie rfl ⟨rfl, rfl⟩ (by kernel_rfl) rfl
    (fun f fn hf hfn => by
      obtain rfl : f = 3 := Option.some.inj ((show Tryd.prog.funcNamed "loop.example/g00150/laws.FnExactWinOf" = some 3 by kernel_rfl).symm.trans hf) |>.symm
      obtain rfl : fn = Tryd.f3 := (Option.some.inj (Tryd.func3.symm.trans hfn)).symm
      exact ⟨by kernel_rfl, fun j t ht => by
        rw [Tryd.params3] at ht
        have h3 : t = 24 ∨ t = 27 := by
          rcases j with _ | j
          · exact (.inl (by simpa using ht.symm))
          · rcases j with _ | j
            · exact .inr (((by simpa using ht.symm)))
            · simp at ht
        rcases h3 with rfl | rfl
        · exact (show Tryd.prog.wantsStandIn 24 = false by kernel_rfl)
        · exact (show Tryd.prog.wantsStandIn 27 = false by kernel_rfl)⟩)
    (by kernel_rfl)
#print axioms proved
end Go.Proofs.YtkgmoajdcibafaaDoor.fnExactWinOf
namespace Go.Proofs.YtkgmoajdcibafaaDoor
/-- The tied card, under a short name, for the claim. -/
theorem fnExactWinOf_holds : Rows.FnExactWinOfCardSaid := fnExactWinOf.proved
end Go.Proofs.YtkgmoajdcibafaaDoor
