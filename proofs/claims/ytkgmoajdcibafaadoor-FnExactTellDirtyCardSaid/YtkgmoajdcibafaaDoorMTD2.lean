/- Part 2 of the walks and words that TD uses. No conditions of its own. -/
import Derived.Test.YtkgmoajdcibafaaDoorProg
import Derived.Below
import Derived.Deep.Draws
import Derived.Deep.AppendLies
import Derived.Maps.AppendAt
import Derived.OwnWalk
import Derived.Laws.BytesArg
import Derived.Laws.MakeOwn
import Derived.Laws.OwnMore
import Derived.Deep.OwnRows
import Derived.Tactics
import Derived.Lib.ConvBytes
import Derived.Laws.Slices
import Derived.WalkKit
import Derived.KernelRfl
import Derived.RowKit3
import Derived.Deep.LoopGhost
import Derived.Deep.QuietTactic
import Derived.BigQuiet
import Derived.WideLaws
import Derived.Deep.DeepCutAuto
import Derived.Deep.CutBlock
import Derived.Deep.RegionHeld3
import Derived.Laws.Rows
import Derived.Lib.AppendStr
import Derived.ArgAppend
import Derived.Laws.IdiomCopy
import Derived.OrdersHeld
import Derived.Laws.BitsLemmas
import Derived.RowKit
import Derived.Lib.SliceRun
import Derived.Laws.BitsAllLaws
import Derived.Lib.SlTrimSet
import Derived.Shelf.Strings.SlTrimAscii
import Derived.Shelf.Strings.Trim
import Derived.Shelf.Small.Utf8
import Derived.Shelf.Small.Strs
import Derived.Shelf.Strings.Search1
import Derived.Shelf.Strings.Runes
import Derived.Shelf.Strings.AsciiSet
import Derived.Shelf.Unicode.DecodeSlow
import Derived.Test.YtkgmoajdcibafaaDoorMTD1

section
/- Short words for the walks: each is a proof of its statement, found where it is used. No conditions. -/
namespace Go.Proofs.YtkgmoajdcibafaaDoor.P
open Go.RowKit Go.Proofs.YtkgmoajdcibafaaDoorW.PrintWords Go.Proofs.YtkgmoajdcibafaaDoorW.PrintLast Go.Proofs.YtkgmoajdcibafaaDoorW.PrintMore
theorem less_tri : ∀ a b : List UInt8, Op.bytesLess b a = !(Op.bytesLess a b || a == b)
  | [], [] => rfl
  | [], _ :: _ => rfl
  | _ :: _, [] => rfl
  | a :: x, b :: y => by
    rw [Op.bytesLess, Op.bytesLess, less_tri x y, List.cons_beq_cons]
    by_cases h : a = b
    · subst h
      rw [beq_self_eq_true, show decide (a < a) = false from decide_eq_false (by rw [UInt8.lt_iff_toNat_lt]; omega)]
      simp only [Bool.true_and, Bool.false_or]
    · have h' : a.toNat ≠ b.toNat := fun e => h (UInt8.toNat_inj.1 e)
      have e1 : (a == b) = false := beq_eq_false_iff_ne.2 h
      have e2 : (b == a) = false := beq_eq_false_iff_ne.2 (Ne.symm h)
      rw [e1, e2, Bool.false_and, Bool.false_and, Bool.or_false, Bool.or_false, Bool.false_and, Bool.or_false]
      by_cases hl : a < b
      · rw [decide_eq_true hl, decide_eq_false (by rw [UInt8.lt_iff_toNat_lt] at hl ⊢; omega)]; rfl
      · rw [decide_eq_false hl, decide_eq_true (by rw [UInt8.lt_iff_toNat_lt] at hl ⊢; omega)]; rfl
theorem str_geq (t : TypeId) (a b : ByteArray) : binOp .geq t (.string a) (.string b) = pure (.bool !(Op.bytesLess a.toList b.toList)) := by simp [binOp, Op.stringOp]
theorem str_gtr (t : TypeId) (a b : ByteArray) : binOp .gtr t (.string a) (.string b) = pure (.bool (Op.bytesLess b.toList a.toList)) := by rw [less_tri a.toList b.toList]; simp [binOp, Op.stringOp]
theorem str_leq (t : TypeId) (a b : ByteArray) : binOp .leq t (.string a) (.string b) = pure (.bool !(Op.bytesLess b.toList a.toList)) := by rw [less_tri a.toList b.toList]; simp [binOp, Op.stringOp]
set_option linter.unusedVariables false
section
variable {P : Program} {md : Region.Mode} {ops : Array Oper} {Q : Exit → Act → World → Prop} {S : World → Prop} {ds : List Nat} {T : Bool × List (List Nat × List Nat)} {B : List Nat} {oi : Oper} {v : Value} {fuel : Nat} {l l' : Array Bool} {a a' : Act} {w : World}
theorem pA (i N : Nat) (hT : Aside0 (rtab md ops = T)) (h : wpAnyLast P md ops Q S ds fuel l' a' w) (hi : ops[i]? = some oi := by rfl) (hN : oi.dst = some N := by rfl)
    (hl : l.setIfInBounds i true = l' := by simp only [List.setIfInBounds_toArray, List.set_cons_zero, List.set_cons_succ]; rfl) (hc : anyT T l.toList l'.toList i = true := by kernel_rfl)
    (hQ : ∀ c a w, Q (.panic c) (a.put oi.dst v) w → Q (.panic c) a w := by exact fun _ _ _ h => h) (hw : Region.wanted oi (yielded ops a.tmps) = true := by rfl)
    (hy : ∀ w', (execOp a.eval oi).run P w' = .ok (.value v) w' := by intro w'; go_simp; with_reducible rfl) (ha : a.put (some N) v = a' := by simp only [Act.put, List.setIfInBounds_toArray, List.set_cons_zero, List.set_cons_succ, i64_w, i32_w]; rfl) : wpAnyLast P md ops Q S ds (fuel + 1) l a w :=
  pure_ l' hi hN (any_of hT.out hc) hQ (Or.inl ⟨hw, hy⟩) ha h
theorem uA (i N : Nat) (hT : Aside0 (rtab md ops = T)) (h : wpAnyLast P md ops Q S ds fuel l' a' w) (hi : ops[i]? = some oi := by rfl) (hN : oi.dst = some N := by rfl)
    (hl : l.setIfInBounds i true = l' := by simp only [List.setIfInBounds_toArray, List.set_cons_zero, List.set_cons_succ]; rfl) (hc : anyT T l.toList l'.toList i = true := by kernel_rfl)
    (hQ : ∀ c a w, Q (.panic c) (a.put oi.dst undef) w → Q (.panic c) a w := by exact fun _ _ _ h => h) (hw : Region.wanted oi (yielded ops a.tmps) = false := by rfl)
    (ha : a.put (some N) undef = a' := by simp only [Act.put, List.setIfInBounds_toArray, List.set_cons_zero, List.set_cons_succ, i64_w, i32_w]; rfl) : wpAnyLast P md ops Q S ds (fuel + 1) l a w :=
  pure_ l' hi hN (any_of hT.out hc) hQ (Or.inr ⟨hw, rfl⟩) ha h
theorem tA (i N : Nat) (hT : Aside0 (rtab md ops = T)) (hB : Aside0 (waitsOk T.2 B = true)) (hS : S w) (h : wpAnyLast P md ops Q S ds fuel l' a' w) (hi : ops[i]? = some oi := by rfl) (hN : oi.dst = some N := by rfl)
    (hl : l.setIfInBounds i true = l' := by simp only [List.setIfInBounds_toArray, List.set_cons_zero, List.set_cons_succ]; rfl) (hc : takeW T B ds l.toList l'.toList i = true := by kernel_rfl)
    (hQ : ∀ c a w, Q (.panic c) (a.put oi.dst v) w → Q (.panic c) a w := by exact fun _ _ _ h => h) (hw : Region.wanted oi (yielded ops a.tmps) = true := by rfl)
    (hy : ∀ w', S w' → (execOp a.eval oi).run P w' = .ok (.value v) w' := by intro w' hS_; (repeat (obtain ⟨_, hS_⟩ := hS_)); go_simp; with_reducible rfl) (ha : a.put (some N) v = a' := by simp only [Act.put, List.setIfInBounds_toArray, List.set_cons_zero, List.set_cons_succ, i64_w, i32_w]; rfl) : wpAnyLast P md ops Q S ds (fuel + 1) l a w :=
  take_ l' hi hN (take_ofW hT.out hB.out hc) hQ (Or.inl ⟨hw, hy⟩) hS ha h
theorem oA (i N : Nat) (hT : Aside0 (rtab md ops = T)) (h : ∀ K : Act → World → Prop, Shut (∀ a' w', S w' → (S w' → wpAnyLast P md ops Q S ds fuel l' a' w') → K a' w') → if Region.wanted oi (yielded ops a.tmps) = true then Oper.wp P oi a w K Q else K (a.put (some N) undef) w)
    (hi : ops[i]? = some oi := by rfl) (hN : oi.dst = some N := by rfl) (hl : l.setIfInBounds i true = l' := by simp only [List.setIfInBounds_toArray, List.set_cons_zero, List.set_cons_succ]; rfl)
    (hc : (readyT T.2 l.toList == [i] && l.toList.set i true == l'.toList) = true := by kernel_rfl) (hd : i ∉ ds := by decide) : wpAnyLast P md ops Q S ds (fuel + 1) l a w :=
  one_ l' hi hN (one_of hT.out hc) hd h
theorem nA (N : Nat) {d : Option Tmp} (h : wpAnyLast P md ops Q S ds fuel l a' w) (hd : d = some N := by rfl) (ha : a.put (some N) v = a' := by simp only [Act.put, List.setIfInBounds_toArray, List.set_cons_zero, List.set_cons_succ, i64_w, i32_w]; rfl) : wpAnyLast P md ops Q S ds fuel l (a.put d v) w := norm_ (hd ▸ ha) h
theorem sA {id : Nat} (n : Nat) (hT : rtab .any ops = T) (hB : waitsOk T.2 B = true) (S : World → Prop) (ds : List Nat) (h : S w.drew → Aside0 (rtab .any ops = T) → Aside0 (waitsOk T.2 B = true) → wpAnyLast P .any ops Q S ds n l a w.drew)
    (hm : P.follows .mixedOrders = true := by kernel_rfl) (hn : ops.size = n := by rfl) (hl : (List.replicate n false).toArray = l := by simp only [List.replicate]; rfl) (hS : S w.drew := by (repeat' apply And.intro) <;> first | trivial | exact Eq.trans (blk_cell (Aside0.out (by assumption)) _) (by rfl) | assumption | exact (HB.out.cell (World.block_lt_of_cell? w _ (by assumption))).trans (by assumption)) : (Code.region id ops true).wp P Q a w :=
  start_ l hm hn hl hS (fun hh => h hh ⟨hT⟩ ⟨hB⟩)
end
theorem sZ {p : Prop} (h : p := by (repeat' apply And.intro) <;> first | trivial | exact Eq.trans (blk_cell (Aside0.out (by assumption)) _) (by rfl) | assumption | exact (HB.out.cell (World.block_lt_of_cell? w _ (by assumption))).trans (by assumption)) : p := h
theorem ifS {α : Type} {c : Prop} [Decidable c] {x : Option α} {r : α} (h : (if c then x else none) = some r) : c ∧ x = some r := by
  by_cases hc : c
  · rw [if_pos hc] at h; exact ⟨hc, h⟩
  · rw [if_neg hc] at h; cases h
theorem ifN {α : Type} {c : Prop} [Decidable c] {x : Option α} {r : α} (h : (if c then none else x) = some r) : ¬ c ∧ x = some r := by
  by_cases hc : c
  · rw [if_pos hc] at h; cases h
  · rw [if_neg hc] at h; exact ⟨hc, h⟩
theorem bindS {α β : Type} {x : α} {f : α → Option β} {r : β} (h : (some x).bind f = some r) : f x = some r := h
theorem hbZ {p : Prop} (h : p := by repeat (first | (with_reducible first | exact HB.out | apply below_alloc | apply pw_below_drewN | apply below_drew1 | refine below_set ?_ (Aside0.out (by assumption))) | exact HB.out)) : p := h
theorem putR {cs cs' : Array Value} {i : Nat} {u : Value} (h : cs.setIfInBounds i u = cs') : cs.setIfInBounds i u = cs' := h
theorem neZ {a b : Nat} (h : a ≠ b) : a ≠ b := h
theorem blk_farZ {w : World} {g gp i : Nat} {t : TypeId} {cs : Array Value} {u : Value} (h : w.heap[g]? = some (.cells cs t (0, 0))) (hp : g ≠ gp) : (w.setCell ⟨gp, i, none⟩ u).heap[g]? = some (.cells cs t (0, 0)) := blk_far h hp u
theorem blk_eqZ {w : World} {g : Nat} {t : TypeId} {cs cs' : Array Value} {z : Nat × Nat} (h : w.heap[g]? = some (.cells cs t z)) (e : cs = cs') : w.heap[g]? = some (.cells cs' t z) := e ▸ h
theorem blk_put0 {w : World} {g i : Nat} {t : TypeId} {cs : Array Value} {u : Value} (h : w.heap[g]? = some (.cells cs t (0, 0))) : (w.setCell ⟨g, i, none⟩ u).heap[g]? = some (.cells (cs.setIfInBounds i u) t (0, 0)) := blk_set h i u
theorem bkZ {p : Prop} (h : p := by first | (with_reducible exact (Aside0.out (by assumption))) | (apply blk_eqZ; (repeat (first | (with_reducible first | refine blk_drewN ?_ _ | refine blk_drew ?_ | refine blk_alloc ?_ _ | exact (Aside0.out (by assumption)) | apply blk_put0 | apply blk_farZ) | exact neZ (Aside0.out (by assumption)))); first | (simp only [List.setIfInBounds_toArray, List.set_cons_zero, List.set_cons_succ] <;> rfl) | rfl) | (repeat (first | (with_reducible first | refine blk_drewN ?_ _ | refine blk_drew ?_ | refine blk_alloc ?_ _ | exact (Aside0.out (by assumption)) | apply blk_put | apply blk_farZ) | ((with_reducible refine putR ?_); simp only [List.setIfInBounds_toArray, List.set_cons_zero, List.set_cons_succ] <;> rfl) | exact putR rfl | exact neZ (Aside0.out (by assumption)) | with_reducible apply blk_far))) : p := h
theorem rZ {p q : Prop} (h0 : p) (h : p → q := by intro h_; (with_reducible repeat (first | apply Kd.R_alloc | apply Kd.R_drewN | apply Kd.R_drew)); exact h_) : q := h h0
theorem aM {p : Prop} (h : p) : Aside0 p := ⟨h⟩
theorem nbL {w : World} {gb : Nat} (g : Nat) {o : Obj} (hg : gb = w.heap.size) (hb : w.heap[g]? = some o := by exact bkZ) : Aside0 (g ≠ gb) := ⟨by rw [hg]; exact Nat.ne_of_lt (blk_lt hb)⟩
theorem nbR {w : World} {gb : Nat} (g : Nat) {o : Obj} (hg : gb = w.heap.size) (hb : w.heap[g]? = some o := by exact bkZ) : Aside0 (gb ≠ g) := ⟨by rw [hg]; exact Nat.ne_of_gt (blk_lt hb)⟩
theorem szZ {w w0 : World} {gb : Nat} (hg : gb = w.heap.size) (hb : Below w0.heap.size w0 w := by exact hbZ) : Aside0 (w0.heap.size ≤ gb) := ⟨by rw [hg]; exact below_size hb⟩
theorem cZ {p q : Prop} (h0 : p) (h : p → q := by intro h_; repeat (first | exact h_ | (with_reducible refine Kd.C_alloc ?_ _) | (with_reducible refine Kd.C_drewN ?_ _) | (with_reducible refine Kd.C_drew ?_))) : q := h h0
theorem bB {w w1 : World} (g : Nat) {o : Obj} (hb : Below w.heap.size w w1) (h : w.heap[g]? = some o := by exact bkZ) : Aside0 (w1.heap[g]? = some o) := ⟨blk_below h hb⟩
theorem nbB {w : World} {gb : Nat} (g : Nat) {o : Obj} (hg : gb = w.heap.size) (hb : w.heap[g]? = some o := by exact bkZ) : Aside0 (g ≠ gb) ∧ Aside0 (gb ≠ g) := ⟨nbL g hg hb, nbR g hg hb⟩
theorem rF3 {α : Type} {d : Kd α} {e : Nat} {w : World} {base : Nat} {ok : Nat → Prop} {v : Value} {xs : List α} {g t : Nat} {cells : Array Value} {a0 a1 a2 : Value} (h : Kd.R d e w base ok v xs) (hb : w.heap[g]? = some (.cells cells t (0, 0))) (ht : ∀ q, q ∈ e :: d.E → q ≠ t := by decide) : Kd.R d e (((w.setCell ⟨g, 0, none⟩ a0).setCell ⟨g, 1, none⟩ a1).setCell ⟨g, 2, none⟩ a2) base ok v xs := Kd.R_mono (Kd.R_far (p := ⟨g, 2, none⟩) (Kd.R_far (p := ⟨g, 1, none⟩) (Kd.R_far (p := ⟨g, 0, none⟩) (Kd.R_types h hb ht) (fun _ hk => hk.2) a0) (fun _ hk => hk.2) a1) (fun _ hk => hk.2) a2) (fun _ h_ => h_.1)
theorem cellsZ2 {w : World} {g : Nat} {t : TypeId} {a0 a1 : Value} (h : w.heap[g]? = some (.cells #[a0, a1] t (0, 0))) : w.cell? ⟨g, 0, none⟩ = some a0 ∧ w.cell? ⟨g, 1, none⟩ = some a1 ∧ w.frozen? ⟨g, 0, none⟩ = false ∧ w.frozen? ⟨g, 1, none⟩ = false := ⟨(blk_cell h 0).trans rfl, (blk_cell h 1).trans rfl, blk_frozen h 0, blk_frozen h 1⟩
theorem cellsZ3 {w : World} {g : Nat} {t : TypeId} {a0 a1 a2 : Value} (h : w.heap[g]? = some (.cells #[a0, a1, a2] t (0, 0))) : w.cell? ⟨g, 0, none⟩ = some a0 ∧ w.cell? ⟨g, 1, none⟩ = some a1 ∧ w.cell? ⟨g, 2, none⟩ = some a2 ∧ w.frozen? ⟨g, 0, none⟩ = false ∧ w.frozen? ⟨g, 1, none⟩ = false ∧ w.frozen? ⟨g, 2, none⟩ = false := ⟨(blk_cell h 0).trans rfl, (blk_cell h 1).trans rfl, (blk_cell h 2).trans rfl, blk_frozen h 0, blk_frozen h 1, blk_frozen h 2⟩
theorem cellsZ4 {w : World} {g : Nat} {t : TypeId} {a0 a1 a2 a3 : Value} (h : w.heap[g]? = some (.cells #[a0, a1, a2, a3] t (0, 0))) : w.cell? ⟨g, 0, none⟩ = some a0 ∧ w.cell? ⟨g, 1, none⟩ = some a1 ∧ w.cell? ⟨g, 2, none⟩ = some a2 ∧ w.cell? ⟨g, 3, none⟩ = some a3 ∧ w.frozen? ⟨g, 0, none⟩ = false ∧ w.frozen? ⟨g, 1, none⟩ = false ∧ w.frozen? ⟨g, 2, none⟩ = false ∧ w.frozen? ⟨g, 3, none⟩ = false := ⟨(blk_cell h 0).trans rfl, (blk_cell h 1).trans rfl, (blk_cell h 2).trans rfl, (blk_cell h 3).trans rfl, blk_frozen h 0, blk_frozen h 1, blk_frozen h 2, blk_frozen h 3⟩
theorem cellsZ6 {w : World} {g : Nat} {t : TypeId} {a0 a1 a2 a3 a4 a5 : Value} (h : w.heap[g]? = some (.cells #[a0, a1, a2, a3, a4, a5] t (0, 0))) : w.cell? ⟨g, 0, none⟩ = some a0 ∧ w.cell? ⟨g, 1, none⟩ = some a1 ∧ w.cell? ⟨g, 2, none⟩ = some a2 ∧ w.cell? ⟨g, 3, none⟩ = some a3 ∧ w.cell? ⟨g, 4, none⟩ = some a4 ∧ w.cell? ⟨g, 5, none⟩ = some a5 ∧ w.frozen? ⟨g, 0, none⟩ = false ∧ w.frozen? ⟨g, 1, none⟩ = false ∧ w.frozen? ⟨g, 2, none⟩ = false ∧ w.frozen? ⟨g, 3, none⟩ = false ∧ w.frozen? ⟨g, 4, none⟩ = false ∧ w.frozen? ⟨g, 5, none⟩ = false := ⟨(blk_cell h 0).trans rfl, (blk_cell h 1).trans rfl, (blk_cell h 2).trans rfl, (blk_cell h 3).trans rfl, (blk_cell h 4).trans rfl, (blk_cell h 5).trans rfl, blk_frozen h 0, blk_frozen h 1, blk_frozen h 2, blk_frozen h 3, blk_frozen h 4, blk_frozen h 5⟩
theorem cellsZ10 {w : World} {g : Nat} {t : TypeId} {a0 a1 a2 a3 a4 a5 a6 a7 a8 a9 : Value} (h : w.heap[g]? = some (.cells #[a0, a1, a2, a3, a4, a5, a6, a7, a8, a9] t (0, 0))) : w.cell? ⟨g, 0, none⟩ = some a0 ∧ w.cell? ⟨g, 1, none⟩ = some a1 ∧ w.cell? ⟨g, 2, none⟩ = some a2 ∧ w.cell? ⟨g, 3, none⟩ = some a3 ∧ w.cell? ⟨g, 4, none⟩ = some a4 ∧ w.cell? ⟨g, 5, none⟩ = some a5 ∧ w.cell? ⟨g, 6, none⟩ = some a6 ∧ w.cell? ⟨g, 7, none⟩ = some a7 ∧ w.cell? ⟨g, 8, none⟩ = some a8 ∧ w.cell? ⟨g, 9, none⟩ = some a9 ∧ w.frozen? ⟨g, 0, none⟩ = false ∧ w.frozen? ⟨g, 1, none⟩ = false ∧ w.frozen? ⟨g, 2, none⟩ = false ∧ w.frozen? ⟨g, 3, none⟩ = false ∧ w.frozen? ⟨g, 4, none⟩ = false ∧ w.frozen? ⟨g, 5, none⟩ = false ∧ w.frozen? ⟨g, 6, none⟩ = false ∧ w.frozen? ⟨g, 7, none⟩ = false ∧ w.frozen? ⟨g, 8, none⟩ = false ∧ w.frozen? ⟨g, 9, none⟩ = false := ⟨(blk_cell h 0).trans rfl, (blk_cell h 1).trans rfl, (blk_cell h 2).trans rfl, (blk_cell h 3).trans rfl, (blk_cell h 4).trans rfl, (blk_cell h 5).trans rfl, (blk_cell h 6).trans rfl, (blk_cell h 7).trans rfl, (blk_cell h 8).trans rfl, (blk_cell h 9).trans rfl, blk_frozen h 0, blk_frozen h 1, blk_frozen h 2, blk_frozen h 3, blk_frozen h 4, blk_frozen h 5, blk_frozen h 6, blk_frozen h 7, blk_frozen h 8, blk_frozen h 9⟩
theorem cellsZ11 {w : World} {g : Nat} {t : TypeId} {a0 a1 a2 a3 a4 a5 a6 a7 a8 a9 a10 : Value} (h : w.heap[g]? = some (.cells #[a0, a1, a2, a3, a4, a5, a6, a7, a8, a9, a10] t (0, 0))) : w.cell? ⟨g, 0, none⟩ = some a0 ∧ w.cell? ⟨g, 1, none⟩ = some a1 ∧ w.cell? ⟨g, 2, none⟩ = some a2 ∧ w.cell? ⟨g, 3, none⟩ = some a3 ∧ w.cell? ⟨g, 4, none⟩ = some a4 ∧ w.cell? ⟨g, 5, none⟩ = some a5 ∧ w.cell? ⟨g, 6, none⟩ = some a6 ∧ w.cell? ⟨g, 7, none⟩ = some a7 ∧ w.cell? ⟨g, 8, none⟩ = some a8 ∧ w.cell? ⟨g, 9, none⟩ = some a9 ∧ w.cell? ⟨g, 10, none⟩ = some a10 ∧ w.frozen? ⟨g, 0, none⟩ = false ∧ w.frozen? ⟨g, 1, none⟩ = false ∧ w.frozen? ⟨g, 2, none⟩ = false ∧ w.frozen? ⟨g, 3, none⟩ = false ∧ w.frozen? ⟨g, 4, none⟩ = false ∧ w.frozen? ⟨g, 5, none⟩ = false ∧ w.frozen? ⟨g, 6, none⟩ = false ∧ w.frozen? ⟨g, 7, none⟩ = false ∧ w.frozen? ⟨g, 8, none⟩ = false ∧ w.frozen? ⟨g, 9, none⟩ = false ∧ w.frozen? ⟨g, 10, none⟩ = false := ⟨(blk_cell h 0).trans rfl, (blk_cell h 1).trans rfl, (blk_cell h 2).trans rfl, (blk_cell h 3).trans rfl, (blk_cell h 4).trans rfl, (blk_cell h 5).trans rfl, (blk_cell h 6).trans rfl, (blk_cell h 7).trans rfl, (blk_cell h 8).trans rfl, (blk_cell h 9).trans rfl, (blk_cell h 10).trans rfl, blk_frozen h 0, blk_frozen h 1, blk_frozen h 2, blk_frozen h 3, blk_frozen h 4, blk_frozen h 5, blk_frozen h 6, blk_frozen h 7, blk_frozen h 8, blk_frozen h 9, blk_frozen h 10⟩
theorem z1200 {p : Prop} (h : p := by first | (with_reducible assumption) | assumption) : p := h
theorem z1bd3 {p : Prop} (h : p := by (with_reducible repeat (first | apply Kd.S_alloc | apply Kd.S_drewN | apply Kd.S_drew)); exact HO103.out) : p := h
theorem z2bfb {p : Prop} (h : p := by first | exact Kd.S_nil _ _ _ _ _ | exact Kd.N_nil _ _ _ _ _ | exact Kd.V_nil _ _ _ _ _ | exact Kd.Q_nil _ _ _ _ _ | exact Kd.R_nil _ _ _ _ _) : p := h
theorem z4195 {p : Prop} (h : p := by repeat (first | exact HR0.out | (with_reducible refine Kd.C_alloc ?_ _) | (with_reducible refine Kd.C_drewN ?_ _) | (with_reducible refine Kd.C_drew ?_))) : p := h
theorem z4458 {p : Prop} (h : p := by first | rfl | (simp; done) | (simp [*]; done)) : p := h
theorem z5acd {p : Prop} (h : p := by repeat (first | (with_reducible first | exact HB.out | apply below_alloc | apply pw_below_drewN | apply below_drew1) | exact HB.out)) : p := h
theorem z674d {p : Prop} (h : p := by first | rfl | (simp [errW_none, errW_some] <;> rfl) | (simp [*, errW_none, errW_some] <;> rfl)) : p := h
theorem z7d56 {p : Prop} (h : p := by repeat (first | (with_reducible first | exact HK.out | apply Kept.alloc | apply Kept.drewN | apply Kept.drew) | exact HK.out)) : p := h
theorem za9de {p : Prop} (h : p := by repeat (first | exact Drawn0.refl _ | apply Drawn0.step)) : p := h
theorem zb79b {p : Prop} (h : p := by first | omega | exact Nat.le_refl _) : p := h
theorem zcb41 {p : Prop} (h : p := by repeat (first | (with_reducible first | exact HB.out | apply below_alloc | apply pw_below_drewN | apply below_drew1 | refine below_set ?_ (Aside0.out (by assumption))) | exact HB.out)) : p := h
theorem zd74a {p : Prop} (h : p := by (with_reducible repeat (first | apply Kd.S_alloc | apply Kd.S_drewN | apply Kd.S_drew)); exact HO_3.out) : p := h
theorem zdc19 {p : Prop} (h : p := by have := HJ1.out; have := HK2.out; first | omega | exact Nat.le_refl _) : p := h
theorem ze59a {p : Prop} (h : p := by have := HK1.out; first | omega | exact Nat.le_refl _) : p := h
theorem zee81 {p : Prop} (h : p := by (try simp only [List.map_toArray, List.map_cons, List.map_nil]); first | done | rfl | (simp only [List.length_drop, List.length_take]; rfl)) : p := h
theorem zfb39 {p : Prop} (h : p := by have := HK1.out; omega) : p := h
set_option linter.unusedVariables false
theorem dL {α : Type} [LT α] {a b : α} [Decidable (a < b)] (h : a < b) : decide (a < b) = true := decide_eq_true h
theorem dE {α : Type} [LE α] {a b : α} [Decidable (a ≤ b)] (h : a ≤ b) : decide (a ≤ b) = true := decide_eq_true h
theorem nL {α : Type} [LT α] {a b : α} [Decidable (a < b)] (h : ¬ a < b) : decide (a < b) = false := decide_eq_false h
theorem nE {α : Type} [LE α] {a b : α} [Decidable (a ≤ b)] (h : ¬ a ≤ b) : decide (a ≤ b) = false := decide_eq_false h
theorem eqE {α : Type} [BEq α] [LawfulBEq α] {a b : α} (h : a = b) : (a == b) = true ∧ (a != b) = false := ⟨beq_iff_eq.mpr h, bne_eq_false_iff_eq.mpr h⟩
theorem eqN {α : Type} [BEq α] [LawfulBEq α] {a b : α} (h : ¬ a = b) : (a == b) = false ∧ (a != b) = true := ⟨beq_eq_false_iff_ne.mpr h, bne_iff_ne.mpr h⟩
theorem sL {α β : Type} [LT β] {a b : β} [Decidable (a < b)] {x : Option α} {r : α} (h : (if a < b then x else none) = some r) : decide (a < b) = true ∧ x = some r := ⟨dL (ifS h).1, (ifS h).2⟩
theorem sE {α β : Type} [LE β] {a b : β} [Decidable (a ≤ b)] {x : Option α} {r : α} (h : (if a ≤ b then x else none) = some r) : decide (a ≤ b) = true ∧ x = some r := ⟨dE (ifS h).1, (ifS h).2⟩
theorem sM {α : Type} {c : Prop} [Decidable c] {x : Option α} {r : α} (h : (if c then x else none) = some r) : Aside0 c ∧ x = some r := ⟨⟨(ifS h).1⟩, (ifS h).2⟩
theorem bS {α β : Type} {x : Option α} {f : α → Option β} {r : β} (h : x.bind f = some r) : ∃ a, Aside0 (x = some a) ∧ f a = some r := by
  obtain ⟨a, h1, h2⟩ := Option.bind_eq_some_iff.mp h
  exact ⟨a, ⟨h1⟩, h2⟩
theorem moZ {p : Prop} (h : p := by repeat' first | (with_reducible first | exact LeO.refl _ | exact LeO.none _ | exact ih0 .. | exact ih1 .. | exact ih2 .. | exact ih3 .. | exact ih4 .. | exact ih5 .. | exact ih6 .. | exact ih7 .. | exact ih8 .. | exact ih9 .. | exact m0 .. | exact m1 .. | exact m2 .. | exact m3 .. | exact m4 .. | exact m5 .. | exact m6 .. | exact m7 .. | exact m8 .. | exact m9 .. | refine LeO.ite ?_ ?_ | refine LeO.bind ?_ (fun _ => ?_)) | exact LeO.none _ | refine LeO.ite ?_ ?_ | refine LeO.bind ?_ (fun _ => ?_)) : p := h
section
variable {P : Program} {ops : Array Oper} {o : Oper} {a : Act} {Q : Exit → Act → World → Prop} {W w : World} {rest : List Oper}
theorem bX (N : Tmp) (t : TypeId) (cs : Array Value) (h : ∀ g, g = W.heap.size → ∀ w1, w1.heap[g]? = some (.cells cs t (0, 0)) → Below W.heap.size W w1 → wpList P ops Q rest (a.put o.dst (.pointer (some ⟨g, 0, none⟩))) w1)
    (hd : o.dst = some N := by rfl) (hg : o.guard = none := by rfl) (hr : (execOp a.eval o).run P W = .ok (.value (.pointer (some ⟨W.heap.size, 0, none⟩))) (W.alloc (.cells cs t (0, 0))) := by first | (go_simp; done) | (go_simp; rfl)) : wpList P ops Q (o :: rest) a W := box_event hg hd hr h
theorem gL (N : Tmp) {f : FuncId} {fn : Func} {xs : Array Operand} {ts : Array TypeId} (hf : P.funcs[f]? = some fn) (args : Array Value) (h : Calls P f args w fun e w' => ∃ v, e = .returned v ∧ wpList P ops Q rest (a.put (some N) v) w')
    (hb : fn.body.isSome = true := by kernel_rfl) (hd : o.dst = some N := by rfl) (hg : o.guard = none := by rfl) (hname : (fn.name == "runtime.NumGoroutine") = false := by rfl)
    (hop : o.op = .call { callee := .value (.func f), args := xs, argTypes := ts } := by rfl) (hargs : xs.map a.eval = args := by (try simp only [List.map_toArray, List.map_cons, List.map_nil]); first | done | rfl | (simp only [List.length_drop, List.length_take]; rfl)) : wpList P ops Q (o :: rest) a w := goesL_ (some N) hd hg hf hname hb args hop hargs h
end
end Go.Proofs.YtkgmoajdcibafaaDoor.P
end

-- written by a program of this session's (wip/pp)
namespace Go.Proofs.YtkgmoajdcibafaaDoor.P
open Go.RowKit Go.Proofs.YtkgmoajdcibafaaDoorW.PrintWords Go.Proofs.YtkgmoajdcibafaaDoorW.PrintLast Go.Proofs.YtkgmoajdcibafaaDoorW.PrintMore
attribute [local go_sem] max2_int min2_int max_two min_two max_three min_three max_four min_four str_geq str_gtr str_leq   -- for this text's walks alone
set_option linter.unusedVariables false
set_option linter.unusedSimpArgs false



def errW : Option Int → Value
  | none => .nilIface
  | some c => .iface 0 (.int .i64 c)
theorem errW_none : errW none = .nilIface := rfl
theorem errW_some (c : Int) : errW (some c) = .iface 0 (.int .i64 c) := rfl

theorem info3 : (Tryd.prog.info? 3).map (fun i => (i.zero, i.size, i.bytes)) = some (some (.int .i64 0), 1, 8) := by kernel_rfl
theorem info5 : (Tryd.prog.info? 5).map (fun i => (i.zero, i.size, i.bytes)) = some (some (.int .u8 0), 1, 1) := by kernel_rfl
theorem info32 : (Tryd.prog.info? 32).map (fun i => (i.zero, i.size, i.bytes)) = some (some (.agg #[(.string ⟨#[]⟩), (.slice none 0 0), (.int .i64 0)]), 3, 48) := by kernel_rfl
theorem info37 : (Tryd.prog.info? 37).map (fun i => (i.zero, i.size, i.bytes)) = some (some (.agg #[(.string ⟨#[]⟩), (.slice none 0 0), (.int .i64 0), (.int .i64 0), (.int .i64 0), (.int .i64 0), (.int .i64 0), (.slice none 0 0), (.bool false), (.int .i64 0), (.bool false)]), 11, 128) := by kernel_rfl
theorem info96 : (Tryd.prog.info? 96).map (fun i => (i.zero, i.size, i.bytes)) = some (some (.agg #[(.string ⟨#[]⟩), (.slice none 0 0), (.int .i64 0), (.int .i64 0), (.int .i64 0), (.int .i64 0), (.int .i64 0), (.int .i64 0), (.slice none 0 0), (.bool false)]), 10, 120) := by kernel_rfl
theorem info123 : (Tryd.prog.info? 123).map (fun i => (i.zero, i.size, i.bytes)) = some (some (.agg #[(.string ⟨#[]⟩), (.string ⟨#[]⟩)]), 2, 32) := by kernel_rfl
-- the values' own types
/-! #### struct type 119 -/
structure S119 where
  f0 : ByteArray
  f1 : ByteArray
def z119 : S119 := ⟨(⟨#[]⟩ : ByteArray), (⟨#[]⟩ : ByteArray)⟩
def k119 : Kd S119 := Kd.iso (Kd.pair Kd.string Kd.string) (fun x : S119 => (x.f0, x.f1))
theorem k119_open {w : World} {x : S119} {cs : List Value} (h : k119.K w x cs) : cs = [.string x.f0, .string x.f1] := by
  obtain ⟨_, _, rfl, rfl, rfl⟩ := h
  exact rfl
theorem k119_openM {w : World} {base : Nat} {ok : Nat → Prop} {x : S119} {cs : List Value} (h : k119.M w base ok x cs) : cs = [.string x.f0, .string x.f1] := by
  obtain ⟨_, _, rfl, rfl, rfl⟩ := h
  exact rfl
theorem k119_mk (w : World) (x : S119)  : k119.K w x [.string x.f0, .string x.f1] := ⟨[.string x.f0], [.string x.f1], rfl, rfl, rfl⟩
theorem k119_mkM (w : World) (base : Nat) (ok : Nat → Prop) (x : S119)  : k119.M w base ok x [.string x.f0, .string x.f1] := ⟨[.string x.f0], [.string x.f1], rfl, rfl, rfl⟩
theorem k119_mkF (W : World) (ok : Nat → Prop) (x : S119) : Kd.FK k119 W ok x [.string x.f0, .string x.f1] := fun W2 _ => k119_mk W2 x
def rd_T119 (xs : List S119) (i : Int) : S119 := xs.getD i.toNat z119
theorem at_T119 {w : World} {A : Option Addr} {n : Nat} {xs : List S119} (h : Kd.C k119 w A n xs) (i : Int) (h0 : 0 ≤ i) (h1 : i < n) : ∃ ad , A = some ad ∧ w.cell? (ad.add (i.toNat * 2)) = some (.string (rd_T119 xs i).f0) ∧ w.cell? ⟨(ad.add (i.toNat * 2)).block, (ad.add (i.toNat * 2)).off + 1, none⟩ = some (.string (rd_T119 xs i).f1) := by
  obtain ⟨ad, c, e, _, hK, hc0⟩ := Kd.C_get h z119 i h0 h1
  have hc : ∀ j u, c[j]? = some u → w.cell? (ad.add (i.toNat * 2 + j)) = some u := hc0
  obtain rfl := k119_open hK
  exact ⟨ad, e, hc 0 _ rfl, by rw [← add_field _ _ 1 (by omega)]; exact hc 1 _ rfl⟩

def rd_L3 (xs : List (List S119)) (i : Int) : (List S119) := xs.getD i.toNat ([] : List S119)
theorem at_L3 {w : World} {A : Option Addr} {n : Nat} {xs : List (List S119)} (h : Kd.C (Kd.slice 119 k119) w A n xs) (i : Int) (h0 : 0 ≤ i) (h1 : i < n) : ∃ ad A0 c0, A = some ad ∧ w.cell? (ad.add i.toNat) = some (.slice A0 (rd_L3 xs i).length c0) ∧ (rd_L3 xs i).length ≤ c0 ∧ k119.C w A0 (rd_L3 xs i).length (rd_L3 xs i) := by
  obtain ⟨ad, c, e, _, hK, hc0⟩ := Kd.C_get h ([] : List S119) i h0 h1
  have hc : ∀ j u, c[j]? = some u → w.cell? (ad.add (i.toNat * 1 + j)) = some u := hc0
  obtain ⟨A0, c0, rfl, l0, g0⟩ := hK
  exact ⟨ad, A0, c0, e, by have hq := hc 0 _ rfl; rwa [Nat.mul_one, Nat.add_zero] at hq, l0, g0⟩

/-! #### struct type 27 -/
structure S27 where
  f0 : ByteArray
  f1 : (List S119)
  f2 : Int
def z27 : S27 := ⟨(⟨#[]⟩ : ByteArray), ([] : List S119), (0 : Int)⟩
def k27 : Kd S27 := Kd.iso (Kd.pair Kd.string (Kd.pair (Kd.slice 119 k119) (Kd.int .i64))) (fun x : S27 => (x.f0, x.f1, x.f2))
theorem k27_open {w : World} {x : S27} {cs : List Value} (h : k27.K w x cs) : ∃ A1 c1, cs = [.string x.f0, .slice A1 x.f1.length c1, .int .i64 x.f2] ∧ x.f1.length ≤ c1 ∧ k119.C w A1 x.f1.length x.f1 := by
  obtain ⟨_, _, rfl, rfl, ⟨_, _, rfl, ⟨A1, c1, rfl, l1, g1⟩, rfl⟩⟩ := h
  exact ⟨A1, c1, rfl, l1, g1⟩
theorem k27_openM {w : World} {base : Nat} {ok : Nat → Prop} {x : S27} {cs : List Value} (h : k27.M w base ok x cs) : ∃ v1, cs = [.string x.f0, v1, .int .i64 x.f2] ∧ k119.R 119 w base ok v1 x.f1 := by
  obtain ⟨_, _, rfl, rfl, ⟨_, _, rfl, ⟨v1, rfl, g1⟩, rfl⟩⟩ := h
  exact ⟨v1, rfl, g1⟩
theorem k27_mk (w : World) (x : S27) {A1 : Option Addr} {c1 : Nat} (l1 : x.f1.length ≤ c1) (g1 : k119.C w A1 x.f1.length x.f1) : k27.K w x [.string x.f0, .slice A1 x.f1.length c1, .int .i64 x.f2] := ⟨[.string x.f0], [.slice A1 x.f1.length c1, .int .i64 x.f2], rfl, rfl, ⟨[.slice A1 x.f1.length c1], [.int .i64 x.f2], rfl, ⟨A1, c1, rfl, l1, g1⟩, rfl⟩⟩
theorem k27_mkM (w : World) (base : Nat) (ok : Nat → Prop) (x : S27) {v1 : Value} (g1 : k119.R 119 w base ok v1 x.f1) : k27.M w base ok x [.string x.f0, v1, .int .i64 x.f2] := ⟨[.string x.f0], [v1, .int .i64 x.f2], rfl, rfl, ⟨[v1], [.int .i64 x.f2], rfl, ⟨v1, rfl, g1⟩, rfl⟩⟩
theorem k27_openF {W : World} {ok : Nat → Prop} {x : S27} {cs : List Value} (h : Kd.FK k27 W ok x cs) : ∃ A1 c1, cs = [.string x.f0, .slice A1 x.f1.length c1, .int .i64 x.f2] ∧ x.f1.length ≤ c1 ∧ Kd.F k119 W ok A1 x.f1.length x.f1 := by
  obtain ⟨A1, c1, rfl, l1, _⟩ := k27_open (Kd.FK_now h)
  exact ⟨A1, c1, rfl, l1, (fun W' hW => by obtain ⟨A1_, c1_, he, l1_, g1_⟩ := k27_open (h W' hW); injection (Option.some.inj (show some (Value.slice A1 x.f1.length c1) = some (Value.slice A1_ x.f1.length c1_) from congrArg (fun l => l[1]?) he)) with ha_ _ _; rw [ha_]; exact g1_)⟩
theorem k27_mkF (W : World) (ok : Nat → Prop) (x : S27) {A1 : Option Addr} {c1 : Nat} (l1 : x.f1.length ≤ c1) (g1 : Kd.F k119 W ok A1 x.f1.length x.f1) : Kd.FK k27 W ok x [.string x.f0, .slice A1 x.f1.length c1, .int .i64 x.f2] := fun W2 hW => k27_mk W2 x l1 (g1 W2 hW)
def rd_T27 (xs : List S27) (i : Int) : S27 := xs.getD i.toNat z27
theorem at_T27 {w : World} {A : Option Addr} {n : Nat} {xs : List S27} (h : Kd.C k27 w A n xs) (i : Int) (h0 : 0 ≤ i) (h1 : i < n) : ∃ ad A1 c1, A = some ad ∧ w.cell? (ad.add (i.toNat * 3)) = some (.string (rd_T27 xs i).f0) ∧ w.cell? ⟨(ad.add (i.toNat * 3)).block, (ad.add (i.toNat * 3)).off + 1, none⟩ = some (.slice A1 (rd_T27 xs i).f1.length c1) ∧ w.cell? ⟨(ad.add (i.toNat * 3)).block, (ad.add (i.toNat * 3)).off + 2, none⟩ = some (.int .i64 (rd_T27 xs i).f2) ∧ (rd_T27 xs i).f1.length ≤ c1 ∧ k119.C w A1 (rd_T27 xs i).f1.length (rd_T27 xs i).f1 := by
  obtain ⟨ad, c, e, _, hK, hc0⟩ := Kd.C_get h z27 i h0 h1
  have hc : ∀ j u, c[j]? = some u → w.cell? (ad.add (i.toNat * 3 + j)) = some u := hc0
  obtain ⟨A1, c1, rfl, l1, g1⟩ := k27_open hK
  exact ⟨ad, A1, c1, e, hc 0 _ rfl, by rw [← add_field _ _ 1 (by omega)]; exact hc 1 _ rfl, by rw [← add_field _ _ 2 (by omega)]; exact hc 2 _ rfl, l1, g1⟩

def rd_L5 (xs : List (List Int)) (i : Int) : (List Int) := xs.getD i.toNat ([] : List Int)
theorem at_L5 {w : World} {A : Option Addr} {n : Nat} {xs : List (List Int)} (h : Kd.C (Kd.slice 3 (Kd.int .i64)) w A n xs) (i : Int) (h0 : 0 ≤ i) (h1 : i < n) : ∃ ad A0 c0, A = some ad ∧ w.cell? (ad.add i.toNat) = some (.slice A0 (rd_L5 xs i).length c0) ∧ (rd_L5 xs i).length ≤ c0 ∧ (Kd.int .i64).C w A0 (rd_L5 xs i).length (rd_L5 xs i) := by
  obtain ⟨ad, c, e, _, hK, hc0⟩ := Kd.C_get h ([] : List Int) i h0 h1
  have hc : ∀ j u, c[j]? = some u → w.cell? (ad.add (i.toNat * 1 + j)) = some u := hc0
  obtain ⟨A0, c0, rfl, l0, g0⟩ := hK
  exact ⟨ad, A0, c0, e, by have hq := hc 0 _ rfl; rwa [Nat.mul_one, Nat.add_zero] at hq, l0, g0⟩

/-! #### struct type 92 -/
structure S92 where
  f0 : Int
  f1 : Int
  f2 : Int
  f3 : Int
  f4 : (List Int)
  f5 : Bool
def z92 : S92 := ⟨(0 : Int), (0 : Int), (0 : Int), (0 : Int), ([] : List Int), false⟩
def k92 : Kd S92 := Kd.iso (Kd.pair (Kd.int .i64) (Kd.pair (Kd.int .i64) (Kd.pair (Kd.int .i64) (Kd.pair (Kd.int .i64) (Kd.pair (Kd.slice 3 (Kd.int .i64)) Kd.bool))))) (fun x : S92 => (x.f0, x.f1, x.f2, x.f3, x.f4, x.f5))
theorem k92_open {w : World} {x : S92} {cs : List Value} (h : k92.K w x cs) : ∃ A4 c4, cs = [.int .i64 x.f0, .int .i64 x.f1, .int .i64 x.f2, .int .i64 x.f3, .slice A4 x.f4.length c4, .bool x.f5] ∧ x.f4.length ≤ c4 ∧ (Kd.int .i64).C w A4 x.f4.length x.f4 := by
  obtain ⟨_, _, rfl, rfl, ⟨_, _, rfl, rfl, ⟨_, _, rfl, rfl, ⟨_, _, rfl, rfl, ⟨_, _, rfl, ⟨A4, c4, rfl, l4, g4⟩, rfl⟩⟩⟩⟩⟩ := h
  exact ⟨A4, c4, rfl, l4, g4⟩
theorem k92_openM {w : World} {base : Nat} {ok : Nat → Prop} {x : S92} {cs : List Value} (h : k92.M w base ok x cs) : ∃ v4, cs = [.int .i64 x.f0, .int .i64 x.f1, .int .i64 x.f2, .int .i64 x.f3, v4, .bool x.f5] ∧ (Kd.int .i64).R 3 w base ok v4 x.f4 := by
  obtain ⟨_, _, rfl, rfl, ⟨_, _, rfl, rfl, ⟨_, _, rfl, rfl, ⟨_, _, rfl, rfl, ⟨_, _, rfl, ⟨v4, rfl, g4⟩, rfl⟩⟩⟩⟩⟩ := h
  exact ⟨v4, rfl, g4⟩
theorem k92_mk (w : World) (x : S92) {A4 : Option Addr} {c4 : Nat} (l4 : x.f4.length ≤ c4) (g4 : (Kd.int .i64).C w A4 x.f4.length x.f4) : k92.K w x [.int .i64 x.f0, .int .i64 x.f1, .int .i64 x.f2, .int .i64 x.f3, .slice A4 x.f4.length c4, .bool x.f5] := ⟨[.int .i64 x.f0], [.int .i64 x.f1, .int .i64 x.f2, .int .i64 x.f3, .slice A4 x.f4.length c4, .bool x.f5], rfl, rfl, ⟨[.int .i64 x.f1], [.int .i64 x.f2, .int .i64 x.f3, .slice A4 x.f4.length c4, .bool x.f5], rfl, rfl, ⟨[.int .i64 x.f2], [.int .i64 x.f3, .slice A4 x.f4.length c4, .bool x.f5], rfl, rfl, ⟨[.int .i64 x.f3], [.slice A4 x.f4.length c4, .bool x.f5], rfl, rfl, ⟨[.slice A4 x.f4.length c4], [.bool x.f5], rfl, ⟨A4, c4, rfl, l4, g4⟩, rfl⟩⟩⟩⟩⟩
theorem k92_mkM (w : World) (base : Nat) (ok : Nat → Prop) (x : S92) {v4 : Value} (g4 : (Kd.int .i64).R 3 w base ok v4 x.f4) : k92.M w base ok x [.int .i64 x.f0, .int .i64 x.f1, .int .i64 x.f2, .int .i64 x.f3, v4, .bool x.f5] := ⟨[.int .i64 x.f0], [.int .i64 x.f1, .int .i64 x.f2, .int .i64 x.f3, v4, .bool x.f5], rfl, rfl, ⟨[.int .i64 x.f1], [.int .i64 x.f2, .int .i64 x.f3, v4, .bool x.f5], rfl, rfl, ⟨[.int .i64 x.f2], [.int .i64 x.f3, v4, .bool x.f5], rfl, rfl, ⟨[.int .i64 x.f3], [v4, .bool x.f5], rfl, rfl, ⟨[v4], [.bool x.f5], rfl, ⟨v4, rfl, g4⟩, rfl⟩⟩⟩⟩⟩
theorem k92_openF {W : World} {ok : Nat → Prop} {x : S92} {cs : List Value} (h : Kd.FK k92 W ok x cs) : ∃ A4 c4, cs = [.int .i64 x.f0, .int .i64 x.f1, .int .i64 x.f2, .int .i64 x.f3, .slice A4 x.f4.length c4, .bool x.f5] ∧ x.f4.length ≤ c4 ∧ Kd.F (Kd.int .i64) W ok A4 x.f4.length x.f4 := by
  obtain ⟨A4, c4, rfl, l4, _⟩ := k92_open (Kd.FK_now h)
  exact ⟨A4, c4, rfl, l4, (fun W' hW => by obtain ⟨A4_, c4_, he, l4_, g4_⟩ := k92_open (h W' hW); injection (Option.some.inj (show some (Value.slice A4 x.f4.length c4) = some (Value.slice A4_ x.f4.length c4_) from congrArg (fun l => l[4]?) he)) with ha_ _ _; rw [ha_]; exact g4_)⟩
theorem k92_mkF (W : World) (ok : Nat → Prop) (x : S92) {A4 : Option Addr} {c4 : Nat} (l4 : x.f4.length ≤ c4) (g4 : Kd.F (Kd.int .i64) W ok A4 x.f4.length x.f4) : Kd.FK k92 W ok x [.int .i64 x.f0, .int .i64 x.f1, .int .i64 x.f2, .int .i64 x.f3, .slice A4 x.f4.length c4, .bool x.f5] := fun W2 hW => k92_mk W2 x l4 (g4 W2 hW)
def rd_T92 (xs : List S92) (i : Int) : S92 := xs.getD i.toNat z92
theorem at_T92 {w : World} {A : Option Addr} {n : Nat} {xs : List S92} (h : Kd.C k92 w A n xs) (i : Int) (h0 : 0 ≤ i) (h1 : i < n) : ∃ ad A4 c4, A = some ad ∧ w.cell? (ad.add (i.toNat * 6)) = some (.int .i64 (rd_T92 xs i).f0) ∧ w.cell? ⟨(ad.add (i.toNat * 6)).block, (ad.add (i.toNat * 6)).off + 1, none⟩ = some (.int .i64 (rd_T92 xs i).f1) ∧ w.cell? ⟨(ad.add (i.toNat * 6)).block, (ad.add (i.toNat * 6)).off + 2, none⟩ = some (.int .i64 (rd_T92 xs i).f2) ∧ w.cell? ⟨(ad.add (i.toNat * 6)).block, (ad.add (i.toNat * 6)).off + 3, none⟩ = some (.int .i64 (rd_T92 xs i).f3) ∧ w.cell? ⟨(ad.add (i.toNat * 6)).block, (ad.add (i.toNat * 6)).off + 4, none⟩ = some (.slice A4 (rd_T92 xs i).f4.length c4) ∧ w.cell? ⟨(ad.add (i.toNat * 6)).block, (ad.add (i.toNat * 6)).off + 5, none⟩ = some (.bool (rd_T92 xs i).f5) ∧ (rd_T92 xs i).f4.length ≤ c4 ∧ (Kd.int .i64).C w A4 (rd_T92 xs i).f4.length (rd_T92 xs i).f4 := by
  obtain ⟨ad, c, e, _, hK, hc0⟩ := Kd.C_get h z92 i h0 h1
  have hc : ∀ j u, c[j]? = some u → w.cell? (ad.add (i.toNat * 6 + j)) = some u := hc0
  obtain ⟨A4, c4, rfl, l4, g4⟩ := k92_open hK
  exact ⟨ad, A4, c4, e, hc 0 _ rfl, by rw [← add_field _ _ 1 (by omega)]; exact hc 1 _ rfl, by rw [← add_field _ _ 2 (by omega)]; exact hc 2 _ rfl, by rw [← add_field _ _ 3 (by omega)]; exact hc 3 _ rfl, by rw [← add_field _ _ 4 (by omega)]; exact hc 4 _ rfl, by rw [← add_field _ _ 5 (by omega)]; exact hc 5 _ rfl, l4, g4⟩

/-! #### struct type 116 -/
structure S116 where
  f0 : S27
  f1 : S92
  f2 : Int
  f3 : Bool
def z116 : S116 := ⟨z27, z92, (0 : Int), false⟩
def k116 : Kd S116 := Kd.iso (Kd.pair k27 (Kd.pair k92 (Kd.pair (Kd.int .i64) Kd.bool))) (fun x : S116 => (x.f0, x.f1, x.f2, x.f3))
theorem k116_open {w : World} {x : S116} {cs : List Value} (h : k116.K w x cs) : ∃ A1 c1 A7 c7, cs = [.string x.f0.f0, .slice A1 x.f0.f1.length c1, .int .i64 x.f0.f2, .int .i64 x.f1.f0, .int .i64 x.f1.f1, .int .i64 x.f1.f2, .int .i64 x.f1.f3, .slice A7 x.f1.f4.length c7, .bool x.f1.f5, .int .i64 x.f2, .bool x.f3] ∧ x.f0.f1.length ≤ c1 ∧ k119.C w A1 x.f0.f1.length x.f0.f1 ∧ x.f1.f4.length ≤ c7 ∧ (Kd.int .i64).C w A7 x.f1.f4.length x.f1.f4 := by
  obtain ⟨_, _, rfl, s0, ⟨_, _, rfl, s3, ⟨_, _, rfl, rfl, rfl⟩⟩⟩ := h
  obtain ⟨A1, c1, rfl, l1, g1⟩ := k27_open s0
  obtain ⟨A7, c7, rfl, l7, g7⟩ := k92_open s3
  exact ⟨A1, c1, A7, c7, rfl, l1, g1, l7, g7⟩
theorem k116_openM {w : World} {base : Nat} {ok : Nat → Prop} {x : S116} {cs : List Value} (h : k116.M w base ok x cs) : ∃ v1 v7, cs = [.string x.f0.f0, v1, .int .i64 x.f0.f2, .int .i64 x.f1.f0, .int .i64 x.f1.f1, .int .i64 x.f1.f2, .int .i64 x.f1.f3, v7, .bool x.f1.f5, .int .i64 x.f2, .bool x.f3] ∧ k119.R 119 w base ok v1 x.f0.f1 ∧ (Kd.int .i64).R 3 w base ok v7 x.f1.f4 := by
  obtain ⟨_, _, rfl, s0, ⟨_, _, rfl, s3, ⟨_, _, rfl, rfl, rfl⟩⟩⟩ := h
  obtain ⟨v1, rfl, g1⟩ := k27_openM s0
  obtain ⟨v7, rfl, g7⟩ := k92_openM s3
  exact ⟨v1, v7, rfl, g1, g7⟩
theorem k116_mk (w : World) (x : S116) {A1 : Option Addr} {c1 : Nat} (l1 : x.f0.f1.length ≤ c1) (g1 : k119.C w A1 x.f0.f1.length x.f0.f1) {A7 : Option Addr} {c7 : Nat} (l7 : x.f1.f4.length ≤ c7) (g7 : (Kd.int .i64).C w A7 x.f1.f4.length x.f1.f4) : k116.K w x [.string x.f0.f0, .slice A1 x.f0.f1.length c1, .int .i64 x.f0.f2, .int .i64 x.f1.f0, .int .i64 x.f1.f1, .int .i64 x.f1.f2, .int .i64 x.f1.f3, .slice A7 x.f1.f4.length c7, .bool x.f1.f5, .int .i64 x.f2, .bool x.f3] := ⟨[.string x.f0.f0, .slice A1 x.f0.f1.length c1, .int .i64 x.f0.f2], [.int .i64 x.f1.f0, .int .i64 x.f1.f1, .int .i64 x.f1.f2, .int .i64 x.f1.f3, .slice A7 x.f1.f4.length c7, .bool x.f1.f5, .int .i64 x.f2, .bool x.f3], rfl, (k27_mk w x.f0 l1 g1), ⟨[.int .i64 x.f1.f0, .int .i64 x.f1.f1, .int .i64 x.f1.f2, .int .i64 x.f1.f3, .slice A7 x.f1.f4.length c7, .bool x.f1.f5], [.int .i64 x.f2, .bool x.f3], rfl, (k92_mk w x.f1 l7 g7), ⟨[.int .i64 x.f2], [.bool x.f3], rfl, rfl, rfl⟩⟩⟩
theorem k116_mkM (w : World) (base : Nat) (ok : Nat → Prop) (x : S116) {v1 : Value} (g1 : k119.R 119 w base ok v1 x.f0.f1) {v7 : Value} (g7 : (Kd.int .i64).R 3 w base ok v7 x.f1.f4) : k116.M w base ok x [.string x.f0.f0, v1, .int .i64 x.f0.f2, .int .i64 x.f1.f0, .int .i64 x.f1.f1, .int .i64 x.f1.f2, .int .i64 x.f1.f3, v7, .bool x.f1.f5, .int .i64 x.f2, .bool x.f3] := ⟨[.string x.f0.f0, v1, .int .i64 x.f0.f2], [.int .i64 x.f1.f0, .int .i64 x.f1.f1, .int .i64 x.f1.f2, .int .i64 x.f1.f3, v7, .bool x.f1.f5, .int .i64 x.f2, .bool x.f3], rfl, (k27_mkM w base ok x.f0 g1), ⟨[.int .i64 x.f1.f0, .int .i64 x.f1.f1, .int .i64 x.f1.f2, .int .i64 x.f1.f3, v7, .bool x.f1.f5], [.int .i64 x.f2, .bool x.f3], rfl, (k92_mkM w base ok x.f1 g7), ⟨[.int .i64 x.f2], [.bool x.f3], rfl, rfl, rfl⟩⟩⟩
theorem k116_openF {W : World} {ok : Nat → Prop} {x : S116} {cs : List Value} (h : Kd.FK k116 W ok x cs) : ∃ A1 c1 A7 c7, cs = [.string x.f0.f0, .slice A1 x.f0.f1.length c1, .int .i64 x.f0.f2, .int .i64 x.f1.f0, .int .i64 x.f1.f1, .int .i64 x.f1.f2, .int .i64 x.f1.f3, .slice A7 x.f1.f4.length c7, .bool x.f1.f5, .int .i64 x.f2, .bool x.f3] ∧ x.f0.f1.length ≤ c1 ∧ Kd.F k119 W ok A1 x.f0.f1.length x.f0.f1 ∧ x.f1.f4.length ≤ c7 ∧ Kd.F (Kd.int .i64) W ok A7 x.f1.f4.length x.f1.f4 := by
  obtain ⟨A1, c1, A7, c7, rfl, l1, _, l7, _⟩ := k116_open (Kd.FK_now h)
  exact ⟨A1, c1, A7, c7, rfl, l1, (fun W' hW => by obtain ⟨A1_, c1_, A7_, c7_, he, l1_, g1_, l7_, g7_⟩ := k116_open (h W' hW); injection (Option.some.inj (show some (Value.slice A1 x.f0.f1.length c1) = some (Value.slice A1_ x.f0.f1.length c1_) from congrArg (fun l => l[1]?) he)) with ha_ _ _; rw [ha_]; exact g1_), l7, (fun W' hW => by obtain ⟨A1_, c1_, A7_, c7_, he, l1_, g1_, l7_, g7_⟩ := k116_open (h W' hW); injection (Option.some.inj (show some (Value.slice A7 x.f1.f4.length c7) = some (Value.slice A7_ x.f1.f4.length c7_) from congrArg (fun l => l[7]?) he)) with ha_ _ _; rw [ha_]; exact g7_)⟩
theorem k116_mkF (W : World) (ok : Nat → Prop) (x : S116) {A1 : Option Addr} {c1 : Nat} (l1 : x.f0.f1.length ≤ c1) (g1 : Kd.F k119 W ok A1 x.f0.f1.length x.f0.f1) {A7 : Option Addr} {c7 : Nat} (l7 : x.f1.f4.length ≤ c7) (g7 : Kd.F (Kd.int .i64) W ok A7 x.f1.f4.length x.f1.f4) : Kd.FK k116 W ok x [.string x.f0.f0, .slice A1 x.f0.f1.length c1, .int .i64 x.f0.f2, .int .i64 x.f1.f0, .int .i64 x.f1.f1, .int .i64 x.f1.f2, .int .i64 x.f1.f3, .slice A7 x.f1.f4.length c7, .bool x.f1.f5, .int .i64 x.f2, .bool x.f3] := fun W2 hW => k116_mk W2 x l1 (g1 W2 hW) l7 (g7 W2 hW)
def rd_T116 (xs : List S116) (i : Int) : S116 := xs.getD i.toNat z116
theorem at_T116 {w : World} {A : Option Addr} {n : Nat} {xs : List S116} (h : Kd.C k116 w A n xs) (i : Int) (h0 : 0 ≤ i) (h1 : i < n) : ∃ ad A1 c1 A7 c7, A = some ad ∧ w.cell? (ad.add (i.toNat * 11)) = some (.string (rd_T116 xs i).f0.f0) ∧ w.cell? ⟨(ad.add (i.toNat * 11)).block, (ad.add (i.toNat * 11)).off + 1, none⟩ = some (.slice A1 (rd_T116 xs i).f0.f1.length c1) ∧ w.cell? ⟨(ad.add (i.toNat * 11)).block, (ad.add (i.toNat * 11)).off + 2, none⟩ = some (.int .i64 (rd_T116 xs i).f0.f2) ∧ w.cell? ⟨(ad.add (i.toNat * 11)).block, (ad.add (i.toNat * 11)).off + 3, none⟩ = some (.int .i64 (rd_T116 xs i).f1.f0) ∧ w.cell? ⟨(ad.add (i.toNat * 11)).block, (ad.add (i.toNat * 11)).off + 4, none⟩ = some (.int .i64 (rd_T116 xs i).f1.f1) ∧ w.cell? ⟨(ad.add (i.toNat * 11)).block, (ad.add (i.toNat * 11)).off + 5, none⟩ = some (.int .i64 (rd_T116 xs i).f1.f2) ∧ w.cell? ⟨(ad.add (i.toNat * 11)).block, (ad.add (i.toNat * 11)).off + 6, none⟩ = some (.int .i64 (rd_T116 xs i).f1.f3) ∧ w.cell? ⟨(ad.add (i.toNat * 11)).block, (ad.add (i.toNat * 11)).off + 7, none⟩ = some (.slice A7 (rd_T116 xs i).f1.f4.length c7) ∧ w.cell? ⟨(ad.add (i.toNat * 11)).block, (ad.add (i.toNat * 11)).off + 8, none⟩ = some (.bool (rd_T116 xs i).f1.f5) ∧ w.cell? ⟨(ad.add (i.toNat * 11)).block, (ad.add (i.toNat * 11)).off + 9, none⟩ = some (.int .i64 (rd_T116 xs i).f2) ∧ w.cell? ⟨(ad.add (i.toNat * 11)).block, (ad.add (i.toNat * 11)).off + 10, none⟩ = some (.bool (rd_T116 xs i).f3) ∧ (rd_T116 xs i).f0.f1.length ≤ c1 ∧ k119.C w A1 (rd_T116 xs i).f0.f1.length (rd_T116 xs i).f0.f1 ∧ (rd_T116 xs i).f1.f4.length ≤ c7 ∧ (Kd.int .i64).C w A7 (rd_T116 xs i).f1.f4.length (rd_T116 xs i).f1.f4 := by
  obtain ⟨ad, c, e, _, hK, hc0⟩ := Kd.C_get h z116 i h0 h1
  have hc : ∀ j u, c[j]? = some u → w.cell? (ad.add (i.toNat * 11 + j)) = some u := hc0
  obtain ⟨A1, c1, A7, c7, rfl, l1, g1, l7, g7⟩ := k116_open hK
  exact ⟨ad, A1, c1, A7, c7, e, hc 0 _ rfl, by rw [← add_field _ _ 1 (by omega)]; exact hc 1 _ rfl, by rw [← add_field _ _ 2 (by omega)]; exact hc 2 _ rfl, by rw [← add_field _ _ 3 (by omega)]; exact hc 3 _ rfl, by rw [← add_field _ _ 4 (by omega)]; exact hc 4 _ rfl, by rw [← add_field _ _ 5 (by omega)]; exact hc 5 _ rfl, by rw [← add_field _ _ 6 (by omega)]; exact hc 6 _ rfl, by rw [← add_field _ _ 7 (by omega)]; exact hc 7 _ rfl, by rw [← add_field _ _ 8 (by omega)]; exact hc 8 _ rfl, by rw [← add_field _ _ 9 (by omega)]; exact hc 9 _ rfl, by rw [← add_field _ _ 10 (by omega)]; exact hc 10 _ rfl, l1, g1, l7, g7⟩

/-! #### struct type 123 -/
structure S123 where
  f0 : ByteArray
  f1 : ByteArray
def z123 : S123 := ⟨(⟨#[]⟩ : ByteArray), (⟨#[]⟩ : ByteArray)⟩
def k123 : Kd S123 := Kd.iso (Kd.pair Kd.string Kd.string) (fun x : S123 => (x.f0, x.f1))
theorem k123_open {w : World} {x : S123} {cs : List Value} (h : k123.K w x cs) : cs = [.string x.f0, .string x.f1] := by
  obtain ⟨_, _, rfl, rfl, rfl⟩ := h
  exact rfl
theorem k123_openM {w : World} {base : Nat} {ok : Nat → Prop} {x : S123} {cs : List Value} (h : k123.M w base ok x cs) : cs = [.string x.f0, .string x.f1] := by
  obtain ⟨_, _, rfl, rfl, rfl⟩ := h
  exact rfl
theorem k123_mk (w : World) (x : S123)  : k123.K w x [.string x.f0, .string x.f1] := ⟨[.string x.f0], [.string x.f1], rfl, rfl, rfl⟩
theorem k123_mkM (w : World) (base : Nat) (ok : Nat → Prop) (x : S123)  : k123.M w base ok x [.string x.f0, .string x.f1] := ⟨[.string x.f0], [.string x.f1], rfl, rfl, rfl⟩
theorem k123_mkF (W : World) (ok : Nat → Prop) (x : S123) : Kd.FK k123 W ok x [.string x.f0, .string x.f1] := fun W2 _ => k123_mk W2 x
def rd_T123 (xs : List S123) (i : Int) : S123 := xs.getD i.toNat z123
theorem at_T123 {w : World} {A : Option Addr} {n : Nat} {xs : List S123} (h : Kd.C k123 w A n xs) (i : Int) (h0 : 0 ≤ i) (h1 : i < n) : ∃ ad , A = some ad ∧ w.cell? (ad.add (i.toNat * 2)) = some (.string (rd_T123 xs i).f0) ∧ w.cell? ⟨(ad.add (i.toNat * 2)).block, (ad.add (i.toNat * 2)).off + 1, none⟩ = some (.string (rd_T123 xs i).f1) := by
  obtain ⟨ad, c, e, _, hK, hc0⟩ := Kd.C_get h z123 i h0 h1
  have hc : ∀ j u, c[j]? = some u → w.cell? (ad.add (i.toNat * 2 + j)) = some u := hc0
  obtain rfl := k123_open hK
  exact ⟨ad, e, hc 0 _ rfl, by rw [← add_field _ _ 1 (by omega)]; exact hc 1 _ rfl⟩

def rd_L10 (xs : List (List S123)) (i : Int) : (List S123) := xs.getD i.toNat ([] : List S123)
theorem at_L10 {w : World} {A : Option Addr} {n : Nat} {xs : List (List S123)} (h : Kd.C (Kd.slice 123 k123) w A n xs) (i : Int) (h0 : 0 ≤ i) (h1 : i < n) : ∃ ad A0 c0, A = some ad ∧ w.cell? (ad.add i.toNat) = some (.slice A0 (rd_L10 xs i).length c0) ∧ (rd_L10 xs i).length ≤ c0 ∧ k123.C w A0 (rd_L10 xs i).length (rd_L10 xs i) := by
  obtain ⟨ad, c, e, _, hK, hc0⟩ := Kd.C_get h ([] : List S123) i h0 h1
  have hc : ∀ j u, c[j]? = some u → w.cell? (ad.add (i.toNat * 1 + j)) = some u := hc0
  obtain ⟨A0, c0, rfl, l0, g0⟩ := hK
  exact ⟨ad, A0, c0, e, by have hq := hc 0 _ rfl; rwa [Nat.mul_one, Nat.add_zero] at hq, l0, g0⟩

/-! #### struct type 32 -/
structure S32 where
  f0 : ByteArray
  f1 : (List S123)
  f2 : Int
def z32 : S32 := ⟨(⟨#[]⟩ : ByteArray), ([] : List S123), (0 : Int)⟩
def k32 : Kd S32 := Kd.iso (Kd.pair Kd.string (Kd.pair (Kd.slice 123 k123) (Kd.int .i64))) (fun x : S32 => (x.f0, x.f1, x.f2))
theorem k32_open {w : World} {x : S32} {cs : List Value} (h : k32.K w x cs) : ∃ A1 c1, cs = [.string x.f0, .slice A1 x.f1.length c1, .int .i64 x.f2] ∧ x.f1.length ≤ c1 ∧ k123.C w A1 x.f1.length x.f1 := by
  obtain ⟨_, _, rfl, rfl, ⟨_, _, rfl, ⟨A1, c1, rfl, l1, g1⟩, rfl⟩⟩ := h
  exact ⟨A1, c1, rfl, l1, g1⟩
theorem k32_openM {w : World} {base : Nat} {ok : Nat → Prop} {x : S32} {cs : List Value} (h : k32.M w base ok x cs) : ∃ v1, cs = [.string x.f0, v1, .int .i64 x.f2] ∧ k123.R 123 w base ok v1 x.f1 := by
  obtain ⟨_, _, rfl, rfl, ⟨_, _, rfl, ⟨v1, rfl, g1⟩, rfl⟩⟩ := h
  exact ⟨v1, rfl, g1⟩
theorem k32_mk (w : World) (x : S32) {A1 : Option Addr} {c1 : Nat} (l1 : x.f1.length ≤ c1) (g1 : k123.C w A1 x.f1.length x.f1) : k32.K w x [.string x.f0, .slice A1 x.f1.length c1, .int .i64 x.f2] := ⟨[.string x.f0], [.slice A1 x.f1.length c1, .int .i64 x.f2], rfl, rfl, ⟨[.slice A1 x.f1.length c1], [.int .i64 x.f2], rfl, ⟨A1, c1, rfl, l1, g1⟩, rfl⟩⟩
theorem k32_mkM (w : World) (base : Nat) (ok : Nat → Prop) (x : S32) {v1 : Value} (g1 : k123.R 123 w base ok v1 x.f1) : k32.M w base ok x [.string x.f0, v1, .int .i64 x.f2] := ⟨[.string x.f0], [v1, .int .i64 x.f2], rfl, rfl, ⟨[v1], [.int .i64 x.f2], rfl, ⟨v1, rfl, g1⟩, rfl⟩⟩
theorem k32_openF {W : World} {ok : Nat → Prop} {x : S32} {cs : List Value} (h : Kd.FK k32 W ok x cs) : ∃ A1 c1, cs = [.string x.f0, .slice A1 x.f1.length c1, .int .i64 x.f2] ∧ x.f1.length ≤ c1 ∧ Kd.F k123 W ok A1 x.f1.length x.f1 := by
  obtain ⟨A1, c1, rfl, l1, _⟩ := k32_open (Kd.FK_now h)
  exact ⟨A1, c1, rfl, l1, (fun W' hW => by obtain ⟨A1_, c1_, he, l1_, g1_⟩ := k32_open (h W' hW); injection (Option.some.inj (show some (Value.slice A1 x.f1.length c1) = some (Value.slice A1_ x.f1.length c1_) from congrArg (fun l => l[1]?) he)) with ha_ _ _; rw [ha_]; exact g1_)⟩
theorem k32_mkF (W : World) (ok : Nat → Prop) (x : S32) {A1 : Option Addr} {c1 : Nat} (l1 : x.f1.length ≤ c1) (g1 : Kd.F k123 W ok A1 x.f1.length x.f1) : Kd.FK k32 W ok x [.string x.f0, .slice A1 x.f1.length c1, .int .i64 x.f2] := fun W2 hW => k32_mk W2 x l1 (g1 W2 hW)
def rd_T32 (xs : List S32) (i : Int) : S32 := xs.getD i.toNat z32
theorem at_T32 {w : World} {A : Option Addr} {n : Nat} {xs : List S32} (h : Kd.C k32 w A n xs) (i : Int) (h0 : 0 ≤ i) (h1 : i < n) : ∃ ad A1 c1, A = some ad ∧ w.cell? (ad.add (i.toNat * 3)) = some (.string (rd_T32 xs i).f0) ∧ w.cell? ⟨(ad.add (i.toNat * 3)).block, (ad.add (i.toNat * 3)).off + 1, none⟩ = some (.slice A1 (rd_T32 xs i).f1.length c1) ∧ w.cell? ⟨(ad.add (i.toNat * 3)).block, (ad.add (i.toNat * 3)).off + 2, none⟩ = some (.int .i64 (rd_T32 xs i).f2) ∧ (rd_T32 xs i).f1.length ≤ c1 ∧ k123.C w A1 (rd_T32 xs i).f1.length (rd_T32 xs i).f1 := by
  obtain ⟨ad, c, e, _, hK, hc0⟩ := Kd.C_get h z32 i h0 h1
  have hc : ∀ j u, c[j]? = some u → w.cell? (ad.add (i.toNat * 3 + j)) = some u := hc0
  obtain ⟨A1, c1, rfl, l1, g1⟩ := k32_open hK
  exact ⟨ad, A1, c1, e, hc 0 _ rfl, by rw [← add_field _ _ 1 (by omega)]; exact hc 1 _ rfl, by rw [← add_field _ _ 2 (by omega)]; exact hc 2 _ rfl, l1, g1⟩

/-! #### struct type 35 -/
structure S35 where
  f0 : Int
  f1 : Int
  f2 : Int
  f3 : Int
  f4 : (List Int)
  f5 : Bool
def z35 : S35 := ⟨(0 : Int), (0 : Int), (0 : Int), (0 : Int), ([] : List Int), false⟩
def k35 : Kd S35 := Kd.iso (Kd.pair (Kd.int .i64) (Kd.pair (Kd.int .i64) (Kd.pair (Kd.int .i64) (Kd.pair (Kd.int .i64) (Kd.pair (Kd.slice 3 (Kd.int .i64)) Kd.bool))))) (fun x : S35 => (x.f0, x.f1, x.f2, x.f3, x.f4, x.f5))
theorem k35_open {w : World} {x : S35} {cs : List Value} (h : k35.K w x cs) : ∃ A4 c4, cs = [.int .i64 x.f0, .int .i64 x.f1, .int .i64 x.f2, .int .i64 x.f3, .slice A4 x.f4.length c4, .bool x.f5] ∧ x.f4.length ≤ c4 ∧ (Kd.int .i64).C w A4 x.f4.length x.f4 := by
  obtain ⟨_, _, rfl, rfl, ⟨_, _, rfl, rfl, ⟨_, _, rfl, rfl, ⟨_, _, rfl, rfl, ⟨_, _, rfl, ⟨A4, c4, rfl, l4, g4⟩, rfl⟩⟩⟩⟩⟩ := h
  exact ⟨A4, c4, rfl, l4, g4⟩
theorem k35_openM {w : World} {base : Nat} {ok : Nat → Prop} {x : S35} {cs : List Value} (h : k35.M w base ok x cs) : ∃ v4, cs = [.int .i64 x.f0, .int .i64 x.f1, .int .i64 x.f2, .int .i64 x.f3, v4, .bool x.f5] ∧ (Kd.int .i64).R 3 w base ok v4 x.f4 := by
  obtain ⟨_, _, rfl, rfl, ⟨_, _, rfl, rfl, ⟨_, _, rfl, rfl, ⟨_, _, rfl, rfl, ⟨_, _, rfl, ⟨v4, rfl, g4⟩, rfl⟩⟩⟩⟩⟩ := h
  exact ⟨v4, rfl, g4⟩
theorem k35_mk (w : World) (x : S35) {A4 : Option Addr} {c4 : Nat} (l4 : x.f4.length ≤ c4) (g4 : (Kd.int .i64).C w A4 x.f4.length x.f4) : k35.K w x [.int .i64 x.f0, .int .i64 x.f1, .int .i64 x.f2, .int .i64 x.f3, .slice A4 x.f4.length c4, .bool x.f5] := ⟨[.int .i64 x.f0], [.int .i64 x.f1, .int .i64 x.f2, .int .i64 x.f3, .slice A4 x.f4.length c4, .bool x.f5], rfl, rfl, ⟨[.int .i64 x.f1], [.int .i64 x.f2, .int .i64 x.f3, .slice A4 x.f4.length c4, .bool x.f5], rfl, rfl, ⟨[.int .i64 x.f2], [.int .i64 x.f3, .slice A4 x.f4.length c4, .bool x.f5], rfl, rfl, ⟨[.int .i64 x.f3], [.slice A4 x.f4.length c4, .bool x.f5], rfl, rfl, ⟨[.slice A4 x.f4.length c4], [.bool x.f5], rfl, ⟨A4, c4, rfl, l4, g4⟩, rfl⟩⟩⟩⟩⟩
theorem k35_mkM (w : World) (base : Nat) (ok : Nat → Prop) (x : S35) {v4 : Value} (g4 : (Kd.int .i64).R 3 w base ok v4 x.f4) : k35.M w base ok x [.int .i64 x.f0, .int .i64 x.f1, .int .i64 x.f2, .int .i64 x.f3, v4, .bool x.f5] := ⟨[.int .i64 x.f0], [.int .i64 x.f1, .int .i64 x.f2, .int .i64 x.f3, v4, .bool x.f5], rfl, rfl, ⟨[.int .i64 x.f1], [.int .i64 x.f2, .int .i64 x.f3, v4, .bool x.f5], rfl, rfl, ⟨[.int .i64 x.f2], [.int .i64 x.f3, v4, .bool x.f5], rfl, rfl, ⟨[.int .i64 x.f3], [v4, .bool x.f5], rfl, rfl, ⟨[v4], [.bool x.f5], rfl, ⟨v4, rfl, g4⟩, rfl⟩⟩⟩⟩⟩
theorem k35_openF {W : World} {ok : Nat → Prop} {x : S35} {cs : List Value} (h : Kd.FK k35 W ok x cs) : ∃ A4 c4, cs = [.int .i64 x.f0, .int .i64 x.f1, .int .i64 x.f2, .int .i64 x.f3, .slice A4 x.f4.length c4, .bool x.f5] ∧ x.f4.length ≤ c4 ∧ Kd.F (Kd.int .i64) W ok A4 x.f4.length x.f4 := by
  obtain ⟨A4, c4, rfl, l4, _⟩ := k35_open (Kd.FK_now h)
  exact ⟨A4, c4, rfl, l4, (fun W' hW => by obtain ⟨A4_, c4_, he, l4_, g4_⟩ := k35_open (h W' hW); injection (Option.some.inj (show some (Value.slice A4 x.f4.length c4) = some (Value.slice A4_ x.f4.length c4_) from congrArg (fun l => l[4]?) he)) with ha_ _ _; rw [ha_]; exact g4_)⟩
theorem k35_mkF (W : World) (ok : Nat → Prop) (x : S35) {A4 : Option Addr} {c4 : Nat} (l4 : x.f4.length ≤ c4) (g4 : Kd.F (Kd.int .i64) W ok A4 x.f4.length x.f4) : Kd.FK k35 W ok x [.int .i64 x.f0, .int .i64 x.f1, .int .i64 x.f2, .int .i64 x.f3, .slice A4 x.f4.length c4, .bool x.f5] := fun W2 hW => k35_mk W2 x l4 (g4 W2 hW)
def rd_T35 (xs : List S35) (i : Int) : S35 := xs.getD i.toNat z35
theorem at_T35 {w : World} {A : Option Addr} {n : Nat} {xs : List S35} (h : Kd.C k35 w A n xs) (i : Int) (h0 : 0 ≤ i) (h1 : i < n) : ∃ ad A4 c4, A = some ad ∧ w.cell? (ad.add (i.toNat * 6)) = some (.int .i64 (rd_T35 xs i).f0) ∧ w.cell? ⟨(ad.add (i.toNat * 6)).block, (ad.add (i.toNat * 6)).off + 1, none⟩ = some (.int .i64 (rd_T35 xs i).f1) ∧ w.cell? ⟨(ad.add (i.toNat * 6)).block, (ad.add (i.toNat * 6)).off + 2, none⟩ = some (.int .i64 (rd_T35 xs i).f2) ∧ w.cell? ⟨(ad.add (i.toNat * 6)).block, (ad.add (i.toNat * 6)).off + 3, none⟩ = some (.int .i64 (rd_T35 xs i).f3) ∧ w.cell? ⟨(ad.add (i.toNat * 6)).block, (ad.add (i.toNat * 6)).off + 4, none⟩ = some (.slice A4 (rd_T35 xs i).f4.length c4) ∧ w.cell? ⟨(ad.add (i.toNat * 6)).block, (ad.add (i.toNat * 6)).off + 5, none⟩ = some (.bool (rd_T35 xs i).f5) ∧ (rd_T35 xs i).f4.length ≤ c4 ∧ (Kd.int .i64).C w A4 (rd_T35 xs i).f4.length (rd_T35 xs i).f4 := by
  obtain ⟨ad, c, e, _, hK, hc0⟩ := Kd.C_get h z35 i h0 h1
  have hc : ∀ j u, c[j]? = some u → w.cell? (ad.add (i.toNat * 6 + j)) = some u := hc0
  obtain ⟨A4, c4, rfl, l4, g4⟩ := k35_open hK
  exact ⟨ad, A4, c4, e, hc 0 _ rfl, by rw [← add_field _ _ 1 (by omega)]; exact hc 1 _ rfl, by rw [← add_field _ _ 2 (by omega)]; exact hc 2 _ rfl, by rw [← add_field _ _ 3 (by omega)]; exact hc 3 _ rfl, by rw [← add_field _ _ 4 (by omega)]; exact hc 4 _ rfl, by rw [← add_field _ _ 5 (by omega)]; exact hc 5 _ rfl, l4, g4⟩

/-! #### struct type 37 -/
structure S37 where
  f0 : S32
  f1 : S35
  f2 : Int
  f3 : Bool
def z37 : S37 := ⟨z32, z35, (0 : Int), false⟩
def k37 : Kd S37 := Kd.iso (Kd.pair k32 (Kd.pair k35 (Kd.pair (Kd.int .i64) Kd.bool))) (fun x : S37 => (x.f0, x.f1, x.f2, x.f3))
theorem k37_open {w : World} {x : S37} {cs : List Value} (h : k37.K w x cs) : ∃ A1 c1 A7 c7, cs = [.string x.f0.f0, .slice A1 x.f0.f1.length c1, .int .i64 x.f0.f2, .int .i64 x.f1.f0, .int .i64 x.f1.f1, .int .i64 x.f1.f2, .int .i64 x.f1.f3, .slice A7 x.f1.f4.length c7, .bool x.f1.f5, .int .i64 x.f2, .bool x.f3] ∧ x.f0.f1.length ≤ c1 ∧ k123.C w A1 x.f0.f1.length x.f0.f1 ∧ x.f1.f4.length ≤ c7 ∧ (Kd.int .i64).C w A7 x.f1.f4.length x.f1.f4 := by
  obtain ⟨_, _, rfl, s0, ⟨_, _, rfl, s3, ⟨_, _, rfl, rfl, rfl⟩⟩⟩ := h
  obtain ⟨A1, c1, rfl, l1, g1⟩ := k32_open s0
  obtain ⟨A7, c7, rfl, l7, g7⟩ := k35_open s3
  exact ⟨A1, c1, A7, c7, rfl, l1, g1, l7, g7⟩
theorem k37_openM {w : World} {base : Nat} {ok : Nat → Prop} {x : S37} {cs : List Value} (h : k37.M w base ok x cs) : ∃ v1 v7, cs = [.string x.f0.f0, v1, .int .i64 x.f0.f2, .int .i64 x.f1.f0, .int .i64 x.f1.f1, .int .i64 x.f1.f2, .int .i64 x.f1.f3, v7, .bool x.f1.f5, .int .i64 x.f2, .bool x.f3] ∧ k123.R 123 w base ok v1 x.f0.f1 ∧ (Kd.int .i64).R 3 w base ok v7 x.f1.f4 := by
  obtain ⟨_, _, rfl, s0, ⟨_, _, rfl, s3, ⟨_, _, rfl, rfl, rfl⟩⟩⟩ := h
  obtain ⟨v1, rfl, g1⟩ := k32_openM s0
  obtain ⟨v7, rfl, g7⟩ := k35_openM s3
  exact ⟨v1, v7, rfl, g1, g7⟩
theorem k37_mk (w : World) (x : S37) {A1 : Option Addr} {c1 : Nat} (l1 : x.f0.f1.length ≤ c1) (g1 : k123.C w A1 x.f0.f1.length x.f0.f1) {A7 : Option Addr} {c7 : Nat} (l7 : x.f1.f4.length ≤ c7) (g7 : (Kd.int .i64).C w A7 x.f1.f4.length x.f1.f4) : k37.K w x [.string x.f0.f0, .slice A1 x.f0.f1.length c1, .int .i64 x.f0.f2, .int .i64 x.f1.f0, .int .i64 x.f1.f1, .int .i64 x.f1.f2, .int .i64 x.f1.f3, .slice A7 x.f1.f4.length c7, .bool x.f1.f5, .int .i64 x.f2, .bool x.f3] := ⟨[.string x.f0.f0, .slice A1 x.f0.f1.length c1, .int .i64 x.f0.f2], [.int .i64 x.f1.f0, .int .i64 x.f1.f1, .int .i64 x.f1.f2, .int .i64 x.f1.f3, .slice A7 x.f1.f4.length c7, .bool x.f1.f5, .int .i64 x.f2, .bool x.f3], rfl, (k32_mk w x.f0 l1 g1), ⟨[.int .i64 x.f1.f0, .int .i64 x.f1.f1, .int .i64 x.f1.f2, .int .i64 x.f1.f3, .slice A7 x.f1.f4.length c7, .bool x.f1.f5], [.int .i64 x.f2, .bool x.f3], rfl, (k35_mk w x.f1 l7 g7), ⟨[.int .i64 x.f2], [.bool x.f3], rfl, rfl, rfl⟩⟩⟩
theorem k37_mkM (w : World) (base : Nat) (ok : Nat → Prop) (x : S37) {v1 : Value} (g1 : k123.R 123 w base ok v1 x.f0.f1) {v7 : Value} (g7 : (Kd.int .i64).R 3 w base ok v7 x.f1.f4) : k37.M w base ok x [.string x.f0.f0, v1, .int .i64 x.f0.f2, .int .i64 x.f1.f0, .int .i64 x.f1.f1, .int .i64 x.f1.f2, .int .i64 x.f1.f3, v7, .bool x.f1.f5, .int .i64 x.f2, .bool x.f3] := ⟨[.string x.f0.f0, v1, .int .i64 x.f0.f2], [.int .i64 x.f1.f0, .int .i64 x.f1.f1, .int .i64 x.f1.f2, .int .i64 x.f1.f3, v7, .bool x.f1.f5, .int .i64 x.f2, .bool x.f3], rfl, (k32_mkM w base ok x.f0 g1), ⟨[.int .i64 x.f1.f0, .int .i64 x.f1.f1, .int .i64 x.f1.f2, .int .i64 x.f1.f3, v7, .bool x.f1.f5], [.int .i64 x.f2, .bool x.f3], rfl, (k35_mkM w base ok x.f1 g7), ⟨[.int .i64 x.f2], [.bool x.f3], rfl, rfl, rfl⟩⟩⟩
theorem k37_openF {W : World} {ok : Nat → Prop} {x : S37} {cs : List Value} (h : Kd.FK k37 W ok x cs) : ∃ A1 c1 A7 c7, cs = [.string x.f0.f0, .slice A1 x.f0.f1.length c1, .int .i64 x.f0.f2, .int .i64 x.f1.f0, .int .i64 x.f1.f1, .int .i64 x.f1.f2, .int .i64 x.f1.f3, .slice A7 x.f1.f4.length c7, .bool x.f1.f5, .int .i64 x.f2, .bool x.f3] ∧ x.f0.f1.length ≤ c1 ∧ Kd.F k123 W ok A1 x.f0.f1.length x.f0.f1 ∧ x.f1.f4.length ≤ c7 ∧ Kd.F (Kd.int .i64) W ok A7 x.f1.f4.length x.f1.f4 := by
  obtain ⟨A1, c1, A7, c7, rfl, l1, _, l7, _⟩ := k37_open (Kd.FK_now h)
  exact ⟨A1, c1, A7, c7, rfl, l1, (fun W' hW => by obtain ⟨A1_, c1_, A7_, c7_, he, l1_, g1_, l7_, g7_⟩ := k37_open (h W' hW); injection (Option.some.inj (show some (Value.slice A1 x.f0.f1.length c1) = some (Value.slice A1_ x.f0.f1.length c1_) from congrArg (fun l => l[1]?) he)) with ha_ _ _; rw [ha_]; exact g1_), l7, (fun W' hW => by obtain ⟨A1_, c1_, A7_, c7_, he, l1_, g1_, l7_, g7_⟩ := k37_open (h W' hW); injection (Option.some.inj (show some (Value.slice A7 x.f1.f4.length c7) = some (Value.slice A7_ x.f1.f4.length c7_) from congrArg (fun l => l[7]?) he)) with ha_ _ _; rw [ha_]; exact g7_)⟩
theorem k37_mkF (W : World) (ok : Nat → Prop) (x : S37) {A1 : Option Addr} {c1 : Nat} (l1 : x.f0.f1.length ≤ c1) (g1 : Kd.F k123 W ok A1 x.f0.f1.length x.f0.f1) {A7 : Option Addr} {c7 : Nat} (l7 : x.f1.f4.length ≤ c7) (g7 : Kd.F (Kd.int .i64) W ok A7 x.f1.f4.length x.f1.f4) : Kd.FK k37 W ok x [.string x.f0.f0, .slice A1 x.f0.f1.length c1, .int .i64 x.f0.f2, .int .i64 x.f1.f0, .int .i64 x.f1.f1, .int .i64 x.f1.f2, .int .i64 x.f1.f3, .slice A7 x.f1.f4.length c7, .bool x.f1.f5, .int .i64 x.f2, .bool x.f3] := fun W2 hW => k37_mk W2 x l1 (g1 W2 hW) l7 (g7 W2 hW)
def rd_T37 (xs : List S37) (i : Int) : S37 := xs.getD i.toNat z37
theorem at_T37 {w : World} {A : Option Addr} {n : Nat} {xs : List S37} (h : Kd.C k37 w A n xs) (i : Int) (h0 : 0 ≤ i) (h1 : i < n) : ∃ ad A1 c1 A7 c7, A = some ad ∧ w.cell? (ad.add (i.toNat * 11)) = some (.string (rd_T37 xs i).f0.f0) ∧ w.cell? ⟨(ad.add (i.toNat * 11)).block, (ad.add (i.toNat * 11)).off + 1, none⟩ = some (.slice A1 (rd_T37 xs i).f0.f1.length c1) ∧ w.cell? ⟨(ad.add (i.toNat * 11)).block, (ad.add (i.toNat * 11)).off + 2, none⟩ = some (.int .i64 (rd_T37 xs i).f0.f2) ∧ w.cell? ⟨(ad.add (i.toNat * 11)).block, (ad.add (i.toNat * 11)).off + 3, none⟩ = some (.int .i64 (rd_T37 xs i).f1.f0) ∧ w.cell? ⟨(ad.add (i.toNat * 11)).block, (ad.add (i.toNat * 11)).off + 4, none⟩ = some (.int .i64 (rd_T37 xs i).f1.f1) ∧ w.cell? ⟨(ad.add (i.toNat * 11)).block, (ad.add (i.toNat * 11)).off + 5, none⟩ = some (.int .i64 (rd_T37 xs i).f1.f2) ∧ w.cell? ⟨(ad.add (i.toNat * 11)).block, (ad.add (i.toNat * 11)).off + 6, none⟩ = some (.int .i64 (rd_T37 xs i).f1.f3) ∧ w.cell? ⟨(ad.add (i.toNat * 11)).block, (ad.add (i.toNat * 11)).off + 7, none⟩ = some (.slice A7 (rd_T37 xs i).f1.f4.length c7) ∧ w.cell? ⟨(ad.add (i.toNat * 11)).block, (ad.add (i.toNat * 11)).off + 8, none⟩ = some (.bool (rd_T37 xs i).f1.f5) ∧ w.cell? ⟨(ad.add (i.toNat * 11)).block, (ad.add (i.toNat * 11)).off + 9, none⟩ = some (.int .i64 (rd_T37 xs i).f2) ∧ w.cell? ⟨(ad.add (i.toNat * 11)).block, (ad.add (i.toNat * 11)).off + 10, none⟩ = some (.bool (rd_T37 xs i).f3) ∧ (rd_T37 xs i).f0.f1.length ≤ c1 ∧ k123.C w A1 (rd_T37 xs i).f0.f1.length (rd_T37 xs i).f0.f1 ∧ (rd_T37 xs i).f1.f4.length ≤ c7 ∧ (Kd.int .i64).C w A7 (rd_T37 xs i).f1.f4.length (rd_T37 xs i).f1.f4 := by
  obtain ⟨ad, c, e, _, hK, hc0⟩ := Kd.C_get h z37 i h0 h1
  have hc : ∀ j u, c[j]? = some u → w.cell? (ad.add (i.toNat * 11 + j)) = some u := hc0
  obtain ⟨A1, c1, A7, c7, rfl, l1, g1, l7, g7⟩ := k37_open hK
  exact ⟨ad, A1, c1, A7, c7, e, hc 0 _ rfl, by rw [← add_field _ _ 1 (by omega)]; exact hc 1 _ rfl, by rw [← add_field _ _ 2 (by omega)]; exact hc 2 _ rfl, by rw [← add_field _ _ 3 (by omega)]; exact hc 3 _ rfl, by rw [← add_field _ _ 4 (by omega)]; exact hc 4 _ rfl, by rw [← add_field _ _ 5 (by omega)]; exact hc 5 _ rfl, by rw [← add_field _ _ 6 (by omega)]; exact hc 6 _ rfl, by rw [← add_field _ _ 7 (by omega)]; exact hc 7 _ rfl, by rw [← add_field _ _ 8 (by omega)]; exact hc 8 _ rfl, by rw [← add_field _ _ 9 (by omega)]; exact hc 9 _ rfl, by rw [← add_field _ _ 10 (by omega)]; exact hc 10 _ rfl, l1, g1, l7, g7⟩

/-! #### struct type 94 -/
structure S94 where
  f0 : S27
  f1 : Int
  f2 : S92
def z94 : S94 := ⟨z27, (0 : Int), z92⟩
def k94 : Kd S94 := Kd.iso (Kd.pair k27 (Kd.pair (Kd.int .i64) k92)) (fun x : S94 => (x.f0, x.f1, x.f2))
theorem k94_open {w : World} {x : S94} {cs : List Value} (h : k94.K w x cs) : ∃ A1 c1 A8 c8, cs = [.string x.f0.f0, .slice A1 x.f0.f1.length c1, .int .i64 x.f0.f2, .int .i64 x.f1, .int .i64 x.f2.f0, .int .i64 x.f2.f1, .int .i64 x.f2.f2, .int .i64 x.f2.f3, .slice A8 x.f2.f4.length c8, .bool x.f2.f5] ∧ x.f0.f1.length ≤ c1 ∧ k119.C w A1 x.f0.f1.length x.f0.f1 ∧ x.f2.f4.length ≤ c8 ∧ (Kd.int .i64).C w A8 x.f2.f4.length x.f2.f4 := by
  obtain ⟨_, _, rfl, s0, ⟨_, _, rfl, rfl, s4⟩⟩ := h
  obtain ⟨A1, c1, rfl, l1, g1⟩ := k27_open s0
  obtain ⟨A8, c8, rfl, l8, g8⟩ := k92_open s4
  exact ⟨A1, c1, A8, c8, rfl, l1, g1, l8, g8⟩
theorem k94_openM {w : World} {base : Nat} {ok : Nat → Prop} {x : S94} {cs : List Value} (h : k94.M w base ok x cs) : ∃ v1 v8, cs = [.string x.f0.f0, v1, .int .i64 x.f0.f2, .int .i64 x.f1, .int .i64 x.f2.f0, .int .i64 x.f2.f1, .int .i64 x.f2.f2, .int .i64 x.f2.f3, v8, .bool x.f2.f5] ∧ k119.R 119 w base ok v1 x.f0.f1 ∧ (Kd.int .i64).R 3 w base ok v8 x.f2.f4 := by
  obtain ⟨_, _, rfl, s0, ⟨_, _, rfl, rfl, s4⟩⟩ := h
  obtain ⟨v1, rfl, g1⟩ := k27_openM s0
  obtain ⟨v8, rfl, g8⟩ := k92_openM s4
  exact ⟨v1, v8, rfl, g1, g8⟩
theorem k94_mk (w : World) (x : S94) {A1 : Option Addr} {c1 : Nat} (l1 : x.f0.f1.length ≤ c1) (g1 : k119.C w A1 x.f0.f1.length x.f0.f1) {A8 : Option Addr} {c8 : Nat} (l8 : x.f2.f4.length ≤ c8) (g8 : (Kd.int .i64).C w A8 x.f2.f4.length x.f2.f4) : k94.K w x [.string x.f0.f0, .slice A1 x.f0.f1.length c1, .int .i64 x.f0.f2, .int .i64 x.f1, .int .i64 x.f2.f0, .int .i64 x.f2.f1, .int .i64 x.f2.f2, .int .i64 x.f2.f3, .slice A8 x.f2.f4.length c8, .bool x.f2.f5] := ⟨[.string x.f0.f0, .slice A1 x.f0.f1.length c1, .int .i64 x.f0.f2], [.int .i64 x.f1, .int .i64 x.f2.f0, .int .i64 x.f2.f1, .int .i64 x.f2.f2, .int .i64 x.f2.f3, .slice A8 x.f2.f4.length c8, .bool x.f2.f5], rfl, (k27_mk w x.f0 l1 g1), ⟨[.int .i64 x.f1], [.int .i64 x.f2.f0, .int .i64 x.f2.f1, .int .i64 x.f2.f2, .int .i64 x.f2.f3, .slice A8 x.f2.f4.length c8, .bool x.f2.f5], rfl, rfl, (k92_mk w x.f2 l8 g8)⟩⟩
theorem k94_mkM (w : World) (base : Nat) (ok : Nat → Prop) (x : S94) {v1 : Value} (g1 : k119.R 119 w base ok v1 x.f0.f1) {v8 : Value} (g8 : (Kd.int .i64).R 3 w base ok v8 x.f2.f4) : k94.M w base ok x [.string x.f0.f0, v1, .int .i64 x.f0.f2, .int .i64 x.f1, .int .i64 x.f2.f0, .int .i64 x.f2.f1, .int .i64 x.f2.f2, .int .i64 x.f2.f3, v8, .bool x.f2.f5] := ⟨[.string x.f0.f0, v1, .int .i64 x.f0.f2], [.int .i64 x.f1, .int .i64 x.f2.f0, .int .i64 x.f2.f1, .int .i64 x.f2.f2, .int .i64 x.f2.f3, v8, .bool x.f2.f5], rfl, (k27_mkM w base ok x.f0 g1), ⟨[.int .i64 x.f1], [.int .i64 x.f2.f0, .int .i64 x.f2.f1, .int .i64 x.f2.f2, .int .i64 x.f2.f3, v8, .bool x.f2.f5], rfl, rfl, (k92_mkM w base ok x.f2 g8)⟩⟩
theorem k94_openF {W : World} {ok : Nat → Prop} {x : S94} {cs : List Value} (h : Kd.FK k94 W ok x cs) : ∃ A1 c1 A8 c8, cs = [.string x.f0.f0, .slice A1 x.f0.f1.length c1, .int .i64 x.f0.f2, .int .i64 x.f1, .int .i64 x.f2.f0, .int .i64 x.f2.f1, .int .i64 x.f2.f2, .int .i64 x.f2.f3, .slice A8 x.f2.f4.length c8, .bool x.f2.f5] ∧ x.f0.f1.length ≤ c1 ∧ Kd.F k119 W ok A1 x.f0.f1.length x.f0.f1 ∧ x.f2.f4.length ≤ c8 ∧ Kd.F (Kd.int .i64) W ok A8 x.f2.f4.length x.f2.f4 := by
  obtain ⟨A1, c1, A8, c8, rfl, l1, _, l8, _⟩ := k94_open (Kd.FK_now h)
  exact ⟨A1, c1, A8, c8, rfl, l1, (fun W' hW => by obtain ⟨A1_, c1_, A8_, c8_, he, l1_, g1_, l8_, g8_⟩ := k94_open (h W' hW); injection (Option.some.inj (show some (Value.slice A1 x.f0.f1.length c1) = some (Value.slice A1_ x.f0.f1.length c1_) from congrArg (fun l => l[1]?) he)) with ha_ _ _; rw [ha_]; exact g1_), l8, (fun W' hW => by obtain ⟨A1_, c1_, A8_, c8_, he, l1_, g1_, l8_, g8_⟩ := k94_open (h W' hW); injection (Option.some.inj (show some (Value.slice A8 x.f2.f4.length c8) = some (Value.slice A8_ x.f2.f4.length c8_) from congrArg (fun l => l[8]?) he)) with ha_ _ _; rw [ha_]; exact g8_)⟩
theorem k94_mkF (W : World) (ok : Nat → Prop) (x : S94) {A1 : Option Addr} {c1 : Nat} (l1 : x.f0.f1.length ≤ c1) (g1 : Kd.F k119 W ok A1 x.f0.f1.length x.f0.f1) {A8 : Option Addr} {c8 : Nat} (l8 : x.f2.f4.length ≤ c8) (g8 : Kd.F (Kd.int .i64) W ok A8 x.f2.f4.length x.f2.f4) : Kd.FK k94 W ok x [.string x.f0.f0, .slice A1 x.f0.f1.length c1, .int .i64 x.f0.f2, .int .i64 x.f1, .int .i64 x.f2.f0, .int .i64 x.f2.f1, .int .i64 x.f2.f2, .int .i64 x.f2.f3, .slice A8 x.f2.f4.length c8, .bool x.f2.f5] := fun W2 hW => k94_mk W2 x l1 (g1 W2 hW) l8 (g8 W2 hW)
def rd_T94 (xs : List S94) (i : Int) : S94 := xs.getD i.toNat z94
theorem at_T94 {w : World} {A : Option Addr} {n : Nat} {xs : List S94} (h : Kd.C k94 w A n xs) (i : Int) (h0 : 0 ≤ i) (h1 : i < n) : ∃ ad A1 c1 A8 c8, A = some ad ∧ w.cell? (ad.add (i.toNat * 10)) = some (.string (rd_T94 xs i).f0.f0) ∧ w.cell? ⟨(ad.add (i.toNat * 10)).block, (ad.add (i.toNat * 10)).off + 1, none⟩ = some (.slice A1 (rd_T94 xs i).f0.f1.length c1) ∧ w.cell? ⟨(ad.add (i.toNat * 10)).block, (ad.add (i.toNat * 10)).off + 2, none⟩ = some (.int .i64 (rd_T94 xs i).f0.f2) ∧ w.cell? ⟨(ad.add (i.toNat * 10)).block, (ad.add (i.toNat * 10)).off + 3, none⟩ = some (.int .i64 (rd_T94 xs i).f1) ∧ w.cell? ⟨(ad.add (i.toNat * 10)).block, (ad.add (i.toNat * 10)).off + 4, none⟩ = some (.int .i64 (rd_T94 xs i).f2.f0) ∧ w.cell? ⟨(ad.add (i.toNat * 10)).block, (ad.add (i.toNat * 10)).off + 5, none⟩ = some (.int .i64 (rd_T94 xs i).f2.f1) ∧ w.cell? ⟨(ad.add (i.toNat * 10)).block, (ad.add (i.toNat * 10)).off + 6, none⟩ = some (.int .i64 (rd_T94 xs i).f2.f2) ∧ w.cell? ⟨(ad.add (i.toNat * 10)).block, (ad.add (i.toNat * 10)).off + 7, none⟩ = some (.int .i64 (rd_T94 xs i).f2.f3) ∧ w.cell? ⟨(ad.add (i.toNat * 10)).block, (ad.add (i.toNat * 10)).off + 8, none⟩ = some (.slice A8 (rd_T94 xs i).f2.f4.length c8) ∧ w.cell? ⟨(ad.add (i.toNat * 10)).block, (ad.add (i.toNat * 10)).off + 9, none⟩ = some (.bool (rd_T94 xs i).f2.f5) ∧ (rd_T94 xs i).f0.f1.length ≤ c1 ∧ k119.C w A1 (rd_T94 xs i).f0.f1.length (rd_T94 xs i).f0.f1 ∧ (rd_T94 xs i).f2.f4.length ≤ c8 ∧ (Kd.int .i64).C w A8 (rd_T94 xs i).f2.f4.length (rd_T94 xs i).f2.f4 := by
  obtain ⟨ad, c, e, _, hK, hc0⟩ := Kd.C_get h z94 i h0 h1
  have hc : ∀ j u, c[j]? = some u → w.cell? (ad.add (i.toNat * 10 + j)) = some u := hc0
  obtain ⟨A1, c1, A8, c8, rfl, l1, g1, l8, g8⟩ := k94_open hK
  exact ⟨ad, A1, c1, A8, c8, e, hc 0 _ rfl, by rw [← add_field _ _ 1 (by omega)]; exact hc 1 _ rfl, by rw [← add_field _ _ 2 (by omega)]; exact hc 2 _ rfl, by rw [← add_field _ _ 3 (by omega)]; exact hc 3 _ rfl, by rw [← add_field _ _ 4 (by omega)]; exact hc 4 _ rfl, by rw [← add_field _ _ 5 (by omega)]; exact hc 5 _ rfl, by rw [← add_field _ _ 6 (by omega)]; exact hc 6 _ rfl, by rw [← add_field _ _ 7 (by omega)]; exact hc 7 _ rfl, by rw [← add_field _ _ 8 (by omega)]; exact hc 8 _ rfl, by rw [← add_field _ _ 9 (by omega)]; exact hc 9 _ rfl, l1, g1, l8, g8⟩

/-! #### struct type 96 -/
structure S96 where
  f0 : S32
  f1 : Int
  f2 : S35
def z96 : S96 := ⟨z32, (0 : Int), z35⟩
def k96 : Kd S96 := Kd.iso (Kd.pair k32 (Kd.pair (Kd.int .i64) k35)) (fun x : S96 => (x.f0, x.f1, x.f2))
theorem k96_open {w : World} {x : S96} {cs : List Value} (h : k96.K w x cs) : ∃ A1 c1 A8 c8, cs = [.string x.f0.f0, .slice A1 x.f0.f1.length c1, .int .i64 x.f0.f2, .int .i64 x.f1, .int .i64 x.f2.f0, .int .i64 x.f2.f1, .int .i64 x.f2.f2, .int .i64 x.f2.f3, .slice A8 x.f2.f4.length c8, .bool x.f2.f5] ∧ x.f0.f1.length ≤ c1 ∧ k123.C w A1 x.f0.f1.length x.f0.f1 ∧ x.f2.f4.length ≤ c8 ∧ (Kd.int .i64).C w A8 x.f2.f4.length x.f2.f4 := by
  obtain ⟨_, _, rfl, s0, ⟨_, _, rfl, rfl, s4⟩⟩ := h
  obtain ⟨A1, c1, rfl, l1, g1⟩ := k32_open s0
  obtain ⟨A8, c8, rfl, l8, g8⟩ := k35_open s4
  exact ⟨A1, c1, A8, c8, rfl, l1, g1, l8, g8⟩
theorem k96_openM {w : World} {base : Nat} {ok : Nat → Prop} {x : S96} {cs : List Value} (h : k96.M w base ok x cs) : ∃ v1 v8, cs = [.string x.f0.f0, v1, .int .i64 x.f0.f2, .int .i64 x.f1, .int .i64 x.f2.f0, .int .i64 x.f2.f1, .int .i64 x.f2.f2, .int .i64 x.f2.f3, v8, .bool x.f2.f5] ∧ k123.R 123 w base ok v1 x.f0.f1 ∧ (Kd.int .i64).R 3 w base ok v8 x.f2.f4 := by
  obtain ⟨_, _, rfl, s0, ⟨_, _, rfl, rfl, s4⟩⟩ := h
  obtain ⟨v1, rfl, g1⟩ := k32_openM s0
  obtain ⟨v8, rfl, g8⟩ := k35_openM s4
  exact ⟨v1, v8, rfl, g1, g8⟩
theorem k96_mk (w : World) (x : S96) {A1 : Option Addr} {c1 : Nat} (l1 : x.f0.f1.length ≤ c1) (g1 : k123.C w A1 x.f0.f1.length x.f0.f1) {A8 : Option Addr} {c8 : Nat} (l8 : x.f2.f4.length ≤ c8) (g8 : (Kd.int .i64).C w A8 x.f2.f4.length x.f2.f4) : k96.K w x [.string x.f0.f0, .slice A1 x.f0.f1.length c1, .int .i64 x.f0.f2, .int .i64 x.f1, .int .i64 x.f2.f0, .int .i64 x.f2.f1, .int .i64 x.f2.f2, .int .i64 x.f2.f3, .slice A8 x.f2.f4.length c8, .bool x.f2.f5] := ⟨[.string x.f0.f0, .slice A1 x.f0.f1.length c1, .int .i64 x.f0.f2], [.int .i64 x.f1, .int .i64 x.f2.f0, .int .i64 x.f2.f1, .int .i64 x.f2.f2, .int .i64 x.f2.f3, .slice A8 x.f2.f4.length c8, .bool x.f2.f5], rfl, (k32_mk w x.f0 l1 g1), ⟨[.int .i64 x.f1], [.int .i64 x.f2.f0, .int .i64 x.f2.f1, .int .i64 x.f2.f2, .int .i64 x.f2.f3, .slice A8 x.f2.f4.length c8, .bool x.f2.f5], rfl, rfl, (k35_mk w x.f2 l8 g8)⟩⟩
theorem k96_mkM (w : World) (base : Nat) (ok : Nat → Prop) (x : S96) {v1 : Value} (g1 : k123.R 123 w base ok v1 x.f0.f1) {v8 : Value} (g8 : (Kd.int .i64).R 3 w base ok v8 x.f2.f4) : k96.M w base ok x [.string x.f0.f0, v1, .int .i64 x.f0.f2, .int .i64 x.f1, .int .i64 x.f2.f0, .int .i64 x.f2.f1, .int .i64 x.f2.f2, .int .i64 x.f2.f3, v8, .bool x.f2.f5] := ⟨[.string x.f0.f0, v1, .int .i64 x.f0.f2], [.int .i64 x.f1, .int .i64 x.f2.f0, .int .i64 x.f2.f1, .int .i64 x.f2.f2, .int .i64 x.f2.f3, v8, .bool x.f2.f5], rfl, (k32_mkM w base ok x.f0 g1), ⟨[.int .i64 x.f1], [.int .i64 x.f2.f0, .int .i64 x.f2.f1, .int .i64 x.f2.f2, .int .i64 x.f2.f3, v8, .bool x.f2.f5], rfl, rfl, (k35_mkM w base ok x.f2 g8)⟩⟩
theorem k96_openF {W : World} {ok : Nat → Prop} {x : S96} {cs : List Value} (h : Kd.FK k96 W ok x cs) : ∃ A1 c1 A8 c8, cs = [.string x.f0.f0, .slice A1 x.f0.f1.length c1, .int .i64 x.f0.f2, .int .i64 x.f1, .int .i64 x.f2.f0, .int .i64 x.f2.f1, .int .i64 x.f2.f2, .int .i64 x.f2.f3, .slice A8 x.f2.f4.length c8, .bool x.f2.f5] ∧ x.f0.f1.length ≤ c1 ∧ Kd.F k123 W ok A1 x.f0.f1.length x.f0.f1 ∧ x.f2.f4.length ≤ c8 ∧ Kd.F (Kd.int .i64) W ok A8 x.f2.f4.length x.f2.f4 := by
  obtain ⟨A1, c1, A8, c8, rfl, l1, _, l8, _⟩ := k96_open (Kd.FK_now h)
  exact ⟨A1, c1, A8, c8, rfl, l1, (fun W' hW => by obtain ⟨A1_, c1_, A8_, c8_, he, l1_, g1_, l8_, g8_⟩ := k96_open (h W' hW); injection (Option.some.inj (show some (Value.slice A1 x.f0.f1.length c1) = some (Value.slice A1_ x.f0.f1.length c1_) from congrArg (fun l => l[1]?) he)) with ha_ _ _; rw [ha_]; exact g1_), l8, (fun W' hW => by obtain ⟨A1_, c1_, A8_, c8_, he, l1_, g1_, l8_, g8_⟩ := k96_open (h W' hW); injection (Option.some.inj (show some (Value.slice A8 x.f2.f4.length c8) = some (Value.slice A8_ x.f2.f4.length c8_) from congrArg (fun l => l[8]?) he)) with ha_ _ _; rw [ha_]; exact g8_)⟩
theorem k96_mkF (W : World) (ok : Nat → Prop) (x : S96) {A1 : Option Addr} {c1 : Nat} (l1 : x.f0.f1.length ≤ c1) (g1 : Kd.F k123 W ok A1 x.f0.f1.length x.f0.f1) {A8 : Option Addr} {c8 : Nat} (l8 : x.f2.f4.length ≤ c8) (g8 : Kd.F (Kd.int .i64) W ok A8 x.f2.f4.length x.f2.f4) : Kd.FK k96 W ok x [.string x.f0.f0, .slice A1 x.f0.f1.length c1, .int .i64 x.f0.f2, .int .i64 x.f1, .int .i64 x.f2.f0, .int .i64 x.f2.f1, .int .i64 x.f2.f2, .int .i64 x.f2.f3, .slice A8 x.f2.f4.length c8, .bool x.f2.f5] := fun W2 hW => k96_mk W2 x l1 (g1 W2 hW) l8 (g8 W2 hW)
def rd_T96 (xs : List S96) (i : Int) : S96 := xs.getD i.toNat z96
theorem at_T96 {w : World} {A : Option Addr} {n : Nat} {xs : List S96} (h : Kd.C k96 w A n xs) (i : Int) (h0 : 0 ≤ i) (h1 : i < n) : ∃ ad A1 c1 A8 c8, A = some ad ∧ w.cell? (ad.add (i.toNat * 10)) = some (.string (rd_T96 xs i).f0.f0) ∧ w.cell? ⟨(ad.add (i.toNat * 10)).block, (ad.add (i.toNat * 10)).off + 1, none⟩ = some (.slice A1 (rd_T96 xs i).f0.f1.length c1) ∧ w.cell? ⟨(ad.add (i.toNat * 10)).block, (ad.add (i.toNat * 10)).off + 2, none⟩ = some (.int .i64 (rd_T96 xs i).f0.f2) ∧ w.cell? ⟨(ad.add (i.toNat * 10)).block, (ad.add (i.toNat * 10)).off + 3, none⟩ = some (.int .i64 (rd_T96 xs i).f1) ∧ w.cell? ⟨(ad.add (i.toNat * 10)).block, (ad.add (i.toNat * 10)).off + 4, none⟩ = some (.int .i64 (rd_T96 xs i).f2.f0) ∧ w.cell? ⟨(ad.add (i.toNat * 10)).block, (ad.add (i.toNat * 10)).off + 5, none⟩ = some (.int .i64 (rd_T96 xs i).f2.f1) ∧ w.cell? ⟨(ad.add (i.toNat * 10)).block, (ad.add (i.toNat * 10)).off + 6, none⟩ = some (.int .i64 (rd_T96 xs i).f2.f2) ∧ w.cell? ⟨(ad.add (i.toNat * 10)).block, (ad.add (i.toNat * 10)).off + 7, none⟩ = some (.int .i64 (rd_T96 xs i).f2.f3) ∧ w.cell? ⟨(ad.add (i.toNat * 10)).block, (ad.add (i.toNat * 10)).off + 8, none⟩ = some (.slice A8 (rd_T96 xs i).f2.f4.length c8) ∧ w.cell? ⟨(ad.add (i.toNat * 10)).block, (ad.add (i.toNat * 10)).off + 9, none⟩ = some (.bool (rd_T96 xs i).f2.f5) ∧ (rd_T96 xs i).f0.f1.length ≤ c1 ∧ k123.C w A1 (rd_T96 xs i).f0.f1.length (rd_T96 xs i).f0.f1 ∧ (rd_T96 xs i).f2.f4.length ≤ c8 ∧ (Kd.int .i64).C w A8 (rd_T96 xs i).f2.f4.length (rd_T96 xs i).f2.f4 := by
  obtain ⟨ad, c, e, _, hK, hc0⟩ := Kd.C_get h z96 i h0 h1
  have hc : ∀ j u, c[j]? = some u → w.cell? (ad.add (i.toNat * 10 + j)) = some u := hc0
  obtain ⟨A1, c1, A8, c8, rfl, l1, g1, l8, g8⟩ := k96_open hK
  exact ⟨ad, A1, c1, A8, c8, e, hc 0 _ rfl, by rw [← add_field _ _ 1 (by omega)]; exact hc 1 _ rfl, by rw [← add_field _ _ 2 (by omega)]; exact hc 2 _ rfl, by rw [← add_field _ _ 3 (by omega)]; exact hc 3 _ rfl, by rw [← add_field _ _ 4 (by omega)]; exact hc 4 _ rfl, by rw [← add_field _ _ 5 (by omega)]; exact hc 5 _ rfl, by rw [← add_field _ _ 6 (by omega)]; exact hc 6 _ rfl, by rw [← add_field _ _ 7 (by omega)]; exact hc 7 _ rfl, by rw [← add_field _ _ 8 (by omega)]; exact hc 8 _ rfl, by rw [← add_field _ _ 9 (by omega)]; exact hc 9 _ rfl, l1, g1, l8, g8⟩

end Go.Proofs.YtkgmoajdcibafaaDoor.P

/- What lies in one stretch of memory stays, whatever is done elsewhere. No conditions. -/
namespace Go.Proofs.YtkgmoajdcibafaaDoor.P
open Go.RowKit Go.Proofs.YtkgmoajdcibafaaDoorW.PrintWords Go.Proofs.YtkgmoajdcibafaaDoorW.PrintLast Go.Proofs.YtkgmoajdcibafaaDoorW.PrintMore
section
variable {α : Type} {d : Kd α} {e lo hi lo' hi' b : Nat} {w W W' : World} {S : Nat → Prop} {F G : World → Prop} {v : Value} {l l' : List α}
/-- F is told of W by its blocks lo .. hi alone. -/
def Loc (lo hi : Nat) (F : World → Prop) (W : World) : Prop := hi ≤ W.heap.size ∧ ∀ W' : World, hi ≤ W'.heap.size → (∀ k, lo ≤ k → k < hi → W'.heap[k]? = W.heap[k]?) → F W'
theorem Loc.now (h : Loc lo hi F W) : F W := h.2 W h.1 (fun _ _ _ => rfl)
theorem Loc.step (h : Loc lo hi F W) (hs : hi ≤ W'.heap.size) (hk : ∀ k, lo ≤ k → k < hi → W'.heap[k]? = W.heap[k]?) : Loc lo hi F W' :=
  ⟨hs, fun W2 h2 hk2 => h.2 W2 h2 (fun k h0 h1 => (hk2 k h0 h1).trans (hk k h0 h1))⟩
theorem Loc.below (h : Loc lo hi F W) (hb : Below W.heap.size W W') : Loc lo hi F W' := h.step (Nat.le_trans h.1 hb.size) (fun k _ h1 => hb.block k (Nat.lt_of_lt_of_le h1 h.1))
theorem Loc.kept (h : Loc lo hi F W) (hk : Kept W W' S) (hn : ∀ k, lo ≤ k → k < hi → ¬ S k) : Loc lo hi F W' := h.step (Nat.le_trans h.1 hk.1) (fun k h0 h1 => hk.2 k (Nat.lt_of_lt_of_le h1 h.1) (hn k h0 h1))
/-- .. where another stretch is written. -/
theorem Loc.apart (h : Loc lo hi F W) (hk : Kept W W' (fun k => lo' ≤ k ∧ k < hi')) (hn : hi ≤ lo' ∨ hi' ≤ lo) : Loc lo hi F W' := h.kept hk (fun k h0 h1 hs => by omega)
theorem Loc.box {o : Obj} (h : W.heap[b]? = some o) : Loc b (b + 1) (fun W => W.heap[b]? = some o) W :=
  ⟨(Array.getElem?_eq_some_iff.1 h).1, fun W' _ hk => (hk b (Nat.le_refl _) (by omega)).trans h⟩
theorem Loc.ofS (hh : hi ≤ W.heap.size) (h : Kd.S d e W w.heap.size (fun k => lo ≤ k ∧ k < hi) v l) : Loc lo hi (fun W => Kd.S d e W w.heap.size (fun k => lo ≤ k ∧ k < hi) v l) W :=
  ⟨hh, fun _ _ hk => Kd.S_move h (fun k hs => hk k hs.1 hs.2)⟩
theorem Loc.ofR (hh : hi ≤ W.heap.size) (h : Kd.R d e W w.heap.size (fun k => lo ≤ k ∧ k < hi) v l) : Loc lo hi (fun W => Kd.R d e W w.heap.size (fun k => lo ≤ k ∧ k < hi) v l) W :=
  ⟨hh, fun _ _ hk => Kd.R_move (Kd.R_bound h) (fun k hs => hk k hs.1.1 hs.1.2) |> fun h => Kd.R_mono h (fun _ hk => hk.1)⟩
/-- What a call has made. -/
theorem Loc.newS (hs : Kd.S d e W' W.heap.size (fun _ => True) v l) (hB : Below w.heap.size w W) : ∃ lo hi, lo = W.heap.size ∧ Loc lo hi (fun W => Kd.S d e W w.heap.size (fun k => lo ≤ k ∧ k < hi) v l) W' ∧ hi = W'.heap.size :=
  ⟨_, _, rfl, Loc.ofS (Nat.le_refl _) (Kd.S_mono (Kd.S_lower (Kd.S_bound hs) hB.size) (fun _ hk => ⟨hk.2.1, hk.2.2.1⟩)), rfl⟩
theorem Loc.newR (hs : Kd.R d e W' W.heap.size (fun _ => True) v l) (hB : Below w.heap.size w W) : ∃ lo hi, lo = W.heap.size ∧ Loc lo hi (fun W => Kd.R d e W w.heap.size (fun k => lo ≤ k ∧ k < hi) v l) W' ∧ hi = W'.heap.size :=
  ⟨_, _, rfl, Loc.ofR (Nat.le_refl _) (Kd.R_mono (Kd.R_lower (Kd.R_bound hs) hB.size) (fun _ hk => ⟨hk.2.1, hk.2.2.1⟩)), rfl⟩
theorem Loc.ofV (hh : hi ≤ W.heap.size) (h : Kd.V d e W w.heap.size (fun k => lo ≤ k ∧ k < hi) v l) : Loc lo hi (fun W => Kd.V d e W w.heap.size (fun k => lo ≤ k ∧ k < hi) v l) W :=
  ⟨hh, fun _ _ hk => Kd.V_step h (fun k hs _ => hk k hs.1 hs.2)⟩
/-- What a call has made of an elder stretch and of new blocks. -/
theorem Loc.newN {b : Nat} (hA : Loc lo hi F W) (hlo : lo ≤ hi) (hs : Kd.N d e W' b (fun k => ((lo ≤ k ∧ k < hi) ∨ W.heap.size ≤ k)) v l) (hb : Below W.heap.size W W') :
    ∃ hi', Loc lo hi' (fun W => Kd.V d e W w.heap.size (fun k => lo ≤ k ∧ k < hi') v l) W' ∧ hi' = W'.heap.size ∧ lo ≤ hi' :=
  ⟨_, Loc.ofV (Nat.le_refl _) (Kd.V_mono (Kd.V_bound (Kd.N_V hs)) (fun k hk => ⟨by rcases hk.1 with h | h; exact h.1; exact Nat.le_trans hlo (Nat.le_trans hA.1 h), hk.2⟩)), rfl, Nat.le_trans hlo (Nat.le_trans hA.1 hb.size)⟩
/-- .. of two elder stretches, one behind the other, and of new blocks. -/
theorem Loc.newN2 {b lo2 hi2 : Nat} (hA : Loc lo hi F W) (_ : Loc lo2 hi2 G W) (hlo : lo ≤ hi) (h12 : hi ≤ lo2) (_ : lo2 ≤ hi2) (hs : Kd.N d e W' b (fun k => (((lo ≤ k ∧ k < hi) ∨ (lo2 ≤ k ∧ k < hi2)) ∨ W.heap.size ≤ k)) v l) (hb : Below W.heap.size W W') :
    ∃ hi', Loc lo hi' (fun W => Kd.V d e W w.heap.size (fun k => lo ≤ k ∧ k < hi') v l) W' ∧ hi' = W'.heap.size ∧ lo ≤ hi' :=
  ⟨_, Loc.ofV (Nat.le_refl _) (Kd.V_mono (Kd.V_bound (Kd.N_V hs)) (fun k hk => ⟨by rcases hk.1 with (h | h) | h; exact h.1; omega; exact Nat.le_trans hlo (Nat.le_trans hA.1 h), hk.2⟩)), rfl, Nat.le_trans hlo (Nat.le_trans hA.1 hb.size)⟩
theorem Loc.readsV {A : Option Addr} {n c : Nat} (h : Loc lo hi (fun W => Kd.V d e W w.heap.size (fun k => lo ≤ k ∧ k < hi) (.slice A n c) l) W) : n = l.length ∧ l.length ≤ c ∧ d.C W A l.length l := by
  obtain ⟨h1, h2, h3⟩ := Kd.V_reads' h.now
  exact ⟨h1, by omega, h3⟩
theorem Loc.size (h : Loc lo hi F W) : hi ≤ W.heap.size := h.1
/-- A row's slice, and how it is read. -/
theorem Loc.readsS {A : Option Addr} {n c : Nat} (h : Loc lo hi (fun W => Kd.S d e W w.heap.size (fun k => lo ≤ k ∧ k < hi) (.slice A n c) l) W) : n = l.length ∧ l.length ≤ c ∧ d.C W A l.length l := by
  obtain ⟨h1, h2, h3⟩ := Kd.S_reads' h.now
  exact ⟨h1, by omega, h3⟩
theorem Loc.readsR {A : Option Addr} {n c : Nat} (h : Loc lo hi (fun W => Kd.R d e W w.heap.size (fun k => lo ≤ k ∧ k < hi) (.slice A n c) l) W) : n = l.length ∧ l.length ≤ c ∧ d.C W A l.length l := by
  obtain ⟨h1, h2, h3⟩ := Kd.R_reads' h.now
  exact ⟨h1, by omega, h3⟩
/-- Block b alone is written. -/
def Only (W W' : World) (b : Nat) : Prop := W'.os = W.os ∧ W'.tape = W.tape ∧ W'.output = W.output ∧ W'.heap.size = W.heap.size ∧ ∀ k, k ≠ b → W'.heap[k]? = W.heap[k]?
theorem Only.refl (W : World) (b : Nat) : Only W W b := ⟨rfl, rfl, rfl, rfl, fun _ _ => rfl⟩
theorem Only.set {i : Nat} {u : Value} (h : Only W W' b) : Only W (W'.setCell ⟨b, i, none⟩ u) b :=
  ⟨h.1, h.2.1, h.2.2.1, (by simpa [World.setCell] using h.2.2.2.1), fun k hk => (Below.heap_setCell W' ⟨b, i, none⟩ u k hk).trans (h.2.2.2.2 k hk)⟩
theorem Loc.only (h : Loc lo hi F W) (ho : Only W W' b) (hn : hi ≤ b) : Loc lo hi F W' := h.step (by rw [ho.2.2.2.1]; exact h.1) (fun k _ h1 => ho.2.2.2.2 k (by omega))
theorem Loc.only2 (h : Loc lo hi F W) (ho : Only W W' b) (hn : b + 1 ≤ lo ∨ hi ≤ b) : Loc lo hi F W' := h.step (by rw [ho.2.2.2.1]; exact h.1) (fun k h0 h1 => ho.2.2.2.2 k (by omega))
theorem blk_put4 {g : Nat} {t : TypeId} {a0 a1 a2 a3 x0 x1 x2 x3 : Value} (h : W.heap[g]? = some (.cells #[a0, a1, a2, a3] t (0, 0))) :
    ((((W.setCell ⟨g, 0, none⟩ x0).setCell ⟨g, 1, none⟩ x1).setCell ⟨g, 2, none⟩ x2).setCell ⟨g, 3, none⟩ x3).heap[g]? = some (.cells #[x0, x1, x2, x3] t (0, 0)) := blk_set (blk_set (blk_set (blk_set h 0 x0) 1 x1) 2 x2) 3 x3
theorem blk_put4_2 {g : Nat} {t : TypeId} {a0 a1 a2 a3 x2 : Value} (h : W.heap[g]? = some (.cells #[a0, a1, a2, a3] t (0, 0))) :
    (W.setCell ⟨g, 2, none⟩ x2).heap[g]? = some (.cells #[a0, a1, x2, a3] t (0, 0)) := blk_set h 2 x2
theorem blk_put6 {g : Nat} {t : TypeId} {a0 a1 a2 a3 a4 a5 x0 x1 x2 x3 x4 x5 : Value} (h : W.heap[g]? = some (.cells #[a0, a1, a2, a3, a4, a5] t (0, 0))) :
    ((((((W.setCell ⟨g, 0, none⟩ x0).setCell ⟨g, 1, none⟩ x1).setCell ⟨g, 2, none⟩ x2).setCell ⟨g, 3, none⟩ x3).setCell ⟨g, 4, none⟩ x4).setCell ⟨g, 5, none⟩ x5).heap[g]? = some (.cells #[x0, x1, x2, x3, x4, x5] t (0, 0)) := by
  have h0 : (W.setCell ⟨g, 0, none⟩ x0).heap[g]? = some (.cells #[x0, a1, a2, a3, a4, a5] t (0, 0)) := by
    have q := blk_set h 0 x0
    simp only [List.setIfInBounds_toArray, List.set_cons_zero] at q
    exact q
  have h1 : ((W.setCell ⟨g, 0, none⟩ x0).setCell ⟨g, 1, none⟩ x1).heap[g]? = some (.cells #[x0, x1, a2, a3, a4, a5] t (0, 0)) := by
    have q := blk_set h0 1 x1
    simp only [List.setIfInBounds_toArray, List.set_cons_zero, List.set_cons_succ] at q
    exact q
  have h2 : (((W.setCell ⟨g, 0, none⟩ x0).setCell ⟨g, 1, none⟩ x1).setCell ⟨g, 2, none⟩ x2).heap[g]? = some (.cells #[x0, x1, x2, a3, a4, a5] t (0, 0)) := by
    have q := blk_set h1 2 x2
    simp only [List.setIfInBounds_toArray, List.set_cons_zero, List.set_cons_succ] at q
    exact q
  have h3 : ((((W.setCell ⟨g, 0, none⟩ x0).setCell ⟨g, 1, none⟩ x1).setCell ⟨g, 2, none⟩ x2).setCell ⟨g, 3, none⟩ x3).heap[g]? = some (.cells #[x0, x1, x2, x3, a4, a5] t (0, 0)) := by
    have q := blk_set h2 3 x3
    simp only [List.setIfInBounds_toArray, List.set_cons_zero, List.set_cons_succ] at q
    exact q
  have h4 : (((((W.setCell ⟨g, 0, none⟩ x0).setCell ⟨g, 1, none⟩ x1).setCell ⟨g, 2, none⟩ x2).setCell ⟨g, 3, none⟩ x3).setCell ⟨g, 4, none⟩ x4).heap[g]? = some (.cells #[x0, x1, x2, x3, x4, a5] t (0, 0)) := by
    have q := blk_set h3 4 x4
    simp only [List.setIfInBounds_toArray, List.set_cons_zero, List.set_cons_succ] at q
    exact q
  have h5 : ((((((W.setCell ⟨g, 0, none⟩ x0).setCell ⟨g, 1, none⟩ x1).setCell ⟨g, 2, none⟩ x2).setCell ⟨g, 3, none⟩ x3).setCell ⟨g, 4, none⟩ x4).setCell ⟨g, 5, none⟩ x5).heap[g]? = some (.cells #[x0, x1, x2, x3, x4, x5] t (0, 0)) := by
    have q := blk_set h4 5 x5
    simp only [List.setIfInBounds_toArray, List.set_cons_zero, List.set_cons_succ] at q
    exact q
  exact h5
theorem blk_put9 {g : Nat} {t : TypeId} {a0 a1 a2 a3 a4 a5 a6 a7 a8 x0 x1 x2 x3 x4 x5 x6 x7 x8 : Value} (h : W.heap[g]? = some (.cells #[a0, a1, a2, a3, a4, a5, a6, a7, a8] t (0, 0))) :
    (((((((((W.setCell ⟨g, 0, none⟩ x0).setCell ⟨g, 1, none⟩ x1).setCell ⟨g, 2, none⟩ x2).setCell ⟨g, 3, none⟩ x3).setCell ⟨g, 4, none⟩ x4).setCell ⟨g, 5, none⟩ x5).setCell ⟨g, 6, none⟩ x6).setCell ⟨g, 7, none⟩ x7).setCell ⟨g, 8, none⟩ x8).heap[g]? = some (.cells #[x0, x1, x2, x3, x4, x5, x6, x7, x8] t (0, 0)) := by
  have h0 : (W.setCell ⟨g, 0, none⟩ x0).heap[g]? = some (.cells #[x0, a1, a2, a3, a4, a5, a6, a7, a8] t (0, 0)) := by
    have q := blk_set h 0 x0
    simp only [List.setIfInBounds_toArray, List.set_cons_zero] at q
    exact q
  have h1 : ((W.setCell ⟨g, 0, none⟩ x0).setCell ⟨g, 1, none⟩ x1).heap[g]? = some (.cells #[x0, x1, a2, a3, a4, a5, a6, a7, a8] t (0, 0)) := by
    have q := blk_set h0 1 x1
    simp only [List.setIfInBounds_toArray, List.set_cons_zero, List.set_cons_succ] at q
    exact q
  have h2 : (((W.setCell ⟨g, 0, none⟩ x0).setCell ⟨g, 1, none⟩ x1).setCell ⟨g, 2, none⟩ x2).heap[g]? = some (.cells #[x0, x1, x2, a3, a4, a5, a6, a7, a8] t (0, 0)) := by
    have q := blk_set h1 2 x2
    simp only [List.setIfInBounds_toArray, List.set_cons_zero, List.set_cons_succ] at q
    exact q
  have h3 : ((((W.setCell ⟨g, 0, none⟩ x0).setCell ⟨g, 1, none⟩ x1).setCell ⟨g, 2, none⟩ x2).setCell ⟨g, 3, none⟩ x3).heap[g]? = some (.cells #[x0, x1, x2, x3, a4, a5, a6, a7, a8] t (0, 0)) := by
    have q := blk_set h2 3 x3
    simp only [List.setIfInBounds_toArray, List.set_cons_zero, List.set_cons_succ] at q
    exact q
  have h4 : (((((W.setCell ⟨g, 0, none⟩ x0).setCell ⟨g, 1, none⟩ x1).setCell ⟨g, 2, none⟩ x2).setCell ⟨g, 3, none⟩ x3).setCell ⟨g, 4, none⟩ x4).heap[g]? = some (.cells #[x0, x1, x2, x3, x4, a5, a6, a7, a8] t (0, 0)) := by
    have q := blk_set h3 4 x4
    simp only [List.setIfInBounds_toArray, List.set_cons_zero, List.set_cons_succ] at q
    exact q
  have h5 : ((((((W.setCell ⟨g, 0, none⟩ x0).setCell ⟨g, 1, none⟩ x1).setCell ⟨g, 2, none⟩ x2).setCell ⟨g, 3, none⟩ x3).setCell ⟨g, 4, none⟩ x4).setCell ⟨g, 5, none⟩ x5).heap[g]? = some (.cells #[x0, x1, x2, x3, x4, x5, a6, a7, a8] t (0, 0)) := by
    have q := blk_set h4 5 x5
    simp only [List.setIfInBounds_toArray, List.set_cons_zero, List.set_cons_succ] at q
    exact q
  have h6 : (((((((W.setCell ⟨g, 0, none⟩ x0).setCell ⟨g, 1, none⟩ x1).setCell ⟨g, 2, none⟩ x2).setCell ⟨g, 3, none⟩ x3).setCell ⟨g, 4, none⟩ x4).setCell ⟨g, 5, none⟩ x5).setCell ⟨g, 6, none⟩ x6).heap[g]? = some (.cells #[x0, x1, x2, x3, x4, x5, x6, a7, a8] t (0, 0)) := by
    have q := blk_set h5 6 x6
    simp only [List.setIfInBounds_toArray, List.set_cons_zero, List.set_cons_succ] at q
    exact q
  have h7 : ((((((((W.setCell ⟨g, 0, none⟩ x0).setCell ⟨g, 1, none⟩ x1).setCell ⟨g, 2, none⟩ x2).setCell ⟨g, 3, none⟩ x3).setCell ⟨g, 4, none⟩ x4).setCell ⟨g, 5, none⟩ x5).setCell ⟨g, 6, none⟩ x6).setCell ⟨g, 7, none⟩ x7).heap[g]? = some (.cells #[x0, x1, x2, x3, x4, x5, x6, x7, a8] t (0, 0)) := by
    have q := blk_set h6 7 x7
    simp only [List.setIfInBounds_toArray, List.set_cons_zero, List.set_cons_succ] at q
    exact q
  have h8 : (((((((((W.setCell ⟨g, 0, none⟩ x0).setCell ⟨g, 1, none⟩ x1).setCell ⟨g, 2, none⟩ x2).setCell ⟨g, 3, none⟩ x3).setCell ⟨g, 4, none⟩ x4).setCell ⟨g, 5, none⟩ x5).setCell ⟨g, 6, none⟩ x6).setCell ⟨g, 7, none⟩ x7).setCell ⟨g, 8, none⟩ x8).heap[g]? = some (.cells #[x0, x1, x2, x3, x4, x5, x6, x7, x8] t (0, 0)) := by
    have q := blk_set h7 8 x8
    simp only [List.setIfInBounds_toArray, List.set_cons_zero, List.set_cons_succ] at q
    exact q
  exact h8
theorem Loc.boxed {o o' : Obj} (_ : Loc b (b + 1) (fun W => W.heap[b]? = some o) W) (h : W'.heap[b]? = some o') : Loc b (b + 1) (fun W => W.heap[b]? = some o') W' := Loc.box h
theorem below_only (hB : Below w.heap.size w W) (hw : w.heap.size ≤ b) (ho : Only W W' b) : Below w.heap.size w W' :=
  hB.trans ⟨ho.1, ho.2.1, ho.2.2.1, Nat.le_of_eq ho.2.2.2.1.symm, fun k hk => ho.2.2.2.2 k (by omega)⟩
theorem below_drawn (h : Drawn0 W W') : Below W.heap.size W W' := by
  obtain ⟨n, rfl⟩ := h
  exact pw_below_drewN (Below.refl _ _) n
theorem below_after {W : World} (hB : Below w.heap.size w W) (hb : Below W.heap.size W W') : Below w.heap.size w W' := hB.trans ⟨hb.os, hb.tape, hb.output, hb.size, fun k hk => hb.block k (Nat.lt_of_lt_of_le hk hB.size)⟩
end
end Go.Proofs.YtkgmoajdcibafaaDoor.P

section
/- More on what lies in one stretch of memory: two rows in one, and structs of eleven cells. No conditions. -/
set_option linter.unusedVariables false
set_option linter.unusedSimpArgs false
namespace Go.Proofs.YtkgmoajdcibafaaDoor.P
open Go.RowKit Go.Proofs.YtkgmoajdcibafaaDoorW.PrintWords Go.Proofs.YtkgmoajdcibafaaDoorW.PrintLast Go.Proofs.YtkgmoajdcibafaaDoorW.PrintMore
section
variable {α β : Type} {d : Kd α} {d2 : Kd β} {e e2 lo hi lo' hi' b : Nat} {w W W' : World} {S : Nat → Prop} {F G : World → Prop} {v v2 : Value} {l l' : List α} {l2 : List β}
theorem Loc.ofRR (hh : hi ≤ W.heap.size) (h : Kd.R d e W w.heap.size (fun k => lo ≤ k ∧ k < hi) v l) (h2 : Kd.R d2 e2 W w.heap.size (fun k => lo ≤ k ∧ k < hi) v2 l2) : Loc lo hi (fun W => Kd.R d e W w.heap.size (fun k => lo ≤ k ∧ k < hi) v l ∧ Kd.R d2 e2 W w.heap.size (fun k => lo ≤ k ∧ k < hi) v2 l2) W :=
  ⟨hh, fun _ hs hk => ⟨(Loc.ofR hh h).2 _ hs hk, (Loc.ofR hh h2).2 _ hs hk⟩⟩
theorem Loc.newRR (hs : Kd.R d e W' W.heap.size (fun _ => True) v l) (hs2 : Kd.R d2 e2 W' W.heap.size (fun _ => True) v2 l2) (hB : Below w.heap.size w W) : ∃ lo hi, lo = W.heap.size ∧ Loc lo hi (fun W => Kd.R d e W w.heap.size (fun k => lo ≤ k ∧ k < hi) v l ∧ Kd.R d2 e2 W w.heap.size (fun k => lo ≤ k ∧ k < hi) v2 l2) W' ∧ hi = W'.heap.size :=
  ⟨_, _, rfl, Loc.ofRR (Nat.le_refl _) (Kd.R_mono (Kd.R_lower (Kd.R_bound hs) hB.size) (fun _ hk => ⟨hk.2.1, hk.2.2.1⟩)) (Kd.R_mono (Kd.R_lower (Kd.R_bound hs2) hB.size) (fun _ hk => ⟨hk.2.1, hk.2.2.1⟩)), rfl⟩
theorem Loc.readsRR1 {A : Option Addr} {n c : Nat} (h : Loc lo hi (fun W => Kd.R d e W w.heap.size (fun k => lo ≤ k ∧ k < hi) (.slice A n c) l ∧ Kd.R d2 e2 W w.heap.size (fun k => lo ≤ k ∧ k < hi) v2 l2) W) : n = l.length ∧ l.length ≤ c ∧ d.C W A l.length l := by
  obtain ⟨h1, h2, h3⟩ := Kd.R_reads' h.now.1
  exact ⟨h1, by omega, h3⟩
theorem Loc.readsRR2 {A : Option Addr} {n c : Nat} (h : Loc lo hi (fun W => Kd.R d e W w.heap.size (fun k => lo ≤ k ∧ k < hi) v l ∧ Kd.R d2 e2 W w.heap.size (fun k => lo ≤ k ∧ k < hi) (.slice A n c) l2) W) : n = l2.length ∧ l2.length ≤ c ∧ d2.C W A l2.length l2 := by
  obtain ⟨h1, h2, h3⟩ := Kd.R_reads' h.now.2
  exact ⟨h1, by omega, h3⟩
theorem Kept.dup (h : Kept W W' (fun k => S k ∨ S k)) : Kept W W' S := ⟨h.1, fun i hi hn => h.2 i hi (fun hk => hn (hk.elim id id))⟩
theorem blk_put11 {g : Nat} {t : TypeId} {a0 a1 a2 a3 a4 a5 a6 a7 a8 a9 a10 x0 x1 x2 x3 x4 x5 x6 x7 x8 x9 x10 : Value} (h : W.heap[g]? = some (.cells #[a0, a1, a2, a3, a4, a5, a6, a7, a8, a9, a10] t (0, 0))) :
    (((((((((((W.setCell ⟨g, 0, none⟩ x0).setCell ⟨g, 1, none⟩ x1).setCell ⟨g, 2, none⟩ x2).setCell ⟨g, 3, none⟩ x3).setCell ⟨g, 4, none⟩ x4).setCell ⟨g, 5, none⟩ x5).setCell ⟨g, 6, none⟩ x6).setCell ⟨g, 7, none⟩ x7).setCell ⟨g, 8, none⟩ x8).setCell ⟨g, 9, none⟩ x9).setCell ⟨g, 10, none⟩ x10).heap[g]? = some (.cells #[x0, x1, x2, x3, x4, x5, x6, x7, x8, x9, x10] t (0, 0)) := by
  have hq0 := blk_set h 0 x0
  simp only [List.setIfInBounds_toArray, List.set_cons_zero, List.set_cons_succ] at hq0
  have hq1 := blk_set hq0 1 x1
  simp only [List.setIfInBounds_toArray, List.set_cons_zero, List.set_cons_succ] at hq1
  have hq2 := blk_set hq1 2 x2
  simp only [List.setIfInBounds_toArray, List.set_cons_zero, List.set_cons_succ] at hq2
  have hq3 := blk_set hq2 3 x3
  simp only [List.setIfInBounds_toArray, List.set_cons_zero, List.set_cons_succ] at hq3
  have hq4 := blk_set hq3 4 x4
  simp only [List.setIfInBounds_toArray, List.set_cons_zero, List.set_cons_succ] at hq4
  have hq5 := blk_set hq4 5 x5
  simp only [List.setIfInBounds_toArray, List.set_cons_zero, List.set_cons_succ] at hq5
  have hq6 := blk_set hq5 6 x6
  simp only [List.setIfInBounds_toArray, List.set_cons_zero, List.set_cons_succ] at hq6
  have hq7 := blk_set hq6 7 x7
  simp only [List.setIfInBounds_toArray, List.set_cons_zero, List.set_cons_succ] at hq7
  have hq8 := blk_set hq7 8 x8
  simp only [List.setIfInBounds_toArray, List.set_cons_zero, List.set_cons_succ] at hq8
  have hq9 := blk_set hq8 9 x9
  simp only [List.setIfInBounds_toArray, List.set_cons_zero, List.set_cons_succ] at hq9
  have hq10 := blk_set hq9 10 x10
  simp only [List.setIfInBounds_toArray, List.set_cons_zero, List.set_cons_succ] at hq10
  exact hq10
/-- A variable is made, at a step of a region that draws its order. -/
theorem alloc_st {P : Program} {ops : Array Oper} {oi : Oper} {N : Option Tmp} {a : Act} {K : Act → World → Prop} {Q : Exit → Act → World → Prop} {cs : Array Value} {t : TypeId} (hw : Region.wanted oi (yielded ops a.tmps) = true) (hN : oi.dst = N)
    (hrun : (execOp a.eval oi).run P W = .ok (.value (.pointer (some ⟨W.heap.size, 0, none⟩))) (W.alloc (.cells cs t (0, 0))))
    (h : ∀ g, g = W.heap.size → ∀ w1, w1.heap[g]? = some (.cells cs t (0, 0)) → Below W.heap.size W w1 → K (a.put N (.pointer (some ⟨g, 0, none⟩))) w1) : if Region.wanted oi (yielded ops a.tmps) = true then Oper.wp P oi a W K Q else K (a.put N undef) W :=
  value_ hw hN hrun (h _ rfl _ (blk_new W _) (below_alloc (Below.refl _ _) _))
/-- A call has made two rows, and a variable that holds them has been made: told of the stretch since. -/
theorem Loc.newBRR {wq wc : World} {o : Obj} (hb : wc.heap[b]? = some o) (hb0 : wq.heap.size ≤ b) (hT : Below wq.heap.size wq wc) (hs : Kd.R d e wc wq.heap.size (fun _ => True) v l) (hs2 : Kd.R d2 e2 wc wq.heap.size (fun _ => True) v2 l2) (hB : Below w.heap.size w wq) :
    ∃ lo hi, lo = wq.heap.size ∧ Loc lo hi (fun W => W.heap[b]? = some o ∧ Kd.R d e W w.heap.size (fun k => lo ≤ k ∧ k < hi) v l ∧ Kd.R d2 e2 W w.heap.size (fun k => lo ≤ k ∧ k < hi) v2 l2) wc ∧ hi = wc.heap.size := by
  obtain ⟨lo, hi, rfl, hL, rfl⟩ := Loc.newRR hs hs2 hB
  refine ⟨_, _, rfl, ⟨Nat.le_refl _, fun W hs hk => ⟨(hk b hb0 (Array.getElem?_eq_some_iff.1 hb).1).trans hb, hL.2 W hs hk⟩⟩, rfl⟩
theorem Loc.readsBRR1 {o : Obj} {A : Option Addr} {n c : Nat} (h : Loc lo hi (fun W => W.heap[b]? = some o ∧ Kd.R d e W w.heap.size (fun k => lo ≤ k ∧ k < hi) (.slice A n c) l ∧ Kd.R d2 e2 W w.heap.size (fun k => lo ≤ k ∧ k < hi) v2 l2) W) : n = l.length ∧ l.length ≤ c ∧ d.C W A l.length l := by
  obtain ⟨h1, h2, h3⟩ := Kd.R_reads' h.now.2.1
  exact ⟨h1, by omega, h3⟩
theorem Loc.readsBRR2 {o : Obj} {A : Option Addr} {n c : Nat} (h : Loc lo hi (fun W => W.heap[b]? = some o ∧ Kd.R d e W w.heap.size (fun k => lo ≤ k ∧ k < hi) v l ∧ Kd.R d2 e2 W w.heap.size (fun k => lo ≤ k ∧ k < hi) (.slice A n c) l2) W) : n = l2.length ∧ l2.length ≤ c ∧ d2.C W A l2.length l2 := by
  obtain ⟨h1, h2, h3⟩ := Kd.R_reads' h.now.2.2
  exact ⟨h1, by omega, h3⟩
/-- What was made at block b and the rows: behind the store into b. -/
theorem R_only {wq : World} (h : Kd.R d e W wq.heap.size (fun _ => True) v l) {cells : Array Value} {t : TypeId} (hb : W.heap[b]? = some (.cells cells t (0, 0))) (ht : ∀ q, q ∈ e :: d.E → q ≠ t) (ho : Only W W' b) : Kd.R d e W' wq.heap.size (fun _ => True) v l :=
  Kd.R_mono (Kd.R_step (Kd.R_types h hb ht) (fun k hk _ => ho.2.2.2.2 k hk.2)) (fun _ _ => trivial)
end
end Go.Proofs.YtkgmoajdcibafaaDoor.P
end

section
/- Two rows of structs that lie apart. No conditions. -/
set_option linter.unusedVariables false
namespace Go.Proofs.YtkgmoajdcibafaaDoor.P
open Go.RowKit Go.Proofs.YtkgmoajdcibafaaDoorW.PrintWords Go.Proofs.YtkgmoajdcibafaaDoorW.PrintLast Go.Proofs.YtkgmoajdcibafaaDoorW.PrintMore
theorem blk_lt {W : World} {b : Nat} {o : Obj} (h : W.heap[b]? = some o) : b < W.heap.size := (Array.getElem?_eq_some_iff.1 h).1
theorem S_slice3 {α : Type} {d : Kd α} {e base : Nat} {ok : Nat → Prop} {w : World} {v : Value} {xs : List α} (h : Kd.S d e w base ok v xs) : ∃ A n c, v = .slice A n c := by
  obtain ⟨A, c, h⟩ := Kd.S_slice h
  exact ⟨A, _, c, h⟩
section
variable {α β : Type} {d : Kd α} {d2 : Kd β} {e e2 lo hi : Nat} {w W W' : World} {v v2 : Value} {l l' : List α} {l2 l2' : List β}
def TwoS (d : Kd α) (e : Nat) (d2 : Kd β) (e2 : Nat) (W : World) (base : Nat) (v : Value) (l : List α) (v2 : Value) (l2 : List β) : Prop :=
  ∃ P Q : Nat → Prop, (∀ k, P k → ¬ Q k) ∧ Kd.S d e W base P v l ∧ Kd.S d2 e2 W base Q v2 l2
/-- .. in one stretch of memory. -/
def TwoIn (d : Kd α) (e : Nat) (d2 : Kd β) (e2 lo hi : Nat) (W : World) (base : Nat) (v : Value) (l : List α) (v2 : Value) (l2 : List β) : Prop :=
  ∃ P Q : Nat → Prop, (∀ k, P k → ¬ Q k) ∧ (∀ k, P k ∨ Q k → lo ≤ k ∧ k < hi) ∧ Kd.S d e W base P v l ∧ Kd.S d2 e2 W base Q v2 l2
theorem Loc.ofTwo (hh : hi ≤ W.heap.size) (h : TwoIn d e d2 e2 lo hi W w.heap.size v l v2 l2) : Loc lo hi (fun W => TwoIn d e d2 e2 lo hi W w.heap.size v l v2 l2) W := by
  obtain ⟨P, Q, h1, h2, h3, h4⟩ := h
  exact ⟨hh, fun W' _ hk => ⟨P, Q, h1, h2, Kd.S_move h3 (fun k hp => hk k (h2 k (.inl hp)).1 (h2 k (.inl hp)).2), Kd.S_move h4 (fun k hp => hk k (h2 k (.inr hp)).1 (h2 k (.inr hp)).2)⟩⟩
theorem Loc.newTwo (h : TwoS d e d2 e2 W' W.heap.size v l v2 l2) (hB : Below w.heap.size w W) : ∃ lo hi, lo = W.heap.size ∧ Loc lo hi (fun W => TwoIn d e d2 e2 lo hi W w.heap.size v l v2 l2) W' ∧ hi = W'.heap.size := by
  obtain ⟨P, Q, h1, h3, h4⟩ := h
  refine ⟨_, _, rfl, Loc.ofTwo (Nat.le_refl _) ⟨fun k => P k ∧ W.heap.size ≤ k ∧ k < W'.heap.size, fun k => Q k ∧ W.heap.size ≤ k ∧ k < W'.heap.size, fun k hp hq => h1 k hp.1 hq.1, fun k hk => by rcases hk with hk | hk <;> exact hk.2,
    Kd.S_mono (Kd.S_lower (Kd.S_bound h3) hB.size) (fun k hk => ⟨hk.1, hk.2.1, hk.2.2.1⟩), Kd.S_mono (Kd.S_lower (Kd.S_bound h4) hB.size) (fun k hk => ⟨hk.1, hk.2.1, hk.2.2.1⟩)⟩, rfl⟩
theorem Loc.readsTwo1 {A : Option Addr} {n c : Nat} (h : Loc lo hi (fun W => TwoIn d e d2 e2 lo hi W w.heap.size (.slice A n c) l v2 l2) W) : n = l.length ∧ l.length ≤ c ∧ d.C W A l.length l := by
  obtain ⟨P, Q, _, _, h3, _⟩ := h.now
  obtain ⟨h1, h2, h3⟩ := Kd.S_reads' h3
  exact ⟨h1, by omega, h3⟩
theorem Loc.readsTwo2 {A : Option Addr} {n c : Nat} (h : Loc lo hi (fun W => TwoIn d e d2 e2 lo hi W w.heap.size v l (.slice A n c) l2) W) : n = l2.length ∧ l2.length ≤ c ∧ d2.C W A l2.length l2 := by
  obtain ⟨P, Q, _, _, _, h4⟩ := h.now
  obtain ⟨h1, h2, h3⟩ := Kd.S_reads' h4
  exact ⟨h1, by omega, h3⟩
/-- Two rows that are only read: in one stretch. -/
theorem Loc.ofVV (hh : hi ≤ W.heap.size) (h : Kd.V d e W w.heap.size (fun k => lo ≤ k ∧ k < hi) v l ∧ Kd.V d2 e2 W w.heap.size (fun k => lo ≤ k ∧ k < hi) v2 l2) : Loc lo hi (fun W => Kd.V d e W w.heap.size (fun k => lo ≤ k ∧ k < hi) v l ∧ Kd.V d2 e2 W w.heap.size (fun k => lo ≤ k ∧ k < hi) v2 l2) W :=
  ⟨hh, fun _ hs hk => ⟨(Loc.ofV hh h.1).2 _ hs hk, (Loc.ofV hh h.2).2 _ hs hk⟩⟩
theorem Loc.newVV {b1 b2 : Nat} {ok1 ok2 : Nat → Prop} (hs : Kd.N d e W' b1 ok1 v l) (hs2 : Kd.N d2 e2 W' b2 ok2 v2 l2) (h1 : ∀ k, ok1 k → W.heap.size ≤ k) (h2 : ∀ k, ok2 k → W.heap.size ≤ k) :
    ∃ lo hi, lo = W.heap.size ∧ Loc lo hi (fun W => Kd.V d e W w.heap.size (fun k => lo ≤ k ∧ k < hi) v l ∧ Kd.V d2 e2 W w.heap.size (fun k => lo ≤ k ∧ k < hi) v2 l2) W' ∧ hi = W'.heap.size :=
  ⟨_, _, rfl, Loc.ofVV (Nat.le_refl _) ⟨Kd.V_mono (Kd.V_bound (Kd.N_V hs)) (fun k hk => ⟨h1 k hk.1, hk.2⟩), Kd.V_mono (Kd.V_bound (Kd.N_V hs2)) (fun k hk => ⟨h2 k hk.1, hk.2⟩)⟩, rfl⟩
theorem Kept.wide {S T : Nat → Prop} (h : Kept W W' S) (hs : ∀ k, S k → T k) : Kept W W' T := ⟨h.1, fun i hi hn => h.2 i hi (fun hk => hn (hs i hk))⟩
theorem Loc.readsVV1 {A : Option Addr} {n c : Nat} (h : Loc lo hi (fun W => Kd.V d e W w.heap.size (fun k => lo ≤ k ∧ k < hi) (.slice A n c) l ∧ Kd.V d2 e2 W w.heap.size (fun k => lo ≤ k ∧ k < hi) v2 l2) W) : n = l.length ∧ l.length ≤ c ∧ d.C W A l.length l := by
  obtain ⟨h1, h2, h3⟩ := Kd.V_reads' h.now.1
  exact ⟨h1, by omega, h3⟩
theorem Loc.readsVV2 {A : Option Addr} {n c : Nat} (h : Loc lo hi (fun W => Kd.V d e W w.heap.size (fun k => lo ≤ k ∧ k < hi) v l ∧ Kd.V d2 e2 W w.heap.size (fun k => lo ≤ k ∧ k < hi) (.slice A n c) l2) W) : n = l2.length ∧ l2.length ≤ c ∧ d2.C W A l2.length l2 := by
  obtain ⟨h1, h2, h3⟩ := Kd.V_reads' h.now.2
  exact ⟨h1, by omega, h3⟩
end
end Go.Proofs.YtkgmoajdcibafaaDoor.P
end

namespace Go.Proofs.YtkgmoajdcibafaaDoor.Lem
open Go.RowKit Go.Proofs.YtkgmoajdcibafaaDoorW.PrintWords Go.Proofs.YtkgmoajdcibafaaDoorW.PrintLast Go.Proofs.YtkgmoajdcibafaaDoorW.PrintMore

theorem w64 {x : Int} (h0 : -9223372036854775808 ≤ x) (h1 : x < 9223372036854775808) : wrap64 x = x := by
  unfold wrap64; omega
theorem wu64 {x : Int} (h0 : 0 ≤ x) (h1 : x < 18446744073709551616) : IntKind.u64.wrap x = x := by
  rw [IntKind.wrap_u64]; omega
theorem wu64_lo (x : Int) : 0 ≤ IntKind.u64.wrap x := by rw [IntKind.wrap_u64]; omega
theorem wu64_hi (x : Int) : IntKind.u64.wrap x < 18446744073709551616 := by rw [IntKind.wrap_u64]; omega

/-- A list of bytes. -/
def Bytes (l : List Int) : Prop := ∀ x ∈ l, 0 ≤ x ∧ x < 256

theorem Bytes.of_wf {l : List Int} (h : ∀ x ∈ l, (Lit.int .u8 x).wf = true) : Bytes l := by
  intro x hx
  have := h x hx
  simp [Lit.wf, IntKind.min, IntKind.max, IntKind.signed, IntKind.bits] at this
  omega
theorem Bytes.append {a b : List Int} (ha : Bytes a) (hb : Bytes b) : Bytes (a ++ b) := by
  intro x hx
  rcases List.mem_append.1 hx with h | h
  · exact ha x h
  · exact hb x h
theorem Bytes.nil : Bytes [] := fun x hx => by simp at hx
theorem Bytes.cons {x : Int} {l : List Int} (h0 : 0 ≤ x) (h1 : x < 256) (hl : Bytes l) : Bytes (x :: l) := by
  intro y hy
  rcases List.mem_cons.1 hy with rfl | h
  · exact ⟨h0, h1⟩
  · exact hl y h
theorem Bytes.rd {l : List Int} (h : Bytes l) (i : Int) : 0 ≤ rd l i ∧ rd l i < 256 := by
  unfold Go.Proofs.YtkgmoajdcibafaaDoorW.PrintWords.rd
  rcases Nat.lt_or_ge i.toNat l.length with hl | hl
  · rw [List.getD_eq_getElem?_getD, List.getElem?_eq_getElem hl]
    exact h _ (List.getElem_mem hl)
  · rw [List.getD_eq_getElem?_getD, List.getElem?_eq_none hl]
    simp
theorem Bytes.take {l : List Int} (h : Bytes l) (n : Nat) : Bytes (l.take n) := fun x hx => h x (List.mem_of_mem_take hx)
theorem Bytes.drop {l : List Int} (h : Bytes l) (n : Nat) : Bytes (l.drop n) := fun x hx => h x (List.mem_of_mem_drop hx)

theorem and255 {x : Int} (h0 : 0 ≤ x) (h1 : x < 18446744073709551616) : 0 ≤ Go.bits .and .u64 x 255 ∧ Go.bits .and .u64 x 255 < 256 := by
  rw [u64_and x 255 h0 h1 (by decide) (by decide)]
  have : x.toNat &&& (255 : Int).toNat ≤ (255 : Int).toNat := Nat.and_le_right
  have e : (255 : Int).toNat = 255 := rfl
  omega

theorem shr_lo {k : IntKind} {x y : Int} (h : 0 ≤ x) : 0 ≤ shr k x y := by
  unfold shr
  exact Int.ediv_nonneg h (Int.le_of_lt (Int.pow_pos (by decide)))
theorem shr_hi {k : IntKind} {x y B : Int} (h : 0 ≤ x) (h1 : x < B) : shr k x y < B := by
  unfold shr
  have : x / 2 ^ min y.toNat k.bits ≤ x := Int.ediv_le_self _ h
  omega

end Go.Proofs.YtkgmoajdcibafaaDoor.Lem

/- The order of texts: words with ends that are less than every letter are in the order of their letters. -/
namespace Go.Proofs.YtkgmoajdcibafaaDoor.Lem
open Go

theorem less_irrefl : ∀ x : List UInt8, Op.bytesLess x x = false
  | [] => rfl
  | a :: x => by
    rw [Op.bytesLess, less_irrefl x, Bool.and_false, Bool.or_false]
    exact decide_eq_false (by rw [UInt8.lt_iff_toNat_lt]; omega)

theorem less_cons (a b : UInt8) (x y : List UInt8) : Op.bytesLess (a :: x) (b :: y) = if a = b then Op.bytesLess x y else decide (a < b) := by
  rw [Op.bytesLess]
  by_cases h : a = b
  · subst h
    rw [if_pos rfl, beq_self_eq_true, Bool.true_and, decide_eq_false (by rw [UInt8.lt_iff_toNat_lt]; omega), Bool.false_or]
  · rw [if_neg h, beq_eq_false_iff_ne.2 h, Bool.false_and, Bool.or_false]

/-- The order of two texts as a number. -/
def ord (x y : List UInt8) : Int := if Op.bytesLess x y = true then -1 else if Op.bytesLess y x = true then 1 else 0
theorem ord_self (x : List UInt8) : ord x x = 0 := by
  unfold ord
  rw [less_irrefl, if_neg (by decide), if_neg (by decide)]
theorem ord_cons (a b : UInt8) (x y : List UInt8) : ord (a :: x) (b :: y) = if a = b then ord x y else if a < b then -1 else 1 := by
  unfold ord
  rw [less_cons, less_cons]
  by_cases h : a = b
  · subst h
    rw [if_pos rfl, if_pos rfl, if_pos rfl]
  · rw [if_neg h, if_neg (Ne.symm h), if_neg h]
    have hn : a.toNat ≠ b.toNat := fun e => h (UInt8.toNat_inj.1 e)
    by_cases hl : a < b
    · rw [if_pos (decide_eq_true hl), if_pos hl]
    · rw [if_neg (by simpa using hl), if_neg hl]
      rw [UInt8.lt_iff_toNat_lt] at hl
      rw [if_pos (decide_eq_true (by rw [UInt8.lt_iff_toNat_lt]; omega))]
theorem ord_nil_cons (b : UInt8) (y : List UInt8) : ord [] (b :: y) = -1 := rfl
theorem ord_cons_nil (b : UInt8) (y : List UInt8) : ord (b :: y) [] = 1 := rfl

/-- Words whose ends are less than each letter. -/
theorem ord_ends : ∀ (a b : List UInt8) (c d : UInt8) (x y : List UInt8), (∀ h ∈ a, d < h) → (∀ h ∈ b, c < h) →
    ord (a ++ c :: x) (b ++ d :: y) = if a = b then ord (c :: x) (d :: y) else ord a b
  | [], [], c, d, x, y, _, _ => by rw [if_pos rfl]; rfl
  | [], g :: b, c, d, x, y, _, hb => by
    have h1 : c < g := hb g (List.mem_cons_self ..)
    have hne : c ≠ g := fun e => by subst e; rw [UInt8.lt_iff_toNat_lt] at h1; omega
    rw [if_neg (by simp), ord_nil_cons, List.nil_append, List.cons_append, ord_cons, if_neg hne, if_pos h1]
  | h :: a, [], c, d, x, y, ha, _ => by
    have h1 : d < h := ha h (List.mem_cons_self ..)
    have h2 : ¬ h < d := by rw [UInt8.lt_iff_toNat_lt] at h1 ⊢; omega
    have hne : h ≠ d := fun e => by subst e; exact h2 h1
    rw [if_neg (by simp), ord_cons_nil, List.nil_append, List.cons_append, ord_cons, if_neg hne, if_neg h2]
  | h :: a, g :: b, c, d, x, y, ha, hb => by
    have ih := ord_ends a b c d x y (fun q hq => ha q (List.mem_cons_of_mem _ hq)) (fun q hq => hb q (List.mem_cons_of_mem _ hq))
    rw [List.cons_append, List.cons_append, ord_cons h g (a ++ c :: x) (b ++ d :: y), ord_cons h g a b, ih]
    by_cases e : h = g
    · subst e
      rw [if_pos rfl, if_pos rfl]
      by_cases e2 : a = b
      · rw [if_pos e2, if_pos (by rw [e2])]
      · rw [if_neg e2, if_neg (by simpa using e2)]
    · rw [if_neg e, if_neg e, if_neg (show ¬ (h :: a = g :: b) from fun q => e (by injection q))]

theorem ord_eq_zero : ∀ {a b : List UInt8}, ord a b = 0 → a = b
  | [], [], _ => rfl
  | [], g :: b, h => by rw [ord_nil_cons] at h; exact absurd h (by decide)
  | x :: a, [], h => by rw [ord_cons_nil] at h; exact absurd h (by decide)
  | x :: a, g :: b, h => by
    rw [ord_cons] at h
    by_cases e : x = g
    · subst e
      rw [if_pos rfl] at h
      rw [ord_eq_zero h]
    · rw [if_neg e] at h
      split at h <;> exact absurd h (by decide)
end Go.Proofs.YtkgmoajdcibafaaDoor.Lem

-- written by a program of this session's (wip/pp)
namespace Go.Proofs.YtkgmoajdcibafaaDoor.P
open Go.RowKit Go.Proofs.YtkgmoajdcibafaaDoorW.PrintWords Go.Proofs.YtkgmoajdcibafaaDoorW.PrintLast Go.Proofs.YtkgmoajdcibafaaDoorW.PrintMore
attribute [local go_sem] max2_int min2_int max_two min_two max_three min_three max_four min_four str_geq str_gtr str_leq   -- for this text's walks alone
set_option linter.unusedVariables false
set_option linter.unusedSimpArgs false

/-! ### cmp_isNaN_string: function 115 -/
def cmp_isNaN_string.f (a0 : ByteArray) : Option (Bool) := some (a0.toList != a0.toList)
set_option maxHeartbeats 8000000 in
set_option maxRecDepth 100000 in
theorem cmp_isNaN_string.calls (a0 : ByteArray) (r : Bool) (w : World) (h : cmp_isNaN_string.f a0 = some r) :
 Calls Tryd.prog 115 #[.string a0] w fun e w' => e = .returned (.bool r) ∧ Drawn0 w w' := by
 have H : (some (a0.toList != a0.toList)) = some r := h
 clear h
 obtain rfl := Option.some.inj H
 go_enter Tryd.func115, Tryd.ntmps115
 go_wp2
 go_ret
 exact ⟨z4458, za9de⟩

end Go.Proofs.YtkgmoajdcibafaaDoor.P

-- written by a program of this session's (wip/pp)
namespace Go.Proofs.YtkgmoajdcibafaaDoor.P
open Go.RowKit Go.Proofs.YtkgmoajdcibafaaDoorW.PrintWords Go.Proofs.YtkgmoajdcibafaaDoorW.PrintLast Go.Proofs.YtkgmoajdcibafaaDoorW.PrintMore
attribute [local go_sem] max2_int min2_int max_two min_two max_three min_three max_four min_four str_geq str_gtr str_leq   -- for this text's walks alone
set_option linter.unusedVariables false
set_option linter.unusedSimpArgs false

/-! ### cmp_Compare_string: function 105 -/
def cmp_Compare_string.f (a0 : ByteArray) (a1 : ByteArray) : Option (Int) := (cmp_isNaN_string.f a0).bind fun t101 => ((cmp_isNaN_string.f a1).bind fun t102 => (if t101 = true then (if t102 = true then (some 0) else (some (-1))) else (if t102 = true then (some 1) else (if (Op.bytesLess a0.toList a1.toList) = true then (some (-1)) else (if (Op.bytesLess a1.toList a0.toList) = true then (some 1) else (some 0))))))
set_option maxHeartbeats 8000000 in
set_option maxRecDepth 100000 in
theorem cmp_Compare_string.calls (a0 : ByteArray) (a1 : ByteArray) (r : Int) (w : World) (h : cmp_Compare_string.f a0 a1 = some r) :
 Calls Tryd.prog 105 #[.string a0, .string a1] w fun e w' => e = .returned (.int .i64 r) ∧ Drawn0 w w' := by
 have H : ((cmp_isNaN_string.f a0).bind fun t101 => ((cmp_isNaN_string.f a1).bind fun t102 => (if t101 = true then (if t102 = true then (some 0) else (some (-1))) else (if t102 = true then (some 1) else (if (Op.bytesLess a0.toList a1.toList) = true then (some (-1)) else (if (Op.bytesLess a1.toList a0.toList) = true then (some 1) else (some 0))))))) = some r := h
 clear h
 obtain ⟨t101, A3, H⟩ := bS H; try dsimp only at H
 obtain ⟨t102, A4, H⟩ := bS H; try dsimp only at H
 by_cases c5 : t101 = true
 · subst c5
   rw [if_pos rfl] at H
   by_cases c6 : t102 = true
   · subst c6
     rw [if_pos rfl] at H
     obtain rfl := Option.some.inj H
     go_enter Tryd.func105, Tryd.ntmps105
     go_wp2_with (first | ((with_reducible refine gate_callee (f := 115) rfl ?_); refine gL 8 Tryd.func115 #[.string a0] ?_; (with_reducible refine (cmp_isNaN_string.calls a0 true _ A3.out).mono ?_); rintro e w' ⟨rfl, ⟨nd, rfl⟩⟩; refine ⟨_, rfl, ?_⟩) | ((with_reducible refine gate_callee (f := 115) rfl ?_); refine gL 10 Tryd.func115 #[.string a1] ?_; (with_reducible refine (cmp_isNaN_string.calls a1 true _ A4.out).mono ?_); rintro e w' ⟨rfl, ⟨nd, rfl⟩⟩; refine ⟨_, rfl, ?_⟩))
     go_ret
     exact ⟨z4458, za9de⟩
   · replace c6 := Bool.eq_false_iff.mpr c6
     subst c6
     rw [if_neg (show ¬ (false = true) by decide)] at H
     obtain rfl := Option.some.inj H
     go_enter Tryd.func105, Tryd.ntmps105
     go_wp2_with (first | ((with_reducible refine gate_callee (f := 115) rfl ?_); refine gL 8 Tryd.func115 #[.string a0] ?_; (with_reducible refine (cmp_isNaN_string.calls a0 true _ A3.out).mono ?_); rintro e w' ⟨rfl, ⟨nd, rfl⟩⟩; refine ⟨_, rfl, ?_⟩) | ((with_reducible refine gate_callee (f := 115) rfl ?_); refine gL 10 Tryd.func115 #[.string a1] ?_; (with_reducible refine (cmp_isNaN_string.calls a1 false _ A4.out).mono ?_); rintro e w' ⟨rfl, ⟨nd, rfl⟩⟩; refine ⟨_, rfl, ?_⟩))
     go_ret
     exact ⟨z4458, za9de⟩
 · replace c5 := Bool.eq_false_iff.mpr c5
   subst c5
   rw [if_neg (show ¬ (false = true) by decide)] at H
   by_cases c7 : t102 = true
   · subst c7
     rw [if_pos rfl] at H
     obtain rfl := Option.some.inj H
     go_enter Tryd.func105, Tryd.ntmps105
     go_wp2_with (first | ((with_reducible refine gate_callee (f := 115) rfl ?_); refine gL 8 Tryd.func115 #[.string a0] ?_; (with_reducible refine (cmp_isNaN_string.calls a0 false _ A3.out).mono ?_); rintro e w' ⟨rfl, ⟨nd, rfl⟩⟩; refine ⟨_, rfl, ?_⟩) | ((with_reducible refine gate_callee (f := 115) rfl ?_); refine gL 10 Tryd.func115 #[.string a1] ?_; (with_reducible refine (cmp_isNaN_string.calls a1 true _ A4.out).mono ?_); rintro e w' ⟨rfl, ⟨nd, rfl⟩⟩; refine ⟨_, rfl, ?_⟩))
     go_ret
     exact ⟨z4458, za9de⟩
   · replace c7 := Bool.eq_false_iff.mpr c7
     subst c7
     rw [if_neg (show ¬ (false = true) by decide)] at H
     by_cases c8 : (Op.bytesLess a0.toList a1.toList) = true
     · rw [if_pos c8] at H
       have c8b0 : (Op.bytesLess a0.toList a1.toList) = true := c8
       clear c8
       obtain rfl := Option.some.inj H
       go_enter Tryd.func105, Tryd.ntmps105
       go_wp2_with (first | ((with_reducible refine gate_callee (f := 115) rfl ?_); refine gL 8 Tryd.func115 #[.string a0] ?_; (with_reducible refine (cmp_isNaN_string.calls a0 false _ A3.out).mono ?_); rintro e w' ⟨rfl, ⟨nd, rfl⟩⟩; refine ⟨_, rfl, ?_⟩) | ((with_reducible refine gate_callee (f := 115) rfl ?_); refine gL 10 Tryd.func115 #[.string a1] ?_; (with_reducible refine (cmp_isNaN_string.calls a1 false _ A4.out).mono ?_); rintro e w' ⟨rfl, ⟨nd, rfl⟩⟩; refine ⟨_, rfl, ?_⟩))
       go_ret
       exact ⟨z4458, za9de⟩
     · rw [if_neg c8] at H
       have c8b0 : (Op.bytesLess a0.toList a1.toList) = false := by simpa using c8
       clear c8
       by_cases c9 : (Op.bytesLess a1.toList a0.toList) = true
       · rw [if_pos c9] at H
         have c9b0 : (Op.bytesLess a1.toList a0.toList) = true := c9
         clear c9
         obtain rfl := Option.some.inj H
         go_enter Tryd.func105, Tryd.ntmps105
         go_wp2_with (first | ((with_reducible refine gate_callee (f := 115) rfl ?_); refine gL 8 Tryd.func115 #[.string a0] ?_; (with_reducible refine (cmp_isNaN_string.calls a0 false _ A3.out).mono ?_); rintro e w' ⟨rfl, ⟨nd, rfl⟩⟩; refine ⟨_, rfl, ?_⟩) | ((with_reducible refine gate_callee (f := 115) rfl ?_); refine gL 10 Tryd.func115 #[.string a1] ?_; (with_reducible refine (cmp_isNaN_string.calls a1 false _ A4.out).mono ?_); rintro e w' ⟨rfl, ⟨nd, rfl⟩⟩; refine ⟨_, rfl, ?_⟩))
         go_ret
         exact ⟨z4458, za9de⟩
       · rw [if_neg c9] at H
         have c9b0 : (Op.bytesLess a1.toList a0.toList) = false := by simpa using c9
         clear c9
         obtain rfl := Option.some.inj H
         go_enter Tryd.func105, Tryd.ntmps105
         go_wp2_with (first | ((with_reducible refine gate_callee (f := 115) rfl ?_); refine gL 8 Tryd.func115 #[.string a0] ?_; (with_reducible refine (cmp_isNaN_string.calls a0 false _ A3.out).mono ?_); rintro e w' ⟨rfl, ⟨nd, rfl⟩⟩; refine ⟨_, rfl, ?_⟩) | ((with_reducible refine gate_callee (f := 115) rfl ?_); refine gL 10 Tryd.func115 #[.string a1] ?_; (with_reducible refine (cmp_isNaN_string.calls a1 false _ A4.out).mono ?_); rintro e w' ⟨rfl, ⟨nd, rfl⟩⟩; refine ⟨_, rfl, ?_⟩))
         go_ret
         exact ⟨z4458, za9de⟩

end Go.Proofs.YtkgmoajdcibafaaDoor.P

-- written by a program of this session's (wip/pp)
namespace Go.Proofs.YtkgmoajdcibafaaDoor.P
open Go.RowKit Go.Proofs.YtkgmoajdcibafaaDoorW.PrintWords Go.Proofs.YtkgmoajdcibafaaDoorW.PrintLast Go.Proofs.YtkgmoajdcibafaaDoorW.PrintMore
attribute [local go_sem] max2_int min2_int max_two min_two max_three min_three max_four min_four str_geq str_gtr str_leq   -- for this text's walks alone
set_option linter.unusedVariables false
set_option linter.unusedSimpArgs false

/-! ### cmp_isNaN_int: function 116 -/
def cmp_isNaN_int.f (a0 : Int) : Option (Bool) := some (a0 != a0)
set_option maxHeartbeats 8000000 in
set_option maxRecDepth 100000 in
theorem cmp_isNaN_int.calls (a0 : Int) (r : Bool) (w : World) (h : cmp_isNaN_int.f a0 = some r) :
 Calls Tryd.prog 116 #[.int .i64 a0] w fun e w' => e = .returned (.bool r) ∧ Drawn0 w w' := by
 have H : (some (a0 != a0)) = some r := h
 clear h
 obtain rfl := Option.some.inj H
 go_enter Tryd.func116, Tryd.ntmps116
 go_wp2
 go_ret
 exact ⟨z4458, za9de⟩

end Go.Proofs.YtkgmoajdcibafaaDoor.P

-- written by a program of this session's (wip/pp)
namespace Go.Proofs.YtkgmoajdcibafaaDoor.P
open Go.RowKit Go.Proofs.YtkgmoajdcibafaaDoorW.PrintWords Go.Proofs.YtkgmoajdcibafaaDoorW.PrintLast Go.Proofs.YtkgmoajdcibafaaDoorW.PrintMore
attribute [local go_sem] max2_int min2_int max_two min_two max_three min_three max_four min_four str_geq str_gtr str_leq   -- for this text's walks alone
set_option linter.unusedVariables false
set_option linter.unusedSimpArgs false

/-! ### cmp_Compare_int: function 106 -/
def cmp_Compare_int.f (a0 : Int) (a1 : Int) : Option (Int) := (cmp_isNaN_int.f a0).bind fun t101 => ((cmp_isNaN_int.f a1).bind fun t102 => (if t101 = true then (if t102 = true then (some 0) else (some (-1))) else (if t102 = true then (some 1) else (if a0 < a1 then (some (-1)) else (if a0 > a1 then (some 1) else (some 0))))))
set_option maxHeartbeats 8000000 in
set_option maxRecDepth 100000 in
theorem cmp_Compare_int.calls (a0 : Int) (a1 : Int) (r : Int) (w : World) (h : cmp_Compare_int.f a0 a1 = some r) :
 Calls Tryd.prog 106 #[.int .i64 a0, .int .i64 a1] w fun e w' => e = .returned (.int .i64 r) ∧ Drawn0 w w' := by
 have H : ((cmp_isNaN_int.f a0).bind fun t101 => ((cmp_isNaN_int.f a1).bind fun t102 => (if t101 = true then (if t102 = true then (some 0) else (some (-1))) else (if t102 = true then (some 1) else (if a0 < a1 then (some (-1)) else (if a0 > a1 then (some 1) else (some 0))))))) = some r := h
 clear h
 obtain ⟨t101, A3, H⟩ := bS H; try dsimp only at H
 obtain ⟨t102, A4, H⟩ := bS H; try dsimp only at H
 by_cases c5 : t101 = true
 · subst c5
   rw [if_pos rfl] at H
   by_cases c6 : t102 = true
   · subst c6
     rw [if_pos rfl] at H
     obtain rfl := Option.some.inj H
     go_enter Tryd.func106, Tryd.ntmps106
     go_wp2_with (first | ((with_reducible refine gate_callee (f := 116) rfl ?_); refine gL 8 Tryd.func116 #[.int .i64 a0] ?_; (with_reducible refine (cmp_isNaN_int.calls a0 true _ A3.out).mono ?_); rintro e w' ⟨rfl, ⟨nd, rfl⟩⟩; refine ⟨_, rfl, ?_⟩) | ((with_reducible refine gate_callee (f := 116) rfl ?_); refine gL 10 Tryd.func116 #[.int .i64 a1] ?_; (with_reducible refine (cmp_isNaN_int.calls a1 true _ A4.out).mono ?_); rintro e w' ⟨rfl, ⟨nd, rfl⟩⟩; refine ⟨_, rfl, ?_⟩))
     go_ret
     exact ⟨z4458, za9de⟩
   · replace c6 := Bool.eq_false_iff.mpr c6
     subst c6
     rw [if_neg (show ¬ (false = true) by decide)] at H
     obtain rfl := Option.some.inj H
     go_enter Tryd.func106, Tryd.ntmps106
     go_wp2_with (first | ((with_reducible refine gate_callee (f := 116) rfl ?_); refine gL 8 Tryd.func116 #[.int .i64 a0] ?_; (with_reducible refine (cmp_isNaN_int.calls a0 true _ A3.out).mono ?_); rintro e w' ⟨rfl, ⟨nd, rfl⟩⟩; refine ⟨_, rfl, ?_⟩) | ((with_reducible refine gate_callee (f := 116) rfl ?_); refine gL 10 Tryd.func116 #[.int .i64 a1] ?_; (with_reducible refine (cmp_isNaN_int.calls a1 false _ A4.out).mono ?_); rintro e w' ⟨rfl, ⟨nd, rfl⟩⟩; refine ⟨_, rfl, ?_⟩))
     go_ret
     exact ⟨z4458, za9de⟩
 · replace c5 := Bool.eq_false_iff.mpr c5
   subst c5
   rw [if_neg (show ¬ (false = true) by decide)] at H
   by_cases c7 : t102 = true
   · subst c7
     rw [if_pos rfl] at H
     obtain rfl := Option.some.inj H
     go_enter Tryd.func106, Tryd.ntmps106
     go_wp2_with (first | ((with_reducible refine gate_callee (f := 116) rfl ?_); refine gL 8 Tryd.func116 #[.int .i64 a0] ?_; (with_reducible refine (cmp_isNaN_int.calls a0 false _ A3.out).mono ?_); rintro e w' ⟨rfl, ⟨nd, rfl⟩⟩; refine ⟨_, rfl, ?_⟩) | ((with_reducible refine gate_callee (f := 116) rfl ?_); refine gL 10 Tryd.func116 #[.int .i64 a1] ?_; (with_reducible refine (cmp_isNaN_int.calls a1 true _ A4.out).mono ?_); rintro e w' ⟨rfl, ⟨nd, rfl⟩⟩; refine ⟨_, rfl, ?_⟩))
     go_ret
     exact ⟨z4458, za9de⟩
   · replace c7 := Bool.eq_false_iff.mpr c7
     subst c7
     rw [if_neg (show ¬ (false = true) by decide)] at H
     by_cases c8 : a0 < a1
     · rw [if_pos c8] at H
       have c8b0 := dL c8
       clear c8
       obtain rfl := Option.some.inj H
       go_enter Tryd.func106, Tryd.ntmps106
       go_wp2_with (first | ((with_reducible refine gate_callee (f := 116) rfl ?_); refine gL 8 Tryd.func116 #[.int .i64 a0] ?_; (with_reducible refine (cmp_isNaN_int.calls a0 false _ A3.out).mono ?_); rintro e w' ⟨rfl, ⟨nd, rfl⟩⟩; refine ⟨_, rfl, ?_⟩) | ((with_reducible refine gate_callee (f := 116) rfl ?_); refine gL 10 Tryd.func116 #[.int .i64 a1] ?_; (with_reducible refine (cmp_isNaN_int.calls a1 false _ A4.out).mono ?_); rintro e w' ⟨rfl, ⟨nd, rfl⟩⟩; refine ⟨_, rfl, ?_⟩))
       go_ret
       exact ⟨z4458, za9de⟩
     · rw [if_neg c8] at H
       have c8b0 := nL c8
       clear c8
       by_cases c9 : a0 > a1
       · rw [if_pos c9] at H
         have c9b0 := dL c9
         clear c9
         obtain rfl := Option.some.inj H
         go_enter Tryd.func106, Tryd.ntmps106
         go_wp2_with (first | ((with_reducible refine gate_callee (f := 116) rfl ?_); refine gL 8 Tryd.func116 #[.int .i64 a0] ?_; (with_reducible refine (cmp_isNaN_int.calls a0 false _ A3.out).mono ?_); rintro e w' ⟨rfl, ⟨nd, rfl⟩⟩; refine ⟨_, rfl, ?_⟩) | ((with_reducible refine gate_callee (f := 116) rfl ?_); refine gL 10 Tryd.func116 #[.int .i64 a1] ?_; (with_reducible refine (cmp_isNaN_int.calls a1 false _ A4.out).mono ?_); rintro e w' ⟨rfl, ⟨nd, rfl⟩⟩; refine ⟨_, rfl, ?_⟩))
         go_ret
         exact ⟨z4458, za9de⟩
       · rw [if_neg c9] at H
         have c9b0 := nL c9
         clear c9
         obtain rfl := Option.some.inj H
         go_enter Tryd.func106, Tryd.ntmps106
         go_wp2_with (first | ((with_reducible refine gate_callee (f := 116) rfl ?_); refine gL 8 Tryd.func116 #[.int .i64 a0] ?_; (with_reducible refine (cmp_isNaN_int.calls a0 false _ A3.out).mono ?_); rintro e w' ⟨rfl, ⟨nd, rfl⟩⟩; refine ⟨_, rfl, ?_⟩) | ((with_reducible refine gate_callee (f := 116) rfl ?_); refine gL 10 Tryd.func116 #[.int .i64 a1] ?_; (with_reducible refine (cmp_isNaN_int.calls a1 false _ A4.out).mono ?_); rintro e w' ⟨rfl, ⟨nd, rfl⟩⟩; refine ⟨_, rfl, ?_⟩))
         go_ret
         exact ⟨z4458, za9de⟩

end Go.Proofs.YtkgmoajdcibafaaDoor.P

-- written by a program of this session's (wip/pp)
namespace Go.Proofs.YtkgmoajdcibafaaDoor.P
open Go.RowKit Go.Proofs.YtkgmoajdcibafaaDoorW.PrintWords Go.Proofs.YtkgmoajdcibafaaDoorW.PrintLast Go.Proofs.YtkgmoajdcibafaaDoorW.PrintMore
attribute [local go_sem] max2_int min2_int max_two min_two max_three min_three max_four min_four str_geq str_gtr str_leq   -- for this text's walks alone
set_option linter.unusedVariables false
set_option linter.unusedSimpArgs false

/-! ### cmp_Or_int: function 104 -/
def cmp_Or_int.l0 : Nat → Int → List Int → Int → Int → Option (Int)
 | 0, _, _, _, _ => none
 | k + 1, x3, x6, x7, x8 => if x8 < x7 then (if 0 ≤ x8 then (if x8 < (x6.length : Int) then (if (rd x6 x8) = x3 then (cmp_Or_int.l0 k x3 x6 x7 (wrap64 (x8 + 1))) else (some (rd x6 x8))) else (none)) else (none)) else (some x3)
def cmp_Or_int.f (k : Nat) (l0 : List Int) : Option (Int) := cmp_Or_int.l0 k 0 l0 (l0.length : Int) 0
theorem cmp_Or_int.mono_l : ∀ k, (∀ y0 y1 y2 y3, LeO (cmp_Or_int.l0 k y0 y1 y2 y3) (cmp_Or_int.l0 (k + 1) y0 y1 y2 y3))
 | 0 => fun _ _ _ _ r h => by simp [cmp_Or_int.l0] at h
 | k + 1 => by
  have ih0 := cmp_Or_int.mono_l k
  · intro y0 y1 y2 y3
    unfold cmp_Or_int.l0
    exact moZ
theorem cmp_Or_int.mono : ∀ a0 k, LeO (cmp_Or_int.f k a0) (cmp_Or_int.f (k + 1) a0) := by
 intro a0 k
 have ih0 := cmp_Or_int.mono_l k
 unfold cmp_Or_int.f
 exact moZ
set_option maxHeartbeats 8000000 in
set_option maxRecDepth 100000 in
theorem cmp_Or_int.calls (k : Nat) (A0 : Option Addr) (c0 : Nat) (l0 : List Int) (r : Int) (w : World) (hr0 : Kd.C (Kd.int .i64) w A0 l0.length l0) (hc0 : l0.length ≤ c0) (h : cmp_Or_int.f k l0 = some r) :
 Calls Tryd.prog 104 #[.slice A0 l0.length c0] w fun e w' => e = .returned (.int .i64 r) ∧ Drawn0 w w' := by
 have HR0 := aM hr0
 have HC0 := aM hc0
 clear hr0 hc0
 have H : (cmp_Or_int.l0 k 0 l0 (l0.length : Int) 0) = some r := h
 clear h
 have H' := aM H
 clear H
 go_enter Tryd.func104, Tryd.ntmps104
 go_wp2
 go_loopg [8] k (fun kq v8 w' => ∃ (x8_1 : Int), v8 = .int .i64 x8_1 ∧ Aside0 (cmp_Or_int.l0 kq 0 l0 (l0.length : Int) x8_1 = some r) ∧ Aside0 (kq ≤ k) ∧ Drawn0 w w')
 case atStart => exact ⟨(0), z4458, H', ⟨Nat.le_refl _⟩, za9de⟩
 case round =>
  clear H'
  obtain ⟨x8_1, rfl, HA, HK1, ⟨m1, rfl⟩⟩ := hrel
  cases gk with
  | zero => exact absurd HA.out (by simp [cmp_Or_int.l0])
  | succ k1 =>
   have H := HA.out
   clear HA
   simp only [cmp_Or_int.l0] at H
   by_cases c2 : x8_1 < (l0.length : Int)
   · rw [if_pos c2] at H
     have c2b0 := dL c2
     clear c2
     obtain ⟨c3b0, H⟩ := sE H
     obtain ⟨c4b0, H⟩ := sL H
     by_cases c5 : (rd l0 x8_1) = 0
     · rw [if_pos c5] at H
       have c5b0 : ((rd l0 x8_1) == 0) = true := beq_iff_eq.mpr c5
       have c5b1 : ((rd l0 x8_1) != 0) = false := bne_eq_false_iff_eq.mpr c5
       clear c5
       have H' := aM H
       clear H
       have p101 : 0 ≤ (x8_1 : Int) := of_decide_eq_true z1200
       have q101 : x8_1 < (l0.length : Int) := of_decide_eq_true z1200
       obtain ⟨ad101, e101, hx101_0⟩ := Kd.at_int HR0.out x8_1 p101 q101
       cases e101
       replace p101 := eq_true p101
       replace q101 := eq_true q101
       go_wp2
       go_roundg k1
       case measure => have := HK1.out; omega
       case rel => exact ⟨(wrap64 (x8_1 + 1)), z4458, H', ⟨zfb39⟩, za9de⟩
     · rw [if_neg c5] at H
       have c5b0 := eqN c5
       obtain rfl := Option.some.inj H
       have p101 : 0 ≤ (x8_1 : Int) := of_decide_eq_true z1200
       have q101 : x8_1 < (l0.length : Int) := of_decide_eq_true z1200
       obtain ⟨ad101, e101, hx101_0⟩ := Kd.at_int HR0.out x8_1 p101 q101
       cases e101
       replace p101 := eq_true p101
       replace q101 := eq_true q101
       go_wp2
       go_ret
       exact ⟨z4458, za9de⟩
   · rw [if_neg c2] at H
     have c2b0 := nL c2
     clear c2
     obtain rfl := Option.some.inj H
     go_wp2
     go_ret
     exact ⟨z4458, za9de⟩

end Go.Proofs.YtkgmoajdcibafaaDoor.P

/- Two texts and two numbers compared, and the first of numbers that is not nought. No conditions. -/
namespace Go.Proofs.YtkgmoajdcibafaaDoor.Lem
open Go Go.RowKit Go.Proofs.YtkgmoajdcibafaaDoor.P Go.Proofs.YtkgmoajdcibafaaDoorW.PrintWords Go.Proofs.YtkgmoajdcibafaaDoorW.PrintLast Go.Proofs.YtkgmoajdcibafaaDoorW.PrintMore

def ordB (a b : ByteArray) : Int := ord a.data.toList b.data.toList
def sgnI (a b : Int) : Int := if a < b then -1 else if a > b then 1 else 0
theorem cmpS_ok (a b : ByteArray) : cmp_Compare_string.f a b = some (ordB a b) := by
  unfold cmp_Compare_string.f cmp_isNaN_string.f
  rw [bne_self_eq_false, bne_self_eq_false, Option.bind_some, Option.bind_some, if_neg (by decide), if_neg (by decide)]
  unfold ordB ord
  rw [Go.Lib.toList_data, Go.Lib.toList_data]
  split
  · rfl
  · split <;> rfl
theorem cmpI_ok (a b : Int) : cmp_Compare_int.f a b = some (sgnI a b) := by
  unfold cmp_Compare_int.f cmp_isNaN_int.f
  rw [bne_self_eq_false, bne_self_eq_false, Option.bind_some, Option.bind_some, if_neg (by decide), if_neg (by decide)]
  unfold sgnI
  split
  · rfl
  · split <;> rfl
theorem or2_ok (x y : Int) (k : Nat) : cmp_Or_int.f (k + 3) [x, y] = some (if x = 0 then y else x) := by
  unfold cmp_Or_int.f
  show cmp_Or_int.l0 (k + 3) 0 [x, y] 2 0 = _
  rw [cmp_Or_int.l0, if_pos (by decide), if_pos (by decide), if_pos (show (0 : Int) < ([x, y].length : Int) from (by decide : (0 : Int) < ((2 : Nat) : Int))), show rd [x, y] 0 = x from rfl]
  by_cases h : x = 0
  · rw [if_pos h, if_pos h, show wrap64 (0 + 1) = 1 from w64 (by decide) (by decide), cmp_Or_int.l0, if_pos (by decide), if_pos (by decide), if_pos (show (1 : Int) < ([x, y].length : Int) from (by decide : (1 : Int) < ((2 : Nat) : Int))), show rd [x, y] 1 = y from rfl]
    by_cases h2 : y = 0
    · rw [if_pos h2, show wrap64 (1 + 1) = 2 from w64 (by decide) (by decide), cmp_Or_int.l0, if_neg (by decide), h2]
    · rw [if_neg h2]
  · rw [if_neg h, if_neg h]
theorem or3_ok (x y z : Int) (k : Nat) : cmp_Or_int.f (k + 4) [x, y, z] = some (if x = 0 then (if y = 0 then z else y) else x) := by
  unfold cmp_Or_int.f
  show cmp_Or_int.l0 (k + 4) 0 [x, y, z] 3 0 = _
  rw [cmp_Or_int.l0, if_pos (by decide), if_pos (by decide), if_pos (show (0 : Int) < ([x, y, z].length : Int) from (by decide : (0 : Int) < ((3 : Nat) : Int))), show rd [x, y, z] 0 = x from rfl]
  by_cases h : x = 0
  · rw [if_pos h, if_pos h, show wrap64 (0 + 1) = 1 from w64 (by decide) (by decide), cmp_Or_int.l0, if_pos (by decide), if_pos (by decide), if_pos (show (1 : Int) < ([x, y, z].length : Int) from (by decide : (1 : Int) < ((3 : Nat) : Int))), show rd [x, y, z] 1 = y from rfl]
    by_cases h2 : y = 0
    · rw [if_pos h2, if_pos h2, show wrap64 (1 + 1) = 2 from w64 (by decide) (by decide), cmp_Or_int.l0, if_pos (by decide), if_pos (by decide), if_pos (show (2 : Int) < ([x, y, z].length : Int) from (by decide : (2 : Int) < ((3 : Nat) : Int))), show rd [x, y, z] 2 = z from rfl]
      by_cases h3 : z = 0
      · rw [if_pos h3, show wrap64 (2 + 1) = 3 from w64 (by decide) (by decide), cmp_Or_int.l0, if_neg (by decide), h3]
      · rw [if_neg h3]
    · rw [if_neg h2, if_neg h2]
  · rw [if_neg h, if_neg h]
end Go.Proofs.YtkgmoajdcibafaaDoor.Lem

/- Words on lists: a place of a row, and what stands behind it. No conditions. -/
namespace Go.Proofs.YtkgmoajdcibafaaDoor.Lem
open Go Go.RowKit Go.Proofs.YtkgmoajdcibafaaDoor.P Go.Proofs.YtkgmoajdcibafaaDoorW.PrintWords Go.Proofs.YtkgmoajdcibafaaDoorW.PrintLast Go.Proofs.YtkgmoajdcibafaaDoorW.PrintMore

theorem drop_get {α : Type} {l : List α} {i : Nat} (h : i < l.length) : l.drop i = l[i] :: l.drop (i + 1) := (List.drop_eq_getElem_cons h)
theorem set_copy {α β : Type} (f : α → β) (z : β) {l : List α} {i d : Nat} (h : i < l.length) : ((l.take i).map f ++ List.replicate (d + 1) z).set i (f l[i]) = (l.take (i + 1)).map f ++ List.replicate d z := by
  have hl : ((l.take i).map f).length = i := by rw [List.length_map, List.length_take]; omega
  rw [List.set_append_right _ _ (by omega), hl, Nat.sub_self, List.replicate_succ, List.set_cons_zero, List.take_succ_eq_append_getElem h, List.map_append, List.append_assoc]
  rfl
theorem set_mid {α : Type} (pre : List α) (a v : α) (rest : List α) {i : Nat} (h : i = pre.length) : (pre ++ a :: rest).set i v = pre ++ v :: rest := by
  subst h
  rw [List.set_append_right _ _ (Nat.le_refl _), Nat.sub_self, List.set_cons_zero]
theorem getD_mid {α : Type} (pre : List α) (a : α) (rest : List α) (d : α) {i : Nat} (h : i = pre.length) : (pre ++ a :: rest).getD i d = a := by
  subst h
  rw [List.getD_eq_getElem?_getD, List.getElem?_append_right (Nat.le_refl _), Nat.sub_self]
  rfl
end Go.Proofs.YtkgmoajdcibafaaDoor.Lem

-- written by a program of this session's (wip/pp)
namespace Go.Proofs.YtkgmoajdcibafaaDoor.P
open Go.RowKit Go.Proofs.YtkgmoajdcibafaaDoorW.PrintWords Go.Proofs.YtkgmoajdcibafaaDoorW.PrintLast Go.Proofs.YtkgmoajdcibafaaDoorW.PrintMore
attribute [local go_sem] max2_int min2_int max_two min_two max_three min_three max_four min_four str_geq str_gtr str_leq   -- for this text's walks alone
set_option linter.unusedVariables false
set_option linter.unusedSimpArgs false

/-! ### impl_within: function 90 -/
def impl_within.f (a0 : Int) (a1 : Int) (a2 : Int) : Option (Bool) := if a0 ≥ a1 then (some (decide (a0 ≤ a2))) else (some false)
set_option maxHeartbeats 8000000 in
set_option maxRecDepth 100000 in
theorem impl_within.calls (a0 : Int) (a1 : Int) (a2 : Int) (r : Bool) (w : World) (h : impl_within.f a0 a1 a2 = some r) :
 Calls Tryd.prog 90 #[.int .i64 a0, .int .i64 a1, .int .i64 a2] w fun e w' => e = .returned (.bool r) ∧ Drawn0 w w' := by
 have H : (if a0 ≥ a1 then (some (decide (a0 ≤ a2))) else (some false)) = some r := h
 clear h
 by_cases c4 : a0 ≥ a1
 · rw [if_pos c4] at H
   have c4b0 := dE c4
   clear c4
   obtain rfl := Option.some.inj H
   go_enter Tryd.func90, Tryd.ntmps90
   go_wp2
   go_ret
   exact ⟨z4458, za9de⟩
 · rw [if_neg c4] at H
   have c4b0 := nE c4
   clear c4
   obtain rfl := Option.some.inj H
   go_enter Tryd.func90, Tryd.ntmps90
   go_wp2
   go_ret
   exact ⟨z4458, za9de⟩

end Go.Proofs.YtkgmoajdcibafaaDoor.P

/-
  DERIVED: THE SHELF's CONTRACTS AT THIS DUMP, IN PLAIN WORDS (tools/lay-plain.mjs out of 'TrydShelf.lean', which tools/lay-shelf.mjs wrote): THE SAME DECLARATIONS UNDER THE SAME NAMES: 'import', 'namespace', 'open', 'def', 'theorem' AND NOTHING ELSE: no command of the shelf's: FOR A HAND-IN. Each laying: the table of numbers ('.._ren') and one theorem, a field a fact of the dump's own or the kernel's comparison; each contract: ONE APPLICATION.
-/
namespace Go.Proofs
open Go.Shelf
def Tryd.lays160_ren : Go.Shelf.Ren := ⟨fun | 160 => 112 | 232 => 119 | 231 => 118 | 227 => 120 | 234 => 122 | 233 => 121 | 236 => 124 | 235 => 123 | 228 => 126 | 271 => 129 | 151 => 128 | 197 => 127 | 120 => 132 | 152 => 131 | 260 => 130 | 137 => 133 | 119 => 134 | 224 => 135 | 225 => 136 | 217 => 137 | 266 => 138 | n => n, fun | 9 => 9 | 4 => 4 | 3 => 3 | 5 => 5 | 117 => 147 | 116 => 146 | 0 => 0 | 124 => 150 | 21 => 21 | 105 => 153 | 46 => 135 | 119 => 157 | 139 => 160 | 138 => 159 | n => n, fun | 3 => 0 | 4 => 1 | n => n⟩
theorem Tryd.lays160 : Go.Proofs.Lays.n160 Tryd.prog Tryd.lays160_ren := {
  mixed := by kernel_rfl
  f119 := Tryd.func134.trans (congrArg some (by kernel_rfl))
  f120 := Tryd.func132.trans (congrArg some (by kernel_rfl))
  f137 := Tryd.func133.trans (congrArg some (by kernel_rfl))
  f151 := Tryd.func128.trans (congrArg some (by kernel_rfl))
  f152 := Tryd.func131.trans (congrArg some (by kernel_rfl))
  f160 := Tryd.func112.trans (congrArg some (by kernel_rfl))
  f197 := Tryd.func127.trans (congrArg some (by kernel_rfl))
  f217 := Tryd.func137.trans (congrArg some (by kernel_rfl))
  f224 := Tryd.func135.trans (congrArg some (by kernel_rfl))
  f225 := Tryd.func136.trans (congrArg some (by kernel_rfl))
  f227 := Tryd.func120.trans (congrArg some (by kernel_rfl))
  f228 := Tryd.func126.trans (congrArg some (by kernel_rfl))
  f231 := Tryd.func118.trans (congrArg some (by kernel_rfl))
  f232 := Tryd.func119.trans (congrArg some (by kernel_rfl))
  f233 := Tryd.func121.trans (congrArg some (by kernel_rfl))
  f234 := Tryd.func122.trans (congrArg some (by kernel_rfl))
  f235 := Tryd.func123.trans (congrArg some (by kernel_rfl))
  f236 := Tryd.func124.trans (congrArg some (by kernel_rfl))
  f260 := Tryd.func130.trans (congrArg some (by kernel_rfl))
  f266 := Tryd.func138.trans (congrArg some (by kernel_rfl))
  f271 := Tryd.func129.trans (congrArg some (by kernel_rfl))
  t0 := Tryd.underlying0
  a0 := Tryd.isAgg0
  z0 := Tryd.sizeOf0
  v0 := Tryd.zeroValue0
  t3 := Tryd.underlying3
  a3 := Tryd.isAgg3
  z3 := Tryd.sizeOf3
  v3 := Tryd.zeroValue3
  t4 := Tryd.underlying4
  a4 := Tryd.isAgg4
  z4 := Tryd.sizeOf4
  v4 := Tryd.zeroValue4
  t5 := Tryd.underlying5
  a5 := Tryd.isAgg5
  z5 := Tryd.sizeOf5
  v5 := Tryd.zeroValue5
  t9 := Tryd.underlying9
  a9 := Tryd.isAgg9
  z9 := Tryd.sizeOf9
  v9 := Tryd.zeroValue9
  t21 := Tryd.underlying21
  a21 := Tryd.isAgg21
  z21 := Tryd.sizeOf21
  v21 := Tryd.zeroValue21
  t46 := Tryd.underlying135
  a46 := Tryd.isAgg135
  z46 := Tryd.sizeOf135
  v46 := Tryd.zeroValue135
  t105 := Tryd.underlying153
  a105 := Tryd.isAgg153
  z105 := Tryd.sizeOf153
  v105 := Tryd.zeroValue153
  t116 := Tryd.underlying146
  a116 := Tryd.isAgg146
  z116 := Tryd.sizeOf146
  t117 := Tryd.underlying147
  a117 := Tryd.isAgg147
  z117 := Tryd.sizeOf147
  v117 := Tryd.zeroValue147
  t119 := Tryd.underlying157
  a119 := Tryd.isAgg157
  z119 := Tryd.sizeOf157
  t124 := Tryd.underlying150
  a124 := Tryd.isAgg150
  z124 := Tryd.sizeOf150
  v124 := Tryd.zeroValue150
  t138 := Tryd.underlying159
  a138 := Tryd.isAgg159
  z138 := Tryd.sizeOf159
  v138 := Tryd.zeroValue159
  t139 := Tryd.underlying160
  a139 := Tryd.isAgg160
  z139 := Tryd.sizeOf160
  v139 := Tryd.zeroValue160
  g3 := by kernel_rfl
  g4 := by kernel_rfl }
open Go.RowKit Go.Lib in
theorem Tryd.strings_Trim (s cutset : ByteArray) (w : World) (hs : s.size ≤ 9223372036854775807) (hcs : cutset.size < 4294967281) (hascii : ∀ (j : Nat) b, cutset.data.toList[j]? = some b → b.toNat < 128) :
    Calls Tryd.prog 112 #[.string s, .string cutset] w fun e w' => e = .returned (.string ⟨(Lib.trimS s.data.toList cutset.data.toList).toArray⟩) ∧ Below w.heap.size w w' := Any.strings_Trim_laid Tryd.lays160 (by kernel_rfl) s cutset w hs hcs hascii
end Go.Proofs

-- written by a program of this session's (wip/pp)
namespace Go.Proofs.YtkgmoajdcibafaaDoor.P
open Go.RowKit Go.Proofs.YtkgmoajdcibafaaDoorW.PrintWords Go.Proofs.YtkgmoajdcibafaaDoorW.PrintLast Go.Proofs.YtkgmoajdcibafaaDoorW.PrintMore
attribute [local go_sem] max2_int min2_int max_two min_two max_three min_three max_four min_four str_geq str_gtr str_leq   -- for this text's walks alone
set_option linter.unusedVariables false
set_option linter.unusedSimpArgs false

/-! ### strings_Trim: function 112 -/
def strings_Trim.f (a0 a1 : ByteArray) : Option ByteArray := if a0.size ≤ 9223372036854775807 ∧ a1.size < 4294967281 ∧ (a1.data.toList.all fun b => decide (b.toNat < 128)) = true then some ⟨(Go.Lib.trimS a0.data.toList a1.data.toList).toArray⟩ else none
theorem strings_Trim.calls (a0 a1 : ByteArray) (r : ByteArray) (w : World) (h : strings_Trim.f a0 a1 = some r) :
 Calls Tryd.prog 112 #[.string a0, .string a1] w fun e w' => e = .returned (.string r) ∧ Below w.heap.size w w' := by
 unfold strings_Trim.f at h
 split at h
 · rename_i hb
   injection h with h
   subst h
   refine (Tryd.strings_Trim a0 a1 w hb.1 hb.2.1 (fun j b hj => ?_)).mono ?_
   · exact of_decide_eq_true (List.all_eq_true.1 hb.2.2 b (List.mem_of_getElem? hj))
   · rintro e w' ⟨rfl, hB⟩
     exact ⟨rfl, hB⟩
 · cases h

end Go.Proofs.YtkgmoajdcibafaaDoor.P

-- written by a program of this session's (wip/pp)
namespace Go.Proofs.YtkgmoajdcibafaaDoor.P
open Go.RowKit Go.Proofs.YtkgmoajdcibafaaDoorW.PrintWords Go.Proofs.YtkgmoajdcibafaaDoorW.PrintLast Go.Proofs.YtkgmoajdcibafaaDoorW.PrintMore
attribute [local go_sem] max2_int min2_int max_two min_two max_three min_three max_four min_four str_geq str_gtr str_leq   -- for this text's walks alone
set_option linter.unusedVariables false
set_option linter.unusedSimpArgs false

/-! ### impl_isName: function 92 -/
def impl_isName.f (a0 : ByteArray) : Option (Bool) := (impl_within.f (a0.size : Int) 1 12).bind fun t101 => (if t101 = true then ((strings_Trim.f a0 (⟨#[97, 98, 99, 100, 101, 102, 103, 104, 105, 106, 107, 108, 109, 110, 111, 112, 113, 114, 115, 116, 117, 118, 119, 120, 121, 122, 65, 66, 67, 68, 69, 70, 71, 72, 73, 74, 75, 76, 77, 78, 79, 80, 81, 82, 83, 84, 85, 86, 87, 88, 89, 90]⟩ : ByteArray)).bind fun t102 => (some (t102.toList == ([] : List UInt8)))) else (some false))
set_option maxHeartbeats 8000000 in
set_option maxRecDepth 100000 in
theorem impl_isName.calls (a0 : ByteArray) (r : Bool) (w : World) (h : impl_isName.f a0 = some r) :
 Calls Tryd.prog 92 #[.string a0] w fun e w' => e = .returned (.bool r) ∧ Below w.heap.size w w' := by
 have HB := aM (Below.refl w.heap.size w)
 have H : ((impl_within.f (a0.size : Int) 1 12).bind fun t101 => (if t101 = true then ((strings_Trim.f a0 (⟨#[97, 98, 99, 100, 101, 102, 103, 104, 105, 106, 107, 108, 109, 110, 111, 112, 113, 114, 115, 116, 117, 118, 119, 120, 121, 122, 65, 66, 67, 68, 69, 70, 71, 72, 73, 74, 75, 76, 77, 78, 79, 80, 81, 82, 83, 84, 85, 86, 87, 88, 89, 90]⟩ : ByteArray)).bind fun t102 => (some (t102.toList == ([] : List UInt8)))) else (some false))) = some r := h
 clear h
 obtain ⟨t101, A2, H⟩ := bS H; try dsimp only at H
 by_cases c3 : t101 = true
 · subst c3
   rw [if_pos rfl] at H
   obtain ⟨t102, A4, H⟩ := bS H; try dsimp only at H
   obtain rfl := Option.some.inj H
   go_enter Tryd.func92, Tryd.ntmps92
   go_wp2_with (first | ((with_reducible refine gate_callee (f := 90) rfl ?_); refine gL 5 Tryd.func90 #[.int .i64 (a0.size : Int), .int .i64 1, .int .i64 12] ?_; (with_reducible refine (impl_within.calls (a0.size : Int) 1 12 true _ A2.out).mono ?_); rintro e w' ⟨rfl, ⟨nd, rfl⟩⟩; refine ⟨_, rfl, ?_⟩) | (go_at_call 112; (with_reducible refine (strings_Trim.calls a0 (⟨#[97, 98, 99, 100, 101, 102, 103, 104, 105, 106, 107, 108, 109, 110, 111, 112, 113, 114, 115, 116, 117, 118, 119, 120, 121, 122, 65, 66, 67, 68, 69, 70, 71, 72, 73, 74, 75, 76, 77, 78, 79, 80, 81, 82, 83, 84, 85, 86, 87, 88, 89, 90]⟩ : ByteArray) t102 _ A4.out).mono ?_); rintro e w5 ⟨rfl, hb⟩; have _ := aM (below_step hbZ hb); clear HB; rename_i HB; (try clear hb)))
   go_ret
   exact ⟨z674d, z5acd⟩
 · replace c3 := Bool.eq_false_iff.mpr c3
   subst c3
   rw [if_neg (show ¬ (false = true) by decide)] at H
   obtain rfl := Option.some.inj H
   go_enter Tryd.func92, Tryd.ntmps92
   go_wp2_with (first | ((with_reducible refine gate_callee (f := 90) rfl ?_); refine gL 5 Tryd.func90 #[.int .i64 (a0.size : Int), .int .i64 1, .int .i64 12] ?_; (with_reducible refine (impl_within.calls (a0.size : Int) 1 12 false _ A2.out).mono ?_); rintro e w' ⟨rfl, ⟨nd, rfl⟩⟩; refine ⟨_, rfl, ?_⟩))
   go_ret
   exact ⟨z674d, z5acd⟩

end Go.Proofs.YtkgmoajdcibafaaDoor.P

-- written by a program of this session's (wip/pp)
namespace Go.Proofs.YtkgmoajdcibafaaDoor.P
open Go.RowKit Go.Proofs.YtkgmoajdcibafaaDoorW.PrintWords Go.Proofs.YtkgmoajdcibafaaDoorW.PrintLast Go.Proofs.YtkgmoajdcibafaaDoorW.PrintMore
attribute [local go_sem] max2_int min2_int max_two min_two max_three min_three max_four min_four str_geq str_gtr str_leq   -- for this text's walks alone
set_option linter.unusedVariables false
set_option linter.unusedSimpArgs false

/-! ### impl_GoodKey: function 47 -/
mutual
def impl_GoodKey.j0 : Nat → Bool → ByteArray → List (S123) → Int → Option (Bool)
 | 0, _, _, _, _ => none
 | k + 1, x20, x102000, x102001, x102002 => if x20 = true then (some false) else (impl_GoodKey.l0 k x102001 (x102001.length : Int) 0 x102000 x102001 x102002)
def impl_GoodKey.l0 : Nat → List (S123) → Int → Int → ByteArray → List (S123) → Int → Option (Bool)
 | 0, _, _, _, _, _, _ => none
 | k + 1, x22, x23, x24, x102000, x102001, x102002 => if x24 < x23 then (if 0 ≤ x24 then (if x24 < (x22.length : Int) then ((impl_isName.f ((rd_T123 x22 x24).f0)).bind fun t106 => (if t106 = true then ((impl_isName.f ((rd_T123 x22 x24).f1)).bind fun t107 => (if t107 = true then (if x24 > 0 then (if 0 ≤ (wrap64 (x24 - 1)) then (if (wrap64 (x24 - 1)) < (x102001.length : Int) then (if ((Op.bytesLess (((rd_T123 x102001 (wrap64 (x24 - 1))).f0).toList) (((rd_T123 x22 x24).f0).toList)) = true) then (impl_GoodKey.l0 k x22 x23 (wrap64 (x24 + 1)) x102000 x102001 x102002) else (some false)) else (none)) else (none)) else (impl_GoodKey.l0 k x22 x23 (wrap64 (x24 + 1)) x102000 x102001 x102002)) else (some false))) else (some false))) else (none)) else (none)) else (some true)
end
def impl_GoodKey.f (k : Nat) (a0_0 : ByteArray) (l0_1 : List (S123)) (a0_2 : Int) : Option (Bool) := (impl_isName.f a0_0).bind fun t102 => (if t102 = true then (if (l0_1.length : Int) > 4 then (impl_GoodKey.j0 k true a0_0 l0_1 a0_2) else ((impl_within.f a0_2 0 1000000000).bind fun t103 => (impl_GoodKey.j0 k (!t103) a0_0 l0_1 a0_2))) else (impl_GoodKey.j0 k true a0_0 l0_1 a0_2))
theorem impl_GoodKey.mono_l : ∀ k, (∀ y0 y1 y2 y3, LeO (impl_GoodKey.j0 k y0 y1 y2 y3) (impl_GoodKey.j0 (k + 1) y0 y1 y2 y3)) ∧ (∀ y0 y1 y2 y3 y4 y5, LeO (impl_GoodKey.l0 k y0 y1 y2 y3 y4 y5) (impl_GoodKey.l0 (k + 1) y0 y1 y2 y3 y4 y5))
 | 0 => ⟨fun _ _ _ _ r h => by simp [impl_GoodKey.j0] at h, fun _ _ _ _ _ _ r h => by simp [impl_GoodKey.l0] at h⟩
 | k + 1 => by
  obtain ⟨ih0, ih1⟩ := impl_GoodKey.mono_l k
  refine ⟨?_, ?_⟩
  · intro y0 y1 y2 y3
    unfold impl_GoodKey.j0
    exact moZ
  · intro y0 y1 y2 y3 y4 y5
    unfold impl_GoodKey.l0
    exact moZ
theorem impl_GoodKey.mono : ∀ a0 a1 a2 k, LeO (impl_GoodKey.f k a0 a1 a2) (impl_GoodKey.f (k + 1) a0 a1 a2) := by
 intro a0 a1 a2 k
 obtain ⟨ih0, ih1⟩ := impl_GoodKey.mono_l k
 unfold impl_GoodKey.f
 exact moZ
def impl_GoodKey.T6 : Bool × List (List Nat × List Nat) := (true, [([], []), ([0], [0]), ([1], [1]), ([2], [2]), ([3, 2], [3]), ([4], [4]), ([5, 4], [4, 5]), ([6, 4, 4], [4, 6]), ([7, 4], [4, 7]), ([4, 8], [4, 8]), ([9, 7], [9]), ([10], [10]), ([11, 10], [10, 11]), ([12, 10, 10], [10, 12]), ([13], [13]), ([14, 13], [13, 14]), ([13], [13]), ([16, 13], [13, 16]), ([15, 17, 13], [13, 15, 17]), ([18, 13], [13, 18]), ([19, 13], [13, 19]), ([13], [13]), ([21, 13], [13, 21]), ([20, 22, 13], [13, 20, 22]), ([13, 23, 10], [10, 13, 23]), ([10, 24], [10, 24])])
def impl_GoodKey.B6 : List Nat := [0, 1, 3, 7, 15, 31, 63, 127, 255, 511, 1023, 2047, 4095, 8191, 16383, 32767, 16383, 81919, 262143, 524287, 1048575, 16383, 2113535, 8388607, 16777215, 33554431]
theorem impl_GoodKey.tab6 : rtab .any (opsOf Tryd.f47 6) = impl_GoodKey.T6 := by kernel_rfl
theorem impl_GoodKey.bits6 : waitsOk impl_GoodKey.T6.2 impl_GoodKey.B6 = true := by kernel_rfl
set_option maxHeartbeats 8000000 in
set_option maxRecDepth 100000 in
theorem impl_GoodKey.calls (k : Nat) (a0_0 : ByteArray) (A0_1 : Option Addr) (c0_1 : Nat) (l0_1 : List (S123)) (a0_2 : Int) (r : Bool) (w : World) (hr0_1 : Kd.C k123 w A0_1 l0_1.length l0_1) (hc0_1 : l0_1.length ≤ c0_1) (h : impl_GoodKey.f k a0_0 l0_1 a0_2 = some r) :
 Calls Tryd.prog 47 #[.agg #[.string a0_0, .slice A0_1 l0_1.length c0_1, .int .i64 a0_2]] w fun e w' => e = .returned (.bool r) ∧ Below w.heap.size w w' := by
 have hu32 := Tryd.underlying32
 have hu123 := Tryd.underlying123
 have HR0_1 := aM hr0_1
 have HC0_1 := aM hc0_1
 clear hr0_1 hc0_1
 have HB := aM (Below.refl w.heap.size w)
 have H : ((impl_isName.f a0_0).bind fun t102 => (if t102 = true then (if (l0_1.length : Int) > 4 then (impl_GoodKey.j0 k true a0_0 l0_1 a0_2) else ((impl_within.f a0_2 0 1000000000).bind fun t103 => (impl_GoodKey.j0 k (!t103) a0_0 l0_1 a0_2))) else (impl_GoodKey.j0 k true a0_0 l0_1 a0_2))) = some r := h
 clear h
 have HC2 := aM H
 clear H
 go_enter Tryd.func47, Tryd.ntmps47
 go_upto_region 1 with (first | ((with_reducible refine gate_dst (N := 1) rfl ?_); (try (refine gate_guard (by rfl) ?_; dsimp only)); refine bX 1 32 #[.string a0_0, .slice A0_1 l0_1.length c0_1, .int .i64 a0_2] ?_; intro gb101 hg w3 hbox hb; have _ := aM (below_step hbZ hb); have _ := aM hbox; have _ := szZ hg; have _ := szZ hg; clear HB; rename_i HB BK101 GW101 GE101; clear hb hbox hg))
 (try simp only [Act.put, List.setIfInBounds_toArray, List.set_cons_zero, List.set_cons_succ])
 go_cut [20] (fun v20 wc => ∃ (kq : Nat) (x20_1 : Bool), v20 = .bool x20_1 ∧ Aside0 (impl_GoodKey.j0 kq x20_1 a0_0 l0_1 a0_2 = some r) ∧ Aside0 (kq ≤ k) ∧ Aside0 (wc.heap[gb101]? = some (.cells #[.string a0_0, (.slice A0_1 l0_1.length c0_1), .int .i64 a0_2] 32 (0, 0))) ∧ Aside0 (Below w.heap.size w wc))
 case first =>
  have H := HC2.out
  clear HC2
  obtain ⟨t102, A4, H⟩ := bS H; try dsimp only at H
  by_cases c5 : t102 = true
  · subst c5
    rw [if_pos rfl] at H
    by_cases c6 : (l0_1.length : Int) > 4
    · rw [if_pos c6] at H
      have c6b0 : decide (4 < (l0_1.length : Int)) = true := decide_eq_true c6
      have c6b1 : decide (4 < l0_1.length) = true := decide_eq_true (by omega)
      clear c6
      (first | rw [c6b0] | (simp only [i64_w, i32_w]; rw [c6b0]) | skip)
      have H' := aM H
      clear H
      have hz7 := cellsZ3 BK101.out
      go_wp2_with (first | ((with_reducible refine gate_callee (f := 92) rfl ?_); refine gL 7 Tryd.func92 #[.string a0_0] ?_; (with_reducible refine (impl_isName.calls a0_0 true _ A4.out).mono ?_); rintro e w8 ⟨rfl, hb⟩; refine ⟨_, rfl, ?_⟩; have _ := bB gb101 hb; have _ := aM (below_step hbZ hb); clear BK101 HB; rename_i BK101 HB; (try clear hb); have hz9 := cellsZ3 BK101.out))
      go_meet
      case rel => exact ⟨_, (true), z4458, H', ⟨zb79b⟩, ⟨bkZ⟩, ⟨zcb41⟩⟩
    · rw [if_neg c6] at H
      have c6b0 : decide (4 < (l0_1.length : Int)) = false := decide_eq_false c6
      have c6b1 : decide (4 < l0_1.length) = false := decide_eq_false (by omega)
      clear c6
      (first | rw [c6b0] | (simp only [i64_w, i32_w]; rw [c6b0]) | skip)
      obtain ⟨t103, A10, H⟩ := bS H; try dsimp only at H
      have H' := aM H
      clear H
      have hz11 := cellsZ3 BK101.out
      go_wp2_with (first | ((with_reducible refine gate_callee (f := 92) rfl ?_); refine gL 7 Tryd.func92 #[.string a0_0] ?_; (with_reducible refine (impl_isName.calls a0_0 true _ A4.out).mono ?_); rintro e w12 ⟨rfl, hb⟩; refine ⟨_, rfl, ?_⟩; have _ := bB gb101 hb; have _ := aM (below_step hbZ hb); clear BK101 HB; rename_i BK101 HB; (try clear hb); have hz13 := cellsZ3 BK101.out) | (go_at_call 90; (with_reducible refine (impl_within.calls a0_2 0 1000000000 t103 _ A10.out).mono ?_); rintro e w' ⟨rfl, ⟨nd, rfl⟩⟩))
      go_meet
      case rel => exact ⟨_, (!t103), z4458, H', ⟨zb79b⟩, ⟨bkZ⟩, ⟨zcb41⟩⟩
  · replace c5 := Bool.eq_false_iff.mpr c5
    subst c5
    rw [if_neg (show ¬ (false = true) by decide)] at H
    have H' := aM H
    clear H
    have hz14 := cellsZ3 BK101.out
    go_wp2_with (first | ((with_reducible refine gate_callee (f := 92) rfl ?_); refine gL 7 Tryd.func92 #[.string a0_0] ?_; (with_reducible refine (impl_isName.calls a0_0 false _ A4.out).mono ?_); rintro e w15 ⟨rfl, hb⟩; refine ⟨_, rfl, ?_⟩; have _ := bB gb101 hb; have _ := aM (below_step hbZ hb); clear BK101 HB; rename_i BK101 HB; (try clear hb)))
    go_meet
    case rel => exact ⟨_, (true), z4458, H', ⟨zb79b⟩, ⟨bkZ⟩, ⟨zcb41⟩⟩
 case rest =>
  clear HC2
  obtain ⟨kq, x20_1, rfl, HA, HJ1, BK101, HB⟩ := hcut
  cases kq with
  | zero => exact absurd HA.out (by simp [impl_GoodKey.j0])
  | succ kj1 =>
   have H := HA.out
   clear HA
   simp only [impl_GoodKey.j0] at H
   by_cases c16 : x20_1 = true
   · subst c16
     rw [if_pos rfl] at H
     obtain rfl := Option.some.inj H
     go_wp2
     go_ret
     exact ⟨z674d, zcb41⟩
   · replace c16 := Bool.eq_false_iff.mpr c16
     subst c16
     rw [if_neg (show ¬ (false = true) by decide)] at H
     have H' := aM H
     clear H
     have hz17 := cellsZ3 BK101.out
     go_wp2
     go_loopg [24] kj1 (fun kq v24 w' => ∃ (x24_2 : Int), v24 = .int .i64 x24_2 ∧ Aside0 (impl_GoodKey.l0 kq l0_1 (l0_1.length : Int) x24_2 a0_0 l0_1 a0_2 = some r) ∧ Aside0 (kq ≤ kj1) ∧ Aside0 (w'.heap[gb101]? = some (.cells #[.string a0_0, (.slice A0_1 l0_1.length c0_1), .int .i64 a0_2] 32 (0, 0))) ∧ Aside0 (Below w.heap.size w w'))
     case atStart => exact ⟨(0), z4458, H', ⟨Nat.le_refl _⟩, ⟨bkZ⟩, ⟨zcb41⟩⟩
     case round =>
      clear H'
      (try clear c16); (try clear hz17)
      obtain ⟨x24_2, rfl, HA, HK2, BK101, HB⟩ := hrel
      cases gk with
      | zero => exact absurd HA.out (by simp [impl_GoodKey.l0])
      | succ k2 =>
       have H := HA.out
       clear HA
       simp only [impl_GoodKey.l0] at H
       by_cases c18 : x24_2 < (l0_1.length : Int)
       · rw [if_pos c18] at H
         have c18b0 := dL c18
         clear c18
         obtain ⟨c19b0, H⟩ := sE H
         obtain ⟨c20b0, H⟩ := sL H
         obtain ⟨t106, A21, H⟩ := bS H; try dsimp only at H
         by_cases c22 : t106 = true
         · subst c22
           rw [if_pos rfl] at H
           obtain ⟨t107, A23, H⟩ := bS H; try dsimp only at H
           by_cases c24 : t107 = true
           · subst c24
             rw [if_pos rfl] at H
             by_cases c25 : x24_2 > 0
             · rw [if_pos c25] at H
               have c25b0 := dL c25
               clear c25
               obtain ⟨ji26, hji26⟩ : ∃ j_ : Int, (wrap64 (x24_2 - 1)) = j_ := ⟨_, rfl⟩
               replace H : (if 0 ≤ (ji26) then (if (ji26) < (l0_1.length : Int) then (if ((Op.bytesLess (((rd_T123 l0_1 (ji26)).f0).toList) (((rd_T123 l0_1 x24_2).f0).toList)) = true) then (impl_GoodKey.l0 k2 l0_1 (l0_1.length : Int) (wrap64 (x24_2 + 1)) a0_0 l0_1 a0_2) else (some false)) else (none)) else (none)) = some r := by first | (rw [hji26] at H; exact H) | (simp only [hji26] at H ⊢; exact H)
               (try rw [hji26] at A21)
               (try rw [hji26] at A23)
               have hji26w : (IntKind.i64.wrap (x24_2 - 1)) = ji26 := (i64_w _).trans hji26
               obtain ⟨c27b0, H⟩ := sE H
               obtain ⟨c28b0, H⟩ := sL H
               by_cases c29 : ((Op.bytesLess (((rd_T123 l0_1 (ji26)).f0).toList) (((rd_T123 l0_1 x24_2).f0).toList)) = true)
               · rw [if_pos c29] at H
                 have c29b0 : (Op.bytesLess (((rd_T123 l0_1 (ji26)).f0).toList) (((rd_T123 l0_1 x24_2).f0).toList)) = true := c29
                 clear c29
                 have H' := aM H
                 clear H
                 have p104 : 0 ≤ (x24_2 : Int) := of_decide_eq_true z1200
                 have q104 : x24_2 < (l0_1.length : Int) := of_decide_eq_true z1200
                 obtain ⟨ad104, e104, hx104_0, hx104_1⟩ := at_T123 HR0_1.out x24_2 p104 q104
                 cases e104
                 replace hx104_0 := (HB.out.cell (World.block_lt_of_cell? w _ hx104_0)).trans hx104_0
                 replace hx104_1 := (HB.out.cell (World.block_lt_of_cell? w _ hx104_1)).trans hx104_1
                 replace p104 := eq_true p104
                 replace q104 := eq_true q104
                 try go_wp2_with (first | ((with_reducible refine gate_dst (N := 4) rfl ?_); (try (refine gate_guard (by rfl) ?_; dsimp only)); refine bX 4 123 #[.string (⟨#[]⟩ : ByteArray), .string (⟨#[]⟩ : ByteArray)] ?_; intro gb105 hg w30 hbox hb; have _ := bB gb101 hb; have _ := aM (below_step hbZ hb); have _ := aM hbox; have _ := szZ hg; have _ := szZ hg; have ⟨_, _⟩ := nbB gb101 hg; clear BK101 HB; rename_i BK101 HB BK105 GW105 GE105 NB101_105 NB105_101; clear hb hbox hg; have hnb31 := NB105_101.out; have hnc31 := NB101_105.out; have hz32 := cellsZ2 BK105.out))
                 have n0_ : Aside0 (((w30.setCell ⟨gb105, 0, none⟩ (.string ((rd_T123 l0_1 x24_2).f0))).setCell ⟨gb105, 1, none⟩ (.string ((rd_T123 l0_1 x24_2).f1))).heap[gb101]? = some (.cells #[.string a0_0, .slice (some ad104) l0_1.length c0_1, .int .i64 a0_2] 32 (0, 0))) := ⟨bkZ⟩
                 have n1_ : Aside0 (((w30.setCell ⟨gb105, 0, none⟩ (.string ((rd_T123 l0_1 x24_2).f0))).setCell ⟨gb105, 1, none⟩ (.string ((rd_T123 l0_1 x24_2).f1))).heap[gb105]? = some (.cells #[.string ((rd_T123 l0_1 x24_2).f0), .string ((rd_T123 l0_1 x24_2).f1)] 123 (0, 0))) := ⟨bkZ⟩
                 have n2_ : Aside0 (Below w.heap.size w ((w30.setCell ⟨gb105, 0, none⟩ (.string ((rd_T123 l0_1 x24_2).f0))).setCell ⟨gb105, 1, none⟩ (.string ((rd_T123 l0_1 x24_2).f1)))) := ⟨zcb41⟩
                 (try clear BK101); (try clear BK105); (try clear HB)
                 generalize ((w30.setCell ⟨gb105, 0, none⟩ (.string ((rd_T123 l0_1 x24_2).f0))).setCell ⟨gb105, 1, none⟩ (.string ((rd_T123 l0_1 x24_2).f1))) = w33 at n0_ n1_ n2_ ⊢
                 have BK101 := n0_
                 have BK105 := n1_
                 have HB := n2_
                 clear n0_ n1_ n2_
                 have _ := aM (blk_drew BK101.out)
                 have _ := aM (blk_drew BK105.out)
                 have _ := aM (below_drew1 HB.out)
                 clear BK101
                 clear BK105
                 clear HB
                 rename_i BK101 BK105 HB
                 have p108 : 0 ≤ ((ji26) : Int) := of_decide_eq_true z1200
                 have q108 : (ji26) < (l0_1.length : Int) := of_decide_eq_true z1200
                 obtain ⟨ad108, e108, hx108_0, hx108_1⟩ := at_T123 HR0_1.out (ji26) p108 q108
                 have hw108_1 := hx108_1
                 have hw108_0 := hx108_0
                 obtain rfl : ad104 = ad108 := (by injection e108)
                 replace hx108_0 := (HB.out.cell (World.block_lt_of_cell? w _ hx108_0)).trans hx108_0
                 replace hx108_1 := (HB.out.cell (World.block_lt_of_cell? w _ hx108_1)).trans hx108_1
                 replace p108 := eq_true p108
                 replace q108 := eq_true q108
                 refine sA 26 impl_GoodKey.tab6 impl_GoodKey.bits6 (fun w' => w'.cell? ⟨gb105, 0, none⟩ = some (.string ((rd_T123 l0_1 x24_2).f0)) ∧ w'.cell? ⟨gb105, 1, none⟩ = some (.string ((rd_T123 l0_1 x24_2).f1)) ∧ w'.cell? ⟨gb101, 0, none⟩ = some (.string a0_0) ∧ w'.cell? ⟨gb101, 1, none⟩ = some (.slice (some ad104) l0_1.length c0_1) ∧ w'.cell? ⟨gb101, 2, none⟩ = some (.int .i64 a0_2) ∧ w'.cell? (ad104.add (((ji26)).toNat * 2)) = some (.string ((rd_T123 l0_1 (ji26)).f0)) ∧ w'.cell? ⟨(ad104.add (((ji26)).toNat * 2)).block, (ad104.add (((ji26)).toNat * 2)).off + 1, none⟩ = some (.string ((rd_T123 l0_1 (ji26)).f1))) [] (fun hHeld HT_ HW_ => ?_)
                 generalize w33.drew = w34 at BK101 BK105 HB hx108_0 hx108_1 hHeld ⊢
                 refine pA 0 29 HT_ ?_; refine tA 1 30 HT_ HW_ hHeld ?_; refine oA 2 31 HT_ (fun K hK => ?_)
                 refine goes_ Tryd.func92 (by kernel_rfl) rfl #[.string ((rd_T123 l0_1 x24_2).f0)] (by rfl) rfl rfl zee81 ?_
                 with_reducible refine (impl_isName.calls ((rd_T123 l0_1 x24_2).f0) true _ A21.out).mono ?_
                 rintro e w35 ⟨rfl, hb⟩
                 refine ⟨_, rfl, ?_⟩
                 have _ := bB gb101 hb
                 have _ := bB gb105 hb
                 have _ := aM (below_step hbZ hb)
                 clear BK101
                 clear BK105
                 clear HB
                 rename_i BK101 BK105 HB
                 (try clear hb)
                 refine hK.out _ _ sZ (fun hHeld => ?_)
                 clear hK K
                 refine nA 31 ?_; refine pA 3 32 HT_ ?_; refine pA 4 33 HT_ ?_; refine pA 5 34 HT_ ?_; refine tA 6 35 HT_ HW_ hHeld ?_; refine oA 7 36 HT_ (fun K hK => ?_)
                 refine goes_ Tryd.func92 (by kernel_rfl) rfl #[.string ((rd_T123 l0_1 x24_2).f1)] (by rfl) rfl rfl zee81 ?_
                 with_reducible refine (impl_isName.calls ((rd_T123 l0_1 x24_2).f1) true _ A23.out).mono ?_
                 rintro e w36 ⟨rfl, hb⟩
                 refine ⟨_, rfl, ?_⟩
                 have _ := bB gb101 hb
                 have _ := bB gb105 hb
                 have _ := aM (below_step hbZ hb)
                 clear BK101
                 clear BK105
                 clear HB
                 rename_i BK101 BK105 HB
                 (try clear hb)
                 refine hK.out _ _ sZ (fun hHeld => ?_)
                 clear hK K
                 refine nA 36 ?_; refine pA 8 37 HT_ ?_; refine pA 9 38 HT_ ?_; refine pA 10 39 HT_ ?_; refine pA 11 40 HT_ ?_; refine pA 12 41 HT_ ?_; refine pA 13 42 HT_ ?_; refine pA 14 43 HT_ ?_; refine pA 16 45 HT_ ?_; refine pA 17 46 HT_ ?_; refine pA 21 50 HT_ ?_; refine tA 15 44 HT_ HW_ hHeld ?_; refine pA 18 47 HT_ ?_; refine pA 19 48 HT_ ?_; refine tA 20 49 HT_ HW_ hHeld ?_; refine tA 22 51 HT_ HW_ hHeld ?_; refine pA 23 52 HT_ ?_; refine pA 24 53 HT_ ?_; refine pA 25 54 HT_ ?_
                 refine done_ (done_of HT_.out (by kernel_rfl)) ?_
                 try go_wp2
                 go_roundg k2
                 case measure => have := HJ1.out; have := HK2.out; omega
                 case rel => exact ⟨(wrap64 (x24_2 + 1)), z4458, H', ⟨by have := HJ1.out; have := HK2.out; omega⟩, ⟨bkZ⟩, ⟨zcb41⟩⟩
               · rw [if_neg c29] at H
                 have c29b0 : (Op.bytesLess (((rd_T123 l0_1 (ji26)).f0).toList) (((rd_T123 l0_1 x24_2).f0).toList)) = false := by simpa using c29
                 clear c29
                 obtain rfl := Option.some.inj H
                 have p104 : 0 ≤ (x24_2 : Int) := of_decide_eq_true z1200
                 have q104 : x24_2 < (l0_1.length : Int) := of_decide_eq_true z1200
                 obtain ⟨ad104, e104, hx104_0, hx104_1⟩ := at_T123 HR0_1.out x24_2 p104 q104
                 cases e104
                 replace hx104_0 := (HB.out.cell (World.block_lt_of_cell? w _ hx104_0)).trans hx104_0
                 replace hx104_1 := (HB.out.cell (World.block_lt_of_cell? w _ hx104_1)).trans hx104_1
                 replace p104 := eq_true p104
                 replace q104 := eq_true q104
                 try go_wp2_with (first | ((with_reducible refine gate_dst (N := 4) rfl ?_); (try (refine gate_guard (by rfl) ?_; dsimp only)); refine bX 4 123 #[.string (⟨#[]⟩ : ByteArray), .string (⟨#[]⟩ : ByteArray)] ?_; intro gb105 hg w37 hbox hb; have _ := bB gb101 hb; have _ := aM (below_step hbZ hb); have _ := aM hbox; have _ := szZ hg; have _ := szZ hg; have ⟨_, _⟩ := nbB gb101 hg; clear BK101 HB; rename_i BK101 HB BK105 GW105 GE105 NB101_105 NB105_101; clear hb hbox hg; have hnb38 := NB105_101.out; have hnc38 := NB101_105.out; have hz39 := cellsZ2 BK105.out))
                 have n0_ : Aside0 (((w37.setCell ⟨gb105, 0, none⟩ (.string ((rd_T123 l0_1 x24_2).f0))).setCell ⟨gb105, 1, none⟩ (.string ((rd_T123 l0_1 x24_2).f1))).heap[gb101]? = some (.cells #[.string a0_0, .slice (some ad104) l0_1.length c0_1, .int .i64 a0_2] 32 (0, 0))) := ⟨bkZ⟩
                 have n1_ : Aside0 (((w37.setCell ⟨gb105, 0, none⟩ (.string ((rd_T123 l0_1 x24_2).f0))).setCell ⟨gb105, 1, none⟩ (.string ((rd_T123 l0_1 x24_2).f1))).heap[gb105]? = some (.cells #[.string ((rd_T123 l0_1 x24_2).f0), .string ((rd_T123 l0_1 x24_2).f1)] 123 (0, 0))) := ⟨bkZ⟩
                 have n2_ : Aside0 (Below w.heap.size w ((w37.setCell ⟨gb105, 0, none⟩ (.string ((rd_T123 l0_1 x24_2).f0))).setCell ⟨gb105, 1, none⟩ (.string ((rd_T123 l0_1 x24_2).f1)))) := ⟨zcb41⟩
                 (try clear BK101); (try clear BK105); (try clear HB)
                 generalize ((w37.setCell ⟨gb105, 0, none⟩ (.string ((rd_T123 l0_1 x24_2).f0))).setCell ⟨gb105, 1, none⟩ (.string ((rd_T123 l0_1 x24_2).f1))) = w40 at n0_ n1_ n2_ ⊢
                 have BK101 := n0_
                 have BK105 := n1_
                 have HB := n2_
                 clear n0_ n1_ n2_
                 have _ := aM (blk_drew BK101.out)
                 have _ := aM (blk_drew BK105.out)
                 have _ := aM (below_drew1 HB.out)
                 clear BK101
                 clear BK105
                 clear HB
                 rename_i BK101 BK105 HB
                 have p108 : 0 ≤ ((ji26) : Int) := of_decide_eq_true z1200
                 have q108 : (ji26) < (l0_1.length : Int) := of_decide_eq_true z1200
                 obtain ⟨ad108, e108, hx108_0, hx108_1⟩ := at_T123 HR0_1.out (ji26) p108 q108
                 have hw108_1 := hx108_1
                 have hw108_0 := hx108_0
                 obtain rfl : ad104 = ad108 := (by injection e108)
                 replace hx108_0 := (HB.out.cell (World.block_lt_of_cell? w _ hx108_0)).trans hx108_0
                 replace hx108_1 := (HB.out.cell (World.block_lt_of_cell? w _ hx108_1)).trans hx108_1
                 replace p108 := eq_true p108
                 replace q108 := eq_true q108
                 refine sA 26 impl_GoodKey.tab6 impl_GoodKey.bits6 (fun w' => w'.cell? ⟨gb105, 0, none⟩ = some (.string ((rd_T123 l0_1 x24_2).f0)) ∧ w'.cell? ⟨gb105, 1, none⟩ = some (.string ((rd_T123 l0_1 x24_2).f1)) ∧ w'.cell? ⟨gb101, 0, none⟩ = some (.string a0_0) ∧ w'.cell? ⟨gb101, 1, none⟩ = some (.slice (some ad104) l0_1.length c0_1) ∧ w'.cell? ⟨gb101, 2, none⟩ = some (.int .i64 a0_2) ∧ w'.cell? (ad104.add (((ji26)).toNat * 2)) = some (.string ((rd_T123 l0_1 (ji26)).f0)) ∧ w'.cell? ⟨(ad104.add (((ji26)).toNat * 2)).block, (ad104.add (((ji26)).toNat * 2)).off + 1, none⟩ = some (.string ((rd_T123 l0_1 (ji26)).f1))) [] (fun hHeld HT_ HW_ => ?_)
                 generalize w40.drew = w41 at BK101 BK105 HB hx108_0 hx108_1 hHeld ⊢
                 refine pA 0 29 HT_ ?_; refine tA 1 30 HT_ HW_ hHeld ?_; refine oA 2 31 HT_ (fun K hK => ?_)
                 refine goes_ Tryd.func92 (by kernel_rfl) rfl #[.string ((rd_T123 l0_1 x24_2).f0)] (by rfl) rfl rfl zee81 ?_
                 with_reducible refine (impl_isName.calls ((rd_T123 l0_1 x24_2).f0) true _ A21.out).mono ?_
                 rintro e w42 ⟨rfl, hb⟩
                 refine ⟨_, rfl, ?_⟩
                 have _ := bB gb101 hb
                 have _ := bB gb105 hb
                 have _ := aM (below_step hbZ hb)
                 clear BK101
                 clear BK105
                 clear HB
                 rename_i BK101 BK105 HB
                 (try clear hb)
                 refine hK.out _ _ sZ (fun hHeld => ?_)
                 clear hK K
                 refine nA 31 ?_; refine pA 3 32 HT_ ?_; refine pA 4 33 HT_ ?_; refine pA 5 34 HT_ ?_; refine tA 6 35 HT_ HW_ hHeld ?_; refine oA 7 36 HT_ (fun K hK => ?_)
                 refine goes_ Tryd.func92 (by kernel_rfl) rfl #[.string ((rd_T123 l0_1 x24_2).f1)] (by rfl) rfl rfl zee81 ?_
                 with_reducible refine (impl_isName.calls ((rd_T123 l0_1 x24_2).f1) true _ A23.out).mono ?_
                 rintro e w43 ⟨rfl, hb⟩
                 refine ⟨_, rfl, ?_⟩
                 have _ := bB gb101 hb
                 have _ := bB gb105 hb
                 have _ := aM (below_step hbZ hb)
                 clear BK101
                 clear BK105
                 clear HB
                 rename_i BK101 BK105 HB
                 (try clear hb)
                 refine hK.out _ _ sZ (fun hHeld => ?_)
                 clear hK K
                 refine nA 36 ?_; refine pA 8 37 HT_ ?_; refine pA 9 38 HT_ ?_; refine pA 10 39 HT_ ?_; refine pA 11 40 HT_ ?_; refine pA 12 41 HT_ ?_; refine pA 13 42 HT_ ?_; refine pA 14 43 HT_ ?_; refine pA 16 45 HT_ ?_; refine pA 17 46 HT_ ?_; refine pA 21 50 HT_ ?_; refine tA 15 44 HT_ HW_ hHeld ?_; refine pA 18 47 HT_ ?_; refine pA 19 48 HT_ ?_; refine tA 20 49 HT_ HW_ hHeld ?_; refine tA 22 51 HT_ HW_ hHeld ?_; refine pA 23 52 HT_ ?_; refine pA 24 53 HT_ ?_; refine pA 25 54 HT_ ?_
                 refine done_ (done_of HT_.out (by kernel_rfl)) ?_
                 try go_wp2
                 go_ret
                 exact ⟨by first | rfl | (simp [errW_none, errW_some] <;> rfl) | (simp only [← hji26]; first | rfl | (simp [errW_none, errW_some] <;> rfl)) | (simp [*, errW_none, errW_some] <;> rfl), zcb41⟩
             · rw [if_neg c25] at H
               have c25b0 := nL c25
               clear c25
               have H' := aM H
               clear H
               have p104 : 0 ≤ (x24_2 : Int) := of_decide_eq_true z1200
               have q104 : x24_2 < (l0_1.length : Int) := of_decide_eq_true z1200
               obtain ⟨ad104, e104, hx104_0, hx104_1⟩ := at_T123 HR0_1.out x24_2 p104 q104
               cases e104
               replace hx104_0 := (HB.out.cell (World.block_lt_of_cell? w _ hx104_0)).trans hx104_0
               replace hx104_1 := (HB.out.cell (World.block_lt_of_cell? w _ hx104_1)).trans hx104_1
               replace p104 := eq_true p104
               replace q104 := eq_true q104
               try go_wp2_with (first | ((with_reducible refine gate_dst (N := 4) rfl ?_); (try (refine gate_guard (by rfl) ?_; dsimp only)); refine bX 4 123 #[.string (⟨#[]⟩ : ByteArray), .string (⟨#[]⟩ : ByteArray)] ?_; intro gb105 hg w44 hbox hb; have _ := bB gb101 hb; have _ := aM (below_step hbZ hb); have _ := aM hbox; have _ := szZ hg; have _ := szZ hg; have ⟨_, _⟩ := nbB gb101 hg; clear BK101 HB; rename_i BK101 HB BK105 GW105 GE105 NB101_105 NB105_101; clear hb hbox hg; have hnb45 := NB105_101.out; have hnc45 := NB101_105.out; have hz46 := cellsZ2 BK105.out))
               have n0_ : Aside0 (((w44.setCell ⟨gb105, 0, none⟩ (.string ((rd_T123 l0_1 x24_2).f0))).setCell ⟨gb105, 1, none⟩ (.string ((rd_T123 l0_1 x24_2).f1))).heap[gb101]? = some (.cells #[.string a0_0, .slice (some ad104) l0_1.length c0_1, .int .i64 a0_2] 32 (0, 0))) := ⟨bkZ⟩
               have n1_ : Aside0 (((w44.setCell ⟨gb105, 0, none⟩ (.string ((rd_T123 l0_1 x24_2).f0))).setCell ⟨gb105, 1, none⟩ (.string ((rd_T123 l0_1 x24_2).f1))).heap[gb105]? = some (.cells #[.string ((rd_T123 l0_1 x24_2).f0), .string ((rd_T123 l0_1 x24_2).f1)] 123 (0, 0))) := ⟨bkZ⟩
               have n2_ : Aside0 (Below w.heap.size w ((w44.setCell ⟨gb105, 0, none⟩ (.string ((rd_T123 l0_1 x24_2).f0))).setCell ⟨gb105, 1, none⟩ (.string ((rd_T123 l0_1 x24_2).f1)))) := ⟨zcb41⟩
               (try clear BK101); (try clear BK105); (try clear HB)
               generalize ((w44.setCell ⟨gb105, 0, none⟩ (.string ((rd_T123 l0_1 x24_2).f0))).setCell ⟨gb105, 1, none⟩ (.string ((rd_T123 l0_1 x24_2).f1))) = w47 at n0_ n1_ n2_ ⊢
               have BK101 := n0_
               have BK105 := n1_
               have HB := n2_
               clear n0_ n1_ n2_
               have _ := aM (blk_drew BK101.out)
               have _ := aM (blk_drew BK105.out)
               have _ := aM (below_drew1 HB.out)
               clear BK101
               clear BK105
               clear HB
               rename_i BK101 BK105 HB
               refine sA 26 impl_GoodKey.tab6 impl_GoodKey.bits6 (fun w' => w'.cell? ⟨gb105, 0, none⟩ = some (.string ((rd_T123 l0_1 x24_2).f0)) ∧ w'.cell? ⟨gb105, 1, none⟩ = some (.string ((rd_T123 l0_1 x24_2).f1))) [] (fun hHeld HT_ HW_ => ?_)
               generalize w47.drew = w48 at BK101 BK105 HB hHeld ⊢
               refine pA 0 29 HT_ ?_; refine tA 1 30 HT_ HW_ hHeld ?_; refine oA 2 31 HT_ (fun K hK => ?_)
               refine goes_ Tryd.func92 (by kernel_rfl) rfl #[.string ((rd_T123 l0_1 x24_2).f0)] (by rfl) rfl rfl zee81 ?_
               with_reducible refine (impl_isName.calls ((rd_T123 l0_1 x24_2).f0) true _ A21.out).mono ?_
               rintro e w49 ⟨rfl, hb⟩
               refine ⟨_, rfl, ?_⟩
               have _ := bB gb101 hb
               have _ := bB gb105 hb
               have _ := aM (below_step hbZ hb)
               clear BK101
               clear BK105
               clear HB
               rename_i BK101 BK105 HB
               (try clear hb)
               refine hK.out _ _ sZ (fun hHeld => ?_)
               clear hK K
               refine nA 31 ?_; refine pA 3 32 HT_ ?_; refine pA 4 33 HT_ ?_; refine pA 5 34 HT_ ?_; refine tA 6 35 HT_ HW_ hHeld ?_; refine oA 7 36 HT_ (fun K hK => ?_)
               refine goes_ Tryd.func92 (by kernel_rfl) rfl #[.string ((rd_T123 l0_1 x24_2).f1)] (by rfl) rfl rfl zee81 ?_
               with_reducible refine (impl_isName.calls ((rd_T123 l0_1 x24_2).f1) true _ A23.out).mono ?_
               rintro e w50 ⟨rfl, hb⟩
               refine ⟨_, rfl, ?_⟩
               have _ := bB gb101 hb
               have _ := bB gb105 hb
               have _ := aM (below_step hbZ hb)
               clear BK101
               clear BK105
               clear HB
               rename_i BK101 BK105 HB
               (try clear hb)
               refine hK.out _ _ sZ (fun hHeld => ?_)
               clear hK K
               refine nA 36 ?_; refine pA 8 37 HT_ ?_; refine pA 9 38 HT_ ?_; refine pA 10 39 HT_ ?_; refine pA 11 40 HT_ ?_; refine pA 12 41 HT_ ?_; refine pA 13 42 HT_ ?_; refine uA 14 43 HT_ ?_; refine uA 15 44 HT_ ?_; refine uA 16 45 HT_ ?_; refine uA 17 46 HT_ ?_; refine uA 18 47 HT_ ?_; refine uA 19 48 HT_ ?_; refine uA 20 49 HT_ ?_; refine uA 21 50 HT_ ?_; refine uA 22 51 HT_ ?_; refine uA 23 52 HT_ ?_; refine pA 24 53 HT_ ?_; refine pA 25 54 HT_ ?_
               refine done_ (done_of HT_.out (by kernel_rfl)) ?_
               try go_wp2
               go_roundg k2
               case measure => have := HJ1.out; have := HK2.out; omega
               case rel => exact ⟨(wrap64 (x24_2 + 1)), z4458, H', ⟨by have := HJ1.out; have := HK2.out; omega⟩, ⟨bkZ⟩, ⟨zcb41⟩⟩
           · replace c24 := Bool.eq_false_iff.mpr c24
             subst c24
             rw [if_neg (show ¬ (false = true) by decide)] at H
             obtain rfl := Option.some.inj H
             have p104 : 0 ≤ (x24_2 : Int) := of_decide_eq_true z1200
             have q104 : x24_2 < (l0_1.length : Int) := of_decide_eq_true z1200
             obtain ⟨ad104, e104, hx104_0, hx104_1⟩ := at_T123 HR0_1.out x24_2 p104 q104
             cases e104
             replace hx104_0 := (HB.out.cell (World.block_lt_of_cell? w _ hx104_0)).trans hx104_0
             replace hx104_1 := (HB.out.cell (World.block_lt_of_cell? w _ hx104_1)).trans hx104_1
             replace p104 := eq_true p104
             replace q104 := eq_true q104
             try go_wp2_with (first | ((with_reducible refine gate_dst (N := 4) rfl ?_); (try (refine gate_guard (by rfl) ?_; dsimp only)); refine bX 4 123 #[.string (⟨#[]⟩ : ByteArray), .string (⟨#[]⟩ : ByteArray)] ?_; intro gb105 hg w51 hbox hb; have _ := bB gb101 hb; have _ := aM (below_step hbZ hb); have _ := aM hbox; have _ := szZ hg; have _ := szZ hg; have ⟨_, _⟩ := nbB gb101 hg; clear BK101 HB; rename_i BK101 HB BK105 GW105 GE105 NB101_105 NB105_101; clear hb hbox hg; have hnb52 := NB105_101.out; have hnc52 := NB101_105.out; have hz53 := cellsZ2 BK105.out))
             have n0_ : Aside0 (((w51.setCell ⟨gb105, 0, none⟩ (.string ((rd_T123 l0_1 x24_2).f0))).setCell ⟨gb105, 1, none⟩ (.string ((rd_T123 l0_1 x24_2).f1))).heap[gb101]? = some (.cells #[.string a0_0, .slice (some ad104) l0_1.length c0_1, .int .i64 a0_2] 32 (0, 0))) := ⟨bkZ⟩
             have n1_ : Aside0 (((w51.setCell ⟨gb105, 0, none⟩ (.string ((rd_T123 l0_1 x24_2).f0))).setCell ⟨gb105, 1, none⟩ (.string ((rd_T123 l0_1 x24_2).f1))).heap[gb105]? = some (.cells #[.string ((rd_T123 l0_1 x24_2).f0), .string ((rd_T123 l0_1 x24_2).f1)] 123 (0, 0))) := ⟨bkZ⟩
             have n2_ : Aside0 (Below w.heap.size w ((w51.setCell ⟨gb105, 0, none⟩ (.string ((rd_T123 l0_1 x24_2).f0))).setCell ⟨gb105, 1, none⟩ (.string ((rd_T123 l0_1 x24_2).f1)))) := ⟨zcb41⟩
             (try clear BK101); (try clear BK105); (try clear HB)
             generalize ((w51.setCell ⟨gb105, 0, none⟩ (.string ((rd_T123 l0_1 x24_2).f0))).setCell ⟨gb105, 1, none⟩ (.string ((rd_T123 l0_1 x24_2).f1))) = w54 at n0_ n1_ n2_ ⊢
             have BK101 := n0_
             have BK105 := n1_
             have HB := n2_
             clear n0_ n1_ n2_
             have _ := aM (blk_drew BK101.out)
             have _ := aM (blk_drew BK105.out)
             have _ := aM (below_drew1 HB.out)
             clear BK101
             clear BK105
             clear HB
             rename_i BK101 BK105 HB
             refine sA 26 impl_GoodKey.tab6 impl_GoodKey.bits6 (fun w' => w'.cell? ⟨gb105, 0, none⟩ = some (.string ((rd_T123 l0_1 x24_2).f0)) ∧ w'.cell? ⟨gb105, 1, none⟩ = some (.string ((rd_T123 l0_1 x24_2).f1))) [] (fun hHeld HT_ HW_ => ?_)
             generalize w54.drew = w55 at BK101 BK105 HB hHeld ⊢
             refine pA 0 29 HT_ ?_; refine tA 1 30 HT_ HW_ hHeld ?_; refine oA 2 31 HT_ (fun K hK => ?_)
             refine goes_ Tryd.func92 (by kernel_rfl) rfl #[.string ((rd_T123 l0_1 x24_2).f0)] (by rfl) rfl rfl zee81 ?_
             with_reducible refine (impl_isName.calls ((rd_T123 l0_1 x24_2).f0) true _ A21.out).mono ?_
             rintro e w56 ⟨rfl, hb⟩
             refine ⟨_, rfl, ?_⟩
             have _ := bB gb101 hb
             have _ := bB gb105 hb
             have _ := aM (below_step hbZ hb)
             clear BK101
             clear BK105
             clear HB
             rename_i BK101 BK105 HB
             (try clear hb)
             refine hK.out _ _ sZ (fun hHeld => ?_)
             clear hK K
             refine nA 31 ?_; refine pA 3 32 HT_ ?_; refine pA 4 33 HT_ ?_; refine pA 5 34 HT_ ?_; refine tA 6 35 HT_ HW_ hHeld ?_; refine oA 7 36 HT_ (fun K hK => ?_)
             refine goes_ Tryd.func92 (by kernel_rfl) rfl #[.string ((rd_T123 l0_1 x24_2).f1)] (by rfl) rfl rfl zee81 ?_
             with_reducible refine (impl_isName.calls ((rd_T123 l0_1 x24_2).f1) false _ A23.out).mono ?_
             rintro e w57 ⟨rfl, hb⟩
             refine ⟨_, rfl, ?_⟩
             have _ := bB gb101 hb
             have _ := bB gb105 hb
             have _ := aM (below_step hbZ hb)
             clear BK101
             clear BK105
             clear HB
             rename_i BK101 BK105 HB
             (try clear hb)
             refine hK.out _ _ sZ (fun hHeld => ?_)
             clear hK K
             refine nA 36 ?_; refine pA 8 37 HT_ ?_; refine pA 9 38 HT_ ?_; refine pA 10 39 HT_ ?_; refine uA 11 40 HT_ ?_; refine uA 12 41 HT_ ?_; refine uA 13 42 HT_ ?_; refine uA 14 43 HT_ ?_; refine uA 15 44 HT_ ?_; refine uA 16 45 HT_ ?_; refine uA 17 46 HT_ ?_; refine uA 18 47 HT_ ?_; refine uA 19 48 HT_ ?_; refine uA 20 49 HT_ ?_; refine uA 21 50 HT_ ?_; refine uA 22 51 HT_ ?_; refine uA 23 52 HT_ ?_; refine uA 24 53 HT_ ?_; refine pA 25 54 HT_ ?_
             refine done_ (done_of HT_.out (by kernel_rfl)) ?_
             try go_wp2
             go_ret
             exact ⟨z674d, zcb41⟩
         · replace c22 := Bool.eq_false_iff.mpr c22
           subst c22
           rw [if_neg (show ¬ (false = true) by decide)] at H
           obtain rfl := Option.some.inj H
           have p104 : 0 ≤ (x24_2 : Int) := of_decide_eq_true z1200
           have q104 : x24_2 < (l0_1.length : Int) := of_decide_eq_true z1200
           obtain ⟨ad104, e104, hx104_0, hx104_1⟩ := at_T123 HR0_1.out x24_2 p104 q104
           cases e104
           replace hx104_0 := (HB.out.cell (World.block_lt_of_cell? w _ hx104_0)).trans hx104_0
           replace hx104_1 := (HB.out.cell (World.block_lt_of_cell? w _ hx104_1)).trans hx104_1
           replace p104 := eq_true p104
           replace q104 := eq_true q104
           try go_wp2_with (first | ((with_reducible refine gate_dst (N := 4) rfl ?_); (try (refine gate_guard (by rfl) ?_; dsimp only)); refine bX 4 123 #[.string (⟨#[]⟩ : ByteArray), .string (⟨#[]⟩ : ByteArray)] ?_; intro gb105 hg w58 hbox hb; have _ := bB gb101 hb; have _ := aM (below_step hbZ hb); have _ := aM hbox; have _ := szZ hg; have _ := szZ hg; have ⟨_, _⟩ := nbB gb101 hg; clear BK101 HB; rename_i BK101 HB BK105 GW105 GE105 NB101_105 NB105_101; clear hb hbox hg; have hnb59 := NB105_101.out; have hnc59 := NB101_105.out; have hz60 := cellsZ2 BK105.out))
           have n0_ : Aside0 (((w58.setCell ⟨gb105, 0, none⟩ (.string ((rd_T123 l0_1 x24_2).f0))).setCell ⟨gb105, 1, none⟩ (.string ((rd_T123 l0_1 x24_2).f1))).heap[gb101]? = some (.cells #[.string a0_0, .slice (some ad104) l0_1.length c0_1, .int .i64 a0_2] 32 (0, 0))) := ⟨bkZ⟩
           have n1_ : Aside0 (((w58.setCell ⟨gb105, 0, none⟩ (.string ((rd_T123 l0_1 x24_2).f0))).setCell ⟨gb105, 1, none⟩ (.string ((rd_T123 l0_1 x24_2).f1))).heap[gb105]? = some (.cells #[.string ((rd_T123 l0_1 x24_2).f0), .string ((rd_T123 l0_1 x24_2).f1)] 123 (0, 0))) := ⟨bkZ⟩
           have n2_ : Aside0 (Below w.heap.size w ((w58.setCell ⟨gb105, 0, none⟩ (.string ((rd_T123 l0_1 x24_2).f0))).setCell ⟨gb105, 1, none⟩ (.string ((rd_T123 l0_1 x24_2).f1)))) := ⟨zcb41⟩
           (try clear BK101); (try clear BK105); (try clear HB)
           generalize ((w58.setCell ⟨gb105, 0, none⟩ (.string ((rd_T123 l0_1 x24_2).f0))).setCell ⟨gb105, 1, none⟩ (.string ((rd_T123 l0_1 x24_2).f1))) = w61 at n0_ n1_ n2_ ⊢
           have BK101 := n0_
           have BK105 := n1_
           have HB := n2_
           clear n0_ n1_ n2_
           have _ := aM (blk_drew BK101.out)
           have _ := aM (blk_drew BK105.out)
           have _ := aM (below_drew1 HB.out)
           clear BK101
           clear BK105
           clear HB
           rename_i BK101 BK105 HB
           refine sA 26 impl_GoodKey.tab6 impl_GoodKey.bits6 (fun w' => w'.cell? ⟨gb105, 0, none⟩ = some (.string ((rd_T123 l0_1 x24_2).f0)) ∧ w'.cell? ⟨gb105, 1, none⟩ = some (.string ((rd_T123 l0_1 x24_2).f1))) [] (fun hHeld HT_ HW_ => ?_)
           generalize w61.drew = w62 at BK101 BK105 HB hHeld ⊢
           refine pA 0 29 HT_ ?_; refine tA 1 30 HT_ HW_ hHeld ?_; refine oA 2 31 HT_ (fun K hK => ?_)
           refine goes_ Tryd.func92 (by kernel_rfl) rfl #[.string ((rd_T123 l0_1 x24_2).f0)] (by rfl) rfl rfl zee81 ?_
           with_reducible refine (impl_isName.calls ((rd_T123 l0_1 x24_2).f0) false _ A21.out).mono ?_
           rintro e w63 ⟨rfl, hb⟩
           refine ⟨_, rfl, ?_⟩
           have _ := bB gb101 hb
           have _ := bB gb105 hb
           have _ := aM (below_step hbZ hb)
           clear BK101
           clear BK105
           clear HB
           rename_i BK101 BK105 HB
           (try clear hb)
           refine hK.out _ _ sZ (fun hHeld => ?_)
           clear hK K
           refine nA 31 ?_; refine pA 3 32 HT_ ?_; refine pA 4 33 HT_ ?_; refine uA 5 34 HT_ ?_; refine uA 6 35 HT_ ?_; refine uA 7 36 HT_ ?_; refine uA 8 37 HT_ ?_; refine pA 9 38 HT_ ?_; refine pA 10 39 HT_ ?_; refine uA 11 40 HT_ ?_; refine uA 12 41 HT_ ?_; refine uA 13 42 HT_ ?_; refine uA 14 43 HT_ ?_; refine uA 15 44 HT_ ?_; refine uA 16 45 HT_ ?_; refine uA 17 46 HT_ ?_; refine uA 18 47 HT_ ?_; refine uA 19 48 HT_ ?_; refine uA 20 49 HT_ ?_; refine uA 21 50 HT_ ?_; refine uA 22 51 HT_ ?_; refine uA 23 52 HT_ ?_; refine uA 24 53 HT_ ?_; refine pA 25 54 HT_ ?_
           refine done_ (done_of HT_.out (by kernel_rfl)) ?_
           try go_wp2
           go_ret
           exact ⟨z674d, zcb41⟩
       · rw [if_neg c18] at H
         have c18b0 := nL c18
         clear c18
         obtain rfl := Option.some.inj H
         go_wp2
         go_ret
         exact ⟨z674d, zcb41⟩

end Go.Proofs.YtkgmoajdcibafaaDoor.P

-- written by a program of this session's (wip/pp)
namespace Go.Proofs.YtkgmoajdcibafaaDoor.P
open Go.RowKit Go.Proofs.YtkgmoajdcibafaaDoorW.PrintWords Go.Proofs.YtkgmoajdcibafaaDoorW.PrintLast Go.Proofs.YtkgmoajdcibafaaDoorW.PrintMore
attribute [local go_sem] max2_int min2_int max_two min_two max_three min_three max_four min_four str_geq str_gtr str_leq   -- for this text's walks alone
set_option linter.unusedVariables false
set_option linter.unusedSimpArgs false

/-! ### spec_l1In: function 84 -/
def spec_l1In.f (a0 : Int) (a1 : Int) (a2 : Int) : Option (Bool) := if a0 ≥ a1 then (some (decide (a0 ≤ a2))) else (some false)
set_option maxHeartbeats 8000000 in
set_option maxRecDepth 100000 in
theorem spec_l1In.calls (a0 : Int) (a1 : Int) (a2 : Int) (r : Bool) (w : World) (h : spec_l1In.f a0 a1 a2 = some r) :
 Calls Tryd.prog 84 #[.int .i64 a0, .int .i64 a1, .int .i64 a2] w fun e w' => e = .returned (.bool r) ∧ Drawn0 w w' := by
 have H : (if a0 ≥ a1 then (some (decide (a0 ≤ a2))) else (some false)) = some r := h
 clear h
 by_cases c4 : a0 ≥ a1
 · rw [if_pos c4] at H
   have c4b0 := dE c4
   clear c4
   obtain rfl := Option.some.inj H
   go_enter Tryd.func84, Tryd.ntmps84
   go_wp2
   go_ret
   exact ⟨z4458, za9de⟩
 · rw [if_neg c4] at H
   have c4b0 := nE c4
   clear c4
   obtain rfl := Option.some.inj H
   go_enter Tryd.func84, Tryd.ntmps84
   go_wp2
   go_ret
   exact ⟨z4458, za9de⟩

end Go.Proofs.YtkgmoajdcibafaaDoor.P

-- written by a program of this session's (wip/pp)
namespace Go.Proofs.YtkgmoajdcibafaaDoor.P
open Go.RowKit Go.Proofs.YtkgmoajdcibafaaDoorW.PrintWords Go.Proofs.YtkgmoajdcibafaaDoorW.PrintLast Go.Proofs.YtkgmoajdcibafaaDoorW.PrintMore
attribute [local go_sem] max2_int min2_int max_two min_two max_three min_three max_four min_four str_geq str_gtr str_leq   -- for this text's walks alone
set_option linter.unusedVariables false
set_option linter.unusedSimpArgs false

/-! ### spec_l1Name: function 86 -/
def spec_l1Name.l0 : Nat → ByteArray → Int → Option (Bool)
 | 0, _, _ => none
 | k + 1, x0, x3 => if x3 < (x0.size : Int) then (if 0 ≤ x3 then (if (bt x0 x3) ≥ 97 then (if (bt x0 x3) ≤ 122 then (spec_l1Name.l0 k x0 (wrap64 (x3 + 1))) else (if (bt x0 x3) ≥ 65 then (if ((bt x0 x3) ≤ 90) then (spec_l1Name.l0 k x0 (wrap64 (x3 + 1))) else (some false)) else (some false))) else (if (bt x0 x3) ≥ 65 then (if ((bt x0 x3) ≤ 90) then (spec_l1Name.l0 k x0 (wrap64 (x3 + 1))) else (some false)) else (some false))) else (none)) else (some true)
def spec_l1Name.f (k : Nat) (a0 : ByteArray) : Option (Bool) := (spec_l1In.f (a0.size : Int) 1 12).bind fun t101 => (if t101 = true then (spec_l1Name.l0 k a0 0) else (some false))
theorem spec_l1Name.mono_l : ∀ k, (∀ y0 y1, LeO (spec_l1Name.l0 k y0 y1) (spec_l1Name.l0 (k + 1) y0 y1))
 | 0 => fun _ _ r h => by simp [spec_l1Name.l0] at h
 | k + 1 => by
  have ih0 := spec_l1Name.mono_l k
  · intro y0 y1
    unfold spec_l1Name.l0
    exact moZ
theorem spec_l1Name.mono : ∀ a0 k, LeO (spec_l1Name.f k a0) (spec_l1Name.f (k + 1) a0) := by
 intro a0 k
 have ih0 := spec_l1Name.mono_l k
 unfold spec_l1Name.f
 exact moZ
set_option maxHeartbeats 8000000 in
set_option maxRecDepth 100000 in
theorem spec_l1Name.calls (k : Nat) (a0 : ByteArray) (r : Bool) (w : World) (h : spec_l1Name.f k a0 = some r) :
 Calls Tryd.prog 86 #[.string a0] w fun e w' => e = .returned (.bool r) ∧ Drawn0 w w' := by
 have H : ((spec_l1In.f (a0.size : Int) 1 12).bind fun t101 => (if t101 = true then (spec_l1Name.l0 k a0 0) else (some false))) = some r := h
 clear h
 obtain ⟨t101, A2, H⟩ := bS H; try dsimp only at H
 by_cases c3 : t101 = true
 · subst c3
   rw [if_pos rfl] at H
   have H' := aM H
   clear H
   go_enter Tryd.func86, Tryd.ntmps86
   go_wp2_with (first | ((with_reducible refine gate_callee (f := 84) rfl ?_); refine gL 7 Tryd.func84 #[.int .i64 (a0.size : Int), .int .i64 1, .int .i64 12] ?_; (with_reducible refine (spec_l1In.calls (a0.size : Int) 1 12 true _ A2.out).mono ?_); rintro e w' ⟨rfl, ⟨nd, rfl⟩⟩; refine ⟨_, rfl, ?_⟩))
   go_loopg [3] k (fun kq v3 w' => ∃ (x3_1 : Int), v3 = .int .i64 x3_1 ∧ Aside0 (spec_l1Name.l0 kq a0 x3_1 = some r) ∧ Aside0 (kq ≤ k) ∧ Drawn0 w w')
   case atStart => exact ⟨(0), z4458, H', ⟨Nat.le_refl _⟩, za9de⟩
   case round =>
    clear H'
    (try clear c3)
    obtain ⟨x3_1, rfl, HA, HK1, ⟨m1, rfl⟩⟩ := hrel
    cases gk with
    | zero => exact absurd HA.out (by simp [spec_l1Name.l0])
    | succ k1 =>
     have H := HA.out
     clear HA
     simp only [spec_l1Name.l0] at H
     by_cases c4 : x3_1 < (a0.size : Int)
     · rw [if_pos c4] at H
       have c4b0 := dL c4
       clear c4
       obtain ⟨c5b0, H⟩ := sE H
       by_cases c7 : (bt a0 x3_1) ≥ 97
       · rw [if_pos c7] at H
         have c7b0 := dE c7
         clear c7
         by_cases c8 : (bt a0 x3_1) ≤ 122
         · rw [if_pos c8] at H
           have c8b0 := dE c8
           clear c8
           have H' := aM H
           clear H
           have p6 : 0 ≤ (x3_1 : Int) := of_decide_eq_true z1200
           have q6 : x3_1 < (a0.size : Int) := of_decide_eq_true z1200
           have hx6 := bt_at a0 x3_1
           replace p6 := eq_true p6
           replace q6 := eq_true q6
           go_wp2
           go_roundg k1
           case measure => have := HK1.out; omega
           case rel => exact ⟨(wrap64 (x3_1 + 1)), z4458, H', ⟨zfb39⟩, za9de⟩
         · rw [if_neg c8] at H
           have c8b0 := nE c8
           clear c8
           by_cases c9 : (bt a0 x3_1) ≥ 65
           · rw [if_pos c9] at H
             have c9b0 := dE c9
             clear c9
             by_cases c10 : ((bt a0 x3_1) ≤ 90)
             · rw [if_pos c10] at H
               have c10b0 := dE c10
               clear c10
               have H' := aM H
               clear H
               have p6 : 0 ≤ (x3_1 : Int) := of_decide_eq_true z1200
               have q6 : x3_1 < (a0.size : Int) := of_decide_eq_true z1200
               have hx6 := bt_at a0 x3_1
               replace p6 := eq_true p6
               replace q6 := eq_true q6
               go_wp2
               go_roundg k1
               case measure => have := HK1.out; omega
               case rel => exact ⟨(wrap64 (x3_1 + 1)), z4458, H', ⟨zfb39⟩, za9de⟩
             · rw [if_neg c10] at H
               have c10b0 := nE c10
               clear c10
               obtain rfl := Option.some.inj H
               have p6 : 0 ≤ (x3_1 : Int) := of_decide_eq_true z1200
               have q6 : x3_1 < (a0.size : Int) := of_decide_eq_true z1200
               have hx6 := bt_at a0 x3_1
               replace p6 := eq_true p6
               replace q6 := eq_true q6
               go_wp2
               go_ret
               exact ⟨z4458, za9de⟩
           · rw [if_neg c9] at H
             have c9b0 := nE c9
             clear c9
             obtain rfl := Option.some.inj H
             have p6 : 0 ≤ (x3_1 : Int) := of_decide_eq_true z1200
             have q6 : x3_1 < (a0.size : Int) := of_decide_eq_true z1200
             have hx6 := bt_at a0 x3_1
             replace p6 := eq_true p6
             replace q6 := eq_true q6
             go_wp2
             go_ret
             exact ⟨z4458, za9de⟩
       · rw [if_neg c7] at H
         have c7b0 := nE c7
         clear c7
         by_cases c11 : (bt a0 x3_1) ≥ 65
         · rw [if_pos c11] at H
           have c11b0 := dE c11
           clear c11
           by_cases c12 : ((bt a0 x3_1) ≤ 90)
           · rw [if_pos c12] at H
             have c12b0 := dE c12
             clear c12
             have H' := aM H
             clear H
             have p6 : 0 ≤ (x3_1 : Int) := of_decide_eq_true z1200
             have q6 : x3_1 < (a0.size : Int) := of_decide_eq_true z1200
             have hx6 := bt_at a0 x3_1
             replace p6 := eq_true p6
             replace q6 := eq_true q6
             go_wp2
             go_roundg k1
             case measure => have := HK1.out; omega
             case rel => exact ⟨(wrap64 (x3_1 + 1)), z4458, H', ⟨zfb39⟩, za9de⟩
           · rw [if_neg c12] at H
             have c12b0 := nE c12
             clear c12
             obtain rfl := Option.some.inj H
             have p6 : 0 ≤ (x3_1 : Int) := of_decide_eq_true z1200
             have q6 : x3_1 < (a0.size : Int) := of_decide_eq_true z1200
             have hx6 := bt_at a0 x3_1
             replace p6 := eq_true p6
             replace q6 := eq_true q6
             go_wp2
             go_ret
             exact ⟨z4458, za9de⟩
         · rw [if_neg c11] at H
           have c11b0 := nE c11
           clear c11
           obtain rfl := Option.some.inj H
           have p6 : 0 ≤ (x3_1 : Int) := of_decide_eq_true z1200
           have q6 : x3_1 < (a0.size : Int) := of_decide_eq_true z1200
           have hx6 := bt_at a0 x3_1
           replace p6 := eq_true p6
           replace q6 := eq_true q6
           go_wp2
           go_ret
           exact ⟨z4458, za9de⟩
     · rw [if_neg c4] at H
       have c4b0 := nL c4
       clear c4
       obtain rfl := Option.some.inj H
       go_wp2
       go_ret
       exact ⟨z4458, za9de⟩
 · replace c3 := Bool.eq_false_iff.mpr c3
   subst c3
   rw [if_neg (show ¬ (false = true) by decide)] at H
   obtain rfl := Option.some.inj H
   go_enter Tryd.func86, Tryd.ntmps86
   go_wp2_with (first | ((with_reducible refine gate_callee (f := 84) rfl ?_); refine gL 7 Tryd.func84 #[.int .i64 (a0.size : Int), .int .i64 1, .int .i64 12] ?_; (with_reducible refine (spec_l1In.calls (a0.size : Int) 1 12 false _ A2.out).mono ?_); rintro e w' ⟨rfl, ⟨nd, rfl⟩⟩; refine ⟨_, rfl, ?_⟩))
   go_ret
   exact ⟨z4458, za9de⟩

end Go.Proofs.YtkgmoajdcibafaaDoor.P

-- written by a program of this session's (wip/pp)
namespace Go.Proofs.YtkgmoajdcibafaaDoor.P
open Go.RowKit Go.Proofs.YtkgmoajdcibafaaDoorW.PrintWords Go.Proofs.YtkgmoajdcibafaaDoorW.PrintLast Go.Proofs.YtkgmoajdcibafaaDoorW.PrintMore
attribute [local go_sem] max2_int min2_int max_two min_two max_three min_three max_four min_four str_geq str_gtr str_leq   -- for this text's walks alone
set_option linter.unusedVariables false
set_option linter.unusedSimpArgs false

/-! ### spec_GoodKey: function 41 -/
mutual
def spec_GoodKey.j0 : Nat → Bool → ByteArray → List (S123) → Int → Option (Bool)
 | 0, _, _, _, _ => none
 | k + 1, x20, x102000, x102001, x102002 => if x20 = true then (some false) else (spec_GoodKey.l0 k x102001 (x102001.length : Int) 0 x102000 x102001 x102002)
def spec_GoodKey.l0 : Nat → List (S123) → Int → Int → ByteArray → List (S123) → Int → Option (Bool)
 | 0, _, _, _, _, _, _ => none
 | k + 1, x22, x23, x24, x102000, x102001, x102002 => if x24 < x23 then (if 0 ≤ x24 then (if x24 < (x22.length : Int) then ((spec_l1Name.f k ((rd_T123 x22 x24).f0)).bind fun t106 => (if t106 = true then ((spec_l1Name.f k ((rd_T123 x22 x24).f1)).bind fun t107 => (if t107 = true then (if x24 > 0 then (if 0 ≤ (wrap64 (x24 - 1)) then (if (wrap64 (x24 - 1)) < (x102001.length : Int) then (if ((Op.bytesLess (((rd_T123 x102001 (wrap64 (x24 - 1))).f0).toList) (((rd_T123 x22 x24).f0).toList)) = true) then (spec_GoodKey.l0 k x22 x23 (wrap64 (x24 + 1)) x102000 x102001 x102002) else (some false)) else (none)) else (none)) else (spec_GoodKey.l0 k x22 x23 (wrap64 (x24 + 1)) x102000 x102001 x102002)) else (some false))) else (some false))) else (none)) else (none)) else (some true)
end
def spec_GoodKey.f (k : Nat) (a0_0 : ByteArray) (l0_1 : List (S123)) (a0_2 : Int) : Option (Bool) := (spec_l1Name.f k a0_0).bind fun t102 => (if t102 = true then (if (l0_1.length : Int) > 4 then (spec_GoodKey.j0 k true a0_0 l0_1 a0_2) else ((spec_l1In.f a0_2 0 1000000000).bind fun t103 => (spec_GoodKey.j0 k (!t103) a0_0 l0_1 a0_2))) else (spec_GoodKey.j0 k true a0_0 l0_1 a0_2))
theorem spec_GoodKey.mono_l : ∀ k, (∀ y0 y1 y2 y3, LeO (spec_GoodKey.j0 k y0 y1 y2 y3) (spec_GoodKey.j0 (k + 1) y0 y1 y2 y3)) ∧ (∀ y0 y1 y2 y3 y4 y5, LeO (spec_GoodKey.l0 k y0 y1 y2 y3 y4 y5) (spec_GoodKey.l0 (k + 1) y0 y1 y2 y3 y4 y5))
 | 0 => ⟨fun _ _ _ _ r h => by simp [spec_GoodKey.j0] at h, fun _ _ _ _ _ _ r h => by simp [spec_GoodKey.l0] at h⟩
 | k + 1 => by
  obtain ⟨ih0, ih1⟩ := spec_GoodKey.mono_l k; have m0 := @spec_l1Name.mono
  refine ⟨?_, ?_⟩
  · intro y0 y1 y2 y3
    unfold spec_GoodKey.j0
    exact moZ
  · intro y0 y1 y2 y3 y4 y5
    unfold spec_GoodKey.l0
    exact moZ
theorem spec_GoodKey.mono : ∀ a0 a1 a2 k, LeO (spec_GoodKey.f k a0 a1 a2) (spec_GoodKey.f (k + 1) a0 a1 a2) := by
 intro a0 a1 a2 k
 obtain ⟨ih0, ih1⟩ := spec_GoodKey.mono_l k
 have m0 := @spec_l1Name.mono
 unfold spec_GoodKey.f
 exact moZ
set_option maxHeartbeats 8000000 in
set_option maxRecDepth 100000 in
theorem spec_GoodKey.calls (k : Nat) (a0_0 : ByteArray) (A0_1 : Option Addr) (c0_1 : Nat) (l0_1 : List (S123)) (a0_2 : Int) (r : Bool) (w : World) (hr0_1 : Kd.C k123 w A0_1 l0_1.length l0_1) (hc0_1 : l0_1.length ≤ c0_1) (h : spec_GoodKey.f k a0_0 l0_1 a0_2 = some r) :
 Calls Tryd.prog 41 #[.agg #[.string a0_0, .slice A0_1 l0_1.length c0_1, .int .i64 a0_2]] w fun e w' => e = .returned (.bool r) ∧ Below w.heap.size w w' := by
 have hu32 := Tryd.underlying32
 have hu123 := Tryd.underlying123
 have HR0_1 := aM hr0_1
 have HC0_1 := aM hc0_1
 clear hr0_1 hc0_1
 have HB := aM (Below.refl w.heap.size w)
 have H : ((spec_l1Name.f k a0_0).bind fun t102 => (if t102 = true then (if (l0_1.length : Int) > 4 then (spec_GoodKey.j0 k true a0_0 l0_1 a0_2) else ((spec_l1In.f a0_2 0 1000000000).bind fun t103 => (spec_GoodKey.j0 k (!t103) a0_0 l0_1 a0_2))) else (spec_GoodKey.j0 k true a0_0 l0_1 a0_2))) = some r := h
 clear h
 have HC2 := aM H
 clear H
 go_enter Tryd.func41, Tryd.ntmps41
 go_upto_region 1 with (first | ((with_reducible refine gate_dst (N := 1) rfl ?_); (try (refine gate_guard (by rfl) ?_; dsimp only)); refine bX 1 32 #[.string a0_0, .slice A0_1 l0_1.length c0_1, .int .i64 a0_2] ?_; intro gb101 hg w3 hbox hb; have _ := aM (below_step hbZ hb); have _ := aM hbox; have _ := szZ hg; have _ := szZ hg; clear HB; rename_i HB BK101 GW101 GE101; clear hb hbox hg))
 repeat (go_quiet (first | ((with_reducible refine gate_dst (N := 1) rfl ?_); (try (refine gate_guard (by rfl) ?_; dsimp only)); refine bX 1 32 #[.string a0_0, .slice A0_1 l0_1.length c0_1, .int .i64 a0_2] ?_; intro gb101 hg w3 hbox hb; have _ := aM (below_step hbZ hb); have _ := aM hbox; have _ := szZ hg; have _ := szZ hg; clear HB; rename_i HB BK101 GW101 GE101; clear hb hbox hg)); go_upto_region 1 with (first | ((with_reducible refine gate_dst (N := 1) rfl ?_); (try (refine gate_guard (by rfl) ?_; dsimp only)); refine bX 1 32 #[.string a0_0, .slice A0_1 l0_1.length c0_1, .int .i64 a0_2] ?_; intro gb101 hg w3 hbox hb; have _ := aM (below_step hbZ hb); have _ := aM hbox; have _ := szZ hg; have _ := szZ hg; clear HB; rename_i HB BK101 GW101 GE101; clear hb hbox hg)))
 (try simp only [Act.put, List.setIfInBounds_toArray, List.set_cons_zero, List.set_cons_succ])
 go_cut [20] (fun v20 wc => ∃ (kq : Nat) (x20_1 : Bool), v20 = .bool x20_1 ∧ Aside0 (spec_GoodKey.j0 kq x20_1 a0_0 l0_1 a0_2 = some r) ∧ Aside0 (kq ≤ k) ∧ Aside0 (wc.heap[gb101]? = some (.cells #[.string a0_0, (.slice A0_1 l0_1.length c0_1), .int .i64 a0_2] 32 (0, 0))) ∧ Aside0 (Below w.heap.size w wc))
 case first =>
  have H := HC2.out
  clear HC2
  obtain ⟨t102, A4, H⟩ := bS H; try dsimp only at H
  by_cases c5 : t102 = true
  · subst c5
    rw [if_pos rfl] at H
    by_cases c6 : (l0_1.length : Int) > 4
    · rw [if_pos c6] at H
      have c6b0 : decide (4 < (l0_1.length : Int)) = true := decide_eq_true c6
      have c6b1 : decide (4 < l0_1.length) = true := decide_eq_true (by omega)
      clear c6
      (first | rw [c6b0] | (simp only [i64_w, i32_w]; rw [c6b0]) | skip)
      have H' := aM H
      clear H
      have hz7 := cellsZ3 BK101.out
      go_wp2_with (first | (go_at_call 86; (with_reducible refine (spec_l1Name.calls k a0_0 true _ A4.out).mono ?_); rintro e w' ⟨rfl, ⟨nd, rfl⟩⟩; (try first | exact ⟨rfl, _, World.drewN_drewN _ _ _⟩ | exact ⟨rfl, _, Eq.trans (World.drewN_drewN _ _ _) (congrArg (World.drewN _) (Nat.add_assoc _ _ _))⟩)))
      repeat (go_quiet (first | (go_at_call 86; (with_reducible refine (spec_l1Name.calls k a0_0 true _ A4.out).mono ?_); rintro e w' ⟨rfl, ⟨nd, rfl⟩⟩; (try first | exact ⟨rfl, _, World.drewN_drewN _ _ _⟩ | exact ⟨rfl, _, Eq.trans (World.drewN_drewN _ _ _) (congrArg (World.drewN _) (Nat.add_assoc _ _ _))⟩))); try go_wp2_with (first | (go_at_call 86; (with_reducible refine (spec_l1Name.calls k a0_0 true _ A4.out).mono ?_); rintro e w' ⟨rfl, ⟨nd, rfl⟩⟩; (try first | exact ⟨rfl, _, World.drewN_drewN _ _ _⟩ | exact ⟨rfl, _, Eq.trans (World.drewN_drewN _ _ _) (congrArg (World.drewN _) (Nat.add_assoc _ _ _))⟩))))
      go_meet
      case rel => exact ⟨_, (true), z4458, H', ⟨zb79b⟩, ⟨bkZ⟩, ⟨zcb41⟩⟩
    · rw [if_neg c6] at H
      have c6b0 : decide (4 < (l0_1.length : Int)) = false := decide_eq_false c6
      have c6b1 : decide (4 < l0_1.length) = false := decide_eq_false (by omega)
      clear c6
      (first | rw [c6b0] | (simp only [i64_w, i32_w]; rw [c6b0]) | skip)
      obtain ⟨t103, A8, H⟩ := bS H; try dsimp only at H
      have H' := aM H
      clear H
      have hz9 := cellsZ3 BK101.out
      go_wp2_with (first | (go_at_call 86; (with_reducible refine (spec_l1Name.calls k a0_0 true _ A4.out).mono ?_); rintro e w' ⟨rfl, ⟨nd, rfl⟩⟩; (try first | exact ⟨rfl, _, World.drewN_drewN _ _ _⟩ | exact ⟨rfl, _, Eq.trans (World.drewN_drewN _ _ _) (congrArg (World.drewN _) (Nat.add_assoc _ _ _))⟩)) | (go_at_call 84; (with_reducible refine (spec_l1In.calls a0_2 0 1000000000 t103 _ A8.out).mono ?_); rintro e w' ⟨rfl, ⟨nd, rfl⟩⟩; (try first | exact ⟨rfl, _, World.drewN_drewN _ _ _⟩ | exact ⟨rfl, _, Eq.trans (World.drewN_drewN _ _ _) (congrArg (World.drewN _) (Nat.add_assoc _ _ _))⟩)))
      repeat (go_quiet (first | (go_at_call 86; (with_reducible refine (spec_l1Name.calls k a0_0 true _ A4.out).mono ?_); rintro e w' ⟨rfl, ⟨nd, rfl⟩⟩; (try first | exact ⟨rfl, _, World.drewN_drewN _ _ _⟩ | exact ⟨rfl, _, Eq.trans (World.drewN_drewN _ _ _) (congrArg (World.drewN _) (Nat.add_assoc _ _ _))⟩)) | (go_at_call 84; (with_reducible refine (spec_l1In.calls a0_2 0 1000000000 t103 _ A8.out).mono ?_); rintro e w' ⟨rfl, ⟨nd, rfl⟩⟩; (try first | exact ⟨rfl, _, World.drewN_drewN _ _ _⟩ | exact ⟨rfl, _, Eq.trans (World.drewN_drewN _ _ _) (congrArg (World.drewN _) (Nat.add_assoc _ _ _))⟩))); try go_wp2_with (first | (go_at_call 86; (with_reducible refine (spec_l1Name.calls k a0_0 true _ A4.out).mono ?_); rintro e w' ⟨rfl, ⟨nd, rfl⟩⟩; (try first | exact ⟨rfl, _, World.drewN_drewN _ _ _⟩ | exact ⟨rfl, _, Eq.trans (World.drewN_drewN _ _ _) (congrArg (World.drewN _) (Nat.add_assoc _ _ _))⟩)) | (go_at_call 84; (with_reducible refine (spec_l1In.calls a0_2 0 1000000000 t103 _ A8.out).mono ?_); rintro e w' ⟨rfl, ⟨nd, rfl⟩⟩; (try first | exact ⟨rfl, _, World.drewN_drewN _ _ _⟩ | exact ⟨rfl, _, Eq.trans (World.drewN_drewN _ _ _) (congrArg (World.drewN _) (Nat.add_assoc _ _ _))⟩))))
      go_meet
      case rel => exact ⟨_, (!t103), z4458, H', ⟨zb79b⟩, ⟨bkZ⟩, ⟨zcb41⟩⟩
  · replace c5 := Bool.eq_false_iff.mpr c5
    subst c5
    rw [if_neg (show ¬ (false = true) by decide)] at H
    have H' := aM H
    clear H
    have hz10 := cellsZ3 BK101.out
    go_wp2_with (first | (go_at_call 86; (with_reducible refine (spec_l1Name.calls k a0_0 false _ A4.out).mono ?_); rintro e w' ⟨rfl, ⟨nd, rfl⟩⟩; (try first | exact ⟨rfl, _, World.drewN_drewN _ _ _⟩ | exact ⟨rfl, _, Eq.trans (World.drewN_drewN _ _ _) (congrArg (World.drewN _) (Nat.add_assoc _ _ _))⟩)))
    repeat (go_quiet (first | (go_at_call 86; (with_reducible refine (spec_l1Name.calls k a0_0 false _ A4.out).mono ?_); rintro e w' ⟨rfl, ⟨nd, rfl⟩⟩; (try first | exact ⟨rfl, _, World.drewN_drewN _ _ _⟩ | exact ⟨rfl, _, Eq.trans (World.drewN_drewN _ _ _) (congrArg (World.drewN _) (Nat.add_assoc _ _ _))⟩))); try go_wp2_with (first | (go_at_call 86; (with_reducible refine (spec_l1Name.calls k a0_0 false _ A4.out).mono ?_); rintro e w' ⟨rfl, ⟨nd, rfl⟩⟩; (try first | exact ⟨rfl, _, World.drewN_drewN _ _ _⟩ | exact ⟨rfl, _, Eq.trans (World.drewN_drewN _ _ _) (congrArg (World.drewN _) (Nat.add_assoc _ _ _))⟩))))
    go_meet
    case rel => exact ⟨_, (true), z4458, H', ⟨zb79b⟩, ⟨bkZ⟩, ⟨zcb41⟩⟩
 case rest =>
  clear HC2
  obtain ⟨kq, x20_1, rfl, HA, HJ1, BK101, HB⟩ := hcut
  cases kq with
  | zero => exact absurd HA.out (by simp [spec_GoodKey.j0])
  | succ kj1 =>
   have H := HA.out
   clear HA
   simp only [spec_GoodKey.j0] at H
   by_cases c11 : x20_1 = true
   · subst c11
     rw [if_pos rfl] at H
     obtain rfl := Option.some.inj H
     go_wp2
     repeat (go_quiet (fail); try go_wp2)
     go_ret
     exact ⟨z674d, zcb41⟩
   · replace c11 := Bool.eq_false_iff.mpr c11
     subst c11
     rw [if_neg (show ¬ (false = true) by decide)] at H
     have H' := aM H
     clear H
     have hz12 := cellsZ3 BK101.out
     go_wp2
     repeat (go_quiet (fail); try go_wp2)
     go_loopg [24] kj1 (fun kq v24 w' => ∃ (x24_2 : Int), v24 = .int .i64 x24_2 ∧ Aside0 (spec_GoodKey.l0 kq l0_1 (l0_1.length : Int) x24_2 a0_0 l0_1 a0_2 = some r) ∧ Aside0 (kq ≤ kj1) ∧ Aside0 (w'.heap[gb101]? = some (.cells #[.string a0_0, (.slice A0_1 l0_1.length c0_1), .int .i64 a0_2] 32 (0, 0))) ∧ Aside0 (Below w.heap.size w w'))
     case atStart => exact ⟨(0), z4458, H', ⟨Nat.le_refl _⟩, ⟨bkZ⟩, ⟨zcb41⟩⟩
     case round =>
      clear H'
      (try clear c11); (try clear hz12)
      obtain ⟨x24_2, rfl, HA, HK2, BK101, HB⟩ := hrel
      cases gk with
      | zero => exact absurd HA.out (by simp [spec_GoodKey.l0])
      | succ k2 =>
       have H := HA.out
       clear HA
       simp only [spec_GoodKey.l0] at H
       by_cases c13 : x24_2 < (l0_1.length : Int)
       · rw [if_pos c13] at H
         have c13b0 := dL c13
         clear c13
         obtain ⟨c14b0, H⟩ := sE H
         obtain ⟨c15b0, H⟩ := sL H
         obtain ⟨t106, A16, H⟩ := bS H; try dsimp only at H
         by_cases c17 : t106 = true
         · subst c17
           rw [if_pos rfl] at H
           obtain ⟨t107, A18, H⟩ := bS H; try dsimp only at H
           by_cases c19 : t107 = true
           · subst c19
             rw [if_pos rfl] at H
             by_cases c20 : x24_2 > 0
             · rw [if_pos c20] at H
               have c20b0 := dL c20
               clear c20
               obtain ⟨ji21, hji21⟩ : ∃ j_ : Int, (wrap64 (x24_2 - 1)) = j_ := ⟨_, rfl⟩
               replace H : (if 0 ≤ (ji21) then (if (ji21) < (l0_1.length : Int) then (if ((Op.bytesLess (((rd_T123 l0_1 (ji21)).f0).toList) (((rd_T123 l0_1 x24_2).f0).toList)) = true) then (spec_GoodKey.l0 k2 l0_1 (l0_1.length : Int) (wrap64 (x24_2 + 1)) a0_0 l0_1 a0_2) else (some false)) else (none)) else (none)) = some r := by first | (rw [hji21] at H; exact H) | (simp only [hji21] at H ⊢; exact H)
               (try rw [hji21] at A16)
               (try rw [hji21] at A18)
               have hji21w : (IntKind.i64.wrap (x24_2 - 1)) = ji21 := (i64_w _).trans hji21
               obtain ⟨c22b0, H⟩ := sE H
               obtain ⟨c23b0, H⟩ := sL H
               by_cases c24 : ((Op.bytesLess (((rd_T123 l0_1 (ji21)).f0).toList) (((rd_T123 l0_1 x24_2).f0).toList)) = true)
               · rw [if_pos c24] at H
                 have c24b0 : (Op.bytesLess (((rd_T123 l0_1 (ji21)).f0).toList) (((rd_T123 l0_1 x24_2).f0).toList)) = true := c24
                 clear c24
                 have H' := aM H
                 clear H
                 have p104 : 0 ≤ (x24_2 : Int) := of_decide_eq_true z1200
                 have q104 : x24_2 < (l0_1.length : Int) := of_decide_eq_true z1200
                 obtain ⟨ad104, e104, hx104_0, hx104_1⟩ := at_T123 HR0_1.out x24_2 p104 q104
                 cases e104
                 replace hx104_0 := (HB.out.cell (World.block_lt_of_cell? w _ hx104_0)).trans hx104_0
                 replace hx104_1 := (HB.out.cell (World.block_lt_of_cell? w _ hx104_1)).trans hx104_1
                 replace p104 := eq_true p104
                 replace q104 := eq_true q104
                 go_wp2_with (first | ((with_reducible refine gate_dst (N := 4) rfl ?_); (try (refine gate_guard (by rfl) ?_; dsimp only)); refine bX 4 123 #[.string (⟨#[]⟩ : ByteArray), .string (⟨#[]⟩ : ByteArray)] ?_; intro gb105 hg w25 hbox hb; have _ := bB gb101 hb; have _ := aM (below_step hbZ hb); have _ := aM hbox; have _ := szZ hg; have _ := szZ hg; have ⟨_, _⟩ := nbB gb101 hg; clear BK101 HB; rename_i BK101 HB BK105 GW105 GE105 NB101_105 NB105_101; clear hb hbox hg; have hnb26 := NB105_101.out; have hnc26 := NB101_105.out; have hz27 := cellsZ2 BK105.out) | (go_at_call 86; (with_reducible refine (spec_l1Name.calls k2 ((rd_T123 l0_1 x24_2).f0) true _ A16.out).mono ?_); rintro e w' ⟨rfl, ⟨nd, rfl⟩⟩; (try first | exact ⟨rfl, _, World.drewN_drewN _ _ _⟩ | exact ⟨rfl, _, Eq.trans (World.drewN_drewN _ _ _) (congrArg (World.drewN _) (Nat.add_assoc _ _ _))⟩)) | (go_at_call 86; (with_reducible refine (spec_l1Name.calls k2 ((rd_T123 l0_1 x24_2).f1) true _ A18.out).mono ?_); rintro e w' ⟨rfl, ⟨nd, rfl⟩⟩; (try first | exact ⟨rfl, _, World.drewN_drewN _ _ _⟩ | exact ⟨rfl, _, Eq.trans (World.drewN_drewN _ _ _) (congrArg (World.drewN _) (Nat.add_assoc _ _ _))⟩); have hz28 := cellsZ3 BK101.out; have p108 : 0 ≤ ((ji21) : Int) := of_decide_eq_true z1200; have q108 : (ji21) < (l0_1.length : Int) := of_decide_eq_true z1200; obtain ⟨ad108, e108, hx108_0, hx108_1⟩ := at_T123 HR0_1.out (ji21) p108 q108; obtain rfl : ad104 = ad108 := (by injection e108); have hn108_0 : ad104.block ≠ gb105 := Nat.ne_of_lt (Nat.lt_of_lt_of_le (by have := World.block_lt_of_cell? _ _ hx108_0; first | rwa [add_block] at this | exact this) GW105.out); have hn108_1 : ad104.block ≠ gb105 := Nat.ne_of_lt (Nat.lt_of_lt_of_le (by have := World.block_lt_of_cell? _ _ hx108_0; first | rwa [add_block] at this | exact this) GW105.out); replace hx108_0 := (HB.out.cell (World.block_lt_of_cell? w _ hx108_0)).trans hx108_0; replace hx108_1 := (HB.out.cell (World.block_lt_of_cell? w _ hx108_1)).trans hx108_1; replace hx108_0 := (cell_far (p := ⟨gb105, 0, none⟩) (by first | (rw [add_block]; exact hn108_0) | (show (Addr.add _ _).block ≠ _; rw [add_block]; exact hn108_0) | exact hn108_0) (.string ((rd_T123 l0_1 x24_2).f0))).trans hx108_0; replace hx108_1 := (cell_far (p := ⟨gb105, 0, none⟩) (by first | (rw [add_block]; exact hn108_0) | (show (Addr.add _ _).block ≠ _; rw [add_block]; exact hn108_0) | exact hn108_0) (.string ((rd_T123 l0_1 x24_2).f0))).trans hx108_1; replace hx108_0 := (cell_far (p := ⟨gb105, 1, none⟩) (by first | (rw [add_block]; exact hn108_1) | (show (Addr.add _ _).block ≠ _; rw [add_block]; exact hn108_1) | exact hn108_1) (.string ((rd_T123 l0_1 x24_2).f1))).trans hx108_0; replace hx108_1 := (cell_far (p := ⟨gb105, 1, none⟩) (by first | (rw [add_block]; exact hn108_1) | (show (Addr.add _ _).block ≠ _; rw [add_block]; exact hn108_1) | exact hn108_1) (.string ((rd_T123 l0_1 x24_2).f1))).trans hx108_1; (try have hy108_0 := fun (n_ : Nat) => (show ((((w25.drewN n_).setCell ⟨gb105, 0, none⟩ (.string ((rd_T123 l0_1 x24_2).f0))).setCell ⟨gb105, 1, none⟩ (.string ((rd_T123 l0_1 x24_2).f1)))).cell? _ = some _ from hx108_0)); (try have hy108_1 := fun (n_ : Nat) => (show ((((w25.drewN n_).setCell ⟨gb105, 0, none⟩ (.string ((rd_T123 l0_1 x24_2).f0))).setCell ⟨gb105, 1, none⟩ (.string ((rd_T123 l0_1 x24_2).f1)))).cell? _ = some _ from hx108_1)); clear hn108_0 hn108_1; replace p108 := eq_true p108; replace q108 := eq_true q108))
                 repeat (go_quiet (first | ((with_reducible refine gate_dst (N := 4) rfl ?_); (try (refine gate_guard (by rfl) ?_; dsimp only)); refine bX 4 123 #[.string (⟨#[]⟩ : ByteArray), .string (⟨#[]⟩ : ByteArray)] ?_; intro gb105 hg w25 hbox hb; have _ := bB gb101 hb; have _ := aM (below_step hbZ hb); have _ := aM hbox; have _ := szZ hg; have _ := szZ hg; have ⟨_, _⟩ := nbB gb101 hg; clear BK101 HB; rename_i BK101 HB BK105 GW105 GE105 NB101_105 NB105_101; clear hb hbox hg; have hnb26 := NB105_101.out; have hnc26 := NB101_105.out; have hz27 := cellsZ2 BK105.out) | (go_at_call 86; (with_reducible refine (spec_l1Name.calls k2 ((rd_T123 l0_1 x24_2).f0) true _ A16.out).mono ?_); rintro e w' ⟨rfl, ⟨nd, rfl⟩⟩; (try first | exact ⟨rfl, _, World.drewN_drewN _ _ _⟩ | exact ⟨rfl, _, Eq.trans (World.drewN_drewN _ _ _) (congrArg (World.drewN _) (Nat.add_assoc _ _ _))⟩)) | (go_at_call 86; (with_reducible refine (spec_l1Name.calls k2 ((rd_T123 l0_1 x24_2).f1) true _ A18.out).mono ?_); rintro e w' ⟨rfl, ⟨nd, rfl⟩⟩; (try first | exact ⟨rfl, _, World.drewN_drewN _ _ _⟩ | exact ⟨rfl, _, Eq.trans (World.drewN_drewN _ _ _) (congrArg (World.drewN _) (Nat.add_assoc _ _ _))⟩); have hz28 := cellsZ3 BK101.out; have p108 : 0 ≤ ((ji21) : Int) := of_decide_eq_true z1200; have q108 : (ji21) < (l0_1.length : Int) := of_decide_eq_true z1200; obtain ⟨ad108, e108, hx108_0, hx108_1⟩ := at_T123 HR0_1.out (ji21) p108 q108; obtain rfl : ad104 = ad108 := (by injection e108); have hn108_0 : ad104.block ≠ gb105 := Nat.ne_of_lt (Nat.lt_of_lt_of_le (by have := World.block_lt_of_cell? _ _ hx108_0; first | rwa [add_block] at this | exact this) GW105.out); have hn108_1 : ad104.block ≠ gb105 := Nat.ne_of_lt (Nat.lt_of_lt_of_le (by have := World.block_lt_of_cell? _ _ hx108_0; first | rwa [add_block] at this | exact this) GW105.out); replace hx108_0 := (HB.out.cell (World.block_lt_of_cell? w _ hx108_0)).trans hx108_0; replace hx108_1 := (HB.out.cell (World.block_lt_of_cell? w _ hx108_1)).trans hx108_1; replace hx108_0 := (cell_far (p := ⟨gb105, 0, none⟩) (by first | (rw [add_block]; exact hn108_0) | (show (Addr.add _ _).block ≠ _; rw [add_block]; exact hn108_0) | exact hn108_0) (.string ((rd_T123 l0_1 x24_2).f0))).trans hx108_0; replace hx108_1 := (cell_far (p := ⟨gb105, 0, none⟩) (by first | (rw [add_block]; exact hn108_0) | (show (Addr.add _ _).block ≠ _; rw [add_block]; exact hn108_0) | exact hn108_0) (.string ((rd_T123 l0_1 x24_2).f0))).trans hx108_1; replace hx108_0 := (cell_far (p := ⟨gb105, 1, none⟩) (by first | (rw [add_block]; exact hn108_1) | (show (Addr.add _ _).block ≠ _; rw [add_block]; exact hn108_1) | exact hn108_1) (.string ((rd_T123 l0_1 x24_2).f1))).trans hx108_0; replace hx108_1 := (cell_far (p := ⟨gb105, 1, none⟩) (by first | (rw [add_block]; exact hn108_1) | (show (Addr.add _ _).block ≠ _; rw [add_block]; exact hn108_1) | exact hn108_1) (.string ((rd_T123 l0_1 x24_2).f1))).trans hx108_1; (try have hy108_0 := fun (n_ : Nat) => (show ((((w25.drewN n_).setCell ⟨gb105, 0, none⟩ (.string ((rd_T123 l0_1 x24_2).f0))).setCell ⟨gb105, 1, none⟩ (.string ((rd_T123 l0_1 x24_2).f1)))).cell? _ = some _ from hx108_0)); (try have hy108_1 := fun (n_ : Nat) => (show ((((w25.drewN n_).setCell ⟨gb105, 0, none⟩ (.string ((rd_T123 l0_1 x24_2).f0))).setCell ⟨gb105, 1, none⟩ (.string ((rd_T123 l0_1 x24_2).f1)))).cell? _ = some _ from hx108_1)); clear hn108_0 hn108_1; replace p108 := eq_true p108; replace q108 := eq_true q108)); try go_wp2_with (first | ((with_reducible refine gate_dst (N := 4) rfl ?_); (try (refine gate_guard (by rfl) ?_; dsimp only)); refine bX 4 123 #[.string (⟨#[]⟩ : ByteArray), .string (⟨#[]⟩ : ByteArray)] ?_; intro gb105 hg w25 hbox hb; have _ := bB gb101 hb; have _ := aM (below_step hbZ hb); have _ := aM hbox; have _ := szZ hg; have _ := szZ hg; have ⟨_, _⟩ := nbB gb101 hg; clear BK101 HB; rename_i BK101 HB BK105 GW105 GE105 NB101_105 NB105_101; clear hb hbox hg; have hnb26 := NB105_101.out; have hnc26 := NB101_105.out; have hz27 := cellsZ2 BK105.out) | (go_at_call 86; (with_reducible refine (spec_l1Name.calls k2 ((rd_T123 l0_1 x24_2).f0) true _ A16.out).mono ?_); rintro e w' ⟨rfl, ⟨nd, rfl⟩⟩; (try first | exact ⟨rfl, _, World.drewN_drewN _ _ _⟩ | exact ⟨rfl, _, Eq.trans (World.drewN_drewN _ _ _) (congrArg (World.drewN _) (Nat.add_assoc _ _ _))⟩)) | (go_at_call 86; (with_reducible refine (spec_l1Name.calls k2 ((rd_T123 l0_1 x24_2).f1) true _ A18.out).mono ?_); rintro e w' ⟨rfl, ⟨nd, rfl⟩⟩; (try first | exact ⟨rfl, _, World.drewN_drewN _ _ _⟩ | exact ⟨rfl, _, Eq.trans (World.drewN_drewN _ _ _) (congrArg (World.drewN _) (Nat.add_assoc _ _ _))⟩); have hz28 := cellsZ3 BK101.out; have p108 : 0 ≤ ((ji21) : Int) := of_decide_eq_true z1200; have q108 : (ji21) < (l0_1.length : Int) := of_decide_eq_true z1200; obtain ⟨ad108, e108, hx108_0, hx108_1⟩ := at_T123 HR0_1.out (ji21) p108 q108; obtain rfl : ad104 = ad108 := (by injection e108); have hn108_0 : ad104.block ≠ gb105 := Nat.ne_of_lt (Nat.lt_of_lt_of_le (by have := World.block_lt_of_cell? _ _ hx108_0; first | rwa [add_block] at this | exact this) GW105.out); have hn108_1 : ad104.block ≠ gb105 := Nat.ne_of_lt (Nat.lt_of_lt_of_le (by have := World.block_lt_of_cell? _ _ hx108_0; first | rwa [add_block] at this | exact this) GW105.out); replace hx108_0 := (HB.out.cell (World.block_lt_of_cell? w _ hx108_0)).trans hx108_0; replace hx108_1 := (HB.out.cell (World.block_lt_of_cell? w _ hx108_1)).trans hx108_1; replace hx108_0 := (cell_far (p := ⟨gb105, 0, none⟩) (by first | (rw [add_block]; exact hn108_0) | (show (Addr.add _ _).block ≠ _; rw [add_block]; exact hn108_0) | exact hn108_0) (.string ((rd_T123 l0_1 x24_2).f0))).trans hx108_0; replace hx108_1 := (cell_far (p := ⟨gb105, 0, none⟩) (by first | (rw [add_block]; exact hn108_0) | (show (Addr.add _ _).block ≠ _; rw [add_block]; exact hn108_0) | exact hn108_0) (.string ((rd_T123 l0_1 x24_2).f0))).trans hx108_1; replace hx108_0 := (cell_far (p := ⟨gb105, 1, none⟩) (by first | (rw [add_block]; exact hn108_1) | (show (Addr.add _ _).block ≠ _; rw [add_block]; exact hn108_1) | exact hn108_1) (.string ((rd_T123 l0_1 x24_2).f1))).trans hx108_0; replace hx108_1 := (cell_far (p := ⟨gb105, 1, none⟩) (by first | (rw [add_block]; exact hn108_1) | (show (Addr.add _ _).block ≠ _; rw [add_block]; exact hn108_1) | exact hn108_1) (.string ((rd_T123 l0_1 x24_2).f1))).trans hx108_1; (try have hy108_0 := fun (n_ : Nat) => (show ((((w25.drewN n_).setCell ⟨gb105, 0, none⟩ (.string ((rd_T123 l0_1 x24_2).f0))).setCell ⟨gb105, 1, none⟩ (.string ((rd_T123 l0_1 x24_2).f1)))).cell? _ = some _ from hx108_0)); (try have hy108_1 := fun (n_ : Nat) => (show ((((w25.drewN n_).setCell ⟨gb105, 0, none⟩ (.string ((rd_T123 l0_1 x24_2).f0))).setCell ⟨gb105, 1, none⟩ (.string ((rd_T123 l0_1 x24_2).f1)))).cell? _ = some _ from hx108_1)); clear hn108_0 hn108_1; replace p108 := eq_true p108; replace q108 := eq_true q108)))
                 go_roundg k2
                 case measure => have := HJ1.out; have := HK2.out; omega
                 case rel => exact ⟨(wrap64 (x24_2 + 1)), z4458, H', ⟨by have := HJ1.out; have := HK2.out; omega⟩, ⟨bkZ⟩, ⟨zcb41⟩⟩
               · rw [if_neg c24] at H
                 have c24b0 : (Op.bytesLess (((rd_T123 l0_1 (ji21)).f0).toList) (((rd_T123 l0_1 x24_2).f0).toList)) = false := by simpa using c24
                 clear c24
                 obtain rfl := Option.some.inj H
                 have p104 : 0 ≤ (x24_2 : Int) := of_decide_eq_true z1200
                 have q104 : x24_2 < (l0_1.length : Int) := of_decide_eq_true z1200
                 obtain ⟨ad104, e104, hx104_0, hx104_1⟩ := at_T123 HR0_1.out x24_2 p104 q104
                 cases e104
                 replace hx104_0 := (HB.out.cell (World.block_lt_of_cell? w _ hx104_0)).trans hx104_0
                 replace hx104_1 := (HB.out.cell (World.block_lt_of_cell? w _ hx104_1)).trans hx104_1
                 replace p104 := eq_true p104
                 replace q104 := eq_true q104
                 go_wp2_with (first | ((with_reducible refine gate_dst (N := 4) rfl ?_); (try (refine gate_guard (by rfl) ?_; dsimp only)); refine bX 4 123 #[.string (⟨#[]⟩ : ByteArray), .string (⟨#[]⟩ : ByteArray)] ?_; intro gb105 hg w29 hbox hb; have _ := bB gb101 hb; have _ := aM (below_step hbZ hb); have _ := aM hbox; have _ := szZ hg; have _ := szZ hg; have ⟨_, _⟩ := nbB gb101 hg; clear BK101 HB; rename_i BK101 HB BK105 GW105 GE105 NB101_105 NB105_101; clear hb hbox hg; have hnb30 := NB105_101.out; have hnc30 := NB101_105.out; have hz31 := cellsZ2 BK105.out) | (go_at_call 86; (with_reducible refine (spec_l1Name.calls k2 ((rd_T123 l0_1 x24_2).f0) true _ A16.out).mono ?_); rintro e w' ⟨rfl, ⟨nd, rfl⟩⟩; (try first | exact ⟨rfl, _, World.drewN_drewN _ _ _⟩ | exact ⟨rfl, _, Eq.trans (World.drewN_drewN _ _ _) (congrArg (World.drewN _) (Nat.add_assoc _ _ _))⟩)) | (go_at_call 86; (with_reducible refine (spec_l1Name.calls k2 ((rd_T123 l0_1 x24_2).f1) true _ A18.out).mono ?_); rintro e w' ⟨rfl, ⟨nd, rfl⟩⟩; (try first | exact ⟨rfl, _, World.drewN_drewN _ _ _⟩ | exact ⟨rfl, _, Eq.trans (World.drewN_drewN _ _ _) (congrArg (World.drewN _) (Nat.add_assoc _ _ _))⟩); have hz32 := cellsZ3 BK101.out; have p108 : 0 ≤ ((ji21) : Int) := of_decide_eq_true z1200; have q108 : (ji21) < (l0_1.length : Int) := of_decide_eq_true z1200; obtain ⟨ad108, e108, hx108_0, hx108_1⟩ := at_T123 HR0_1.out (ji21) p108 q108; obtain rfl : ad104 = ad108 := (by injection e108); have hn108_0 : ad104.block ≠ gb105 := Nat.ne_of_lt (Nat.lt_of_lt_of_le (by have := World.block_lt_of_cell? _ _ hx108_0; first | rwa [add_block] at this | exact this) GW105.out); have hn108_1 : ad104.block ≠ gb105 := Nat.ne_of_lt (Nat.lt_of_lt_of_le (by have := World.block_lt_of_cell? _ _ hx108_0; first | rwa [add_block] at this | exact this) GW105.out); replace hx108_0 := (HB.out.cell (World.block_lt_of_cell? w _ hx108_0)).trans hx108_0; replace hx108_1 := (HB.out.cell (World.block_lt_of_cell? w _ hx108_1)).trans hx108_1; replace hx108_0 := (cell_far (p := ⟨gb105, 0, none⟩) (by first | (rw [add_block]; exact hn108_0) | (show (Addr.add _ _).block ≠ _; rw [add_block]; exact hn108_0) | exact hn108_0) (.string ((rd_T123 l0_1 x24_2).f0))).trans hx108_0; replace hx108_1 := (cell_far (p := ⟨gb105, 0, none⟩) (by first | (rw [add_block]; exact hn108_0) | (show (Addr.add _ _).block ≠ _; rw [add_block]; exact hn108_0) | exact hn108_0) (.string ((rd_T123 l0_1 x24_2).f0))).trans hx108_1; replace hx108_0 := (cell_far (p := ⟨gb105, 1, none⟩) (by first | (rw [add_block]; exact hn108_1) | (show (Addr.add _ _).block ≠ _; rw [add_block]; exact hn108_1) | exact hn108_1) (.string ((rd_T123 l0_1 x24_2).f1))).trans hx108_0; replace hx108_1 := (cell_far (p := ⟨gb105, 1, none⟩) (by first | (rw [add_block]; exact hn108_1) | (show (Addr.add _ _).block ≠ _; rw [add_block]; exact hn108_1) | exact hn108_1) (.string ((rd_T123 l0_1 x24_2).f1))).trans hx108_1; (try have hy108_0 := fun (n_ : Nat) => (show ((((w29.drewN n_).setCell ⟨gb105, 0, none⟩ (.string ((rd_T123 l0_1 x24_2).f0))).setCell ⟨gb105, 1, none⟩ (.string ((rd_T123 l0_1 x24_2).f1)))).cell? _ = some _ from hx108_0)); (try have hy108_1 := fun (n_ : Nat) => (show ((((w29.drewN n_).setCell ⟨gb105, 0, none⟩ (.string ((rd_T123 l0_1 x24_2).f0))).setCell ⟨gb105, 1, none⟩ (.string ((rd_T123 l0_1 x24_2).f1)))).cell? _ = some _ from hx108_1)); clear hn108_0 hn108_1; replace p108 := eq_true p108; replace q108 := eq_true q108))
                 repeat (go_quiet (first | ((with_reducible refine gate_dst (N := 4) rfl ?_); (try (refine gate_guard (by rfl) ?_; dsimp only)); refine bX 4 123 #[.string (⟨#[]⟩ : ByteArray), .string (⟨#[]⟩ : ByteArray)] ?_; intro gb105 hg w29 hbox hb; have _ := bB gb101 hb; have _ := aM (below_step hbZ hb); have _ := aM hbox; have _ := szZ hg; have _ := szZ hg; have ⟨_, _⟩ := nbB gb101 hg; clear BK101 HB; rename_i BK101 HB BK105 GW105 GE105 NB101_105 NB105_101; clear hb hbox hg; have hnb30 := NB105_101.out; have hnc30 := NB101_105.out; have hz31 := cellsZ2 BK105.out) | (go_at_call 86; (with_reducible refine (spec_l1Name.calls k2 ((rd_T123 l0_1 x24_2).f0) true _ A16.out).mono ?_); rintro e w' ⟨rfl, ⟨nd, rfl⟩⟩; (try first | exact ⟨rfl, _, World.drewN_drewN _ _ _⟩ | exact ⟨rfl, _, Eq.trans (World.drewN_drewN _ _ _) (congrArg (World.drewN _) (Nat.add_assoc _ _ _))⟩)) | (go_at_call 86; (with_reducible refine (spec_l1Name.calls k2 ((rd_T123 l0_1 x24_2).f1) true _ A18.out).mono ?_); rintro e w' ⟨rfl, ⟨nd, rfl⟩⟩; (try first | exact ⟨rfl, _, World.drewN_drewN _ _ _⟩ | exact ⟨rfl, _, Eq.trans (World.drewN_drewN _ _ _) (congrArg (World.drewN _) (Nat.add_assoc _ _ _))⟩); have hz32 := cellsZ3 BK101.out; have p108 : 0 ≤ ((ji21) : Int) := of_decide_eq_true z1200; have q108 : (ji21) < (l0_1.length : Int) := of_decide_eq_true z1200; obtain ⟨ad108, e108, hx108_0, hx108_1⟩ := at_T123 HR0_1.out (ji21) p108 q108; obtain rfl : ad104 = ad108 := (by injection e108); have hn108_0 : ad104.block ≠ gb105 := Nat.ne_of_lt (Nat.lt_of_lt_of_le (by have := World.block_lt_of_cell? _ _ hx108_0; first | rwa [add_block] at this | exact this) GW105.out); have hn108_1 : ad104.block ≠ gb105 := Nat.ne_of_lt (Nat.lt_of_lt_of_le (by have := World.block_lt_of_cell? _ _ hx108_0; first | rwa [add_block] at this | exact this) GW105.out); replace hx108_0 := (HB.out.cell (World.block_lt_of_cell? w _ hx108_0)).trans hx108_0; replace hx108_1 := (HB.out.cell (World.block_lt_of_cell? w _ hx108_1)).trans hx108_1; replace hx108_0 := (cell_far (p := ⟨gb105, 0, none⟩) (by first | (rw [add_block]; exact hn108_0) | (show (Addr.add _ _).block ≠ _; rw [add_block]; exact hn108_0) | exact hn108_0) (.string ((rd_T123 l0_1 x24_2).f0))).trans hx108_0; replace hx108_1 := (cell_far (p := ⟨gb105, 0, none⟩) (by first | (rw [add_block]; exact hn108_0) | (show (Addr.add _ _).block ≠ _; rw [add_block]; exact hn108_0) | exact hn108_0) (.string ((rd_T123 l0_1 x24_2).f0))).trans hx108_1; replace hx108_0 := (cell_far (p := ⟨gb105, 1, none⟩) (by first | (rw [add_block]; exact hn108_1) | (show (Addr.add _ _).block ≠ _; rw [add_block]; exact hn108_1) | exact hn108_1) (.string ((rd_T123 l0_1 x24_2).f1))).trans hx108_0; replace hx108_1 := (cell_far (p := ⟨gb105, 1, none⟩) (by first | (rw [add_block]; exact hn108_1) | (show (Addr.add _ _).block ≠ _; rw [add_block]; exact hn108_1) | exact hn108_1) (.string ((rd_T123 l0_1 x24_2).f1))).trans hx108_1; (try have hy108_0 := fun (n_ : Nat) => (show ((((w29.drewN n_).setCell ⟨gb105, 0, none⟩ (.string ((rd_T123 l0_1 x24_2).f0))).setCell ⟨gb105, 1, none⟩ (.string ((rd_T123 l0_1 x24_2).f1)))).cell? _ = some _ from hx108_0)); (try have hy108_1 := fun (n_ : Nat) => (show ((((w29.drewN n_).setCell ⟨gb105, 0, none⟩ (.string ((rd_T123 l0_1 x24_2).f0))).setCell ⟨gb105, 1, none⟩ (.string ((rd_T123 l0_1 x24_2).f1)))).cell? _ = some _ from hx108_1)); clear hn108_0 hn108_1; replace p108 := eq_true p108; replace q108 := eq_true q108)); try go_wp2_with (first | ((with_reducible refine gate_dst (N := 4) rfl ?_); (try (refine gate_guard (by rfl) ?_; dsimp only)); refine bX 4 123 #[.string (⟨#[]⟩ : ByteArray), .string (⟨#[]⟩ : ByteArray)] ?_; intro gb105 hg w29 hbox hb; have _ := bB gb101 hb; have _ := aM (below_step hbZ hb); have _ := aM hbox; have _ := szZ hg; have _ := szZ hg; have ⟨_, _⟩ := nbB gb101 hg; clear BK101 HB; rename_i BK101 HB BK105 GW105 GE105 NB101_105 NB105_101; clear hb hbox hg; have hnb30 := NB105_101.out; have hnc30 := NB101_105.out; have hz31 := cellsZ2 BK105.out) | (go_at_call 86; (with_reducible refine (spec_l1Name.calls k2 ((rd_T123 l0_1 x24_2).f0) true _ A16.out).mono ?_); rintro e w' ⟨rfl, ⟨nd, rfl⟩⟩; (try first | exact ⟨rfl, _, World.drewN_drewN _ _ _⟩ | exact ⟨rfl, _, Eq.trans (World.drewN_drewN _ _ _) (congrArg (World.drewN _) (Nat.add_assoc _ _ _))⟩)) | (go_at_call 86; (with_reducible refine (spec_l1Name.calls k2 ((rd_T123 l0_1 x24_2).f1) true _ A18.out).mono ?_); rintro e w' ⟨rfl, ⟨nd, rfl⟩⟩; (try first | exact ⟨rfl, _, World.drewN_drewN _ _ _⟩ | exact ⟨rfl, _, Eq.trans (World.drewN_drewN _ _ _) (congrArg (World.drewN _) (Nat.add_assoc _ _ _))⟩); have hz32 := cellsZ3 BK101.out; have p108 : 0 ≤ ((ji21) : Int) := of_decide_eq_true z1200; have q108 : (ji21) < (l0_1.length : Int) := of_decide_eq_true z1200; obtain ⟨ad108, e108, hx108_0, hx108_1⟩ := at_T123 HR0_1.out (ji21) p108 q108; obtain rfl : ad104 = ad108 := (by injection e108); have hn108_0 : ad104.block ≠ gb105 := Nat.ne_of_lt (Nat.lt_of_lt_of_le (by have := World.block_lt_of_cell? _ _ hx108_0; first | rwa [add_block] at this | exact this) GW105.out); have hn108_1 : ad104.block ≠ gb105 := Nat.ne_of_lt (Nat.lt_of_lt_of_le (by have := World.block_lt_of_cell? _ _ hx108_0; first | rwa [add_block] at this | exact this) GW105.out); replace hx108_0 := (HB.out.cell (World.block_lt_of_cell? w _ hx108_0)).trans hx108_0; replace hx108_1 := (HB.out.cell (World.block_lt_of_cell? w _ hx108_1)).trans hx108_1; replace hx108_0 := (cell_far (p := ⟨gb105, 0, none⟩) (by first | (rw [add_block]; exact hn108_0) | (show (Addr.add _ _).block ≠ _; rw [add_block]; exact hn108_0) | exact hn108_0) (.string ((rd_T123 l0_1 x24_2).f0))).trans hx108_0; replace hx108_1 := (cell_far (p := ⟨gb105, 0, none⟩) (by first | (rw [add_block]; exact hn108_0) | (show (Addr.add _ _).block ≠ _; rw [add_block]; exact hn108_0) | exact hn108_0) (.string ((rd_T123 l0_1 x24_2).f0))).trans hx108_1; replace hx108_0 := (cell_far (p := ⟨gb105, 1, none⟩) (by first | (rw [add_block]; exact hn108_1) | (show (Addr.add _ _).block ≠ _; rw [add_block]; exact hn108_1) | exact hn108_1) (.string ((rd_T123 l0_1 x24_2).f1))).trans hx108_0; replace hx108_1 := (cell_far (p := ⟨gb105, 1, none⟩) (by first | (rw [add_block]; exact hn108_1) | (show (Addr.add _ _).block ≠ _; rw [add_block]; exact hn108_1) | exact hn108_1) (.string ((rd_T123 l0_1 x24_2).f1))).trans hx108_1; (try have hy108_0 := fun (n_ : Nat) => (show ((((w29.drewN n_).setCell ⟨gb105, 0, none⟩ (.string ((rd_T123 l0_1 x24_2).f0))).setCell ⟨gb105, 1, none⟩ (.string ((rd_T123 l0_1 x24_2).f1)))).cell? _ = some _ from hx108_0)); (try have hy108_1 := fun (n_ : Nat) => (show ((((w29.drewN n_).setCell ⟨gb105, 0, none⟩ (.string ((rd_T123 l0_1 x24_2).f0))).setCell ⟨gb105, 1, none⟩ (.string ((rd_T123 l0_1 x24_2).f1)))).cell? _ = some _ from hx108_1)); clear hn108_0 hn108_1; replace p108 := eq_true p108; replace q108 := eq_true q108)))
                 go_ret
                 exact ⟨by first | rfl | (simp [errW_none, errW_some] <;> rfl) | (simp only [← hji21]; first | rfl | (simp [errW_none, errW_some] <;> rfl)) | (simp [*, errW_none, errW_some] <;> rfl), zcb41⟩
             · rw [if_neg c20] at H
               have c20b0 := nL c20
               clear c20
               have H' := aM H
               clear H
               have p104 : 0 ≤ (x24_2 : Int) := of_decide_eq_true z1200
               have q104 : x24_2 < (l0_1.length : Int) := of_decide_eq_true z1200
               obtain ⟨ad104, e104, hx104_0, hx104_1⟩ := at_T123 HR0_1.out x24_2 p104 q104
               cases e104
               replace hx104_0 := (HB.out.cell (World.block_lt_of_cell? w _ hx104_0)).trans hx104_0
               replace hx104_1 := (HB.out.cell (World.block_lt_of_cell? w _ hx104_1)).trans hx104_1
               replace p104 := eq_true p104
               replace q104 := eq_true q104
               go_wp2_with (first | ((with_reducible refine gate_dst (N := 4) rfl ?_); (try (refine gate_guard (by rfl) ?_; dsimp only)); refine bX 4 123 #[.string (⟨#[]⟩ : ByteArray), .string (⟨#[]⟩ : ByteArray)] ?_; intro gb105 hg w33 hbox hb; have _ := bB gb101 hb; have _ := aM (below_step hbZ hb); have _ := aM hbox; have _ := szZ hg; have _ := szZ hg; have ⟨_, _⟩ := nbB gb101 hg; clear BK101 HB; rename_i BK101 HB BK105 GW105 GE105 NB101_105 NB105_101; clear hb hbox hg; have hnb34 := NB105_101.out; have hnc34 := NB101_105.out; have hz35 := cellsZ2 BK105.out) | (go_at_call 86; (with_reducible refine (spec_l1Name.calls k2 ((rd_T123 l0_1 x24_2).f0) true _ A16.out).mono ?_); rintro e w' ⟨rfl, ⟨nd, rfl⟩⟩; (try first | exact ⟨rfl, _, World.drewN_drewN _ _ _⟩ | exact ⟨rfl, _, Eq.trans (World.drewN_drewN _ _ _) (congrArg (World.drewN _) (Nat.add_assoc _ _ _))⟩)) | (go_at_call 86; (with_reducible refine (spec_l1Name.calls k2 ((rd_T123 l0_1 x24_2).f1) true _ A18.out).mono ?_); rintro e w' ⟨rfl, ⟨nd, rfl⟩⟩; (try first | exact ⟨rfl, _, World.drewN_drewN _ _ _⟩ | exact ⟨rfl, _, Eq.trans (World.drewN_drewN _ _ _) (congrArg (World.drewN _) (Nat.add_assoc _ _ _))⟩)))
               repeat (go_quiet (first | ((with_reducible refine gate_dst (N := 4) rfl ?_); (try (refine gate_guard (by rfl) ?_; dsimp only)); refine bX 4 123 #[.string (⟨#[]⟩ : ByteArray), .string (⟨#[]⟩ : ByteArray)] ?_; intro gb105 hg w33 hbox hb; have _ := bB gb101 hb; have _ := aM (below_step hbZ hb); have _ := aM hbox; have _ := szZ hg; have _ := szZ hg; have ⟨_, _⟩ := nbB gb101 hg; clear BK101 HB; rename_i BK101 HB BK105 GW105 GE105 NB101_105 NB105_101; clear hb hbox hg; have hnb34 := NB105_101.out; have hnc34 := NB101_105.out; have hz35 := cellsZ2 BK105.out) | (go_at_call 86; (with_reducible refine (spec_l1Name.calls k2 ((rd_T123 l0_1 x24_2).f0) true _ A16.out).mono ?_); rintro e w' ⟨rfl, ⟨nd, rfl⟩⟩; (try first | exact ⟨rfl, _, World.drewN_drewN _ _ _⟩ | exact ⟨rfl, _, Eq.trans (World.drewN_drewN _ _ _) (congrArg (World.drewN _) (Nat.add_assoc _ _ _))⟩)) | (go_at_call 86; (with_reducible refine (spec_l1Name.calls k2 ((rd_T123 l0_1 x24_2).f1) true _ A18.out).mono ?_); rintro e w' ⟨rfl, ⟨nd, rfl⟩⟩; (try first | exact ⟨rfl, _, World.drewN_drewN _ _ _⟩ | exact ⟨rfl, _, Eq.trans (World.drewN_drewN _ _ _) (congrArg (World.drewN _) (Nat.add_assoc _ _ _))⟩))); try go_wp2_with (first | ((with_reducible refine gate_dst (N := 4) rfl ?_); (try (refine gate_guard (by rfl) ?_; dsimp only)); refine bX 4 123 #[.string (⟨#[]⟩ : ByteArray), .string (⟨#[]⟩ : ByteArray)] ?_; intro gb105 hg w33 hbox hb; have _ := bB gb101 hb; have _ := aM (below_step hbZ hb); have _ := aM hbox; have _ := szZ hg; have _ := szZ hg; have ⟨_, _⟩ := nbB gb101 hg; clear BK101 HB; rename_i BK101 HB BK105 GW105 GE105 NB101_105 NB105_101; clear hb hbox hg; have hnb34 := NB105_101.out; have hnc34 := NB101_105.out; have hz35 := cellsZ2 BK105.out) | (go_at_call 86; (with_reducible refine (spec_l1Name.calls k2 ((rd_T123 l0_1 x24_2).f0) true _ A16.out).mono ?_); rintro e w' ⟨rfl, ⟨nd, rfl⟩⟩; (try first | exact ⟨rfl, _, World.drewN_drewN _ _ _⟩ | exact ⟨rfl, _, Eq.trans (World.drewN_drewN _ _ _) (congrArg (World.drewN _) (Nat.add_assoc _ _ _))⟩)) | (go_at_call 86; (with_reducible refine (spec_l1Name.calls k2 ((rd_T123 l0_1 x24_2).f1) true _ A18.out).mono ?_); rintro e w' ⟨rfl, ⟨nd, rfl⟩⟩; (try first | exact ⟨rfl, _, World.drewN_drewN _ _ _⟩ | exact ⟨rfl, _, Eq.trans (World.drewN_drewN _ _ _) (congrArg (World.drewN _) (Nat.add_assoc _ _ _))⟩))))
               go_roundg k2
               case measure => have := HJ1.out; have := HK2.out; omega
               case rel => exact ⟨(wrap64 (x24_2 + 1)), z4458, H', ⟨by have := HJ1.out; have := HK2.out; omega⟩, ⟨bkZ⟩, ⟨zcb41⟩⟩
           · replace c19 := Bool.eq_false_iff.mpr c19
             subst c19
             rw [if_neg (show ¬ (false = true) by decide)] at H
             obtain rfl := Option.some.inj H
             have p104 : 0 ≤ (x24_2 : Int) := of_decide_eq_true z1200
             have q104 : x24_2 < (l0_1.length : Int) := of_decide_eq_true z1200
             obtain ⟨ad104, e104, hx104_0, hx104_1⟩ := at_T123 HR0_1.out x24_2 p104 q104
             cases e104
             replace hx104_0 := (HB.out.cell (World.block_lt_of_cell? w _ hx104_0)).trans hx104_0
             replace hx104_1 := (HB.out.cell (World.block_lt_of_cell? w _ hx104_1)).trans hx104_1
             replace p104 := eq_true p104
             replace q104 := eq_true q104
             go_wp2_with (first | ((with_reducible refine gate_dst (N := 4) rfl ?_); (try (refine gate_guard (by rfl) ?_; dsimp only)); refine bX 4 123 #[.string (⟨#[]⟩ : ByteArray), .string (⟨#[]⟩ : ByteArray)] ?_; intro gb105 hg w36 hbox hb; have _ := bB gb101 hb; have _ := aM (below_step hbZ hb); have _ := aM hbox; have _ := szZ hg; have _ := szZ hg; have ⟨_, _⟩ := nbB gb101 hg; clear BK101 HB; rename_i BK101 HB BK105 GW105 GE105 NB101_105 NB105_101; clear hb hbox hg; have hnb37 := NB105_101.out; have hnc37 := NB101_105.out; have hz38 := cellsZ2 BK105.out) | (go_at_call 86; (with_reducible refine (spec_l1Name.calls k2 ((rd_T123 l0_1 x24_2).f0) true _ A16.out).mono ?_); rintro e w' ⟨rfl, ⟨nd, rfl⟩⟩; (try first | exact ⟨rfl, _, World.drewN_drewN _ _ _⟩ | exact ⟨rfl, _, Eq.trans (World.drewN_drewN _ _ _) (congrArg (World.drewN _) (Nat.add_assoc _ _ _))⟩)) | (go_at_call 86; (with_reducible refine (spec_l1Name.calls k2 ((rd_T123 l0_1 x24_2).f1) false _ A18.out).mono ?_); rintro e w' ⟨rfl, ⟨nd, rfl⟩⟩; (try first | exact ⟨rfl, _, World.drewN_drewN _ _ _⟩ | exact ⟨rfl, _, Eq.trans (World.drewN_drewN _ _ _) (congrArg (World.drewN _) (Nat.add_assoc _ _ _))⟩)))
             repeat (go_quiet (first | ((with_reducible refine gate_dst (N := 4) rfl ?_); (try (refine gate_guard (by rfl) ?_; dsimp only)); refine bX 4 123 #[.string (⟨#[]⟩ : ByteArray), .string (⟨#[]⟩ : ByteArray)] ?_; intro gb105 hg w36 hbox hb; have _ := bB gb101 hb; have _ := aM (below_step hbZ hb); have _ := aM hbox; have _ := szZ hg; have _ := szZ hg; have ⟨_, _⟩ := nbB gb101 hg; clear BK101 HB; rename_i BK101 HB BK105 GW105 GE105 NB101_105 NB105_101; clear hb hbox hg; have hnb37 := NB105_101.out; have hnc37 := NB101_105.out; have hz38 := cellsZ2 BK105.out) | (go_at_call 86; (with_reducible refine (spec_l1Name.calls k2 ((rd_T123 l0_1 x24_2).f0) true _ A16.out).mono ?_); rintro e w' ⟨rfl, ⟨nd, rfl⟩⟩; (try first | exact ⟨rfl, _, World.drewN_drewN _ _ _⟩ | exact ⟨rfl, _, Eq.trans (World.drewN_drewN _ _ _) (congrArg (World.drewN _) (Nat.add_assoc _ _ _))⟩)) | (go_at_call 86; (with_reducible refine (spec_l1Name.calls k2 ((rd_T123 l0_1 x24_2).f1) false _ A18.out).mono ?_); rintro e w' ⟨rfl, ⟨nd, rfl⟩⟩; (try first | exact ⟨rfl, _, World.drewN_drewN _ _ _⟩ | exact ⟨rfl, _, Eq.trans (World.drewN_drewN _ _ _) (congrArg (World.drewN _) (Nat.add_assoc _ _ _))⟩))); try go_wp2_with (first | ((with_reducible refine gate_dst (N := 4) rfl ?_); (try (refine gate_guard (by rfl) ?_; dsimp only)); refine bX 4 123 #[.string (⟨#[]⟩ : ByteArray), .string (⟨#[]⟩ : ByteArray)] ?_; intro gb105 hg w36 hbox hb; have _ := bB gb101 hb; have _ := aM (below_step hbZ hb); have _ := aM hbox; have _ := szZ hg; have _ := szZ hg; have ⟨_, _⟩ := nbB gb101 hg; clear BK101 HB; rename_i BK101 HB BK105 GW105 GE105 NB101_105 NB105_101; clear hb hbox hg; have hnb37 := NB105_101.out; have hnc37 := NB101_105.out; have hz38 := cellsZ2 BK105.out) | (go_at_call 86; (with_reducible refine (spec_l1Name.calls k2 ((rd_T123 l0_1 x24_2).f0) true _ A16.out).mono ?_); rintro e w' ⟨rfl, ⟨nd, rfl⟩⟩; (try first | exact ⟨rfl, _, World.drewN_drewN _ _ _⟩ | exact ⟨rfl, _, Eq.trans (World.drewN_drewN _ _ _) (congrArg (World.drewN _) (Nat.add_assoc _ _ _))⟩)) | (go_at_call 86; (with_reducible refine (spec_l1Name.calls k2 ((rd_T123 l0_1 x24_2).f1) false _ A18.out).mono ?_); rintro e w' ⟨rfl, ⟨nd, rfl⟩⟩; (try first | exact ⟨rfl, _, World.drewN_drewN _ _ _⟩ | exact ⟨rfl, _, Eq.trans (World.drewN_drewN _ _ _) (congrArg (World.drewN _) (Nat.add_assoc _ _ _))⟩))))
             go_ret
             exact ⟨z674d, zcb41⟩
         · replace c17 := Bool.eq_false_iff.mpr c17
           subst c17
           rw [if_neg (show ¬ (false = true) by decide)] at H
           obtain rfl := Option.some.inj H
           have p104 : 0 ≤ (x24_2 : Int) := of_decide_eq_true z1200
           have q104 : x24_2 < (l0_1.length : Int) := of_decide_eq_true z1200
           obtain ⟨ad104, e104, hx104_0, hx104_1⟩ := at_T123 HR0_1.out x24_2 p104 q104
           cases e104
           replace hx104_0 := (HB.out.cell (World.block_lt_of_cell? w _ hx104_0)).trans hx104_0
           replace hx104_1 := (HB.out.cell (World.block_lt_of_cell? w _ hx104_1)).trans hx104_1
           replace p104 := eq_true p104
           replace q104 := eq_true q104
           go_wp2_with (first | ((with_reducible refine gate_dst (N := 4) rfl ?_); (try (refine gate_guard (by rfl) ?_; dsimp only)); refine bX 4 123 #[.string (⟨#[]⟩ : ByteArray), .string (⟨#[]⟩ : ByteArray)] ?_; intro gb105 hg w39 hbox hb; have _ := bB gb101 hb; have _ := aM (below_step hbZ hb); have _ := aM hbox; have _ := szZ hg; have _ := szZ hg; have ⟨_, _⟩ := nbB gb101 hg; clear BK101 HB; rename_i BK101 HB BK105 GW105 GE105 NB101_105 NB105_101; clear hb hbox hg; have hnb40 := NB105_101.out; have hnc40 := NB101_105.out; have hz41 := cellsZ2 BK105.out) | (go_at_call 86; (with_reducible refine (spec_l1Name.calls k2 ((rd_T123 l0_1 x24_2).f0) false _ A16.out).mono ?_); rintro e w' ⟨rfl, ⟨nd, rfl⟩⟩; (try first | exact ⟨rfl, _, World.drewN_drewN _ _ _⟩ | exact ⟨rfl, _, Eq.trans (World.drewN_drewN _ _ _) (congrArg (World.drewN _) (Nat.add_assoc _ _ _))⟩)))
           repeat (go_quiet (first | ((with_reducible refine gate_dst (N := 4) rfl ?_); (try (refine gate_guard (by rfl) ?_; dsimp only)); refine bX 4 123 #[.string (⟨#[]⟩ : ByteArray), .string (⟨#[]⟩ : ByteArray)] ?_; intro gb105 hg w39 hbox hb; have _ := bB gb101 hb; have _ := aM (below_step hbZ hb); have _ := aM hbox; have _ := szZ hg; have _ := szZ hg; have ⟨_, _⟩ := nbB gb101 hg; clear BK101 HB; rename_i BK101 HB BK105 GW105 GE105 NB101_105 NB105_101; clear hb hbox hg; have hnb40 := NB105_101.out; have hnc40 := NB101_105.out; have hz41 := cellsZ2 BK105.out) | (go_at_call 86; (with_reducible refine (spec_l1Name.calls k2 ((rd_T123 l0_1 x24_2).f0) false _ A16.out).mono ?_); rintro e w' ⟨rfl, ⟨nd, rfl⟩⟩; (try first | exact ⟨rfl, _, World.drewN_drewN _ _ _⟩ | exact ⟨rfl, _, Eq.trans (World.drewN_drewN _ _ _) (congrArg (World.drewN _) (Nat.add_assoc _ _ _))⟩))); try go_wp2_with (first | ((with_reducible refine gate_dst (N := 4) rfl ?_); (try (refine gate_guard (by rfl) ?_; dsimp only)); refine bX 4 123 #[.string (⟨#[]⟩ : ByteArray), .string (⟨#[]⟩ : ByteArray)] ?_; intro gb105 hg w39 hbox hb; have _ := bB gb101 hb; have _ := aM (below_step hbZ hb); have _ := aM hbox; have _ := szZ hg; have _ := szZ hg; have ⟨_, _⟩ := nbB gb101 hg; clear BK101 HB; rename_i BK101 HB BK105 GW105 GE105 NB101_105 NB105_101; clear hb hbox hg; have hnb40 := NB105_101.out; have hnc40 := NB101_105.out; have hz41 := cellsZ2 BK105.out) | (go_at_call 86; (with_reducible refine (spec_l1Name.calls k2 ((rd_T123 l0_1 x24_2).f0) false _ A16.out).mono ?_); rintro e w' ⟨rfl, ⟨nd, rfl⟩⟩; (try first | exact ⟨rfl, _, World.drewN_drewN _ _ _⟩ | exact ⟨rfl, _, Eq.trans (World.drewN_drewN _ _ _) (congrArg (World.drewN _) (Nat.add_assoc _ _ _))⟩))))
           go_ret
           exact ⟨z674d, zcb41⟩
       · rw [if_neg c13] at H
         have c13b0 := nL c13
         clear c13
         obtain rfl := Option.some.inj H
         go_wp2
         repeat (go_quiet (fail); try go_wp2)
         go_ret
         exact ⟨z674d, zcb41⟩

end Go.Proofs.YtkgmoajdcibafaaDoor.P

/- Names and keys: what GoodKey says, the program's and the specification's. -/
namespace Go.Proofs.YtkgmoajdcibafaaDoor.Lem
open Go Go.RowKit Go.Proofs.YtkgmoajdcibafaaDoor.P Go.Proofs.YtkgmoajdcibafaaDoorW.PrintWords Go.Proofs.YtkgmoajdcibafaaDoorW.PrintLast Go.Proofs.YtkgmoajdcibafaaDoorW.PrintMore

abbrev Tg := S123
abbrev rdT := rd_T123

theorem dropWhile_head {α : Type} (p : α → Bool) : ∀ (l : List α) (x : α) (r : List α), l.dropWhile p = x :: r → p x = false
  | [], x, r, h => by simp at h
  | a :: l, x, r, h => by
    rw [List.dropWhile_cons] at h
    cases e : p a with
    | true => rw [e, if_pos rfl] at h; exact dropWhile_head p l x r h
    | false =>
      rw [e, if_neg (by decide)] at h
      injection h with h _
      rw [← h]; exact e
theorem dropWhile_all {α : Type} (p : α → Bool) : ∀ l : List α, l.all p = true → l.dropWhile p = []
  | [], _ => rfl
  | a :: l, h => by
    rw [List.all_cons, Bool.and_eq_true] at h
    rw [List.dropWhile_cons, h.1, if_pos rfl]
    exact dropWhile_all p l h.2
theorem dropWhile_nil {α : Type} (p : α → Bool) : ∀ l : List α, l.dropWhile p = [] → l.all p = true
  | [], _ => rfl
  | a :: l, h => by
    rw [List.dropWhile_cons] at h
    cases e : p a with
    | true => rw [e, if_pos rfl] at h; rw [List.all_cons, e, dropWhile_nil p l h]; rfl
    | false => rw [e, if_neg (by decide)] at h; exact absurd h (by simp)

theorem trim_nil (l cs : List UInt8) : (Go.Lib.trimS l cs == []) = l.all (cs.contains ·) := by
  unfold Go.Lib.trimS Go.Lib.trimLeftS Go.Lib.trimRightS
  cases e : l.all (cs.contains ·) with
  | true =>
    have h1 : l.reverse.all (cs.contains ·) = true := by rw [List.all_reverse]; exact e
    rw [dropWhile_all _ _ h1, List.reverse_nil, List.dropWhile_nil]
    rfl
  | false =>
    rw [beq_eq_false_iff_ne]
    intro h
    have h1 := dropWhile_nil _ _ h
    rw [List.all_reverse] at h1
    cases e2 : l.reverse.dropWhile (cs.contains ·) with
    | nil =>
      have h3 := dropWhile_nil _ _ e2
      rw [List.all_reverse, e] at h3
      exact absurd h3 (by decide)
    | cons x r =>
      have h3 := dropWhile_head _ _ x r e2
      rw [e2, List.all_cons, h3, Bool.false_and] at h1
      exact absurd h1 (by decide)

/-- A letter's byte. -/
def letter (b : UInt8) : Bool := (decide (97 ≤ b.toNat) && decide (b.toNat ≤ 122)) || (decide (65 ≤ b.toNat) && decide (b.toNat ≤ 90))
def alphabet : List UInt8 := [97, 98, 99, 100, 101, 102, 103, 104, 105, 106, 107, 108, 109, 110, 111, 112, 113, 114, 115, 116, 117, 118, 119, 120, 121, 122, 65, 66, 67, 68, 69, 70, 71, 72, 73, 74, 75, 76, 77, 78, 79, 80, 81, 82, 83, 84, 85, 86, 87, 88, 89, 90]
theorem alphabet_all : ∀ n, n < 256 → (alphabet.contains (UInt8.ofNat n) == letter (UInt8.ofNat n)) = true := of_decide_eq_true (by kernel_rfl)
theorem alphabet_letter (b : UInt8) : alphabet.contains b = letter b := by
  have h := alphabet_all b.toNat b.toNat_lt
  rw [UInt8.ofNat_toNat] at h
  exact eq_of_beq h

/-- A name. -/
def nameB (s : ByteArray) : Bool := decide (1 ≤ s.size) && decide (s.size ≤ 12) && s.data.toList.all letter
theorem nameB_size {s : ByteArray} (h : nameB s = true) : 1 ≤ s.size ∧ s.size ≤ 12 := by
  unfold nameB at h
  rw [Bool.and_eq_true, Bool.and_eq_true] at h
  exact ⟨of_decide_eq_true h.1.1, of_decide_eq_true h.1.2⟩
theorem nameB_letters {s : ByteArray} (h : nameB s = true) : s.data.toList.all letter = true := by
  unfold nameB at h
  rw [Bool.and_eq_true] at h
  exact h.2
theorem withinB_ok (n a b : Int) : impl_within.f n a b = some (decide (a ≤ n) && decide (n ≤ b)) := by
  unfold impl_within.f
  by_cases h : n ≥ a
  · rw [if_pos h, decide_eq_true h, Bool.true_and]
  · rw [if_neg h, decide_eq_false h, Bool.false_and]
theorem l1InB_ok (n a b : Int) : spec_l1In.f n a b = some (decide (a ≤ n) && decide (n ≤ b)) := by
  unfold spec_l1In.f
  by_cases h : n ≥ a
  · rw [if_pos h, decide_eq_true h, Bool.true_and]
  · rw [if_neg h, decide_eq_false h, Bool.false_and]
theorem size_b (s : ByteArray) : (decide ((1 : Int) ≤ (s.size : Int)) && decide ((s.size : Int) ≤ 12)) = (decide (1 ≤ s.size) && decide (s.size ≤ 12)) := by
  have e1 : ((1 : Int) ≤ (s.size : Int)) ↔ 1 ≤ s.size := by omega
  have e2 : ((s.size : Int) ≤ 12) ↔ s.size ≤ 12 := by omega
  rw [decide_eq_decide.2 e1, decide_eq_decide.2 e2]

theorem isName_ok (s : ByteArray) : impl_isName.f s = some (nameB s) := by
  unfold impl_isName.f nameB
  rw [withinB_ok, Option.bind_some, size_b]
  cases e : (decide (1 ≤ s.size) && decide (s.size ≤ 12)) with
  | false => rw [if_neg (by decide), Bool.false_and]
  | true =>
    rw [Bool.and_eq_true] at e
    have h1 := of_decide_eq_true e.2
    rw [if_pos rfl, Bool.true_and]
    unfold strings_Trim.f
    rw [if_pos ⟨by omega, of_decide_eq_true (by kernel_rfl), by kernel_rfl⟩, Option.bind_some, Go.Lib.toList_data]
    have e3 : s.data.toList.all (alphabet.contains ·) = s.data.toList.all letter := by
      congr 1
      funext b
      exact alphabet_letter b
    rw [← e3, ← trim_nil]
    rfl

theorem bt_get {s : ByteArray} {i : Nat} (h : i < s.size) : bt s (i : Int) = ((s.data.toList[i]'(by rw [← Go.Lib.size_eq]; exact h)).toNat : Int) := by
  rw [← bt_at s (i : Int) (by rw [Int.toNat_natCast]; exact h)]
  simp only [Int.toNat_natCast]
  rfl
theorem l1Name_l0 (s : ByteArray) (hs : s.size ≤ 12) : ∀ (d i k : Nat), i + d = s.size → d < k → spec_l1Name.l0 k s (i : Int) = some ((s.data.toList.drop i).all letter) := by
  intro d
  induction d with
  | zero =>
    intro i k hi hk
    obtain ⟨k, rfl⟩ : ∃ m, k = m + 1 := ⟨k - 1, by omega⟩
    rw [spec_l1Name.l0, if_neg (by omega), List.drop_of_length_le (by rw [← Go.Lib.size_eq]; omega)]
    rfl
  | succ d ih =>
    intro i k hi hk
    obtain ⟨k, rfl⟩ : ∃ m, k = m + 1 := ⟨k - 1, by omega⟩
    have hn := ih (i + 1) k (by omega) (by omega)
    have hlt : i < s.data.toList.length := by rw [← Go.Lib.size_eq]; omega
    rw [spec_l1Name.l0, if_pos (by omega), if_pos (by omega), bt_get (by omega), show wrap64 ((i : Int) + 1) = ((i + 1 : Nat) : Int) from by rw [w64 (by omega) (by omega)]; omega, hn, drop_get hlt, List.all_cons]
    generalize s.data.toList[i] = b
    generalize (List.drop (i + 1) s.data.toList).all letter = v
    unfold letter
    by_cases h1 : 97 ≤ b.toNat
    · rw [if_pos (by omega), decide_eq_true h1, Bool.true_and]
      by_cases h2 : b.toNat ≤ 122
      · rw [if_pos (by omega), decide_eq_true h2, Bool.true_or, Bool.true_and]
      · rw [if_neg (by omega), if_pos (by omega), if_neg (by omega), decide_eq_false h2, decide_eq_false (show ¬ b.toNat ≤ 90 by omega), Bool.and_false, Bool.false_or, Bool.false_and]
    · rw [if_neg (by omega), decide_eq_false h1, Bool.false_and, Bool.false_or]
      by_cases h2 : 65 ≤ b.toNat
      · rw [if_pos (by omega), decide_eq_true h2, Bool.true_and]
        by_cases h3 : b.toNat ≤ 90
        · rw [if_pos (by omega), decide_eq_true h3, Bool.true_and]
        · rw [if_neg (by omega), decide_eq_false h3, Bool.false_and]
      · rw [if_neg (by omega), decide_eq_false h2, Bool.false_and, Bool.false_and]

theorem l1Name_ok (s : ByteArray) {k : Nat} (hk : 12 < k) : spec_l1Name.f k s = some (nameB s) := by
  unfold spec_l1Name.f nameB
  rw [l1InB_ok, Option.bind_some, size_b]
  cases e : (decide (1 ≤ s.size) && decide (s.size ≤ 12)) with
  | false => rw [if_neg (by decide), Bool.false_and]
  | true =>
    rw [Bool.and_eq_true] at e
    have h1 := of_decide_eq_true e.2
    rw [if_pos rfl, Bool.true_and]
    have h := l1Name_l0 s h1 s.size 0 k (by omega) (by omega)
    rw [List.drop_zero] at h
    exact h

def aft : Option ByteArray → ByteArray → Bool
  | none, _ => true
  | some q, x => Op.bytesLess q.data.toList x.data.toList
/-- Tags in their order: behind a name, or at the beginning. -/
def tagsB : Option ByteArray → List Tg → Bool
  | _, [] => true
  | p, t :: r => nameB t.f0 && (nameB t.f1 && (aft p t.f0 && tagsB (some t.f0) r))
/-- The tag before a place. -/
def prevT (l : List Tg) (i : Nat) : Option ByteArray := if i = 0 then none else some (rdT l ((i - 1 : Nat) : Int)).f0
theorem rdT_get {l : List Tg} {i : Nat} (h : i < l.length) : rdT l (i : Int) = l[i] := by
  unfold rdT rd_T123
  rw [Int.toNat_natCast, List.getD_eq_getElem?_getD, List.getElem?_eq_getElem h]
  rfl
/-- A good key. -/
def keyB (m : ByteArray) (l : List Tg) (st : Int) : Bool := nameB m && (decide (l.length ≤ 4) && (decide (0 ≤ st) && decide (st ≤ 1000000000)) && tagsB none l)
theorem keyB_parts {m : ByteArray} {l : List Tg} {st : Int} (h : keyB m l st = true) : nameB m = true ∧ l.length ≤ 4 ∧ 0 ≤ st ∧ st ≤ 1000000000 ∧ tagsB none l = true := by
  unfold keyB at h
  simp only [Bool.and_eq_true] at h
  exact ⟨h.1, of_decide_eq_true h.2.1.1, of_decide_eq_true h.2.1.2.1, of_decide_eq_true h.2.1.2.2, h.2.2⟩
theorem tagsB_names : ∀ {l : List Tg} {p : Option ByteArray}, tagsB p l = true → ∀ t ∈ l, nameB t.f0 = true ∧ nameB t.f1 = true
  | [], _, _, t, ht => by simp at ht
  | a :: l, p, h, t, ht => by
    rw [tagsB, Bool.and_eq_true, Bool.and_eq_true, Bool.and_eq_true] at h
    rcases List.mem_cons.1 ht with rfl | ht
    · exact ⟨h.1, h.2.1⟩
    · exact tagsB_names h.2.2.2 t ht

theorem implKey_l0 (l : List Tg) (hl : l.length ≤ 4) (m : ByteArray) (st : Int) : ∀ (d i k : Nat), i + d = l.length → d < k → impl_GoodKey.l0 k l (l.length : Int) (i : Int) m l st = some (tagsB (prevT l i) (l.drop i)) := by
  intro d
  induction d with
  | zero =>
    intro i k hi hk
    obtain ⟨k, rfl⟩ : ∃ q, k = q + 1 := ⟨k - 1, by omega⟩
    rw [impl_GoodKey.l0, if_neg (by omega), List.drop_of_length_le (by omega)]
    rfl
  | succ d ih =>
    intro i k hi hk
    obtain ⟨k, rfl⟩ : ∃ q, k = q + 1 := ⟨k - 1, by omega⟩
    have hn := ih (i + 1) k (by omega) (by omega)
    have hlt : i < l.length := by omega
    have hp : prevT l (i + 1) = some l[i].f0 := by unfold prevT; rw [if_neg (by omega), Nat.add_sub_cancel, rdT_get hlt]
    rw [hp] at hn
    have e0 : rd_T123 l (i : Int) = l[i] := rdT_get hlt
    rw [impl_GoodKey.l0, if_pos (by omega), if_pos (by omega), if_pos (by omega), e0, isName_ok, isName_ok, Option.bind_some, show wrap64 ((i : Int) + 1) = ((i + 1 : Nat) : Int) from by rw [w64 (by omega) (by omega)]; omega, hn, drop_get hlt, tagsB]
    cases e1 : nameB l[i].f0 with
    | false => rw [if_neg (by decide), Bool.false_and]
    | true =>
      rw [if_pos rfl, Option.bind_some, Bool.true_and]
      cases e2 : nameB l[i].f1 with
      | false => rw [if_neg (by decide), Bool.false_and]
      | true =>
        rw [if_pos rfl, Bool.true_and]
        by_cases h0 : i = 0
        · rw [if_neg (by omega)]
          unfold prevT
          rw [if_pos h0, aft, Bool.true_and]
        · have e3 : wrap64 ((i : Int) - 1) = ((i - 1 : Nat) : Int) := by rw [w64 (by omega) (by omega)]; omega
          rw [if_pos (by omega), e3, if_pos (by omega), if_pos (by omega)]
          unfold prevT
          rw [if_neg h0, aft, Go.Lib.toList_data, Go.Lib.toList_data]
          show (if Op.bytesLess (rdT l ((i - 1 : Nat) : Int)).f0.data.toList l[i].f0.data.toList = true then _ else _) = _
          cases Op.bytesLess (rdT l ((i - 1 : Nat) : Int)).f0.data.toList l[i].f0.data.toList with
          | true => rw [if_pos rfl, Bool.true_and]
          | false => rw [if_neg (by decide), Bool.false_and]

theorem implKey_ok (m : ByteArray) (l : List Tg) (st : Int) {k : Nat} (hk : 6 < k) : impl_GoodKey.f k m l st = some (keyB m l st) := by
  obtain ⟨k, rfl⟩ : ∃ q, k = q + 1 := ⟨k - 1, by omega⟩
  unfold impl_GoodKey.f keyB
  rw [isName_ok, Option.bind_some, impl_GoodKey.j0, if_pos rfl]
  cases e1 : nameB m with
  | false => rw [if_neg (by decide), Bool.false_and]
  | true =>
    rw [if_pos rfl, Bool.true_and]
    by_cases h : l.length ≤ 4
    · rw [if_neg (by omega), withinB_ok, Option.bind_some, decide_eq_true h, Bool.true_and, impl_GoodKey.j0]
      have h0 := implKey_l0 l h m st l.length 0 k (by omega) (by omega)
      rw [List.drop_zero] at h0
      cases e2 : (decide (0 ≤ st) && decide (st ≤ 1000000000)) with
      | false => rw [if_pos (show (!false) = true from rfl), Bool.false_and]
      | true => rw [if_neg (show ¬ (!true) = true by decide), Bool.true_and]; exact h0
    · rw [if_pos (by omega), decide_eq_false h, Bool.false_and, Bool.false_and]

theorem specKey_l0 (l : List Tg) (hl : l.length ≤ 4) (m : ByteArray) (st : Int) : ∀ (d i k : Nat), i + d = l.length → d + 14 < k → spec_GoodKey.l0 k l (l.length : Int) (i : Int) m l st = some (tagsB (prevT l i) (l.drop i)) := by
  intro d
  induction d with
  | zero =>
    intro i k hi hk
    obtain ⟨k, rfl⟩ : ∃ q, k = q + 1 := ⟨k - 1, by omega⟩
    rw [spec_GoodKey.l0, if_neg (by omega), List.drop_of_length_le (by omega)]
    rfl
  | succ d ih =>
    intro i k hi hk
    obtain ⟨k, rfl⟩ : ∃ q, k = q + 1 := ⟨k - 1, by omega⟩
    have hn := ih (i + 1) k (by omega) (by omega)
    have hlt : i < l.length := by omega
    have hp : prevT l (i + 1) = some l[i].f0 := by unfold prevT; rw [if_neg (by omega), Nat.add_sub_cancel, rdT_get hlt]
    rw [hp] at hn
    have e0 : rd_T123 l (i : Int) = l[i] := rdT_get hlt
    rw [spec_GoodKey.l0, if_pos (by omega), if_pos (by omega), if_pos (by omega), e0, l1Name_ok _ (by omega), l1Name_ok _ (by omega), Option.bind_some, show wrap64 ((i : Int) + 1) = ((i + 1 : Nat) : Int) from by rw [w64 (by omega) (by omega)]; omega, hn, drop_get hlt, tagsB]
    cases e1 : nameB l[i].f0 with
    | false => rw [if_neg (by decide), Bool.false_and]
    | true =>
      rw [if_pos rfl, Option.bind_some, Bool.true_and]
      cases e2 : nameB l[i].f1 with
      | false => rw [if_neg (by decide), Bool.false_and]
      | true =>
        rw [if_pos rfl, Bool.true_and]
        by_cases h0 : i = 0
        · rw [if_neg (by omega)]
          unfold prevT
          rw [if_pos h0, aft, Bool.true_and]
        · have e3 : wrap64 ((i : Int) - 1) = ((i - 1 : Nat) : Int) := by rw [w64 (by omega) (by omega)]; omega
          rw [if_pos (by omega), e3, if_pos (by omega), if_pos (by omega)]
          unfold prevT
          rw [if_neg h0, aft, Go.Lib.toList_data, Go.Lib.toList_data]
          show (if Op.bytesLess (rdT l ((i - 1 : Nat) : Int)).f0.data.toList l[i].f0.data.toList = true then _ else _) = _
          cases Op.bytesLess (rdT l ((i - 1 : Nat) : Int)).f0.data.toList l[i].f0.data.toList with
          | true => rw [if_pos rfl, Bool.true_and]
          | false => rw [if_neg (by decide), Bool.false_and]

theorem specKey_ok (m : ByteArray) (l : List Tg) (st : Int) {k : Nat} (hk : 20 < k) : spec_GoodKey.f k m l st = some (keyB m l st) := by
  obtain ⟨k, rfl⟩ : ∃ q, k = q + 1 := ⟨k - 1, by omega⟩
  unfold spec_GoodKey.f keyB
  rw [l1Name_ok _ (by omega), Option.bind_some, spec_GoodKey.j0, if_pos rfl]
  cases e1 : nameB m with
  | false => rw [if_neg (by decide), Bool.false_and]
  | true =>
    rw [if_pos rfl, Bool.true_and]
    by_cases h : l.length ≤ 4
    · rw [if_neg (by omega), l1InB_ok, Option.bind_some, decide_eq_true h, Bool.true_and, spec_GoodKey.j0]
      have h0 := specKey_l0 l h m st l.length 0 k (by omega) (by omega)
      rw [List.drop_zero] at h0
      cases e2 : (decide (0 ≤ st) && decide (st ≤ 1000000000)) with
      | false => rw [if_pos (show (!false) = true from rfl), Bool.false_and]
      | true => rw [if_neg (show ¬ (!true) = true by decide), Bool.true_and]; exact h0
    · rw [if_pos (by omega), decide_eq_false h, Bool.false_and, Bool.false_and]

end Go.Proofs.YtkgmoajdcibafaaDoor.Lem

-- written by a program of this session's (wip/pp)
namespace Go.Proofs.YtkgmoajdcibafaaDoor.P
open Go.RowKit Go.Proofs.YtkgmoajdcibafaaDoorW.PrintWords Go.Proofs.YtkgmoajdcibafaaDoorW.PrintLast Go.Proofs.YtkgmoajdcibafaaDoorW.PrintMore
attribute [local go_sem] max2_int min2_int max_two min_two max_three min_three max_four min_four str_geq str_gtr str_leq   -- for this text's walks alone
set_option linter.unusedVariables false
set_option linter.unusedSimpArgs false

/-! ### impl_CompareKeys_1: function 103 -/
def impl_CompareKeys_1.f (k : Nat) (a0_0 : ByteArray) (a0_1 : ByteArray) (a1_0 : ByteArray) (a1_1 : ByteArray) : Option (Int) := (cmp_Compare_string.f a0_0 a1_0).bind fun t103 => ((cmp_Compare_string.f a0_1 a1_1).bind fun t104 => ((cmp_Or_int.f k (([t103, t104] : List Int))).bind fun t108 => (some t108)))
theorem impl_CompareKeys_1.mono : ∀ a0 a1 a2 a3 k, LeO (impl_CompareKeys_1.f k a0 a1 a2 a3) (impl_CompareKeys_1.f (k + 1) a0 a1 a2 a3) := by
 intro a0 a1 a2 a3 k
 have m0 := @cmp_Or_int.mono
 unfold impl_CompareKeys_1.f
 exact moZ
def impl_CompareKeys_1.T1 : Bool × List (List Nat × List Nat) := (true, [([], []), ([0], [0]), ([], []), ([2], [2]), ([1, 3], [1, 3]), ([], []), ([5], [5]), ([], []), ([7], [7]), ([6, 8, 4], [6, 8]), ([4, 9], [4, 9]), ([10, 9], [10]), ([11, 11, 0, 1, 2, 3, 4, 5, 6, 7, 8, 9, 10, 11], [11])])
def impl_CompareKeys_1.B1 : List Nat := [0, 1, 0, 4, 15, 0, 32, 0, 128, 511, 1023, 2047, 4095]
theorem impl_CompareKeys_1.tab1 : rtab .any (opsOf Tryd.f103 1) = impl_CompareKeys_1.T1 := by kernel_rfl
theorem impl_CompareKeys_1.bits1 : waitsOk impl_CompareKeys_1.T1.2 impl_CompareKeys_1.B1 = true := by kernel_rfl
set_option maxHeartbeats 8000000 in
set_option maxRecDepth 100000 in
theorem impl_CompareKeys_1.calls (k : Nat) (a0_0 : ByteArray) (a0_1 : ByteArray) (a1_0 : ByteArray) (a1_1 : ByteArray) (r : Int) (w : World) (h : impl_CompareKeys_1.f k a0_0 a0_1 a1_0 a1_1 = some r) :
 Calls Tryd.prog 103 #[.agg #[.string a0_0, .string a0_1], .agg #[.string a1_0, .string a1_1]] w fun e w' => e = .returned (.int .i64 r) ∧ Below w.heap.size w w' := by
 have hu123 := Tryd.underlying123
 have HB := aM (Below.refl w.heap.size w)
 have H : ((cmp_Compare_string.f a0_0 a1_0).bind fun t103 => ((cmp_Compare_string.f a0_1 a1_1).bind fun t104 => ((cmp_Or_int.f k (([t103, t104] : List Int))).bind fun t108 => (some t108)))) = some r := h
 clear h
 obtain ⟨t103, A3, H⟩ := bS H; try dsimp only at H
 obtain ⟨t104, A4, H⟩ := bS H; try dsimp only at H
 obtain ⟨y105, hy105⟩ : ∃ y_ : List Int, y_ = (([t103, t104] : List Int)) := ⟨_, rfl⟩
 first | (replace H := bindS H; rw [← hy105] at H; try dsimp only at H) | rw [← hy105] at H
 have Ny105 := aM hy105
 clear hy105
 obtain ⟨t108, A5, H⟩ := bS H; try dsimp only at H
 obtain rfl := Option.some.inj H
 go_enter Tryd.func103, Tryd.ntmps103
 try go_wp2_with (first | ((with_reducible refine gate_dst (N := 2) rfl ?_); refine bX 2 123 #[.string a0_0, .string a0_1] ?_; intro gb101 hg w6 hbox hb; have _ := aM (below_step hbZ hb); have _ := aM hbox; have _ := szZ hg; have _ := szZ hg; clear HB; rename_i HB BK101 GW101 GE101; clear hb hbox hg) | ((with_reducible refine gate_dst (N := 3) rfl ?_); refine bX 3 123 #[.string a1_0, .string a1_1] ?_; intro gb102 hg w7 hbox hb; have _ := bB gb101 hb; have _ := aM (below_step hbZ hb); have _ := aM hbox; have _ := szZ hg; have _ := szZ hg; have ⟨_, _⟩ := nbB gb101 hg; clear BK101 HB; rename_i BK101 HB BK102 GW102 GE102 NB101_102 NB102_101; clear hb hbox hg))
 have _ := aM (blk_drew BK101.out)
 have _ := aM (blk_drew BK102.out)
 have _ := aM (below_drew1 HB.out)
 clear BK101
 clear BK102
 clear HB
 rename_i BK101 BK102 HB
 refine sA 13 impl_CompareKeys_1.tab1 impl_CompareKeys_1.bits1 (fun w' => w'.cell? ⟨gb101, 0, none⟩ = some (.string a0_0) ∧ w'.cell? ⟨gb101, 1, none⟩ = some (.string a0_1) ∧ w'.cell? ⟨gb102, 0, none⟩ = some (.string a1_0) ∧ w'.cell? ⟨gb102, 1, none⟩ = some (.string a1_1)) [] (fun hHeld HT_ HW_ => ?_)
 generalize w7.drew = w8 at BK101 BK102 HB hHeld ⊢
 refine pA 0 5 HT_ ?_; refine pA 2 7 HT_ ?_; refine pA 5 10 HT_ ?_; refine pA 7 12 HT_ ?_; refine tA 1 6 HT_ HW_ hHeld ?_; refine tA 3 8 HT_ HW_ hHeld ?_; refine tA 6 11 HT_ HW_ hHeld ?_; refine tA 8 13 HT_ HW_ hHeld ?_; refine oA 4 9 HT_ (fun K hK => ?_)
 refine goes_ Tryd.func105 (by kernel_rfl) rfl #[.string a0_0, .string a1_0] (by rfl) rfl rfl zee81 ?_
 with_reducible refine (cmp_Compare_string.calls a0_0 a1_0 t103 _ A3.out).mono ?_
 rintro e w' ⟨rfl, ⟨nd, rfl⟩⟩
 refine ⟨_, rfl, ?_⟩
 refine hK.out _ _ sZ (fun hHeld => ?_)
 clear hK K
 refine nA 9 ?_; refine oA 9 14 HT_ (fun K hK => ?_)
 refine goes_ Tryd.func105 (by kernel_rfl) rfl #[.string a0_1, .string a1_1] (by rfl) rfl rfl zee81 ?_
 with_reducible refine (cmp_Compare_string.calls a0_1 a1_1 t104 _ A4.out).mono ?_
 rintro e w' ⟨rfl, ⟨nd, rfl⟩⟩
 refine ⟨_, rfl, ?_⟩
 refine hK.out _ _ sZ (fun hHeld => ?_)
 clear hK K
 refine nA 14 ?_; refine oA 10 15 HT_ (fun K hK => ?_)
 refine Kd.R_lit_step (Kd.int .i64) _ 3 ?hg (N := 15) ?hd (xs := ([t103, t104] : List Int)) (inner := [.int .i64 t103, .int .i64 t104]) (ok := fun _ => True) (okp := fun _ => True) ?hr ?hp (fun _ hk => hk) trivial (Below.refl _ _) (Nat.le_refl _) (by simp) ?_; (case hd => rfl); (case hg => rfl); (case hr => first | (go_simp; done) | (go_simp; rfl)); (case hp => exact (Reps.one (show Kd.M (Kd.int .i64) _ _ _ t103 [.int .i64 t103] from rfl) (Reps.one (show Kd.M (Kd.int .i64) _ _ _ t104 [.int .i64 t104] from rfl) (Reps.none _ _))))
 intro v106 w9 ho10 hb hg_ hnew_
 clear hg_ hnew_
 (first | rw [← Ny105.out] at ho10 | (simp only [Int.reduceToNat] at ho10; rw [← Ny105.out] at ho10))
 have _ := aM (Kd.R_lower ho10 (below_size hbZ))
 have _ := bB gb101 hb
 have _ := bB gb102 hb
 have _ := aM (below_step hbZ hb)
 clear BK101
 clear BK102
 clear HB
 rename_i HO107 BK101 BK102 HB
 clear hb ho10
 obtain ⟨Ao11, co11, eo11⟩ := Kd.R_slice HO107.out
 (first | subst eo11 | (injection eo11 with f1_ f2_ f3_; have f4_ := f1_.symm; have f5_ := f3_.symm; clear f1_ f2_ f3_; subst f4_; subst f5_))
 refine hK.out _ _ sZ (fun hHeld => ?_)
 clear hK K
 refine nA 15 ?_; refine oA 11 16 HT_ (fun K hK => ?_)
 refine goes_ Tryd.func104 (by kernel_rfl) rfl #[.slice Ao11 y105.length co11] (by rfl) rfl rfl zee81 ?_
 with_reducible refine (cmp_Or_int.calls k _ _ y105 t108 _ ?side1 ?side2 A5.out).mono ?_
 (case side1 => exact (by repeat (first | exact (Kd.R_reads' HO107.out).2.2 | (with_reducible refine Kd.C_alloc ?_ _) | (with_reducible refine Kd.C_drewN ?_ _) | (with_reducible refine Kd.C_drew ?_))))
 (case side2 => exact (Kd.R_reads' HO107.out).2.1)
 rintro e w' ⟨rfl, ⟨nd, rfl⟩⟩
 refine ⟨_, rfl, ?_⟩
 refine hK.out _ _ sZ (fun hHeld => ?_)
 clear hK K
 refine nA 16 ?_; refine pA 12 4 HT_ ?_
 refine done_ (done_of HT_.out (by kernel_rfl)) ?_
 try go_wp2
 go_ret
 exact ⟨z674d, zcb41⟩

end Go.Proofs.YtkgmoajdcibafaaDoor.P
