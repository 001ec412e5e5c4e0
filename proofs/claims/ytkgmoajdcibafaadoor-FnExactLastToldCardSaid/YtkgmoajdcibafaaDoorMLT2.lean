/- Part 2 of the walks and words that LT uses. No conditions of its own. -/
import Derived.Test.YtkgmoajdcibafaaDoorProg
import Derived.Below
import Derived.Deep.Draws
import Derived.Deep.AppendLies
import Derived.Maps.AppendAt
import Derived.OwnWalk
import Derived.Laws.BytesArg
import Derived.Laws.MakeOwn
import Derived.Laws.OwnMore
import Derived.Deep.OwnRows
import Derived.Tactics
import Derived.Lib.ConvBytes
import Derived.Laws.Slices
import Derived.WalkKit
import Derived.KernelRfl
import Derived.RowKit3
import Derived.Deep.LoopGhost
import Derived.Deep.QuietTactic
import Derived.BigQuiet
import Derived.WideLaws
import Derived.Deep.DeepCutAuto
import Derived.Deep.CutBlock
import Derived.Deep.RegionHeld3
import Derived.Laws.Rows
import Derived.Lib.AppendStr
import Derived.ArgAppend
import Derived.Laws.IdiomCopy
import Derived.OrdersHeld
import Derived.Laws.BitsLemmas
import Derived.RowKit
import Derived.Lib.SliceRun
import Derived.Shelf.RegionOpenPlain
import Derived.Lib.AppendZeros
import Derived.Lib.AppendZerosOnto
import Derived.Lib.Overlaps
import Derived.Laws.Externs
import Derived.Laws.CopyRow
import Derived.Shelf.Strings.SlTrimAscii
import Derived.Shelf.Strings.Trim
import Derived.Shelf.Small.Utf8
import Derived.Shelf.Small.Strs
import Derived.Shelf.Strings.Search1
import Derived.Shelf.Strings.Runes
import Derived.Shelf.Strings.AsciiSet
import Derived.Shelf.Unicode.DecodeSlow
import Derived.Lib.SlTrimSet
import Derived.Test.YtkgmoajdcibafaaDoorMLT1

section
/- Short words for the walks: each is a proof of its statement, found where it is used. No conditions. -/
namespace Go.Proofs.YtkgmoajdcibafaaDoor.P
open Go.RowKit Go.Proofs.YtkgmoajdcibafaaDoorW.PrintWords Go.Proofs.YtkgmoajdcibafaaDoorW.PrintLast Go.Proofs.YtkgmoajdcibafaaDoorW.PrintMore
theorem less_tri : ∀ a b : List UInt8, Op.bytesLess b a = !(Op.bytesLess a b || a == b)
  | [], [] => rfl
  | [], _ :: _ => rfl
  | _ :: _, [] => rfl
  | a :: x, b :: y => by
    rw [Op.bytesLess, Op.bytesLess, less_tri x y, List.cons_beq_cons]
    by_cases h : a = b
    · subst h
      rw [beq_self_eq_true, show decide (a < a) = false from decide_eq_false (by rw [UInt8.lt_iff_toNat_lt]; omega)]
      simp only [Bool.true_and, Bool.false_or]
    · have h' : a.toNat ≠ b.toNat := fun e => h (UInt8.toNat_inj.1 e)
      have e1 : (a == b) = false := beq_eq_false_iff_ne.2 h
      have e2 : (b == a) = false := beq_eq_false_iff_ne.2 (Ne.symm h)
      rw [e1, e2, Bool.false_and, Bool.false_and, Bool.or_false, Bool.or_false, Bool.false_and, Bool.or_false]
      by_cases hl : a < b
      · rw [decide_eq_true hl, decide_eq_false (by rw [UInt8.lt_iff_toNat_lt] at hl ⊢; omega)]; rfl
      · rw [decide_eq_false hl, decide_eq_true (by rw [UInt8.lt_iff_toNat_lt] at hl ⊢; omega)]; rfl
theorem str_geq (t : TypeId) (a b : ByteArray) : binOp .geq t (.string a) (.string b) = pure (.bool !(Op.bytesLess a.toList b.toList)) := by simp [binOp, Op.stringOp]
theorem str_gtr (t : TypeId) (a b : ByteArray) : binOp .gtr t (.string a) (.string b) = pure (.bool (Op.bytesLess b.toList a.toList)) := by rw [less_tri a.toList b.toList]; simp [binOp, Op.stringOp]
theorem str_leq (t : TypeId) (a b : ByteArray) : binOp .leq t (.string a) (.string b) = pure (.bool !(Op.bytesLess b.toList a.toList)) := by rw [less_tri a.toList b.toList]; simp [binOp, Op.stringOp]
set_option linter.unusedVariables false
section
variable {P : Program} {md : Region.Mode} {ops : Array Oper} {Q : Exit → Act → World → Prop} {S : World → Prop} {ds : List Nat} {T : Bool × List (List Nat × List Nat)} {B : List Nat} {oi : Oper} {v : Value} {fuel : Nat} {l l' : Array Bool} {a a' : Act} {w : World}
theorem pA (i N : Nat) (hT : Aside0 (rtab md ops = T)) (h : wpAnyLast P md ops Q S ds fuel l' a' w) (hi : ops[i]? = some oi := by rfl) (hN : oi.dst = some N := by rfl)
    (hl : l.setIfInBounds i true = l' := by simp only [List.setIfInBounds_toArray, List.set_cons_zero, List.set_cons_succ]; rfl) (hc : anyT T l.toList l'.toList i = true := by kernel_rfl)
    (hQ : ∀ c a w, Q (.panic c) (a.put oi.dst v) w → Q (.panic c) a w := by exact fun _ _ _ h => h) (hw : Region.wanted oi (yielded ops a.tmps) = true := by rfl)
    (hy : ∀ w', (execOp a.eval oi).run P w' = .ok (.value v) w' := by intro w'; go_simp; with_reducible rfl) (ha : a.put (some N) v = a' := by simp only [Act.put, List.setIfInBounds_toArray, List.set_cons_zero, List.set_cons_succ, i64_w, i32_w]; rfl) : wpAnyLast P md ops Q S ds (fuel + 1) l a w :=
  pure_ l' hi hN (any_of hT.out hc) hQ (Or.inl ⟨hw, hy⟩) ha h
theorem uA (i N : Nat) (hT : Aside0 (rtab md ops = T)) (h : wpAnyLast P md ops Q S ds fuel l' a' w) (hi : ops[i]? = some oi := by rfl) (hN : oi.dst = some N := by rfl)
    (hl : l.setIfInBounds i true = l' := by simp only [List.setIfInBounds_toArray, List.set_cons_zero, List.set_cons_succ]; rfl) (hc : anyT T l.toList l'.toList i = true := by kernel_rfl)
    (hQ : ∀ c a w, Q (.panic c) (a.put oi.dst undef) w → Q (.panic c) a w := by exact fun _ _ _ h => h) (hw : Region.wanted oi (yielded ops a.tmps) = false := by rfl)
    (ha : a.put (some N) undef = a' := by simp only [Act.put, List.setIfInBounds_toArray, List.set_cons_zero, List.set_cons_succ, i64_w, i32_w]; rfl) : wpAnyLast P md ops Q S ds (fuel + 1) l a w :=
  pure_ l' hi hN (any_of hT.out hc) hQ (Or.inr ⟨hw, rfl⟩) ha h
theorem tA (i N : Nat) (hT : Aside0 (rtab md ops = T)) (hB : Aside0 (waitsOk T.2 B = true)) (hS : S w) (h : wpAnyLast P md ops Q S ds fuel l' a' w) (hi : ops[i]? = some oi := by rfl) (hN : oi.dst = some N := by rfl)
    (hl : l.setIfInBounds i true = l' := by simp only [List.setIfInBounds_toArray, List.set_cons_zero, List.set_cons_succ]; rfl) (hc : takeW T B ds l.toList l'.toList i = true := by kernel_rfl)
    (hQ : ∀ c a w, Q (.panic c) (a.put oi.dst v) w → Q (.panic c) a w := by exact fun _ _ _ h => h) (hw : Region.wanted oi (yielded ops a.tmps) = true := by rfl)
    (hy : ∀ w', S w' → (execOp a.eval oi).run P w' = .ok (.value v) w' := by intro w' hS_; (repeat (obtain ⟨_, hS_⟩ := hS_)); go_simp; with_reducible rfl) (ha : a.put (some N) v = a' := by simp only [Act.put, List.setIfInBounds_toArray, List.set_cons_zero, List.set_cons_succ, i64_w, i32_w]; rfl) : wpAnyLast P md ops Q S ds (fuel + 1) l a w :=
  take_ l' hi hN (take_ofW hT.out hB.out hc) hQ (Or.inl ⟨hw, hy⟩) hS ha h
theorem oA (i N : Nat) (hT : Aside0 (rtab md ops = T)) (h : ∀ K : Act → World → Prop, Shut (∀ a' w', S w' → (S w' → wpAnyLast P md ops Q S ds fuel l' a' w') → K a' w') → if Region.wanted oi (yielded ops a.tmps) = true then Oper.wp P oi a w K Q else K (a.put (some N) undef) w)
    (hi : ops[i]? = some oi := by rfl) (hN : oi.dst = some N := by rfl) (hl : l.setIfInBounds i true = l' := by simp only [List.setIfInBounds_toArray, List.set_cons_zero, List.set_cons_succ]; rfl)
    (hc : (readyT T.2 l.toList == [i] && l.toList.set i true == l'.toList) = true := by kernel_rfl) (hd : i ∉ ds := by decide) : wpAnyLast P md ops Q S ds (fuel + 1) l a w :=
  one_ l' hi hN (one_of hT.out hc) hd h
theorem nA (N : Nat) {d : Option Tmp} (h : wpAnyLast P md ops Q S ds fuel l a' w) (hd : d = some N := by rfl) (ha : a.put (some N) v = a' := by simp only [Act.put, List.setIfInBounds_toArray, List.set_cons_zero, List.set_cons_succ, i64_w, i32_w]; rfl) : wpAnyLast P md ops Q S ds fuel l (a.put d v) w := norm_ (hd ▸ ha) h
theorem sA {id : Nat} (n : Nat) (hT : rtab .any ops = T) (hB : waitsOk T.2 B = true) (S : World → Prop) (ds : List Nat) (h : S w.drew → Aside0 (rtab .any ops = T) → Aside0 (waitsOk T.2 B = true) → wpAnyLast P .any ops Q S ds n l a w.drew)
    (hm : P.follows .mixedOrders = true := by kernel_rfl) (hn : ops.size = n := by rfl) (hl : (List.replicate n false).toArray = l := by simp only [List.replicate]; rfl) (hS : S w.drew := by (repeat' apply And.intro) <;> first | trivial | exact Eq.trans (blk_cell (Aside0.out (by assumption)) _) (by rfl) | assumption | exact (HB.out.cell (World.block_lt_of_cell? w _ (by assumption))).trans (by assumption)) : (Code.region id ops true).wp P Q a w :=
  start_ l hm hn hl hS (fun hh => h hh ⟨hT⟩ ⟨hB⟩)
end
theorem sZ {p : Prop} (h : p := by (repeat' apply And.intro) <;> first | trivial | exact Eq.trans (blk_cell (Aside0.out (by assumption)) _) (by rfl) | assumption | exact (HB.out.cell (World.block_lt_of_cell? w _ (by assumption))).trans (by assumption)) : p := h
theorem ifS {α : Type} {c : Prop} [Decidable c] {x : Option α} {r : α} (h : (if c then x else none) = some r) : c ∧ x = some r := by
  by_cases hc : c
  · rw [if_pos hc] at h; exact ⟨hc, h⟩
  · rw [if_neg hc] at h; cases h
theorem ifN {α : Type} {c : Prop} [Decidable c] {x : Option α} {r : α} (h : (if c then none else x) = some r) : ¬ c ∧ x = some r := by
  by_cases hc : c
  · rw [if_pos hc] at h; cases h
  · rw [if_neg hc] at h; exact ⟨hc, h⟩
theorem bindS {α β : Type} {x : α} {f : α → Option β} {r : β} (h : (some x).bind f = some r) : f x = some r := h
theorem hbZ {p : Prop} (h : p := by repeat (first | (with_reducible first | exact HB.out | apply below_alloc | apply pw_below_drewN | apply below_drew1 | refine below_set ?_ (Aside0.out (by assumption))) | exact HB.out)) : p := h
theorem putR {cs cs' : Array Value} {i : Nat} {u : Value} (h : cs.setIfInBounds i u = cs') : cs.setIfInBounds i u = cs' := h
theorem neZ {a b : Nat} (h : a ≠ b) : a ≠ b := h
theorem blk_farZ {w : World} {g gp i : Nat} {t : TypeId} {cs : Array Value} {u : Value} (h : w.heap[g]? = some (.cells cs t (0, 0))) (hp : g ≠ gp) : (w.setCell ⟨gp, i, none⟩ u).heap[g]? = some (.cells cs t (0, 0)) := blk_far h hp u
theorem blk_eqZ {w : World} {g : Nat} {t : TypeId} {cs cs' : Array Value} {z : Nat × Nat} (h : w.heap[g]? = some (.cells cs t z)) (e : cs = cs') : w.heap[g]? = some (.cells cs' t z) := e ▸ h
theorem blk_put0 {w : World} {g i : Nat} {t : TypeId} {cs : Array Value} {u : Value} (h : w.heap[g]? = some (.cells cs t (0, 0))) : (w.setCell ⟨g, i, none⟩ u).heap[g]? = some (.cells (cs.setIfInBounds i u) t (0, 0)) := blk_set h i u
theorem bkZ {p : Prop} (h : p := by first | (with_reducible exact (Aside0.out (by assumption))) | (apply blk_eqZ; (repeat (first | (with_reducible first | refine blk_drewN ?_ _ | refine blk_drew ?_ | refine blk_alloc ?_ _ | exact (Aside0.out (by assumption)) | apply blk_put0 | apply blk_farZ) | exact neZ (Aside0.out (by assumption)))); first | (simp only [List.setIfInBounds_toArray, List.set_cons_zero, List.set_cons_succ] <;> rfl) | rfl) | (repeat (first | (with_reducible first | refine blk_drewN ?_ _ | refine blk_drew ?_ | refine blk_alloc ?_ _ | exact (Aside0.out (by assumption)) | apply blk_put | apply blk_farZ) | ((with_reducible refine putR ?_); simp only [List.setIfInBounds_toArray, List.set_cons_zero, List.set_cons_succ] <;> rfl) | exact putR rfl | exact neZ (Aside0.out (by assumption)) | with_reducible apply blk_far))) : p := h
theorem rZ {p q : Prop} (h0 : p) (h : p → q := by intro h_; (with_reducible repeat (first | apply Kd.R_alloc | apply Kd.R_drewN | apply Kd.R_drew)); exact h_) : q := h h0
theorem vZ {p q : Prop} (h0 : p) (h : p → q := by intro h_; (with_reducible repeat (first | apply Kd.V_alloc | apply Kd.V_drewN | apply Kd.V_drew)); exact h_) : q := h h0
theorem aM {p : Prop} (h : p) : Aside0 p := ⟨h⟩
theorem nbL {w : World} {gb : Nat} (g : Nat) {o : Obj} (hg : gb = w.heap.size) (hb : w.heap[g]? = some o := by exact bkZ) : Aside0 (g ≠ gb) := ⟨by rw [hg]; exact Nat.ne_of_lt (blk_lt hb)⟩
theorem nbR {w : World} {gb : Nat} (g : Nat) {o : Obj} (hg : gb = w.heap.size) (hb : w.heap[g]? = some o := by exact bkZ) : Aside0 (gb ≠ g) := ⟨by rw [hg]; exact Nat.ne_of_gt (blk_lt hb)⟩
theorem szZ {w w0 : World} {gb : Nat} (hg : gb = w.heap.size) (hb : Below w0.heap.size w0 w := by exact hbZ) : Aside0 (w0.heap.size ≤ gb) := ⟨by rw [hg]; exact below_size hb⟩
theorem cZ {p q : Prop} (h0 : p) (h : p → q := by intro h_; repeat (first | exact h_ | (with_reducible refine Kd.C_alloc ?_ _) | (with_reducible refine Kd.C_drewN ?_ _) | (with_reducible refine Kd.C_drew ?_))) : q := h h0
theorem bB {w w1 : World} (g : Nat) {o : Obj} (hb : Below w.heap.size w w1) (h : w.heap[g]? = some o := by exact bkZ) : Aside0 (w1.heap[g]? = some o) := ⟨blk_below h hb⟩
theorem nbB {w : World} {gb : Nat} (g : Nat) {o : Obj} (hg : gb = w.heap.size) (hb : w.heap[g]? = some o := by exact bkZ) : Aside0 (g ≠ gb) ∧ Aside0 (gb ≠ g) := ⟨nbL g hg hb, nbR g hg hb⟩
theorem rF3 {α : Type} {d : Kd α} {e : Nat} {w : World} {base : Nat} {ok : Nat → Prop} {v : Value} {xs : List α} {g t : Nat} {cells : Array Value} {a0 a1 a2 : Value} (h : Kd.R d e w base ok v xs) (hb : w.heap[g]? = some (.cells cells t (0, 0))) (ht : ∀ q, q ∈ e :: d.E → q ≠ t := by decide) : Kd.R d e (((w.setCell ⟨g, 0, none⟩ a0).setCell ⟨g, 1, none⟩ a1).setCell ⟨g, 2, none⟩ a2) base ok v xs := Kd.R_mono (Kd.R_far (p := ⟨g, 2, none⟩) (Kd.R_far (p := ⟨g, 1, none⟩) (Kd.R_far (p := ⟨g, 0, none⟩) (Kd.R_types h hb ht) (fun _ hk => hk.2) a0) (fun _ hk => hk.2) a1) (fun _ hk => hk.2) a2) (fun _ h_ => h_.1)
theorem rF4 {α : Type} {d : Kd α} {e : Nat} {w : World} {base : Nat} {ok : Nat → Prop} {v : Value} {xs : List α} {g t : Nat} {cells : Array Value} {a0 a1 a2 a3 : Value} (h : Kd.R d e w base ok v xs) (hb : w.heap[g]? = some (.cells cells t (0, 0))) (ht : ∀ q, q ∈ e :: d.E → q ≠ t := by decide) : Kd.R d e ((((w.setCell ⟨g, 0, none⟩ a0).setCell ⟨g, 1, none⟩ a1).setCell ⟨g, 2, none⟩ a2).setCell ⟨g, 3, none⟩ a3) base ok v xs := Kd.R_mono (Kd.R_far (p := ⟨g, 3, none⟩) (Kd.R_far (p := ⟨g, 2, none⟩) (Kd.R_far (p := ⟨g, 1, none⟩) (Kd.R_far (p := ⟨g, 0, none⟩) (Kd.R_types h hb ht) (fun _ hk => hk.2) a0) (fun _ hk => hk.2) a1) (fun _ hk => hk.2) a2) (fun _ hk => hk.2) a3) (fun _ h_ => h_.1)
theorem cellsZ2 {w : World} {g : Nat} {t : TypeId} {a0 a1 : Value} (h : w.heap[g]? = some (.cells #[a0, a1] t (0, 0))) : w.cell? ⟨g, 0, none⟩ = some a0 ∧ w.cell? ⟨g, 1, none⟩ = some a1 ∧ w.frozen? ⟨g, 0, none⟩ = false ∧ w.frozen? ⟨g, 1, none⟩ = false := ⟨(blk_cell h 0).trans rfl, (blk_cell h 1).trans rfl, blk_frozen h 0, blk_frozen h 1⟩
theorem cellsZ3 {w : World} {g : Nat} {t : TypeId} {a0 a1 a2 : Value} (h : w.heap[g]? = some (.cells #[a0, a1, a2] t (0, 0))) : w.cell? ⟨g, 0, none⟩ = some a0 ∧ w.cell? ⟨g, 1, none⟩ = some a1 ∧ w.cell? ⟨g, 2, none⟩ = some a2 ∧ w.frozen? ⟨g, 0, none⟩ = false ∧ w.frozen? ⟨g, 1, none⟩ = false ∧ w.frozen? ⟨g, 2, none⟩ = false := ⟨(blk_cell h 0).trans rfl, (blk_cell h 1).trans rfl, (blk_cell h 2).trans rfl, blk_frozen h 0, blk_frozen h 1, blk_frozen h 2⟩
theorem cellsZ6 {w : World} {g : Nat} {t : TypeId} {a0 a1 a2 a3 a4 a5 : Value} (h : w.heap[g]? = some (.cells #[a0, a1, a2, a3, a4, a5] t (0, 0))) : w.cell? ⟨g, 0, none⟩ = some a0 ∧ w.cell? ⟨g, 1, none⟩ = some a1 ∧ w.cell? ⟨g, 2, none⟩ = some a2 ∧ w.cell? ⟨g, 3, none⟩ = some a3 ∧ w.cell? ⟨g, 4, none⟩ = some a4 ∧ w.cell? ⟨g, 5, none⟩ = some a5 ∧ w.frozen? ⟨g, 0, none⟩ = false ∧ w.frozen? ⟨g, 1, none⟩ = false ∧ w.frozen? ⟨g, 2, none⟩ = false ∧ w.frozen? ⟨g, 3, none⟩ = false ∧ w.frozen? ⟨g, 4, none⟩ = false ∧ w.frozen? ⟨g, 5, none⟩ = false := ⟨(blk_cell h 0).trans rfl, (blk_cell h 1).trans rfl, (blk_cell h 2).trans rfl, (blk_cell h 3).trans rfl, (blk_cell h 4).trans rfl, (blk_cell h 5).trans rfl, blk_frozen h 0, blk_frozen h 1, blk_frozen h 2, blk_frozen h 3, blk_frozen h 4, blk_frozen h 5⟩
theorem cellsZ10 {w : World} {g : Nat} {t : TypeId} {a0 a1 a2 a3 a4 a5 a6 a7 a8 a9 : Value} (h : w.heap[g]? = some (.cells #[a0, a1, a2, a3, a4, a5, a6, a7, a8, a9] t (0, 0))) : w.cell? ⟨g, 0, none⟩ = some a0 ∧ w.cell? ⟨g, 1, none⟩ = some a1 ∧ w.cell? ⟨g, 2, none⟩ = some a2 ∧ w.cell? ⟨g, 3, none⟩ = some a3 ∧ w.cell? ⟨g, 4, none⟩ = some a4 ∧ w.cell? ⟨g, 5, none⟩ = some a5 ∧ w.cell? ⟨g, 6, none⟩ = some a6 ∧ w.cell? ⟨g, 7, none⟩ = some a7 ∧ w.cell? ⟨g, 8, none⟩ = some a8 ∧ w.cell? ⟨g, 9, none⟩ = some a9 ∧ w.frozen? ⟨g, 0, none⟩ = false ∧ w.frozen? ⟨g, 1, none⟩ = false ∧ w.frozen? ⟨g, 2, none⟩ = false ∧ w.frozen? ⟨g, 3, none⟩ = false ∧ w.frozen? ⟨g, 4, none⟩ = false ∧ w.frozen? ⟨g, 5, none⟩ = false ∧ w.frozen? ⟨g, 6, none⟩ = false ∧ w.frozen? ⟨g, 7, none⟩ = false ∧ w.frozen? ⟨g, 8, none⟩ = false ∧ w.frozen? ⟨g, 9, none⟩ = false := ⟨(blk_cell h 0).trans rfl, (blk_cell h 1).trans rfl, (blk_cell h 2).trans rfl, (blk_cell h 3).trans rfl, (blk_cell h 4).trans rfl, (blk_cell h 5).trans rfl, (blk_cell h 6).trans rfl, (blk_cell h 7).trans rfl, (blk_cell h 8).trans rfl, (blk_cell h 9).trans rfl, blk_frozen h 0, blk_frozen h 1, blk_frozen h 2, blk_frozen h 3, blk_frozen h 4, blk_frozen h 5, blk_frozen h 6, blk_frozen h 7, blk_frozen h 8, blk_frozen h 9⟩
theorem z1200 {p : Prop} (h : p := by first | (with_reducible assumption) | assumption) : p := h
theorem z1bd3 {p : Prop} (h : p := by (with_reducible repeat (first | apply Kd.S_alloc | apply Kd.S_drewN | apply Kd.S_drew)); exact HO103.out) : p := h
theorem z2bfb {p : Prop} (h : p := by first | exact Kd.S_nil _ _ _ _ _ | exact Kd.N_nil _ _ _ _ _ | exact Kd.V_nil _ _ _ _ _ | exact Kd.Q_nil _ _ _ _ _ | exact Kd.R_nil _ _ _ _ _) : p := h
theorem z4195 {p : Prop} (h : p := by repeat (first | exact HR0.out | (with_reducible refine Kd.C_alloc ?_ _) | (with_reducible refine Kd.C_drewN ?_ _) | (with_reducible refine Kd.C_drew ?_))) : p := h
theorem z4458 {p : Prop} (h : p := by first | rfl | (simp; done) | (simp [*]; done)) : p := h
theorem z5acd {p : Prop} (h : p := by repeat (first | (with_reducible first | exact HB.out | apply below_alloc | apply pw_below_drewN | apply below_drew1) | exact HB.out)) : p := h
theorem z674d {p : Prop} (h : p := by first | rfl | (simp [errW_none, errW_some] <;> rfl) | (simp [*, errW_none, errW_some] <;> rfl)) : p := h
theorem z715c {p : Prop} (h : p := by have := HK1.out; have := HK2.out; first | omega | exact Nat.le_refl _) : p := h
theorem z7d56 {p : Prop} (h : p := by repeat (first | (with_reducible first | exact HK.out | apply Kept.alloc | apply Kept.drewN | apply Kept.drew) | exact HK.out)) : p := h
theorem za9de {p : Prop} (h : p := by repeat (first | exact Drawn0.refl _ | apply Drawn0.step)) : p := h
theorem zb79b {p : Prop} (h : p := by first | omega | exact Nat.le_refl _) : p := h
theorem zc2be {p : Prop} (h : p := by have := HK1.out; have := HK2.out; omega) : p := h
theorem zcb41 {p : Prop} (h : p := by repeat (first | (with_reducible first | exact HB.out | apply below_alloc | apply pw_below_drewN | apply below_drew1 | refine below_set ?_ (Aside0.out (by assumption))) | exact HB.out)) : p := h
theorem zd74a {p : Prop} (h : p := by (with_reducible repeat (first | apply Kd.S_alloc | apply Kd.S_drewN | apply Kd.S_drew)); exact HO_3.out) : p := h
theorem ze59a {p : Prop} (h : p := by have := HK1.out; first | omega | exact Nat.le_refl _) : p := h
theorem zee81 {p : Prop} (h : p := by (try simp only [List.map_toArray, List.map_cons, List.map_nil]); first | done | rfl | (simp only [List.length_drop, List.length_take]; rfl)) : p := h
theorem zfb39 {p : Prop} (h : p := by have := HK1.out; omega) : p := h
set_option linter.unusedVariables false
theorem dL {α : Type} [LT α] {a b : α} [Decidable (a < b)] (h : a < b) : decide (a < b) = true := decide_eq_true h
theorem dE {α : Type} [LE α] {a b : α} [Decidable (a ≤ b)] (h : a ≤ b) : decide (a ≤ b) = true := decide_eq_true h
theorem nL {α : Type} [LT α] {a b : α} [Decidable (a < b)] (h : ¬ a < b) : decide (a < b) = false := decide_eq_false h
theorem nE {α : Type} [LE α] {a b : α} [Decidable (a ≤ b)] (h : ¬ a ≤ b) : decide (a ≤ b) = false := decide_eq_false h
theorem eqE {α : Type} [BEq α] [LawfulBEq α] {a b : α} (h : a = b) : (a == b) = true ∧ (a != b) = false := ⟨beq_iff_eq.mpr h, bne_eq_false_iff_eq.mpr h⟩
theorem eqN {α : Type} [BEq α] [LawfulBEq α] {a b : α} (h : ¬ a = b) : (a == b) = false ∧ (a != b) = true := ⟨beq_eq_false_iff_ne.mpr h, bne_iff_ne.mpr h⟩
theorem sL {α β : Type} [LT β] {a b : β} [Decidable (a < b)] {x : Option α} {r : α} (h : (if a < b then x else none) = some r) : decide (a < b) = true ∧ x = some r := ⟨dL (ifS h).1, (ifS h).2⟩
theorem sE {α β : Type} [LE β] {a b : β} [Decidable (a ≤ b)] {x : Option α} {r : α} (h : (if a ≤ b then x else none) = some r) : decide (a ≤ b) = true ∧ x = some r := ⟨dE (ifS h).1, (ifS h).2⟩
theorem sM {α : Type} {c : Prop} [Decidable c] {x : Option α} {r : α} (h : (if c then x else none) = some r) : Aside0 c ∧ x = some r := ⟨⟨(ifS h).1⟩, (ifS h).2⟩
theorem bS {α β : Type} {x : Option α} {f : α → Option β} {r : β} (h : x.bind f = some r) : ∃ a, Aside0 (x = some a) ∧ f a = some r := by
  obtain ⟨a, h1, h2⟩ := Option.bind_eq_some_iff.mp h
  exact ⟨a, ⟨h1⟩, h2⟩
theorem moZ {p : Prop} (h : p := by repeat' first | (with_reducible first | exact LeO.refl _ | exact LeO.none _ | exact ih0 .. | exact ih1 .. | exact ih2 .. | exact ih3 .. | exact ih4 .. | exact ih5 .. | exact ih6 .. | exact ih7 .. | exact ih8 .. | exact ih9 .. | exact m0 .. | exact m1 .. | exact m2 .. | exact m3 .. | exact m4 .. | exact m5 .. | exact m6 .. | exact m7 .. | exact m8 .. | exact m9 .. | refine LeO.ite ?_ ?_ | refine LeO.bind ?_ (fun _ => ?_)) | exact LeO.none _ | refine LeO.ite ?_ ?_ | refine LeO.bind ?_ (fun _ => ?_)) : p := h
section
variable {P : Program} {ops : Array Oper} {o : Oper} {a : Act} {Q : Exit → Act → World → Prop} {W w : World} {rest : List Oper}
theorem bX (N : Tmp) (t : TypeId) (cs : Array Value) (h : ∀ g, g = W.heap.size → ∀ w1, w1.heap[g]? = some (.cells cs t (0, 0)) → Below W.heap.size W w1 → wpList P ops Q rest (a.put o.dst (.pointer (some ⟨g, 0, none⟩))) w1)
    (hd : o.dst = some N := by rfl) (hg : o.guard = none := by rfl) (hr : (execOp a.eval o).run P W = .ok (.value (.pointer (some ⟨W.heap.size, 0, none⟩))) (W.alloc (.cells cs t (0, 0))) := by first | (go_simp; done) | (go_simp; rfl)) : wpList P ops Q (o :: rest) a W := box_event hg hd hr h
theorem gL (N : Tmp) {f : FuncId} {fn : Func} {xs : Array Operand} {ts : Array TypeId} (hf : P.funcs[f]? = some fn) (args : Array Value) (h : Calls P f args w fun e w' => ∃ v, e = .returned v ∧ wpList P ops Q rest (a.put (some N) v) w')
    (hb : fn.body.isSome = true := by kernel_rfl) (hd : o.dst = some N := by rfl) (hg : o.guard = none := by rfl) (hname : (fn.name == "runtime.NumGoroutine") = false := by rfl)
    (hop : o.op = .call { callee := .value (.func f), args := xs, argTypes := ts } := by rfl) (hargs : xs.map a.eval = args := by (try simp only [List.map_toArray, List.map_cons, List.map_nil]); first | done | rfl | (simp only [List.length_drop, List.length_take]; rfl)) : wpList P ops Q (o :: rest) a w := goesL_ (some N) hd hg hf hname hb args hop hargs h
end
end Go.Proofs.YtkgmoajdcibafaaDoor.P
end

-- written by a program of this session's (wip/pp)
namespace Go.Proofs.YtkgmoajdcibafaaDoor.P
open Go.RowKit Go.Proofs.YtkgmoajdcibafaaDoorW.PrintWords Go.Proofs.YtkgmoajdcibafaaDoorW.PrintLast Go.Proofs.YtkgmoajdcibafaaDoorW.PrintMore
attribute [local go_sem] max2_int min2_int max_two min_two max_three min_three max_four min_four str_geq str_gtr str_leq   -- for this text's walks alone
set_option linter.unusedVariables false
set_option linter.unusedSimpArgs false



def errW : Option Int → Value
  | none => .nilIface
  | some c => .iface 0 (.int .i64 c)
theorem errW_none : errW none = .nilIface := rfl
theorem errW_some (c : Int) : errW (some c) = .iface 0 (.int .i64 c) := rfl

theorem info3 : (Tryd.prog.info? 3).map (fun i => (i.zero, i.size, i.bytes)) = some (some (.int .i64 0), 1, 8) := by kernel_rfl
theorem info5 : (Tryd.prog.info? 5).map (fun i => (i.zero, i.size, i.bytes)) = some (some (.int .u8 0), 1, 1) := by kernel_rfl
theorem info32 : (Tryd.prog.info? 32).map (fun i => (i.zero, i.size, i.bytes)) = some (some (.agg #[(.string ⟨#[]⟩), (.slice none 0 0), (.int .i64 0)]), 3, 48) := by kernel_rfl
theorem info37 : (Tryd.prog.info? 37).map (fun i => (i.zero, i.size, i.bytes)) = some (some (.agg #[(.string ⟨#[]⟩), (.slice none 0 0), (.int .i64 0), (.int .i64 0), (.int .i64 0), (.int .i64 0), (.int .i64 0), (.slice none 0 0), (.bool false), (.int .i64 0), (.bool false)]), 11, 128) := by kernel_rfl
theorem info96 : (Tryd.prog.info? 96).map (fun i => (i.zero, i.size, i.bytes)) = some (some (.agg #[(.string ⟨#[]⟩), (.slice none 0 0), (.int .i64 0), (.int .i64 0), (.int .i64 0), (.int .i64 0), (.int .i64 0), (.int .i64 0), (.slice none 0 0), (.bool false)]), 10, 120) := by kernel_rfl
theorem info123 : (Tryd.prog.info? 123).map (fun i => (i.zero, i.size, i.bytes)) = some (some (.agg #[(.string ⟨#[]⟩), (.string ⟨#[]⟩)]), 2, 32) := by kernel_rfl
-- the values' own types
/-! #### struct type 119 -/
structure S119 where
  f0 : ByteArray
  f1 : ByteArray
def z119 : S119 := ⟨(⟨#[]⟩ : ByteArray), (⟨#[]⟩ : ByteArray)⟩
def k119 : Kd S119 := Kd.iso (Kd.pair Kd.string Kd.string) (fun x : S119 => (x.f0, x.f1))
theorem k119_open {w : World} {x : S119} {cs : List Value} (h : k119.K w x cs) : cs = [.string x.f0, .string x.f1] := by
  obtain ⟨_, _, rfl, rfl, rfl⟩ := h
  exact rfl
theorem k119_openM {w : World} {base : Nat} {ok : Nat → Prop} {x : S119} {cs : List Value} (h : k119.M w base ok x cs) : cs = [.string x.f0, .string x.f1] := by
  obtain ⟨_, _, rfl, rfl, rfl⟩ := h
  exact rfl
theorem k119_mk (w : World) (x : S119)  : k119.K w x [.string x.f0, .string x.f1] := ⟨[.string x.f0], [.string x.f1], rfl, rfl, rfl⟩
theorem k119_mkM (w : World) (base : Nat) (ok : Nat → Prop) (x : S119)  : k119.M w base ok x [.string x.f0, .string x.f1] := ⟨[.string x.f0], [.string x.f1], rfl, rfl, rfl⟩
theorem k119_mkF (W : World) (ok : Nat → Prop) (x : S119) : Kd.FK k119 W ok x [.string x.f0, .string x.f1] := fun W2 _ => k119_mk W2 x
def rd_T119 (xs : List S119) (i : Int) : S119 := xs.getD i.toNat z119
theorem at_T119 {w : World} {A : Option Addr} {n : Nat} {xs : List S119} (h : Kd.C k119 w A n xs) (i : Int) (h0 : 0 ≤ i) (h1 : i < n) : ∃ ad , A = some ad ∧ w.cell? (ad.add (i.toNat * 2)) = some (.string (rd_T119 xs i).f0) ∧ w.cell? ⟨(ad.add (i.toNat * 2)).block, (ad.add (i.toNat * 2)).off + 1, none⟩ = some (.string (rd_T119 xs i).f1) := by
  obtain ⟨ad, c, e, _, hK, hc0⟩ := Kd.C_get h z119 i h0 h1
  have hc : ∀ j u, c[j]? = some u → w.cell? (ad.add (i.toNat * 2 + j)) = some u := hc0
  obtain rfl := k119_open hK
  exact ⟨ad, e, hc 0 _ rfl, by rw [← add_field _ _ 1 (by omega)]; exact hc 1 _ rfl⟩

def rd_L3 (xs : List (List S119)) (i : Int) : (List S119) := xs.getD i.toNat ([] : List S119)
theorem at_L3 {w : World} {A : Option Addr} {n : Nat} {xs : List (List S119)} (h : Kd.C (Kd.slice 119 k119) w A n xs) (i : Int) (h0 : 0 ≤ i) (h1 : i < n) : ∃ ad A0 c0, A = some ad ∧ w.cell? (ad.add i.toNat) = some (.slice A0 (rd_L3 xs i).length c0) ∧ (rd_L3 xs i).length ≤ c0 ∧ k119.C w A0 (rd_L3 xs i).length (rd_L3 xs i) := by
  obtain ⟨ad, c, e, _, hK, hc0⟩ := Kd.C_get h ([] : List S119) i h0 h1
  have hc : ∀ j u, c[j]? = some u → w.cell? (ad.add (i.toNat * 1 + j)) = some u := hc0
  obtain ⟨A0, c0, rfl, l0, g0⟩ := hK
  exact ⟨ad, A0, c0, e, by have hq := hc 0 _ rfl; rwa [Nat.mul_one, Nat.add_zero] at hq, l0, g0⟩

/-! #### struct type 27 -/
structure S27 where
  f0 : ByteArray
  f1 : (List S119)
  f2 : Int
def z27 : S27 := ⟨(⟨#[]⟩ : ByteArray), ([] : List S119), (0 : Int)⟩
def k27 : Kd S27 := Kd.iso (Kd.pair Kd.string (Kd.pair (Kd.slice 119 k119) (Kd.int .i64))) (fun x : S27 => (x.f0, x.f1, x.f2))
theorem k27_open {w : World} {x : S27} {cs : List Value} (h : k27.K w x cs) : ∃ A1 c1, cs = [.string x.f0, .slice A1 x.f1.length c1, .int .i64 x.f2] ∧ x.f1.length ≤ c1 ∧ k119.C w A1 x.f1.length x.f1 := by
  obtain ⟨_, _, rfl, rfl, ⟨_, _, rfl, ⟨A1, c1, rfl, l1, g1⟩, rfl⟩⟩ := h
  exact ⟨A1, c1, rfl, l1, g1⟩
theorem k27_openM {w : World} {base : Nat} {ok : Nat → Prop} {x : S27} {cs : List Value} (h : k27.M w base ok x cs) : ∃ v1, cs = [.string x.f0, v1, .int .i64 x.f2] ∧ k119.R 119 w base ok v1 x.f1 := by
  obtain ⟨_, _, rfl, rfl, ⟨_, _, rfl, ⟨v1, rfl, g1⟩, rfl⟩⟩ := h
  exact ⟨v1, rfl, g1⟩
theorem k27_mk (w : World) (x : S27) {A1 : Option Addr} {c1 : Nat} (l1 : x.f1.length ≤ c1) (g1 : k119.C w A1 x.f1.length x.f1) : k27.K w x [.string x.f0, .slice A1 x.f1.length c1, .int .i64 x.f2] := ⟨[.string x.f0], [.slice A1 x.f1.length c1, .int .i64 x.f2], rfl, rfl, ⟨[.slice A1 x.f1.length c1], [.int .i64 x.f2], rfl, ⟨A1, c1, rfl, l1, g1⟩, rfl⟩⟩
theorem k27_mkM (w : World) (base : Nat) (ok : Nat → Prop) (x : S27) {v1 : Value} (g1 : k119.R 119 w base ok v1 x.f1) : k27.M w base ok x [.string x.f0, v1, .int .i64 x.f2] := ⟨[.string x.f0], [v1, .int .i64 x.f2], rfl, rfl, ⟨[v1], [.int .i64 x.f2], rfl, ⟨v1, rfl, g1⟩, rfl⟩⟩
theorem k27_openF {W : World} {ok : Nat → Prop} {x : S27} {cs : List Value} (h : Kd.FK k27 W ok x cs) : ∃ A1 c1, cs = [.string x.f0, .slice A1 x.f1.length c1, .int .i64 x.f2] ∧ x.f1.length ≤ c1 ∧ Kd.F k119 W ok A1 x.f1.length x.f1 := by
  obtain ⟨A1, c1, rfl, l1, _⟩ := k27_open (Kd.FK_now h)
  exact ⟨A1, c1, rfl, l1, (fun W' hW => by obtain ⟨A1_, c1_, he, l1_, g1_⟩ := k27_open (h W' hW); injection (Option.some.inj (show some (Value.slice A1 x.f1.length c1) = some (Value.slice A1_ x.f1.length c1_) from congrArg (fun l => l[1]?) he)) with ha_ _ _; rw [ha_]; exact g1_)⟩
theorem k27_mkF (W : World) (ok : Nat → Prop) (x : S27) {A1 : Option Addr} {c1 : Nat} (l1 : x.f1.length ≤ c1) (g1 : Kd.F k119 W ok A1 x.f1.length x.f1) : Kd.FK k27 W ok x [.string x.f0, .slice A1 x.f1.length c1, .int .i64 x.f2] := fun W2 hW => k27_mk W2 x l1 (g1 W2 hW)
def rd_T27 (xs : List S27) (i : Int) : S27 := xs.getD i.toNat z27
theorem at_T27 {w : World} {A : Option Addr} {n : Nat} {xs : List S27} (h : Kd.C k27 w A n xs) (i : Int) (h0 : 0 ≤ i) (h1 : i < n) : ∃ ad A1 c1, A = some ad ∧ w.cell? (ad.add (i.toNat * 3)) = some (.string (rd_T27 xs i).f0) ∧ w.cell? ⟨(ad.add (i.toNat * 3)).block, (ad.add (i.toNat * 3)).off + 1, none⟩ = some (.slice A1 (rd_T27 xs i).f1.length c1) ∧ w.cell? ⟨(ad.add (i.toNat * 3)).block, (ad.add (i.toNat * 3)).off + 2, none⟩ = some (.int .i64 (rd_T27 xs i).f2) ∧ (rd_T27 xs i).f1.length ≤ c1 ∧ k119.C w A1 (rd_T27 xs i).f1.length (rd_T27 xs i).f1 := by
  obtain ⟨ad, c, e, _, hK, hc0⟩ := Kd.C_get h z27 i h0 h1
  have hc : ∀ j u, c[j]? = some u → w.cell? (ad.add (i.toNat * 3 + j)) = some u := hc0
  obtain ⟨A1, c1, rfl, l1, g1⟩ := k27_open hK
  exact ⟨ad, A1, c1, e, hc 0 _ rfl, by rw [← add_field _ _ 1 (by omega)]; exact hc 1 _ rfl, by rw [← add_field _ _ 2 (by omega)]; exact hc 2 _ rfl, l1, g1⟩

def rd_L5 (xs : List (List Int)) (i : Int) : (List Int) := xs.getD i.toNat ([] : List Int)
theorem at_L5 {w : World} {A : Option Addr} {n : Nat} {xs : List (List Int)} (h : Kd.C (Kd.slice 3 (Kd.int .i64)) w A n xs) (i : Int) (h0 : 0 ≤ i) (h1 : i < n) : ∃ ad A0 c0, A = some ad ∧ w.cell? (ad.add i.toNat) = some (.slice A0 (rd_L5 xs i).length c0) ∧ (rd_L5 xs i).length ≤ c0 ∧ (Kd.int .i64).C w A0 (rd_L5 xs i).length (rd_L5 xs i) := by
  obtain ⟨ad, c, e, _, hK, hc0⟩ := Kd.C_get h ([] : List Int) i h0 h1
  have hc : ∀ j u, c[j]? = some u → w.cell? (ad.add (i.toNat * 1 + j)) = some u := hc0
  obtain ⟨A0, c0, rfl, l0, g0⟩ := hK
  exact ⟨ad, A0, c0, e, by have hq := hc 0 _ rfl; rwa [Nat.mul_one, Nat.add_zero] at hq, l0, g0⟩

/-! #### struct type 92 -/
structure S92 where
  f0 : Int
  f1 : Int
  f2 : Int
  f3 : Int
  f4 : (List Int)
  f5 : Bool
def z92 : S92 := ⟨(0 : Int), (0 : Int), (0 : Int), (0 : Int), ([] : List Int), false⟩
def k92 : Kd S92 := Kd.iso (Kd.pair (Kd.int .i64) (Kd.pair (Kd.int .i64) (Kd.pair (Kd.int .i64) (Kd.pair (Kd.int .i64) (Kd.pair (Kd.slice 3 (Kd.int .i64)) Kd.bool))))) (fun x : S92 => (x.f0, x.f1, x.f2, x.f3, x.f4, x.f5))
theorem k92_open {w : World} {x : S92} {cs : List Value} (h : k92.K w x cs) : ∃ A4 c4, cs = [.int .i64 x.f0, .int .i64 x.f1, .int .i64 x.f2, .int .i64 x.f3, .slice A4 x.f4.length c4, .bool x.f5] ∧ x.f4.length ≤ c4 ∧ (Kd.int .i64).C w A4 x.f4.length x.f4 := by
  obtain ⟨_, _, rfl, rfl, ⟨_, _, rfl, rfl, ⟨_, _, rfl, rfl, ⟨_, _, rfl, rfl, ⟨_, _, rfl, ⟨A4, c4, rfl, l4, g4⟩, rfl⟩⟩⟩⟩⟩ := h
  exact ⟨A4, c4, rfl, l4, g4⟩
theorem k92_openM {w : World} {base : Nat} {ok : Nat → Prop} {x : S92} {cs : List Value} (h : k92.M w base ok x cs) : ∃ v4, cs = [.int .i64 x.f0, .int .i64 x.f1, .int .i64 x.f2, .int .i64 x.f3, v4, .bool x.f5] ∧ (Kd.int .i64).R 3 w base ok v4 x.f4 := by
  obtain ⟨_, _, rfl, rfl, ⟨_, _, rfl, rfl, ⟨_, _, rfl, rfl, ⟨_, _, rfl, rfl, ⟨_, _, rfl, ⟨v4, rfl, g4⟩, rfl⟩⟩⟩⟩⟩ := h
  exact ⟨v4, rfl, g4⟩
theorem k92_mk (w : World) (x : S92) {A4 : Option Addr} {c4 : Nat} (l4 : x.f4.length ≤ c4) (g4 : (Kd.int .i64).C w A4 x.f4.length x.f4) : k92.K w x [.int .i64 x.f0, .int .i64 x.f1, .int .i64 x.f2, .int .i64 x.f3, .slice A4 x.f4.length c4, .bool x.f5] := ⟨[.int .i64 x.f0], [.int .i64 x.f1, .int .i64 x.f2, .int .i64 x.f3, .slice A4 x.f4.length c4, .bool x.f5], rfl, rfl, ⟨[.int .i64 x.f1], [.int .i64 x.f2, .int .i64 x.f3, .slice A4 x.f4.length c4, .bool x.f5], rfl, rfl, ⟨[.int .i64 x.f2], [.int .i64 x.f3, .slice A4 x.f4.length c4, .bool x.f5], rfl, rfl, ⟨[.int .i64 x.f3], [.slice A4 x.f4.length c4, .bool x.f5], rfl, rfl, ⟨[.slice A4 x.f4.length c4], [.bool x.f5], rfl, ⟨A4, c4, rfl, l4, g4⟩, rfl⟩⟩⟩⟩⟩
theorem k92_mkM (w : World) (base : Nat) (ok : Nat → Prop) (x : S92) {v4 : Value} (g4 : (Kd.int .i64).R 3 w base ok v4 x.f4) : k92.M w base ok x [.int .i64 x.f0, .int .i64 x.f1, .int .i64 x.f2, .int .i64 x.f3, v4, .bool x.f5] := ⟨[.int .i64 x.f0], [.int .i64 x.f1, .int .i64 x.f2, .int .i64 x.f3, v4, .bool x.f5], rfl, rfl, ⟨[.int .i64 x.f1], [.int .i64 x.f2, .int .i64 x.f3, v4, .bool x.f5], rfl, rfl, ⟨[.int .i64 x.f2], [.int .i64 x.f3, v4, .bool x.f5], rfl, rfl, ⟨[.int .i64 x.f3], [v4, .bool x.f5], rfl, rfl, ⟨[v4], [.bool x.f5], rfl, ⟨v4, rfl, g4⟩, rfl⟩⟩⟩⟩⟩
theorem k92_openF {W : World} {ok : Nat → Prop} {x : S92} {cs : List Value} (h : Kd.FK k92 W ok x cs) : ∃ A4 c4, cs = [.int .i64 x.f0, .int .i64 x.f1, .int .i64 x.f2, .int .i64 x.f3, .slice A4 x.f4.length c4, .bool x.f5] ∧ x.f4.length ≤ c4 ∧ Kd.F (Kd.int .i64) W ok A4 x.f4.length x.f4 := by
  obtain ⟨A4, c4, rfl, l4, _⟩ := k92_open (Kd.FK_now h)
  exact ⟨A4, c4, rfl, l4, (fun W' hW => by obtain ⟨A4_, c4_, he, l4_, g4_⟩ := k92_open (h W' hW); injection (Option.some.inj (show some (Value.slice A4 x.f4.length c4) = some (Value.slice A4_ x.f4.length c4_) from congrArg (fun l => l[4]?) he)) with ha_ _ _; rw [ha_]; exact g4_)⟩
theorem k92_mkF (W : World) (ok : Nat → Prop) (x : S92) {A4 : Option Addr} {c4 : Nat} (l4 : x.f4.length ≤ c4) (g4 : Kd.F (Kd.int .i64) W ok A4 x.f4.length x.f4) : Kd.FK k92 W ok x [.int .i64 x.f0, .int .i64 x.f1, .int .i64 x.f2, .int .i64 x.f3, .slice A4 x.f4.length c4, .bool x.f5] := fun W2 hW => k92_mk W2 x l4 (g4 W2 hW)
def rd_T92 (xs : List S92) (i : Int) : S92 := xs.getD i.toNat z92
theorem at_T92 {w : World} {A : Option Addr} {n : Nat} {xs : List S92} (h : Kd.C k92 w A n xs) (i : Int) (h0 : 0 ≤ i) (h1 : i < n) : ∃ ad A4 c4, A = some ad ∧ w.cell? (ad.add (i.toNat * 6)) = some (.int .i64 (rd_T92 xs i).f0) ∧ w.cell? ⟨(ad.add (i.toNat * 6)).block, (ad.add (i.toNat * 6)).off + 1, none⟩ = some (.int .i64 (rd_T92 xs i).f1) ∧ w.cell? ⟨(ad.add (i.toNat * 6)).block, (ad.add (i.toNat * 6)).off + 2, none⟩ = some (.int .i64 (rd_T92 xs i).f2) ∧ w.cell? ⟨(ad.add (i.toNat * 6)).block, (ad.add (i.toNat * 6)).off + 3, none⟩ = some (.int .i64 (rd_T92 xs i).f3) ∧ w.cell? ⟨(ad.add (i.toNat * 6)).block, (ad.add (i.toNat * 6)).off + 4, none⟩ = some (.slice A4 (rd_T92 xs i).f4.length c4) ∧ w.cell? ⟨(ad.add (i.toNat * 6)).block, (ad.add (i.toNat * 6)).off + 5, none⟩ = some (.bool (rd_T92 xs i).f5) ∧ (rd_T92 xs i).f4.length ≤ c4 ∧ (Kd.int .i64).C w A4 (rd_T92 xs i).f4.length (rd_T92 xs i).f4 := by
  obtain ⟨ad, c, e, _, hK, hc0⟩ := Kd.C_get h z92 i h0 h1
  have hc : ∀ j u, c[j]? = some u → w.cell? (ad.add (i.toNat * 6 + j)) = some u := hc0
  obtain ⟨A4, c4, rfl, l4, g4⟩ := k92_open hK
  exact ⟨ad, A4, c4, e, hc 0 _ rfl, by rw [← add_field _ _ 1 (by omega)]; exact hc 1 _ rfl, by rw [← add_field _ _ 2 (by omega)]; exact hc 2 _ rfl, by rw [← add_field _ _ 3 (by omega)]; exact hc 3 _ rfl, by rw [← add_field _ _ 4 (by omega)]; exact hc 4 _ rfl, by rw [← add_field _ _ 5 (by omega)]; exact hc 5 _ rfl, l4, g4⟩

/-! #### struct type 116 -/
structure S116 where
  f0 : S27
  f1 : S92
  f2 : Int
  f3 : Bool
def z116 : S116 := ⟨z27, z92, (0 : Int), false⟩
def k116 : Kd S116 := Kd.iso (Kd.pair k27 (Kd.pair k92 (Kd.pair (Kd.int .i64) Kd.bool))) (fun x : S116 => (x.f0, x.f1, x.f2, x.f3))
theorem k116_open {w : World} {x : S116} {cs : List Value} (h : k116.K w x cs) : ∃ A1 c1 A7 c7, cs = [.string x.f0.f0, .slice A1 x.f0.f1.length c1, .int .i64 x.f0.f2, .int .i64 x.f1.f0, .int .i64 x.f1.f1, .int .i64 x.f1.f2, .int .i64 x.f1.f3, .slice A7 x.f1.f4.length c7, .bool x.f1.f5, .int .i64 x.f2, .bool x.f3] ∧ x.f0.f1.length ≤ c1 ∧ k119.C w A1 x.f0.f1.length x.f0.f1 ∧ x.f1.f4.length ≤ c7 ∧ (Kd.int .i64).C w A7 x.f1.f4.length x.f1.f4 := by
  obtain ⟨_, _, rfl, s0, ⟨_, _, rfl, s3, ⟨_, _, rfl, rfl, rfl⟩⟩⟩ := h
  obtain ⟨A1, c1, rfl, l1, g1⟩ := k27_open s0
  obtain ⟨A7, c7, rfl, l7, g7⟩ := k92_open s3
  exact ⟨A1, c1, A7, c7, rfl, l1, g1, l7, g7⟩
theorem k116_openM {w : World} {base : Nat} {ok : Nat → Prop} {x : S116} {cs : List Value} (h : k116.M w base ok x cs) : ∃ v1 v7, cs = [.string x.f0.f0, v1, .int .i64 x.f0.f2, .int .i64 x.f1.f0, .int .i64 x.f1.f1, .int .i64 x.f1.f2, .int .i64 x.f1.f3, v7, .bool x.f1.f5, .int .i64 x.f2, .bool x.f3] ∧ k119.R 119 w base ok v1 x.f0.f1 ∧ (Kd.int .i64).R 3 w base ok v7 x.f1.f4 := by
  obtain ⟨_, _, rfl, s0, ⟨_, _, rfl, s3, ⟨_, _, rfl, rfl, rfl⟩⟩⟩ := h
  obtain ⟨v1, rfl, g1⟩ := k27_openM s0
  obtain ⟨v7, rfl, g7⟩ := k92_openM s3
  exact ⟨v1, v7, rfl, g1, g7⟩
theorem k116_mk (w : World) (x : S116) {A1 : Option Addr} {c1 : Nat} (l1 : x.f0.f1.length ≤ c1) (g1 : k119.C w A1 x.f0.f1.length x.f0.f1) {A7 : Option Addr} {c7 : Nat} (l7 : x.f1.f4.length ≤ c7) (g7 : (Kd.int .i64).C w A7 x.f1.f4.length x.f1.f4) : k116.K w x [.string x.f0.f0, .slice A1 x.f0.f1.length c1, .int .i64 x.f0.f2, .int .i64 x.f1.f0, .int .i64 x.f1.f1, .int .i64 x.f1.f2, .int .i64 x.f1.f3, .slice A7 x.f1.f4.length c7, .bool x.f1.f5, .int .i64 x.f2, .bool x.f3] := ⟨[.string x.f0.f0, .slice A1 x.f0.f1.length c1, .int .i64 x.f0.f2], [.int .i64 x.f1.f0, .int .i64 x.f1.f1, .int .i64 x.f1.f2, .int .i64 x.f1.f3, .slice A7 x.f1.f4.length c7, .bool x.f1.f5, .int .i64 x.f2, .bool x.f3], rfl, (k27_mk w x.f0 l1 g1), ⟨[.int .i64 x.f1.f0, .int .i64 x.f1.f1, .int .i64 x.f1.f2, .int .i64 x.f1.f3, .slice A7 x.f1.f4.length c7, .bool x.f1.f5], [.int .i64 x.f2, .bool x.f3], rfl, (k92_mk w x.f1 l7 g7), ⟨[.int .i64 x.f2], [.bool x.f3], rfl, rfl, rfl⟩⟩⟩
theorem k116_mkM (w : World) (base : Nat) (ok : Nat → Prop) (x : S116) {v1 : Value} (g1 : k119.R 119 w base ok v1 x.f0.f1) {v7 : Value} (g7 : (Kd.int .i64).R 3 w base ok v7 x.f1.f4) : k116.M w base ok x [.string x.f0.f0, v1, .int .i64 x.f0.f2, .int .i64 x.f1.f0, .int .i64 x.f1.f1, .int .i64 x.f1.f2, .int .i64 x.f1.f3, v7, .bool x.f1.f5, .int .i64 x.f2, .bool x.f3] := ⟨[.string x.f0.f0, v1, .int .i64 x.f0.f2], [.int .i64 x.f1.f0, .int .i64 x.f1.f1, .int .i64 x.f1.f2, .int .i64 x.f1.f3, v7, .bool x.f1.f5, .int .i64 x.f2, .bool x.f3], rfl, (k27_mkM w base ok x.f0 g1), ⟨[.int .i64 x.f1.f0, .int .i64 x.f1.f1, .int .i64 x.f1.f2, .int .i64 x.f1.f3, v7, .bool x.f1.f5], [.int .i64 x.f2, .bool x.f3], rfl, (k92_mkM w base ok x.f1 g7), ⟨[.int .i64 x.f2], [.bool x.f3], rfl, rfl, rfl⟩⟩⟩
theorem k116_openF {W : World} {ok : Nat → Prop} {x : S116} {cs : List Value} (h : Kd.FK k116 W ok x cs) : ∃ A1 c1 A7 c7, cs = [.string x.f0.f0, .slice A1 x.f0.f1.length c1, .int .i64 x.f0.f2, .int .i64 x.f1.f0, .int .i64 x.f1.f1, .int .i64 x.f1.f2, .int .i64 x.f1.f3, .slice A7 x.f1.f4.length c7, .bool x.f1.f5, .int .i64 x.f2, .bool x.f3] ∧ x.f0.f1.length ≤ c1 ∧ Kd.F k119 W ok A1 x.f0.f1.length x.f0.f1 ∧ x.f1.f4.length ≤ c7 ∧ Kd.F (Kd.int .i64) W ok A7 x.f1.f4.length x.f1.f4 := by
  obtain ⟨A1, c1, A7, c7, rfl, l1, _, l7, _⟩ := k116_open (Kd.FK_now h)
  exact ⟨A1, c1, A7, c7, rfl, l1, (fun W' hW => by obtain ⟨A1_, c1_, A7_, c7_, he, l1_, g1_, l7_, g7_⟩ := k116_open (h W' hW); injection (Option.some.inj (show some (Value.slice A1 x.f0.f1.length c1) = some (Value.slice A1_ x.f0.f1.length c1_) from congrArg (fun l => l[1]?) he)) with ha_ _ _; rw [ha_]; exact g1_), l7, (fun W' hW => by obtain ⟨A1_, c1_, A7_, c7_, he, l1_, g1_, l7_, g7_⟩ := k116_open (h W' hW); injection (Option.some.inj (show some (Value.slice A7 x.f1.f4.length c7) = some (Value.slice A7_ x.f1.f4.length c7_) from congrArg (fun l => l[7]?) he)) with ha_ _ _; rw [ha_]; exact g7_)⟩
theorem k116_mkF (W : World) (ok : Nat → Prop) (x : S116) {A1 : Option Addr} {c1 : Nat} (l1 : x.f0.f1.length ≤ c1) (g1 : Kd.F k119 W ok A1 x.f0.f1.length x.f0.f1) {A7 : Option Addr} {c7 : Nat} (l7 : x.f1.f4.length ≤ c7) (g7 : Kd.F (Kd.int .i64) W ok A7 x.f1.f4.length x.f1.f4) : Kd.FK k116 W ok x [.string x.f0.f0, .slice A1 x.f0.f1.length c1, .int .i64 x.f0.f2, .int .i64 x.f1.f0, .int .i64 x.f1.f1, .int .i64 x.f1.f2, .int .i64 x.f1.f3, .slice A7 x.f1.f4.length c7, .bool x.f1.f5, .int .i64 x.f2, .bool x.f3] := fun W2 hW => k116_mk W2 x l1 (g1 W2 hW) l7 (g7 W2 hW)
def rd_T116 (xs : List S116) (i : Int) : S116 := xs.getD i.toNat z116
theorem at_T116 {w : World} {A : Option Addr} {n : Nat} {xs : List S116} (h : Kd.C k116 w A n xs) (i : Int) (h0 : 0 ≤ i) (h1 : i < n) : ∃ ad A1 c1 A7 c7, A = some ad ∧ w.cell? (ad.add (i.toNat * 11)) = some (.string (rd_T116 xs i).f0.f0) ∧ w.cell? ⟨(ad.add (i.toNat * 11)).block, (ad.add (i.toNat * 11)).off + 1, none⟩ = some (.slice A1 (rd_T116 xs i).f0.f1.length c1) ∧ w.cell? ⟨(ad.add (i.toNat * 11)).block, (ad.add (i.toNat * 11)).off + 2, none⟩ = some (.int .i64 (rd_T116 xs i).f0.f2) ∧ w.cell? ⟨(ad.add (i.toNat * 11)).block, (ad.add (i.toNat * 11)).off + 3, none⟩ = some (.int .i64 (rd_T116 xs i).f1.f0) ∧ w.cell? ⟨(ad.add (i.toNat * 11)).block, (ad.add (i.toNat * 11)).off + 4, none⟩ = some (.int .i64 (rd_T116 xs i).f1.f1) ∧ w.cell? ⟨(ad.add (i.toNat * 11)).block, (ad.add (i.toNat * 11)).off + 5, none⟩ = some (.int .i64 (rd_T116 xs i).f1.f2) ∧ w.cell? ⟨(ad.add (i.toNat * 11)).block, (ad.add (i.toNat * 11)).off + 6, none⟩ = some (.int .i64 (rd_T116 xs i).f1.f3) ∧ w.cell? ⟨(ad.add (i.toNat * 11)).block, (ad.add (i.toNat * 11)).off + 7, none⟩ = some (.slice A7 (rd_T116 xs i).f1.f4.length c7) ∧ w.cell? ⟨(ad.add (i.toNat * 11)).block, (ad.add (i.toNat * 11)).off + 8, none⟩ = some (.bool (rd_T116 xs i).f1.f5) ∧ w.cell? ⟨(ad.add (i.toNat * 11)).block, (ad.add (i.toNat * 11)).off + 9, none⟩ = some (.int .i64 (rd_T116 xs i).f2) ∧ w.cell? ⟨(ad.add (i.toNat * 11)).block, (ad.add (i.toNat * 11)).off + 10, none⟩ = some (.bool (rd_T116 xs i).f3) ∧ (rd_T116 xs i).f0.f1.length ≤ c1 ∧ k119.C w A1 (rd_T116 xs i).f0.f1.length (rd_T116 xs i).f0.f1 ∧ (rd_T116 xs i).f1.f4.length ≤ c7 ∧ (Kd.int .i64).C w A7 (rd_T116 xs i).f1.f4.length (rd_T116 xs i).f1.f4 := by
  obtain ⟨ad, c, e, _, hK, hc0⟩ := Kd.C_get h z116 i h0 h1
  have hc : ∀ j u, c[j]? = some u → w.cell? (ad.add (i.toNat * 11 + j)) = some u := hc0
  obtain ⟨A1, c1, A7, c7, rfl, l1, g1, l7, g7⟩ := k116_open hK
  exact ⟨ad, A1, c1, A7, c7, e, hc 0 _ rfl, by rw [← add_field _ _ 1 (by omega)]; exact hc 1 _ rfl, by rw [← add_field _ _ 2 (by omega)]; exact hc 2 _ rfl, by rw [← add_field _ _ 3 (by omega)]; exact hc 3 _ rfl, by rw [← add_field _ _ 4 (by omega)]; exact hc 4 _ rfl, by rw [← add_field _ _ 5 (by omega)]; exact hc 5 _ rfl, by rw [← add_field _ _ 6 (by omega)]; exact hc 6 _ rfl, by rw [← add_field _ _ 7 (by omega)]; exact hc 7 _ rfl, by rw [← add_field _ _ 8 (by omega)]; exact hc 8 _ rfl, by rw [← add_field _ _ 9 (by omega)]; exact hc 9 _ rfl, by rw [← add_field _ _ 10 (by omega)]; exact hc 10 _ rfl, l1, g1, l7, g7⟩

/-! #### struct type 123 -/
structure S123 where
  f0 : ByteArray
  f1 : ByteArray
def z123 : S123 := ⟨(⟨#[]⟩ : ByteArray), (⟨#[]⟩ : ByteArray)⟩
def k123 : Kd S123 := Kd.iso (Kd.pair Kd.string Kd.string) (fun x : S123 => (x.f0, x.f1))
theorem k123_open {w : World} {x : S123} {cs : List Value} (h : k123.K w x cs) : cs = [.string x.f0, .string x.f1] := by
  obtain ⟨_, _, rfl, rfl, rfl⟩ := h
  exact rfl
theorem k123_openM {w : World} {base : Nat} {ok : Nat → Prop} {x : S123} {cs : List Value} (h : k123.M w base ok x cs) : cs = [.string x.f0, .string x.f1] := by
  obtain ⟨_, _, rfl, rfl, rfl⟩ := h
  exact rfl
theorem k123_mk (w : World) (x : S123)  : k123.K w x [.string x.f0, .string x.f1] := ⟨[.string x.f0], [.string x.f1], rfl, rfl, rfl⟩
theorem k123_mkM (w : World) (base : Nat) (ok : Nat → Prop) (x : S123)  : k123.M w base ok x [.string x.f0, .string x.f1] := ⟨[.string x.f0], [.string x.f1], rfl, rfl, rfl⟩
theorem k123_mkF (W : World) (ok : Nat → Prop) (x : S123) : Kd.FK k123 W ok x [.string x.f0, .string x.f1] := fun W2 _ => k123_mk W2 x
def rd_T123 (xs : List S123) (i : Int) : S123 := xs.getD i.toNat z123
theorem at_T123 {w : World} {A : Option Addr} {n : Nat} {xs : List S123} (h : Kd.C k123 w A n xs) (i : Int) (h0 : 0 ≤ i) (h1 : i < n) : ∃ ad , A = some ad ∧ w.cell? (ad.add (i.toNat * 2)) = some (.string (rd_T123 xs i).f0) ∧ w.cell? ⟨(ad.add (i.toNat * 2)).block, (ad.add (i.toNat * 2)).off + 1, none⟩ = some (.string (rd_T123 xs i).f1) := by
  obtain ⟨ad, c, e, _, hK, hc0⟩ := Kd.C_get h z123 i h0 h1
  have hc : ∀ j u, c[j]? = some u → w.cell? (ad.add (i.toNat * 2 + j)) = some u := hc0
  obtain rfl := k123_open hK
  exact ⟨ad, e, hc 0 _ rfl, by rw [← add_field _ _ 1 (by omega)]; exact hc 1 _ rfl⟩

def rd_L10 (xs : List (List S123)) (i : Int) : (List S123) := xs.getD i.toNat ([] : List S123)
theorem at_L10 {w : World} {A : Option Addr} {n : Nat} {xs : List (List S123)} (h : Kd.C (Kd.slice 123 k123) w A n xs) (i : Int) (h0 : 0 ≤ i) (h1 : i < n) : ∃ ad A0 c0, A = some ad ∧ w.cell? (ad.add i.toNat) = some (.slice A0 (rd_L10 xs i).length c0) ∧ (rd_L10 xs i).length ≤ c0 ∧ k123.C w A0 (rd_L10 xs i).length (rd_L10 xs i) := by
  obtain ⟨ad, c, e, _, hK, hc0⟩ := Kd.C_get h ([] : List S123) i h0 h1
  have hc : ∀ j u, c[j]? = some u → w.cell? (ad.add (i.toNat * 1 + j)) = some u := hc0
  obtain ⟨A0, c0, rfl, l0, g0⟩ := hK
  exact ⟨ad, A0, c0, e, by have hq := hc 0 _ rfl; rwa [Nat.mul_one, Nat.add_zero] at hq, l0, g0⟩

/-! #### struct type 32 -/
structure S32 where
  f0 : ByteArray
  f1 : (List S123)
  f2 : Int
def z32 : S32 := ⟨(⟨#[]⟩ : ByteArray), ([] : List S123), (0 : Int)⟩
def k32 : Kd S32 := Kd.iso (Kd.pair Kd.string (Kd.pair (Kd.slice 123 k123) (Kd.int .i64))) (fun x : S32 => (x.f0, x.f1, x.f2))
theorem k32_open {w : World} {x : S32} {cs : List Value} (h : k32.K w x cs) : ∃ A1 c1, cs = [.string x.f0, .slice A1 x.f1.length c1, .int .i64 x.f2] ∧ x.f1.length ≤ c1 ∧ k123.C w A1 x.f1.length x.f1 := by
  obtain ⟨_, _, rfl, rfl, ⟨_, _, rfl, ⟨A1, c1, rfl, l1, g1⟩, rfl⟩⟩ := h
  exact ⟨A1, c1, rfl, l1, g1⟩
theorem k32_openM {w : World} {base : Nat} {ok : Nat → Prop} {x : S32} {cs : List Value} (h : k32.M w base ok x cs) : ∃ v1, cs = [.string x.f0, v1, .int .i64 x.f2] ∧ k123.R 123 w base ok v1 x.f1 := by
  obtain ⟨_, _, rfl, rfl, ⟨_, _, rfl, ⟨v1, rfl, g1⟩, rfl⟩⟩ := h
  exact ⟨v1, rfl, g1⟩
theorem k32_mk (w : World) (x : S32) {A1 : Option Addr} {c1 : Nat} (l1 : x.f1.length ≤ c1) (g1 : k123.C w A1 x.f1.length x.f1) : k32.K w x [.string x.f0, .slice A1 x.f1.length c1, .int .i64 x.f2] := ⟨[.string x.f0], [.slice A1 x.f1.length c1, .int .i64 x.f2], rfl, rfl, ⟨[.slice A1 x.f1.length c1], [.int .i64 x.f2], rfl, ⟨A1, c1, rfl, l1, g1⟩, rfl⟩⟩
theorem k32_mkM (w : World) (base : Nat) (ok : Nat → Prop) (x : S32) {v1 : Value} (g1 : k123.R 123 w base ok v1 x.f1) : k32.M w base ok x [.string x.f0, v1, .int .i64 x.f2] := ⟨[.string x.f0], [v1, .int .i64 x.f2], rfl, rfl, ⟨[v1], [.int .i64 x.f2], rfl, ⟨v1, rfl, g1⟩, rfl⟩⟩
theorem k32_openF {W : World} {ok : Nat → Prop} {x : S32} {cs : List Value} (h : Kd.FK k32 W ok x cs) : ∃ A1 c1, cs = [.string x.f0, .slice A1 x.f1.length c1, .int .i64 x.f2] ∧ x.f1.length ≤ c1 ∧ Kd.F k123 W ok A1 x.f1.length x.f1 := by
  obtain ⟨A1, c1, rfl, l1, _⟩ := k32_open (Kd.FK_now h)
  exact ⟨A1, c1, rfl, l1, (fun W' hW => by obtain ⟨A1_, c1_, he, l1_, g1_⟩ := k32_open (h W' hW); injection (Option.some.inj (show some (Value.slice A1 x.f1.length c1) = some (Value.slice A1_ x.f1.length c1_) from congrArg (fun l => l[1]?) he)) with ha_ _ _; rw [ha_]; exact g1_)⟩
theorem k32_mkF (W : World) (ok : Nat → Prop) (x : S32) {A1 : Option Addr} {c1 : Nat} (l1 : x.f1.length ≤ c1) (g1 : Kd.F k123 W ok A1 x.f1.length x.f1) : Kd.FK k32 W ok x [.string x.f0, .slice A1 x.f1.length c1, .int .i64 x.f2] := fun W2 hW => k32_mk W2 x l1 (g1 W2 hW)
def rd_T32 (xs : List S32) (i : Int) : S32 := xs.getD i.toNat z32
theorem at_T32 {w : World} {A : Option Addr} {n : Nat} {xs : List S32} (h : Kd.C k32 w A n xs) (i : Int) (h0 : 0 ≤ i) (h1 : i < n) : ∃ ad A1 c1, A = some ad ∧ w.cell? (ad.add (i.toNat * 3)) = some (.string (rd_T32 xs i).f0) ∧ w.cell? ⟨(ad.add (i.toNat * 3)).block, (ad.add (i.toNat * 3)).off + 1, none⟩ = some (.slice A1 (rd_T32 xs i).f1.length c1) ∧ w.cell? ⟨(ad.add (i.toNat * 3)).block, (ad.add (i.toNat * 3)).off + 2, none⟩ = some (.int .i64 (rd_T32 xs i).f2) ∧ (rd_T32 xs i).f1.length ≤ c1 ∧ k123.C w A1 (rd_T32 xs i).f1.length (rd_T32 xs i).f1 := by
  obtain ⟨ad, c, e, _, hK, hc0⟩ := Kd.C_get h z32 i h0 h1
  have hc : ∀ j u, c[j]? = some u → w.cell? (ad.add (i.toNat * 3 + j)) = some u := hc0
  obtain ⟨A1, c1, rfl, l1, g1⟩ := k32_open hK
  exact ⟨ad, A1, c1, e, hc 0 _ rfl, by rw [← add_field _ _ 1 (by omega)]; exact hc 1 _ rfl, by rw [← add_field _ _ 2 (by omega)]; exact hc 2 _ rfl, l1, g1⟩

/-! #### struct type 35 -/
structure S35 where
  f0 : Int
  f1 : Int
  f2 : Int
  f3 : Int
  f4 : (List Int)
  f5 : Bool
def z35 : S35 := ⟨(0 : Int), (0 : Int), (0 : Int), (0 : Int), ([] : List Int), false⟩
def k35 : Kd S35 := Kd.iso (Kd.pair (Kd.int .i64) (Kd.pair (Kd.int .i64) (Kd.pair (Kd.int .i64) (Kd.pair (Kd.int .i64) (Kd.pair (Kd.slice 3 (Kd.int .i64)) Kd.bool))))) (fun x : S35 => (x.f0, x.f1, x.f2, x.f3, x.f4, x.f5))
theorem k35_open {w : World} {x : S35} {cs : List Value} (h : k35.K w x cs) : ∃ A4 c4, cs = [.int .i64 x.f0, .int .i64 x.f1, .int .i64 x.f2, .int .i64 x.f3, .slice A4 x.f4.length c4, .bool x.f5] ∧ x.f4.length ≤ c4 ∧ (Kd.int .i64).C w A4 x.f4.length x.f4 := by
  obtain ⟨_, _, rfl, rfl, ⟨_, _, rfl, rfl, ⟨_, _, rfl, rfl, ⟨_, _, rfl, rfl, ⟨_, _, rfl, ⟨A4, c4, rfl, l4, g4⟩, rfl⟩⟩⟩⟩⟩ := h
  exact ⟨A4, c4, rfl, l4, g4⟩
theorem k35_openM {w : World} {base : Nat} {ok : Nat → Prop} {x : S35} {cs : List Value} (h : k35.M w base ok x cs) : ∃ v4, cs = [.int .i64 x.f0, .int .i64 x.f1, .int .i64 x.f2, .int .i64 x.f3, v4, .bool x.f5] ∧ (Kd.int .i64).R 3 w base ok v4 x.f4 := by
  obtain ⟨_, _, rfl, rfl, ⟨_, _, rfl, rfl, ⟨_, _, rfl, rfl, ⟨_, _, rfl, rfl, ⟨_, _, rfl, ⟨v4, rfl, g4⟩, rfl⟩⟩⟩⟩⟩ := h
  exact ⟨v4, rfl, g4⟩
theorem k35_mk (w : World) (x : S35) {A4 : Option Addr} {c4 : Nat} (l4 : x.f4.length ≤ c4) (g4 : (Kd.int .i64).C w A4 x.f4.length x.f4) : k35.K w x [.int .i64 x.f0, .int .i64 x.f1, .int .i64 x.f2, .int .i64 x.f3, .slice A4 x.f4.length c4, .bool x.f5] := ⟨[.int .i64 x.f0], [.int .i64 x.f1, .int .i64 x.f2, .int .i64 x.f3, .slice A4 x.f4.length c4, .bool x.f5], rfl, rfl, ⟨[.int .i64 x.f1], [.int .i64 x.f2, .int .i64 x.f3, .slice A4 x.f4.length c4, .bool x.f5], rfl, rfl, ⟨[.int .i64 x.f2], [.int .i64 x.f3, .slice A4 x.f4.length c4, .bool x.f5], rfl, rfl, ⟨[.int .i64 x.f3], [.slice A4 x.f4.length c4, .bool x.f5], rfl, rfl, ⟨[.slice A4 x.f4.length c4], [.bool x.f5], rfl, ⟨A4, c4, rfl, l4, g4⟩, rfl⟩⟩⟩⟩⟩
theorem k35_mkM (w : World) (base : Nat) (ok : Nat → Prop) (x : S35) {v4 : Value} (g4 : (Kd.int .i64).R 3 w base ok v4 x.f4) : k35.M w base ok x [.int .i64 x.f0, .int .i64 x.f1, .int .i64 x.f2, .int .i64 x.f3, v4, .bool x.f5] := ⟨[.int .i64 x.f0], [.int .i64 x.f1, .int .i64 x.f2, .int .i64 x.f3, v4, .bool x.f5], rfl, rfl, ⟨[.int .i64 x.f1], [.int .i64 x.f2, .int .i64 x.f3, v4, .bool x.f5], rfl, rfl, ⟨[.int .i64 x.f2], [.int .i64 x.f3, v4, .bool x.f5], rfl, rfl, ⟨[.int .i64 x.f3], [v4, .bool x.f5], rfl, rfl, ⟨[v4], [.bool x.f5], rfl, ⟨v4, rfl, g4⟩, rfl⟩⟩⟩⟩⟩
theorem k35_openF {W : World} {ok : Nat → Prop} {x : S35} {cs : List Value} (h : Kd.FK k35 W ok x cs) : ∃ A4 c4, cs = [.int .i64 x.f0, .int .i64 x.f1, .int .i64 x.f2, .int .i64 x.f3, .slice A4 x.f4.length c4, .bool x.f5] ∧ x.f4.length ≤ c4 ∧ Kd.F (Kd.int .i64) W ok A4 x.f4.length x.f4 := by
  obtain ⟨A4, c4, rfl, l4, _⟩ := k35_open (Kd.FK_now h)
  exact ⟨A4, c4, rfl, l4, (fun W' hW => by obtain ⟨A4_, c4_, he, l4_, g4_⟩ := k35_open (h W' hW); injection (Option.some.inj (show some (Value.slice A4 x.f4.length c4) = some (Value.slice A4_ x.f4.length c4_) from congrArg (fun l => l[4]?) he)) with ha_ _ _; rw [ha_]; exact g4_)⟩
theorem k35_mkF (W : World) (ok : Nat → Prop) (x : S35) {A4 : Option Addr} {c4 : Nat} (l4 : x.f4.length ≤ c4) (g4 : Kd.F (Kd.int .i64) W ok A4 x.f4.length x.f4) : Kd.FK k35 W ok x [.int .i64 x.f0, .int .i64 x.f1, .int .i64 x.f2, .int .i64 x.f3, .slice A4 x.f4.length c4, .bool x.f5] := fun W2 hW => k35_mk W2 x l4 (g4 W2 hW)
def rd_T35 (xs : List S35) (i : Int) : S35 := xs.getD i.toNat z35
theorem at_T35 {w : World} {A : Option Addr} {n : Nat} {xs : List S35} (h : Kd.C k35 w A n xs) (i : Int) (h0 : 0 ≤ i) (h1 : i < n) : ∃ ad A4 c4, A = some ad ∧ w.cell? (ad.add (i.toNat * 6)) = some (.int .i64 (rd_T35 xs i).f0) ∧ w.cell? ⟨(ad.add (i.toNat * 6)).block, (ad.add (i.toNat * 6)).off + 1, none⟩ = some (.int .i64 (rd_T35 xs i).f1) ∧ w.cell? ⟨(ad.add (i.toNat * 6)).block, (ad.add (i.toNat * 6)).off + 2, none⟩ = some (.int .i64 (rd_T35 xs i).f2) ∧ w.cell? ⟨(ad.add (i.toNat * 6)).block, (ad.add (i.toNat * 6)).off + 3, none⟩ = some (.int .i64 (rd_T35 xs i).f3) ∧ w.cell? ⟨(ad.add (i.toNat * 6)).block, (ad.add (i.toNat * 6)).off + 4, none⟩ = some (.slice A4 (rd_T35 xs i).f4.length c4) ∧ w.cell? ⟨(ad.add (i.toNat * 6)).block, (ad.add (i.toNat * 6)).off + 5, none⟩ = some (.bool (rd_T35 xs i).f5) ∧ (rd_T35 xs i).f4.length ≤ c4 ∧ (Kd.int .i64).C w A4 (rd_T35 xs i).f4.length (rd_T35 xs i).f4 := by
  obtain ⟨ad, c, e, _, hK, hc0⟩ := Kd.C_get h z35 i h0 h1
  have hc : ∀ j u, c[j]? = some u → w.cell? (ad.add (i.toNat * 6 + j)) = some u := hc0
  obtain ⟨A4, c4, rfl, l4, g4⟩ := k35_open hK
  exact ⟨ad, A4, c4, e, hc 0 _ rfl, by rw [← add_field _ _ 1 (by omega)]; exact hc 1 _ rfl, by rw [← add_field _ _ 2 (by omega)]; exact hc 2 _ rfl, by rw [← add_field _ _ 3 (by omega)]; exact hc 3 _ rfl, by rw [← add_field _ _ 4 (by omega)]; exact hc 4 _ rfl, by rw [← add_field _ _ 5 (by omega)]; exact hc 5 _ rfl, l4, g4⟩

/-! #### struct type 37 -/
structure S37 where
  f0 : S32
  f1 : S35
  f2 : Int
  f3 : Bool
def z37 : S37 := ⟨z32, z35, (0 : Int), false⟩
def k37 : Kd S37 := Kd.iso (Kd.pair k32 (Kd.pair k35 (Kd.pair (Kd.int .i64) Kd.bool))) (fun x : S37 => (x.f0, x.f1, x.f2, x.f3))
theorem k37_open {w : World} {x : S37} {cs : List Value} (h : k37.K w x cs) : ∃ A1 c1 A7 c7, cs = [.string x.f0.f0, .slice A1 x.f0.f1.length c1, .int .i64 x.f0.f2, .int .i64 x.f1.f0, .int .i64 x.f1.f1, .int .i64 x.f1.f2, .int .i64 x.f1.f3, .slice A7 x.f1.f4.length c7, .bool x.f1.f5, .int .i64 x.f2, .bool x.f3] ∧ x.f0.f1.length ≤ c1 ∧ k123.C w A1 x.f0.f1.length x.f0.f1 ∧ x.f1.f4.length ≤ c7 ∧ (Kd.int .i64).C w A7 x.f1.f4.length x.f1.f4 := by
  obtain ⟨_, _, rfl, s0, ⟨_, _, rfl, s3, ⟨_, _, rfl, rfl, rfl⟩⟩⟩ := h
  obtain ⟨A1, c1, rfl, l1, g1⟩ := k32_open s0
  obtain ⟨A7, c7, rfl, l7, g7⟩ := k35_open s3
  exact ⟨A1, c1, A7, c7, rfl, l1, g1, l7, g7⟩
theorem k37_openM {w : World} {base : Nat} {ok : Nat → Prop} {x : S37} {cs : List Value} (h : k37.M w base ok x cs) : ∃ v1 v7, cs = [.string x.f0.f0, v1, .int .i64 x.f0.f2, .int .i64 x.f1.f0, .int .i64 x.f1.f1, .int .i64 x.f1.f2, .int .i64 x.f1.f3, v7, .bool x.f1.f5, .int .i64 x.f2, .bool x.f3] ∧ k123.R 123 w base ok v1 x.f0.f1 ∧ (Kd.int .i64).R 3 w base ok v7 x.f1.f4 := by
  obtain ⟨_, _, rfl, s0, ⟨_, _, rfl, s3, ⟨_, _, rfl, rfl, rfl⟩⟩⟩ := h
  obtain ⟨v1, rfl, g1⟩ := k32_openM s0
  obtain ⟨v7, rfl, g7⟩ := k35_openM s3
  exact ⟨v1, v7, rfl, g1, g7⟩
theorem k37_mk (w : World) (x : S37) {A1 : Option Addr} {c1 : Nat} (l1 : x.f0.f1.length ≤ c1) (g1 : k123.C w A1 x.f0.f1.length x.f0.f1) {A7 : Option Addr} {c7 : Nat} (l7 : x.f1.f4.length ≤ c7) (g7 : (Kd.int .i64).C w A7 x.f1.f4.length x.f1.f4) : k37.K w x [.string x.f0.f0, .slice A1 x.f0.f1.length c1, .int .i64 x.f0.f2, .int .i64 x.f1.f0, .int .i64 x.f1.f1, .int .i64 x.f1.f2, .int .i64 x.f1.f3, .slice A7 x.f1.f4.length c7, .bool x.f1.f5, .int .i64 x.f2, .bool x.f3] := ⟨[.string x.f0.f0, .slice A1 x.f0.f1.length c1, .int .i64 x.f0.f2], [.int .i64 x.f1.f0, .int .i64 x.f1.f1, .int .i64 x.f1.f2, .int .i64 x.f1.f3, .slice A7 x.f1.f4.length c7, .bool x.f1.f5, .int .i64 x.f2, .bool x.f3], rfl, (k32_mk w x.f0 l1 g1), ⟨[.int .i64 x.f1.f0, .int .i64 x.f1.f1, .int .i64 x.f1.f2, .int .i64 x.f1.f3, .slice A7 x.f1.f4.length c7, .bool x.f1.f5], [.int .i64 x.f2, .bool x.f3], rfl, (k35_mk w x.f1 l7 g7), ⟨[.int .i64 x.f2], [.bool x.f3], rfl, rfl, rfl⟩⟩⟩
theorem k37_mkM (w : World) (base : Nat) (ok : Nat → Prop) (x : S37) {v1 : Value} (g1 : k123.R 123 w base ok v1 x.f0.f1) {v7 : Value} (g7 : (Kd.int .i64).R 3 w base ok v7 x.f1.f4) : k37.M w base ok x [.string x.f0.f0, v1, .int .i64 x.f0.f2, .int .i64 x.f1.f0, .int .i64 x.f1.f1, .int .i64 x.f1.f2, .int .i64 x.f1.f3, v7, .bool x.f1.f5, .int .i64 x.f2, .bool x.f3] := ⟨[.string x.f0.f0, v1, .int .i64 x.f0.f2], [.int .i64 x.f1.f0, .int .i64 x.f1.f1, .int .i64 x.f1.f2, .int .i64 x.f1.f3, v7, .bool x.f1.f5, .int .i64 x.f2, .bool x.f3], rfl, (k32_mkM w base ok x.f0 g1), ⟨[.int .i64 x.f1.f0, .int .i64 x.f1.f1, .int .i64 x.f1.f2, .int .i64 x.f1.f3, v7, .bool x.f1.f5], [.int .i64 x.f2, .bool x.f3], rfl, (k35_mkM w base ok x.f1 g7), ⟨[.int .i64 x.f2], [.bool x.f3], rfl, rfl, rfl⟩⟩⟩
theorem k37_openF {W : World} {ok : Nat → Prop} {x : S37} {cs : List Value} (h : Kd.FK k37 W ok x cs) : ∃ A1 c1 A7 c7, cs = [.string x.f0.f0, .slice A1 x.f0.f1.length c1, .int .i64 x.f0.f2, .int .i64 x.f1.f0, .int .i64 x.f1.f1, .int .i64 x.f1.f2, .int .i64 x.f1.f3, .slice A7 x.f1.f4.length c7, .bool x.f1.f5, .int .i64 x.f2, .bool x.f3] ∧ x.f0.f1.length ≤ c1 ∧ Kd.F k123 W ok A1 x.f0.f1.length x.f0.f1 ∧ x.f1.f4.length ≤ c7 ∧ Kd.F (Kd.int .i64) W ok A7 x.f1.f4.length x.f1.f4 := by
  obtain ⟨A1, c1, A7, c7, rfl, l1, _, l7, _⟩ := k37_open (Kd.FK_now h)
  exact ⟨A1, c1, A7, c7, rfl, l1, (fun W' hW => by obtain ⟨A1_, c1_, A7_, c7_, he, l1_, g1_, l7_, g7_⟩ := k37_open (h W' hW); injection (Option.some.inj (show some (Value.slice A1 x.f0.f1.length c1) = some (Value.slice A1_ x.f0.f1.length c1_) from congrArg (fun l => l[1]?) he)) with ha_ _ _; rw [ha_]; exact g1_), l7, (fun W' hW => by obtain ⟨A1_, c1_, A7_, c7_, he, l1_, g1_, l7_, g7_⟩ := k37_open (h W' hW); injection (Option.some.inj (show some (Value.slice A7 x.f1.f4.length c7) = some (Value.slice A7_ x.f1.f4.length c7_) from congrArg (fun l => l[7]?) he)) with ha_ _ _; rw [ha_]; exact g7_)⟩
theorem k37_mkF (W : World) (ok : Nat → Prop) (x : S37) {A1 : Option Addr} {c1 : Nat} (l1 : x.f0.f1.length ≤ c1) (g1 : Kd.F k123 W ok A1 x.f0.f1.length x.f0.f1) {A7 : Option Addr} {c7 : Nat} (l7 : x.f1.f4.length ≤ c7) (g7 : Kd.F (Kd.int .i64) W ok A7 x.f1.f4.length x.f1.f4) : Kd.FK k37 W ok x [.string x.f0.f0, .slice A1 x.f0.f1.length c1, .int .i64 x.f0.f2, .int .i64 x.f1.f0, .int .i64 x.f1.f1, .int .i64 x.f1.f2, .int .i64 x.f1.f3, .slice A7 x.f1.f4.length c7, .bool x.f1.f5, .int .i64 x.f2, .bool x.f3] := fun W2 hW => k37_mk W2 x l1 (g1 W2 hW) l7 (g7 W2 hW)
def rd_T37 (xs : List S37) (i : Int) : S37 := xs.getD i.toNat z37
theorem at_T37 {w : World} {A : Option Addr} {n : Nat} {xs : List S37} (h : Kd.C k37 w A n xs) (i : Int) (h0 : 0 ≤ i) (h1 : i < n) : ∃ ad A1 c1 A7 c7, A = some ad ∧ w.cell? (ad.add (i.toNat * 11)) = some (.string (rd_T37 xs i).f0.f0) ∧ w.cell? ⟨(ad.add (i.toNat * 11)).block, (ad.add (i.toNat * 11)).off + 1, none⟩ = some (.slice A1 (rd_T37 xs i).f0.f1.length c1) ∧ w.cell? ⟨(ad.add (i.toNat * 11)).block, (ad.add (i.toNat * 11)).off + 2, none⟩ = some (.int .i64 (rd_T37 xs i).f0.f2) ∧ w.cell? ⟨(ad.add (i.toNat * 11)).block, (ad.add (i.toNat * 11)).off + 3, none⟩ = some (.int .i64 (rd_T37 xs i).f1.f0) ∧ w.cell? ⟨(ad.add (i.toNat * 11)).block, (ad.add (i.toNat * 11)).off + 4, none⟩ = some (.int .i64 (rd_T37 xs i).f1.f1) ∧ w.cell? ⟨(ad.add (i.toNat * 11)).block, (ad.add (i.toNat * 11)).off + 5, none⟩ = some (.int .i64 (rd_T37 xs i).f1.f2) ∧ w.cell? ⟨(ad.add (i.toNat * 11)).block, (ad.add (i.toNat * 11)).off + 6, none⟩ = some (.int .i64 (rd_T37 xs i).f1.f3) ∧ w.cell? ⟨(ad.add (i.toNat * 11)).block, (ad.add (i.toNat * 11)).off + 7, none⟩ = some (.slice A7 (rd_T37 xs i).f1.f4.length c7) ∧ w.cell? ⟨(ad.add (i.toNat * 11)).block, (ad.add (i.toNat * 11)).off + 8, none⟩ = some (.bool (rd_T37 xs i).f1.f5) ∧ w.cell? ⟨(ad.add (i.toNat * 11)).block, (ad.add (i.toNat * 11)).off + 9, none⟩ = some (.int .i64 (rd_T37 xs i).f2) ∧ w.cell? ⟨(ad.add (i.toNat * 11)).block, (ad.add (i.toNat * 11)).off + 10, none⟩ = some (.bool (rd_T37 xs i).f3) ∧ (rd_T37 xs i).f0.f1.length ≤ c1 ∧ k123.C w A1 (rd_T37 xs i).f0.f1.length (rd_T37 xs i).f0.f1 ∧ (rd_T37 xs i).f1.f4.length ≤ c7 ∧ (Kd.int .i64).C w A7 (rd_T37 xs i).f1.f4.length (rd_T37 xs i).f1.f4 := by
  obtain ⟨ad, c, e, _, hK, hc0⟩ := Kd.C_get h z37 i h0 h1
  have hc : ∀ j u, c[j]? = some u → w.cell? (ad.add (i.toNat * 11 + j)) = some u := hc0
  obtain ⟨A1, c1, A7, c7, rfl, l1, g1, l7, g7⟩ := k37_open hK
  exact ⟨ad, A1, c1, A7, c7, e, hc 0 _ rfl, by rw [← add_field _ _ 1 (by omega)]; exact hc 1 _ rfl, by rw [← add_field _ _ 2 (by omega)]; exact hc 2 _ rfl, by rw [← add_field _ _ 3 (by omega)]; exact hc 3 _ rfl, by rw [← add_field _ _ 4 (by omega)]; exact hc 4 _ rfl, by rw [← add_field _ _ 5 (by omega)]; exact hc 5 _ rfl, by rw [← add_field _ _ 6 (by omega)]; exact hc 6 _ rfl, by rw [← add_field _ _ 7 (by omega)]; exact hc 7 _ rfl, by rw [← add_field _ _ 8 (by omega)]; exact hc 8 _ rfl, by rw [← add_field _ _ 9 (by omega)]; exact hc 9 _ rfl, by rw [← add_field _ _ 10 (by omega)]; exact hc 10 _ rfl, l1, g1, l7, g7⟩

/-! #### struct type 94 -/
structure S94 where
  f0 : S27
  f1 : Int
  f2 : S92
def z94 : S94 := ⟨z27, (0 : Int), z92⟩
def k94 : Kd S94 := Kd.iso (Kd.pair k27 (Kd.pair (Kd.int .i64) k92)) (fun x : S94 => (x.f0, x.f1, x.f2))
theorem k94_open {w : World} {x : S94} {cs : List Value} (h : k94.K w x cs) : ∃ A1 c1 A8 c8, cs = [.string x.f0.f0, .slice A1 x.f0.f1.length c1, .int .i64 x.f0.f2, .int .i64 x.f1, .int .i64 x.f2.f0, .int .i64 x.f2.f1, .int .i64 x.f2.f2, .int .i64 x.f2.f3, .slice A8 x.f2.f4.length c8, .bool x.f2.f5] ∧ x.f0.f1.length ≤ c1 ∧ k119.C w A1 x.f0.f1.length x.f0.f1 ∧ x.f2.f4.length ≤ c8 ∧ (Kd.int .i64).C w A8 x.f2.f4.length x.f2.f4 := by
  obtain ⟨_, _, rfl, s0, ⟨_, _, rfl, rfl, s4⟩⟩ := h
  obtain ⟨A1, c1, rfl, l1, g1⟩ := k27_open s0
  obtain ⟨A8, c8, rfl, l8, g8⟩ := k92_open s4
  exact ⟨A1, c1, A8, c8, rfl, l1, g1, l8, g8⟩
theorem k94_openM {w : World} {base : Nat} {ok : Nat → Prop} {x : S94} {cs : List Value} (h : k94.M w base ok x cs) : ∃ v1 v8, cs = [.string x.f0.f0, v1, .int .i64 x.f0.f2, .int .i64 x.f1, .int .i64 x.f2.f0, .int .i64 x.f2.f1, .int .i64 x.f2.f2, .int .i64 x.f2.f3, v8, .bool x.f2.f5] ∧ k119.R 119 w base ok v1 x.f0.f1 ∧ (Kd.int .i64).R 3 w base ok v8 x.f2.f4 := by
  obtain ⟨_, _, rfl, s0, ⟨_, _, rfl, rfl, s4⟩⟩ := h
  obtain ⟨v1, rfl, g1⟩ := k27_openM s0
  obtain ⟨v8, rfl, g8⟩ := k92_openM s4
  exact ⟨v1, v8, rfl, g1, g8⟩
theorem k94_mk (w : World) (x : S94) {A1 : Option Addr} {c1 : Nat} (l1 : x.f0.f1.length ≤ c1) (g1 : k119.C w A1 x.f0.f1.length x.f0.f1) {A8 : Option Addr} {c8 : Nat} (l8 : x.f2.f4.length ≤ c8) (g8 : (Kd.int .i64).C w A8 x.f2.f4.length x.f2.f4) : k94.K w x [.string x.f0.f0, .slice A1 x.f0.f1.length c1, .int .i64 x.f0.f2, .int .i64 x.f1, .int .i64 x.f2.f0, .int .i64 x.f2.f1, .int .i64 x.f2.f2, .int .i64 x.f2.f3, .slice A8 x.f2.f4.length c8, .bool x.f2.f5] := ⟨[.string x.f0.f0, .slice A1 x.f0.f1.length c1, .int .i64 x.f0.f2], [.int .i64 x.f1, .int .i64 x.f2.f0, .int .i64 x.f2.f1, .int .i64 x.f2.f2, .int .i64 x.f2.f3, .slice A8 x.f2.f4.length c8, .bool x.f2.f5], rfl, (k27_mk w x.f0 l1 g1), ⟨[.int .i64 x.f1], [.int .i64 x.f2.f0, .int .i64 x.f2.f1, .int .i64 x.f2.f2, .int .i64 x.f2.f3, .slice A8 x.f2.f4.length c8, .bool x.f2.f5], rfl, rfl, (k92_mk w x.f2 l8 g8)⟩⟩
theorem k94_mkM (w : World) (base : Nat) (ok : Nat → Prop) (x : S94) {v1 : Value} (g1 : k119.R 119 w base ok v1 x.f0.f1) {v8 : Value} (g8 : (Kd.int .i64).R 3 w base ok v8 x.f2.f4) : k94.M w base ok x [.string x.f0.f0, v1, .int .i64 x.f0.f2, .int .i64 x.f1, .int .i64 x.f2.f0, .int .i64 x.f2.f1, .int .i64 x.f2.f2, .int .i64 x.f2.f3, v8, .bool x.f2.f5] := ⟨[.string x.f0.f0, v1, .int .i64 x.f0.f2], [.int .i64 x.f1, .int .i64 x.f2.f0, .int .i64 x.f2.f1, .int .i64 x.f2.f2, .int .i64 x.f2.f3, v8, .bool x.f2.f5], rfl, (k27_mkM w base ok x.f0 g1), ⟨[.int .i64 x.f1], [.int .i64 x.f2.f0, .int .i64 x.f2.f1, .int .i64 x.f2.f2, .int .i64 x.f2.f3, v8, .bool x.f2.f5], rfl, rfl, (k92_mkM w base ok x.f2 g8)⟩⟩
theorem k94_openF {W : World} {ok : Nat → Prop} {x : S94} {cs : List Value} (h : Kd.FK k94 W ok x cs) : ∃ A1 c1 A8 c8, cs = [.string x.f0.f0, .slice A1 x.f0.f1.length c1, .int .i64 x.f0.f2, .int .i64 x.f1, .int .i64 x.f2.f0, .int .i64 x.f2.f1, .int .i64 x.f2.f2, .int .i64 x.f2.f3, .slice A8 x.f2.f4.length c8, .bool x.f2.f5] ∧ x.f0.f1.length ≤ c1 ∧ Kd.F k119 W ok A1 x.f0.f1.length x.f0.f1 ∧ x.f2.f4.length ≤ c8 ∧ Kd.F (Kd.int .i64) W ok A8 x.f2.f4.length x.f2.f4 := by
  obtain ⟨A1, c1, A8, c8, rfl, l1, _, l8, _⟩ := k94_open (Kd.FK_now h)
  exact ⟨A1, c1, A8, c8, rfl, l1, (fun W' hW => by obtain ⟨A1_, c1_, A8_, c8_, he, l1_, g1_, l8_, g8_⟩ := k94_open (h W' hW); injection (Option.some.inj (show some (Value.slice A1 x.f0.f1.length c1) = some (Value.slice A1_ x.f0.f1.length c1_) from congrArg (fun l => l[1]?) he)) with ha_ _ _; rw [ha_]; exact g1_), l8, (fun W' hW => by obtain ⟨A1_, c1_, A8_, c8_, he, l1_, g1_, l8_, g8_⟩ := k94_open (h W' hW); injection (Option.some.inj (show some (Value.slice A8 x.f2.f4.length c8) = some (Value.slice A8_ x.f2.f4.length c8_) from congrArg (fun l => l[8]?) he)) with ha_ _ _; rw [ha_]; exact g8_)⟩
theorem k94_mkF (W : World) (ok : Nat → Prop) (x : S94) {A1 : Option Addr} {c1 : Nat} (l1 : x.f0.f1.length ≤ c1) (g1 : Kd.F k119 W ok A1 x.f0.f1.length x.f0.f1) {A8 : Option Addr} {c8 : Nat} (l8 : x.f2.f4.length ≤ c8) (g8 : Kd.F (Kd.int .i64) W ok A8 x.f2.f4.length x.f2.f4) : Kd.FK k94 W ok x [.string x.f0.f0, .slice A1 x.f0.f1.length c1, .int .i64 x.f0.f2, .int .i64 x.f1, .int .i64 x.f2.f0, .int .i64 x.f2.f1, .int .i64 x.f2.f2, .int .i64 x.f2.f3, .slice A8 x.f2.f4.length c8, .bool x.f2.f5] := fun W2 hW => k94_mk W2 x l1 (g1 W2 hW) l8 (g8 W2 hW)
def rd_T94 (xs : List S94) (i : Int) : S94 := xs.getD i.toNat z94
theorem at_T94 {w : World} {A : Option Addr} {n : Nat} {xs : List S94} (h : Kd.C k94 w A n xs) (i : Int) (h0 : 0 ≤ i) (h1 : i < n) : ∃ ad A1 c1 A8 c8, A = some ad ∧ w.cell? (ad.add (i.toNat * 10)) = some (.string (rd_T94 xs i).f0.f0) ∧ w.cell? ⟨(ad.add (i.toNat * 10)).block, (ad.add (i.toNat * 10)).off + 1, none⟩ = some (.slice A1 (rd_T94 xs i).f0.f1.length c1) ∧ w.cell? ⟨(ad.add (i.toNat * 10)).block, (ad.add (i.toNat * 10)).off + 2, none⟩ = some (.int .i64 (rd_T94 xs i).f0.f2) ∧ w.cell? ⟨(ad.add (i.toNat * 10)).block, (ad.add (i.toNat * 10)).off + 3, none⟩ = some (.int .i64 (rd_T94 xs i).f1) ∧ w.cell? ⟨(ad.add (i.toNat * 10)).block, (ad.add (i.toNat * 10)).off + 4, none⟩ = some (.int .i64 (rd_T94 xs i).f2.f0) ∧ w.cell? ⟨(ad.add (i.toNat * 10)).block, (ad.add (i.toNat * 10)).off + 5, none⟩ = some (.int .i64 (rd_T94 xs i).f2.f1) ∧ w.cell? ⟨(ad.add (i.toNat * 10)).block, (ad.add (i.toNat * 10)).off + 6, none⟩ = some (.int .i64 (rd_T94 xs i).f2.f2) ∧ w.cell? ⟨(ad.add (i.toNat * 10)).block, (ad.add (i.toNat * 10)).off + 7, none⟩ = some (.int .i64 (rd_T94 xs i).f2.f3) ∧ w.cell? ⟨(ad.add (i.toNat * 10)).block, (ad.add (i.toNat * 10)).off + 8, none⟩ = some (.slice A8 (rd_T94 xs i).f2.f4.length c8) ∧ w.cell? ⟨(ad.add (i.toNat * 10)).block, (ad.add (i.toNat * 10)).off + 9, none⟩ = some (.bool (rd_T94 xs i).f2.f5) ∧ (rd_T94 xs i).f0.f1.length ≤ c1 ∧ k119.C w A1 (rd_T94 xs i).f0.f1.length (rd_T94 xs i).f0.f1 ∧ (rd_T94 xs i).f2.f4.length ≤ c8 ∧ (Kd.int .i64).C w A8 (rd_T94 xs i).f2.f4.length (rd_T94 xs i).f2.f4 := by
  obtain ⟨ad, c, e, _, hK, hc0⟩ := Kd.C_get h z94 i h0 h1
  have hc : ∀ j u, c[j]? = some u → w.cell? (ad.add (i.toNat * 10 + j)) = some u := hc0
  obtain ⟨A1, c1, A8, c8, rfl, l1, g1, l8, g8⟩ := k94_open hK
  exact ⟨ad, A1, c1, A8, c8, e, hc 0 _ rfl, by rw [← add_field _ _ 1 (by omega)]; exact hc 1 _ rfl, by rw [← add_field _ _ 2 (by omega)]; exact hc 2 _ rfl, by rw [← add_field _ _ 3 (by omega)]; exact hc 3 _ rfl, by rw [← add_field _ _ 4 (by omega)]; exact hc 4 _ rfl, by rw [← add_field _ _ 5 (by omega)]; exact hc 5 _ rfl, by rw [← add_field _ _ 6 (by omega)]; exact hc 6 _ rfl, by rw [← add_field _ _ 7 (by omega)]; exact hc 7 _ rfl, by rw [← add_field _ _ 8 (by omega)]; exact hc 8 _ rfl, by rw [← add_field _ _ 9 (by omega)]; exact hc 9 _ rfl, l1, g1, l8, g8⟩

/-! #### struct type 96 -/
structure S96 where
  f0 : S32
  f1 : Int
  f2 : S35
def z96 : S96 := ⟨z32, (0 : Int), z35⟩
def k96 : Kd S96 := Kd.iso (Kd.pair k32 (Kd.pair (Kd.int .i64) k35)) (fun x : S96 => (x.f0, x.f1, x.f2))
theorem k96_open {w : World} {x : S96} {cs : List Value} (h : k96.K w x cs) : ∃ A1 c1 A8 c8, cs = [.string x.f0.f0, .slice A1 x.f0.f1.length c1, .int .i64 x.f0.f2, .int .i64 x.f1, .int .i64 x.f2.f0, .int .i64 x.f2.f1, .int .i64 x.f2.f2, .int .i64 x.f2.f3, .slice A8 x.f2.f4.length c8, .bool x.f2.f5] ∧ x.f0.f1.length ≤ c1 ∧ k123.C w A1 x.f0.f1.length x.f0.f1 ∧ x.f2.f4.length ≤ c8 ∧ (Kd.int .i64).C w A8 x.f2.f4.length x.f2.f4 := by
  obtain ⟨_, _, rfl, s0, ⟨_, _, rfl, rfl, s4⟩⟩ := h
  obtain ⟨A1, c1, rfl, l1, g1⟩ := k32_open s0
  obtain ⟨A8, c8, rfl, l8, g8⟩ := k35_open s4
  exact ⟨A1, c1, A8, c8, rfl, l1, g1, l8, g8⟩
theorem k96_openM {w : World} {base : Nat} {ok : Nat → Prop} {x : S96} {cs : List Value} (h : k96.M w base ok x cs) : ∃ v1 v8, cs = [.string x.f0.f0, v1, .int .i64 x.f0.f2, .int .i64 x.f1, .int .i64 x.f2.f0, .int .i64 x.f2.f1, .int .i64 x.f2.f2, .int .i64 x.f2.f3, v8, .bool x.f2.f5] ∧ k123.R 123 w base ok v1 x.f0.f1 ∧ (Kd.int .i64).R 3 w base ok v8 x.f2.f4 := by
  obtain ⟨_, _, rfl, s0, ⟨_, _, rfl, rfl, s4⟩⟩ := h
  obtain ⟨v1, rfl, g1⟩ := k32_openM s0
  obtain ⟨v8, rfl, g8⟩ := k35_openM s4
  exact ⟨v1, v8, rfl, g1, g8⟩
theorem k96_mk (w : World) (x : S96) {A1 : Option Addr} {c1 : Nat} (l1 : x.f0.f1.length ≤ c1) (g1 : k123.C w A1 x.f0.f1.length x.f0.f1) {A8 : Option Addr} {c8 : Nat} (l8 : x.f2.f4.length ≤ c8) (g8 : (Kd.int .i64).C w A8 x.f2.f4.length x.f2.f4) : k96.K w x [.string x.f0.f0, .slice A1 x.f0.f1.length c1, .int .i64 x.f0.f2, .int .i64 x.f1, .int .i64 x.f2.f0, .int .i64 x.f2.f1, .int .i64 x.f2.f2, .int .i64 x.f2.f3, .slice A8 x.f2.f4.length c8, .bool x.f2.f5] := ⟨[.string x.f0.f0, .slice A1 x.f0.f1.length c1, .int .i64 x.f0.f2], [.int .i64 x.f1, .int .i64 x.f2.f0, .int .i64 x.f2.f1, .int .i64 x.f2.f2, .int .i64 x.f2.f3, .slice A8 x.f2.f4.length c8, .bool x.f2.f5], rfl, (k32_mk w x.f0 l1 g1), ⟨[.int .i64 x.f1], [.int .i64 x.f2.f0, .int .i64 x.f2.f1, .int .i64 x.f2.f2, .int .i64 x.f2.f3, .slice A8 x.f2.f4.length c8, .bool x.f2.f5], rfl, rfl, (k35_mk w x.f2 l8 g8)⟩⟩
theorem k96_mkM (w : World) (base : Nat) (ok : Nat → Prop) (x : S96) {v1 : Value} (g1 : k123.R 123 w base ok v1 x.f0.f1) {v8 : Value} (g8 : (Kd.int .i64).R 3 w base ok v8 x.f2.f4) : k96.M w base ok x [.string x.f0.f0, v1, .int .i64 x.f0.f2, .int .i64 x.f1, .int .i64 x.f2.f0, .int .i64 x.f2.f1, .int .i64 x.f2.f2, .int .i64 x.f2.f3, v8, .bool x.f2.f5] := ⟨[.string x.f0.f0, v1, .int .i64 x.f0.f2], [.int .i64 x.f1, .int .i64 x.f2.f0, .int .i64 x.f2.f1, .int .i64 x.f2.f2, .int .i64 x.f2.f3, v8, .bool x.f2.f5], rfl, (k32_mkM w base ok x.f0 g1), ⟨[.int .i64 x.f1], [.int .i64 x.f2.f0, .int .i64 x.f2.f1, .int .i64 x.f2.f2, .int .i64 x.f2.f3, v8, .bool x.f2.f5], rfl, rfl, (k35_mkM w base ok x.f2 g8)⟩⟩
theorem k96_openF {W : World} {ok : Nat → Prop} {x : S96} {cs : List Value} (h : Kd.FK k96 W ok x cs) : ∃ A1 c1 A8 c8, cs = [.string x.f0.f0, .slice A1 x.f0.f1.length c1, .int .i64 x.f0.f2, .int .i64 x.f1, .int .i64 x.f2.f0, .int .i64 x.f2.f1, .int .i64 x.f2.f2, .int .i64 x.f2.f3, .slice A8 x.f2.f4.length c8, .bool x.f2.f5] ∧ x.f0.f1.length ≤ c1 ∧ Kd.F k123 W ok A1 x.f0.f1.length x.f0.f1 ∧ x.f2.f4.length ≤ c8 ∧ Kd.F (Kd.int .i64) W ok A8 x.f2.f4.length x.f2.f4 := by
  obtain ⟨A1, c1, A8, c8, rfl, l1, _, l8, _⟩ := k96_open (Kd.FK_now h)
  exact ⟨A1, c1, A8, c8, rfl, l1, (fun W' hW => by obtain ⟨A1_, c1_, A8_, c8_, he, l1_, g1_, l8_, g8_⟩ := k96_open (h W' hW); injection (Option.some.inj (show some (Value.slice A1 x.f0.f1.length c1) = some (Value.slice A1_ x.f0.f1.length c1_) from congrArg (fun l => l[1]?) he)) with ha_ _ _; rw [ha_]; exact g1_), l8, (fun W' hW => by obtain ⟨A1_, c1_, A8_, c8_, he, l1_, g1_, l8_, g8_⟩ := k96_open (h W' hW); injection (Option.some.inj (show some (Value.slice A8 x.f2.f4.length c8) = some (Value.slice A8_ x.f2.f4.length c8_) from congrArg (fun l => l[8]?) he)) with ha_ _ _; rw [ha_]; exact g8_)⟩
theorem k96_mkF (W : World) (ok : Nat → Prop) (x : S96) {A1 : Option Addr} {c1 : Nat} (l1 : x.f0.f1.length ≤ c1) (g1 : Kd.F k123 W ok A1 x.f0.f1.length x.f0.f1) {A8 : Option Addr} {c8 : Nat} (l8 : x.f2.f4.length ≤ c8) (g8 : Kd.F (Kd.int .i64) W ok A8 x.f2.f4.length x.f2.f4) : Kd.FK k96 W ok x [.string x.f0.f0, .slice A1 x.f0.f1.length c1, .int .i64 x.f0.f2, .int .i64 x.f1, .int .i64 x.f2.f0, .int .i64 x.f2.f1, .int .i64 x.f2.f2, .int .i64 x.f2.f3, .slice A8 x.f2.f4.length c8, .bool x.f2.f5] := fun W2 hW => k96_mk W2 x l1 (g1 W2 hW) l8 (g8 W2 hW)
def rd_T96 (xs : List S96) (i : Int) : S96 := xs.getD i.toNat z96
theorem at_T96 {w : World} {A : Option Addr} {n : Nat} {xs : List S96} (h : Kd.C k96 w A n xs) (i : Int) (h0 : 0 ≤ i) (h1 : i < n) : ∃ ad A1 c1 A8 c8, A = some ad ∧ w.cell? (ad.add (i.toNat * 10)) = some (.string (rd_T96 xs i).f0.f0) ∧ w.cell? ⟨(ad.add (i.toNat * 10)).block, (ad.add (i.toNat * 10)).off + 1, none⟩ = some (.slice A1 (rd_T96 xs i).f0.f1.length c1) ∧ w.cell? ⟨(ad.add (i.toNat * 10)).block, (ad.add (i.toNat * 10)).off + 2, none⟩ = some (.int .i64 (rd_T96 xs i).f0.f2) ∧ w.cell? ⟨(ad.add (i.toNat * 10)).block, (ad.add (i.toNat * 10)).off + 3, none⟩ = some (.int .i64 (rd_T96 xs i).f1) ∧ w.cell? ⟨(ad.add (i.toNat * 10)).block, (ad.add (i.toNat * 10)).off + 4, none⟩ = some (.int .i64 (rd_T96 xs i).f2.f0) ∧ w.cell? ⟨(ad.add (i.toNat * 10)).block, (ad.add (i.toNat * 10)).off + 5, none⟩ = some (.int .i64 (rd_T96 xs i).f2.f1) ∧ w.cell? ⟨(ad.add (i.toNat * 10)).block, (ad.add (i.toNat * 10)).off + 6, none⟩ = some (.int .i64 (rd_T96 xs i).f2.f2) ∧ w.cell? ⟨(ad.add (i.toNat * 10)).block, (ad.add (i.toNat * 10)).off + 7, none⟩ = some (.int .i64 (rd_T96 xs i).f2.f3) ∧ w.cell? ⟨(ad.add (i.toNat * 10)).block, (ad.add (i.toNat * 10)).off + 8, none⟩ = some (.slice A8 (rd_T96 xs i).f2.f4.length c8) ∧ w.cell? ⟨(ad.add (i.toNat * 10)).block, (ad.add (i.toNat * 10)).off + 9, none⟩ = some (.bool (rd_T96 xs i).f2.f5) ∧ (rd_T96 xs i).f0.f1.length ≤ c1 ∧ k123.C w A1 (rd_T96 xs i).f0.f1.length (rd_T96 xs i).f0.f1 ∧ (rd_T96 xs i).f2.f4.length ≤ c8 ∧ (Kd.int .i64).C w A8 (rd_T96 xs i).f2.f4.length (rd_T96 xs i).f2.f4 := by
  obtain ⟨ad, c, e, _, hK, hc0⟩ := Kd.C_get h z96 i h0 h1
  have hc : ∀ j u, c[j]? = some u → w.cell? (ad.add (i.toNat * 10 + j)) = some u := hc0
  obtain ⟨A1, c1, A8, c8, rfl, l1, g1, l8, g8⟩ := k96_open hK
  exact ⟨ad, A1, c1, A8, c8, e, hc 0 _ rfl, by rw [← add_field _ _ 1 (by omega)]; exact hc 1 _ rfl, by rw [← add_field _ _ 2 (by omega)]; exact hc 2 _ rfl, by rw [← add_field _ _ 3 (by omega)]; exact hc 3 _ rfl, by rw [← add_field _ _ 4 (by omega)]; exact hc 4 _ rfl, by rw [← add_field _ _ 5 (by omega)]; exact hc 5 _ rfl, by rw [← add_field _ _ 6 (by omega)]; exact hc 6 _ rfl, by rw [← add_field _ _ 7 (by omega)]; exact hc 7 _ rfl, by rw [← add_field _ _ 8 (by omega)]; exact hc 8 _ rfl, by rw [← add_field _ _ 9 (by omega)]; exact hc 9 _ rfl, l1, g1, l8, g8⟩

end Go.Proofs.YtkgmoajdcibafaaDoor.P

/- What lies in one stretch of memory stays, whatever is done elsewhere. No conditions. -/
namespace Go.Proofs.YtkgmoajdcibafaaDoor.P
open Go.RowKit Go.Proofs.YtkgmoajdcibafaaDoorW.PrintWords Go.Proofs.YtkgmoajdcibafaaDoorW.PrintLast Go.Proofs.YtkgmoajdcibafaaDoorW.PrintMore
section
variable {α : Type} {d : Kd α} {e lo hi lo' hi' b : Nat} {w W W' : World} {S : Nat → Prop} {F G : World → Prop} {v : Value} {l l' : List α}
/-- F is told of W by its blocks lo .. hi alone. -/
def Loc (lo hi : Nat) (F : World → Prop) (W : World) : Prop := hi ≤ W.heap.size ∧ ∀ W' : World, hi ≤ W'.heap.size → (∀ k, lo ≤ k → k < hi → W'.heap[k]? = W.heap[k]?) → F W'
theorem Loc.now (h : Loc lo hi F W) : F W := h.2 W h.1 (fun _ _ _ => rfl)
theorem Loc.step (h : Loc lo hi F W) (hs : hi ≤ W'.heap.size) (hk : ∀ k, lo ≤ k → k < hi → W'.heap[k]? = W.heap[k]?) : Loc lo hi F W' :=
  ⟨hs, fun W2 h2 hk2 => h.2 W2 h2 (fun k h0 h1 => (hk2 k h0 h1).trans (hk k h0 h1))⟩
theorem Loc.below (h : Loc lo hi F W) (hb : Below W.heap.size W W') : Loc lo hi F W' := h.step (Nat.le_trans h.1 hb.size) (fun k _ h1 => hb.block k (Nat.lt_of_lt_of_le h1 h.1))
theorem Loc.kept (h : Loc lo hi F W) (hk : Kept W W' S) (hn : ∀ k, lo ≤ k → k < hi → ¬ S k) : Loc lo hi F W' := h.step (Nat.le_trans h.1 hk.1) (fun k h0 h1 => hk.2 k (Nat.lt_of_lt_of_le h1 h.1) (hn k h0 h1))
/-- .. where another stretch is written. -/
theorem Loc.apart (h : Loc lo hi F W) (hk : Kept W W' (fun k => lo' ≤ k ∧ k < hi')) (hn : hi ≤ lo' ∨ hi' ≤ lo) : Loc lo hi F W' := h.kept hk (fun k h0 h1 hs => by omega)
theorem Loc.box {o : Obj} (h : W.heap[b]? = some o) : Loc b (b + 1) (fun W => W.heap[b]? = some o) W :=
  ⟨(Array.getElem?_eq_some_iff.1 h).1, fun W' _ hk => (hk b (Nat.le_refl _) (by omega)).trans h⟩
theorem Loc.ofS (hh : hi ≤ W.heap.size) (h : Kd.S d e W w.heap.size (fun k => lo ≤ k ∧ k < hi) v l) : Loc lo hi (fun W => Kd.S d e W w.heap.size (fun k => lo ≤ k ∧ k < hi) v l) W :=
  ⟨hh, fun _ _ hk => Kd.S_move h (fun k hs => hk k hs.1 hs.2)⟩
theorem Loc.ofR (hh : hi ≤ W.heap.size) (h : Kd.R d e W w.heap.size (fun k => lo ≤ k ∧ k < hi) v l) : Loc lo hi (fun W => Kd.R d e W w.heap.size (fun k => lo ≤ k ∧ k < hi) v l) W :=
  ⟨hh, fun _ _ hk => Kd.R_move (Kd.R_bound h) (fun k hs => hk k hs.1.1 hs.1.2) |> fun h => Kd.R_mono h (fun _ hk => hk.1)⟩
/-- What a call has made. -/
theorem Loc.newS (hs : Kd.S d e W' W.heap.size (fun _ => True) v l) (hB : Below w.heap.size w W) : ∃ lo hi, lo = W.heap.size ∧ Loc lo hi (fun W => Kd.S d e W w.heap.size (fun k => lo ≤ k ∧ k < hi) v l) W' ∧ hi = W'.heap.size :=
  ⟨_, _, rfl, Loc.ofS (Nat.le_refl _) (Kd.S_mono (Kd.S_lower (Kd.S_bound hs) hB.size) (fun _ hk => ⟨hk.2.1, hk.2.2.1⟩)), rfl⟩
theorem Loc.newR (hs : Kd.R d e W' W.heap.size (fun _ => True) v l) (hB : Below w.heap.size w W) : ∃ lo hi, lo = W.heap.size ∧ Loc lo hi (fun W => Kd.R d e W w.heap.size (fun k => lo ≤ k ∧ k < hi) v l) W' ∧ hi = W'.heap.size :=
  ⟨_, _, rfl, Loc.ofR (Nat.le_refl _) (Kd.R_mono (Kd.R_lower (Kd.R_bound hs) hB.size) (fun _ hk => ⟨hk.2.1, hk.2.2.1⟩)), rfl⟩
theorem Loc.ofV (hh : hi ≤ W.heap.size) (h : Kd.V d e W w.heap.size (fun k => lo ≤ k ∧ k < hi) v l) : Loc lo hi (fun W => Kd.V d e W w.heap.size (fun k => lo ≤ k ∧ k < hi) v l) W :=
  ⟨hh, fun _ _ hk => Kd.V_step h (fun k hs _ => hk k hs.1 hs.2)⟩
/-- What a call has made of an elder stretch and of new blocks. -/
theorem Loc.newN {b : Nat} (hA : Loc lo hi F W) (hlo : lo ≤ hi) (hs : Kd.N d e W' b (fun k => ((lo ≤ k ∧ k < hi) ∨ W.heap.size ≤ k)) v l) (hb : Below W.heap.size W W') :
    ∃ hi', Loc lo hi' (fun W => Kd.V d e W w.heap.size (fun k => lo ≤ k ∧ k < hi') v l) W' ∧ hi' = W'.heap.size ∧ lo ≤ hi' :=
  ⟨_, Loc.ofV (Nat.le_refl _) (Kd.V_mono (Kd.V_bound (Kd.N_V hs)) (fun k hk => ⟨by rcases hk.1 with h | h; exact h.1; exact Nat.le_trans hlo (Nat.le_trans hA.1 h), hk.2⟩)), rfl, Nat.le_trans hlo (Nat.le_trans hA.1 hb.size)⟩
/-- .. of two elder stretches, one behind the other, and of new blocks. -/
theorem Loc.newN2 {b lo2 hi2 : Nat} (hA : Loc lo hi F W) (_ : Loc lo2 hi2 G W) (hlo : lo ≤ hi) (h12 : hi ≤ lo2) (_ : lo2 ≤ hi2) (hs : Kd.N d e W' b (fun k => (((lo ≤ k ∧ k < hi) ∨ (lo2 ≤ k ∧ k < hi2)) ∨ W.heap.size ≤ k)) v l) (hb : Below W.heap.size W W') :
    ∃ hi', Loc lo hi' (fun W => Kd.V d e W w.heap.size (fun k => lo ≤ k ∧ k < hi') v l) W' ∧ hi' = W'.heap.size ∧ lo ≤ hi' :=
  ⟨_, Loc.ofV (Nat.le_refl _) (Kd.V_mono (Kd.V_bound (Kd.N_V hs)) (fun k hk => ⟨by rcases hk.1 with (h | h) | h; exact h.1; omega; exact Nat.le_trans hlo (Nat.le_trans hA.1 h), hk.2⟩)), rfl, Nat.le_trans hlo (Nat.le_trans hA.1 hb.size)⟩
theorem Loc.readsV {A : Option Addr} {n c : Nat} (h : Loc lo hi (fun W => Kd.V d e W w.heap.size (fun k => lo ≤ k ∧ k < hi) (.slice A n c) l) W) : n = l.length ∧ l.length ≤ c ∧ d.C W A l.length l := by
  obtain ⟨h1, h2, h3⟩ := Kd.V_reads' h.now
  exact ⟨h1, by omega, h3⟩
theorem Loc.size (h : Loc lo hi F W) : hi ≤ W.heap.size := h.1
/-- A row's slice, and how it is read. -/
theorem Loc.readsS {A : Option Addr} {n c : Nat} (h : Loc lo hi (fun W => Kd.S d e W w.heap.size (fun k => lo ≤ k ∧ k < hi) (.slice A n c) l) W) : n = l.length ∧ l.length ≤ c ∧ d.C W A l.length l := by
  obtain ⟨h1, h2, h3⟩ := Kd.S_reads' h.now
  exact ⟨h1, by omega, h3⟩
theorem Loc.readsR {A : Option Addr} {n c : Nat} (h : Loc lo hi (fun W => Kd.R d e W w.heap.size (fun k => lo ≤ k ∧ k < hi) (.slice A n c) l) W) : n = l.length ∧ l.length ≤ c ∧ d.C W A l.length l := by
  obtain ⟨h1, h2, h3⟩ := Kd.R_reads' h.now
  exact ⟨h1, by omega, h3⟩
/-- Block b alone is written. -/
def Only (W W' : World) (b : Nat) : Prop := W'.os = W.os ∧ W'.tape = W.tape ∧ W'.output = W.output ∧ W'.heap.size = W.heap.size ∧ ∀ k, k ≠ b → W'.heap[k]? = W.heap[k]?
theorem Only.refl (W : World) (b : Nat) : Only W W b := ⟨rfl, rfl, rfl, rfl, fun _ _ => rfl⟩
theorem Only.set {i : Nat} {u : Value} (h : Only W W' b) : Only W (W'.setCell ⟨b, i, none⟩ u) b :=
  ⟨h.1, h.2.1, h.2.2.1, (by simpa [World.setCell] using h.2.2.2.1), fun k hk => (Below.heap_setCell W' ⟨b, i, none⟩ u k hk).trans (h.2.2.2.2 k hk)⟩
theorem Loc.only (h : Loc lo hi F W) (ho : Only W W' b) (hn : hi ≤ b) : Loc lo hi F W' := h.step (by rw [ho.2.2.2.1]; exact h.1) (fun k _ h1 => ho.2.2.2.2 k (by omega))
theorem Loc.only2 (h : Loc lo hi F W) (ho : Only W W' b) (hn : b + 1 ≤ lo ∨ hi ≤ b) : Loc lo hi F W' := h.step (by rw [ho.2.2.2.1]; exact h.1) (fun k h0 h1 => ho.2.2.2.2 k (by omega))
theorem blk_put4 {g : Nat} {t : TypeId} {a0 a1 a2 a3 x0 x1 x2 x3 : Value} (h : W.heap[g]? = some (.cells #[a0, a1, a2, a3] t (0, 0))) :
    ((((W.setCell ⟨g, 0, none⟩ x0).setCell ⟨g, 1, none⟩ x1).setCell ⟨g, 2, none⟩ x2).setCell ⟨g, 3, none⟩ x3).heap[g]? = some (.cells #[x0, x1, x2, x3] t (0, 0)) := blk_set (blk_set (blk_set (blk_set h 0 x0) 1 x1) 2 x2) 3 x3
theorem blk_put4_2 {g : Nat} {t : TypeId} {a0 a1 a2 a3 x2 : Value} (h : W.heap[g]? = some (.cells #[a0, a1, a2, a3] t (0, 0))) :
    (W.setCell ⟨g, 2, none⟩ x2).heap[g]? = some (.cells #[a0, a1, x2, a3] t (0, 0)) := blk_set h 2 x2
theorem blk_put6 {g : Nat} {t : TypeId} {a0 a1 a2 a3 a4 a5 x0 x1 x2 x3 x4 x5 : Value} (h : W.heap[g]? = some (.cells #[a0, a1, a2, a3, a4, a5] t (0, 0))) :
    ((((((W.setCell ⟨g, 0, none⟩ x0).setCell ⟨g, 1, none⟩ x1).setCell ⟨g, 2, none⟩ x2).setCell ⟨g, 3, none⟩ x3).setCell ⟨g, 4, none⟩ x4).setCell ⟨g, 5, none⟩ x5).heap[g]? = some (.cells #[x0, x1, x2, x3, x4, x5] t (0, 0)) := by
  have h0 : (W.setCell ⟨g, 0, none⟩ x0).heap[g]? = some (.cells #[x0, a1, a2, a3, a4, a5] t (0, 0)) := by
    have q := blk_set h 0 x0
    simp only [List.setIfInBounds_toArray, List.set_cons_zero] at q
    exact q
  have h1 : ((W.setCell ⟨g, 0, none⟩ x0).setCell ⟨g, 1, none⟩ x1).heap[g]? = some (.cells #[x0, x1, a2, a3, a4, a5] t (0, 0)) := by
    have q := blk_set h0 1 x1
    simp only [List.setIfInBounds_toArray, List.set_cons_zero, List.set_cons_succ] at q
    exact q
  have h2 : (((W.setCell ⟨g, 0, none⟩ x0).setCell ⟨g, 1, none⟩ x1).setCell ⟨g, 2, none⟩ x2).heap[g]? = some (.cells #[x0, x1, x2, a3, a4, a5] t (0, 0)) := by
    have q := blk_set h1 2 x2
    simp only [List.setIfInBounds_toArray, List.set_cons_zero, List.set_cons_succ] at q
    exact q
  have h3 : ((((W.setCell ⟨g, 0, none⟩ x0).setCell ⟨g, 1, none⟩ x1).setCell ⟨g, 2, none⟩ x2).setCell ⟨g, 3, none⟩ x3).heap[g]? = some (.cells #[x0, x1, x2, x3, a4, a5] t (0, 0)) := by
    have q := blk_set h2 3 x3
    simp only [List.setIfInBounds_toArray, List.set_cons_zero, List.set_cons_succ] at q
    exact q
  have h4 : (((((W.setCell ⟨g, 0, none⟩ x0).setCell ⟨g, 1, none⟩ x1).setCell ⟨g, 2, none⟩ x2).setCell ⟨g, 3, none⟩ x3).setCell ⟨g, 4, none⟩ x4).heap[g]? = some (.cells #[x0, x1, x2, x3, x4, a5] t (0, 0)) := by
    have q := blk_set h3 4 x4
    simp only [List.setIfInBounds_toArray, List.set_cons_zero, List.set_cons_succ] at q
    exact q
  have h5 : ((((((W.setCell ⟨g, 0, none⟩ x0).setCell ⟨g, 1, none⟩ x1).setCell ⟨g, 2, none⟩ x2).setCell ⟨g, 3, none⟩ x3).setCell ⟨g, 4, none⟩ x4).setCell ⟨g, 5, none⟩ x5).heap[g]? = some (.cells #[x0, x1, x2, x3, x4, x5] t (0, 0)) := by
    have q := blk_set h4 5 x5
    simp only [List.setIfInBounds_toArray, List.set_cons_zero, List.set_cons_succ] at q
    exact q
  exact h5
theorem blk_put9 {g : Nat} {t : TypeId} {a0 a1 a2 a3 a4 a5 a6 a7 a8 x0 x1 x2 x3 x4 x5 x6 x7 x8 : Value} (h : W.heap[g]? = some (.cells #[a0, a1, a2, a3, a4, a5, a6, a7, a8] t (0, 0))) :
    (((((((((W.setCell ⟨g, 0, none⟩ x0).setCell ⟨g, 1, none⟩ x1).setCell ⟨g, 2, none⟩ x2).setCell ⟨g, 3, none⟩ x3).setCell ⟨g, 4, none⟩ x4).setCell ⟨g, 5, none⟩ x5).setCell ⟨g, 6, none⟩ x6).setCell ⟨g, 7, none⟩ x7).setCell ⟨g, 8, none⟩ x8).heap[g]? = some (.cells #[x0, x1, x2, x3, x4, x5, x6, x7, x8] t (0, 0)) := by
  have h0 : (W.setCell ⟨g, 0, none⟩ x0).heap[g]? = some (.cells #[x0, a1, a2, a3, a4, a5, a6, a7, a8] t (0, 0)) := by
    have q := blk_set h 0 x0
    simp only [List.setIfInBounds_toArray, List.set_cons_zero] at q
    exact q
  have h1 : ((W.setCell ⟨g, 0, none⟩ x0).setCell ⟨g, 1, none⟩ x1).heap[g]? = some (.cells #[x0, x1, a2, a3, a4, a5, a6, a7, a8] t (0, 0)) := by
    have q := blk_set h0 1 x1
    simp only [List.setIfInBounds_toArray, List.set_cons_zero, List.set_cons_succ] at q
    exact q
  have h2 : (((W.setCell ⟨g, 0, none⟩ x0).setCell ⟨g, 1, none⟩ x1).setCell ⟨g, 2, none⟩ x2).heap[g]? = some (.cells #[x0, x1, x2, a3, a4, a5, a6, a7, a8] t (0, 0)) := by
    have q := blk_set h1 2 x2
    simp only [List.setIfInBounds_toArray, List.set_cons_zero, List.set_cons_succ] at q
    exact q
  have h3 : ((((W.setCell ⟨g, 0, none⟩ x0).setCell ⟨g, 1, none⟩ x1).setCell ⟨g, 2, none⟩ x2).setCell ⟨g, 3, none⟩ x3).heap[g]? = some (.cells #[x0, x1, x2, x3, a4, a5, a6, a7, a8] t (0, 0)) := by
    have q := blk_set h2 3 x3
    simp only [List.setIfInBounds_toArray, List.set_cons_zero, List.set_cons_succ] at q
    exact q
  have h4 : (((((W.setCell ⟨g, 0, none⟩ x0).setCell ⟨g, 1, none⟩ x1).setCell ⟨g, 2, none⟩ x2).setCell ⟨g, 3, none⟩ x3).setCell ⟨g, 4, none⟩ x4).heap[g]? = some (.cells #[x0, x1, x2, x3, x4, a5, a6, a7, a8] t (0, 0)) := by
    have q := blk_set h3 4 x4
    simp only [List.setIfInBounds_toArray, List.set_cons_zero, List.set_cons_succ] at q
    exact q
  have h5 : ((((((W.setCell ⟨g, 0, none⟩ x0).setCell ⟨g, 1, none⟩ x1).setCell ⟨g, 2, none⟩ x2).setCell ⟨g, 3, none⟩ x3).setCell ⟨g, 4, none⟩ x4).setCell ⟨g, 5, none⟩ x5).heap[g]? = some (.cells #[x0, x1, x2, x3, x4, x5, a6, a7, a8] t (0, 0)) := by
    have q := blk_set h4 5 x5
    simp only [List.setIfInBounds_toArray, List.set_cons_zero, List.set_cons_succ] at q
    exact q
  have h6 : (((((((W.setCell ⟨g, 0, none⟩ x0).setCell ⟨g, 1, none⟩ x1).setCell ⟨g, 2, none⟩ x2).setCell ⟨g, 3, none⟩ x3).setCell ⟨g, 4, none⟩ x4).setCell ⟨g, 5, none⟩ x5).setCell ⟨g, 6, none⟩ x6).heap[g]? = some (.cells #[x0, x1, x2, x3, x4, x5, x6, a7, a8] t (0, 0)) := by
    have q := blk_set h5 6 x6
    simp only [List.setIfInBounds_toArray, List.set_cons_zero, List.set_cons_succ] at q
    exact q
  have h7 : ((((((((W.setCell ⟨g, 0, none⟩ x0).setCell ⟨g, 1, none⟩ x1).setCell ⟨g, 2, none⟩ x2).setCell ⟨g, 3, none⟩ x3).setCell ⟨g, 4, none⟩ x4).setCell ⟨g, 5, none⟩ x5).setCell ⟨g, 6, none⟩ x6).setCell ⟨g, 7, none⟩ x7).heap[g]? = some (.cells #[x0, x1, x2, x3, x4, x5, x6, x7, a8] t (0, 0)) := by
    have q := blk_set h6 7 x7
    simp only [List.setIfInBounds_toArray, List.set_cons_zero, List.set_cons_succ] at q
    exact q
  have h8 : (((((((((W.setCell ⟨g, 0, none⟩ x0).setCell ⟨g, 1, none⟩ x1).setCell ⟨g, 2, none⟩ x2).setCell ⟨g, 3, none⟩ x3).setCell ⟨g, 4, none⟩ x4).setCell ⟨g, 5, none⟩ x5).setCell ⟨g, 6, none⟩ x6).setCell ⟨g, 7, none⟩ x7).setCell ⟨g, 8, none⟩ x8).heap[g]? = some (.cells #[x0, x1, x2, x3, x4, x5, x6, x7, x8] t (0, 0)) := by
    have q := blk_set h7 8 x8
    simp only [List.setIfInBounds_toArray, List.set_cons_zero, List.set_cons_succ] at q
    exact q
  exact h8
theorem Loc.boxed {o o' : Obj} (_ : Loc b (b + 1) (fun W => W.heap[b]? = some o) W) (h : W'.heap[b]? = some o') : Loc b (b + 1) (fun W => W.heap[b]? = some o') W' := Loc.box h
theorem below_only (hB : Below w.heap.size w W) (hw : w.heap.size ≤ b) (ho : Only W W' b) : Below w.heap.size w W' :=
  hB.trans ⟨ho.1, ho.2.1, ho.2.2.1, Nat.le_of_eq ho.2.2.2.1.symm, fun k hk => ho.2.2.2.2 k (by omega)⟩
theorem below_drawn (h : Drawn0 W W') : Below W.heap.size W W' := by
  obtain ⟨n, rfl⟩ := h
  exact pw_below_drewN (Below.refl _ _) n
theorem below_after {W : World} (hB : Below w.heap.size w W) (hb : Below W.heap.size W W') : Below w.heap.size w W' := hB.trans ⟨hb.os, hb.tape, hb.output, hb.size, fun k hk => hb.block k (Nat.lt_of_lt_of_le hk hB.size)⟩
end
end Go.Proofs.YtkgmoajdcibafaaDoor.P

section
/- More on what lies in one stretch of memory: two rows in one, and structs of eleven cells. No conditions. -/
set_option linter.unusedVariables false
set_option linter.unusedSimpArgs false
namespace Go.Proofs.YtkgmoajdcibafaaDoor.P
open Go.RowKit Go.Proofs.YtkgmoajdcibafaaDoorW.PrintWords Go.Proofs.YtkgmoajdcibafaaDoorW.PrintLast Go.Proofs.YtkgmoajdcibafaaDoorW.PrintMore
section
variable {α β : Type} {d : Kd α} {d2 : Kd β} {e e2 lo hi lo' hi' b : Nat} {w W W' : World} {S : Nat → Prop} {F G : World → Prop} {v v2 : Value} {l l' : List α} {l2 : List β}
theorem Loc.ofRR (hh : hi ≤ W.heap.size) (h : Kd.R d e W w.heap.size (fun k => lo ≤ k ∧ k < hi) v l) (h2 : Kd.R d2 e2 W w.heap.size (fun k => lo ≤ k ∧ k < hi) v2 l2) : Loc lo hi (fun W => Kd.R d e W w.heap.size (fun k => lo ≤ k ∧ k < hi) v l ∧ Kd.R d2 e2 W w.heap.size (fun k => lo ≤ k ∧ k < hi) v2 l2) W :=
  ⟨hh, fun _ hs hk => ⟨(Loc.ofR hh h).2 _ hs hk, (Loc.ofR hh h2).2 _ hs hk⟩⟩
theorem Loc.newRR (hs : Kd.R d e W' W.heap.size (fun _ => True) v l) (hs2 : Kd.R d2 e2 W' W.heap.size (fun _ => True) v2 l2) (hB : Below w.heap.size w W) : ∃ lo hi, lo = W.heap.size ∧ Loc lo hi (fun W => Kd.R d e W w.heap.size (fun k => lo ≤ k ∧ k < hi) v l ∧ Kd.R d2 e2 W w.heap.size (fun k => lo ≤ k ∧ k < hi) v2 l2) W' ∧ hi = W'.heap.size :=
  ⟨_, _, rfl, Loc.ofRR (Nat.le_refl _) (Kd.R_mono (Kd.R_lower (Kd.R_bound hs) hB.size) (fun _ hk => ⟨hk.2.1, hk.2.2.1⟩)) (Kd.R_mono (Kd.R_lower (Kd.R_bound hs2) hB.size) (fun _ hk => ⟨hk.2.1, hk.2.2.1⟩)), rfl⟩
theorem Loc.readsRR1 {A : Option Addr} {n c : Nat} (h : Loc lo hi (fun W => Kd.R d e W w.heap.size (fun k => lo ≤ k ∧ k < hi) (.slice A n c) l ∧ Kd.R d2 e2 W w.heap.size (fun k => lo ≤ k ∧ k < hi) v2 l2) W) : n = l.length ∧ l.length ≤ c ∧ d.C W A l.length l := by
  obtain ⟨h1, h2, h3⟩ := Kd.R_reads' h.now.1
  exact ⟨h1, by omega, h3⟩
theorem Loc.readsRR2 {A : Option Addr} {n c : Nat} (h : Loc lo hi (fun W => Kd.R d e W w.heap.size (fun k => lo ≤ k ∧ k < hi) v l ∧ Kd.R d2 e2 W w.heap.size (fun k => lo ≤ k ∧ k < hi) (.slice A n c) l2) W) : n = l2.length ∧ l2.length ≤ c ∧ d2.C W A l2.length l2 := by
  obtain ⟨h1, h2, h3⟩ := Kd.R_reads' h.now.2
  exact ⟨h1, by omega, h3⟩
theorem Kept.dup (h : Kept W W' (fun k => S k ∨ S k)) : Kept W W' S := ⟨h.1, fun i hi hn => h.2 i hi (fun hk => hn (hk.elim id id))⟩
theorem blk_put11 {g : Nat} {t : TypeId} {a0 a1 a2 a3 a4 a5 a6 a7 a8 a9 a10 x0 x1 x2 x3 x4 x5 x6 x7 x8 x9 x10 : Value} (h : W.heap[g]? = some (.cells #[a0, a1, a2, a3, a4, a5, a6, a7, a8, a9, a10] t (0, 0))) :
    (((((((((((W.setCell ⟨g, 0, none⟩ x0).setCell ⟨g, 1, none⟩ x1).setCell ⟨g, 2, none⟩ x2).setCell ⟨g, 3, none⟩ x3).setCell ⟨g, 4, none⟩ x4).setCell ⟨g, 5, none⟩ x5).setCell ⟨g, 6, none⟩ x6).setCell ⟨g, 7, none⟩ x7).setCell ⟨g, 8, none⟩ x8).setCell ⟨g, 9, none⟩ x9).setCell ⟨g, 10, none⟩ x10).heap[g]? = some (.cells #[x0, x1, x2, x3, x4, x5, x6, x7, x8, x9, x10] t (0, 0)) := by
  have hq0 := blk_set h 0 x0
  simp only [List.setIfInBounds_toArray, List.set_cons_zero, List.set_cons_succ] at hq0
  have hq1 := blk_set hq0 1 x1
  simp only [List.setIfInBounds_toArray, List.set_cons_zero, List.set_cons_succ] at hq1
  have hq2 := blk_set hq1 2 x2
  simp only [List.setIfInBounds_toArray, List.set_cons_zero, List.set_cons_succ] at hq2
  have hq3 := blk_set hq2 3 x3
  simp only [List.setIfInBounds_toArray, List.set_cons_zero, List.set_cons_succ] at hq3
  have hq4 := blk_set hq3 4 x4
  simp only [List.setIfInBounds_toArray, List.set_cons_zero, List.set_cons_succ] at hq4
  have hq5 := blk_set hq4 5 x5
  simp only [List.setIfInBounds_toArray, List.set_cons_zero, List.set_cons_succ] at hq5
  have hq6 := blk_set hq5 6 x6
  simp only [List.setIfInBounds_toArray, List.set_cons_zero, List.set_cons_succ] at hq6
  have hq7 := blk_set hq6 7 x7
  simp only [List.setIfInBounds_toArray, List.set_cons_zero, List.set_cons_succ] at hq7
  have hq8 := blk_set hq7 8 x8
  simp only [List.setIfInBounds_toArray, List.set_cons_zero, List.set_cons_succ] at hq8
  have hq9 := blk_set hq8 9 x9
  simp only [List.setIfInBounds_toArray, List.set_cons_zero, List.set_cons_succ] at hq9
  have hq10 := blk_set hq9 10 x10
  simp only [List.setIfInBounds_toArray, List.set_cons_zero, List.set_cons_succ] at hq10
  exact hq10
/-- A variable is made, at a step of a region that draws its order. -/
theorem alloc_st {P : Program} {ops : Array Oper} {oi : Oper} {N : Option Tmp} {a : Act} {K : Act → World → Prop} {Q : Exit → Act → World → Prop} {cs : Array Value} {t : TypeId} (hw : Region.wanted oi (yielded ops a.tmps) = true) (hN : oi.dst = N)
    (hrun : (execOp a.eval oi).run P W = .ok (.value (.pointer (some ⟨W.heap.size, 0, none⟩))) (W.alloc (.cells cs t (0, 0))))
    (h : ∀ g, g = W.heap.size → ∀ w1, w1.heap[g]? = some (.cells cs t (0, 0)) → Below W.heap.size W w1 → K (a.put N (.pointer (some ⟨g, 0, none⟩))) w1) : if Region.wanted oi (yielded ops a.tmps) = true then Oper.wp P oi a W K Q else K (a.put N undef) W :=
  value_ hw hN hrun (h _ rfl _ (blk_new W _) (below_alloc (Below.refl _ _) _))
/-- A call has made two rows, and a variable that holds them has been made: told of the stretch since. -/
theorem Loc.newBRR {wq wc : World} {o : Obj} (hb : wc.heap[b]? = some o) (hb0 : wq.heap.size ≤ b) (hT : Below wq.heap.size wq wc) (hs : Kd.R d e wc wq.heap.size (fun _ => True) v l) (hs2 : Kd.R d2 e2 wc wq.heap.size (fun _ => True) v2 l2) (hB : Below w.heap.size w wq) :
    ∃ lo hi, lo = wq.heap.size ∧ Loc lo hi (fun W => W.heap[b]? = some o ∧ Kd.R d e W w.heap.size (fun k => lo ≤ k ∧ k < hi) v l ∧ Kd.R d2 e2 W w.heap.size (fun k => lo ≤ k ∧ k < hi) v2 l2) wc ∧ hi = wc.heap.size := by
  obtain ⟨lo, hi, rfl, hL, rfl⟩ := Loc.newRR hs hs2 hB
  refine ⟨_, _, rfl, ⟨Nat.le_refl _, fun W hs hk => ⟨(hk b hb0 (Array.getElem?_eq_some_iff.1 hb).1).trans hb, hL.2 W hs hk⟩⟩, rfl⟩
theorem Loc.readsBRR1 {o : Obj} {A : Option Addr} {n c : Nat} (h : Loc lo hi (fun W => W.heap[b]? = some o ∧ Kd.R d e W w.heap.size (fun k => lo ≤ k ∧ k < hi) (.slice A n c) l ∧ Kd.R d2 e2 W w.heap.size (fun k => lo ≤ k ∧ k < hi) v2 l2) W) : n = l.length ∧ l.length ≤ c ∧ d.C W A l.length l := by
  obtain ⟨h1, h2, h3⟩ := Kd.R_reads' h.now.2.1
  exact ⟨h1, by omega, h3⟩
theorem Loc.readsBRR2 {o : Obj} {A : Option Addr} {n c : Nat} (h : Loc lo hi (fun W => W.heap[b]? = some o ∧ Kd.R d e W w.heap.size (fun k => lo ≤ k ∧ k < hi) v l ∧ Kd.R d2 e2 W w.heap.size (fun k => lo ≤ k ∧ k < hi) (.slice A n c) l2) W) : n = l2.length ∧ l2.length ≤ c ∧ d2.C W A l2.length l2 := by
  obtain ⟨h1, h2, h3⟩ := Kd.R_reads' h.now.2.2
  exact ⟨h1, by omega, h3⟩
/-- What was made at block b and the rows: behind the store into b. -/
theorem R_only {wq : World} (h : Kd.R d e W wq.heap.size (fun _ => True) v l) {cells : Array Value} {t : TypeId} (hb : W.heap[b]? = some (.cells cells t (0, 0))) (ht : ∀ q, q ∈ e :: d.E → q ≠ t) (ho : Only W W' b) : Kd.R d e W' wq.heap.size (fun _ => True) v l :=
  Kd.R_mono (Kd.R_step (Kd.R_types h hb ht) (fun k hk _ => ho.2.2.2.2 k hk.2)) (fun _ _ => trivial)
end
end Go.Proofs.YtkgmoajdcibafaaDoor.P
end

section
/- Two rows of structs that lie apart. No conditions. -/
set_option linter.unusedVariables false
namespace Go.Proofs.YtkgmoajdcibafaaDoor.P
open Go.RowKit Go.Proofs.YtkgmoajdcibafaaDoorW.PrintWords Go.Proofs.YtkgmoajdcibafaaDoorW.PrintLast Go.Proofs.YtkgmoajdcibafaaDoorW.PrintMore
theorem blk_lt {W : World} {b : Nat} {o : Obj} (h : W.heap[b]? = some o) : b < W.heap.size := (Array.getElem?_eq_some_iff.1 h).1
theorem S_slice3 {α : Type} {d : Kd α} {e base : Nat} {ok : Nat → Prop} {w : World} {v : Value} {xs : List α} (h : Kd.S d e w base ok v xs) : ∃ A n c, v = .slice A n c := by
  obtain ⟨A, c, h⟩ := Kd.S_slice h
  exact ⟨A, _, c, h⟩
section
variable {α β : Type} {d : Kd α} {d2 : Kd β} {e e2 lo hi : Nat} {w W W' : World} {v v2 : Value} {l l' : List α} {l2 l2' : List β}
def TwoS (d : Kd α) (e : Nat) (d2 : Kd β) (e2 : Nat) (W : World) (base : Nat) (v : Value) (l : List α) (v2 : Value) (l2 : List β) : Prop :=
  ∃ P Q : Nat → Prop, (∀ k, P k → ¬ Q k) ∧ Kd.S d e W base P v l ∧ Kd.S d2 e2 W base Q v2 l2
/-- .. in one stretch of memory. -/
def TwoIn (d : Kd α) (e : Nat) (d2 : Kd β) (e2 lo hi : Nat) (W : World) (base : Nat) (v : Value) (l : List α) (v2 : Value) (l2 : List β) : Prop :=
  ∃ P Q : Nat → Prop, (∀ k, P k → ¬ Q k) ∧ (∀ k, P k ∨ Q k → lo ≤ k ∧ k < hi) ∧ Kd.S d e W base P v l ∧ Kd.S d2 e2 W base Q v2 l2
theorem Loc.ofTwo (hh : hi ≤ W.heap.size) (h : TwoIn d e d2 e2 lo hi W w.heap.size v l v2 l2) : Loc lo hi (fun W => TwoIn d e d2 e2 lo hi W w.heap.size v l v2 l2) W := by
  obtain ⟨P, Q, h1, h2, h3, h4⟩ := h
  exact ⟨hh, fun W' _ hk => ⟨P, Q, h1, h2, Kd.S_move h3 (fun k hp => hk k (h2 k (.inl hp)).1 (h2 k (.inl hp)).2), Kd.S_move h4 (fun k hp => hk k (h2 k (.inr hp)).1 (h2 k (.inr hp)).2)⟩⟩
theorem Loc.newTwo (h : TwoS d e d2 e2 W' W.heap.size v l v2 l2) (hB : Below w.heap.size w W) : ∃ lo hi, lo = W.heap.size ∧ Loc lo hi (fun W => TwoIn d e d2 e2 lo hi W w.heap.size v l v2 l2) W' ∧ hi = W'.heap.size := by
  obtain ⟨P, Q, h1, h3, h4⟩ := h
  refine ⟨_, _, rfl, Loc.ofTwo (Nat.le_refl _) ⟨fun k => P k ∧ W.heap.size ≤ k ∧ k < W'.heap.size, fun k => Q k ∧ W.heap.size ≤ k ∧ k < W'.heap.size, fun k hp hq => h1 k hp.1 hq.1, fun k hk => by rcases hk with hk | hk <;> exact hk.2,
    Kd.S_mono (Kd.S_lower (Kd.S_bound h3) hB.size) (fun k hk => ⟨hk.1, hk.2.1, hk.2.2.1⟩), Kd.S_mono (Kd.S_lower (Kd.S_bound h4) hB.size) (fun k hk => ⟨hk.1, hk.2.1, hk.2.2.1⟩)⟩, rfl⟩
theorem Loc.readsTwo1 {A : Option Addr} {n c : Nat} (h : Loc lo hi (fun W => TwoIn d e d2 e2 lo hi W w.heap.size (.slice A n c) l v2 l2) W) : n = l.length ∧ l.length ≤ c ∧ d.C W A l.length l := by
  obtain ⟨P, Q, _, _, h3, _⟩ := h.now
  obtain ⟨h1, h2, h3⟩ := Kd.S_reads' h3
  exact ⟨h1, by omega, h3⟩
theorem Loc.readsTwo2 {A : Option Addr} {n c : Nat} (h : Loc lo hi (fun W => TwoIn d e d2 e2 lo hi W w.heap.size v l (.slice A n c) l2) W) : n = l2.length ∧ l2.length ≤ c ∧ d2.C W A l2.length l2 := by
  obtain ⟨P, Q, _, _, _, h4⟩ := h.now
  obtain ⟨h1, h2, h3⟩ := Kd.S_reads' h4
  exact ⟨h1, by omega, h3⟩
/-- Two rows that are only read: in one stretch. -/
theorem Loc.ofVV (hh : hi ≤ W.heap.size) (h : Kd.V d e W w.heap.size (fun k => lo ≤ k ∧ k < hi) v l ∧ Kd.V d2 e2 W w.heap.size (fun k => lo ≤ k ∧ k < hi) v2 l2) : Loc lo hi (fun W => Kd.V d e W w.heap.size (fun k => lo ≤ k ∧ k < hi) v l ∧ Kd.V d2 e2 W w.heap.size (fun k => lo ≤ k ∧ k < hi) v2 l2) W :=
  ⟨hh, fun _ hs hk => ⟨(Loc.ofV hh h.1).2 _ hs hk, (Loc.ofV hh h.2).2 _ hs hk⟩⟩
theorem Loc.newVV {b1 b2 : Nat} {ok1 ok2 : Nat → Prop} (hs : Kd.N d e W' b1 ok1 v l) (hs2 : Kd.N d2 e2 W' b2 ok2 v2 l2) (h1 : ∀ k, ok1 k → W.heap.size ≤ k) (h2 : ∀ k, ok2 k → W.heap.size ≤ k) :
    ∃ lo hi, lo = W.heap.size ∧ Loc lo hi (fun W => Kd.V d e W w.heap.size (fun k => lo ≤ k ∧ k < hi) v l ∧ Kd.V d2 e2 W w.heap.size (fun k => lo ≤ k ∧ k < hi) v2 l2) W' ∧ hi = W'.heap.size :=
  ⟨_, _, rfl, Loc.ofVV (Nat.le_refl _) ⟨Kd.V_mono (Kd.V_bound (Kd.N_V hs)) (fun k hk => ⟨h1 k hk.1, hk.2⟩), Kd.V_mono (Kd.V_bound (Kd.N_V hs2)) (fun k hk => ⟨h2 k hk.1, hk.2⟩)⟩, rfl⟩
theorem Kept.wide {S T : Nat → Prop} (h : Kept W W' S) (hs : ∀ k, S k → T k) : Kept W W' T := ⟨h.1, fun i hi hn => h.2 i hi (fun hk => hn (hs i hk))⟩
theorem Loc.readsVV1 {A : Option Addr} {n c : Nat} (h : Loc lo hi (fun W => Kd.V d e W w.heap.size (fun k => lo ≤ k ∧ k < hi) (.slice A n c) l ∧ Kd.V d2 e2 W w.heap.size (fun k => lo ≤ k ∧ k < hi) v2 l2) W) : n = l.length ∧ l.length ≤ c ∧ d.C W A l.length l := by
  obtain ⟨h1, h2, h3⟩ := Kd.V_reads' h.now.1
  exact ⟨h1, by omega, h3⟩
theorem Loc.readsVV2 {A : Option Addr} {n c : Nat} (h : Loc lo hi (fun W => Kd.V d e W w.heap.size (fun k => lo ≤ k ∧ k < hi) v l ∧ Kd.V d2 e2 W w.heap.size (fun k => lo ≤ k ∧ k < hi) (.slice A n c) l2) W) : n = l2.length ∧ l2.length ≤ c ∧ d2.C W A l2.length l2 := by
  obtain ⟨h1, h2, h3⟩ := Kd.V_reads' h.now.2
  exact ⟨h1, by omega, h3⟩
end
end Go.Proofs.YtkgmoajdcibafaaDoor.P
end

section
/- A row's elements by their cells alone, and put together again. No conditions. -/
set_option linter.unusedVariables false
namespace Go.Proofs.YtkgmoajdcibafaaDoor.P
open Go Go.RowKit Go.Proofs.YtkgmoajdcibafaaDoorW.PrintWords Go.Proofs.YtkgmoajdcibafaaDoorW.PrintLast Go.Proofs.YtkgmoajdcibafaaDoorW.PrintMore
section
variable {α : Type} {d : Kd α} {e base : Nat} {ok okr : Nat → Prop} {w W : World} {v : Value} {xs : List α} {rows : List (List Value)}
theorem S_rows (h : Kd.S d e w base ok v xs) : ∃ (f : Nat → Nat) (rows : List (List Value)), rows.length = xs.length ∧ (Kd.raw d.sz).R e w base (fun k => some k = v.ownBlock) v rows ∧ (∀ k, v.ownBlock = some k → ok k) ∧
    ∀ (j : Nat) (x : α) (c : List Value), xs[j]? = some x → rows[j]? = some c → d.M w base (fun k => (ok k ∧ some k ≠ v.ownBlock) ∧ f k = j) x c := by
  obtain ⟨f, h0, inner, ho, hr⟩ := h
  rw [List.length_zipIdx] at ho
  obtain ⟨rs, hrs⟩ : ∃ rs, rs = (List.range xs.length).map fun j => (inner.drop (j * d.sz)).take d.sz := ⟨_, rfl⟩
  have hl : rs.length = xs.length := by rw [hrs]; simp
  have hget : ∀ j c, rs[j]? = some c → j < xs.length ∧ c = (inner.drop (j * d.sz)).take d.sz := by
    intro j c hj
    have hlt : j < xs.length := by have := (List.getElem?_eq_some_iff.1 hj).1; omega
    refine ⟨hlt, ?_⟩
    rw [hrs, List.getElem?_map, List.getElem?_range hlt] at hj
    simpa using hj.symm
  have hM : ∀ (j : Nat) (x : α), xs[j]? = some x → (Kd.tag f d).M w base (fun k => ok k ∧ some k ≠ v.ownBlock) (x, j) ((inner.drop (j * d.sz)).take d.sz) := fun j x hx => hr.2 j (x, j) (Kd.zip_at hx)
  refine ⟨f, rs, hl, ⟨fun k hk => hk.symm, inner, by rw [hl]; exact ho, by rw [hl]; exact ho.1, fun j c hj => ?_⟩, h0, fun j x c hx hc => ?_⟩
  · obtain ⟨hlt, rfl⟩ := hget j c hj
    have h1 := (Kd.tag f d).K_of_M (hM j _ (List.getElem?_eq_getElem hlt))
    exact ⟨rfl, (Kd.tag f d).K_len h1, (Kd.tag f d).K_one h1⟩
  · obtain ⟨_, rfl⟩ := hget j c hc
    exact hM j x hx
open Classical in
theorem S_of_rows (h0 : ∀ k, v.ownBlock = some k → ok k) (hl : rows.length = xs.length) (hR : (Kd.raw d.sz).R e w base okr v rows) (Pj : Nat → Nat → Prop)
    (hM : ∀ (j : Nat) (x : α) (c : List Value), xs[j]? = some x → rows[j]? = some c → d.M w base (Pj j) x c) (hd : ∀ i j k, Pj i k → Pj j k → i = j) (hok : ∀ j k, Pj j k → ok k ∧ some k ≠ v.ownBlock) : Kd.S d e w base ok v xs := by
  obtain ⟨_, inner, ho, hr⟩ := hR
  refine ⟨fun k => if h : ∃ j, Pj j k then h.choose else 0, h0, inner, by rw [List.length_zipIdx, ← hl]; exact ho, by rw [List.length_zipIdx, ← hl]; exact ho.1, fun j p hj => ?_⟩
  rw [List.getElem?_zipIdx, Nat.zero_add] at hj
  obtain ⟨x, hx, rfl⟩ := Option.map_eq_some_iff.1 hj
  have hlt : j < rows.length := by have := (List.getElem?_eq_some_iff.1 hx).1; omega
  have h1 := hr.2 j _ (List.getElem?_eq_getElem hlt)
  have h2 : (inner.drop (j * d.sz)).take d.sz = rows[j] := h1.1
  show d.M w base (fun k => (ok k ∧ some k ≠ v.ownBlock) ∧ (if h : ∃ j, Pj j k then h.choose else 0) = j) x ((inner.drop (j * d.sz)).take d.sz)
  rw [h2]
  refine d.M_mono (fun k hk => ⟨hok j k hk, ?_⟩) (hM j x _ hx (List.getElem?_eq_getElem hlt))
  have he : ∃ j, Pj j k := ⟨j, hk⟩
  rw [dif_pos he]
  exact hd _ _ k he.choose_spec hk
/-- A new row that holds some of another row's elements, in any order, each once. -/
theorem S_moved {f : Nat → Nat} {w1 w3 : World} {v3 : Value} {xs' : List α} {rows' : List (List Value)} (hb : Below w1.heap.size w1 w3) (hM : ∀ (j : Nat) (x : α) (c : List Value), xs[j]? = some x → rows[j]? = some c → d.M w1 base (fun k => (ok k ∧ some k ≠ v.ownBlock) ∧ f k = j) x c)
    (σ : Nat → Nat) (hσ : ∀ i j, σ i = σ j → i = j) (hx : ∀ (j : Nat) (x : α), xs'[j]? = some x → xs[σ j]? = some x) (hr : ∀ (j : Nat) (c : List Value), rows'[j]? = some c → rows[σ j]? = some c) (hl : rows'.length = xs'.length)
    (hR : (Kd.raw d.sz).R e w3 w1.heap.size okr v3 rows') (hb0 : base ≤ w1.heap.size) : Kd.S d e w3 base (fun k => ok k ∨ w1.heap.size ≤ k) v3 xs' := by
  have hnew : ∀ k, v3.ownBlock = some k → w1.heap.size ≤ k := Kd.R_base hR
  refine S_of_rows (fun k hk => .inr (hnew k hk)) hl (Kd.R_lower hR hb0) (fun j k => ((ok k ∧ some k ≠ v.ownBlock) ∧ f k = σ j) ∧ k < w1.heap.size) ?_ (fun i j k h1 h2 => hσ i j (h1.1.2.symm.trans h2.1.2)) (fun j k hk => ⟨.inl hk.1.1.1, fun he => by have := hnew k he.symm; omega⟩)
  intro j x c h1 h2
  have h3 := d.M_bound (hM (σ j) x c (hx j x h1) (hr j c h2))
  exact d.M_mono (fun k hk => ⟨hk.1, hk.2.2.1⟩) (d.M_move (fun k hk => hb.block k hk.2.2.1) h3)
/-- A new row that holds another row's elements and one more. -/
theorem S_inserted {f : Nat → Nat} {w1 w3 : World} {v3 : Value} {x : α} {cx : List Value} {Px : Nat → Prop} {n : Nat} (hb : Below w1.heap.size w1 w3) (hM : ∀ (j : Nat) (x : α) (c : List Value), xs[j]? = some x → rows[j]? = some c → d.M w1 base (fun k => (ok k ∧ some k ≠ v.ownBlock) ∧ f k = j) x c)
    (hx : d.M w1 base Px x cx) (hxP : ∀ k, Px k → ¬ ok k) (hn : n ≤ xs.length) (hl : rows.length = xs.length)
    (hR : (Kd.raw d.sz).R e w3 w1.heap.size okr v3 (rows.take n ++ [cx] ++ rows.drop n)) (hb0 : base ≤ w1.heap.size) : Kd.S d e w3 base (fun k => ok k ∨ Px k ∨ w1.heap.size ≤ k) v3 (xs.take n ++ [x] ++ xs.drop n) := by
  have hnew : ∀ k, v3.ownBlock = some k → w1.heap.size ≤ k := Kd.R_base hR
  have hlen : (xs.take n ++ [x] ++ xs.drop n).length = xs.length + 1 := by simp only [List.length_append, List.length_take, List.length_drop, List.length_singleton]; omega
  refine S_of_rows (fun k hk => .inr (.inr (hnew k hk))) (by simp only [List.length_append, List.length_take, List.length_drop, List.length_singleton]; omega) (Kd.R_lower hR hb0)
    (fun j k => (if j = n then Px k else (ok k ∧ some k ≠ v.ownBlock) ∧ f k = (if j < n then j else j - 1)) ∧ k < w1.heap.size) ?_ ?_ ?_
  · intro j y c h1 h2
    have old : ∀ i, xs[i]? = some y → rows[i]? = some c → d.M w3 base (fun k => ((ok k ∧ some k ≠ v.ownBlock) ∧ f k = i) ∧ k < w1.heap.size) y c := fun i q1 q2 => by
      have h3 := d.M_bound (hM i y c q1 q2)
      exact d.M_mono (fun k hk => ⟨hk.1, hk.2.2.1⟩) (d.M_move (fun k hk => hb.block k hk.2.2.1) h3)
    by_cases e1 : j = n
    · subst e1
      have h3 : y = x := by
        rw [List.append_assoc, List.getElem?_append_right (by rw [List.length_take]; omega), List.length_take, Nat.min_eq_left hn, Nat.sub_self] at h1
        simpa using h1.symm
      have h4 : c = cx := by
        rw [List.append_assoc, List.getElem?_append_right (by rw [List.length_take]; omega), List.length_take, Nat.min_eq_left (by omega), Nat.sub_self] at h2
        simpa using h2.symm
      subst h3; subst h4
      have h5 := d.M_bound hx
      exact d.M_mono (fun k hk => ⟨by rw [if_pos rfl]; exact hk.1, hk.2.2.1⟩) (d.M_move (fun k hk => hb.block k hk.2.2.1) h5)
    · by_cases e2 : j < n
      · rw [List.append_assoc, List.getElem?_append_left (by rw [List.length_take]; omega), List.getElem?_take, if_pos e2] at h1 h2
        exact d.M_mono (fun k hk => ⟨by rw [if_neg e1, if_pos e2]; exact hk.1, hk.2⟩) (old j h1 h2)
      · have q1 : xs[j - 1]? = some y := by
          rw [List.getElem?_append_right (by simp only [List.length_append, List.length_take, List.length_singleton]; omega), List.getElem?_drop] at h1
          rw [← h1]; congr 1; simp only [List.length_append, List.length_take, List.length_singleton]; omega
        have q2 : rows[j - 1]? = some c := by
          rw [List.getElem?_append_right (by simp only [List.length_append, List.length_take, List.length_singleton]; omega), List.getElem?_drop] at h2
          rw [← h2]; congr 1; simp only [List.length_append, List.length_take, List.length_singleton]; omega
        exact d.M_mono (fun k hk => ⟨by rw [if_neg e1, if_neg e2]; exact hk.1, hk.2⟩) (old (j - 1) q1 q2)
  · intro i j k h1 h2
    have a1 := h1.1
    have a2 := h2.1
    by_cases e1 : i = n
    · rw [if_pos e1] at a1
      by_cases e2 : j = n
      · omega
      · rw [if_neg e2] at a2; exact absurd a2.1.1 (hxP k a1)
    · rw [if_neg e1] at a1
      by_cases e2 : j = n
      · rw [if_pos e2] at a2; exact absurd a1.1.1 (hxP k a2)
      · rw [if_neg e2] at a2
        have h3 := a1.2.symm.trans a2.2
        split at h3 <;> split at h3 <;> omega
  · intro j k hk
    refine ⟨?_, fun he => by have := hnew k he.symm; have := hk.2; omega⟩
    have a := hk.1
    by_cases e1 : j = n
    · rw [if_pos e1] at a; exact .inr (.inl a)
    · rw [if_neg e1] at a; exact .inl a.1.1
theorem erase_ix {β : Type} (l : List β) (n j : Nat) (x : β) (h : (l.eraseIdx n)[j]? = some x) : l[if j < n then j else j + 1]? = some x := by
  rw [List.getElem?_eraseIdx] at h
  split <;> simp_all
theorem erase_rows {β : Type} (l : List β) (n : Nat) : l.take n ++ l.drop (n + 1) = l.eraseIdx n := (List.eraseIdx_eq_take_drop_succ l n).symm
theorem skip_inj (n : Nat) : ∀ i j : Nat, (if i < n then i else i + 1) = (if j < n then j else j + 1) → i = j := by
  intro i j h
  split at h <;> split at h <;> omega
theorem M_after {x : α} {c : List Value} (h : d.M w base ok x c) (hb : Below w.heap.size w W) : d.M W base ok x c := d.M_mono (fun k hk => hk.1) (d.M_move (fun k hk => hb.block k hk.2.2.1) (d.M_bound h))
theorem S_shape {A : Option Addr} {n c : Nat} (h : Kd.S d e w base ok (.slice A n c) xs) : (A = none ∧ n = 0 ∧ c = 0 ∧ xs = []) ∨ ∃ g, A = some ⟨g, 0, none⟩ := by
  have hn := (Kd.S_reads' h).1
  obtain ⟨inner, ho⟩ := Kd.S_own h
  rcases ho.2 with ⟨h2, h3⟩ | ⟨g', c', cur, hv', _⟩
  · injection h2 with ha hb hc
    subst ha; subst hb; subst hc
    exact .inl ⟨rfl, rfl, rfl, List.eq_nil_of_length_eq_zero hn.symm⟩
  · injection hv' with ha _ _
    exact .inr ⟨g', ha⟩
theorem R_form3 {α : Type} {d : Kd α} {e base : Nat} {ok : Nat → Prop} {w : World} {v : Value} {xs : List α} (h : d.R e w base ok v xs) : ∃ A n c, v = .slice A n c := by
  obtain ⟨A, c, h⟩ := Kd.R_slice h
  exact ⟨A, _, c, h⟩
theorem raw_take {A : Option Addr} {m n c : Nat} (hR : (Kd.raw d.sz).R e w base okr (.slice A m c) rows) (hn : n ≤ rows.length) : ReadsRow ((Kd.raw d.sz).K w) (Kd.raw d.sz).sz w A n (rows.take n) := by
  have h := Kd.C_take (Kd.R_reads' hR).2.2 hn
  rw [List.length_take, Nat.min_eq_left hn] at h
  exact h
theorem raw_drop {A A' : Option Addr} {m n c : Nat} (hR : (Kd.raw d.sz).R e w base okr (.slice A m c) rows) (hn : n ≤ rows.length) (hA : A' = if c = n then A else A.map (·.add (n * d.sz))) : ReadsRow ((Kd.raw d.sz).K w) (Kd.raw d.sz).sz w A' (m - n) (rows.drop n) := by
  have h0 := Kd.R_reads' hR
  have h := Kd.C_drop (c := c) h0.2.2 hn (by have := h0.1; have := h0.2.1; omega)
  rw [List.length_drop, ← h0.1] at h
  rw [hA]
  exact h
theorem raw_all {A : Option Addr} {m c : Nat} (hR : (Kd.raw d.sz).R e w base okr (.slice A m c) rows) : ReadsRow ((Kd.raw d.sz).K w) (Kd.raw d.sz).sz w A m rows := by
  have h := Kd.R_reads' hR
  rw [h.1]
  exact h.2.2
theorem raw_reads {A : Option Addr} {n c : Nat} (hR : (Kd.raw d.sz).R e w base okr (.slice A n c) rows) : n = rows.length ∧ n ≤ c ∧ (Kd.raw d.sz).C w A rows.length rows := Kd.R_reads' hR
end
end Go.Proofs.YtkgmoajdcibafaaDoor.P
end

section
/- What was told, in a row of such: out of it, and written anew as a whole. No conditions. -/
set_option linter.unusedVariables false
set_option linter.unusedSimpArgs false
namespace Go.Proofs.YtkgmoajdcibafaaDoor.P
open Go Go.RowKit Go.Proofs.YtkgmoajdcibafaaDoorW.PrintWords Go.Proofs.YtkgmoajdcibafaaDoorW.PrintLast Go.Proofs.YtkgmoajdcibafaaDoorW.PrintMore
theorem blk_put10 {W : World} {g : Nat} {t : TypeId} {a0 a1 a2 a3 a4 a5 a6 a7 a8 a9 x0 x1 x2 x3 x4 x5 x6 x7 x8 x9 : Value} (h : W.heap[g]? = some (.cells #[a0, a1, a2, a3, a4, a5, a6, a7, a8, a9] t (0, 0))) :
    ((((((((((W.setCell ⟨g, 0, none⟩ x0).setCell ⟨g, 1, none⟩ x1).setCell ⟨g, 2, none⟩ x2).setCell ⟨g, 3, none⟩ x3).setCell ⟨g, 4, none⟩ x4).setCell ⟨g, 5, none⟩ x5).setCell ⟨g, 6, none⟩ x6).setCell ⟨g, 7, none⟩ x7).setCell ⟨g, 8, none⟩ x8).setCell ⟨g, 9, none⟩ x9).heap[g]? = some (.cells #[x0, x1, x2, x3, x4, x5, x6, x7, x8, x9] t (0, 0)) := by
  have hq0 := blk_set h 0 x0
  simp only [List.setIfInBounds_toArray, List.set_cons_zero, List.set_cons_succ] at hq0
  have hq1 := blk_set hq0 1 x1
  simp only [List.setIfInBounds_toArray, List.set_cons_zero, List.set_cons_succ] at hq1
  have hq2 := blk_set hq1 2 x2
  simp only [List.setIfInBounds_toArray, List.set_cons_zero, List.set_cons_succ] at hq2
  have hq3 := blk_set hq2 3 x3
  simp only [List.setIfInBounds_toArray, List.set_cons_zero, List.set_cons_succ] at hq3
  have hq4 := blk_set hq3 4 x4
  simp only [List.setIfInBounds_toArray, List.set_cons_zero, List.set_cons_succ] at hq4
  have hq5 := blk_set hq4 5 x5
  simp only [List.setIfInBounds_toArray, List.set_cons_zero, List.set_cons_succ] at hq5
  have hq6 := blk_set hq5 6 x6
  simp only [List.setIfInBounds_toArray, List.set_cons_zero, List.set_cons_succ] at hq6
  have hq7 := blk_set hq6 7 x7
  simp only [List.setIfInBounds_toArray, List.set_cons_zero, List.set_cons_succ] at hq7
  have hq8 := blk_set hq7 8 x8
  simp only [List.setIfInBounds_toArray, List.set_cons_zero, List.set_cons_succ] at hq8
  have hq9 := blk_set hq8 9 x9
  simp only [List.setIfInBounds_toArray, List.set_cons_zero, List.set_cons_succ] at hq9
  exact hq9
theorem elemD_out {W : World} {base g m c n : Nat} {P : Nat → Prop} {l : List S96} (h : Kd.S k96 96 W base P (.slice (some ⟨g, 0, none⟩) m c) l) (hn : n < l.length) :
    ∃ (A1 : Option Addr) (c1 : Nat) (A8 : Option Addr) (c8 : Nat), (W.cell? ⟨g, n * 10, none⟩ = some (.string (rd_T96 l (n : Int)).f0.f0) ∧ W.cell? ⟨g, n * 10 + 1, none⟩ = some (.slice A1 (rd_T96 l (n : Int)).f0.f1.length c1) ∧ W.cell? ⟨g, n * 10 + 2, none⟩ = some (.int .i64 (rd_T96 l (n : Int)).f0.f2) ∧ W.cell? ⟨g, n * 10 + 3, none⟩ = some (.int .i64 (rd_T96 l (n : Int)).f1) ∧ W.cell? ⟨g, n * 10 + 4, none⟩ = some (.int .i64 (rd_T96 l (n : Int)).f2.f0) ∧ W.cell? ⟨g, n * 10 + 5, none⟩ = some (.int .i64 (rd_T96 l (n : Int)).f2.f1) ∧ W.cell? ⟨g, n * 10 + 6, none⟩ = some (.int .i64 (rd_T96 l (n : Int)).f2.f2) ∧ W.cell? ⟨g, n * 10 + 7, none⟩ = some (.int .i64 (rd_T96 l (n : Int)).f2.f3) ∧ W.cell? ⟨g, n * 10 + 8, none⟩ = some (.slice A8 (rd_T96 l (n : Int)).f2.f4.length c8) ∧ W.cell? ⟨g, n * 10 + 9, none⟩ = some (.bool (rd_T96 l (n : Int)).f2.f5)) ∧ (∀ j, W.frozen? ⟨g, n * 10 + j, none⟩ = false) := by
  have hm := (Kd.S_reads' h).1
  obtain ⟨oki, cs, hcl, hM, hcc, hfr, hoki, hH⟩ := Kd.S_elem h z96 (n : Int) (by omega) (by omega)
  have hM' : k96.M W base oki (rd_T96 l (n : Int)) cs := hM
  obtain ⟨v1, v8, rfl, hR1, hR8⟩ := k96_openM hM'
  obtain ⟨A1, c1, rfl⟩ := Kd.R_slice hR1
  obtain ⟨A8, c8, rfl⟩ := Kd.R_slice hR8
  have hsz : k96.sz = 10 := rfl
  simp only [Int.toNat_natCast, hsz] at hcc hfr
  exact ⟨A1, c1, A8, c8, ⟨by have := hcc 0 _ rfl; simpa using this, hcc 1 _ rfl, hcc 2 _ rfl, hcc 3 _ rfl, hcc 4 _ rfl, hcc 5 _ rfl, hcc 6 _ rfl, hcc 7 _ rfl, hcc 8 _ rfl, hcc 9 _ rfl⟩, hfr⟩
theorem elemD_put {W : World} {base g m c n : Nat} {P okx : Nat → Prop} {l : List S96} {x : S96} {A1 A8 : Option Addr} {c1 c8 : Nat} (h : Kd.S k96 96 W base P (.slice (some ⟨g, 0, none⟩) m c) l) (hn : n < l.length)
    (hx1 : k123.R 123 W base okx (.slice A1 x.f0.f1.length c1) x.f0.f1) (hx8 : (Kd.int .i64).R 3 W base okx (.slice A8 x.f2.f4.length c8) x.f2.f4) (hap : ∀ k, okx k → ¬ P k) :
    Kd.S k96 96 ((((((((((W.setCell ⟨g, n * 10, none⟩ (.string x.f0.f0)).setCell ⟨g, n * 10 + 1, none⟩ (.slice A1 x.f0.f1.length c1)).setCell ⟨g, n * 10 + 2, none⟩ (.int .i64 x.f0.f2)).setCell ⟨g, n * 10 + 3, none⟩ (.int .i64 x.f1)).setCell ⟨g, n * 10 + 4, none⟩ (.int .i64 x.f2.f0)).setCell ⟨g, n * 10 + 5, none⟩ (.int .i64 x.f2.f1)).setCell ⟨g, n * 10 + 6, none⟩ (.int .i64 x.f2.f2)).setCell ⟨g, n * 10 + 7, none⟩ (.int .i64 x.f2.f3)).setCell ⟨g, n * 10 + 8, none⟩ (.slice A8 x.f2.f4.length c8)).setCell ⟨g, n * 10 + 9, none⟩ (.bool x.f2.f5)) base (fun k => P k ∨ okx k) (.slice (some ⟨g, 0, none⟩) m c) (l.set n x) := by
  have hm := (Kd.S_reads' h).1
  have hg : P g := (Kd.S_R h).1 g rfl
  have h1 : Kd.S k96 96 W base (fun k => (P k ∨ okx k) ∧ ¬ okx k) (.slice (some ⟨g, 0, none⟩) m c) l := Kd.S_mono h (fun k hk => ⟨.inl hk, fun h2 => hap k h2 hk⟩)
  obtain ⟨oki, cs, hcl, hM, hcc, hfr, hoki, hH⟩ := Kd.S_elem h1 z96 (n : Int) (by omega) (by omega)
  have hH2 := Kd.H_more (okg := okx) hH (fun k hk => .inr hk)
  have hsz : k96.sz = 10 := rfl
  obtain ⟨hH3, _⟩ := Kd.H_seg hH2 (by omega) (by omega) (seg := [.string x.f0.f0, .slice A1 x.f0.f1.length c1, .int .i64 x.f0.f2, .int .i64 x.f1, .int .i64 x.f2.f0, .int .i64 x.f2.f1, .int .i64 x.f2.f2, .int .i64 x.f2.f3, .slice A8 x.f2.f4.length c8, .bool x.f2.f5]) (j := 0) (by show 0 + 10 ≤ 10; omega) (fun q hq => by
    rcases List.mem_cons.1 hq with rfl | hq
    · rfl
    rcases List.mem_cons.1 hq with rfl | hq
    · rfl
    rcases List.mem_cons.1 hq with rfl | hq
    · rfl
    rcases List.mem_cons.1 hq with rfl | hq
    · rfl
    rcases List.mem_cons.1 hq with rfl | hq
    · rfl
    rcases List.mem_cons.1 hq with rfl | hq
    · rfl
    rcases List.mem_cons.1 hq with rfl | hq
    · rfl
    rcases List.mem_cons.1 hq with rfl | hq
    · rfl
    rcases List.mem_cons.1 hq with rfl | hq
    · rfl
    rw [List.mem_singleton.1 hq]; rfl)
  have e : cs.take 0 ++ [Value.string x.f0.f0, .slice A1 x.f0.f1.length c1, .int .i64 x.f0.f2, .int .i64 x.f1, .int .i64 x.f2.f0, .int .i64 x.f2.f1, .int .i64 x.f2.f2, .int .i64 x.f2.f3, .slice A8 x.f2.f4.length c8, .bool x.f2.f5] ++ cs.drop (0 + [Value.string x.f0.f0, .slice A1 x.f0.f1.length c1, .int .i64 x.f0.f2, .int .i64 x.f1, .int .i64 x.f2.f0, .int .i64 x.f2.f1, .int .i64 x.f2.f2, .int .i64 x.f2.f3, .slice A8 x.f2.f4.length c8, .bool x.f2.f5].length) = [.string x.f0.f0, .slice A1 x.f0.f1.length c1, .int .i64 x.f0.f2, .int .i64 x.f1, .int .i64 x.f2.f0, .int .i64 x.f2.f1, .int .i64 x.f2.f2, .int .i64 x.f2.f3, .slice A8 x.f2.f4.length c8, .bool x.f2.f5] := by
    rw [List.take_zero, List.nil_append, List.drop_of_length_le (by rw [hcl, hsz]; simp), List.append_nil]
  rw [e] at hH3
  have hH4 : Kd.H k96 96 ((((((((((W.setCell ⟨g, n * 10, none⟩ (.string x.f0.f0)).setCell ⟨g, n * 10 + 1, none⟩ (.slice A1 x.f0.f1.length c1)).setCell ⟨g, n * 10 + 2, none⟩ (.int .i64 x.f0.f2)).setCell ⟨g, n * 10 + 3, none⟩ (.int .i64 x.f1)).setCell ⟨g, n * 10 + 4, none⟩ (.int .i64 x.f2.f0)).setCell ⟨g, n * 10 + 5, none⟩ (.int .i64 x.f2.f1)).setCell ⟨g, n * 10 + 6, none⟩ (.int .i64 x.f2.f2)).setCell ⟨g, n * 10 + 7, none⟩ (.int .i64 x.f2.f3)).setCell ⟨g, n * 10 + 8, none⟩ (.slice A8 x.f2.f4.length c8)).setCell ⟨g, n * 10 + 9, none⟩ (.bool x.f2.f5)) base (fun k => P k ∨ okx k) (.slice (some ⟨g, 0, none⟩) m c) l (n : Int) (fun k => oki k ∨ okx k) [.string x.f0.f0, .slice A1 x.f0.f1.length c1, .int .i64 x.f0.f2, .int .i64 x.f1, .int .i64 x.f2.f0, .int .i64 x.f2.f1, .int .i64 x.f2.f2, .int .i64 x.f2.f3, .slice A8 x.f2.f4.length c8, .bool x.f2.f5] := hH3
  have hfar : ∀ k, okx k → k ≠ g := fun k hk he => hap k hk (he ▸ hg)
  have hO : Only W ((((((((((W.setCell ⟨g, n * 10, none⟩ (.string x.f0.f0)).setCell ⟨g, n * 10 + 1, none⟩ (.slice A1 x.f0.f1.length c1)).setCell ⟨g, n * 10 + 2, none⟩ (.int .i64 x.f0.f2)).setCell ⟨g, n * 10 + 3, none⟩ (.int .i64 x.f1)).setCell ⟨g, n * 10 + 4, none⟩ (.int .i64 x.f2.f0)).setCell ⟨g, n * 10 + 5, none⟩ (.int .i64 x.f2.f1)).setCell ⟨g, n * 10 + 6, none⟩ (.int .i64 x.f2.f2)).setCell ⟨g, n * 10 + 7, none⟩ (.int .i64 x.f2.f3)).setCell ⟨g, n * 10 + 8, none⟩ (.slice A8 x.f2.f4.length c8)).setCell ⟨g, n * 10 + 9, none⟩ (.bool x.f2.f5)) g := by repeat (first | (with_reducible apply Only.set) | exact Only.refl _ _)
  have hb := Kd.H_back hH4 (x' := x) (k96_mkM _ base _ x (Kd.R_step hx1 (fun k hk _ => hO.2.2.2.2 k (hfar k hk))) (Kd.R_step hx8 (fun k hk _ => hO.2.2.2.2 k (hfar k hk)))) (fun k hk => .inr hk)
  rw [Int.toNat_natCast] at hb
  exact hb
end Go.Proofs.YtkgmoajdcibafaaDoor.P
end

section
/- slices.Insert of one element into a row of structs of several cells. -/
set_option linter.unusedVariables false
set_option linter.unusedSimpArgs false
namespace Go.Proofs.YtkgmoajdcibafaaDoor.P
open Go Go.RowKit Go.Proofs.YtkgmoajdcibafaaDoorW.PrintWords Go.Proofs.YtkgmoajdcibafaaDoorW.PrintLast Go.Proofs.YtkgmoajdcibafaaDoorW.PrintMore
section
variable {P : Program}
theorem run_copy_rowK (w : World) (t ty e : TypeId) (i : TypeInfo) (g o dLen dCap : Nat) (a : Addr) (sLen sCap : Nat) (cur : Array Value) (cs : List Value)
    (hu : P.underlying t = some (.slice e)) (hi : P.info? e = some i) (hg : w.heap[g]? = some (.cells cur e (0, 0))) (hn : cs.length = Nat.min sLen dLen * i.size)
    (hsrc : ∀ j v, cs[j]? = some v → w.cell? (a.add j) = some v) (hfit : o + cs.length ≤ cur.size) (h1 : ∀ v ∈ cs, v.oneCell' = true) :
    (Builtin.copy_ #[t, t] ty #[.slice (some ⟨g, o, none⟩) dLen dCap, .slice (some a) sLen sCap]).run P w =
      .ok (goInt (Nat.min sLen dLen)) (w.setRow g (cur.toList.take o ++ cs ++ cur.toList.drop (o + cs.length)).toArray) := by
  have hl := run_loadCells_list (P := P) w a cs hsrc
  have hst := run_storeCells_at P g o e cs 0 cur w hg (by simpa using hfit) h1
  simp [Builtin.copy_, run_underlying hu, Builtin.lenOf, Builtin.firstCells, sizeOf, typeInfo, hi, ← hn, hl, hst]
theorem wp_copy_runI (w : World) {o : Oper} {a : Act} {K : Act → World → Prop} {Q : Exit → Act → World → Prop} (d s : Operand) (t t' : TypeId)
    (ho : o.op = .call { callee := .builtin .copy, args := #[d, s], argTypes := #[t, t'] }) (v u : Value) (hd : a.eval d = v) (hs : a.eval s = u) {v' : Value} {w' : World}
    (hr : (Builtin.copy_ #[t, t'] o.type #[v, u]).run P w = .ok v' w') (h : K (a.put o.dst v') w') : o.wp P a w K Q := by
  unfold Oper.wp execOp
  simp only [ho, resolve, invoke, builtin, Sem.run_bind, Sem.run_pure, Result.andThen_ok, List.map_toArray, List.map_cons, List.map_nil, hd, hs, hr]
  exact h
theorem wpList_copy_runI (w : World) {ops : Array Oper} {rest : List Oper} {o : Oper} {a : Act} {Q : Exit → Act → World → Prop} (hgd : o.guard = none) (d s : Operand) (t t' : TypeId)
    (ho : o.op = .call { callee := .builtin .copy, args := #[d, s], argTypes := #[t, t'] }) (v u : Value) (hd : a.eval d = v) (hs : a.eval s = u) {v' : Value} {w' : World}
    (hr : (Builtin.copy_ #[t, t'] o.type #[v, u]).run P w = .ok v' w') (h : wpList P ops Q rest (a.put o.dst v') w') : wpList P ops Q (o :: rest) a w :=
  wpList_plain hgd fun _ hK => wp_copy_runI w d s t t' ho v u hd hs hr (hK _ _ h)
theorem step_copy_runI {ops : Array Oper} {o : Oper} {a : Act} {w : World} {K : Act → World → Prop} {Q : Exit → Act → World → Prop} {E : Prop}
    (hg : o.guard = none) (d x : Operand) (dT sT : TypeId) (hop : o.op = Op.call { callee := Callee.builtin Builtin.copy, args := #[d, x], argTypes := #[dT, sT] })
    (v u : Value) (hd : a.eval d = v) (hx : a.eval x = u) {v' : Value} {w' : World} (hr : (Builtin.copy_ #[dT, sT] o.type #[v, u]).run P w = .ok v' w') (hK : K (a.put o.dst v') w') :
    if Region.wanted o (yielded ops a.tmps) = true then Oper.wp P o a w K Q else E := by
  have hw : Region.wanted o (yielded ops a.tmps) = true := by simp [Region.wanted, hg]
  rw [if_pos hw]
  unfold Oper.wp
  simp [execOp, hop, resolve, invoke, builtin, hd, hx, hr, Result.andThen]
  exact hK
end
section
variable {α : Type} {d : Kd α} {e base : Nat} {okv oku : Nat → Prop} {w w' : World} {v u v1 : Value} {xs : List α} {x : α}
theorem Sin_len (h : Kd.S d e w base okv v xs) : ∃ f inner, w.ownsRow base e d.sz v xs.length inner ∧ (∀ k, v.ownBlock = some k → okv k) ∧ Reps ((Kd.tag f d).M w base (fun k => okv k ∧ some k ≠ v.ownBlock)) d.sz xs.zipIdx inner := by
  obtain ⟨f, h0, inner, ho, hr⟩ := h
  rw [List.length_zipIdx] at ho
  exact ⟨f, inner, ho, h0, hr⟩
theorem cells_at {inner : List Value} {A B : List Value} {z i j : Nat} (h : inner = A ++ B) (hA : A.length = i * z) (hj : j < i) : (inner.drop (j * z)).take z = (A.drop (j * z)).take z := by
  have h1 : j * z + z ≤ i * z := by rw [← Nat.succ_mul]; exact Nat.mul_le_mul_right _ hj
  rw [h, List.drop_append_of_le_length (by omega), List.take_append_of_le_length (by rw [List.length_drop]; omega)]
theorem one_cells {inner : List Value} {f : Nat → Nat} {ok : Nat → Prop} {ps : List (α × Nat)} (hr : Reps ((Kd.tag f d).M w base ok) d.sz ps inner) (hs : 0 < d.sz) : ∀ c ∈ inner, c.oneCell' = true := by
  intro c hc
  obtain ⟨q, hq, rfl⟩ := List.mem_iff_getElem.1 hc
  have hql : q / d.sz < ps.length := by
    rw [Nat.div_lt_iff_lt_mul hs, ← hr.1]; exact hq
  refine (Kd.tag f d).K_one ((Kd.tag f d).K_of_M (hr.2 (q / d.sz) _ (List.getElem?_eq_getElem hql))) _ ?_
  rw [List.mem_iff_getElem?]
  refine ⟨q % d.sz, ?_⟩
  rw [List.getElem?_take, if_pos (Nat.mod_lt _ hs), List.getElem?_drop, Nat.mul_comm, Nat.div_add_mod, List.getElem?_eq_getElem hq]
open Classical in
/-- A row into which an element has been put. -/
theorem S_insert {f f2 : Nat → Nat} {inner vin : List Value} {i : Nat} (hi : i ≤ xs.length) (hoL : inner.length = xs.length * d.sz) (h0 : ∀ k, v.ownBlock = some k → okv k) (hr : Reps ((Kd.tag f d).M w base (fun k => okv k ∧ some k ≠ v.ownBlock)) d.sz xs.zipIdx inner)
    (hvL : vin.length = d.sz) (hr2 : Reps ((Kd.tag f2 d).M w base (fun k => oku k ∧ some k ≠ u.ownBlock)) d.sz [x].zipIdx vin) (hap : ∀ k, okv k → ¬ oku k)
    (ho' : w'.ownsRow base e d.sz v1 (xs.length + 1) (inner.take (i * d.sz) ++ vin ++ inner.drop (i * d.sz))) (hg : w.grownBy w' v.ownBlock) (hat : v1.ownBlock = v.ownBlock ∨ ∃ b, v1.ownBlock = some b ∧ w.heap.size ≤ b) :
    Kd.S d e w' base (fun k => okv k ∨ oku k ∨ w.heap.size ≤ k) v1 (xs.take i ++ [x] ++ xs.drop i) := by
  have hlen : (xs.take i ++ [x] ++ xs.drop i).length = xs.length + 1 := by simp only [List.length_append, List.length_take, List.length_drop, List.length_singleton]; omega
  have hm : i * d.sz ≤ xs.length * d.sz := Nat.mul_le_mul_right _ hi
  have hal : (inner.take (i * d.sz)).length = i * d.sz := by rw [List.length_take]; omega
  have hmv : ∀ (y : α) (c : List Value) (P : Nat → Prop) (Q : Nat → Prop), d.M w base P y c → (∀ k, P k → k < w.heap.size → some k ≠ v.ownBlock ∧ Q k) → d.M w' base Q y c := by
    intro y c P Q hp hPQ
    have h1 := d.M_bound hp
    have h2 : d.M w base (fun k => Q k ∧ k < w.heap.size ∧ some k ≠ v.ownBlock) y c := d.M_mono (fun k hk => ⟨(hPQ k hk.1 hk.2.2.1).2, hk.2.2.1, (hPQ k hk.1 hk.2.2.1).1⟩) h1
    have h3 : d.M w' base (fun k => Q k ∧ k < w.heap.size ∧ some k ≠ v.ownBlock) y c := d.M_move (fun k hk => hg.block k hk.2.1 hk.2.2) h2
    exact d.M_mono (fun k hk => hk.1) h3
  have hne : ∀ k, (okv k ∧ some k ≠ v.ownBlock ∨ oku k) → k < w.heap.size → some k ≠ v1.ownBlock := by
    intro k hk hlt he
    rcases hat with h | ⟨b, h, hb⟩
    · rw [h] at he
      rcases hk with hk | hk
      · exact hk.2 he
      · exact hap k (h0 k he.symm) hk
    · rw [h] at he; injection he with he; omega
  refine ⟨fun k => if oku k then i else if f k < i then f k else f k + 1, fun k hk => ?_, inner.take (i * d.sz) ++ vin ++ inner.drop (i * d.sz), by rw [List.length_zipIdx, hlen]; exact ho', by rw [List.length_zipIdx, hlen]; exact ho'.1, fun j p hj => ?_⟩
  · rcases hat with h | ⟨b, h, hb⟩
    · rw [h] at hk; exact .inl (h0 k hk)
    · rw [h] at hk; injection hk with hk; exact .inr (.inr (by omega))
  · rw [List.getElem?_zipIdx, Nat.zero_add] at hj
    obtain ⟨y, hy, rfl⟩ := Option.map_eq_some_iff.1 hj
    show d.M w' base (fun k => ((okv k ∨ oku k ∨ w.heap.size ≤ k) ∧ some k ≠ v1.ownBlock) ∧ (if oku k then i else if f k < i then f k else f k + 1) = j) y (((inner.take (i * d.sz) ++ vin ++ inner.drop (i * d.sz)).drop (j * d.sz)).take d.sz)
    by_cases h1 : j < i
    · have hy' : xs[j]? = some y := by
        rw [List.append_assoc, List.getElem?_append_left (by rw [List.length_take]; omega), List.getElem?_take, if_pos h1] at hy; exact hy
      have hc : ((inner.take (i * d.sz) ++ vin ++ inner.drop (i * d.sz)).drop (j * d.sz)).take d.sz = (inner.drop (j * d.sz)).take d.sz := by
        rw [cells_at (List.append_assoc _ _ _) hal h1, cells_at (List.take_append_drop (i * d.sz) inner).symm hal h1]
      rw [hc]
      refine hmv y _ _ _ (hr.2 j (y, j) (Kd.zip_at hy')) (fun k hk hlt => ⟨hk.1.2, ⟨.inl hk.1.1, hne k (.inl hk.1) hlt⟩, ?_⟩)
      have h2 : f k = j := hk.2
      rw [if_neg (hap k hk.1.1), if_pos (by omega)]; exact h2
    · by_cases h2 : j = i
      · subst h2
        have hy' : y = x := by
          rw [List.append_assoc, List.getElem?_append_right (by rw [List.length_take]; omega), List.length_take, Nat.min_eq_left hi, Nat.sub_self] at hy
          simpa using hy.symm
        subst hy'
        have hc : ((inner.take (j * d.sz) ++ vin ++ inner.drop (j * d.sz)).drop (j * d.sz)).take d.sz = (vin.drop (0 * d.sz)).take d.sz := by
          rw [List.append_assoc, List.drop_left' hal, List.take_left' hvL, Nat.zero_mul, List.drop_zero, List.take_of_length_le (by omega)]
        rw [hc]
        refine hmv y _ _ _ (hr2.2 0 (y, 0) rfl) (fun k hk hlt => ⟨fun he => hap k (h0 k he.symm) hk.1.1, ⟨.inr (.inl hk.1.1), hne k (.inr hk.1.1) hlt⟩, ?_⟩)
        rw [if_pos hk.1.1]
      · obtain ⟨q, rfl⟩ : ∃ q, j = q + 1 := ⟨j - 1, by omega⟩
        have hy' : xs[q]? = some y := by
          rw [List.getElem?_append_right (by simp only [List.length_append, List.length_take, List.length_singleton]; omega), List.getElem?_drop] at hy
          rw [← hy]; congr 1
          simp only [List.length_append, List.length_take, List.length_singleton]; omega
        have hq : i * d.sz ≤ q * d.sz := Nat.mul_le_mul_right _ (by omega)
        have hc : ((inner.take (i * d.sz) ++ vin ++ inner.drop (i * d.sz)).drop ((q + 1) * d.sz)).take d.sz = (inner.drop (q * d.sz)).take d.sz := by
          rw [List.drop_append, List.drop_of_length_le (by rw [List.length_append, hal, hvL, Nat.succ_mul]; omega), List.nil_append, List.drop_drop]
          congr 2
          rw [List.length_append, hal, hvL, Nat.succ_mul]; omega
        rw [hc]
        refine hmv y _ _ _ (hr.2 q (y, q) (Kd.zip_at hy')) (fun k hk hlt => ⟨hk.1.2, ⟨.inl hk.1.1, hne k (.inl hk.1) hlt⟩, ?_⟩)
        have h3 : f k = q := hk.2
        rw [if_neg (hap k hk.1.1), if_neg (by omega), h3]
end
end Go.Proofs.YtkgmoajdcibafaaDoor.P
end

section
/- slices.Insert of one struct into a row of such: in place, and where the row grows. -/
set_option linter.unusedVariables false
set_option linter.unusedSimpArgs false
namespace Go.Proofs.YtkgmoajdcibafaaDoor.P
open Go Go.RowKit Go.Proofs.YtkgmoajdcibafaaDoorW.PrintWords Go.Proofs.YtkgmoajdcibafaaDoorW.PrintLast Go.Proofs.YtkgmoajdcibafaaDoorW.PrintMore
theorem insD_info : ∃ i, Tryd.prog.info? 96 = some i ∧ i.size = 10 := by
  obtain ⟨i, h0, h1, h2, _⟩ := info_parts info96
  exact ⟨i, h0, h2⟩
theorem insD_apart (w : World) (g vb o : Nat) (cur vcur : Array Value) (hg : w.heap[g]? = some (.cells cur 96 (0, 0))) (hv : w.heap[vb]? = some (.cells vcur 96 (0, 0))) (hne : vb ≠ g) (hc : cur.size ≠ 0) (lb cb m vc : Nat) :
    (callFunc 107 #[.slice (some ⟨vb, 0, none⟩) m vc, .slice (some ⟨g, o, none⟩) lb cb]).run Tryd.prog w = .ok (.value (.bool false)) w := by
  obtain ⟨i, hi, hs⟩ := insD_info
  rw [run_callFunc_extern Tryd.func107 (by kernel_rfl) (by kernel_rfl) (by kernel_rfl) (e := Extern.SlicesOverlaps.overlaps #[57, 57] #[4]) (by kernel_rfl),
    Lib.run_overlaps_apart w 57 4 96 Tryd.underlying57 10 (fun w => by simp [sizeOf, typeInfo, hi, hs]) ⟨vb, 0, none⟩ ⟨g, o, none⟩ m vc lb cb hne 96 96 vcur.size cur.size (by simp [World.shape?, hv]) (by simp [World.shape?, hg]) hc (by simp [World.frozen?, hv]) (by simp [World.frozen?, hv])]
  rfl
set_option maxHeartbeats 4000000 in
set_option maxRecDepth 100000 in
theorem insD_shift (g n c i vb vc : Nat) (cur vcur : Array Value) (vin : List Value) (w : World) (hi : i < n) (hroom : n + 1 ≤ c) (hc63 : c ≤ 9223372036854775807) (hne : vb ≠ g)
    (hg : w.heap[g]? = some (.cells cur 96 (0, 0))) (hv : w.heap[vb]? = some (.cells vcur 96 (0, 0))) (hcs : cur.size = c * 10) (hvl : vin.length = 10) (hvi : ∀ (j : Nat) (x : Value), vin[j]? = some x → vcur[j]? = some x) (hvz : vcur.size ≠ 0) (h1c : ∀ v ∈ cur.toList.take (n * 10), v.oneCell' = true) (h1v : ∀ v ∈ vin, v.oneCell' = true)
    (R1 R2 : Array Value) (hR1 : R1 = (cur.toList.take ((i + 1) * 10) ++ (cur.toList.take (n * 10)).drop (i * 10) ++ cur.toList.drop ((n + 1) * 10)).toArray) (hR2 : R2 = (R1.toList.take (i * 10) ++ vin ++ R1.toList.drop ((i + 1) * 10)).toArray) :
    Calls Tryd.prog 73 #[.slice (some ⟨g, 0, none⟩) n c, .int .i64 i, .slice (some ⟨vb, 0, none⟩) 1 vc] w fun e w' =>
      e = .returned (.slice (some ⟨g, 0, none⟩) (n + 1) c) ∧ w' = (w.drew.setRow g R1).setRow g R2 := by
  have hov := insD_apart w g vb ((i + 1) * 10) cur vcur hg hv hne (by omega)
  have hz2 : ¬ ((i : Int) = (n : Int)) := by omega
  have hw1 : IntKind.i64.wrap ((i : Int) + 1) = (i : Int) + 1 := by rw [IntKind.wrap_i64]; omega
  have hw2 : IntKind.i64.wrap ((n : Int) + 1) = (n : Int) + 1 := by rw [IntKind.wrap_i64]; omega
  have hb1 : (0 : Int) ≤ (i : Int) + 1 := by omega
  have hin : i ≤ n := by omega
  have htn : ((i : Int) + 1).toNat = i + 1 := by omega
  have hb2 : ¬ (c = i + 1) := by omega
  have hb3 : (i : Int) ≤ (n : Int) + 1 := by omega
  have hb4 : ¬ (c = i) := by omega
  obtain ⟨ti, hti, hts⟩ := insD_info
  have hmul : ∀ x y : Nat, x ≤ y → x * 10 ≤ y * 10 := fun x y h => Nat.mul_le_mul_right 10 h
  obtain ⟨cs, hcse⟩ : ∃ cs, cs = (cur.toList.take (n * 10)).drop (i * 10) := ⟨_, rfl⟩
  have hcl : cs.length = (n - i) * 10 := by rw [hcse, List.length_drop, List.length_take, Array.length_toList]; omega
  have hget : ∀ j v, cs[j]? = some v → cur[i * 10 + j]? = some v := fun j v hj => by
    rw [hcse, List.getElem?_drop, List.getElem?_take] at hj
    split at hj
    · rw [← Array.getElem?_toList]; exact hj
    · cases hj
  have hg1 : w.drew.heap[g]? = some (.cells cur 96 (0, 0)) := hg
  have hv1 : w.drew.heap[vb]? = some (.cells vcur 96 (0, 0)) := hv
  have hcp1 : ∀ ty dc sc, (Builtin.copy_ #[57, 57] ty #[.slice (some ⟨g, (i + 1) * 10, none⟩) (n - i) dc, .slice (some ⟨g, i * 10, none⟩) (n + 1 - i) sc]).run Tryd.prog w.drew = .ok (goInt (Nat.min (n + 1 - i) (n - i))) (w.drew.setRow g R1) := fun ty dc sc => by
    rw [run_copy_rowK w.drew 57 ty 96 ti g ((i + 1) * 10) (n - i) dc ⟨g, i * 10, none⟩ (n + 1 - i) sc cur cs Tryd.underlying57 hti hg1 (by rw [hcl, hts, show Nat.min (n + 1 - i) (n - i) = n - i from by simp only [Nat.min_def]; split <;> omega])
      (fun j v hj => by rw [Addr.add_lit]; simp only [World.cell?, hg1]; exact hget j v hj) (by rw [hcl]; omega) (fun v hv => h1c v (by rw [hcse] at hv; exact List.mem_of_mem_drop hv)), hR1, hcse.symm, show (i + 1) * 10 + cs.length = (n + 1) * 10 from by rw [hcl]; omega]
  have hR1s : R1.size = c * 10 := by
    rw [hR1, ← hcse]
    simp only [List.size_toArray, List.length_append, List.length_take, List.length_drop, Array.length_toList, hcl]
    omega
  obtain ⟨W1, hW1⟩ : ∃ W1, W1 = w.drew.setRow g R1 := ⟨_, rfl⟩
  have hg2 : W1.heap[g]? = some (.cells R1 96 (0, 0)) := by rw [hW1]; exact setRow_heap w.drew g cur R1 96 (0, 0) hg1
  have hv2 : W1.heap[vb]? = some (.cells vcur 96 (0, 0)) := by rw [hW1, setRow_other _ _ _ _ hne]; exact hv1
  have hcp2 : ∀ ty dc, (Builtin.copy_ #[57, 57] ty #[.slice (some ⟨g, i * 10, none⟩) (n + 1 - i) dc, .slice (some ⟨vb, 0, none⟩) 1 vc]).run Tryd.prog W1 = .ok (goInt (Nat.min 1 (n + 1 - i))) (W1.setRow g R2) := fun ty dc => by
    rw [run_copy_rowK W1 57 ty 96 ti g (i * 10) (n + 1 - i) dc ⟨vb, 0, none⟩ 1 vc R1 vin Tryd.underlying57 hti hg2 (by rw [hvl, hts, show Nat.min 1 (n + 1 - i) = 1 from by simp only [Nat.min_def]; split <;> omega])
      (fun j v hj => by rw [Addr.add_lit]; simp only [World.cell?, hv2]; rw [Nat.zero_add]; exact hvi j v hj) (by rw [hvl, hR1s]; omega) h1v, hR2, show i * 10 + vin.length = (i + 1) * 10 from by rw [hvl]; omega]
  rw [← hW1] at hcp1 ⊢
  clear hget hmul hW1 hR1 hR2 hcse hcl hR1s hg1 hv1 hg2 hv2 hvi
  have mixed : Tryd.prog.follows .mixedOrders = true := by kernel_rfl
  go_enter Tryd.func73, Tryd.ntmps73
  go_wp2_with (simp only [hov])
  go_region_law_o (refine step_copy_runI rfl _ _ 57 57 rfl _ _ (by simp [Act.eval, Act.put]) (by simp [Act.eval, Act.put]) (hcp1 _ _ _) ?_)
  go_wp2_with (at_builtin; refine wpList_copy_runI _ rfl _ _ 57 57 rfl _ _ rfl rfl (hcp2 _ _) ?_)
  go_ret
  exact ⟨rfl, rfl⟩
set_option maxHeartbeats 4000000 in
set_option maxRecDepth 100000 in
theorem insD_grow (g n c i vb vc : Nat) (cur vcur : Array Value) (vin : List Value) (w : World) (hi : i < n) (hnc : n ≤ c) (hroom : c < n + 1) (hbig : (n + 1) * 120 ≤ 140737488355328) (hne : vb ≠ g)
    (hg : w.heap[g]? = some (.cells cur 96 (0, 0))) (hv : w.heap[vb]? = some (.cells vcur 96 (0, 0))) (hcs : cur.size = c * 10) (hvl : vin.length = 10) (hvi : ∀ (j : Nat) (x : Value), vin[j]? = some x → vcur[j]? = some x) (hvz : vcur.size ≠ 0) (h1c : ∀ v ∈ cur.toList.take (n * 10), v.oneCell' = true) (h1v : ∀ v ∈ vin, v.oneCell' = true) :
    Calls Tryd.prog 73 #[.slice (some ⟨g, 0, none⟩) n c, .int .i64 i, .slice (some ⟨vb, 0, none⟩) 1 vc] w fun e w' =>
      ∃ (G : Nat) (R : Array Value), e = .returned (.slice (some ⟨w.heap.size, 0, none⟩) (n + 1) G) ∧ n + 1 ≤ G ∧ G ≤ maxLen ∧ R.size = G * 10 ∧ w'.heap[w.heap.size]? = some (.cells R 96 (0, 0)) ∧
        R.toList.take ((n + 1) * 10) = cur.toList.take (i * 10) ++ vin ++ (cur.toList.take (n * 10)).drop (i * 10) ∧ w.grownBy w' none := by
  obtain ⟨ti, hti, hz0, hzs, hzb⟩ := info_parts info96
  have hz2 : ¬ ((i : Int) = (n : Int)) := by omega
  have hz3 : (c : Int) < (n : Int) + 1 := by omega
  have hgw : g < w.heap.size := (Array.getElem?_eq_some_iff.1 hg).1
  have hvw : vb < w.heap.size := (Array.getElem?_eq_some_iff.1 hv).1
  have hkk : (n : Int) + 1 - (i : Int) = ((n + 1 - i : Nat) : Int) := by omega
  have hik : i + (n + 1 - i) = n + 1 := by omega
  obtain ⟨cs, hcse⟩ : ∃ cs, cs = (cur.toList.take (n * 10)).drop (i * 10) := ⟨_, rfl⟩
  have hcl : cs.length = (n - i) * 10 := by rw [hcse, List.length_drop, List.length_take, Array.length_toList]; omega
  have hget : ∀ j v, cs[j]? = some v → cur[i * 10 + j]? = some v := fun j v hj => by
    rw [hcse, List.getElem?_drop, List.getElem?_take] at hj
    split at hj
    · rw [← Array.getElem?_toList]; exact hj
    · cases hj
  have htl : (cur.toList.take (i * 10)).length = i * 10 := by rw [List.length_take, Array.length_toList]; omega
  have hold : (Builtin.firstCells ti.size i (.slice (some ⟨g, 0, none⟩) i c)).run Tryd.prog w.drew = .ok (cur.toList.take (i * 10)).toArray w.drew := by
    rw [hzs]
    exact run_firstCells_some w.drew 10 i ⟨g, 0, none⟩ i c (cur.toList.take (i * 10)) htl (fun j v hj => by
      rw [Addr.add_lit, Nat.zero_add]
      rw [List.getElem?_take] at hj
      split at hj
      · have hg1 : w.drew.heap[g]? = some (.cells cur 96 (0, 0)) := hg
        simp only [World.cell?, hg1]
        rw [← Array.getElem?_toList]; exact hj
      · cases hj)
  obtain ⟨G, hG⟩ : ∃ G, G = grownCap w (n + 1) c 96 := ⟨_, rfl⟩
  have hGn : n + 1 ≤ G := by rw [hG]; exact grownCap_ge w _ _ _
  have hGm : G ≤ maxLen := by rw [hG]; exact grownCap_le_maxLen w (n + 1) c 96 (by unfold maxLen; omega)
  have hG63 : G ≤ 9223372036854775807 := by unfold maxLen at hGm; omega
  obtain ⟨ROW, hRs, hRt, hrz⟩ : ∃ ROW : Array Value, ROW.size = G * 10 ∧ ROW.toList.take (i * 10) = cur.toList.take (i * 10) ∧ ∀ ty, (Builtin.append_ #[57, 3] ty #[.slice (some ⟨g, 0, none⟩) i c, .int .i64 ((n : Int) + 1 - (i : Int))]).run Tryd.prog w =
      .ok (.slice (some ⟨w.heap.size, 0, none⟩) (n + 1) G) (w.drew.alloc (.cells ROW 96)) := by
    obtain ⟨z, hz, hzc⟩ : ∃ z, ti.zero = some z ∧ z.cells.size = 10 := ⟨_, hz0, rfl⟩
    refine ⟨(cur.toList.take (i * 10)).toArray ++ Builtin.zeroCells z.cells (n + 1 - i) ++ Builtin.zeroCells z.cells (G - (n + 1)), ?_, ?_, fun ty => ?_⟩
    rotate_left 2
    · have h := Lib.run_append_grow_zeros w 57 3 ty 96 ti _ .i64 .i64 Tryd.underlying57 Tryd.underlying3 hti hz (some ⟨g, 0, none⟩) i c (cur.toList.take (i * 10)) hold (n + 1 - i) (by omega) (by omega) (by omega) (by omega) (by rw [hzb]; omega) (by rw [hzb, hik]; exact growslice_fits hroom hbig)
      rw [hik, ← hG] at h
      rw [hkk]
      exact h
    · simp only [Array.size_append, List.size_toArray, htl, size_zeroCells, hzc]
      omega
    · rw [Array.append_assoc, Array.toList_append, List.toList_toArray, List.take_left' htl]
  obtain ⟨RA, hRA⟩ : ∃ RA : Array Value, RA = (ROW.toList.take (i * 10) ++ vin ++ ROW.toList.drop ((i + 1) * 10)).toArray := ⟨_, rfl⟩
  obtain ⟨RB, hRB⟩ : ∃ RB : Array Value, RB = (RA.toList.take ((i + 1) * 10) ++ cs ++ RA.toList.drop ((n + 1) * 10)).toArray := ⟨_, rfl⟩
  have hRtl : (ROW.toList.take (i * 10)).length = i * 10 := by rw [hRt]; exact htl
  have hRAs : RA.size = G * 10 := by
    rw [hRA]
    simp only [List.size_toArray, List.length_append, hRtl, hvl, List.length_drop, Array.length_toList]
    omega
  have hRAt : RA.toList.take ((i + 1) * 10) = cur.toList.take (i * 10) ++ vin := by
    rw [hRA, List.toList_toArray, ← hRt]
    exact List.take_left' (by rw [List.length_append, hRtl, hvl]; omega)
  have hRBs : RB.size = G * 10 := by
    rw [hRB]
    simp only [List.size_toArray, List.length_append, List.length_take, hcl, List.length_drop, Array.length_toList]
    omega
  have hRBt : RB.toList.take ((n + 1) * 10) = cur.toList.take (i * 10) ++ vin ++ cs := by
    rw [hRB, List.toList_toArray, hRAt]
    exact List.take_left' (by simp only [List.length_append, htl, hvl, hcl]; omega)
  have hcpA : ∀ (W : World), W.heap[w.heap.size]? = some (.cells ROW 96 (0, 0)) → W.heap[vb]? = some (.cells vcur 96 (0, 0)) → ∀ ty dc, (Builtin.copy_ #[57, 57] ty #[.slice (some ⟨w.heap.size, i * 10, none⟩) (n + 1 - i) dc, .slice (some ⟨vb, 0, none⟩) 1 vc]).run Tryd.prog W = .ok (goInt (Nat.min 1 (n + 1 - i))) (W.setRow w.heap.size RA) := fun W h1 h2 ty dc => by
    rw [run_copy_rowK W 57 ty 96 ti w.heap.size (i * 10) (n + 1 - i) dc ⟨vb, 0, none⟩ 1 vc ROW vin Tryd.underlying57 hti h1 (by rw [hvl, hzs, show Nat.min 1 (n + 1 - i) = 1 from by simp only [Nat.min_def]; split <;> omega])
      (fun j v hj => by rw [Addr.add_lit]; simp only [World.cell?, h2]; rw [Nat.zero_add]; exact hvi j v hj) (by rw [hvl, hRs]; omega) h1v, hRA, show i * 10 + vin.length = (i + 1) * 10 from by rw [hvl]; omega]
  have hcpB : ∀ (W : World), W.heap[w.heap.size]? = some (.cells RA 96 (0, 0)) → W.heap[g]? = some (.cells cur 96 (0, 0)) → ∀ ty dc sc, (Builtin.copy_ #[57, 57] ty #[.slice (some ⟨w.heap.size, (i + 1) * 10, none⟩) (n - i) dc, .slice (some ⟨g, i * 10, none⟩) (n - i) sc]).run Tryd.prog W = .ok (goInt (Nat.min (n - i) (n - i))) (W.setRow w.heap.size RB) := fun W h1 h2 ty dc sc => by
    rw [run_copy_rowK W 57 ty 96 ti w.heap.size ((i + 1) * 10) (n - i) dc ⟨g, i * 10, none⟩ (n - i) sc RA cs Tryd.underlying57 hti h1 (by rw [hcl, hzs, show Nat.min (n - i) (n - i) = n - i from by simp only [Nat.min_def]; split <;> omega])
      (fun j v hj => by rw [Addr.add_lit]; simp only [World.cell?, h2]; exact hget j v hj) (by rw [hcl, hRAs]; omega) (fun v hv => h1c v (by rw [hcse] at hv; exact List.mem_of_mem_drop hv)), hRB, show (i + 1) * 10 + cs.length = (n + 1) * 10 from by rw [hcl]; omega]
  have hGi : ¬ (G = i) := by omega
  have hGim : ¬ (G = i + 1) := by omega
  have hci : ¬ (c = i) := by omega
  have hw1 : IntKind.i64.wrap ((i : Int) + 1) = (i : Int) + 1 := by rw [IntKind.wrap_i64]; omega
  have hw2 : IntKind.i64.wrap ((n : Int) + 1) = (n : Int) + 1 := by rw [IntKind.wrap_i64]; omega
  have hw3 : IntKind.i64.wrap ((n : Int) + 1 - (i : Int)) = (n : Int) + 1 - (i : Int) := by rw [IntKind.wrap_i64]; omega
  have hb1 : (0 : Int) ≤ (i : Int) + 1 := by omega
  have hin : i ≤ n := by omega
  have hic : i ≤ c := by omega
  have htn : ((i : Int) + 1).toNat = i + 1 := by omega
  have hb3 : (i : Int) ≤ (n : Int) + 1 := by omega
  have mixed : Tryd.prog.follows .mixedOrders = true := by kernel_rfl
  have hfin : ∀ W' : World, W'.heap[w.heap.size]? = some (.cells RB 96 (0, 0)) → w.grownBy W' none → ∃ (G_ : Nat) (R : Array Value), (Ending.returned (.slice (some ⟨w.heap.size, 0, none⟩) (n + 1) G)) = .returned (.slice (some ⟨w.heap.size, 0, none⟩) (n + 1) G_) ∧ n + 1 ≤ G_ ∧ G_ ≤ maxLen ∧ R.size = G_ * 10 ∧ W'.heap[w.heap.size]? = some (.cells R 96 (0, 0)) ∧
        R.toList.take ((n + 1) * 10) = cur.toList.take (i * 10) ++ vin ++ (cur.toList.take (n * 10)).drop (i * 10) ∧ w.grownBy W' none := fun W' h1 h2 => ⟨G, RB, rfl, hGn, hGm, hRBs, h1, by rw [hRBt, hcse], h2⟩
  have hA1 : ((w.alloc (.cells ROW 96)).drew).heap[w.heap.size]? = some (.cells ROW 96 (0, 0)) := by
    show (w.heap.push _)[w.heap.size]? = _
    rw [Array.getElem?_push, if_pos rfl]
  have hA2 : ((w.alloc (.cells ROW 96)).drew).heap[vb]? = some (.cells vcur 96 (0, 0)) := by
    show (w.heap.push _)[vb]? = _
    rw [Array.getElem?_push, if_neg (by omega)]; exact hv
  have hA3 : ((w.alloc (.cells ROW 96)).drew).heap[g]? = some (.cells cur 96 (0, 0)) := by
    show (w.heap.push _)[g]? = _
    rw [Array.getElem?_push, if_neg (by omega)]; exact hg
  have hB1 : ((((w.alloc (.cells ROW 96)).drew).setRow w.heap.size RA).drew).heap[w.heap.size]? = some (.cells RA 96 (0, 0)) := setRow_heap _ _ _ RA 96 (0, 0) hA1
  have hB3 : ((((w.alloc (.cells ROW 96)).drew).setRow w.heap.size RA).drew).heap[g]? = some (.cells cur 96 (0, 0)) := (setRow_other _ _ _ _ (by omega)).trans hA3
  have hF1 : (((w.alloc (.cells ROW 96)).drew.setRow w.heap.size RA).drew.setRow w.heap.size RB).heap[w.heap.size]? = some (.cells RB 96 (0, 0)) := setRow_heap _ _ _ RB 96 (0, 0) hB1
  have hF2 : w.grownBy (((w.alloc (.cells ROW 96)).drew.setRow w.heap.size RA).drew.setRow w.heap.size RB) none := by
    refine ⟨rfl, rfl, rfl, ?_, fun k hk _ => ?_⟩
    · rw [size_setRow]
      show w.heap.size ≤ (((w.alloc (.cells ROW 96)).drew.setRow w.heap.size RA)).heap.size
      rw [size_setRow]
      show w.heap.size ≤ (w.heap.push _).size
      rw [Array.size_push]; exact Nat.le_succ _
    · rw [setRow_other _ _ _ _ (by omega)]
      show (((w.alloc (.cells ROW 96)).drew.setRow w.heap.size RA)).heap[k]? = _
      rw [setRow_other _ _ _ _ (by omega)]
      show (w.heap.push _)[k]? = _
      rw [Array.getElem?_push, if_neg (by omega)]
  have hend := hfin _ hF1 hF2
  have hA := hcpA _ hA1 hA2
  have hB := hcpB _ hB1 hB3
  clear hcpA hcpB hA1 hA2 hA3 hB1 hB3 hF1 hF2 hfin
  clear hget hRA hRB hcse hcl htl hold hRs hRt hRtl hRAs hRAt hRBs hRBt hti hz0 hzs hzb hkk hik hG h1c h1v hcs hvl hvi hvz hg hv
  go_enter Tryd.func73, Tryd.ntmps73
  go_upto_region 10 with (at_builtin; refine Lib.wpList_append_run _ rfl _ _ _ _ rfl _ _ rfl rfl _ _ (hrz _) ?_)
  go_wp2_with (at_builtin; refine wpList_copy_runI _ rfl _ _ 57 57 rfl _ _ rfl rfl (hA _ _) ?_)
  go_region_law_o (refine step_copy_runI rfl _ _ 57 57 rfl _ _ (by simp [Act.eval, Act.put]) (by simp [Act.eval, Act.put]) (hB _ _ _) ?_)
  go_wp2
  go_ret
  exact hend
set_option maxHeartbeats 4000000 in
set_option maxRecDepth 100000 in
/-- At the end: an append. -/
theorem insD_end (base n : Nat) (v : Value) (inner : List Value) (vb vc : Nat) (vcur : Array Value) (vin : List Value) (w : World) (ho : w.ownsRow base 96 10 v n inner) (hbase : base ≤ w.heap.size) (hbig : (n + 1) * 120 ≤ 140737488355328)
    (hv : w.heap[vb]? = some (.cells vcur 96 (0, 0))) (hvl : vin.length = 10) (hvi : ∀ (j : Nat) (x : Value), vin[j]? = some x → vcur[j]? = some x) (h1v : ∀ v ∈ vin, v.oneCell' = true) :
    Calls Tryd.prog 73 #[v, .int .i64 n, .slice (some ⟨vb, 0, none⟩) 1 vc] w fun e w' => ∃ v1, e = .returned v1 ∧ w'.ownsRow base 96 10 v1 (n + 1) (inner ++ vin) ∧ w.grownBy w' v.ownBlock ∧ (v1.ownBlock = v.ownBlock ∨ ∃ b, v1.ownBlock = some b ∧ w.heap.size ≤ b) := by
  obtain ⟨ti, hti, hz0, hzs, hzb⟩ := info_parts info96
  obtain ⟨v1, w1, hrun, h2, hg, _, hat⟩ := run_append_own_at (P := Tryd.prog) w base 57 57 96 ti _ 10 120 Tryd.underlying57 hti hz0 hzs hzb rfl (by decide) v n inner ho ⟨vb, 0, none⟩ 1 vc vin (by omega)
    (fun j x hj => by rw [Addr.add_lit]; simp only [World.cell?, hv]; rw [Nat.zero_add]; exact hvi j x hj) h1v (by unfold maxLen; omega) hbig hbase
  have hat : v1.ownBlock = v.ownBlock ∨ ∃ b, v1.ownBlock = some b ∧ w.heap.size ≤ b := hat.imp_right (fun h => ⟨_, h, Nat.le_refl _⟩)
  rcases ho.2 with ⟨rfl, rfl⟩ | ⟨g, c, cur, rfl, _, _, hnc, _⟩
  · clear hti hz0 hzs hzb hv hvi h1v ho
    go_enter Tryd.func73, Tryd.ntmps73
    go_wp2_with (at_builtin; refine Lib.wpList_append_run _ rfl _ _ _ _ rfl _ _ rfl rfl _ _ hrun ?_)
    go_ret
    exact ⟨v1, rfl, h2, hg, hat⟩
  · clear hti hz0 hzs hzb hv hvi h1v ho
    have hn63 : n ≤ 9223372036854775807 := by omega
    rcases Nat.eq_or_lt_of_le hnc with hc | hc
    · subst hc
      go_enter Tryd.func73, Tryd.ntmps73
      go_wp2_with (at_builtin; refine Lib.wpList_append_run _ rfl _ _ _ _ rfl _ _ rfl rfl _ _ hrun ?_)
      go_ret
      exact ⟨v1, rfl, h2, hg, hat⟩
    · have hcn : ¬ (c = n) := by omega
      go_enter Tryd.func73, Tryd.ntmps73
      go_wp2_with (at_builtin; refine Lib.wpList_append_run _ rfl _ _ _ _ rfl _ _ rfl rfl _ _ hrun ?_)
      go_ret
      exact ⟨v1, rfl, h2, hg, hat⟩
theorem insD_own (base n : Nat) (v u : Value) (inner vin : List Value) (i : Nat) (w : World) (ho : w.ownsRow base 96 10 v n inner) (hu : w.ownsRow base 96 10 u 1 vin) (hne : ∀ k, u.ownBlock = some k → v.ownBlock ≠ some k) (hin : i ≤ n)
    (h1c : ∀ x ∈ inner, x.oneCell' = true) (h1v : ∀ x ∈ vin, x.oneCell' = true) (hbase : base ≤ w.heap.size) (hbig : (n + 1) * 120 ≤ 140737488355328) :
    Calls Tryd.prog 73 #[v, .int .i64 i, u] w fun e w' => ∃ v1, e = .returned v1 ∧ w'.ownsRow base 96 10 v1 (n + 1) (inner.take (i * 10) ++ vin ++ inner.drop (i * 10)) ∧ w.grownBy w' v.ownBlock ∧ (v1.ownBlock = v.ownBlock ∨ ∃ b, v1.ownBlock = some b ∧ w.heap.size ≤ b) := by
  obtain ⟨hul, hu⟩ := hu
  rcases hu with ⟨_, h0⟩ | ⟨vb, vc, vcur, rfl, hvb, hv, hvc, _, hvs, hvt⟩
  · exact absurd h0 (by decide)
  have hvl : vin.length = 10 := by omega
  have hvi : ∀ (j : Nat) (x : Value), vin[j]? = some x → vcur[j]? = some x := fun j x hj => by
    rw [← hvt, List.getElem?_take] at hj
    split at hj
    · rw [← Array.getElem?_toList]; exact hj
    · cases hj
  have hil : inner.length = n * 10 := ho.1
  by_cases hi : i = n
  · subst hi
    rw [List.take_of_length_le (by omega), List.drop_of_length_le (by omega), List.append_nil]
    exact insD_end base i v inner vb vc vcur vin w ho hbase hbig hv hvl hvi h1v
  · rcases ho.2 with ⟨rfl, h0⟩ | ⟨g, c, cur, rfl, hgb, hg, hnc, hcm, hcs, hct⟩
    · omega
    have hne' : vb ≠ g := fun e => hne vb rfl (by rw [e]; rfl)
    have hti : inner.take (i * 10) = cur.toList.take (i * 10) := by rw [← hct, List.take_take, Nat.min_eq_left (by omega)]
    have htd : inner.drop (i * 10) = (cur.toList.take (n * 10)).drop (i * 10) := by rw [hct]
    have hdl : (inner.drop (i * 10)).length = (n - i) * 10 := by rw [List.length_drop]; omega
    have htl : (inner.take (i * 10)).length = i * 10 := by rw [List.length_take]; omega
    have hc63 : c ≤ 9223372036854775807 := by unfold maxLen at hcm; omega
    by_cases hroom : n + 1 ≤ c
    · have hgw : g < w.heap.size := (Array.getElem?_eq_some_iff.1 hg).1
      refine (insD_shift g n c i vb vc cur vcur vin w (by omega) hroom hc63 hne' hg hv hcs hvl hvi (by omega) (by rw [hct]; exact h1c) h1v _ _ rfl rfl).mono ?_
      rintro e w' ⟨rfl, rfl⟩
      have hA : ∀ X : List Value, (cur.toList.take ((i + 1) * 10) ++ (inner.drop (i * 10)) ++ X).take (i * 10) = inner.take (i * 10) := fun X => by
        rw [List.append_assoc, List.take_append_of_le_length (by rw [List.length_take, Array.length_toList]; omega), List.take_take, Nat.min_eq_left (by omega), hti]
      have hB : ∀ X : List Value, (cur.toList.take ((i + 1) * 10) ++ (inner.drop (i * 10)) ++ X).drop ((i + 1) * 10) = inner.drop (i * 10) ++ X := fun X => by
        rw [List.append_assoc, List.drop_left' (by rw [List.length_take, Array.length_toList]; omega)]
      have hg1 : w.drew.heap[g]? = some (.cells cur 96 (0, 0)) := hg
      rw [← htd, List.toList_toArray, hA, hB]
      refine ⟨_, rfl, ⟨?_, .inr ⟨g, c, _, rfl, hgb, setRow_heap _ _ _ _ 96 (0, 0) (setRow_heap _ _ _ _ 96 (0, 0) hg1), hroom, hcm, ?_, ?_⟩⟩, ⟨rfl, rfl, rfl, ?_, fun k hk hkg => ?_⟩, .inl rfl⟩
      · simp only [List.length_append, htl, hvl, hdl]; omega
      · simp only [List.size_toArray, List.length_append, htl, hvl, hdl, List.length_drop, Array.length_toList]; omega
      · rw [List.toList_toArray, ← List.append_assoc]
        exact List.take_left' (by simp only [List.length_append, htl, hvl, hdl]; omega)
      · rw [size_setRow, size_setRow]; exact Nat.le_refl _
      · have hk' : k ≠ g := fun e => hkg (by rw [e]; rfl)
        rw [setRow_other _ _ _ _ hk', setRow_other _ _ _ _ hk']; rfl
    · refine (insD_grow g n c i vb vc cur vcur vin w (by omega) hnc (by omega) hbig hne' hg hv hcs hvl hvi (by omega) (by rw [hct]; exact h1c) h1v).mono ?_
      rintro e w' ⟨G, R, rfl, hG, hGm, hRs, hR, hRt, hgr⟩
      refine ⟨_, rfl, ⟨?_, .inr ⟨w.heap.size, G, R, rfl, hbase, hR, hG, hGm, hRs, by rw [hRt, hti, htd]⟩⟩, ⟨hgr.os, hgr.tape, hgr.output, hgr.size, fun k hk _ => hgr.block k hk (by simp)⟩, .inr ⟨w.heap.size, rfl, Nat.le_refl _⟩⟩
      simp only [List.length_append, htl, hvl, hdl]; omega
theorem insD_row {base : Nat} {okv oku : Nat → Prop} {v u : Value} {xs : List S96} {x : S96} {w : World} (i : Nat) (HO : Kd.S k96 96 w base okv v xs) (HU : Kd.S k96 96 w base oku u [x]) (hap : ∀ k, okv k → ¬ oku k) (hi : i ≤ xs.length)
    (hbase : base ≤ w.heap.size) (hbig : (xs.length + 1) * 120 ≤ 140737488355328) :
    Calls Tryd.prog 73 #[v, .int .i64 i, u] w fun e w' => ∃ v1, e = .returned v1 ∧ Kd.S k96 96 w' base (fun k => okv k ∨ oku k ∨ w.heap.size ≤ k) v1 (xs.take i ++ [x] ++ xs.drop i) ∧ w.grownBy w' v.ownBlock := by
  obtain ⟨f, inner, ho, h0, hr⟩ := Sin_len HO
  obtain ⟨f2, vin, hu, hu0, hr2⟩ := Sin_len HU
  refine (insD_own base xs.length v u inner vin i w ho hu (fun k hk he => hap k (h0 k he) (hu0 k hk)) hi (one_cells hr (by decide)) (one_cells hr2 (by decide)) hbase hbig).mono ?_
  rintro e w' ⟨v1, rfl, h1, h2, h3⟩
  exact ⟨v1, rfl, S_insert hi ho.1 h0 hr (by have := hu.1; simpa using this) hr2 hap h1 h2 h3, h2⟩
end Go.Proofs.YtkgmoajdcibafaaDoor.P
end

section
/- A literal of one element that leads to rows of the call's own. No conditions. -/
set_option linter.unusedVariables false
namespace Go.Proofs.YtkgmoajdcibafaaDoorW.PrintWords
open Go.RowKit
namespace Kd
section
variable {P : Program} {ops : Array Oper} {rest : List Oper} {o : Oper} {a : Act} {Q : Exit → Act → World → Prop} {Kc : Act → World → Prop} {α : Type}
theorem Below.refl' (B : Nat) (W : World) : Below B W W := ⟨rfl, rfl, rfl, Nat.le_refl _, fun _ _ => rfl⟩
theorem one_at {d : Kd α} {W : World} {base : Nat} {okp : Nat → Prop} {xs : List α} {inner : List Value} (hrep : Reps (d.M W base okp) d.sz xs inner) (hm : xs.length ≤ 1) (j : Nat) (x : α) (hj : xs[j]? = some x) :
    d.M W base (fun k => j = 0 ∧ okp k) x ((inner.drop (j * d.sz)).take d.sz) := by
  have hlt := (List.getElem?_eq_some_iff.1 hj).1
  have h0 : j = 0 := by omega
  exact d.M_mono (fun k hk => ⟨h0, hk⟩) (hrep.2 j x hj)
theorem S_lit1 (d : Kd α) {w0 W : World} (base e : Nat) (hgd : o.guard = none) {N : Tmp} (hd : o.dst = some N) {xs : List α} {inner : List Value} {ok okp : Nat → Prop} {base' : Nat}
    (hrun : (execOp a.eval o).run P W = .ok (.value (.slice (some ⟨W.heap.size, 0, none⟩) xs.length xs.length)) (W.alloc (.cells inner.toArray e)))
    (hrep : Reps (d.M W base' okp) d.sz xs inner) (hok : ∀ k, okp k → ok k) (hfresh : ok W.heap.size) (HB : Below base w0 W) (hbase : base ≤ W.heap.size) (hm : xs.length ≤ 1)
    (h : ∀ v1 w1, S d e w1 base' ok v1 xs → Below base w0 w1 → W.grownBy w1 none → (∃ b, v1.ownBlock = some b ∧ W.heap.size ≤ b) → wpList P ops Q rest (a.put o.dst v1) w1)
    (hb0 : base' ≤ W.heap.size := by exact below_size (by repeat (first | exact HB.out | apply below_alloc | apply pw_below_drewN | apply below_drew1 | refine below_set ?_ (Aside0.out (by assumption))))) : wpList P ops Q (o :: rest) a W :=
  S_lits d (w0 := W) base' e hgd hd (fun j k => j = 0 ∧ okp k) hrun hrep.1 (one_at hrep hm) (fun i j k h1 h2 => h1.1.trans h2.1.symm) (fun j k hk => hok k hk.2) hfresh (Below.refl' base' W) hb0 (Nat.le_trans hm (by decide)) (fun v1 w1 hs _ hg hat => h v1 w1 hs (HB.grown hg hbase (fun _ hk => by cases hk)) hg hat)
theorem S_lit1_step (d : Kd α) {w0 W : World} (base e : Nat) (hw : Region.wanted o (yielded ops a.tmps) = true) {N : Tmp} (hd : o.dst = some N) {xs : List α} {inner : List Value} {ok okp : Nat → Prop} {base' : Nat}
    (hrun : (execOp a.eval o).run P W = .ok (.value (.slice (some ⟨W.heap.size, 0, none⟩) xs.length xs.length)) (W.alloc (.cells inner.toArray e)))
    (hrep : Reps (d.M W base' okp) d.sz xs inner) (hok : ∀ k, okp k → ok k) (hfresh : ok W.heap.size) (HB : Below base w0 W) (hbase : base ≤ W.heap.size) (hm : xs.length ≤ 1)
    (h : ∀ v1 w1, S d e w1 base' ok v1 xs → Below base w0 w1 → W.grownBy w1 none → (∃ b, v1.ownBlock = some b ∧ W.heap.size ≤ b) → Kc (a.put o.dst v1) w1)
    (hb0 : base' ≤ W.heap.size := by exact below_size (by repeat (first | exact HB.out | apply below_alloc | apply pw_below_drewN | apply below_drew1 | refine below_set ?_ (Aside0.out (by assumption))))) :
    if Region.wanted o (yielded ops a.tmps) = true then Oper.wp P o a W Kc Q else Kc (a.put o.dst undef) W :=
  S_lits_step d (w0 := W) base' e hw hd (fun j k => j = 0 ∧ okp k) hrun hrep.1 (one_at hrep hm) (fun i j k h1 h2 => h1.1.trans h2.1.symm) (fun j k hk => hok k hk.2) hfresh (Below.refl' base' W) hb0 (Nat.le_trans hm (by decide)) (fun v1 w1 hs _ hg hat => h v1 w1 hs (HB.grown hg hbase (fun _ hk => by cases hk)) hg hat)
end
end Kd
end Go.Proofs.YtkgmoajdcibafaaDoorW.PrintWords
end

-- written by a program of this session's (wip/pp)
namespace Go.Proofs.YtkgmoajdcibafaaDoor.P
open Go.RowKit Go.Proofs.YtkgmoajdcibafaaDoorW.PrintWords Go.Proofs.YtkgmoajdcibafaaDoorW.PrintLast Go.Proofs.YtkgmoajdcibafaaDoorW.PrintMore
attribute [local go_sem] max2_int min2_int max_two min_two max_three min_three max_four min_four str_geq str_gtr str_leq   -- for this text's walks alone
set_option linter.unusedVariables false
set_option linter.unusedSimpArgs false

/-! ### impl_Tag_101: function 101 -/
def impl_Tag_101.f (l0 : List (S123)) : Option ((List (S123))) := (some (([] : List (S123)) : List (S123))).bind fun y101 => (if y101.length + l0.length < 4398046511104 then (some (y101 ++ l0)) else (none))
set_option maxHeartbeats 8000000 in
set_option maxRecDepth 100000 in
theorem impl_Tag_101.callsN (A0 : Option Addr) (c0 : Nat) (l0 : List (S123)) (r : List (S123)) (w : World) (hr0 : Kd.C k123 w A0 l0.length l0) (hc0 : l0.length ≤ c0) (hn0 : A0 ≠ none) (h : impl_Tag_101.f l0 = some r) :
 Calls Tryd.prog 101 #[.slice A0 l0.length c0] w fun e w' => ∃ v0_ : Value, e = .returned (v0_) ∧ Kd.R k123 123 w' w.heap.size (fun _ => True) v0_ r ∧ Below w.heap.size w w' := by
 have HR0 := aM hr0
 have HC0 := aM hc0
 clear hr0 hc0
 have HB := aM (Below.refl w.heap.size w)
 have H : ((some (([] : List (S123)) : List (S123))).bind fun y101 => (if y101.length + l0.length < 4398046511104 then (some (y101 ++ l0)) else (none))) = some r := h
 clear h
 have hnil_ : ∀ W_ : World, (Go.binOp .eql 30 (.slice A0 l0.length c0) (.slice none 0 0)).run Tryd.prog W_ = .ok (.bool false) W_ := fun W_ => by have hz_ : A0.isNone = false := (by cases A0 with | none => exact absurd rfl hn0 | some _ => rfl); have hy_ := Go.Lib.run_eql_slice_nil (P := Tryd.prog) W_ 30 123 A0 l0.length c0 0 0 Tryd.underlying30; rw [hz_] at hy_; exact hy_
 obtain ⟨y101, hy101⟩ : ∃ y_ : List (S123), y_ = (([] : List (S123))) := ⟨_, rfl⟩
 first | (replace H := bindS H; rw [← hy101] at H; try dsimp only at H) | rw [← hy101] at H
 have Ny101 := aM hy101
 clear hy101
 obtain ⟨LMc2, H⟩ := sM H
 obtain ⟨y104, hy104⟩ : ∃ y_ : List (S123), y_ = (y101 ++ l0) := ⟨_, rfl⟩
 first | (replace H := bindS H; rw [← hy104] at H; try dsimp only at H) | rw [← hy104] at H
 have Ny104 := aM hy104
 clear hy104
 obtain rfl := Option.some.inj H
 go_enter Tryd.func101, Tryd.ntmps101
 go_wp2_with (first | ((with_reducible refine gate_dst (N := 5) rfl ?_); refine Kd.R_lit k123 _ 123 ?hg (N := 5) ?hd (xs := ([] : List (S123))) (inner := []) (ok := fun _ => True) (okp := fun _ => True) ?hr ?hp (fun _ hk => hk) trivial (Below.refl _ _) (Nat.le_refl _) (by simp) ?_; (case hd => rfl); (case hg => rfl); (case hr => first | (go_simp; done) | (go_simp; rfl)); (case hp => exact (Reps.none _ _)); intro v102 w3 ho4 hb hg_ hnew_; clear hg_ hnew_; (first | rw [← Ny101.out] at ho4 | (simp only [Int.reduceToNat] at ho4; rw [← Ny101.out] at ho4)); have _ := aM (Kd.R_lower ho4 (below_size hbZ)); have _ := aM (below_step hbZ hb); clear HB; rename_i HO103 HB; clear hb ho4) | ((with_reducible refine gate_builtin (b := .append) (xs := #[.tmp 5, .tmp 6]) rfl ?_); at_builtin; refine Kd.R_append_rows k123 (w0 := w) w.heap.size rfl (.tmp 5) (.tmp 6) 30 123 (.agg #[(.string ⟨#[]⟩), (.string ⟨#[]⟩)]) 32 rfl Tryd.underlying30 info123 rfl (by decide) (by omega) v102 y101 l0 _ _ _ (fun _ => True) (fun _ => False) rfl rfl ?aO ?aR (fun _ _ h => h) (fun _ h => h.elim) ?aF ?aB ?aS ?aL ?_; (case aR => repeat (first | exact (Kd.C_below HR0.out HB.out) | (with_reducible refine Kd.C_alloc ?_ _) | (with_reducible refine Kd.C_drewN ?_ _) | (with_reducible refine Kd.C_drew ?_))); (case aB => exact hbZ); (case aF => exact (fun _ _ => trivial)); (case aO => exact (rZ HO103.out)); (case aS => exact (below_size hbZ)); (case aL => have := LMc2.out; omega); intro v105 w5 ho hb hg hat; rw [← Ny104.out] at ho; have _ := aM hb; have _ := aM ho; clear HB HO103; rename_i HB HO106; clear ho hb hg hat))
 go_ret
 exact ⟨_, z674d, rZ HO106.out, z5acd⟩
set_option maxHeartbeats 400000 in
theorem impl_Tag_101.calls (A0 : Option Addr) (c0 : Nat) (l0 : List (S123)) (r : List (S123)) (w : World) (hr0 : Kd.C k123 w A0 l0.length l0) (hc0 : l0.length ≤ c0) (h : impl_Tag_101.f l0 = some r) :
 Calls Tryd.prog 101 #[.slice A0 l0.length c0] w fun e w' => ∃ v0_ : Value, e = .returned (v0_) ∧ Kd.R k123 123 w' w.heap.size (fun _ => True) v0_ r ∧ Below w.heap.size w w' := by
 by_cases hA_ : A0 = none
 · subst hA_
   have hl_ : l0 = [] := by
    rcases Nat.eq_zero_or_pos l0.length with hz | hz
    · exact List.eq_nil_of_length_eq_zero hz
    · obtain ⟨ad, e, _⟩ := hr0.2.2 hz; cases e
   subst hl_
   have hr_ : r = [] := by
    have h2 := h
    simp [impl_Tag_101.f] at h2
    first | exact h2 | exact h2.symm
   subst hr_
   have hnil_ := fun W_ : World => Go.Lib.run_eql_slice_nil (P := Tryd.prog) W_ 30 123 none 0 c0 0 0 Tryd.underlying30
   go_enter Tryd.func101, Tryd.ntmps101
   go_wp2
   go_ret
   exact ⟨_, rfl, Kd.R_nil _ _ _ _ _, Below.refl _ _⟩
 · exact impl_Tag_101.callsN A0 c0 l0 r w hr0 hc0 hA_ h

end Go.Proofs.YtkgmoajdcibafaaDoor.P

-- written by a program of this session's (wip/pp)
namespace Go.Proofs.YtkgmoajdcibafaaDoor.P
open Go.RowKit Go.Proofs.YtkgmoajdcibafaaDoorW.PrintWords Go.Proofs.YtkgmoajdcibafaaDoorW.PrintLast Go.Proofs.YtkgmoajdcibafaaDoorW.PrintMore
attribute [local go_sem] max2_int min2_int max_two min_two max_three min_three max_four min_four str_geq str_gtr str_leq   -- for this text's walks alone
set_option linter.unusedVariables false
set_option linter.unusedSimpArgs false

/-! ### impl_Key_cloned: function 68 -/
def impl_Key_cloned.f (a0_0 : ByteArray) (l0_1 : List (S123)) (a0_2 : Int) : Option (ByteArray × (List (S123)) × Int) := (impl_Tag_101.f l0_1).bind fun t103 => (some (a0_0, t103, a0_2))
set_option maxHeartbeats 8000000 in
set_option maxRecDepth 100000 in
theorem impl_Key_cloned.calls (a0_0 : ByteArray) (A0_1 : Option Addr) (c0_1 : Nat) (l0_1 : List (S123)) (a0_2 : Int) (r1 : ByteArray) (r2 : List (S123)) (r3 : Int) (w : World) (hr0_1 : Kd.C k123 w A0_1 l0_1.length l0_1) (hc0_1 : l0_1.length ≤ c0_1) (h : impl_Key_cloned.f a0_0 l0_1 a0_2 = some (r1, r2, r3)) :
 Calls Tryd.prog 68 #[.agg #[.string a0_0, .slice A0_1 l0_1.length c0_1, .int .i64 a0_2]] w fun e w' => ∃ v1_ : Value, e = .returned (.agg #[.string r1, v1_, .int .i64 r3]) ∧ Kd.R k123 123 w' w.heap.size (fun _ => True) v1_ r2 ∧ Below w.heap.size w w' := by
 have hu32 := Tryd.underlying32
 have HR0_1 := aM hr0_1
 have HC0_1 := aM hc0_1
 clear hr0_1 hc0_1
 have HB := aM (Below.refl w.heap.size w)
 have H : ((impl_Tag_101.f l0_1).bind fun t103 => (some (a0_0, t103, a0_2))) = some (r1, r2, r3) := h
 clear h
 obtain ⟨t103, A2, H⟩ := bS H; try dsimp only at H
 simp only [Option.some.injEq, Prod.mk.injEq] at H
 obtain ⟨rfl, rfl, rfl⟩ := H
 go_enter Tryd.func68, Tryd.ntmps68
 go_wp2_with (first | ((with_reducible refine gate_dst (N := 1) rfl ?_); refine bX 1 32 #[.string a0_0, .slice A0_1 l0_1.length c0_1, .int .i64 a0_2] ?_; intro gb101 hg w3 hbox hb; have _ := aM (below_step hbZ hb); have _ := aM hbox; have _ := szZ hg; have _ := szZ hg; clear HB; rename_i HB BK101 GW101 GE101; clear hb hbox hg) | ((with_reducible refine gate_dst (N := 2) rfl ?_); refine bX 2 32 #[.string (⟨#[]⟩ : ByteArray), .slice none 0 0, .int .i64 0] ?_; intro gb102 hg w4 hbox hb; have _ := bB gb101 hb; have _ := aM (below_step hbZ hb); have _ := aM hbox; have _ := szZ hg; have _ := szZ hg; have ⟨_, _⟩ := nbB gb101 hg; clear BK101 HB; rename_i BK101 HB BK102 GW102 GE102 NB101_102 NB102_101; clear hb hbox hg; have hnb5 := NB101_102.out; have hnc5 := NB102_101.out; have hz6 := cellsZ3 BK101.out) | ((with_reducible refine gate_callee (f := 101) rfl ?_); refine gL 5 Tryd.func101 #[.slice A0_1 l0_1.length c0_1] ?_; (with_reducible refine (impl_Tag_101.calls _ _ l0_1 t103 _ ?side1 ?side2 A2.out).mono ?_); (case side1 => exact (cZ (Kd.C_below HR0_1.out HB.out))); (case side2 => exact HC0_1.out); rintro e w7 ⟨v104, rfl, ho0, hb⟩; refine ⟨_, rfl, ?_⟩; have _ := aM (Kd.R_lower ho0 (below_size hbZ)); have _ := bB gb101 hb; have _ := bB gb102 hb; have _ := aM (below_step hbZ hb); clear BK101 BK102 HB; rename_i HO105 BK101 BK102 HB; (try clear hb); (try clear ho0); obtain ⟨Ao8, co8, eo8⟩ := Kd.R_slice HO105.out; subst eo8; have hz9 := cellsZ3 BK101.out; have hz10 := cellsZ3 BK102.out))
 refine bodyPost_ret (results_cell_row rfl _ _ gb102 32 #[.string a0_0, .slice Ao8 t103.length co8, .int .i64 a0_2] (0, 0) _ rfl bkZ Tryd.underlying32 rfl (by kernel_rfl)) rfl ?_
 exact ⟨_, z674d, by (with_reducible repeat (first | apply Kd.R_alloc | apply Kd.R_drewN | apply Kd.R_drew)); exact Kd.R_mono (Kd.R_far (p := ⟨gb102, 2, none⟩) (Kd.R_far (p := ⟨gb102, 1, none⟩) (Kd.R_far (p := ⟨gb102, 0, none⟩) (Kd.R_far (p := ⟨gb101, 1, none⟩) (Kd.R_types (Kd.R_types HO105.out BK101.out (by decide)) BK102.out (by decide)) (fun _ hk => hk.1.2) (.slice Ao8 t103.length co8)) (fun _ hk => hk.2) (.string a0_0)) (fun _ hk => hk.2) (.slice Ao8 t103.length co8)) (fun _ hk => hk.2) (.int .i64 a0_2)) (fun _ hk => trivial), zcb41⟩

end Go.Proofs.YtkgmoajdcibafaaDoor.P

-- written by a program of this session's (wip/pp)
namespace Go.Proofs.YtkgmoajdcibafaaDoor.P
open Go.RowKit Go.Proofs.YtkgmoajdcibafaaDoorW.PrintWords Go.Proofs.YtkgmoajdcibafaaDoorW.PrintLast Go.Proofs.YtkgmoajdcibafaaDoorW.PrintMore
attribute [local go_sem] max2_int min2_int max_two min_two max_three min_three max_four min_four str_geq str_gtr str_leq   -- for this text's walks alone
set_option linter.unusedVariables false
set_option linter.unusedSimpArgs false

/-! ### slices_Clone_int_int: function 69 -/
def slices_Clone_int_int.f (l0 : List Int) : Option (List Int) := (some (([] : List Int) : List Int)).bind fun y101 => (if y101.length + l0.length < 17592186044416 then (some (y101 ++ l0)) else (none))
set_option maxHeartbeats 8000000 in
set_option maxRecDepth 100000 in
theorem slices_Clone_int_int.callsN (A0 : Option Addr) (c0 : Nat) (l0 : List Int) (r : List Int) (w : World) (hr0 : Kd.C (Kd.int .i64) w A0 l0.length l0) (hc0 : l0.length ≤ c0) (hn0 : A0 ≠ none) (h : slices_Clone_int_int.f l0 = some r) :
 Calls Tryd.prog 69 #[.slice A0 l0.length c0] w fun e w' => ∃ v0_ : Value, e = .returned (v0_) ∧ Kd.R (Kd.int .i64) 3 w' w.heap.size (fun _ => True) v0_ r ∧ Below w.heap.size w w' := by
 have HR0 := aM hr0
 have HC0 := aM hc0
 clear hr0 hc0
 have HB := aM (Below.refl w.heap.size w)
 have H : ((some (([] : List Int) : List Int)).bind fun y101 => (if y101.length + l0.length < 17592186044416 then (some (y101 ++ l0)) else (none))) = some r := h
 clear h
 have hnil_ : ∀ W_ : World, (Go.binOp .eql 33 (.slice A0 l0.length c0) (.slice none 0 0)).run Tryd.prog W_ = .ok (.bool false) W_ := fun W_ => by have hz_ : A0.isNone = false := (by cases A0 with | none => exact absurd rfl hn0 | some _ => rfl); have hy_ := Go.Lib.run_eql_slice_nil (P := Tryd.prog) W_ 33 3 A0 l0.length c0 0 0 Tryd.underlying33; rw [hz_] at hy_; exact hy_
 obtain ⟨y101, hy101⟩ : ∃ y_ : List Int, y_ = (([] : List Int)) := ⟨_, rfl⟩
 first | (replace H := bindS H; rw [← hy101] at H; try dsimp only at H) | rw [← hy101] at H
 have Ny101 := aM hy101
 clear hy101
 obtain ⟨LMc2, H⟩ := sM H
 obtain ⟨y104, hy104⟩ : ∃ y_ : List Int, y_ = (y101 ++ l0) := ⟨_, rfl⟩
 first | (replace H := bindS H; rw [← hy104] at H; try dsimp only at H) | rw [← hy104] at H
 have Ny104 := aM hy104
 clear hy104
 obtain rfl := Option.some.inj H
 go_enter Tryd.func69, Tryd.ntmps69
 go_wp2_with (first | ((with_reducible refine gate_dst (N := 5) rfl ?_); refine Kd.R_lit (Kd.int .i64) _ 3 ?hg (N := 5) ?hd (xs := ([] : List Int)) (inner := []) (ok := fun _ => True) (okp := fun _ => True) ?hr ?hp (fun _ hk => hk) trivial (Below.refl _ _) (Nat.le_refl _) (by simp) ?_; (case hd => rfl); (case hg => rfl); (case hr => first | (go_simp; done) | (go_simp; rfl)); (case hp => exact (Reps.none _ _)); intro v102 w3 ho4 hb hg_ hnew_; clear hg_ hnew_; (first | rw [← Ny101.out] at ho4 | (simp only [Int.reduceToNat] at ho4; rw [← Ny101.out] at ho4)); have _ := aM (Kd.R_lower ho4 (below_size hbZ)); have _ := aM (below_step hbZ hb); clear HB; rename_i HO103 HB; clear hb ho4) | ((with_reducible refine gate_builtin (b := .append) (xs := #[.tmp 5, .tmp 6]) rfl ?_); at_builtin; refine Kd.R_append_rows (Kd.int .i64) (w0 := w) w.heap.size rfl (.tmp 5) (.tmp 6) 33 3 (.int .i64 0) 8 rfl Tryd.underlying33 info3 rfl (by decide) (by omega) v102 y101 l0 _ _ _ (fun _ => True) (fun _ => False) rfl rfl ?aO ?aR (fun _ _ h => h) (fun _ h => h.elim) ?aF ?aB ?aS ?aL ?_; (case aR => repeat (first | exact (Kd.C_below HR0.out HB.out) | (with_reducible refine Kd.C_alloc ?_ _) | (with_reducible refine Kd.C_drewN ?_ _) | (with_reducible refine Kd.C_drew ?_))); (case aB => exact hbZ); (case aF => exact (fun _ _ => trivial)); (case aO => exact (rZ HO103.out)); (case aS => exact (below_size hbZ)); (case aL => have := LMc2.out; omega); intro v105 w5 ho hb hg hat; rw [← Ny104.out] at ho; have _ := aM hb; have _ := aM ho; clear HB HO103; rename_i HB HO106; clear ho hb hg hat))
 go_ret
 exact ⟨_, z674d, rZ HO106.out, z5acd⟩
set_option maxHeartbeats 400000 in
theorem slices_Clone_int_int.calls (A0 : Option Addr) (c0 : Nat) (l0 : List Int) (r : List Int) (w : World) (hr0 : Kd.C (Kd.int .i64) w A0 l0.length l0) (hc0 : l0.length ≤ c0) (h : slices_Clone_int_int.f l0 = some r) :
 Calls Tryd.prog 69 #[.slice A0 l0.length c0] w fun e w' => ∃ v0_ : Value, e = .returned (v0_) ∧ Kd.R (Kd.int .i64) 3 w' w.heap.size (fun _ => True) v0_ r ∧ Below w.heap.size w w' := by
 by_cases hA_ : A0 = none
 · subst hA_
   have hl_ : l0 = [] := by
    rcases Nat.eq_zero_or_pos l0.length with hz | hz
    · exact List.eq_nil_of_length_eq_zero hz
    · obtain ⟨ad, e, _⟩ := hr0.2.2 hz; cases e
   subst hl_
   have hr_ : r = [] := by
    have h2 := h
    simp [slices_Clone_int_int.f] at h2
    first | exact h2 | exact h2.symm
   subst hr_
   have hnil_ := fun W_ : World => Go.Lib.run_eql_slice_nil (P := Tryd.prog) W_ 33 3 none 0 c0 0 0 Tryd.underlying33
   go_enter Tryd.func69, Tryd.ntmps69
   go_wp2
   go_ret
   exact ⟨_, rfl, Kd.R_nil _ _ _ _ _, Below.refl _ _⟩
 · exact slices_Clone_int_int.callsN A0 c0 l0 r w hr0 hc0 hA_ h

end Go.Proofs.YtkgmoajdcibafaaDoor.P

-- written by a program of this session's (wip/pp)
namespace Go.Proofs.YtkgmoajdcibafaaDoor.P
open Go.RowKit Go.Proofs.YtkgmoajdcibafaaDoorW.PrintWords Go.Proofs.YtkgmoajdcibafaaDoorW.PrintLast Go.Proofs.YtkgmoajdcibafaaDoorW.PrintMore
attribute [local go_sem] max2_int min2_int max_two min_two max_three min_three max_four min_four str_geq str_gtr str_leq   -- for this text's walks alone
set_option linter.unusedVariables false
set_option linter.unusedSimpArgs false

/-! ### impl_within: function 90 -/
def impl_within.f (a0 : Int) (a1 : Int) (a2 : Int) : Option (Bool) := if a0 ≥ a1 then (some (decide (a0 ≤ a2))) else (some false)
set_option maxHeartbeats 8000000 in
set_option maxRecDepth 100000 in
theorem impl_within.calls (a0 : Int) (a1 : Int) (a2 : Int) (r : Bool) (w : World) (h : impl_within.f a0 a1 a2 = some r) :
 Calls Tryd.prog 90 #[.int .i64 a0, .int .i64 a1, .int .i64 a2] w fun e w' => e = .returned (.bool r) ∧ Drawn0 w w' := by
 have H : (if a0 ≥ a1 then (some (decide (a0 ≤ a2))) else (some false)) = some r := h
 clear h
 by_cases c4 : a0 ≥ a1
 · rw [if_pos c4] at H
   have c4b0 := dE c4
   clear c4
   obtain rfl := Option.some.inj H
   go_enter Tryd.func90, Tryd.ntmps90
   go_wp2
   go_ret
   exact ⟨z4458, za9de⟩
 · rw [if_neg c4] at H
   have c4b0 := nE c4
   clear c4
   obtain rfl := Option.some.inj H
   go_enter Tryd.func90, Tryd.ntmps90
   go_wp2
   go_ret
   exact ⟨z4458, za9de⟩

end Go.Proofs.YtkgmoajdcibafaaDoor.P

/-
  DERIVED: THE SHELF's CONTRACTS AT THIS DUMP, IN PLAIN WORDS (tools/lay-plain.mjs out of 'TrydShelf.lean', which tools/lay-shelf.mjs wrote): THE SAME DECLARATIONS UNDER THE SAME NAMES: 'import', 'namespace', 'open', 'def', 'theorem' AND NOTHING ELSE: no command of the shelf's: FOR A HAND-IN. Each laying: the table of numbers ('.._ren') and one theorem, a field a fact of the dump's own or the kernel's comparison; each contract: ONE APPLICATION.
-/
namespace Go.Proofs
open Go.Shelf
def Tryd.lays160_ren : Go.Shelf.Ren := ⟨fun | 160 => 112 | 232 => 119 | 231 => 118 | 227 => 120 | 234 => 122 | 233 => 121 | 236 => 124 | 235 => 123 | 228 => 126 | 271 => 129 | 151 => 128 | 197 => 127 | 120 => 132 | 152 => 131 | 260 => 130 | 137 => 133 | 119 => 134 | 224 => 135 | 225 => 136 | 217 => 137 | 266 => 138 | n => n, fun | 9 => 9 | 4 => 4 | 3 => 3 | 5 => 5 | 117 => 147 | 116 => 146 | 0 => 0 | 124 => 150 | 21 => 21 | 105 => 153 | 46 => 135 | 119 => 157 | 139 => 160 | 138 => 159 | n => n, fun | 3 => 0 | 4 => 1 | n => n⟩
theorem Tryd.lays160 : Go.Proofs.Lays.n160 Tryd.prog Tryd.lays160_ren := {
  mixed := by kernel_rfl
  f119 := Tryd.func134.trans (congrArg some (by kernel_rfl))
  f120 := Tryd.func132.trans (congrArg some (by kernel_rfl))
  f137 := Tryd.func133.trans (congrArg some (by kernel_rfl))
  f151 := Tryd.func128.trans (congrArg some (by kernel_rfl))
  f152 := Tryd.func131.trans (congrArg some (by kernel_rfl))
  f160 := Tryd.func112.trans (congrArg some (by kernel_rfl))
  f197 := Tryd.func127.trans (congrArg some (by kernel_rfl))
  f217 := Tryd.func137.trans (congrArg some (by kernel_rfl))
  f224 := Tryd.func135.trans (congrArg some (by kernel_rfl))
  f225 := Tryd.func136.trans (congrArg some (by kernel_rfl))
  f227 := Tryd.func120.trans (congrArg some (by kernel_rfl))
  f228 := Tryd.func126.trans (congrArg some (by kernel_rfl))
  f231 := Tryd.func118.trans (congrArg some (by kernel_rfl))
  f232 := Tryd.func119.trans (congrArg some (by kernel_rfl))
  f233 := Tryd.func121.trans (congrArg some (by kernel_rfl))
  f234 := Tryd.func122.trans (congrArg some (by kernel_rfl))
  f235 := Tryd.func123.trans (congrArg some (by kernel_rfl))
  f236 := Tryd.func124.trans (congrArg some (by kernel_rfl))
  f260 := Tryd.func130.trans (congrArg some (by kernel_rfl))
  f266 := Tryd.func138.trans (congrArg some (by kernel_rfl))
  f271 := Tryd.func129.trans (congrArg some (by kernel_rfl))
  t0 := Tryd.underlying0
  a0 := Tryd.isAgg0
  z0 := Tryd.sizeOf0
  v0 := Tryd.zeroValue0
  t3 := Tryd.underlying3
  a3 := Tryd.isAgg3
  z3 := Tryd.sizeOf3
  v3 := Tryd.zeroValue3
  t4 := Tryd.underlying4
  a4 := Tryd.isAgg4
  z4 := Tryd.sizeOf4
  v4 := Tryd.zeroValue4
  t5 := Tryd.underlying5
  a5 := Tryd.isAgg5
  z5 := Tryd.sizeOf5
  v5 := Tryd.zeroValue5
  t9 := Tryd.underlying9
  a9 := Tryd.isAgg9
  z9 := Tryd.sizeOf9
  v9 := Tryd.zeroValue9
  t21 := Tryd.underlying21
  a21 := Tryd.isAgg21
  z21 := Tryd.sizeOf21
  v21 := Tryd.zeroValue21
  t46 := Tryd.underlying135
  a46 := Tryd.isAgg135
  z46 := Tryd.sizeOf135
  v46 := Tryd.zeroValue135
  t105 := Tryd.underlying153
  a105 := Tryd.isAgg153
  z105 := Tryd.sizeOf153
  v105 := Tryd.zeroValue153
  t116 := Tryd.underlying146
  a116 := Tryd.isAgg146
  z116 := Tryd.sizeOf146
  t117 := Tryd.underlying147
  a117 := Tryd.isAgg147
  z117 := Tryd.sizeOf147
  v117 := Tryd.zeroValue147
  t119 := Tryd.underlying157
  a119 := Tryd.isAgg157
  z119 := Tryd.sizeOf157
  t124 := Tryd.underlying150
  a124 := Tryd.isAgg150
  z124 := Tryd.sizeOf150
  v124 := Tryd.zeroValue150
  t138 := Tryd.underlying159
  a138 := Tryd.isAgg159
  z138 := Tryd.sizeOf159
  v138 := Tryd.zeroValue159
  t139 := Tryd.underlying160
  a139 := Tryd.isAgg160
  z139 := Tryd.sizeOf160
  v139 := Tryd.zeroValue160
  g3 := by kernel_rfl
  g4 := by kernel_rfl }
open Go.RowKit Go.Lib in
theorem Tryd.strings_Trim (s cutset : ByteArray) (w : World) (hs : s.size ≤ 9223372036854775807) (hcs : cutset.size < 4294967281) (hascii : ∀ (j : Nat) b, cutset.data.toList[j]? = some b → b.toNat < 128) :
    Calls Tryd.prog 112 #[.string s, .string cutset] w fun e w' => e = .returned (.string ⟨(Lib.trimS s.data.toList cutset.data.toList).toArray⟩) ∧ Below w.heap.size w w' := Any.strings_Trim_laid Tryd.lays160 (by kernel_rfl) s cutset w hs hcs hascii
end Go.Proofs

-- written by a program of this session's (wip/pp)
namespace Go.Proofs.YtkgmoajdcibafaaDoor.P
open Go.RowKit Go.Proofs.YtkgmoajdcibafaaDoorW.PrintWords Go.Proofs.YtkgmoajdcibafaaDoorW.PrintLast Go.Proofs.YtkgmoajdcibafaaDoorW.PrintMore
attribute [local go_sem] max2_int min2_int max_two min_two max_three min_three max_four min_four str_geq str_gtr str_leq   -- for this text's walks alone
set_option linter.unusedVariables false
set_option linter.unusedSimpArgs false

/-! ### strings_Trim: function 112 -/
def strings_Trim.f (a0 a1 : ByteArray) : Option ByteArray := if a0.size ≤ 9223372036854775807 ∧ a1.size < 4294967281 ∧ (a1.data.toList.all fun b => decide (b.toNat < 128)) = true then some ⟨(Go.Lib.trimS a0.data.toList a1.data.toList).toArray⟩ else none
theorem strings_Trim.calls (a0 a1 : ByteArray) (r : ByteArray) (w : World) (h : strings_Trim.f a0 a1 = some r) :
 Calls Tryd.prog 112 #[.string a0, .string a1] w fun e w' => e = .returned (.string r) ∧ Below w.heap.size w w' := by
 unfold strings_Trim.f at h
 split at h
 · rename_i hb
   injection h with h
   subst h
   refine (Tryd.strings_Trim a0 a1 w hb.1 hb.2.1 (fun j b hj => ?_)).mono ?_
   · exact of_decide_eq_true (List.all_eq_true.1 hb.2.2 b (List.mem_of_getElem? hj))
   · rintro e w' ⟨rfl, hB⟩
     exact ⟨rfl, hB⟩
 · cases h

end Go.Proofs.YtkgmoajdcibafaaDoor.P

-- written by a program of this session's (wip/pp)
namespace Go.Proofs.YtkgmoajdcibafaaDoor.P
open Go.RowKit Go.Proofs.YtkgmoajdcibafaaDoorW.PrintWords Go.Proofs.YtkgmoajdcibafaaDoorW.PrintLast Go.Proofs.YtkgmoajdcibafaaDoorW.PrintMore
attribute [local go_sem] max2_int min2_int max_two min_two max_three min_three max_four min_four str_geq str_gtr str_leq   -- for this text's walks alone
set_option linter.unusedVariables false
set_option linter.unusedSimpArgs false

/-! ### impl_isName: function 92 -/
def impl_isName.f (a0 : ByteArray) : Option (Bool) := (impl_within.f (a0.size : Int) 1 12).bind fun t101 => (if t101 = true then ((strings_Trim.f a0 (⟨#[97, 98, 99, 100, 101, 102, 103, 104, 105, 106, 107, 108, 109, 110, 111, 112, 113, 114, 115, 116, 117, 118, 119, 120, 121, 122, 65, 66, 67, 68, 69, 70, 71, 72, 73, 74, 75, 76, 77, 78, 79, 80, 81, 82, 83, 84, 85, 86, 87, 88, 89, 90]⟩ : ByteArray)).bind fun t102 => (some (t102.toList == ([] : List UInt8)))) else (some false))
set_option maxHeartbeats 8000000 in
set_option maxRecDepth 100000 in
theorem impl_isName.calls (a0 : ByteArray) (r : Bool) (w : World) (h : impl_isName.f a0 = some r) :
 Calls Tryd.prog 92 #[.string a0] w fun e w' => e = .returned (.bool r) ∧ Below w.heap.size w w' := by
 have HB := aM (Below.refl w.heap.size w)
 have H : ((impl_within.f (a0.size : Int) 1 12).bind fun t101 => (if t101 = true then ((strings_Trim.f a0 (⟨#[97, 98, 99, 100, 101, 102, 103, 104, 105, 106, 107, 108, 109, 110, 111, 112, 113, 114, 115, 116, 117, 118, 119, 120, 121, 122, 65, 66, 67, 68, 69, 70, 71, 72, 73, 74, 75, 76, 77, 78, 79, 80, 81, 82, 83, 84, 85, 86, 87, 88, 89, 90]⟩ : ByteArray)).bind fun t102 => (some (t102.toList == ([] : List UInt8)))) else (some false))) = some r := h
 clear h
 obtain ⟨t101, A2, H⟩ := bS H; try dsimp only at H
 by_cases c3 : t101 = true
 · subst c3
   rw [if_pos rfl] at H
   obtain ⟨t102, A4, H⟩ := bS H; try dsimp only at H
   obtain rfl := Option.some.inj H
   go_enter Tryd.func92, Tryd.ntmps92
   go_wp2_with (first | ((with_reducible refine gate_callee (f := 90) rfl ?_); refine gL 5 Tryd.func90 #[.int .i64 (a0.size : Int), .int .i64 1, .int .i64 12] ?_; (with_reducible refine (impl_within.calls (a0.size : Int) 1 12 true _ A2.out).mono ?_); rintro e w' ⟨rfl, ⟨nd, rfl⟩⟩; refine ⟨_, rfl, ?_⟩) | (go_at_call 112; (with_reducible refine (strings_Trim.calls a0 (⟨#[97, 98, 99, 100, 101, 102, 103, 104, 105, 106, 107, 108, 109, 110, 111, 112, 113, 114, 115, 116, 117, 118, 119, 120, 121, 122, 65, 66, 67, 68, 69, 70, 71, 72, 73, 74, 75, 76, 77, 78, 79, 80, 81, 82, 83, 84, 85, 86, 87, 88, 89, 90]⟩ : ByteArray) t102 _ A4.out).mono ?_); rintro e w5 ⟨rfl, hb⟩; have _ := aM (below_step hbZ hb); clear HB; rename_i HB; (try clear hb)))
   go_ret
   exact ⟨z674d, z5acd⟩
 · replace c3 := Bool.eq_false_iff.mpr c3
   subst c3
   rw [if_neg (show ¬ (false = true) by decide)] at H
   obtain rfl := Option.some.inj H
   go_enter Tryd.func92, Tryd.ntmps92
   go_wp2_with (first | ((with_reducible refine gate_callee (f := 90) rfl ?_); refine gL 5 Tryd.func90 #[.int .i64 (a0.size : Int), .int .i64 1, .int .i64 12] ?_; (with_reducible refine (impl_within.calls (a0.size : Int) 1 12 false _ A2.out).mono ?_); rintro e w' ⟨rfl, ⟨nd, rfl⟩⟩; refine ⟨_, rfl, ?_⟩))
   go_ret
   exact ⟨z674d, z5acd⟩

end Go.Proofs.YtkgmoajdcibafaaDoor.P

-- written by a program of this session's (wip/pp)
namespace Go.Proofs.YtkgmoajdcibafaaDoor.P
open Go.RowKit Go.Proofs.YtkgmoajdcibafaaDoorW.PrintWords Go.Proofs.YtkgmoajdcibafaaDoorW.PrintLast Go.Proofs.YtkgmoajdcibafaaDoorW.PrintMore
attribute [local go_sem] max2_int min2_int max_two min_two max_three min_three max_four min_four str_geq str_gtr str_leq   -- for this text's walks alone
set_option linter.unusedVariables false
set_option linter.unusedSimpArgs false

/-! ### impl_GoodKey: function 47 -/
mutual
def impl_GoodKey.j0 : Nat → Bool → ByteArray → List (S123) → Int → Option (Bool)
 | 0, _, _, _, _ => none
 | k + 1, x20, x102000, x102001, x102002 => if x20 = true then (some false) else (impl_GoodKey.l0 k x102001 (x102001.length : Int) 0 x102000 x102001 x102002)
def impl_GoodKey.l0 : Nat → List (S123) → Int → Int → ByteArray → List (S123) → Int → Option (Bool)
 | 0, _, _, _, _, _, _ => none
 | k + 1, x22, x23, x24, x102000, x102001, x102002 => if x24 < x23 then (if 0 ≤ x24 then (if x24 < (x22.length : Int) then ((impl_isName.f ((rd_T123 x22 x24).f0)).bind fun t106 => (if t106 = true then ((impl_isName.f ((rd_T123 x22 x24).f1)).bind fun t107 => (if t107 = true then (if x24 > 0 then (if 0 ≤ (wrap64 (x24 - 1)) then (if (wrap64 (x24 - 1)) < (x102001.length : Int) then (if ((Op.bytesLess (((rd_T123 x102001 (wrap64 (x24 - 1))).f0).toList) (((rd_T123 x22 x24).f0).toList)) = true) then (impl_GoodKey.l0 k x22 x23 (wrap64 (x24 + 1)) x102000 x102001 x102002) else (some false)) else (none)) else (none)) else (impl_GoodKey.l0 k x22 x23 (wrap64 (x24 + 1)) x102000 x102001 x102002)) else (some false))) else (some false))) else (none)) else (none)) else (some true)
end
def impl_GoodKey.f (k : Nat) (a0_0 : ByteArray) (l0_1 : List (S123)) (a0_2 : Int) : Option (Bool) := (impl_isName.f a0_0).bind fun t102 => (if t102 = true then (if (l0_1.length : Int) > 4 then (impl_GoodKey.j0 k true a0_0 l0_1 a0_2) else ((impl_within.f a0_2 0 1000000000).bind fun t103 => (impl_GoodKey.j0 k (!t103) a0_0 l0_1 a0_2))) else (impl_GoodKey.j0 k true a0_0 l0_1 a0_2))
theorem impl_GoodKey.mono_l : ∀ k, (∀ y0 y1 y2 y3, LeO (impl_GoodKey.j0 k y0 y1 y2 y3) (impl_GoodKey.j0 (k + 1) y0 y1 y2 y3)) ∧ (∀ y0 y1 y2 y3 y4 y5, LeO (impl_GoodKey.l0 k y0 y1 y2 y3 y4 y5) (impl_GoodKey.l0 (k + 1) y0 y1 y2 y3 y4 y5))
 | 0 => ⟨fun _ _ _ _ r h => by simp [impl_GoodKey.j0] at h, fun _ _ _ _ _ _ r h => by simp [impl_GoodKey.l0] at h⟩
 | k + 1 => by
  obtain ⟨ih0, ih1⟩ := impl_GoodKey.mono_l k
  refine ⟨?_, ?_⟩
  · intro y0 y1 y2 y3
    unfold impl_GoodKey.j0
    exact moZ
  · intro y0 y1 y2 y3 y4 y5
    unfold impl_GoodKey.l0
    exact moZ
theorem impl_GoodKey.mono : ∀ a0 a1 a2 k, LeO (impl_GoodKey.f k a0 a1 a2) (impl_GoodKey.f (k + 1) a0 a1 a2) := by
 intro a0 a1 a2 k
 obtain ⟨ih0, ih1⟩ := impl_GoodKey.mono_l k
 unfold impl_GoodKey.f
 exact moZ
def impl_GoodKey.T6 : Bool × List (List Nat × List Nat) := (true, [([], []), ([0], [0]), ([1], [1]), ([2], [2]), ([3, 2], [3]), ([4], [4]), ([5, 4], [4, 5]), ([6, 4, 4], [4, 6]), ([7, 4], [4, 7]), ([4, 8], [4, 8]), ([9, 7], [9]), ([10], [10]), ([11, 10], [10, 11]), ([12, 10, 10], [10, 12]), ([13], [13]), ([14, 13], [13, 14]), ([13], [13]), ([16, 13], [13, 16]), ([15, 17, 13], [13, 15, 17]), ([18, 13], [13, 18]), ([19, 13], [13, 19]), ([13], [13]), ([21, 13], [13, 21]), ([20, 22, 13], [13, 20, 22]), ([13, 23, 10], [10, 13, 23]), ([10, 24], [10, 24])])
def impl_GoodKey.B6 : List Nat := [0, 1, 3, 7, 15, 31, 63, 127, 255, 511, 1023, 2047, 4095, 8191, 16383, 32767, 16383, 81919, 262143, 524287, 1048575, 16383, 2113535, 8388607, 16777215, 33554431]
theorem impl_GoodKey.tab6 : rtab .any (opsOf Tryd.f47 6) = impl_GoodKey.T6 := by kernel_rfl
theorem impl_GoodKey.bits6 : waitsOk impl_GoodKey.T6.2 impl_GoodKey.B6 = true := by kernel_rfl
set_option maxHeartbeats 8000000 in
set_option maxRecDepth 100000 in
theorem impl_GoodKey.calls (k : Nat) (a0_0 : ByteArray) (A0_1 : Option Addr) (c0_1 : Nat) (l0_1 : List (S123)) (a0_2 : Int) (r : Bool) (w : World) (hr0_1 : Kd.C k123 w A0_1 l0_1.length l0_1) (hc0_1 : l0_1.length ≤ c0_1) (h : impl_GoodKey.f k a0_0 l0_1 a0_2 = some r) :
 Calls Tryd.prog 47 #[.agg #[.string a0_0, .slice A0_1 l0_1.length c0_1, .int .i64 a0_2]] w fun e w' => e = .returned (.bool r) ∧ Below w.heap.size w w' := by
 have hu32 := Tryd.underlying32
 have hu123 := Tryd.underlying123
 have HR0_1 := aM hr0_1
 have HC0_1 := aM hc0_1
 clear hr0_1 hc0_1
 have HB := aM (Below.refl w.heap.size w)
 have H : ((impl_isName.f a0_0).bind fun t102 => (if t102 = true then (if (l0_1.length : Int) > 4 then (impl_GoodKey.j0 k true a0_0 l0_1 a0_2) else ((impl_within.f a0_2 0 1000000000).bind fun t103 => (impl_GoodKey.j0 k (!t103) a0_0 l0_1 a0_2))) else (impl_GoodKey.j0 k true a0_0 l0_1 a0_2))) = some r := h
 clear h
 have HC2 := aM H
 clear H
 go_enter Tryd.func47, Tryd.ntmps47
 go_upto_region 1 with (first | ((with_reducible refine gate_dst (N := 1) rfl ?_); (try (refine gate_guard (by rfl) ?_; dsimp only)); refine bX 1 32 #[.string a0_0, .slice A0_1 l0_1.length c0_1, .int .i64 a0_2] ?_; intro gb101 hg w3 hbox hb; have _ := aM (below_step hbZ hb); have _ := aM hbox; have _ := szZ hg; have _ := szZ hg; clear HB; rename_i HB BK101 GW101 GE101; clear hb hbox hg))
 (try simp only [Act.put, List.setIfInBounds_toArray, List.set_cons_zero, List.set_cons_succ])
 go_cut [20] (fun v20 wc => ∃ (kq : Nat) (x20_1 : Bool), v20 = .bool x20_1 ∧ Aside0 (impl_GoodKey.j0 kq x20_1 a0_0 l0_1 a0_2 = some r) ∧ Aside0 (kq ≤ k) ∧ Aside0 (wc.heap[gb101]? = some (.cells #[.string a0_0, (.slice A0_1 l0_1.length c0_1), .int .i64 a0_2] 32 (0, 0))) ∧ Aside0 (Below w.heap.size w wc))
 case first =>
  have H := HC2.out
  clear HC2
  obtain ⟨t102, A4, H⟩ := bS H; try dsimp only at H
  by_cases c5 : t102 = true
  · subst c5
    rw [if_pos rfl] at H
    by_cases c6 : (l0_1.length : Int) > 4
    · rw [if_pos c6] at H
      have c6b0 : decide (4 < (l0_1.length : Int)) = true := decide_eq_true c6
      have c6b1 : decide (4 < l0_1.length) = true := decide_eq_true (by omega)
      clear c6
      (first | rw [c6b0] | (simp only [i64_w, i32_w]; rw [c6b0]) | skip)
      have H' := aM H
      clear H
      have hz7 := cellsZ3 BK101.out
      go_wp2_with (first | ((with_reducible refine gate_callee (f := 92) rfl ?_); refine gL 7 Tryd.func92 #[.string a0_0] ?_; (with_reducible refine (impl_isName.calls a0_0 true _ A4.out).mono ?_); rintro e w8 ⟨rfl, hb⟩; refine ⟨_, rfl, ?_⟩; have _ := bB gb101 hb; have _ := aM (below_step hbZ hb); clear BK101 HB; rename_i BK101 HB; (try clear hb); have hz9 := cellsZ3 BK101.out))
      go_meet
      case rel => exact ⟨_, (true), z4458, H', ⟨zb79b⟩, ⟨bkZ⟩, ⟨zcb41⟩⟩
    · rw [if_neg c6] at H
      have c6b0 : decide (4 < (l0_1.length : Int)) = false := decide_eq_false c6
      have c6b1 : decide (4 < l0_1.length) = false := decide_eq_false (by omega)
      clear c6
      (first | rw [c6b0] | (simp only [i64_w, i32_w]; rw [c6b0]) | skip)
      obtain ⟨t103, A10, H⟩ := bS H; try dsimp only at H
      have H' := aM H
      clear H
      have hz11 := cellsZ3 BK101.out
      go_wp2_with (first | ((with_reducible refine gate_callee (f := 92) rfl ?_); refine gL 7 Tryd.func92 #[.string a0_0] ?_; (with_reducible refine (impl_isName.calls a0_0 true _ A4.out).mono ?_); rintro e w12 ⟨rfl, hb⟩; refine ⟨_, rfl, ?_⟩; have _ := bB gb101 hb; have _ := aM (below_step hbZ hb); clear BK101 HB; rename_i BK101 HB; (try clear hb); have hz13 := cellsZ3 BK101.out) | (go_at_call 90; (with_reducible refine (impl_within.calls a0_2 0 1000000000 t103 _ A10.out).mono ?_); rintro e w' ⟨rfl, ⟨nd, rfl⟩⟩))
      go_meet
      case rel => exact ⟨_, (!t103), z4458, H', ⟨zb79b⟩, ⟨bkZ⟩, ⟨zcb41⟩⟩
  · replace c5 := Bool.eq_false_iff.mpr c5
    subst c5
    rw [if_neg (show ¬ (false = true) by decide)] at H
    have H' := aM H
    clear H
    have hz14 := cellsZ3 BK101.out
    go_wp2_with (first | ((with_reducible refine gate_callee (f := 92) rfl ?_); refine gL 7 Tryd.func92 #[.string a0_0] ?_; (with_reducible refine (impl_isName.calls a0_0 false _ A4.out).mono ?_); rintro e w15 ⟨rfl, hb⟩; refine ⟨_, rfl, ?_⟩; have _ := bB gb101 hb; have _ := aM (below_step hbZ hb); clear BK101 HB; rename_i BK101 HB; (try clear hb)))
    go_meet
    case rel => exact ⟨_, (true), z4458, H', ⟨zb79b⟩, ⟨bkZ⟩, ⟨zcb41⟩⟩
 case rest =>
  clear HC2
  obtain ⟨kq, x20_1, rfl, HA, HJ1, BK101, HB⟩ := hcut
  cases kq with
  | zero => exact absurd HA.out (by simp [impl_GoodKey.j0])
  | succ kj1 =>
   have H := HA.out
   clear HA
   simp only [impl_GoodKey.j0] at H
   by_cases c16 : x20_1 = true
   · subst c16
     rw [if_pos rfl] at H
     obtain rfl := Option.some.inj H
     go_wp2
     go_ret
     exact ⟨z674d, zcb41⟩
   · replace c16 := Bool.eq_false_iff.mpr c16
     subst c16
     rw [if_neg (show ¬ (false = true) by decide)] at H
     have H' := aM H
     clear H
     have hz17 := cellsZ3 BK101.out
     go_wp2
     go_loopg [24] kj1 (fun kq v24 w' => ∃ (x24_2 : Int), v24 = .int .i64 x24_2 ∧ Aside0 (impl_GoodKey.l0 kq l0_1 (l0_1.length : Int) x24_2 a0_0 l0_1 a0_2 = some r) ∧ Aside0 (kq ≤ kj1) ∧ Aside0 (w'.heap[gb101]? = some (.cells #[.string a0_0, (.slice A0_1 l0_1.length c0_1), .int .i64 a0_2] 32 (0, 0))) ∧ Aside0 (Below w.heap.size w w'))
     case atStart => exact ⟨(0), z4458, H', ⟨Nat.le_refl _⟩, ⟨bkZ⟩, ⟨zcb41⟩⟩
     case round =>
      clear H'
      (try clear c16); (try clear hz17)
      obtain ⟨x24_2, rfl, HA, HK2, BK101, HB⟩ := hrel
      cases gk with
      | zero => exact absurd HA.out (by simp [impl_GoodKey.l0])
      | succ k2 =>
       have H := HA.out
       clear HA
       simp only [impl_GoodKey.l0] at H
       by_cases c18 : x24_2 < (l0_1.length : Int)
       · rw [if_pos c18] at H
         have c18b0 := dL c18
         clear c18
         obtain ⟨c19b0, H⟩ := sE H
         obtain ⟨c20b0, H⟩ := sL H
         obtain ⟨t106, A21, H⟩ := bS H; try dsimp only at H
         by_cases c22 : t106 = true
         · subst c22
           rw [if_pos rfl] at H
           obtain ⟨t107, A23, H⟩ := bS H; try dsimp only at H
           by_cases c24 : t107 = true
           · subst c24
             rw [if_pos rfl] at H
             by_cases c25 : x24_2 > 0
             · rw [if_pos c25] at H
               have c25b0 := dL c25
               clear c25
               obtain ⟨ji26, hji26⟩ : ∃ j_ : Int, (wrap64 (x24_2 - 1)) = j_ := ⟨_, rfl⟩
               replace H : (if 0 ≤ (ji26) then (if (ji26) < (l0_1.length : Int) then (if ((Op.bytesLess (((rd_T123 l0_1 (ji26)).f0).toList) (((rd_T123 l0_1 x24_2).f0).toList)) = true) then (impl_GoodKey.l0 k2 l0_1 (l0_1.length : Int) (wrap64 (x24_2 + 1)) a0_0 l0_1 a0_2) else (some false)) else (none)) else (none)) = some r := by first | (rw [hji26] at H; exact H) | (simp only [hji26] at H ⊢; exact H)
               (try rw [hji26] at A21)
               (try rw [hji26] at A23)
               have hji26w : (IntKind.i64.wrap (x24_2 - 1)) = ji26 := (i64_w _).trans hji26
               obtain ⟨c27b0, H⟩ := sE H
               obtain ⟨c28b0, H⟩ := sL H
               by_cases c29 : ((Op.bytesLess (((rd_T123 l0_1 (ji26)).f0).toList) (((rd_T123 l0_1 x24_2).f0).toList)) = true)
               · rw [if_pos c29] at H
                 have c29b0 : (Op.bytesLess (((rd_T123 l0_1 (ji26)).f0).toList) (((rd_T123 l0_1 x24_2).f0).toList)) = true := c29
                 clear c29
                 have H' := aM H
                 clear H
                 have p104 : 0 ≤ (x24_2 : Int) := of_decide_eq_true z1200
                 have q104 : x24_2 < (l0_1.length : Int) := of_decide_eq_true z1200
                 obtain ⟨ad104, e104, hx104_0, hx104_1⟩ := at_T123 HR0_1.out x24_2 p104 q104
                 cases e104
                 replace hx104_0 := (HB.out.cell (World.block_lt_of_cell? w _ hx104_0)).trans hx104_0
                 replace hx104_1 := (HB.out.cell (World.block_lt_of_cell? w _ hx104_1)).trans hx104_1
                 replace p104 := eq_true p104
                 replace q104 := eq_true q104
                 try go_wp2_with (first | ((with_reducible refine gate_dst (N := 4) rfl ?_); (try (refine gate_guard (by rfl) ?_; dsimp only)); refine bX 4 123 #[.string (⟨#[]⟩ : ByteArray), .string (⟨#[]⟩ : ByteArray)] ?_; intro gb105 hg w30 hbox hb; have _ := bB gb101 hb; have _ := aM (below_step hbZ hb); have _ := aM hbox; have _ := szZ hg; have _ := szZ hg; have ⟨_, _⟩ := nbB gb101 hg; clear BK101 HB; rename_i BK101 HB BK105 GW105 GE105 NB101_105 NB105_101; clear hb hbox hg; have hnb31 := NB105_101.out; have hnc31 := NB101_105.out; have hz32 := cellsZ2 BK105.out))
                 have n0_ : Aside0 (((w30.setCell ⟨gb105, 0, none⟩ (.string ((rd_T123 l0_1 x24_2).f0))).setCell ⟨gb105, 1, none⟩ (.string ((rd_T123 l0_1 x24_2).f1))).heap[gb101]? = some (.cells #[.string a0_0, .slice (some ad104) l0_1.length c0_1, .int .i64 a0_2] 32 (0, 0))) := ⟨bkZ⟩
                 have n1_ : Aside0 (((w30.setCell ⟨gb105, 0, none⟩ (.string ((rd_T123 l0_1 x24_2).f0))).setCell ⟨gb105, 1, none⟩ (.string ((rd_T123 l0_1 x24_2).f1))).heap[gb105]? = some (.cells #[.string ((rd_T123 l0_1 x24_2).f0), .string ((rd_T123 l0_1 x24_2).f1)] 123 (0, 0))) := ⟨bkZ⟩
                 have n2_ : Aside0 (Below w.heap.size w ((w30.setCell ⟨gb105, 0, none⟩ (.string ((rd_T123 l0_1 x24_2).f0))).setCell ⟨gb105, 1, none⟩ (.string ((rd_T123 l0_1 x24_2).f1)))) := ⟨zcb41⟩
                 (try clear BK101); (try clear BK105); (try clear HB)
                 generalize ((w30.setCell ⟨gb105, 0, none⟩ (.string ((rd_T123 l0_1 x24_2).f0))).setCell ⟨gb105, 1, none⟩ (.string ((rd_T123 l0_1 x24_2).f1))) = w33 at n0_ n1_ n2_ ⊢
                 have BK101 := n0_
                 have BK105 := n1_
                 have HB := n2_
                 clear n0_ n1_ n2_
                 have _ := aM (blk_drew BK101.out)
                 have _ := aM (blk_drew BK105.out)
                 have _ := aM (below_drew1 HB.out)
                 clear BK101
                 clear BK105
                 clear HB
                 rename_i BK101 BK105 HB
                 have p108 : 0 ≤ ((ji26) : Int) := of_decide_eq_true z1200
                 have q108 : (ji26) < (l0_1.length : Int) := of_decide_eq_true z1200
                 obtain ⟨ad108, e108, hx108_0, hx108_1⟩ := at_T123 HR0_1.out (ji26) p108 q108
                 have hw108_1 := hx108_1
                 have hw108_0 := hx108_0
                 obtain rfl : ad104 = ad108 := (by injection e108)
                 replace hx108_0 := (HB.out.cell (World.block_lt_of_cell? w _ hx108_0)).trans hx108_0
                 replace hx108_1 := (HB.out.cell (World.block_lt_of_cell? w _ hx108_1)).trans hx108_1
                 replace p108 := eq_true p108
                 replace q108 := eq_true q108
                 refine sA 26 impl_GoodKey.tab6 impl_GoodKey.bits6 (fun w' => w'.cell? ⟨gb105, 0, none⟩ = some (.string ((rd_T123 l0_1 x24_2).f0)) ∧ w'.cell? ⟨gb105, 1, none⟩ = some (.string ((rd_T123 l0_1 x24_2).f1)) ∧ w'.cell? ⟨gb101, 0, none⟩ = some (.string a0_0) ∧ w'.cell? ⟨gb101, 1, none⟩ = some (.slice (some ad104) l0_1.length c0_1) ∧ w'.cell? ⟨gb101, 2, none⟩ = some (.int .i64 a0_2) ∧ w'.cell? (ad104.add (((ji26)).toNat * 2)) = some (.string ((rd_T123 l0_1 (ji26)).f0)) ∧ w'.cell? ⟨(ad104.add (((ji26)).toNat * 2)).block, (ad104.add (((ji26)).toNat * 2)).off + 1, none⟩ = some (.string ((rd_T123 l0_1 (ji26)).f1))) [] (fun hHeld HT_ HW_ => ?_)
                 generalize w33.drew = w34 at BK101 BK105 HB hx108_0 hx108_1 hHeld ⊢
                 refine pA 0 29 HT_ ?_; refine tA 1 30 HT_ HW_ hHeld ?_; refine oA 2 31 HT_ (fun K hK => ?_)
                 refine goes_ Tryd.func92 (by kernel_rfl) rfl #[.string ((rd_T123 l0_1 x24_2).f0)] (by rfl) rfl rfl zee81 ?_
                 with_reducible refine (impl_isName.calls ((rd_T123 l0_1 x24_2).f0) true _ A21.out).mono ?_
                 rintro e w35 ⟨rfl, hb⟩
                 refine ⟨_, rfl, ?_⟩
                 have _ := bB gb101 hb
                 have _ := bB gb105 hb
                 have _ := aM (below_step hbZ hb)
                 clear BK101
                 clear BK105
                 clear HB
                 rename_i BK101 BK105 HB
                 (try clear hb)
                 refine hK.out _ _ sZ (fun hHeld => ?_)
                 clear hK K
                 refine nA 31 ?_; refine pA 3 32 HT_ ?_; refine pA 4 33 HT_ ?_; refine pA 5 34 HT_ ?_; refine tA 6 35 HT_ HW_ hHeld ?_; refine oA 7 36 HT_ (fun K hK => ?_)
                 refine goes_ Tryd.func92 (by kernel_rfl) rfl #[.string ((rd_T123 l0_1 x24_2).f1)] (by rfl) rfl rfl zee81 ?_
                 with_reducible refine (impl_isName.calls ((rd_T123 l0_1 x24_2).f1) true _ A23.out).mono ?_
                 rintro e w36 ⟨rfl, hb⟩
                 refine ⟨_, rfl, ?_⟩
                 have _ := bB gb101 hb
                 have _ := bB gb105 hb
                 have _ := aM (below_step hbZ hb)
                 clear BK101
                 clear BK105
                 clear HB
                 rename_i BK101 BK105 HB
                 (try clear hb)
                 refine hK.out _ _ sZ (fun hHeld => ?_)
                 clear hK K
                 refine nA 36 ?_; refine pA 8 37 HT_ ?_; refine pA 9 38 HT_ ?_; refine pA 10 39 HT_ ?_; refine pA 11 40 HT_ ?_; refine pA 12 41 HT_ ?_; refine pA 13 42 HT_ ?_; refine pA 14 43 HT_ ?_; refine pA 16 45 HT_ ?_; refine pA 17 46 HT_ ?_; refine pA 21 50 HT_ ?_; refine tA 15 44 HT_ HW_ hHeld ?_; refine pA 18 47 HT_ ?_; refine pA 19 48 HT_ ?_; refine tA 20 49 HT_ HW_ hHeld ?_; refine tA 22 51 HT_ HW_ hHeld ?_; refine pA 23 52 HT_ ?_; refine pA 24 53 HT_ ?_; refine pA 25 54 HT_ ?_
                 refine done_ (done_of HT_.out (by kernel_rfl)) ?_
                 try go_wp2
                 go_roundg k2
                 case measure => have := HJ1.out; have := HK2.out; omega
                 case rel => exact ⟨(wrap64 (x24_2 + 1)), z4458, H', ⟨by have := HJ1.out; have := HK2.out; omega⟩, ⟨bkZ⟩, ⟨zcb41⟩⟩
               · rw [if_neg c29] at H
                 have c29b0 : (Op.bytesLess (((rd_T123 l0_1 (ji26)).f0).toList) (((rd_T123 l0_1 x24_2).f0).toList)) = false := by simpa using c29
                 clear c29
                 obtain rfl := Option.some.inj H
                 have p104 : 0 ≤ (x24_2 : Int) := of_decide_eq_true z1200
                 have q104 : x24_2 < (l0_1.length : Int) := of_decide_eq_true z1200
                 obtain ⟨ad104, e104, hx104_0, hx104_1⟩ := at_T123 HR0_1.out x24_2 p104 q104
                 cases e104
                 replace hx104_0 := (HB.out.cell (World.block_lt_of_cell? w _ hx104_0)).trans hx104_0
                 replace hx104_1 := (HB.out.cell (World.block_lt_of_cell? w _ hx104_1)).trans hx104_1
                 replace p104 := eq_true p104
                 replace q104 := eq_true q104
                 try go_wp2_with (first | ((with_reducible refine gate_dst (N := 4) rfl ?_); (try (refine gate_guard (by rfl) ?_; dsimp only)); refine bX 4 123 #[.string (⟨#[]⟩ : ByteArray), .string (⟨#[]⟩ : ByteArray)] ?_; intro gb105 hg w37 hbox hb; have _ := bB gb101 hb; have _ := aM (below_step hbZ hb); have _ := aM hbox; have _ := szZ hg; have _ := szZ hg; have ⟨_, _⟩ := nbB gb101 hg; clear BK101 HB; rename_i BK101 HB BK105 GW105 GE105 NB101_105 NB105_101; clear hb hbox hg; have hnb38 := NB105_101.out; have hnc38 := NB101_105.out; have hz39 := cellsZ2 BK105.out))
                 have n0_ : Aside0 (((w37.setCell ⟨gb105, 0, none⟩ (.string ((rd_T123 l0_1 x24_2).f0))).setCell ⟨gb105, 1, none⟩ (.string ((rd_T123 l0_1 x24_2).f1))).heap[gb101]? = some (.cells #[.string a0_0, .slice (some ad104) l0_1.length c0_1, .int .i64 a0_2] 32 (0, 0))) := ⟨bkZ⟩
                 have n1_ : Aside0 (((w37.setCell ⟨gb105, 0, none⟩ (.string ((rd_T123 l0_1 x24_2).f0))).setCell ⟨gb105, 1, none⟩ (.string ((rd_T123 l0_1 x24_2).f1))).heap[gb105]? = some (.cells #[.string ((rd_T123 l0_1 x24_2).f0), .string ((rd_T123 l0_1 x24_2).f1)] 123 (0, 0))) := ⟨bkZ⟩
                 have n2_ : Aside0 (Below w.heap.size w ((w37.setCell ⟨gb105, 0, none⟩ (.string ((rd_T123 l0_1 x24_2).f0))).setCell ⟨gb105, 1, none⟩ (.string ((rd_T123 l0_1 x24_2).f1)))) := ⟨zcb41⟩
                 (try clear BK101); (try clear BK105); (try clear HB)
                 generalize ((w37.setCell ⟨gb105, 0, none⟩ (.string ((rd_T123 l0_1 x24_2).f0))).setCell ⟨gb105, 1, none⟩ (.string ((rd_T123 l0_1 x24_2).f1))) = w40 at n0_ n1_ n2_ ⊢
                 have BK101 := n0_
                 have BK105 := n1_
                 have HB := n2_
                 clear n0_ n1_ n2_
                 have _ := aM (blk_drew BK101.out)
                 have _ := aM (blk_drew BK105.out)
                 have _ := aM (below_drew1 HB.out)
                 clear BK101
                 clear BK105
                 clear HB
                 rename_i BK101 BK105 HB
                 have p108 : 0 ≤ ((ji26) : Int) := of_decide_eq_true z1200
                 have q108 : (ji26) < (l0_1.length : Int) := of_decide_eq_true z1200
                 obtain ⟨ad108, e108, hx108_0, hx108_1⟩ := at_T123 HR0_1.out (ji26) p108 q108
                 have hw108_1 := hx108_1
                 have hw108_0 := hx108_0
                 obtain rfl : ad104 = ad108 := (by injection e108)
                 replace hx108_0 := (HB.out.cell (World.block_lt_of_cell? w _ hx108_0)).trans hx108_0
                 replace hx108_1 := (HB.out.cell (World.block_lt_of_cell? w _ hx108_1)).trans hx108_1
                 replace p108 := eq_true p108
                 replace q108 := eq_true q108
                 refine sA 26 impl_GoodKey.tab6 impl_GoodKey.bits6 (fun w' => w'.cell? ⟨gb105, 0, none⟩ = some (.string ((rd_T123 l0_1 x24_2).f0)) ∧ w'.cell? ⟨gb105, 1, none⟩ = some (.string ((rd_T123 l0_1 x24_2).f1)) ∧ w'.cell? ⟨gb101, 0, none⟩ = some (.string a0_0) ∧ w'.cell? ⟨gb101, 1, none⟩ = some (.slice (some ad104) l0_1.length c0_1) ∧ w'.cell? ⟨gb101, 2, none⟩ = some (.int .i64 a0_2) ∧ w'.cell? (ad104.add (((ji26)).toNat * 2)) = some (.string ((rd_T123 l0_1 (ji26)).f0)) ∧ w'.cell? ⟨(ad104.add (((ji26)).toNat * 2)).block, (ad104.add (((ji26)).toNat * 2)).off + 1, none⟩ = some (.string ((rd_T123 l0_1 (ji26)).f1))) [] (fun hHeld HT_ HW_ => ?_)
                 generalize w40.drew = w41 at BK101 BK105 HB hx108_0 hx108_1 hHeld ⊢
                 refine pA 0 29 HT_ ?_; refine tA 1 30 HT_ HW_ hHeld ?_; refine oA 2 31 HT_ (fun K hK => ?_)
                 refine goes_ Tryd.func92 (by kernel_rfl) rfl #[.string ((rd_T123 l0_1 x24_2).f0)] (by rfl) rfl rfl zee81 ?_
                 with_reducible refine (impl_isName.calls ((rd_T123 l0_1 x24_2).f0) true _ A21.out).mono ?_
                 rintro e w42 ⟨rfl, hb⟩
                 refine ⟨_, rfl, ?_⟩
                 have _ := bB gb101 hb
                 have _ := bB gb105 hb
                 have _ := aM (below_step hbZ hb)
                 clear BK101
                 clear BK105
                 clear HB
                 rename_i BK101 BK105 HB
                 (try clear hb)
                 refine hK.out _ _ sZ (fun hHeld => ?_)
                 clear hK K
                 refine nA 31 ?_; refine pA 3 32 HT_ ?_; refine pA 4 33 HT_ ?_; refine pA 5 34 HT_ ?_; refine tA 6 35 HT_ HW_ hHeld ?_; refine oA 7 36 HT_ (fun K hK => ?_)
                 refine goes_ Tryd.func92 (by kernel_rfl) rfl #[.string ((rd_T123 l0_1 x24_2).f1)] (by rfl) rfl rfl zee81 ?_
                 with_reducible refine (impl_isName.calls ((rd_T123 l0_1 x24_2).f1) true _ A23.out).mono ?_
                 rintro e w43 ⟨rfl, hb⟩
                 refine ⟨_, rfl, ?_⟩
                 have _ := bB gb101 hb
                 have _ := bB gb105 hb
                 have _ := aM (below_step hbZ hb)
                 clear BK101
                 clear BK105
                 clear HB
                 rename_i BK101 BK105 HB
                 (try clear hb)
                 refine hK.out _ _ sZ (fun hHeld => ?_)
                 clear hK K
                 refine nA 36 ?_; refine pA 8 37 HT_ ?_; refine pA 9 38 HT_ ?_; refine pA 10 39 HT_ ?_; refine pA 11 40 HT_ ?_; refine pA 12 41 HT_ ?_; refine pA 13 42 HT_ ?_; refine pA 14 43 HT_ ?_; refine pA 16 45 HT_ ?_; refine pA 17 46 HT_ ?_; refine pA 21 50 HT_ ?_; refine tA 15 44 HT_ HW_ hHeld ?_; refine pA 18 47 HT_ ?_; refine pA 19 48 HT_ ?_; refine tA 20 49 HT_ HW_ hHeld ?_; refine tA 22 51 HT_ HW_ hHeld ?_; refine pA 23 52 HT_ ?_; refine pA 24 53 HT_ ?_; refine pA 25 54 HT_ ?_
                 refine done_ (done_of HT_.out (by kernel_rfl)) ?_
                 try go_wp2
                 go_ret
                 exact ⟨by first | rfl | (simp [errW_none, errW_some] <;> rfl) | (simp only [← hji26]; first | rfl | (simp [errW_none, errW_some] <;> rfl)) | (simp [*, errW_none, errW_some] <;> rfl), zcb41⟩
             · rw [if_neg c25] at H
               have c25b0 := nL c25
               clear c25
               have H' := aM H
               clear H
               have p104 : 0 ≤ (x24_2 : Int) := of_decide_eq_true z1200
               have q104 : x24_2 < (l0_1.length : Int) := of_decide_eq_true z1200
               obtain ⟨ad104, e104, hx104_0, hx104_1⟩ := at_T123 HR0_1.out x24_2 p104 q104
               cases e104
               replace hx104_0 := (HB.out.cell (World.block_lt_of_cell? w _ hx104_0)).trans hx104_0
               replace hx104_1 := (HB.out.cell (World.block_lt_of_cell? w _ hx104_1)).trans hx104_1
               replace p104 := eq_true p104
               replace q104 := eq_true q104
               try go_wp2_with (first | ((with_reducible refine gate_dst (N := 4) rfl ?_); (try (refine gate_guard (by rfl) ?_; dsimp only)); refine bX 4 123 #[.string (⟨#[]⟩ : ByteArray), .string (⟨#[]⟩ : ByteArray)] ?_; intro gb105 hg w44 hbox hb; have _ := bB gb101 hb; have _ := aM (below_step hbZ hb); have _ := aM hbox; have _ := szZ hg; have _ := szZ hg; have ⟨_, _⟩ := nbB gb101 hg; clear BK101 HB; rename_i BK101 HB BK105 GW105 GE105 NB101_105 NB105_101; clear hb hbox hg; have hnb45 := NB105_101.out; have hnc45 := NB101_105.out; have hz46 := cellsZ2 BK105.out))
               have n0_ : Aside0 (((w44.setCell ⟨gb105, 0, none⟩ (.string ((rd_T123 l0_1 x24_2).f0))).setCell ⟨gb105, 1, none⟩ (.string ((rd_T123 l0_1 x24_2).f1))).heap[gb101]? = some (.cells #[.string a0_0, .slice (some ad104) l0_1.length c0_1, .int .i64 a0_2] 32 (0, 0))) := ⟨bkZ⟩
               have n1_ : Aside0 (((w44.setCell ⟨gb105, 0, none⟩ (.string ((rd_T123 l0_1 x24_2).f0))).setCell ⟨gb105, 1, none⟩ (.string ((rd_T123 l0_1 x24_2).f1))).heap[gb105]? = some (.cells #[.string ((rd_T123 l0_1 x24_2).f0), .string ((rd_T123 l0_1 x24_2).f1)] 123 (0, 0))) := ⟨bkZ⟩
               have n2_ : Aside0 (Below w.heap.size w ((w44.setCell ⟨gb105, 0, none⟩ (.string ((rd_T123 l0_1 x24_2).f0))).setCell ⟨gb105, 1, none⟩ (.string ((rd_T123 l0_1 x24_2).f1)))) := ⟨zcb41⟩
               (try clear BK101); (try clear BK105); (try clear HB)
               generalize ((w44.setCell ⟨gb105, 0, none⟩ (.string ((rd_T123 l0_1 x24_2).f0))).setCell ⟨gb105, 1, none⟩ (.string ((rd_T123 l0_1 x24_2).f1))) = w47 at n0_ n1_ n2_ ⊢
               have BK101 := n0_
               have BK105 := n1_
               have HB := n2_
               clear n0_ n1_ n2_
               have _ := aM (blk_drew BK101.out)
               have _ := aM (blk_drew BK105.out)
               have _ := aM (below_drew1 HB.out)
               clear BK101
               clear BK105
               clear HB
               rename_i BK101 BK105 HB
               refine sA 26 impl_GoodKey.tab6 impl_GoodKey.bits6 (fun w' => w'.cell? ⟨gb105, 0, none⟩ = some (.string ((rd_T123 l0_1 x24_2).f0)) ∧ w'.cell? ⟨gb105, 1, none⟩ = some (.string ((rd_T123 l0_1 x24_2).f1))) [] (fun hHeld HT_ HW_ => ?_)
               generalize w47.drew = w48 at BK101 BK105 HB hHeld ⊢
               refine pA 0 29 HT_ ?_; refine tA 1 30 HT_ HW_ hHeld ?_; refine oA 2 31 HT_ (fun K hK => ?_)
               refine goes_ Tryd.func92 (by kernel_rfl) rfl #[.string ((rd_T123 l0_1 x24_2).f0)] (by rfl) rfl rfl zee81 ?_
               with_reducible refine (impl_isName.calls ((rd_T123 l0_1 x24_2).f0) true _ A21.out).mono ?_
               rintro e w49 ⟨rfl, hb⟩
               refine ⟨_, rfl, ?_⟩
               have _ := bB gb101 hb
               have _ := bB gb105 hb
               have _ := aM (below_step hbZ hb)
               clear BK101
               clear BK105
               clear HB
               rename_i BK101 BK105 HB
               (try clear hb)
               refine hK.out _ _ sZ (fun hHeld => ?_)
               clear hK K
               refine nA 31 ?_; refine pA 3 32 HT_ ?_; refine pA 4 33 HT_ ?_; refine pA 5 34 HT_ ?_; refine tA 6 35 HT_ HW_ hHeld ?_; refine oA 7 36 HT_ (fun K hK => ?_)
               refine goes_ Tryd.func92 (by kernel_rfl) rfl #[.string ((rd_T123 l0_1 x24_2).f1)] (by rfl) rfl rfl zee81 ?_
               with_reducible refine (impl_isName.calls ((rd_T123 l0_1 x24_2).f1) true _ A23.out).mono ?_
               rintro e w50 ⟨rfl, hb⟩
               refine ⟨_, rfl, ?_⟩
               have _ := bB gb101 hb
               have _ := bB gb105 hb
               have _ := aM (below_step hbZ hb)
               clear BK101
               clear BK105
               clear HB
               rename_i BK101 BK105 HB
               (try clear hb)
               refine hK.out _ _ sZ (fun hHeld => ?_)
               clear hK K
               refine nA 36 ?_; refine pA 8 37 HT_ ?_; refine pA 9 38 HT_ ?_; refine pA 10 39 HT_ ?_; refine pA 11 40 HT_ ?_; refine pA 12 41 HT_ ?_; refine pA 13 42 HT_ ?_; refine uA 14 43 HT_ ?_; refine uA 15 44 HT_ ?_; refine uA 16 45 HT_ ?_; refine uA 17 46 HT_ ?_; refine uA 18 47 HT_ ?_; refine uA 19 48 HT_ ?_; refine uA 20 49 HT_ ?_; refine uA 21 50 HT_ ?_; refine uA 22 51 HT_ ?_; refine uA 23 52 HT_ ?_; refine pA 24 53 HT_ ?_; refine pA 25 54 HT_ ?_
               refine done_ (done_of HT_.out (by kernel_rfl)) ?_
               try go_wp2
               go_roundg k2
               case measure => have := HJ1.out; have := HK2.out; omega
               case rel => exact ⟨(wrap64 (x24_2 + 1)), z4458, H', ⟨by have := HJ1.out; have := HK2.out; omega⟩, ⟨bkZ⟩, ⟨zcb41⟩⟩
           · replace c24 := Bool.eq_false_iff.mpr c24
             subst c24
             rw [if_neg (show ¬ (false = true) by decide)] at H
             obtain rfl := Option.some.inj H
             have p104 : 0 ≤ (x24_2 : Int) := of_decide_eq_true z1200
             have q104 : x24_2 < (l0_1.length : Int) := of_decide_eq_true z1200
             obtain ⟨ad104, e104, hx104_0, hx104_1⟩ := at_T123 HR0_1.out x24_2 p104 q104
             cases e104
             replace hx104_0 := (HB.out.cell (World.block_lt_of_cell? w _ hx104_0)).trans hx104_0
             replace hx104_1 := (HB.out.cell (World.block_lt_of_cell? w _ hx104_1)).trans hx104_1
             replace p104 := eq_true p104
             replace q104 := eq_true q104
             try go_wp2_with (first | ((with_reducible refine gate_dst (N := 4) rfl ?_); (try (refine gate_guard (by rfl) ?_; dsimp only)); refine bX 4 123 #[.string (⟨#[]⟩ : ByteArray), .string (⟨#[]⟩ : ByteArray)] ?_; intro gb105 hg w51 hbox hb; have _ := bB gb101 hb; have _ := aM (below_step hbZ hb); have _ := aM hbox; have _ := szZ hg; have _ := szZ hg; have ⟨_, _⟩ := nbB gb101 hg; clear BK101 HB; rename_i BK101 HB BK105 GW105 GE105 NB101_105 NB105_101; clear hb hbox hg; have hnb52 := NB105_101.out; have hnc52 := NB101_105.out; have hz53 := cellsZ2 BK105.out))
             have n0_ : Aside0 (((w51.setCell ⟨gb105, 0, none⟩ (.string ((rd_T123 l0_1 x24_2).f0))).setCell ⟨gb105, 1, none⟩ (.string ((rd_T123 l0_1 x24_2).f1))).heap[gb101]? = some (.cells #[.string a0_0, .slice (some ad104) l0_1.length c0_1, .int .i64 a0_2] 32 (0, 0))) := ⟨bkZ⟩
             have n1_ : Aside0 (((w51.setCell ⟨gb105, 0, none⟩ (.string ((rd_T123 l0_1 x24_2).f0))).setCell ⟨gb105, 1, none⟩ (.string ((rd_T123 l0_1 x24_2).f1))).heap[gb105]? = some (.cells #[.string ((rd_T123 l0_1 x24_2).f0), .string ((rd_T123 l0_1 x24_2).f1)] 123 (0, 0))) := ⟨bkZ⟩
             have n2_ : Aside0 (Below w.heap.size w ((w51.setCell ⟨gb105, 0, none⟩ (.string ((rd_T123 l0_1 x24_2).f0))).setCell ⟨gb105, 1, none⟩ (.string ((rd_T123 l0_1 x24_2).f1)))) := ⟨zcb41⟩
             (try clear BK101); (try clear BK105); (try clear HB)
             generalize ((w51.setCell ⟨gb105, 0, none⟩ (.string ((rd_T123 l0_1 x24_2).f0))).setCell ⟨gb105, 1, none⟩ (.string ((rd_T123 l0_1 x24_2).f1))) = w54 at n0_ n1_ n2_ ⊢
             have BK101 := n0_
             have BK105 := n1_
             have HB := n2_
             clear n0_ n1_ n2_
             have _ := aM (blk_drew BK101.out)
             have _ := aM (blk_drew BK105.out)
             have _ := aM (below_drew1 HB.out)
             clear BK101
             clear BK105
             clear HB
             rename_i BK101 BK105 HB
             refine sA 26 impl_GoodKey.tab6 impl_GoodKey.bits6 (fun w' => w'.cell? ⟨gb105, 0, none⟩ = some (.string ((rd_T123 l0_1 x24_2).f0)) ∧ w'.cell? ⟨gb105, 1, none⟩ = some (.string ((rd_T123 l0_1 x24_2).f1))) [] (fun hHeld HT_ HW_ => ?_)
             generalize w54.drew = w55 at BK101 BK105 HB hHeld ⊢
             refine pA 0 29 HT_ ?_; refine tA 1 30 HT_ HW_ hHeld ?_; refine oA 2 31 HT_ (fun K hK => ?_)
             refine goes_ Tryd.func92 (by kernel_rfl) rfl #[.string ((rd_T123 l0_1 x24_2).f0)] (by rfl) rfl rfl zee81 ?_
             with_reducible refine (impl_isName.calls ((rd_T123 l0_1 x24_2).f0) true _ A21.out).mono ?_
             rintro e w56 ⟨rfl, hb⟩
             refine ⟨_, rfl, ?_⟩
             have _ := bB gb101 hb
             have _ := bB gb105 hb
             have _ := aM (below_step hbZ hb)
             clear BK101
             clear BK105
             clear HB
             rename_i BK101 BK105 HB
             (try clear hb)
             refine hK.out _ _ sZ (fun hHeld => ?_)
             clear hK K
             refine nA 31 ?_; refine pA 3 32 HT_ ?_; refine pA 4 33 HT_ ?_; refine pA 5 34 HT_ ?_; refine tA 6 35 HT_ HW_ hHeld ?_; refine oA 7 36 HT_ (fun K hK => ?_)
             refine goes_ Tryd.func92 (by kernel_rfl) rfl #[.string ((rd_T123 l0_1 x24_2).f1)] (by rfl) rfl rfl zee81 ?_
             with_reducible refine (impl_isName.calls ((rd_T123 l0_1 x24_2).f1) false _ A23.out).mono ?_
             rintro e w57 ⟨rfl, hb⟩
             refine ⟨_, rfl, ?_⟩
             have _ := bB gb101 hb
             have _ := bB gb105 hb
             have _ := aM (below_step hbZ hb)
             clear BK101
             clear BK105
             clear HB
             rename_i BK101 BK105 HB
             (try clear hb)
             refine hK.out _ _ sZ (fun hHeld => ?_)
             clear hK K
             refine nA 36 ?_; refine pA 8 37 HT_ ?_; refine pA 9 38 HT_ ?_; refine pA 10 39 HT_ ?_; refine uA 11 40 HT_ ?_; refine uA 12 41 HT_ ?_; refine uA 13 42 HT_ ?_; refine uA 14 43 HT_ ?_; refine uA 15 44 HT_ ?_; refine uA 16 45 HT_ ?_; refine uA 17 46 HT_ ?_; refine uA 18 47 HT_ ?_; refine uA 19 48 HT_ ?_; refine uA 20 49 HT_ ?_; refine uA 21 50 HT_ ?_; refine uA 22 51 HT_ ?_; refine uA 23 52 HT_ ?_; refine uA 24 53 HT_ ?_; refine pA 25 54 HT_ ?_
             refine done_ (done_of HT_.out (by kernel_rfl)) ?_
             try go_wp2
             go_ret
             exact ⟨z674d, zcb41⟩
         · replace c22 := Bool.eq_false_iff.mpr c22
           subst c22
           rw [if_neg (show ¬ (false = true) by decide)] at H
           obtain rfl := Option.some.inj H
           have p104 : 0 ≤ (x24_2 : Int) := of_decide_eq_true z1200
           have q104 : x24_2 < (l0_1.length : Int) := of_decide_eq_true z1200
           obtain ⟨ad104, e104, hx104_0, hx104_1⟩ := at_T123 HR0_1.out x24_2 p104 q104
           cases e104
           replace hx104_0 := (HB.out.cell (World.block_lt_of_cell? w _ hx104_0)).trans hx104_0
           replace hx104_1 := (HB.out.cell (World.block_lt_of_cell? w _ hx104_1)).trans hx104_1
           replace p104 := eq_true p104
           replace q104 := eq_true q104
           try go_wp2_with (first | ((with_reducible refine gate_dst (N := 4) rfl ?_); (try (refine gate_guard (by rfl) ?_; dsimp only)); refine bX 4 123 #[.string (⟨#[]⟩ : ByteArray), .string (⟨#[]⟩ : ByteArray)] ?_; intro gb105 hg w58 hbox hb; have _ := bB gb101 hb; have _ := aM (below_step hbZ hb); have _ := aM hbox; have _ := szZ hg; have _ := szZ hg; have ⟨_, _⟩ := nbB gb101 hg; clear BK101 HB; rename_i BK101 HB BK105 GW105 GE105 NB101_105 NB105_101; clear hb hbox hg; have hnb59 := NB105_101.out; have hnc59 := NB101_105.out; have hz60 := cellsZ2 BK105.out))
           have n0_ : Aside0 (((w58.setCell ⟨gb105, 0, none⟩ (.string ((rd_T123 l0_1 x24_2).f0))).setCell ⟨gb105, 1, none⟩ (.string ((rd_T123 l0_1 x24_2).f1))).heap[gb101]? = some (.cells #[.string a0_0, .slice (some ad104) l0_1.length c0_1, .int .i64 a0_2] 32 (0, 0))) := ⟨bkZ⟩
           have n1_ : Aside0 (((w58.setCell ⟨gb105, 0, none⟩ (.string ((rd_T123 l0_1 x24_2).f0))).setCell ⟨gb105, 1, none⟩ (.string ((rd_T123 l0_1 x24_2).f1))).heap[gb105]? = some (.cells #[.string ((rd_T123 l0_1 x24_2).f0), .string ((rd_T123 l0_1 x24_2).f1)] 123 (0, 0))) := ⟨bkZ⟩
           have n2_ : Aside0 (Below w.heap.size w ((w58.setCell ⟨gb105, 0, none⟩ (.string ((rd_T123 l0_1 x24_2).f0))).setCell ⟨gb105, 1, none⟩ (.string ((rd_T123 l0_1 x24_2).f1)))) := ⟨zcb41⟩
           (try clear BK101); (try clear BK105); (try clear HB)
           generalize ((w58.setCell ⟨gb105, 0, none⟩ (.string ((rd_T123 l0_1 x24_2).f0))).setCell ⟨gb105, 1, none⟩ (.string ((rd_T123 l0_1 x24_2).f1))) = w61 at n0_ n1_ n2_ ⊢
           have BK101 := n0_
           have BK105 := n1_
           have HB := n2_
           clear n0_ n1_ n2_
           have _ := aM (blk_drew BK101.out)
           have _ := aM (blk_drew BK105.out)
           have _ := aM (below_drew1 HB.out)
           clear BK101
           clear BK105
           clear HB
           rename_i BK101 BK105 HB
           refine sA 26 impl_GoodKey.tab6 impl_GoodKey.bits6 (fun w' => w'.cell? ⟨gb105, 0, none⟩ = some (.string ((rd_T123 l0_1 x24_2).f0)) ∧ w'.cell? ⟨gb105, 1, none⟩ = some (.string ((rd_T123 l0_1 x24_2).f1))) [] (fun hHeld HT_ HW_ => ?_)
           generalize w61.drew = w62 at BK101 BK105 HB hHeld ⊢
           refine pA 0 29 HT_ ?_; refine tA 1 30 HT_ HW_ hHeld ?_; refine oA 2 31 HT_ (fun K hK => ?_)
           refine goes_ Tryd.func92 (by kernel_rfl) rfl #[.string ((rd_T123 l0_1 x24_2).f0)] (by rfl) rfl rfl zee81 ?_
           with_reducible refine (impl_isName.calls ((rd_T123 l0_1 x24_2).f0) false _ A21.out).mono ?_
           rintro e w63 ⟨rfl, hb⟩
           refine ⟨_, rfl, ?_⟩
           have _ := bB gb101 hb
           have _ := bB gb105 hb
           have _ := aM (below_step hbZ hb)
           clear BK101
           clear BK105
           clear HB
           rename_i BK101 BK105 HB
           (try clear hb)
           refine hK.out _ _ sZ (fun hHeld => ?_)
           clear hK K
           refine nA 31 ?_; refine pA 3 32 HT_ ?_; refine pA 4 33 HT_ ?_; refine uA 5 34 HT_ ?_; refine uA 6 35 HT_ ?_; refine uA 7 36 HT_ ?_; refine uA 8 37 HT_ ?_; refine pA 9 38 HT_ ?_; refine pA 10 39 HT_ ?_; refine uA 11 40 HT_ ?_; refine uA 12 41 HT_ ?_; refine uA 13 42 HT_ ?_; refine uA 14 43 HT_ ?_; refine uA 15 44 HT_ ?_; refine uA 16 45 HT_ ?_; refine uA 17 46 HT_ ?_; refine uA 18 47 HT_ ?_; refine uA 19 48 HT_ ?_; refine uA 20 49 HT_ ?_; refine uA 21 50 HT_ ?_; refine uA 22 51 HT_ ?_; refine uA 23 52 HT_ ?_; refine uA 24 53 HT_ ?_; refine pA 25 54 HT_ ?_
           refine done_ (done_of HT_.out (by kernel_rfl)) ?_
           try go_wp2
           go_ret
           exact ⟨z674d, zcb41⟩
       · rw [if_neg c18] at H
         have c18b0 := nL c18
         clear c18
         obtain rfl := Option.some.inj H
         go_wp2
         go_ret
         exact ⟨z674d, zcb41⟩

end Go.Proofs.YtkgmoajdcibafaaDoor.P

-- written by a program of this session's (wip/pp)
namespace Go.Proofs.YtkgmoajdcibafaaDoor.P
open Go.RowKit Go.Proofs.YtkgmoajdcibafaaDoorW.PrintWords Go.Proofs.YtkgmoajdcibafaaDoorW.PrintLast Go.Proofs.YtkgmoajdcibafaaDoorW.PrintMore
attribute [local go_sem] max2_int min2_int max_two min_two max_three min_three max_four min_four str_geq str_gtr str_leq   -- for this text's walks alone
set_option linter.unusedVariables false
set_option linter.unusedSimpArgs false

/-! ### impl_LastTold_1: function 67 -/
def impl_LastTold_1.f (k : Nat) (a0_0 : ByteArray) (l0_1 : List (S123)) (a0_2 : Int) (a0_3 : Int) (a0_4 : Int) (a0_5 : Int) (a0_6 : Int) (a0_7 : Int) (l0_8 : List Int) (a0_9 : Bool) : Option (Bool) := (impl_GoodKey.f k a0_0 l0_1 a0_2).bind fun t102 => (some (!t102))
theorem impl_LastTold_1.mono : ∀ a0 a1 a2 a3 a4 a5 a6 a7 a8 a9 k, LeO (impl_LastTold_1.f k a0 a1 a2 a3 a4 a5 a6 a7 a8 a9) (impl_LastTold_1.f (k + 1) a0 a1 a2 a3 a4 a5 a6 a7 a8 a9) := by
 intro a0 a1 a2 a3 a4 a5 a6 a7 a8 a9 k
 have m0 := @impl_GoodKey.mono
 unfold impl_LastTold_1.f
 exact moZ
set_option maxHeartbeats 8000000 in
set_option maxRecDepth 100000 in
theorem impl_LastTold_1.calls (k : Nat) (a0_0 : ByteArray) (A0_1 : Option Addr) (c0_1 : Nat) (l0_1 : List (S123)) (a0_2 : Int) (a0_3 : Int) (a0_4 : Int) (a0_5 : Int) (a0_6 : Int) (a0_7 : Int) (A0_8 : Option Addr) (c0_8 : Nat) (l0_8 : List Int) (a0_9 : Bool) (r : Bool) (w : World) (hr0_1 : Kd.C k123 w A0_1 l0_1.length l0_1) (hc0_1 : l0_1.length ≤ c0_1) (hr0_8 : Kd.C (Kd.int .i64) w A0_8 l0_8.length l0_8) (hc0_8 : l0_8.length ≤ c0_8) (h : impl_LastTold_1.f k a0_0 l0_1 a0_2 a0_3 a0_4 a0_5 a0_6 a0_7 l0_8 a0_9 = some r) :
 Calls Tryd.prog 67 #[.agg #[.string a0_0, .slice A0_1 l0_1.length c0_1, .int .i64 a0_2, .int .i64 a0_3, .int .i64 a0_4, .int .i64 a0_5, .int .i64 a0_6, .int .i64 a0_7, .slice A0_8 l0_8.length c0_8, .bool a0_9]] w fun e w' => e = .returned (.bool r) ∧ Below w.heap.size w w' := by
 have hu96 := Tryd.underlying96
 have hu32 := Tryd.underlying32
 have HR0_1 := aM hr0_1
 have HC0_1 := aM hc0_1
 clear hr0_1 hc0_1
 have HR0_8 := aM hr0_8
 have HC0_8 := aM hc0_8
 clear hr0_8 hc0_8
 have HB := aM (Below.refl w.heap.size w)
 have H : ((impl_GoodKey.f k a0_0 l0_1 a0_2).bind fun t102 => (some (!t102))) = some r := h
 clear h
 obtain ⟨t102, A2, H⟩ := bS H; try dsimp only at H
 obtain rfl := Option.some.inj H
 go_enter Tryd.func67, Tryd.ntmps67
 go_wp2_with (first | ((with_reducible refine gate_dst (N := 1) rfl ?_); refine bX 1 96 #[.string a0_0, .slice A0_1 l0_1.length c0_1, .int .i64 a0_2, .int .i64 a0_3, .int .i64 a0_4, .int .i64 a0_5, .int .i64 a0_6, .int .i64 a0_7, .slice A0_8 l0_8.length c0_8, .bool a0_9] ?_; intro gb101 hg w3 hbox hb; have _ := aM (below_step hbZ hb); have _ := aM hbox; have _ := szZ hg; have _ := szZ hg; clear HB; rename_i HB BK101 GW101 GE101; clear hb hbox hg; have hz4 := cellsZ10 BK101.out) | ((with_reducible refine gate_callee (f := 47) rfl ?_); refine gL 5 Tryd.func47 #[.agg #[.string a0_0, .slice A0_1 l0_1.length c0_1, .int .i64 a0_2]] ?_; (with_reducible refine (impl_GoodKey.calls k a0_0 _ _ l0_1 a0_2 t102 _ ?side1 ?side2 A2.out).mono ?_); (case side1 => exact (cZ (Kd.C_below HR0_1.out HB.out))); (case side2 => exact HC0_1.out); rintro e w5 ⟨rfl, hb⟩; refine ⟨_, rfl, ?_⟩; have _ := bB gb101 hb; have _ := aM (below_step hbZ hb); clear BK101 HB; rename_i BK101 HB; (try clear hb)))
 go_ret
 exact ⟨z674d, zcb41⟩

end Go.Proofs.YtkgmoajdcibafaaDoor.P

-- written by a program of this session's (wip/pp)
namespace Go.Proofs.YtkgmoajdcibafaaDoor.P
open Go.RowKit Go.Proofs.YtkgmoajdcibafaaDoorW.PrintWords Go.Proofs.YtkgmoajdcibafaaDoorW.PrintLast Go.Proofs.YtkgmoajdcibafaaDoorW.PrintMore
attribute [local go_sem] max2_int min2_int max_two min_two max_three min_three max_four min_four str_geq str_gtr str_leq   -- for this text's walks alone
set_option linter.unusedVariables false
set_option linter.unusedSimpArgs false

/-! ### impl_Told_with_impl_LastTold_1_10100067: function 10100067 -/
def impl_Told_with_impl_LastTold_1_10100067.l0 : Nat → List (S96) → Int → Int → Option (Int)
 | 0, _, _, _ => none
 | k + 1, x0, x7, x8 => if x8 < x7 then (if 0 ≤ x8 then (if x8 < (x0.length : Int) then ((impl_LastTold_1.f k ((rd_T96 x0 x8).f0.f0) ((rd_T96 x0 x8).f0.f1) ((rd_T96 x0 x8).f0.f2) ((rd_T96 x0 x8).f1) ((rd_T96 x0 x8).f2.f0) ((rd_T96 x0 x8).f2.f1) ((rd_T96 x0 x8).f2.f2) ((rd_T96 x0 x8).f2.f3) ((rd_T96 x0 x8).f2.f4) ((rd_T96 x0 x8).f2.f5)).bind fun t102 => (if t102 = true then (some x8) else (impl_Told_with_impl_LastTold_1_10100067.l0 k x0 x7 (wrap64 (x8 + 1))))) else (none)) else (none)) else (some (-1))
def impl_Told_with_impl_LastTold_1_10100067.f (k : Nat) (l0 : List (S96))  : Option (Int) := impl_Told_with_impl_LastTold_1_10100067.l0 k l0 (l0.length : Int) 0
theorem impl_Told_with_impl_LastTold_1_10100067.mono_l : ∀ k, (∀ y0 y1 y2, LeO (impl_Told_with_impl_LastTold_1_10100067.l0 k y0 y1 y2) (impl_Told_with_impl_LastTold_1_10100067.l0 (k + 1) y0 y1 y2))
 | 0 => fun _ _ _ r h => by simp [impl_Told_with_impl_LastTold_1_10100067.l0] at h
 | k + 1 => by
  have ih0 := impl_Told_with_impl_LastTold_1_10100067.mono_l k; have m0 := @impl_LastTold_1.mono
  · intro y0 y1 y2
    unfold impl_Told_with_impl_LastTold_1_10100067.l0
    exact moZ
theorem impl_Told_with_impl_LastTold_1_10100067.mono : ∀ a0 k, LeO (impl_Told_with_impl_LastTold_1_10100067.f k a0) (impl_Told_with_impl_LastTold_1_10100067.f (k + 1) a0) := by
 intro a0 k
 have ih0 := impl_Told_with_impl_LastTold_1_10100067.mono_l k
 have m0 := @impl_LastTold_1.mono
 unfold impl_Told_with_impl_LastTold_1_10100067.f
 exact moZ
set_option maxHeartbeats 8000000 in
set_option maxRecDepth 100000 in
theorem impl_Told_with_impl_LastTold_1_10100067.calls (k : Nat) (A0 : Option Addr) (c0 : Nat) (l0 : List (S96))  (r : Int) (w : World) (hr0 : Kd.C k96 w A0 l0.length l0) (hc0 : l0.length ≤ c0) (h : impl_Told_with_impl_LastTold_1_10100067.f k l0 = some r) :
 Calls Tryd.prog 100 #[.slice A0 l0.length c0, .func (.func 67) #[] #[]] w fun e w' => e = .returned (.int .i64 r) ∧ Below w.heap.size w w' := by
 have hu96 := Tryd.underlying96
 have HR0 := aM hr0
 have HC0 := aM hc0
 clear hr0 hc0
 have HB := aM (Below.refl w.heap.size w)
 have H : (impl_Told_with_impl_LastTold_1_10100067.l0 k l0 (l0.length : Int) 0) = some r := h
 clear h
 have H' := aM H
 clear H
 go_enter Tryd.func100, Tryd.ntmps100
 go_wp2
 go_loopg [8] k (fun kq v8 w' => ∃ (x8_1 : Int), v8 = .int .i64 x8_1 ∧ Aside0 (impl_Told_with_impl_LastTold_1_10100067.l0 kq l0 (l0.length : Int) x8_1 = some r) ∧ Aside0 (kq ≤ k) ∧ Aside0 (Below w.heap.size w w'))
 case atStart => exact ⟨(0), z4458, H', ⟨Nat.le_refl _⟩, ⟨z5acd⟩⟩
 case round =>
  clear H'
  obtain ⟨x8_1, rfl, HA, HK1, HB⟩ := hrel
  cases gk with
  | zero => exact absurd HA.out (by simp [impl_Told_with_impl_LastTold_1_10100067.l0])
  | succ k1 =>
   have H := HA.out
   clear HA
   simp only [impl_Told_with_impl_LastTold_1_10100067.l0] at H
   by_cases c3 : x8_1 < (l0.length : Int)
   · rw [if_pos c3] at H
     have c3b0 := dL c3
     clear c3
     obtain ⟨c4b0, H⟩ := sE H
     obtain ⟨c5b0, H⟩ := sL H
     obtain ⟨t102, A6, H⟩ := bS H; try dsimp only at H
     by_cases c7 : t102 = true
     · subst c7
       rw [if_pos rfl] at H
       obtain rfl := Option.some.inj H
       have p101 : 0 ≤ (x8_1 : Int) := of_decide_eq_true z1200
       have q101 : x8_1 < (l0.length : Int) := of_decide_eq_true z1200
       obtain ⟨ad101, A101_1, c101_1, A101_8, c101_8, e101, hx101_0, hx101_1, hx101_2, hx101_3, hx101_4, hx101_5, hx101_6, hx101_7, hx101_8, hx101_9, hl101_1, hi101_1, hl101_8, hi101_8⟩ := at_T96 HR0.out x8_1 p101 q101
       cases e101
       have TW101_1 := aM hx101_1
       have TW101_8 := aM hx101_8
       replace hx101_0 := (HB.out.cell (World.block_lt_of_cell? w _ hx101_0)).trans hx101_0
       replace hx101_1 := (HB.out.cell (World.block_lt_of_cell? w _ hx101_1)).trans hx101_1
       replace hx101_2 := (HB.out.cell (World.block_lt_of_cell? w _ hx101_2)).trans hx101_2
       replace hx101_3 := (HB.out.cell (World.block_lt_of_cell? w _ hx101_3)).trans hx101_3
       replace hx101_4 := (HB.out.cell (World.block_lt_of_cell? w _ hx101_4)).trans hx101_4
       replace hx101_5 := (HB.out.cell (World.block_lt_of_cell? w _ hx101_5)).trans hx101_5
       replace hx101_6 := (HB.out.cell (World.block_lt_of_cell? w _ hx101_6)).trans hx101_6
       replace hx101_7 := (HB.out.cell (World.block_lt_of_cell? w _ hx101_7)).trans hx101_7
       replace hx101_8 := (HB.out.cell (World.block_lt_of_cell? w _ hx101_8)).trans hx101_8
       replace hx101_9 := (HB.out.cell (World.block_lt_of_cell? w _ hx101_9)).trans hx101_9
       have HR101_1 := aM hi101_1
       have HC101_1 := aM hl101_1
       clear hi101_1 hl101_1
       have HR101_8 := aM hi101_8
       have HC101_8 := aM hl101_8
       clear hi101_8 hl101_8
       replace p101 := eq_true p101
       replace q101 := eq_true q101
       go_wp2_with (first | (go_at_call 67; (with_reducible refine (impl_LastTold_1.calls k1 ((rd_T96 l0 x8_1).f0.f0) _ _ ((rd_T96 l0 x8_1).f0.f1) ((rd_T96 l0 x8_1).f0.f2) ((rd_T96 l0 x8_1).f1) ((rd_T96 l0 x8_1).f2.f0) ((rd_T96 l0 x8_1).f2.f1) ((rd_T96 l0 x8_1).f2.f2) ((rd_T96 l0 x8_1).f2.f3) _ _ ((rd_T96 l0 x8_1).f2.f4) ((rd_T96 l0 x8_1).f2.f5) true _ ?side1 ?side2 ?side3 ?side4 A6.out).mono ?_); (case side1 => exact (cZ (Kd.C_below HR101_1.out HB.out))); (case side2 => exact HC101_1.out); (case side3 => exact (cZ (Kd.C_below HR101_8.out HB.out))); (case side4 => exact HC101_8.out); rintro e w8 ⟨rfl, hb⟩; have _ := aM (below_step hbZ hb); clear HB; rename_i HB; (try clear hb)))
       go_ret
       exact ⟨z674d, z5acd⟩
     · replace c7 := Bool.eq_false_iff.mpr c7
       subst c7
       rw [if_neg (show ¬ (false = true) by decide)] at H
       have H' := aM H
       clear H
       have p101 : 0 ≤ (x8_1 : Int) := of_decide_eq_true z1200
       have q101 : x8_1 < (l0.length : Int) := of_decide_eq_true z1200
       obtain ⟨ad101, A101_1, c101_1, A101_8, c101_8, e101, hx101_0, hx101_1, hx101_2, hx101_3, hx101_4, hx101_5, hx101_6, hx101_7, hx101_8, hx101_9, hl101_1, hi101_1, hl101_8, hi101_8⟩ := at_T96 HR0.out x8_1 p101 q101
       cases e101
       have TW101_1 := aM hx101_1
       have TW101_8 := aM hx101_8
       replace hx101_0 := (HB.out.cell (World.block_lt_of_cell? w _ hx101_0)).trans hx101_0
       replace hx101_1 := (HB.out.cell (World.block_lt_of_cell? w _ hx101_1)).trans hx101_1
       replace hx101_2 := (HB.out.cell (World.block_lt_of_cell? w _ hx101_2)).trans hx101_2
       replace hx101_3 := (HB.out.cell (World.block_lt_of_cell? w _ hx101_3)).trans hx101_3
       replace hx101_4 := (HB.out.cell (World.block_lt_of_cell? w _ hx101_4)).trans hx101_4
       replace hx101_5 := (HB.out.cell (World.block_lt_of_cell? w _ hx101_5)).trans hx101_5
       replace hx101_6 := (HB.out.cell (World.block_lt_of_cell? w _ hx101_6)).trans hx101_6
       replace hx101_7 := (HB.out.cell (World.block_lt_of_cell? w _ hx101_7)).trans hx101_7
       replace hx101_8 := (HB.out.cell (World.block_lt_of_cell? w _ hx101_8)).trans hx101_8
       replace hx101_9 := (HB.out.cell (World.block_lt_of_cell? w _ hx101_9)).trans hx101_9
       have HR101_1 := aM hi101_1
       have HC101_1 := aM hl101_1
       clear hi101_1 hl101_1
       have HR101_8 := aM hi101_8
       have HC101_8 := aM hl101_8
       clear hi101_8 hl101_8
       replace p101 := eq_true p101
       replace q101 := eq_true q101
       go_wp2_with (first | (go_at_call 67; (with_reducible refine (impl_LastTold_1.calls k1 ((rd_T96 l0 x8_1).f0.f0) _ _ ((rd_T96 l0 x8_1).f0.f1) ((rd_T96 l0 x8_1).f0.f2) ((rd_T96 l0 x8_1).f1) ((rd_T96 l0 x8_1).f2.f0) ((rd_T96 l0 x8_1).f2.f1) ((rd_T96 l0 x8_1).f2.f2) ((rd_T96 l0 x8_1).f2.f3) _ _ ((rd_T96 l0 x8_1).f2.f4) ((rd_T96 l0 x8_1).f2.f5) false _ ?side1 ?side2 ?side3 ?side4 A6.out).mono ?_); (case side1 => exact (cZ (Kd.C_below HR101_1.out HB.out))); (case side2 => exact HC101_1.out); (case side3 => exact (cZ (Kd.C_below HR101_8.out HB.out))); (case side4 => exact HC101_8.out); rintro e w9 ⟨rfl, hb⟩; have _ := aM (below_step hbZ hb); clear HB; rename_i HB; (try clear hb)))
       go_roundg k1
       case measure => have := HK1.out; omega
       case rel => exact ⟨(wrap64 (x8_1 + 1)), z4458, H', ⟨zfb39⟩, ⟨z5acd⟩⟩
   · rw [if_neg c3] at H
     have c3b0 := nL c3
     clear c3
     obtain rfl := Option.some.inj H
     go_wp2
     go_ret
     exact ⟨z674d, z5acd⟩

end Go.Proofs.YtkgmoajdcibafaaDoor.P

-- written by a program of this session's (wip/pp)
namespace Go.Proofs.YtkgmoajdcibafaaDoor.P
open Go.RowKit Go.Proofs.YtkgmoajdcibafaaDoorW.PrintWords Go.Proofs.YtkgmoajdcibafaaDoorW.PrintLast Go.Proofs.YtkgmoajdcibafaaDoorW.PrintMore
attribute [local go_sem] max2_int min2_int max_two min_two max_three min_three max_four min_four str_geq str_gtr str_leq   -- for this text's walks alone
set_option linter.unusedVariables false
set_option linter.unusedSimpArgs false

/-! ### impl_Told_with_impl_LastTold_1_10066067: function 10066067 -/
def impl_Told_with_impl_LastTold_1_10066067.f (k : Nat) (l0 : List (S96))  : Option (Bool) := (impl_Told_with_impl_LastTold_1_10100067.f k l0).bind fun t101 => (some (decide (t101 ≥ 0)))
theorem impl_Told_with_impl_LastTold_1_10066067.mono : ∀ a0 k, LeO (impl_Told_with_impl_LastTold_1_10066067.f k a0) (impl_Told_with_impl_LastTold_1_10066067.f (k + 1) a0) := by
 intro a0 k
 have m0 := @impl_Told_with_impl_LastTold_1_10100067.mono
 unfold impl_Told_with_impl_LastTold_1_10066067.f
 exact moZ
set_option maxHeartbeats 8000000 in
set_option maxRecDepth 100000 in
theorem impl_Told_with_impl_LastTold_1_10066067.calls (k : Nat) (A0 : Option Addr) (c0 : Nat) (l0 : List (S96))  (r : Bool) (w : World) (hr0 : Kd.C k96 w A0 l0.length l0) (hc0 : l0.length ≤ c0) (h : impl_Told_with_impl_LastTold_1_10066067.f k l0 = some r) :
 Calls Tryd.prog 66 #[.slice A0 l0.length c0, .func (.func 67) #[] #[]] w fun e w' => e = .returned (.bool r) ∧ Below w.heap.size w w' := by
 have HR0 := aM hr0
 have HC0 := aM hc0
 clear hr0 hc0
 have HB := aM (Below.refl w.heap.size w)
 have H : ((impl_Told_with_impl_LastTold_1_10100067.f k l0).bind fun t101 => (some (decide (t101 ≥ 0)))) = some r := h
 clear h
 obtain ⟨t101, A3, H⟩ := bS H; try dsimp only at H
 obtain rfl := Option.some.inj H
 go_enter Tryd.func66, Tryd.ntmps66
 go_wp2_with (first | ((with_reducible refine gate_callee (f := 100) rfl ?_); refine gL 7 Tryd.func100 #[.slice A0 l0.length c0, .func (.func 67) #[] #[]] ?_; (with_reducible refine (impl_Told_with_impl_LastTold_1_10100067.calls k _ _ l0  t101 _ ?side1 ?side2 A3.out).mono ?_); (case side1 => exact z4195); (case side2 => exact HC0.out); rintro e w4 ⟨rfl, hb⟩; refine ⟨_, rfl, ?_⟩; have _ := aM (below_step hbZ hb); clear HB; rename_i HB; (try clear hb)))
 go_ret
 exact ⟨z674d, z5acd⟩

end Go.Proofs.YtkgmoajdcibafaaDoor.P

section
/- A call, in a region that draws, of a function that was handed on. No conditions. -/
set_option linter.unusedVariables false
namespace Go.Proofs.YtkgmoajdcibafaaDoor.P
open Go.RowKit Go.Proofs.YtkgmoajdcibafaaDoorW.PrintWords Go.Proofs.YtkgmoajdcibafaaDoorW.PrintLast Go.Proofs.YtkgmoajdcibafaaDoorW.PrintMore
theorem goesV_ {P : Program} {ops : Array Oper} {Q : Exit → Act → World → Prop} {oi : Oper} {N : Option Tmp} {a : Act} {w : World} {K : Act → World → Prop} {f : FuncId} {fn : Func} {t : Operand} {xs : Array Operand} {ts : Array TypeId} (hf : P.funcs[f]? = some fn) (hname : (fn.name == "runtime.NumGoroutine") = false) (hb : fn.body.isSome = true) (args : Array Value)
    (hw : Region.wanted oi (yielded ops a.tmps) = true) (hN : oi.dst = N) (hop : oi.op = .call { callee := .value t, args := xs, argTypes := ts }) (hv : a.eval t = .func (.func f) #[] #[]) (hargs : xs.map a.eval = args)
    (h : Calls P f args w fun e w' => ∃ v, e = .returned v ∧ K (a.put N v) w') : if Region.wanted oi (yielded ops a.tmps) = true then Oper.wp P oi a w K Q else K (a.put N undef) w := by
  refine call_ f args hw hN ?_ h
  have he := enters_ hf hname hb args w
  unfold execOp
  simp [hop, resolve, Deferred.ofValue, invoke, hv, hargs, he]
end Go.Proofs.YtkgmoajdcibafaaDoor.P
end

-- written by a program of this session's (wip/pp)
namespace Go.Proofs.YtkgmoajdcibafaaDoor.P
open Go.RowKit Go.Proofs.YtkgmoajdcibafaaDoorW.PrintWords Go.Proofs.YtkgmoajdcibafaaDoorW.PrintLast Go.Proofs.YtkgmoajdcibafaaDoorW.PrintMore
attribute [local go_sem] max2_int min2_int max_two min_two max_three min_three max_four min_four str_geq str_gtr str_leq   -- for this text's walks alone
set_option linter.unusedVariables false
set_option linter.unusedSimpArgs false

/-! ### cmp_Or_int: function 104 -/
def cmp_Or_int.l0 : Nat → Int → List Int → Int → Int → Option (Int)
 | 0, _, _, _, _ => none
 | k + 1, x3, x6, x7, x8 => if x8 < x7 then (if 0 ≤ x8 then (if x8 < (x6.length : Int) then (if (rd x6 x8) = x3 then (cmp_Or_int.l0 k x3 x6 x7 (wrap64 (x8 + 1))) else (some (rd x6 x8))) else (none)) else (none)) else (some x3)
def cmp_Or_int.f (k : Nat) (l0 : List Int) : Option (Int) := cmp_Or_int.l0 k 0 l0 (l0.length : Int) 0
theorem cmp_Or_int.mono_l : ∀ k, (∀ y0 y1 y2 y3, LeO (cmp_Or_int.l0 k y0 y1 y2 y3) (cmp_Or_int.l0 (k + 1) y0 y1 y2 y3))
 | 0 => fun _ _ _ _ r h => by simp [cmp_Or_int.l0] at h
 | k + 1 => by
  have ih0 := cmp_Or_int.mono_l k
  · intro y0 y1 y2 y3
    unfold cmp_Or_int.l0
    exact moZ
theorem cmp_Or_int.mono : ∀ a0 k, LeO (cmp_Or_int.f k a0) (cmp_Or_int.f (k + 1) a0) := by
 intro a0 k
 have ih0 := cmp_Or_int.mono_l k
 unfold cmp_Or_int.f
 exact moZ
set_option maxHeartbeats 8000000 in
set_option maxRecDepth 100000 in
theorem cmp_Or_int.calls (k : Nat) (A0 : Option Addr) (c0 : Nat) (l0 : List Int) (r : Int) (w : World) (hr0 : Kd.C (Kd.int .i64) w A0 l0.length l0) (hc0 : l0.length ≤ c0) (h : cmp_Or_int.f k l0 = some r) :
 Calls Tryd.prog 104 #[.slice A0 l0.length c0] w fun e w' => e = .returned (.int .i64 r) ∧ Drawn0 w w' := by
 have HR0 := aM hr0
 have HC0 := aM hc0
 clear hr0 hc0
 have H : (cmp_Or_int.l0 k 0 l0 (l0.length : Int) 0) = some r := h
 clear h
 have H' := aM H
 clear H
 go_enter Tryd.func104, Tryd.ntmps104
 go_wp2
 go_loopg [8] k (fun kq v8 w' => ∃ (x8_1 : Int), v8 = .int .i64 x8_1 ∧ Aside0 (cmp_Or_int.l0 kq 0 l0 (l0.length : Int) x8_1 = some r) ∧ Aside0 (kq ≤ k) ∧ Drawn0 w w')
 case atStart => exact ⟨(0), z4458, H', ⟨Nat.le_refl _⟩, za9de⟩
 case round =>
  clear H'
  obtain ⟨x8_1, rfl, HA, HK1, ⟨m1, rfl⟩⟩ := hrel
  cases gk with
  | zero => exact absurd HA.out (by simp [cmp_Or_int.l0])
  | succ k1 =>
   have H := HA.out
   clear HA
   simp only [cmp_Or_int.l0] at H
   by_cases c2 : x8_1 < (l0.length : Int)
   · rw [if_pos c2] at H
     have c2b0 := dL c2
     clear c2
     obtain ⟨c3b0, H⟩ := sE H
     obtain ⟨c4b0, H⟩ := sL H
     by_cases c5 : (rd l0 x8_1) = 0
     · rw [if_pos c5] at H
       have c5b0 : ((rd l0 x8_1) == 0) = true := beq_iff_eq.mpr c5
       have c5b1 : ((rd l0 x8_1) != 0) = false := bne_eq_false_iff_eq.mpr c5
       clear c5
       have H' := aM H
       clear H
       have p101 : 0 ≤ (x8_1 : Int) := of_decide_eq_true z1200
       have q101 : x8_1 < (l0.length : Int) := of_decide_eq_true z1200
       obtain ⟨ad101, e101, hx101_0⟩ := Kd.at_int HR0.out x8_1 p101 q101
       cases e101
       replace p101 := eq_true p101
       replace q101 := eq_true q101
       go_wp2
       go_roundg k1
       case measure => have := HK1.out; omega
       case rel => exact ⟨(wrap64 (x8_1 + 1)), z4458, H', ⟨zfb39⟩, za9de⟩
     · rw [if_neg c5] at H
       have c5b0 := eqN c5
       obtain rfl := Option.some.inj H
       have p101 : 0 ≤ (x8_1 : Int) := of_decide_eq_true z1200
       have q101 : x8_1 < (l0.length : Int) := of_decide_eq_true z1200
       obtain ⟨ad101, e101, hx101_0⟩ := Kd.at_int HR0.out x8_1 p101 q101
       cases e101
       replace p101 := eq_true p101
       replace q101 := eq_true q101
       go_wp2
       go_ret
       exact ⟨z4458, za9de⟩
   · rw [if_neg c2] at H
     have c2b0 := nL c2
     clear c2
     obtain rfl := Option.some.inj H
     go_wp2
     go_ret
     exact ⟨z4458, za9de⟩

end Go.Proofs.YtkgmoajdcibafaaDoor.P

-- written by a program of this session's (wip/pp)
namespace Go.Proofs.YtkgmoajdcibafaaDoor.P
open Go.RowKit Go.Proofs.YtkgmoajdcibafaaDoorW.PrintWords Go.Proofs.YtkgmoajdcibafaaDoorW.PrintLast Go.Proofs.YtkgmoajdcibafaaDoorW.PrintMore
attribute [local go_sem] max2_int min2_int max_two min_two max_three min_three max_four min_four str_geq str_gtr str_leq   -- for this text's walks alone
set_option linter.unusedVariables false
set_option linter.unusedSimpArgs false

/-! ### cmp_isNaN_string: function 115 -/
def cmp_isNaN_string.f (a0 : ByteArray) : Option (Bool) := some (a0.toList != a0.toList)
set_option maxHeartbeats 8000000 in
set_option maxRecDepth 100000 in
theorem cmp_isNaN_string.calls (a0 : ByteArray) (r : Bool) (w : World) (h : cmp_isNaN_string.f a0 = some r) :
 Calls Tryd.prog 115 #[.string a0] w fun e w' => e = .returned (.bool r) ∧ Drawn0 w w' := by
 have H : (some (a0.toList != a0.toList)) = some r := h
 clear h
 obtain rfl := Option.some.inj H
 go_enter Tryd.func115, Tryd.ntmps115
 go_wp2
 go_ret
 exact ⟨z4458, za9de⟩

end Go.Proofs.YtkgmoajdcibafaaDoor.P

-- written by a program of this session's (wip/pp)
namespace Go.Proofs.YtkgmoajdcibafaaDoor.P
open Go.RowKit Go.Proofs.YtkgmoajdcibafaaDoorW.PrintWords Go.Proofs.YtkgmoajdcibafaaDoorW.PrintLast Go.Proofs.YtkgmoajdcibafaaDoorW.PrintMore
attribute [local go_sem] max2_int min2_int max_two min_two max_three min_three max_four min_four str_geq str_gtr str_leq   -- for this text's walks alone
set_option linter.unusedVariables false
set_option linter.unusedSimpArgs false

/-! ### cmp_Compare_string: function 105 -/
def cmp_Compare_string.f (a0 : ByteArray) (a1 : ByteArray) : Option (Int) := (cmp_isNaN_string.f a0).bind fun t101 => ((cmp_isNaN_string.f a1).bind fun t102 => (if t101 = true then (if t102 = true then (some 0) else (some (-1))) else (if t102 = true then (some 1) else (if (Op.bytesLess a0.toList a1.toList) = true then (some (-1)) else (if (Op.bytesLess a1.toList a0.toList) = true then (some 1) else (some 0))))))
set_option maxHeartbeats 8000000 in
set_option maxRecDepth 100000 in
theorem cmp_Compare_string.calls (a0 : ByteArray) (a1 : ByteArray) (r : Int) (w : World) (h : cmp_Compare_string.f a0 a1 = some r) :
 Calls Tryd.prog 105 #[.string a0, .string a1] w fun e w' => e = .returned (.int .i64 r) ∧ Drawn0 w w' := by
 have H : ((cmp_isNaN_string.f a0).bind fun t101 => ((cmp_isNaN_string.f a1).bind fun t102 => (if t101 = true then (if t102 = true then (some 0) else (some (-1))) else (if t102 = true then (some 1) else (if (Op.bytesLess a0.toList a1.toList) = true then (some (-1)) else (if (Op.bytesLess a1.toList a0.toList) = true then (some 1) else (some 0))))))) = some r := h
 clear h
 obtain ⟨t101, A3, H⟩ := bS H; try dsimp only at H
 obtain ⟨t102, A4, H⟩ := bS H; try dsimp only at H
 by_cases c5 : t101 = true
 · subst c5
   rw [if_pos rfl] at H
   by_cases c6 : t102 = true
   · subst c6
     rw [if_pos rfl] at H
     obtain rfl := Option.some.inj H
     go_enter Tryd.func105, Tryd.ntmps105
     go_wp2_with (first | ((with_reducible refine gate_callee (f := 115) rfl ?_); refine gL 8 Tryd.func115 #[.string a0] ?_; (with_reducible refine (cmp_isNaN_string.calls a0 true _ A3.out).mono ?_); rintro e w' ⟨rfl, ⟨nd, rfl⟩⟩; refine ⟨_, rfl, ?_⟩) | ((with_reducible refine gate_callee (f := 115) rfl ?_); refine gL 10 Tryd.func115 #[.string a1] ?_; (with_reducible refine (cmp_isNaN_string.calls a1 true _ A4.out).mono ?_); rintro e w' ⟨rfl, ⟨nd, rfl⟩⟩; refine ⟨_, rfl, ?_⟩))
     go_ret
     exact ⟨z4458, za9de⟩
   · replace c6 := Bool.eq_false_iff.mpr c6
     subst c6
     rw [if_neg (show ¬ (false = true) by decide)] at H
     obtain rfl := Option.some.inj H
     go_enter Tryd.func105, Tryd.ntmps105
     go_wp2_with (first | ((with_reducible refine gate_callee (f := 115) rfl ?_); refine gL 8 Tryd.func115 #[.string a0] ?_; (with_reducible refine (cmp_isNaN_string.calls a0 true _ A3.out).mono ?_); rintro e w' ⟨rfl, ⟨nd, rfl⟩⟩; refine ⟨_, rfl, ?_⟩) | ((with_reducible refine gate_callee (f := 115) rfl ?_); refine gL 10 Tryd.func115 #[.string a1] ?_; (with_reducible refine (cmp_isNaN_string.calls a1 false _ A4.out).mono ?_); rintro e w' ⟨rfl, ⟨nd, rfl⟩⟩; refine ⟨_, rfl, ?_⟩))
     go_ret
     exact ⟨z4458, za9de⟩
 · replace c5 := Bool.eq_false_iff.mpr c5
   subst c5
   rw [if_neg (show ¬ (false = true) by decide)] at H
   by_cases c7 : t102 = true
   · subst c7
     rw [if_pos rfl] at H
     obtain rfl := Option.some.inj H
     go_enter Tryd.func105, Tryd.ntmps105
     go_wp2_with (first | ((with_reducible refine gate_callee (f := 115) rfl ?_); refine gL 8 Tryd.func115 #[.string a0] ?_; (with_reducible refine (cmp_isNaN_string.calls a0 false _ A3.out).mono ?_); rintro e w' ⟨rfl, ⟨nd, rfl⟩⟩; refine ⟨_, rfl, ?_⟩) | ((with_reducible refine gate_callee (f := 115) rfl ?_); refine gL 10 Tryd.func115 #[.string a1] ?_; (with_reducible refine (cmp_isNaN_string.calls a1 true _ A4.out).mono ?_); rintro e w' ⟨rfl, ⟨nd, rfl⟩⟩; refine ⟨_, rfl, ?_⟩))
     go_ret
     exact ⟨z4458, za9de⟩
   · replace c7 := Bool.eq_false_iff.mpr c7
     subst c7
     rw [if_neg (show ¬ (false = true) by decide)] at H
     by_cases c8 : (Op.bytesLess a0.toList a1.toList) = true
     · rw [if_pos c8] at H
       have c8b0 : (Op.bytesLess a0.toList a1.toList) = true := c8
       clear c8
       obtain rfl := Option.some.inj H
       go_enter Tryd.func105, Tryd.ntmps105
       go_wp2_with (first | ((with_reducible refine gate_callee (f := 115) rfl ?_); refine gL 8 Tryd.func115 #[.string a0] ?_; (with_reducible refine (cmp_isNaN_string.calls a0 false _ A3.out).mono ?_); rintro e w' ⟨rfl, ⟨nd, rfl⟩⟩; refine ⟨_, rfl, ?_⟩) | ((with_reducible refine gate_callee (f := 115) rfl ?_); refine gL 10 Tryd.func115 #[.string a1] ?_; (with_reducible refine (cmp_isNaN_string.calls a1 false _ A4.out).mono ?_); rintro e w' ⟨rfl, ⟨nd, rfl⟩⟩; refine ⟨_, rfl, ?_⟩))
       go_ret
       exact ⟨z4458, za9de⟩
     · rw [if_neg c8] at H
       have c8b0 : (Op.bytesLess a0.toList a1.toList) = false := by simpa using c8
       clear c8
       by_cases c9 : (Op.bytesLess a1.toList a0.toList) = true
       · rw [if_pos c9] at H
         have c9b0 : (Op.bytesLess a1.toList a0.toList) = true := c9
         clear c9
         obtain rfl := Option.some.inj H
         go_enter Tryd.func105, Tryd.ntmps105
         go_wp2_with (first | ((with_reducible refine gate_callee (f := 115) rfl ?_); refine gL 8 Tryd.func115 #[.string a0] ?_; (with_reducible refine (cmp_isNaN_string.calls a0 false _ A3.out).mono ?_); rintro e w' ⟨rfl, ⟨nd, rfl⟩⟩; refine ⟨_, rfl, ?_⟩) | ((with_reducible refine gate_callee (f := 115) rfl ?_); refine gL 10 Tryd.func115 #[.string a1] ?_; (with_reducible refine (cmp_isNaN_string.calls a1 false _ A4.out).mono ?_); rintro e w' ⟨rfl, ⟨nd, rfl⟩⟩; refine ⟨_, rfl, ?_⟩))
         go_ret
         exact ⟨z4458, za9de⟩
       · rw [if_neg c9] at H
         have c9b0 : (Op.bytesLess a1.toList a0.toList) = false := by simpa using c9
         clear c9
         obtain rfl := Option.some.inj H
         go_enter Tryd.func105, Tryd.ntmps105
         go_wp2_with (first | ((with_reducible refine gate_callee (f := 115) rfl ?_); refine gL 8 Tryd.func115 #[.string a0] ?_; (with_reducible refine (cmp_isNaN_string.calls a0 false _ A3.out).mono ?_); rintro e w' ⟨rfl, ⟨nd, rfl⟩⟩; refine ⟨_, rfl, ?_⟩) | ((with_reducible refine gate_callee (f := 115) rfl ?_); refine gL 10 Tryd.func115 #[.string a1] ?_; (with_reducible refine (cmp_isNaN_string.calls a1 false _ A4.out).mono ?_); rintro e w' ⟨rfl, ⟨nd, rfl⟩⟩; refine ⟨_, rfl, ?_⟩))
         go_ret
         exact ⟨z4458, za9de⟩

end Go.Proofs.YtkgmoajdcibafaaDoor.P

-- written by a program of this session's (wip/pp)
namespace Go.Proofs.YtkgmoajdcibafaaDoor.P
open Go.RowKit Go.Proofs.YtkgmoajdcibafaaDoorW.PrintWords Go.Proofs.YtkgmoajdcibafaaDoorW.PrintLast Go.Proofs.YtkgmoajdcibafaaDoorW.PrintMore
attribute [local go_sem] max2_int min2_int max_two min_two max_three min_three max_four min_four str_geq str_gtr str_leq   -- for this text's walks alone
set_option linter.unusedVariables false
set_option linter.unusedSimpArgs false

/-! ### cmp_isNaN_int: function 116 -/
def cmp_isNaN_int.f (a0 : Int) : Option (Bool) := some (a0 != a0)
set_option maxHeartbeats 8000000 in
set_option maxRecDepth 100000 in
theorem cmp_isNaN_int.calls (a0 : Int) (r : Bool) (w : World) (h : cmp_isNaN_int.f a0 = some r) :
 Calls Tryd.prog 116 #[.int .i64 a0] w fun e w' => e = .returned (.bool r) ∧ Drawn0 w w' := by
 have H : (some (a0 != a0)) = some r := h
 clear h
 obtain rfl := Option.some.inj H
 go_enter Tryd.func116, Tryd.ntmps116
 go_wp2
 go_ret
 exact ⟨z4458, za9de⟩

end Go.Proofs.YtkgmoajdcibafaaDoor.P

-- written by a program of this session's (wip/pp)
namespace Go.Proofs.YtkgmoajdcibafaaDoor.P
open Go.RowKit Go.Proofs.YtkgmoajdcibafaaDoorW.PrintWords Go.Proofs.YtkgmoajdcibafaaDoorW.PrintLast Go.Proofs.YtkgmoajdcibafaaDoorW.PrintMore
attribute [local go_sem] max2_int min2_int max_two min_two max_three min_three max_four min_four str_geq str_gtr str_leq   -- for this text's walks alone
set_option linter.unusedVariables false
set_option linter.unusedSimpArgs false

/-! ### cmp_Compare_int: function 106 -/
def cmp_Compare_int.f (a0 : Int) (a1 : Int) : Option (Int) := (cmp_isNaN_int.f a0).bind fun t101 => ((cmp_isNaN_int.f a1).bind fun t102 => (if t101 = true then (if t102 = true then (some 0) else (some (-1))) else (if t102 = true then (some 1) else (if a0 < a1 then (some (-1)) else (if a0 > a1 then (some 1) else (some 0))))))
set_option maxHeartbeats 8000000 in
set_option maxRecDepth 100000 in
theorem cmp_Compare_int.calls (a0 : Int) (a1 : Int) (r : Int) (w : World) (h : cmp_Compare_int.f a0 a1 = some r) :
 Calls Tryd.prog 106 #[.int .i64 a0, .int .i64 a1] w fun e w' => e = .returned (.int .i64 r) ∧ Drawn0 w w' := by
 have H : ((cmp_isNaN_int.f a0).bind fun t101 => ((cmp_isNaN_int.f a1).bind fun t102 => (if t101 = true then (if t102 = true then (some 0) else (some (-1))) else (if t102 = true then (some 1) else (if a0 < a1 then (some (-1)) else (if a0 > a1 then (some 1) else (some 0))))))) = some r := h
 clear h
 obtain ⟨t101, A3, H⟩ := bS H; try dsimp only at H
 obtain ⟨t102, A4, H⟩ := bS H; try dsimp only at H
 by_cases c5 : t101 = true
 · subst c5
   rw [if_pos rfl] at H
   by_cases c6 : t102 = true
   · subst c6
     rw [if_pos rfl] at H
     obtain rfl := Option.some.inj H
     go_enter Tryd.func106, Tryd.ntmps106
     go_wp2_with (first | ((with_reducible refine gate_callee (f := 116) rfl ?_); refine gL 8 Tryd.func116 #[.int .i64 a0] ?_; (with_reducible refine (cmp_isNaN_int.calls a0 true _ A3.out).mono ?_); rintro e w' ⟨rfl, ⟨nd, rfl⟩⟩; refine ⟨_, rfl, ?_⟩) | ((with_reducible refine gate_callee (f := 116) rfl ?_); refine gL 10 Tryd.func116 #[.int .i64 a1] ?_; (with_reducible refine (cmp_isNaN_int.calls a1 true _ A4.out).mono ?_); rintro e w' ⟨rfl, ⟨nd, rfl⟩⟩; refine ⟨_, rfl, ?_⟩))
     go_ret
     exact ⟨z4458, za9de⟩
   · replace c6 := Bool.eq_false_iff.mpr c6
     subst c6
     rw [if_neg (show ¬ (false = true) by decide)] at H
     obtain rfl := Option.some.inj H
     go_enter Tryd.func106, Tryd.ntmps106
     go_wp2_with (first | ((with_reducible refine gate_callee (f := 116) rfl ?_); refine gL 8 Tryd.func116 #[.int .i64 a0] ?_; (with_reducible refine (cmp_isNaN_int.calls a0 true _ A3.out).mono ?_); rintro e w' ⟨rfl, ⟨nd, rfl⟩⟩; refine ⟨_, rfl, ?_⟩) | ((with_reducible refine gate_callee (f := 116) rfl ?_); refine gL 10 Tryd.func116 #[.int .i64 a1] ?_; (with_reducible refine (cmp_isNaN_int.calls a1 false _ A4.out).mono ?_); rintro e w' ⟨rfl, ⟨nd, rfl⟩⟩; refine ⟨_, rfl, ?_⟩))
     go_ret
     exact ⟨z4458, za9de⟩
 · replace c5 := Bool.eq_false_iff.mpr c5
   subst c5
   rw [if_neg (show ¬ (false = true) by decide)] at H
   by_cases c7 : t102 = true
   · subst c7
     rw [if_pos rfl] at H
     obtain rfl := Option.some.inj H
     go_enter Tryd.func106, Tryd.ntmps106
     go_wp2_with (first | ((with_reducible refine gate_callee (f := 116) rfl ?_); refine gL 8 Tryd.func116 #[.int .i64 a0] ?_; (with_reducible refine (cmp_isNaN_int.calls a0 false _ A3.out).mono ?_); rintro e w' ⟨rfl, ⟨nd, rfl⟩⟩; refine ⟨_, rfl, ?_⟩) | ((with_reducible refine gate_callee (f := 116) rfl ?_); refine gL 10 Tryd.func116 #[.int .i64 a1] ?_; (with_reducible refine (cmp_isNaN_int.calls a1 true _ A4.out).mono ?_); rintro e w' ⟨rfl, ⟨nd, rfl⟩⟩; refine ⟨_, rfl, ?_⟩))
     go_ret
     exact ⟨z4458, za9de⟩
   · replace c7 := Bool.eq_false_iff.mpr c7
     subst c7
     rw [if_neg (show ¬ (false = true) by decide)] at H
     by_cases c8 : a0 < a1
     · rw [if_pos c8] at H
       have c8b0 := dL c8
       clear c8
       obtain rfl := Option.some.inj H
       go_enter Tryd.func106, Tryd.ntmps106
       go_wp2_with (first | ((with_reducible refine gate_callee (f := 116) rfl ?_); refine gL 8 Tryd.func116 #[.int .i64 a0] ?_; (with_reducible refine (cmp_isNaN_int.calls a0 false _ A3.out).mono ?_); rintro e w' ⟨rfl, ⟨nd, rfl⟩⟩; refine ⟨_, rfl, ?_⟩) | ((with_reducible refine gate_callee (f := 116) rfl ?_); refine gL 10 Tryd.func116 #[.int .i64 a1] ?_; (with_reducible refine (cmp_isNaN_int.calls a1 false _ A4.out).mono ?_); rintro e w' ⟨rfl, ⟨nd, rfl⟩⟩; refine ⟨_, rfl, ?_⟩))
       go_ret
       exact ⟨z4458, za9de⟩
     · rw [if_neg c8] at H
       have c8b0 := nL c8
       clear c8
       by_cases c9 : a0 > a1
       · rw [if_pos c9] at H
         have c9b0 := dL c9
         clear c9
         obtain rfl := Option.some.inj H
         go_enter Tryd.func106, Tryd.ntmps106
         go_wp2_with (first | ((with_reducible refine gate_callee (f := 116) rfl ?_); refine gL 8 Tryd.func116 #[.int .i64 a0] ?_; (with_reducible refine (cmp_isNaN_int.calls a0 false _ A3.out).mono ?_); rintro e w' ⟨rfl, ⟨nd, rfl⟩⟩; refine ⟨_, rfl, ?_⟩) | ((with_reducible refine gate_callee (f := 116) rfl ?_); refine gL 10 Tryd.func116 #[.int .i64 a1] ?_; (with_reducible refine (cmp_isNaN_int.calls a1 false _ A4.out).mono ?_); rintro e w' ⟨rfl, ⟨nd, rfl⟩⟩; refine ⟨_, rfl, ?_⟩))
         go_ret
         exact ⟨z4458, za9de⟩
       · rw [if_neg c9] at H
         have c9b0 := nL c9
         clear c9
         obtain rfl := Option.some.inj H
         go_enter Tryd.func106, Tryd.ntmps106
         go_wp2_with (first | ((with_reducible refine gate_callee (f := 116) rfl ?_); refine gL 8 Tryd.func116 #[.int .i64 a0] ?_; (with_reducible refine (cmp_isNaN_int.calls a0 false _ A3.out).mono ?_); rintro e w' ⟨rfl, ⟨nd, rfl⟩⟩; refine ⟨_, rfl, ?_⟩) | ((with_reducible refine gate_callee (f := 116) rfl ?_); refine gL 10 Tryd.func116 #[.int .i64 a1] ?_; (with_reducible refine (cmp_isNaN_int.calls a1 false _ A4.out).mono ?_); rintro e w' ⟨rfl, ⟨nd, rfl⟩⟩; refine ⟨_, rfl, ?_⟩))
         go_ret
         exact ⟨z4458, za9de⟩

end Go.Proofs.YtkgmoajdcibafaaDoor.P

-- written by a program of this session's (wip/pp)
namespace Go.Proofs.YtkgmoajdcibafaaDoor.P
open Go.RowKit Go.Proofs.YtkgmoajdcibafaaDoorW.PrintWords Go.Proofs.YtkgmoajdcibafaaDoorW.PrintLast Go.Proofs.YtkgmoajdcibafaaDoorW.PrintMore
attribute [local go_sem] max2_int min2_int max_two min_two max_three min_three max_four min_four str_geq str_gtr str_leq   -- for this text's walks alone
set_option linter.unusedVariables false
set_option linter.unusedSimpArgs false

/-! ### impl_CompareKeys_1: function 103 -/
def impl_CompareKeys_1.f (k : Nat) (a0_0 : ByteArray) (a0_1 : ByteArray) (a1_0 : ByteArray) (a1_1 : ByteArray) : Option (Int) := (cmp_Compare_string.f a0_0 a1_0).bind fun t103 => ((cmp_Compare_string.f a0_1 a1_1).bind fun t104 => ((cmp_Or_int.f k (([t103, t104] : List Int))).bind fun t108 => (some t108)))
theorem impl_CompareKeys_1.mono : ∀ a0 a1 a2 a3 k, LeO (impl_CompareKeys_1.f k a0 a1 a2 a3) (impl_CompareKeys_1.f (k + 1) a0 a1 a2 a3) := by
 intro a0 a1 a2 a3 k
 have m0 := @cmp_Or_int.mono
 unfold impl_CompareKeys_1.f
 exact moZ
def impl_CompareKeys_1.T1 : Bool × List (List Nat × List Nat) := (true, [([], []), ([0], [0]), ([], []), ([2], [2]), ([1, 3], [1, 3]), ([], []), ([5], [5]), ([], []), ([7], [7]), ([6, 8, 4], [6, 8]), ([4, 9], [4, 9]), ([10, 9], [10]), ([11, 11, 0, 1, 2, 3, 4, 5, 6, 7, 8, 9, 10, 11], [11])])
def impl_CompareKeys_1.B1 : List Nat := [0, 1, 0, 4, 15, 0, 32, 0, 128, 511, 1023, 2047, 4095]
theorem impl_CompareKeys_1.tab1 : rtab .any (opsOf Tryd.f103 1) = impl_CompareKeys_1.T1 := by kernel_rfl
theorem impl_CompareKeys_1.bits1 : waitsOk impl_CompareKeys_1.T1.2 impl_CompareKeys_1.B1 = true := by kernel_rfl
set_option maxHeartbeats 8000000 in
set_option maxRecDepth 100000 in
theorem impl_CompareKeys_1.calls (k : Nat) (a0_0 : ByteArray) (a0_1 : ByteArray) (a1_0 : ByteArray) (a1_1 : ByteArray) (r : Int) (w : World) (h : impl_CompareKeys_1.f k a0_0 a0_1 a1_0 a1_1 = some r) :
 Calls Tryd.prog 103 #[.agg #[.string a0_0, .string a0_1], .agg #[.string a1_0, .string a1_1]] w fun e w' => e = .returned (.int .i64 r) ∧ Below w.heap.size w w' := by
 have hu123 := Tryd.underlying123
 have HB := aM (Below.refl w.heap.size w)
 have H : ((cmp_Compare_string.f a0_0 a1_0).bind fun t103 => ((cmp_Compare_string.f a0_1 a1_1).bind fun t104 => ((cmp_Or_int.f k (([t103, t104] : List Int))).bind fun t108 => (some t108)))) = some r := h
 clear h
 obtain ⟨t103, A3, H⟩ := bS H; try dsimp only at H
 obtain ⟨t104, A4, H⟩ := bS H; try dsimp only at H
 obtain ⟨y105, hy105⟩ : ∃ y_ : List Int, y_ = (([t103, t104] : List Int)) := ⟨_, rfl⟩
 first | (replace H := bindS H; rw [← hy105] at H; try dsimp only at H) | rw [← hy105] at H
 have Ny105 := aM hy105
 clear hy105
 obtain ⟨t108, A5, H⟩ := bS H; try dsimp only at H
 obtain rfl := Option.some.inj H
 go_enter Tryd.func103, Tryd.ntmps103
 try go_wp2_with (first | ((with_reducible refine gate_dst (N := 2) rfl ?_); refine bX 2 123 #[.string a0_0, .string a0_1] ?_; intro gb101 hg w6 hbox hb; have _ := aM (below_step hbZ hb); have _ := aM hbox; have _ := szZ hg; have _ := szZ hg; clear HB; rename_i HB BK101 GW101 GE101; clear hb hbox hg) | ((with_reducible refine gate_dst (N := 3) rfl ?_); refine bX 3 123 #[.string a1_0, .string a1_1] ?_; intro gb102 hg w7 hbox hb; have _ := bB gb101 hb; have _ := aM (below_step hbZ hb); have _ := aM hbox; have _ := szZ hg; have _ := szZ hg; have ⟨_, _⟩ := nbB gb101 hg; clear BK101 HB; rename_i BK101 HB BK102 GW102 GE102 NB101_102 NB102_101; clear hb hbox hg))
 have _ := aM (blk_drew BK101.out)
 have _ := aM (blk_drew BK102.out)
 have _ := aM (below_drew1 HB.out)
 clear BK101
 clear BK102
 clear HB
 rename_i BK101 BK102 HB
 refine sA 13 impl_CompareKeys_1.tab1 impl_CompareKeys_1.bits1 (fun w' => w'.cell? ⟨gb101, 0, none⟩ = some (.string a0_0) ∧ w'.cell? ⟨gb101, 1, none⟩ = some (.string a0_1) ∧ w'.cell? ⟨gb102, 0, none⟩ = some (.string a1_0) ∧ w'.cell? ⟨gb102, 1, none⟩ = some (.string a1_1)) [] (fun hHeld HT_ HW_ => ?_)
 generalize w7.drew = w8 at BK101 BK102 HB hHeld ⊢
 refine pA 0 5 HT_ ?_; refine pA 2 7 HT_ ?_; refine pA 5 10 HT_ ?_; refine pA 7 12 HT_ ?_; refine tA 1 6 HT_ HW_ hHeld ?_; refine tA 3 8 HT_ HW_ hHeld ?_; refine tA 6 11 HT_ HW_ hHeld ?_; refine tA 8 13 HT_ HW_ hHeld ?_; refine oA 4 9 HT_ (fun K hK => ?_)
 refine goes_ Tryd.func105 (by kernel_rfl) rfl #[.string a0_0, .string a1_0] (by rfl) rfl rfl zee81 ?_
 with_reducible refine (cmp_Compare_string.calls a0_0 a1_0 t103 _ A3.out).mono ?_
 rintro e w' ⟨rfl, ⟨nd, rfl⟩⟩
 refine ⟨_, rfl, ?_⟩
 refine hK.out _ _ sZ (fun hHeld => ?_)
 clear hK K
 refine nA 9 ?_; refine oA 9 14 HT_ (fun K hK => ?_)
 refine goes_ Tryd.func105 (by kernel_rfl) rfl #[.string a0_1, .string a1_1] (by rfl) rfl rfl zee81 ?_
 with_reducible refine (cmp_Compare_string.calls a0_1 a1_1 t104 _ A4.out).mono ?_
 rintro e w' ⟨rfl, ⟨nd, rfl⟩⟩
 refine ⟨_, rfl, ?_⟩
 refine hK.out _ _ sZ (fun hHeld => ?_)
 clear hK K
 refine nA 14 ?_; refine oA 10 15 HT_ (fun K hK => ?_)
 refine Kd.R_lit_step (Kd.int .i64) _ 3 ?hg (N := 15) ?hd (xs := ([t103, t104] : List Int)) (inner := [.int .i64 t103, .int .i64 t104]) (ok := fun _ => True) (okp := fun _ => True) ?hr ?hp (fun _ hk => hk) trivial (Below.refl _ _) (Nat.le_refl _) (by simp) ?_; (case hd => rfl); (case hg => rfl); (case hr => first | (go_simp; done) | (go_simp; rfl)); (case hp => exact (Reps.one (show Kd.M (Kd.int .i64) _ _ _ t103 [.int .i64 t103] from rfl) (Reps.one (show Kd.M (Kd.int .i64) _ _ _ t104 [.int .i64 t104] from rfl) (Reps.none _ _))))
 intro v106 w9 ho10 hb hg_ hnew_
 clear hg_ hnew_
 (first | rw [← Ny105.out] at ho10 | (simp only [Int.reduceToNat] at ho10; rw [← Ny105.out] at ho10))
 have _ := aM (Kd.R_lower ho10 (below_size hbZ))
 have _ := bB gb101 hb
 have _ := bB gb102 hb
 have _ := aM (below_step hbZ hb)
 clear BK101
 clear BK102
 clear HB
 rename_i HO107 BK101 BK102 HB
 clear hb ho10
 obtain ⟨Ao11, co11, eo11⟩ := Kd.R_slice HO107.out
 (first | subst eo11 | (injection eo11 with f1_ f2_ f3_; have f4_ := f1_.symm; have f5_ := f3_.symm; clear f1_ f2_ f3_; subst f4_; subst f5_))
 refine hK.out _ _ sZ (fun hHeld => ?_)
 clear hK K
 refine nA 15 ?_; refine oA 11 16 HT_ (fun K hK => ?_)
 refine goes_ Tryd.func104 (by kernel_rfl) rfl #[.slice Ao11 y105.length co11] (by rfl) rfl rfl zee81 ?_
 with_reducible refine (cmp_Or_int.calls k _ _ y105 t108 _ ?side1 ?side2 A5.out).mono ?_
 (case side1 => exact (by repeat (first | exact (Kd.R_reads' HO107.out).2.2 | (with_reducible refine Kd.C_alloc ?_ _) | (with_reducible refine Kd.C_drewN ?_ _) | (with_reducible refine Kd.C_drew ?_))))
 (case side2 => exact (Kd.R_reads' HO107.out).2.1)
 rintro e w' ⟨rfl, ⟨nd, rfl⟩⟩
 refine ⟨_, rfl, ?_⟩
 refine hK.out _ _ sZ (fun hHeld => ?_)
 clear hK K
 refine nA 16 ?_; refine pA 12 4 HT_ ?_
 refine done_ (done_of HT_.out (by kernel_rfl)) ?_
 try go_wp2
 go_ret
 exact ⟨z674d, zcb41⟩

end Go.Proofs.YtkgmoajdcibafaaDoor.P
