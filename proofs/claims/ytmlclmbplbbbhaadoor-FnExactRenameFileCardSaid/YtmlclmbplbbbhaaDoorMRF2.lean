/- Part 2 of the walks and words that RF uses. No conditions of its own. -/
import Derived.Test.YtmlclmbplbbbhaaDoorProg
import Derived.Below
import Derived.Deep.Draws
import Derived.Deep.AppendLies
import Derived.Maps.AppendAt
import Derived.OwnWalk
import Derived.Laws.BytesArg
import Derived.Laws.MakeOwn
import Derived.Laws.OwnMore
import Derived.Deep.OwnRows
import Derived.Tactics
import Derived.Lib.ConvBytes
import Derived.Laws.Slices
import Derived.WalkKit
import Derived.KernelRfl
import Derived.RowKit3
import Derived.Deep.LoopGhost
import Derived.Deep.QuietTactic
import Derived.BigQuiet
import Derived.WideLaws
import Derived.Deep.DeepCutAuto
import Derived.Deep.CutBlock
import Derived.Deep.RegionHeld3
import Derived.Laws.Rows
import Derived.Lib.AppendStr
import Derived.ArgAppend
import Derived.Laws.IdiomCopy
import Derived.OrdersHeld
import Derived.Laws.BitsLemmas
import Derived.RowKit
import Derived.Lib.SliceRun
import Derived.Shelf.RegionOpenPlain
import Derived.Lib.AppendZeros
import Derived.Lib.AppendZerosOnto
import Derived.Lib.Overlaps
import Derived.Laws.Externs
import Derived.Laws.CopyRow
import Derived.Shelf.Strings.SlTrimAscii
import Derived.Shelf.Strings.Trim
import Derived.Shelf.Small.Utf8
import Derived.Shelf.Small.Strs
import Derived.Shelf.Strings.Search1
import Derived.Shelf.Strings.Runes
import Derived.Shelf.Strings.AsciiSet
import Derived.Shelf.Unicode.DecodeSlow
import Derived.Lib.SlTrimSet
import Derived.Test.YtmlclmbplbbbhaaDoorMRF1

section
/- Short words for the walks: each is a proof of its statement, found where it is used. No conditions. -/
namespace Go.Proofs.YtmlclmbplbbbhaaDoor.P
open Go.RowKit Go.Proofs.YtmlclmbplbbbhaaDoorW.PrintWords Go.Proofs.YtmlclmbplbbbhaaDoorW.PrintLast Go.Proofs.YtmlclmbplbbbhaaDoorW.PrintMore
theorem less_tri : ∀ a b : List UInt8, Op.bytesLess b a = !(Op.bytesLess a b || a == b)
  | [], [] => rfl
  | [], _ :: _ => rfl
  | _ :: _, [] => rfl
  | a :: x, b :: y => by
    rw [Op.bytesLess, Op.bytesLess, less_tri x y, List.cons_beq_cons]
    by_cases h : a = b
    · subst h
      rw [beq_self_eq_true, show decide (a < a) = false from decide_eq_false (by rw [UInt8.lt_iff_toNat_lt]; omega)]
      simp only [Bool.true_and, Bool.false_or]
    · have h' : a.toNat ≠ b.toNat := fun e => h (UInt8.toNat_inj.1 e)
      have e1 : (a == b) = false := beq_eq_false_iff_ne.2 h
      have e2 : (b == a) = false := beq_eq_false_iff_ne.2 (Ne.symm h)
      rw [e1, e2, Bool.false_and, Bool.false_and, Bool.or_false, Bool.or_false, Bool.false_and, Bool.or_false]
      by_cases hl : a < b
      · rw [decide_eq_true hl, decide_eq_false (by rw [UInt8.lt_iff_toNat_lt] at hl ⊢; omega)]; rfl
      · rw [decide_eq_false hl, decide_eq_true (by rw [UInt8.lt_iff_toNat_lt] at hl ⊢; omega)]; rfl
theorem str_geq (t : TypeId) (a b : ByteArray) : binOp .geq t (.string a) (.string b) = pure (.bool !(Op.bytesLess a.toList b.toList)) := by simp [binOp, Op.stringOp]
theorem str_gtr (t : TypeId) (a b : ByteArray) : binOp .gtr t (.string a) (.string b) = pure (.bool (Op.bytesLess b.toList a.toList)) := by rw [less_tri a.toList b.toList]; simp [binOp, Op.stringOp]
theorem str_leq (t : TypeId) (a b : ByteArray) : binOp .leq t (.string a) (.string b) = pure (.bool !(Op.bytesLess b.toList a.toList)) := by rw [less_tri a.toList b.toList]; simp [binOp, Op.stringOp]
set_option linter.unusedVariables false
section
variable {P : Program} {md : Region.Mode} {ops : Array Oper} {Q : Exit → Act → World → Prop} {S : World → Prop} {ds : List Nat} {T : Bool × List (List Nat × List Nat)} {B : List Nat} {oi : Oper} {v : Value} {fuel : Nat} {l l' : Array Bool} {a a' : Act} {w : World}
theorem pA (i N : Nat) (hT : Aside0 (rtab md ops = T)) (h : wpAnyLast P md ops Q S ds fuel l' a' w) (hi : ops[i]? = some oi := by rfl) (hN : oi.dst = some N := by rfl)
    (hl : l.setIfInBounds i true = l' := by simp only [List.setIfInBounds_toArray, List.set_cons_zero, List.set_cons_succ]; rfl) (hc : anyT T l.toList l'.toList i = true := by kernel_rfl)
    (hQ : ∀ c a w, Q (.panic c) (a.put oi.dst v) w → Q (.panic c) a w := by exact fun _ _ _ h => h) (hw : Region.wanted oi (yielded ops a.tmps) = true := by rfl)
    (hy : ∀ w', (execOp a.eval oi).run P w' = .ok (.value v) w' := by intro w'; go_simp; with_reducible rfl) (ha : a.put (some N) v = a' := by simp only [Act.put, List.setIfInBounds_toArray, List.set_cons_zero, List.set_cons_succ, i64_w, i32_w]; rfl) : wpAnyLast P md ops Q S ds (fuel + 1) l a w :=
  pure_ l' hi hN (any_of hT.out hc) hQ (Or.inl ⟨hw, hy⟩) ha h
theorem uA (i N : Nat) (hT : Aside0 (rtab md ops = T)) (h : wpAnyLast P md ops Q S ds fuel l' a' w) (hi : ops[i]? = some oi := by rfl) (hN : oi.dst = some N := by rfl)
    (hl : l.setIfInBounds i true = l' := by simp only [List.setIfInBounds_toArray, List.set_cons_zero, List.set_cons_succ]; rfl) (hc : anyT T l.toList l'.toList i = true := by kernel_rfl)
    (hQ : ∀ c a w, Q (.panic c) (a.put oi.dst undef) w → Q (.panic c) a w := by exact fun _ _ _ h => h) (hw : Region.wanted oi (yielded ops a.tmps) = false := by rfl)
    (ha : a.put (some N) undef = a' := by simp only [Act.put, List.setIfInBounds_toArray, List.set_cons_zero, List.set_cons_succ, i64_w, i32_w]; rfl) : wpAnyLast P md ops Q S ds (fuel + 1) l a w :=
  pure_ l' hi hN (any_of hT.out hc) hQ (Or.inr ⟨hw, rfl⟩) ha h
theorem tA (i N : Nat) (hT : Aside0 (rtab md ops = T)) (hB : Aside0 (waitsOk T.2 B = true)) (hS : S w) (h : wpAnyLast P md ops Q S ds fuel l' a' w) (hi : ops[i]? = some oi := by rfl) (hN : oi.dst = some N := by rfl)
    (hl : l.setIfInBounds i true = l' := by simp only [List.setIfInBounds_toArray, List.set_cons_zero, List.set_cons_succ]; rfl) (hc : takeW T B ds l.toList l'.toList i = true := by kernel_rfl)
    (hQ : ∀ c a w, Q (.panic c) (a.put oi.dst v) w → Q (.panic c) a w := by exact fun _ _ _ h => h) (hw : Region.wanted oi (yielded ops a.tmps) = true := by rfl)
    (hy : ∀ w', S w' → (execOp a.eval oi).run P w' = .ok (.value v) w' := by intro w' hS_; (repeat (obtain ⟨_, hS_⟩ := hS_)); go_simp; with_reducible rfl) (ha : a.put (some N) v = a' := by simp only [Act.put, List.setIfInBounds_toArray, List.set_cons_zero, List.set_cons_succ, i64_w, i32_w]; rfl) : wpAnyLast P md ops Q S ds (fuel + 1) l a w :=
  take_ l' hi hN (take_ofW hT.out hB.out hc) hQ (Or.inl ⟨hw, hy⟩) hS ha h
theorem oA (i N : Nat) (hT : Aside0 (rtab md ops = T)) (h : ∀ K : Act → World → Prop, Shut (∀ a' w', S w' → (S w' → wpAnyLast P md ops Q S ds fuel l' a' w') → K a' w') → if Region.wanted oi (yielded ops a.tmps) = true then Oper.wp P oi a w K Q else K (a.put (some N) undef) w)
    (hi : ops[i]? = some oi := by rfl) (hN : oi.dst = some N := by rfl) (hl : l.setIfInBounds i true = l' := by simp only [List.setIfInBounds_toArray, List.set_cons_zero, List.set_cons_succ]; rfl)
    (hc : (readyT T.2 l.toList == [i] && l.toList.set i true == l'.toList) = true := by kernel_rfl) (hd : i ∉ ds := by decide) : wpAnyLast P md ops Q S ds (fuel + 1) l a w :=
  one_ l' hi hN (one_of hT.out hc) hd h
theorem nA (N : Nat) {d : Option Tmp} (h : wpAnyLast P md ops Q S ds fuel l a' w) (hd : d = some N := by rfl) (ha : a.put (some N) v = a' := by simp only [Act.put, List.setIfInBounds_toArray, List.set_cons_zero, List.set_cons_succ, i64_w, i32_w]; rfl) : wpAnyLast P md ops Q S ds fuel l (a.put d v) w := norm_ (hd ▸ ha) h
theorem sA {id : Nat} (n : Nat) (hT : rtab .any ops = T) (hB : waitsOk T.2 B = true) (S : World → Prop) (ds : List Nat) (h : S w.drew → Aside0 (rtab .any ops = T) → Aside0 (waitsOk T.2 B = true) → wpAnyLast P .any ops Q S ds n l a w.drew)
    (hm : P.follows .mixedOrders = true := by kernel_rfl) (hn : ops.size = n := by rfl) (hl : (List.replicate n false).toArray = l := by simp only [List.replicate]; rfl) (hS : S w.drew := by (repeat' apply And.intro) <;> first | trivial | exact Eq.trans (blk_cell (Aside0.out (by assumption)) _) (by rfl) | assumption | exact (HB.out.cell (World.block_lt_of_cell? w _ (by assumption))).trans (by assumption)) : (Code.region id ops true).wp P Q a w :=
  start_ l hm hn hl hS (fun hh => h hh ⟨hT⟩ ⟨hB⟩)
end
theorem sZ {p : Prop} (h : p := by (repeat' apply And.intro) <;> first | trivial | exact Eq.trans (blk_cell (Aside0.out (by assumption)) _) (by rfl) | assumption | exact (HB.out.cell (World.block_lt_of_cell? w _ (by assumption))).trans (by assumption)) : p := h
theorem ifS {α : Type} {c : Prop} [Decidable c] {x : Option α} {r : α} (h : (if c then x else none) = some r) : c ∧ x = some r := by
  by_cases hc : c
  · rw [if_pos hc] at h; exact ⟨hc, h⟩
  · rw [if_neg hc] at h; cases h
theorem ifN {α : Type} {c : Prop} [Decidable c] {x : Option α} {r : α} (h : (if c then none else x) = some r) : ¬ c ∧ x = some r := by
  by_cases hc : c
  · rw [if_pos hc] at h; cases h
  · rw [if_neg hc] at h; exact ⟨hc, h⟩
theorem bindS {α β : Type} {x : α} {f : α → Option β} {r : β} (h : (some x).bind f = some r) : f x = some r := h
theorem hbZ {p : Prop} (h : p := by repeat (first | (with_reducible first | exact HB.out | apply below_alloc | apply pw_below_drewN | apply below_drew1 | refine below_set ?_ (Aside0.out (by assumption))) | exact HB.out)) : p := h
theorem putR {cs cs' : Array Value} {i : Nat} {u : Value} (h : cs.setIfInBounds i u = cs') : cs.setIfInBounds i u = cs' := h
theorem neZ {a b : Nat} (h : a ≠ b) : a ≠ b := h
theorem blk_farZ {w : World} {g gp i : Nat} {t : TypeId} {cs : Array Value} {u : Value} (h : w.heap[g]? = some (.cells cs t (0, 0))) (hp : g ≠ gp) : (w.setCell ⟨gp, i, none⟩ u).heap[g]? = some (.cells cs t (0, 0)) := blk_far h hp u
theorem blk_eqZ {w : World} {g : Nat} {t : TypeId} {cs cs' : Array Value} {z : Nat × Nat} (h : w.heap[g]? = some (.cells cs t z)) (e : cs = cs') : w.heap[g]? = some (.cells cs' t z) := e ▸ h
theorem blk_put0 {w : World} {g i : Nat} {t : TypeId} {cs : Array Value} {u : Value} (h : w.heap[g]? = some (.cells cs t (0, 0))) : (w.setCell ⟨g, i, none⟩ u).heap[g]? = some (.cells (cs.setIfInBounds i u) t (0, 0)) := blk_set h i u
theorem bkZ {p : Prop} (h : p := by first | (with_reducible exact (Aside0.out (by assumption))) | (apply blk_eqZ; (repeat (first | (with_reducible first | refine blk_drewN ?_ _ | refine blk_drew ?_ | refine blk_alloc ?_ _ | exact (Aside0.out (by assumption)) | apply blk_put0 | apply blk_farZ) | exact neZ (Aside0.out (by assumption)))); first | (simp only [List.setIfInBounds_toArray, List.set_cons_zero, List.set_cons_succ] <;> rfl) | rfl) | (repeat (first | (with_reducible first | refine blk_drewN ?_ _ | refine blk_drew ?_ | refine blk_alloc ?_ _ | exact (Aside0.out (by assumption)) | apply blk_put | apply blk_farZ) | ((with_reducible refine putR ?_); simp only [List.setIfInBounds_toArray, List.set_cons_zero, List.set_cons_succ] <;> rfl) | exact putR rfl | exact neZ (Aside0.out (by assumption)) | with_reducible apply blk_far))) : p := h
theorem rZ {p q : Prop} (h0 : p) (h : p → q := by intro h_; (with_reducible repeat (first | apply Kd.R_alloc | apply Kd.R_drewN | apply Kd.R_drew)); exact h_) : q := h h0
theorem aM {p : Prop} (h : p) : Aside0 p := ⟨h⟩
theorem nbL {w : World} {gb : Nat} (g : Nat) {o : Obj} (hg : gb = w.heap.size) (hb : w.heap[g]? = some o := by exact bkZ) : Aside0 (g ≠ gb) := ⟨by rw [hg]; exact Nat.ne_of_lt (blk_lt hb)⟩
theorem nbR {w : World} {gb : Nat} (g : Nat) {o : Obj} (hg : gb = w.heap.size) (hb : w.heap[g]? = some o := by exact bkZ) : Aside0 (gb ≠ g) := ⟨by rw [hg]; exact Nat.ne_of_gt (blk_lt hb)⟩
theorem szZ {w w0 : World} {gb : Nat} (hg : gb = w.heap.size) (hb : Below w0.heap.size w0 w := by exact hbZ) : Aside0 (w0.heap.size ≤ gb) := ⟨by rw [hg]; exact below_size hb⟩
theorem cZ {p q : Prop} (h0 : p) (h : p → q := by intro h_; repeat (first | exact h_ | (with_reducible refine Kd.C_alloc ?_ _) | (with_reducible refine Kd.C_drewN ?_ _) | (with_reducible refine Kd.C_drew ?_))) : q := h h0
theorem bB {w w1 : World} (g : Nat) {o : Obj} (hb : Below w.heap.size w w1) (h : w.heap[g]? = some o := by exact bkZ) : Aside0 (w1.heap[g]? = some o) := ⟨blk_below h hb⟩
theorem nbB {w : World} {gb : Nat} (g : Nat) {o : Obj} (hg : gb = w.heap.size) (hb : w.heap[g]? = some o := by exact bkZ) : Aside0 (g ≠ gb) ∧ Aside0 (gb ≠ g) := ⟨nbL g hg hb, nbR g hg hb⟩
theorem cellsZ1 {w : World} {g : Nat} {t : TypeId} {a0 : Value} (h : w.heap[g]? = some (.cells #[a0] t (0, 0))) : w.cell? ⟨g, 0, none⟩ = some a0 ∧ w.frozen? ⟨g, 0, none⟩ = false := ⟨(blk_cell h 0).trans rfl, blk_frozen h 0⟩
theorem cellsZ2 {w : World} {g : Nat} {t : TypeId} {a0 a1 : Value} (h : w.heap[g]? = some (.cells #[a0, a1] t (0, 0))) : w.cell? ⟨g, 0, none⟩ = some a0 ∧ w.cell? ⟨g, 1, none⟩ = some a1 ∧ w.frozen? ⟨g, 0, none⟩ = false ∧ w.frozen? ⟨g, 1, none⟩ = false := ⟨(blk_cell h 0).trans rfl, (blk_cell h 1).trans rfl, blk_frozen h 0, blk_frozen h 1⟩
theorem cellsZ3 {w : World} {g : Nat} {t : TypeId} {a0 a1 a2 : Value} (h : w.heap[g]? = some (.cells #[a0, a1, a2] t (0, 0))) : w.cell? ⟨g, 0, none⟩ = some a0 ∧ w.cell? ⟨g, 1, none⟩ = some a1 ∧ w.cell? ⟨g, 2, none⟩ = some a2 ∧ w.frozen? ⟨g, 0, none⟩ = false ∧ w.frozen? ⟨g, 1, none⟩ = false ∧ w.frozen? ⟨g, 2, none⟩ = false := ⟨(blk_cell h 0).trans rfl, (blk_cell h 1).trans rfl, (blk_cell h 2).trans rfl, blk_frozen h 0, blk_frozen h 1, blk_frozen h 2⟩
theorem z1200 {p : Prop} (h : p := by first | (with_reducible assumption) | assumption) : p := h
theorem z1bd3 {p : Prop} (h : p := by (with_reducible repeat (first | apply Kd.S_alloc | apply Kd.S_drewN | apply Kd.S_drew)); exact HO103.out) : p := h
theorem z2bfb {p : Prop} (h : p := by first | exact Kd.S_nil _ _ _ _ _ | exact Kd.N_nil _ _ _ _ _ | exact Kd.V_nil _ _ _ _ _ | exact Kd.Q_nil _ _ _ _ _ | exact Kd.R_nil _ _ _ _ _) : p := h
theorem z4195 {p : Prop} (h : p := by repeat (first | exact HR0.out | (with_reducible refine Kd.C_alloc ?_ _) | (with_reducible refine Kd.C_drewN ?_ _) | (with_reducible refine Kd.C_drew ?_))) : p := h
theorem z4458 {p : Prop} (h : p := by first | rfl | (simp; done) | (simp [*]; done)) : p := h
theorem z5acd {p : Prop} (h : p := by repeat (first | (with_reducible first | exact HB.out | apply below_alloc | apply pw_below_drewN | apply below_drew1) | exact HB.out)) : p := h
theorem z674d {p : Prop} (h : p := by first | rfl | (simp [errW_none, errW_some] <;> rfl) | (simp [*, errW_none, errW_some] <;> rfl)) : p := h
theorem z7d56 {p : Prop} (h : p := by repeat (first | (with_reducible first | exact HK.out | apply Kept.alloc | apply Kept.drewN | apply Kept.drew) | exact HK.out)) : p := h
theorem za9de {p : Prop} (h : p := by repeat (first | exact Drawn0.refl _ | apply Drawn0.step)) : p := h
theorem zb79b {p : Prop} (h : p := by first | omega | exact Nat.le_refl _) : p := h
theorem zcb41 {p : Prop} (h : p := by repeat (first | (with_reducible first | exact HB.out | apply below_alloc | apply pw_below_drewN | apply below_drew1 | refine below_set ?_ (Aside0.out (by assumption))) | exact HB.out)) : p := h
theorem zd74a {p : Prop} (h : p := by (with_reducible repeat (first | apply Kd.S_alloc | apply Kd.S_drewN | apply Kd.S_drew)); exact HO_3.out) : p := h
theorem zee81 {p : Prop} (h : p := by (try simp only [List.map_toArray, List.map_cons, List.map_nil]); first | done | rfl | (simp only [List.length_drop, List.length_take]; rfl)) : p := h
theorem zfb39 {p : Prop} (h : p := by have := HK1.out; omega) : p := h
set_option linter.unusedVariables false
theorem dL {α : Type} [LT α] {a b : α} [Decidable (a < b)] (h : a < b) : decide (a < b) = true := decide_eq_true h
theorem dE {α : Type} [LE α] {a b : α} [Decidable (a ≤ b)] (h : a ≤ b) : decide (a ≤ b) = true := decide_eq_true h
theorem nL {α : Type} [LT α] {a b : α} [Decidable (a < b)] (h : ¬ a < b) : decide (a < b) = false := decide_eq_false h
theorem nE {α : Type} [LE α] {a b : α} [Decidable (a ≤ b)] (h : ¬ a ≤ b) : decide (a ≤ b) = false := decide_eq_false h
theorem eqE {α : Type} [BEq α] [LawfulBEq α] {a b : α} (h : a = b) : (a == b) = true ∧ (a != b) = false := ⟨beq_iff_eq.mpr h, bne_eq_false_iff_eq.mpr h⟩
theorem eqN {α : Type} [BEq α] [LawfulBEq α] {a b : α} (h : ¬ a = b) : (a == b) = false ∧ (a != b) = true := ⟨beq_eq_false_iff_ne.mpr h, bne_iff_ne.mpr h⟩
theorem sL {α β : Type} [LT β] {a b : β} [Decidable (a < b)] {x : Option α} {r : α} (h : (if a < b then x else none) = some r) : decide (a < b) = true ∧ x = some r := ⟨dL (ifS h).1, (ifS h).2⟩
theorem sE {α β : Type} [LE β] {a b : β} [Decidable (a ≤ b)] {x : Option α} {r : α} (h : (if a ≤ b then x else none) = some r) : decide (a ≤ b) = true ∧ x = some r := ⟨dE (ifS h).1, (ifS h).2⟩
theorem sM {α : Type} {c : Prop} [Decidable c] {x : Option α} {r : α} (h : (if c then x else none) = some r) : Aside0 c ∧ x = some r := ⟨⟨(ifS h).1⟩, (ifS h).2⟩
theorem bS {α β : Type} {x : Option α} {f : α → Option β} {r : β} (h : x.bind f = some r) : ∃ a, Aside0 (x = some a) ∧ f a = some r := by
  obtain ⟨a, h1, h2⟩ := Option.bind_eq_some_iff.mp h
  exact ⟨a, ⟨h1⟩, h2⟩
theorem moZ {p : Prop} (h : p := by repeat' first | (with_reducible first | exact LeO.refl _ | exact LeO.none _ | exact ih0 .. | exact ih1 .. | exact ih2 .. | exact ih3 .. | exact ih4 .. | exact ih5 .. | exact ih6 .. | exact ih7 .. | exact ih8 .. | exact ih9 .. | exact m0 .. | exact m1 .. | exact m2 .. | exact m3 .. | exact m4 .. | exact m5 .. | exact m6 .. | exact m7 .. | exact m8 .. | exact m9 .. | refine LeO.ite ?_ ?_ | refine LeO.bind ?_ (fun _ => ?_)) | exact LeO.none _ | refine LeO.ite ?_ ?_ | refine LeO.bind ?_ (fun _ => ?_)) : p := h
section
variable {P : Program} {ops : Array Oper} {o : Oper} {a : Act} {Q : Exit → Act → World → Prop} {W w : World} {rest : List Oper}
theorem bX (N : Tmp) (t : TypeId) (cs : Array Value) (h : ∀ g, g = W.heap.size → ∀ w1, w1.heap[g]? = some (.cells cs t (0, 0)) → Below W.heap.size W w1 → wpList P ops Q rest (a.put o.dst (.pointer (some ⟨g, 0, none⟩))) w1)
    (hd : o.dst = some N := by rfl) (hg : o.guard = none := by rfl) (hr : (execOp a.eval o).run P W = .ok (.value (.pointer (some ⟨W.heap.size, 0, none⟩))) (W.alloc (.cells cs t (0, 0))) := by first | (go_simp; done) | (go_simp; rfl)) : wpList P ops Q (o :: rest) a W := box_event hg hd hr h
theorem gL (N : Tmp) {f : FuncId} {fn : Func} {xs : Array Operand} {ts : Array TypeId} (hf : P.funcs[f]? = some fn) (args : Array Value) (h : Calls P f args w fun e w' => ∃ v, e = .returned v ∧ wpList P ops Q rest (a.put (some N) v) w')
    (hb : fn.body.isSome = true := by kernel_rfl) (hd : o.dst = some N := by rfl) (hg : o.guard = none := by rfl) (hname : (fn.name == "runtime.NumGoroutine") = false := by rfl)
    (hop : o.op = .call { callee := .value (.func f), args := xs, argTypes := ts } := by rfl) (hargs : xs.map a.eval = args := by (try simp only [List.map_toArray, List.map_cons, List.map_nil]); first | done | rfl | (simp only [List.length_drop, List.length_take]; rfl)) : wpList P ops Q (o :: rest) a w := goesL_ (some N) hd hg hf hname hb args hop hargs h
end
end Go.Proofs.YtmlclmbplbbbhaaDoor.P
end

-- written by a program of this session's (wip/pp)
namespace Go.Proofs.YtmlclmbplbbbhaaDoor.P
open Go.RowKit Go.Proofs.YtmlclmbplbbbhaaDoorW.PrintWords Go.Proofs.YtmlclmbplbbbhaaDoorW.PrintLast Go.Proofs.YtmlclmbplbbbhaaDoorW.PrintMore
attribute [local go_sem] max2_int min2_int max_two min_two max_three min_three max_four min_four str_geq str_gtr str_leq   -- for this text's walks alone
set_option linter.unusedVariables false
set_option linter.unusedSimpArgs false



def errW : Option Int → Value
  | none => .nilIface
  | some c => .iface 0 (.int .i64 c)
theorem errW_none : errW none = .nilIface := rfl
theorem errW_some (c : Int) : errW (some c) = .iface 0 (.int .i64 c) := rfl

theorem info3 : (Tryd.prog.info? 3).map (fun i => (i.zero, i.size, i.bytes)) = some (some (.int .i64 0), 1, 8) := by kernel_rfl
theorem info5 : (Tryd.prog.info? 5).map (fun i => (i.zero, i.size, i.bytes)) = some (some (.int .u8 0), 1, 1) := by kernel_rfl
theorem info9 : (Tryd.prog.info? 9).map (fun i => (i.zero, i.size, i.bytes)) = some (some (.string ⟨#[]⟩), 1, 16) := by kernel_rfl
theorem info53 : (Tryd.prog.info? 53).map (fun i => (i.zero, i.size, i.bytes)) = some (some (.agg #[(.string ⟨#[]⟩), (.slice none 0 0), (.int .i64 0)]), 3, 48) := by kernel_rfl
-- the values' own types
def rd_L2 (xs : List (List Int)) (i : Int) : (List Int) := xs.getD i.toNat ([] : List Int)
theorem at_L2 {w : World} {A : Option Addr} {n : Nat} {xs : List (List Int)} (h : Kd.C (Kd.slice 5 (Kd.int .u8)) w A n xs) (i : Int) (h0 : 0 ≤ i) (h1 : i < n) : ∃ ad A0 c0, A = some ad ∧ w.cell? (ad.add i.toNat) = some (.slice A0 (rd_L2 xs i).length c0) ∧ (rd_L2 xs i).length ≤ c0 ∧ (Kd.int .u8).C w A0 (rd_L2 xs i).length (rd_L2 xs i) := by
  obtain ⟨ad, c, e, _, hK, hc0⟩ := Kd.C_get h ([] : List Int) i h0 h1
  have hc : ∀ j u, c[j]? = some u → w.cell? (ad.add (i.toNat * 1 + j)) = some u := hc0
  obtain ⟨A0, c0, rfl, l0, g0⟩ := hK
  exact ⟨ad, A0, c0, e, by have hq := hc 0 _ rfl; rwa [Nat.mul_one, Nat.add_zero] at hq, l0, g0⟩

/-! #### struct type 84 -/
structure S84 where
  f0 : ByteArray
  f1 : (List Int)
  f2 : Int
def z84 : S84 := ⟨(⟨#[]⟩ : ByteArray), ([] : List Int), (0 : Int)⟩
def k84 : Kd S84 := Kd.iso (Kd.pair Kd.string (Kd.pair (Kd.slice 5 (Kd.int .u8)) (Kd.int .i64))) (fun x : S84 => (x.f0, x.f1, x.f2))
theorem k84_open {w : World} {x : S84} {cs : List Value} (h : k84.K w x cs) : ∃ A1 c1, cs = [.string x.f0, .slice A1 x.f1.length c1, .int .i64 x.f2] ∧ x.f1.length ≤ c1 ∧ (Kd.int .u8).C w A1 x.f1.length x.f1 := by
  obtain ⟨_, _, rfl, rfl, ⟨_, _, rfl, ⟨A1, c1, rfl, l1, g1⟩, rfl⟩⟩ := h
  exact ⟨A1, c1, rfl, l1, g1⟩
theorem k84_openM {w : World} {base : Nat} {ok : Nat → Prop} {x : S84} {cs : List Value} (h : k84.M w base ok x cs) : ∃ v1, cs = [.string x.f0, v1, .int .i64 x.f2] ∧ (Kd.int .u8).R 5 w base ok v1 x.f1 := by
  obtain ⟨_, _, rfl, rfl, ⟨_, _, rfl, ⟨v1, rfl, g1⟩, rfl⟩⟩ := h
  exact ⟨v1, rfl, g1⟩
theorem k84_mk (w : World) (x : S84) {A1 : Option Addr} {c1 : Nat} (l1 : x.f1.length ≤ c1) (g1 : (Kd.int .u8).C w A1 x.f1.length x.f1) : k84.K w x [.string x.f0, .slice A1 x.f1.length c1, .int .i64 x.f2] := ⟨[.string x.f0], [.slice A1 x.f1.length c1, .int .i64 x.f2], rfl, rfl, ⟨[.slice A1 x.f1.length c1], [.int .i64 x.f2], rfl, ⟨A1, c1, rfl, l1, g1⟩, rfl⟩⟩
theorem k84_mkM (w : World) (base : Nat) (ok : Nat → Prop) (x : S84) {v1 : Value} (g1 : (Kd.int .u8).R 5 w base ok v1 x.f1) : k84.M w base ok x [.string x.f0, v1, .int .i64 x.f2] := ⟨[.string x.f0], [v1, .int .i64 x.f2], rfl, rfl, ⟨[v1], [.int .i64 x.f2], rfl, ⟨v1, rfl, g1⟩, rfl⟩⟩
theorem k84_openF {W : World} {ok : Nat → Prop} {x : S84} {cs : List Value} (h : Kd.FK k84 W ok x cs) : ∃ A1 c1, cs = [.string x.f0, .slice A1 x.f1.length c1, .int .i64 x.f2] ∧ x.f1.length ≤ c1 ∧ Kd.F (Kd.int .u8) W ok A1 x.f1.length x.f1 := by
  obtain ⟨A1, c1, rfl, l1, _⟩ := k84_open (Kd.FK_now h)
  exact ⟨A1, c1, rfl, l1, (fun W' hW => by obtain ⟨A1_, c1_, he, l1_, g1_⟩ := k84_open (h W' hW); injection (Option.some.inj (show some (Value.slice A1 x.f1.length c1) = some (Value.slice A1_ x.f1.length c1_) from congrArg (fun l => l[1]?) he)) with ha_ _ _; rw [ha_]; exact g1_)⟩
theorem k84_mkF (W : World) (ok : Nat → Prop) (x : S84) {A1 : Option Addr} {c1 : Nat} (l1 : x.f1.length ≤ c1) (g1 : Kd.F (Kd.int .u8) W ok A1 x.f1.length x.f1) : Kd.FK k84 W ok x [.string x.f0, .slice A1 x.f1.length c1, .int .i64 x.f2] := fun W2 hW => k84_mk W2 x l1 (g1 W2 hW)
def rd_T84 (xs : List S84) (i : Int) : S84 := xs.getD i.toNat z84
theorem at_T84 {w : World} {A : Option Addr} {n : Nat} {xs : List S84} (h : Kd.C k84 w A n xs) (i : Int) (h0 : 0 ≤ i) (h1 : i < n) : ∃ ad A1 c1, A = some ad ∧ w.cell? (ad.add (i.toNat * 3)) = some (.string (rd_T84 xs i).f0) ∧ w.cell? ⟨(ad.add (i.toNat * 3)).block, (ad.add (i.toNat * 3)).off + 1, none⟩ = some (.slice A1 (rd_T84 xs i).f1.length c1) ∧ w.cell? ⟨(ad.add (i.toNat * 3)).block, (ad.add (i.toNat * 3)).off + 2, none⟩ = some (.int .i64 (rd_T84 xs i).f2) ∧ (rd_T84 xs i).f1.length ≤ c1 ∧ (Kd.int .u8).C w A1 (rd_T84 xs i).f1.length (rd_T84 xs i).f1 := by
  obtain ⟨ad, c, e, _, hK, hc0⟩ := Kd.C_get h z84 i h0 h1
  have hc : ∀ j u, c[j]? = some u → w.cell? (ad.add (i.toNat * 3 + j)) = some u := hc0
  obtain ⟨A1, c1, rfl, l1, g1⟩ := k84_open hK
  exact ⟨ad, A1, c1, e, hc 0 _ rfl, by rw [← add_field _ _ 1 (by omega)]; exact hc 1 _ rfl, by rw [← add_field _ _ 2 (by omega)]; exact hc 2 _ rfl, l1, g1⟩

/-! #### struct type 53 -/
structure S53 where
  f0 : ByteArray
  f1 : (List Int)
  f2 : Int
def z53 : S53 := ⟨(⟨#[]⟩ : ByteArray), ([] : List Int), (0 : Int)⟩
def k53 : Kd S53 := Kd.iso (Kd.pair Kd.string (Kd.pair (Kd.slice 5 (Kd.int .u8)) (Kd.int .i64))) (fun x : S53 => (x.f0, x.f1, x.f2))
theorem k53_open {w : World} {x : S53} {cs : List Value} (h : k53.K w x cs) : ∃ A1 c1, cs = [.string x.f0, .slice A1 x.f1.length c1, .int .i64 x.f2] ∧ x.f1.length ≤ c1 ∧ (Kd.int .u8).C w A1 x.f1.length x.f1 := by
  obtain ⟨_, _, rfl, rfl, ⟨_, _, rfl, ⟨A1, c1, rfl, l1, g1⟩, rfl⟩⟩ := h
  exact ⟨A1, c1, rfl, l1, g1⟩
theorem k53_openM {w : World} {base : Nat} {ok : Nat → Prop} {x : S53} {cs : List Value} (h : k53.M w base ok x cs) : ∃ v1, cs = [.string x.f0, v1, .int .i64 x.f2] ∧ (Kd.int .u8).R 5 w base ok v1 x.f1 := by
  obtain ⟨_, _, rfl, rfl, ⟨_, _, rfl, ⟨v1, rfl, g1⟩, rfl⟩⟩ := h
  exact ⟨v1, rfl, g1⟩
theorem k53_mk (w : World) (x : S53) {A1 : Option Addr} {c1 : Nat} (l1 : x.f1.length ≤ c1) (g1 : (Kd.int .u8).C w A1 x.f1.length x.f1) : k53.K w x [.string x.f0, .slice A1 x.f1.length c1, .int .i64 x.f2] := ⟨[.string x.f0], [.slice A1 x.f1.length c1, .int .i64 x.f2], rfl, rfl, ⟨[.slice A1 x.f1.length c1], [.int .i64 x.f2], rfl, ⟨A1, c1, rfl, l1, g1⟩, rfl⟩⟩
theorem k53_mkM (w : World) (base : Nat) (ok : Nat → Prop) (x : S53) {v1 : Value} (g1 : (Kd.int .u8).R 5 w base ok v1 x.f1) : k53.M w base ok x [.string x.f0, v1, .int .i64 x.f2] := ⟨[.string x.f0], [v1, .int .i64 x.f2], rfl, rfl, ⟨[v1], [.int .i64 x.f2], rfl, ⟨v1, rfl, g1⟩, rfl⟩⟩
theorem k53_openF {W : World} {ok : Nat → Prop} {x : S53} {cs : List Value} (h : Kd.FK k53 W ok x cs) : ∃ A1 c1, cs = [.string x.f0, .slice A1 x.f1.length c1, .int .i64 x.f2] ∧ x.f1.length ≤ c1 ∧ Kd.F (Kd.int .u8) W ok A1 x.f1.length x.f1 := by
  obtain ⟨A1, c1, rfl, l1, _⟩ := k53_open (Kd.FK_now h)
  exact ⟨A1, c1, rfl, l1, (fun W' hW => by obtain ⟨A1_, c1_, he, l1_, g1_⟩ := k53_open (h W' hW); injection (Option.some.inj (show some (Value.slice A1 x.f1.length c1) = some (Value.slice A1_ x.f1.length c1_) from congrArg (fun l => l[1]?) he)) with ha_ _ _; rw [ha_]; exact g1_)⟩
theorem k53_mkF (W : World) (ok : Nat → Prop) (x : S53) {A1 : Option Addr} {c1 : Nat} (l1 : x.f1.length ≤ c1) (g1 : Kd.F (Kd.int .u8) W ok A1 x.f1.length x.f1) : Kd.FK k53 W ok x [.string x.f0, .slice A1 x.f1.length c1, .int .i64 x.f2] := fun W2 hW => k53_mk W2 x l1 (g1 W2 hW)
def rd_T53 (xs : List S53) (i : Int) : S53 := xs.getD i.toNat z53
theorem at_T53 {w : World} {A : Option Addr} {n : Nat} {xs : List S53} (h : Kd.C k53 w A n xs) (i : Int) (h0 : 0 ≤ i) (h1 : i < n) : ∃ ad A1 c1, A = some ad ∧ w.cell? (ad.add (i.toNat * 3)) = some (.string (rd_T53 xs i).f0) ∧ w.cell? ⟨(ad.add (i.toNat * 3)).block, (ad.add (i.toNat * 3)).off + 1, none⟩ = some (.slice A1 (rd_T53 xs i).f1.length c1) ∧ w.cell? ⟨(ad.add (i.toNat * 3)).block, (ad.add (i.toNat * 3)).off + 2, none⟩ = some (.int .i64 (rd_T53 xs i).f2) ∧ (rd_T53 xs i).f1.length ≤ c1 ∧ (Kd.int .u8).C w A1 (rd_T53 xs i).f1.length (rd_T53 xs i).f1 := by
  obtain ⟨ad, c, e, _, hK, hc0⟩ := Kd.C_get h z53 i h0 h1
  have hc : ∀ j u, c[j]? = some u → w.cell? (ad.add (i.toNat * 3 + j)) = some u := hc0
  obtain ⟨A1, c1, rfl, l1, g1⟩ := k53_open hK
  exact ⟨ad, A1, c1, e, hc 0 _ rfl, by rw [← add_field _ _ 1 (by omega)]; exact hc 1 _ rfl, by rw [← add_field _ _ 2 (by omega)]; exact hc 2 _ rfl, l1, g1⟩

end Go.Proofs.YtmlclmbplbbbhaaDoor.P

/- What lies in one stretch of memory stays, whatever is done elsewhere. No conditions. -/
namespace Go.Proofs.YtmlclmbplbbbhaaDoor.P
open Go.RowKit Go.Proofs.YtmlclmbplbbbhaaDoorW.PrintWords Go.Proofs.YtmlclmbplbbbhaaDoorW.PrintLast Go.Proofs.YtmlclmbplbbbhaaDoorW.PrintMore
section
variable {α : Type} {d : Kd α} {e lo hi lo' hi' b : Nat} {w W W' : World} {S : Nat → Prop} {F G : World → Prop} {v : Value} {l l' : List α}
/-- F is told of W by its blocks lo .. hi alone. -/
def Loc (lo hi : Nat) (F : World → Prop) (W : World) : Prop := hi ≤ W.heap.size ∧ ∀ W' : World, hi ≤ W'.heap.size → (∀ k, lo ≤ k → k < hi → W'.heap[k]? = W.heap[k]?) → F W'
theorem Loc.now (h : Loc lo hi F W) : F W := h.2 W h.1 (fun _ _ _ => rfl)
theorem Loc.step (h : Loc lo hi F W) (hs : hi ≤ W'.heap.size) (hk : ∀ k, lo ≤ k → k < hi → W'.heap[k]? = W.heap[k]?) : Loc lo hi F W' :=
  ⟨hs, fun W2 h2 hk2 => h.2 W2 h2 (fun k h0 h1 => (hk2 k h0 h1).trans (hk k h0 h1))⟩
theorem Loc.below (h : Loc lo hi F W) (hb : Below W.heap.size W W') : Loc lo hi F W' := h.step (Nat.le_trans h.1 hb.size) (fun k _ h1 => hb.block k (Nat.lt_of_lt_of_le h1 h.1))
theorem Loc.kept (h : Loc lo hi F W) (hk : Kept W W' S) (hn : ∀ k, lo ≤ k → k < hi → ¬ S k) : Loc lo hi F W' := h.step (Nat.le_trans h.1 hk.1) (fun k h0 h1 => hk.2 k (Nat.lt_of_lt_of_le h1 h.1) (hn k h0 h1))
/-- .. where another stretch is written. -/
theorem Loc.apart (h : Loc lo hi F W) (hk : Kept W W' (fun k => lo' ≤ k ∧ k < hi')) (hn : hi ≤ lo' ∨ hi' ≤ lo) : Loc lo hi F W' := h.kept hk (fun k h0 h1 hs => by omega)
theorem Loc.box {o : Obj} (h : W.heap[b]? = some o) : Loc b (b + 1) (fun W => W.heap[b]? = some o) W :=
  ⟨(Array.getElem?_eq_some_iff.1 h).1, fun W' _ hk => (hk b (Nat.le_refl _) (by omega)).trans h⟩
theorem Loc.ofS (hh : hi ≤ W.heap.size) (h : Kd.S d e W w.heap.size (fun k => lo ≤ k ∧ k < hi) v l) : Loc lo hi (fun W => Kd.S d e W w.heap.size (fun k => lo ≤ k ∧ k < hi) v l) W :=
  ⟨hh, fun _ _ hk => Kd.S_move h (fun k hs => hk k hs.1 hs.2)⟩
theorem Loc.ofR (hh : hi ≤ W.heap.size) (h : Kd.R d e W w.heap.size (fun k => lo ≤ k ∧ k < hi) v l) : Loc lo hi (fun W => Kd.R d e W w.heap.size (fun k => lo ≤ k ∧ k < hi) v l) W :=
  ⟨hh, fun _ _ hk => Kd.R_move (Kd.R_bound h) (fun k hs => hk k hs.1.1 hs.1.2) |> fun h => Kd.R_mono h (fun _ hk => hk.1)⟩
/-- What a call has made. -/
theorem Loc.newS (hs : Kd.S d e W' W.heap.size (fun _ => True) v l) (hB : Below w.heap.size w W) : ∃ lo hi, lo = W.heap.size ∧ Loc lo hi (fun W => Kd.S d e W w.heap.size (fun k => lo ≤ k ∧ k < hi) v l) W' ∧ hi = W'.heap.size :=
  ⟨_, _, rfl, Loc.ofS (Nat.le_refl _) (Kd.S_mono (Kd.S_lower (Kd.S_bound hs) hB.size) (fun _ hk => ⟨hk.2.1, hk.2.2.1⟩)), rfl⟩
theorem Loc.newR (hs : Kd.R d e W' W.heap.size (fun _ => True) v l) (hB : Below w.heap.size w W) : ∃ lo hi, lo = W.heap.size ∧ Loc lo hi (fun W => Kd.R d e W w.heap.size (fun k => lo ≤ k ∧ k < hi) v l) W' ∧ hi = W'.heap.size :=
  ⟨_, _, rfl, Loc.ofR (Nat.le_refl _) (Kd.R_mono (Kd.R_lower (Kd.R_bound hs) hB.size) (fun _ hk => ⟨hk.2.1, hk.2.2.1⟩)), rfl⟩
theorem Loc.ofV (hh : hi ≤ W.heap.size) (h : Kd.V d e W w.heap.size (fun k => lo ≤ k ∧ k < hi) v l) : Loc lo hi (fun W => Kd.V d e W w.heap.size (fun k => lo ≤ k ∧ k < hi) v l) W :=
  ⟨hh, fun _ _ hk => Kd.V_step h (fun k hs _ => hk k hs.1 hs.2)⟩
/-- What a call has made of an elder stretch and of new blocks. -/
theorem Loc.newN {b : Nat} (hA : Loc lo hi F W) (hlo : lo ≤ hi) (hs : Kd.N d e W' b (fun k => ((lo ≤ k ∧ k < hi) ∨ W.heap.size ≤ k)) v l) (hb : Below W.heap.size W W') :
    ∃ hi', Loc lo hi' (fun W => Kd.V d e W w.heap.size (fun k => lo ≤ k ∧ k < hi') v l) W' ∧ hi' = W'.heap.size ∧ lo ≤ hi' :=
  ⟨_, Loc.ofV (Nat.le_refl _) (Kd.V_mono (Kd.V_bound (Kd.N_V hs)) (fun k hk => ⟨by rcases hk.1 with h | h; exact h.1; exact Nat.le_trans hlo (Nat.le_trans hA.1 h), hk.2⟩)), rfl, Nat.le_trans hlo (Nat.le_trans hA.1 hb.size)⟩
/-- .. of two elder stretches, one behind the other, and of new blocks. -/
theorem Loc.newN2 {b lo2 hi2 : Nat} (hA : Loc lo hi F W) (_ : Loc lo2 hi2 G W) (hlo : lo ≤ hi) (h12 : hi ≤ lo2) (_ : lo2 ≤ hi2) (hs : Kd.N d e W' b (fun k => (((lo ≤ k ∧ k < hi) ∨ (lo2 ≤ k ∧ k < hi2)) ∨ W.heap.size ≤ k)) v l) (hb : Below W.heap.size W W') :
    ∃ hi', Loc lo hi' (fun W => Kd.V d e W w.heap.size (fun k => lo ≤ k ∧ k < hi') v l) W' ∧ hi' = W'.heap.size ∧ lo ≤ hi' :=
  ⟨_, Loc.ofV (Nat.le_refl _) (Kd.V_mono (Kd.V_bound (Kd.N_V hs)) (fun k hk => ⟨by rcases hk.1 with (h | h) | h; exact h.1; omega; exact Nat.le_trans hlo (Nat.le_trans hA.1 h), hk.2⟩)), rfl, Nat.le_trans hlo (Nat.le_trans hA.1 hb.size)⟩
theorem Loc.readsV {A : Option Addr} {n c : Nat} (h : Loc lo hi (fun W => Kd.V d e W w.heap.size (fun k => lo ≤ k ∧ k < hi) (.slice A n c) l) W) : n = l.length ∧ l.length ≤ c ∧ d.C W A l.length l := by
  obtain ⟨h1, h2, h3⟩ := Kd.V_reads' h.now
  exact ⟨h1, by omega, h3⟩
theorem Loc.size (h : Loc lo hi F W) : hi ≤ W.heap.size := h.1
/-- A row's slice, and how it is read. -/
theorem Loc.readsS {A : Option Addr} {n c : Nat} (h : Loc lo hi (fun W => Kd.S d e W w.heap.size (fun k => lo ≤ k ∧ k < hi) (.slice A n c) l) W) : n = l.length ∧ l.length ≤ c ∧ d.C W A l.length l := by
  obtain ⟨h1, h2, h3⟩ := Kd.S_reads' h.now
  exact ⟨h1, by omega, h3⟩
theorem Loc.readsR {A : Option Addr} {n c : Nat} (h : Loc lo hi (fun W => Kd.R d e W w.heap.size (fun k => lo ≤ k ∧ k < hi) (.slice A n c) l) W) : n = l.length ∧ l.length ≤ c ∧ d.C W A l.length l := by
  obtain ⟨h1, h2, h3⟩ := Kd.R_reads' h.now
  exact ⟨h1, by omega, h3⟩
/-- Block b alone is written. -/
def Only (W W' : World) (b : Nat) : Prop := W'.os = W.os ∧ W'.tape = W.tape ∧ W'.output = W.output ∧ W'.heap.size = W.heap.size ∧ ∀ k, k ≠ b → W'.heap[k]? = W.heap[k]?
theorem Only.refl (W : World) (b : Nat) : Only W W b := ⟨rfl, rfl, rfl, rfl, fun _ _ => rfl⟩
theorem Only.set {i : Nat} {u : Value} (h : Only W W' b) : Only W (W'.setCell ⟨b, i, none⟩ u) b :=
  ⟨h.1, h.2.1, h.2.2.1, (by simpa [World.setCell] using h.2.2.2.1), fun k hk => (Below.heap_setCell W' ⟨b, i, none⟩ u k hk).trans (h.2.2.2.2 k hk)⟩
theorem Loc.only (h : Loc lo hi F W) (ho : Only W W' b) (hn : hi ≤ b) : Loc lo hi F W' := h.step (by rw [ho.2.2.2.1]; exact h.1) (fun k _ h1 => ho.2.2.2.2 k (by omega))
theorem Loc.only2 (h : Loc lo hi F W) (ho : Only W W' b) (hn : b + 1 ≤ lo ∨ hi ≤ b) : Loc lo hi F W' := h.step (by rw [ho.2.2.2.1]; exact h.1) (fun k h0 h1 => ho.2.2.2.2 k (by omega))
theorem blk_put4 {g : Nat} {t : TypeId} {a0 a1 a2 a3 x0 x1 x2 x3 : Value} (h : W.heap[g]? = some (.cells #[a0, a1, a2, a3] t (0, 0))) :
    ((((W.setCell ⟨g, 0, none⟩ x0).setCell ⟨g, 1, none⟩ x1).setCell ⟨g, 2, none⟩ x2).setCell ⟨g, 3, none⟩ x3).heap[g]? = some (.cells #[x0, x1, x2, x3] t (0, 0)) := blk_set (blk_set (blk_set (blk_set h 0 x0) 1 x1) 2 x2) 3 x3
theorem blk_put4_2 {g : Nat} {t : TypeId} {a0 a1 a2 a3 x2 : Value} (h : W.heap[g]? = some (.cells #[a0, a1, a2, a3] t (0, 0))) :
    (W.setCell ⟨g, 2, none⟩ x2).heap[g]? = some (.cells #[a0, a1, x2, a3] t (0, 0)) := blk_set h 2 x2
theorem blk_put6 {g : Nat} {t : TypeId} {a0 a1 a2 a3 a4 a5 x0 x1 x2 x3 x4 x5 : Value} (h : W.heap[g]? = some (.cells #[a0, a1, a2, a3, a4, a5] t (0, 0))) :
    ((((((W.setCell ⟨g, 0, none⟩ x0).setCell ⟨g, 1, none⟩ x1).setCell ⟨g, 2, none⟩ x2).setCell ⟨g, 3, none⟩ x3).setCell ⟨g, 4, none⟩ x4).setCell ⟨g, 5, none⟩ x5).heap[g]? = some (.cells #[x0, x1, x2, x3, x4, x5] t (0, 0)) := by
  have h0 : (W.setCell ⟨g, 0, none⟩ x0).heap[g]? = some (.cells #[x0, a1, a2, a3, a4, a5] t (0, 0)) := by
    have q := blk_set h 0 x0
    simp only [List.setIfInBounds_toArray, List.set_cons_zero] at q
    exact q
  have h1 : ((W.setCell ⟨g, 0, none⟩ x0).setCell ⟨g, 1, none⟩ x1).heap[g]? = some (.cells #[x0, x1, a2, a3, a4, a5] t (0, 0)) := by
    have q := blk_set h0 1 x1
    simp only [List.setIfInBounds_toArray, List.set_cons_zero, List.set_cons_succ] at q
    exact q
  have h2 : (((W.setCell ⟨g, 0, none⟩ x0).setCell ⟨g, 1, none⟩ x1).setCell ⟨g, 2, none⟩ x2).heap[g]? = some (.cells #[x0, x1, x2, a3, a4, a5] t (0, 0)) := by
    have q := blk_set h1 2 x2
    simp only [List.setIfInBounds_toArray, List.set_cons_zero, List.set_cons_succ] at q
    exact q
  have h3 : ((((W.setCell ⟨g, 0, none⟩ x0).setCell ⟨g, 1, none⟩ x1).setCell ⟨g, 2, none⟩ x2).setCell ⟨g, 3, none⟩ x3).heap[g]? = some (.cells #[x0, x1, x2, x3, a4, a5] t (0, 0)) := by
    have q := blk_set h2 3 x3
    simp only [List.setIfInBounds_toArray, List.set_cons_zero, List.set_cons_succ] at q
    exact q
  have h4 : (((((W.setCell ⟨g, 0, none⟩ x0).setCell ⟨g, 1, none⟩ x1).setCell ⟨g, 2, none⟩ x2).setCell ⟨g, 3, none⟩ x3).setCell ⟨g, 4, none⟩ x4).heap[g]? = some (.cells #[x0, x1, x2, x3, x4, a5] t (0, 0)) := by
    have q := blk_set h3 4 x4
    simp only [List.setIfInBounds_toArray, List.set_cons_zero, List.set_cons_succ] at q
    exact q
  have h5 : ((((((W.setCell ⟨g, 0, none⟩ x0).setCell ⟨g, 1, none⟩ x1).setCell ⟨g, 2, none⟩ x2).setCell ⟨g, 3, none⟩ x3).setCell ⟨g, 4, none⟩ x4).setCell ⟨g, 5, none⟩ x5).heap[g]? = some (.cells #[x0, x1, x2, x3, x4, x5] t (0, 0)) := by
    have q := blk_set h4 5 x5
    simp only [List.setIfInBounds_toArray, List.set_cons_zero, List.set_cons_succ] at q
    exact q
  exact h5
theorem blk_put9 {g : Nat} {t : TypeId} {a0 a1 a2 a3 a4 a5 a6 a7 a8 x0 x1 x2 x3 x4 x5 x6 x7 x8 : Value} (h : W.heap[g]? = some (.cells #[a0, a1, a2, a3, a4, a5, a6, a7, a8] t (0, 0))) :
    (((((((((W.setCell ⟨g, 0, none⟩ x0).setCell ⟨g, 1, none⟩ x1).setCell ⟨g, 2, none⟩ x2).setCell ⟨g, 3, none⟩ x3).setCell ⟨g, 4, none⟩ x4).setCell ⟨g, 5, none⟩ x5).setCell ⟨g, 6, none⟩ x6).setCell ⟨g, 7, none⟩ x7).setCell ⟨g, 8, none⟩ x8).heap[g]? = some (.cells #[x0, x1, x2, x3, x4, x5, x6, x7, x8] t (0, 0)) := by
  have h0 : (W.setCell ⟨g, 0, none⟩ x0).heap[g]? = some (.cells #[x0, a1, a2, a3, a4, a5, a6, a7, a8] t (0, 0)) := by
    have q := blk_set h 0 x0
    simp only [List.setIfInBounds_toArray, List.set_cons_zero] at q
    exact q
  have h1 : ((W.setCell ⟨g, 0, none⟩ x0).setCell ⟨g, 1, none⟩ x1).heap[g]? = some (.cells #[x0, x1, a2, a3, a4, a5, a6, a7, a8] t (0, 0)) := by
    have q := blk_set h0 1 x1
    simp only [List.setIfInBounds_toArray, List.set_cons_zero, List.set_cons_succ] at q
    exact q
  have h2 : (((W.setCell ⟨g, 0, none⟩ x0).setCell ⟨g, 1, none⟩ x1).setCell ⟨g, 2, none⟩ x2).heap[g]? = some (.cells #[x0, x1, x2, a3, a4, a5, a6, a7, a8] t (0, 0)) := by
    have q := blk_set h1 2 x2
    simp only [List.setIfInBounds_toArray, List.set_cons_zero, List.set_cons_succ] at q
    exact q
  have h3 : ((((W.setCell ⟨g, 0, none⟩ x0).setCell ⟨g, 1, none⟩ x1).setCell ⟨g, 2, none⟩ x2).setCell ⟨g, 3, none⟩ x3).heap[g]? = some (.cells #[x0, x1, x2, x3, a4, a5, a6, a7, a8] t (0, 0)) := by
    have q := blk_set h2 3 x3
    simp only [List.setIfInBounds_toArray, List.set_cons_zero, List.set_cons_succ] at q
    exact q
  have h4 : (((((W.setCell ⟨g, 0, none⟩ x0).setCell ⟨g, 1, none⟩ x1).setCell ⟨g, 2, none⟩ x2).setCell ⟨g, 3, none⟩ x3).setCell ⟨g, 4, none⟩ x4).heap[g]? = some (.cells #[x0, x1, x2, x3, x4, a5, a6, a7, a8] t (0, 0)) := by
    have q := blk_set h3 4 x4
    simp only [List.setIfInBounds_toArray, List.set_cons_zero, List.set_cons_succ] at q
    exact q
  have h5 : ((((((W.setCell ⟨g, 0, none⟩ x0).setCell ⟨g, 1, none⟩ x1).setCell ⟨g, 2, none⟩ x2).setCell ⟨g, 3, none⟩ x3).setCell ⟨g, 4, none⟩ x4).setCell ⟨g, 5, none⟩ x5).heap[g]? = some (.cells #[x0, x1, x2, x3, x4, x5, a6, a7, a8] t (0, 0)) := by
    have q := blk_set h4 5 x5
    simp only [List.setIfInBounds_toArray, List.set_cons_zero, List.set_cons_succ] at q
    exact q
  have h6 : (((((((W.setCell ⟨g, 0, none⟩ x0).setCell ⟨g, 1, none⟩ x1).setCell ⟨g, 2, none⟩ x2).setCell ⟨g, 3, none⟩ x3).setCell ⟨g, 4, none⟩ x4).setCell ⟨g, 5, none⟩ x5).setCell ⟨g, 6, none⟩ x6).heap[g]? = some (.cells #[x0, x1, x2, x3, x4, x5, x6, a7, a8] t (0, 0)) := by
    have q := blk_set h5 6 x6
    simp only [List.setIfInBounds_toArray, List.set_cons_zero, List.set_cons_succ] at q
    exact q
  have h7 : ((((((((W.setCell ⟨g, 0, none⟩ x0).setCell ⟨g, 1, none⟩ x1).setCell ⟨g, 2, none⟩ x2).setCell ⟨g, 3, none⟩ x3).setCell ⟨g, 4, none⟩ x4).setCell ⟨g, 5, none⟩ x5).setCell ⟨g, 6, none⟩ x6).setCell ⟨g, 7, none⟩ x7).heap[g]? = some (.cells #[x0, x1, x2, x3, x4, x5, x6, x7, a8] t (0, 0)) := by
    have q := blk_set h6 7 x7
    simp only [List.setIfInBounds_toArray, List.set_cons_zero, List.set_cons_succ] at q
    exact q
  have h8 : (((((((((W.setCell ⟨g, 0, none⟩ x0).setCell ⟨g, 1, none⟩ x1).setCell ⟨g, 2, none⟩ x2).setCell ⟨g, 3, none⟩ x3).setCell ⟨g, 4, none⟩ x4).setCell ⟨g, 5, none⟩ x5).setCell ⟨g, 6, none⟩ x6).setCell ⟨g, 7, none⟩ x7).setCell ⟨g, 8, none⟩ x8).heap[g]? = some (.cells #[x0, x1, x2, x3, x4, x5, x6, x7, x8] t (0, 0)) := by
    have q := blk_set h7 8 x8
    simp only [List.setIfInBounds_toArray, List.set_cons_zero, List.set_cons_succ] at q
    exact q
  exact h8
theorem Loc.boxed {o o' : Obj} (_ : Loc b (b + 1) (fun W => W.heap[b]? = some o) W) (h : W'.heap[b]? = some o') : Loc b (b + 1) (fun W => W.heap[b]? = some o') W' := Loc.box h
theorem below_only (hB : Below w.heap.size w W) (hw : w.heap.size ≤ b) (ho : Only W W' b) : Below w.heap.size w W' :=
  hB.trans ⟨ho.1, ho.2.1, ho.2.2.1, Nat.le_of_eq ho.2.2.2.1.symm, fun k hk => ho.2.2.2.2 k (by omega)⟩
theorem below_drawn (h : Drawn0 W W') : Below W.heap.size W W' := by
  obtain ⟨n, rfl⟩ := h
  exact pw_below_drewN (Below.refl _ _) n
theorem below_after {W : World} (hB : Below w.heap.size w W) (hb : Below W.heap.size W W') : Below w.heap.size w W' := hB.trans ⟨hb.os, hb.tape, hb.output, hb.size, fun k hk => hb.block k (Nat.lt_of_lt_of_le hk hB.size)⟩
end
end Go.Proofs.YtmlclmbplbbbhaaDoor.P

section
/- slices.Insert of one element into a row of structs of several cells. -/
set_option linter.unusedVariables false
set_option linter.unusedSimpArgs false
namespace Go.Proofs.YtmlclmbplbbbhaaDoor.P
open Go Go.RowKit Go.Proofs.YtmlclmbplbbbhaaDoorW.PrintWords Go.Proofs.YtmlclmbplbbbhaaDoorW.PrintLast Go.Proofs.YtmlclmbplbbbhaaDoorW.PrintMore
section
variable {P : Program}
theorem run_copy_rowK (w : World) (t ty e : TypeId) (i : TypeInfo) (g o dLen dCap : Nat) (a : Addr) (sLen sCap : Nat) (cur : Array Value) (cs : List Value)
    (hu : P.underlying t = some (.slice e)) (hi : P.info? e = some i) (hg : w.heap[g]? = some (.cells cur e (0, 0))) (hn : cs.length = Nat.min sLen dLen * i.size)
    (hsrc : ∀ j v, cs[j]? = some v → w.cell? (a.add j) = some v) (hfit : o + cs.length ≤ cur.size) (h1 : ∀ v ∈ cs, v.oneCell' = true) :
    (Builtin.copy_ #[t, t] ty #[.slice (some ⟨g, o, none⟩) dLen dCap, .slice (some a) sLen sCap]).run P w =
      .ok (goInt (Nat.min sLen dLen)) (w.setRow g (cur.toList.take o ++ cs ++ cur.toList.drop (o + cs.length)).toArray) := by
  have hl := run_loadCells_list (P := P) w a cs hsrc
  have hst := run_storeCells_at P g o e cs 0 cur w hg (by simpa using hfit) h1
  simp [Builtin.copy_, run_underlying hu, Builtin.lenOf, Builtin.firstCells, sizeOf, typeInfo, hi, ← hn, hl, hst]
theorem wp_copy_runI (w : World) {o : Oper} {a : Act} {K : Act → World → Prop} {Q : Exit → Act → World → Prop} (d s : Operand) (t t' : TypeId)
    (ho : o.op = .call { callee := .builtin .copy, args := #[d, s], argTypes := #[t, t'] }) (v u : Value) (hd : a.eval d = v) (hs : a.eval s = u) {v' : Value} {w' : World}
    (hr : (Builtin.copy_ #[t, t'] o.type #[v, u]).run P w = .ok v' w') (h : K (a.put o.dst v') w') : o.wp P a w K Q := by
  unfold Oper.wp execOp
  simp only [ho, resolve, invoke, builtin, Sem.run_bind, Sem.run_pure, Result.andThen_ok, List.map_toArray, List.map_cons, List.map_nil, hd, hs, hr]
  exact h
theorem wpList_copy_runI (w : World) {ops : Array Oper} {rest : List Oper} {o : Oper} {a : Act} {Q : Exit → Act → World → Prop} (hgd : o.guard = none) (d s : Operand) (t t' : TypeId)
    (ho : o.op = .call { callee := .builtin .copy, args := #[d, s], argTypes := #[t, t'] }) (v u : Value) (hd : a.eval d = v) (hs : a.eval s = u) {v' : Value} {w' : World}
    (hr : (Builtin.copy_ #[t, t'] o.type #[v, u]).run P w = .ok v' w') (h : wpList P ops Q rest (a.put o.dst v') w') : wpList P ops Q (o :: rest) a w :=
  wpList_plain hgd fun _ hK => wp_copy_runI w d s t t' ho v u hd hs hr (hK _ _ h)
theorem step_copy_runI {ops : Array Oper} {o : Oper} {a : Act} {w : World} {K : Act → World → Prop} {Q : Exit → Act → World → Prop} {E : Prop}
    (hg : o.guard = none) (d x : Operand) (dT sT : TypeId) (hop : o.op = Op.call { callee := Callee.builtin Builtin.copy, args := #[d, x], argTypes := #[dT, sT] })
    (v u : Value) (hd : a.eval d = v) (hx : a.eval x = u) {v' : Value} {w' : World} (hr : (Builtin.copy_ #[dT, sT] o.type #[v, u]).run P w = .ok v' w') (hK : K (a.put o.dst v') w') :
    if Region.wanted o (yielded ops a.tmps) = true then Oper.wp P o a w K Q else E := by
  have hw : Region.wanted o (yielded ops a.tmps) = true := by simp [Region.wanted, hg]
  rw [if_pos hw]
  unfold Oper.wp
  simp [execOp, hop, resolve, invoke, builtin, hd, hx, hr, Result.andThen]
  exact hK
end
section
variable {α : Type} {d : Kd α} {e base : Nat} {okv oku : Nat → Prop} {w w' : World} {v u v1 : Value} {xs : List α} {x : α}
theorem Sin_len (h : Kd.S d e w base okv v xs) : ∃ f inner, w.ownsRow base e d.sz v xs.length inner ∧ (∀ k, v.ownBlock = some k → okv k) ∧ Reps ((Kd.tag f d).M w base (fun k => okv k ∧ some k ≠ v.ownBlock)) d.sz xs.zipIdx inner := by
  obtain ⟨f, h0, inner, ho, hr⟩ := h
  rw [List.length_zipIdx] at ho
  exact ⟨f, inner, ho, h0, hr⟩
theorem cells_at {inner : List Value} {A B : List Value} {z i j : Nat} (h : inner = A ++ B) (hA : A.length = i * z) (hj : j < i) : (inner.drop (j * z)).take z = (A.drop (j * z)).take z := by
  have h1 : j * z + z ≤ i * z := by rw [← Nat.succ_mul]; exact Nat.mul_le_mul_right _ hj
  rw [h, List.drop_append_of_le_length (by omega), List.take_append_of_le_length (by rw [List.length_drop]; omega)]
theorem one_cells {inner : List Value} {f : Nat → Nat} {ok : Nat → Prop} {ps : List (α × Nat)} (hr : Reps ((Kd.tag f d).M w base ok) d.sz ps inner) (hs : 0 < d.sz) : ∀ c ∈ inner, c.oneCell' = true := by
  intro c hc
  obtain ⟨q, hq, rfl⟩ := List.mem_iff_getElem.1 hc
  have hql : q / d.sz < ps.length := by
    rw [Nat.div_lt_iff_lt_mul hs, ← hr.1]; exact hq
  refine (Kd.tag f d).K_one ((Kd.tag f d).K_of_M (hr.2 (q / d.sz) _ (List.getElem?_eq_getElem hql))) _ ?_
  rw [List.mem_iff_getElem?]
  refine ⟨q % d.sz, ?_⟩
  rw [List.getElem?_take, if_pos (Nat.mod_lt _ hs), List.getElem?_drop, Nat.mul_comm, Nat.div_add_mod, List.getElem?_eq_getElem hq]
open Classical in
/-- A row into which an element has been put. -/
theorem S_insert {f f2 : Nat → Nat} {inner vin : List Value} {i : Nat} (hi : i ≤ xs.length) (hoL : inner.length = xs.length * d.sz) (h0 : ∀ k, v.ownBlock = some k → okv k) (hr : Reps ((Kd.tag f d).M w base (fun k => okv k ∧ some k ≠ v.ownBlock)) d.sz xs.zipIdx inner)
    (hvL : vin.length = d.sz) (hr2 : Reps ((Kd.tag f2 d).M w base (fun k => oku k ∧ some k ≠ u.ownBlock)) d.sz [x].zipIdx vin) (hap : ∀ k, okv k → ¬ oku k)
    (ho' : w'.ownsRow base e d.sz v1 (xs.length + 1) (inner.take (i * d.sz) ++ vin ++ inner.drop (i * d.sz))) (hg : w.grownBy w' v.ownBlock) (hat : v1.ownBlock = v.ownBlock ∨ ∃ b, v1.ownBlock = some b ∧ w.heap.size ≤ b) :
    Kd.S d e w' base (fun k => okv k ∨ oku k ∨ w.heap.size ≤ k) v1 (xs.take i ++ [x] ++ xs.drop i) := by
  have hlen : (xs.take i ++ [x] ++ xs.drop i).length = xs.length + 1 := by simp only [List.length_append, List.length_take, List.length_drop, List.length_singleton]; omega
  have hm : i * d.sz ≤ xs.length * d.sz := Nat.mul_le_mul_right _ hi
  have hal : (inner.take (i * d.sz)).length = i * d.sz := by rw [List.length_take]; omega
  have hmv : ∀ (y : α) (c : List Value) (P : Nat → Prop) (Q : Nat → Prop), d.M w base P y c → (∀ k, P k → k < w.heap.size → some k ≠ v.ownBlock ∧ Q k) → d.M w' base Q y c := by
    intro y c P Q hp hPQ
    have h1 := d.M_bound hp
    have h2 : d.M w base (fun k => Q k ∧ k < w.heap.size ∧ some k ≠ v.ownBlock) y c := d.M_mono (fun k hk => ⟨(hPQ k hk.1 hk.2.2.1).2, hk.2.2.1, (hPQ k hk.1 hk.2.2.1).1⟩) h1
    have h3 : d.M w' base (fun k => Q k ∧ k < w.heap.size ∧ some k ≠ v.ownBlock) y c := d.M_move (fun k hk => hg.block k hk.2.1 hk.2.2) h2
    exact d.M_mono (fun k hk => hk.1) h3
  have hne : ∀ k, (okv k ∧ some k ≠ v.ownBlock ∨ oku k) → k < w.heap.size → some k ≠ v1.ownBlock := by
    intro k hk hlt he
    rcases hat with h | ⟨b, h, hb⟩
    · rw [h] at he
      rcases hk with hk | hk
      · exact hk.2 he
      · exact hap k (h0 k he.symm) hk
    · rw [h] at he; injection he with he; omega
  refine ⟨fun k => if oku k then i else if f k < i then f k else f k + 1, fun k hk => ?_, inner.take (i * d.sz) ++ vin ++ inner.drop (i * d.sz), by rw [List.length_zipIdx, hlen]; exact ho', by rw [List.length_zipIdx, hlen]; exact ho'.1, fun j p hj => ?_⟩
  · rcases hat with h | ⟨b, h, hb⟩
    · rw [h] at hk; exact .inl (h0 k hk)
    · rw [h] at hk; injection hk with hk; exact .inr (.inr (by omega))
  · rw [List.getElem?_zipIdx, Nat.zero_add] at hj
    obtain ⟨y, hy, rfl⟩ := Option.map_eq_some_iff.1 hj
    show d.M w' base (fun k => ((okv k ∨ oku k ∨ w.heap.size ≤ k) ∧ some k ≠ v1.ownBlock) ∧ (if oku k then i else if f k < i then f k else f k + 1) = j) y (((inner.take (i * d.sz) ++ vin ++ inner.drop (i * d.sz)).drop (j * d.sz)).take d.sz)
    by_cases h1 : j < i
    · have hy' : xs[j]? = some y := by
        rw [List.append_assoc, List.getElem?_append_left (by rw [List.length_take]; omega), List.getElem?_take, if_pos h1] at hy; exact hy
      have hc : ((inner.take (i * d.sz) ++ vin ++ inner.drop (i * d.sz)).drop (j * d.sz)).take d.sz = (inner.drop (j * d.sz)).take d.sz := by
        rw [cells_at (List.append_assoc _ _ _) hal h1, cells_at (List.take_append_drop (i * d.sz) inner).symm hal h1]
      rw [hc]
      refine hmv y _ _ _ (hr.2 j (y, j) (Kd.zip_at hy')) (fun k hk hlt => ⟨hk.1.2, ⟨.inl hk.1.1, hne k (.inl hk.1) hlt⟩, ?_⟩)
      have h2 : f k = j := hk.2
      rw [if_neg (hap k hk.1.1), if_pos (by omega)]; exact h2
    · by_cases h2 : j = i
      · subst h2
        have hy' : y = x := by
          rw [List.append_assoc, List.getElem?_append_right (by rw [List.length_take]; omega), List.length_take, Nat.min_eq_left hi, Nat.sub_self] at hy
          simpa using hy.symm
        subst hy'
        have hc : ((inner.take (j * d.sz) ++ vin ++ inner.drop (j * d.sz)).drop (j * d.sz)).take d.sz = (vin.drop (0 * d.sz)).take d.sz := by
          rw [List.append_assoc, List.drop_left' hal, List.take_left' hvL, Nat.zero_mul, List.drop_zero, List.take_of_length_le (by omega)]
        rw [hc]
        refine hmv y _ _ _ (hr2.2 0 (y, 0) rfl) (fun k hk hlt => ⟨fun he => hap k (h0 k he.symm) hk.1.1, ⟨.inr (.inl hk.1.1), hne k (.inr hk.1.1) hlt⟩, ?_⟩)
        rw [if_pos hk.1.1]
      · obtain ⟨q, rfl⟩ : ∃ q, j = q + 1 := ⟨j - 1, by omega⟩
        have hy' : xs[q]? = some y := by
          rw [List.getElem?_append_right (by simp only [List.length_append, List.length_take, List.length_singleton]; omega), List.getElem?_drop] at hy
          rw [← hy]; congr 1
          simp only [List.length_append, List.length_take, List.length_singleton]; omega
        have hq : i * d.sz ≤ q * d.sz := Nat.mul_le_mul_right _ (by omega)
        have hc : ((inner.take (i * d.sz) ++ vin ++ inner.drop (i * d.sz)).drop ((q + 1) * d.sz)).take d.sz = (inner.drop (q * d.sz)).take d.sz := by
          rw [List.drop_append, List.drop_of_length_le (by rw [List.length_append, hal, hvL, Nat.succ_mul]; omega), List.nil_append, List.drop_drop]
          congr 2
          rw [List.length_append, hal, hvL, Nat.succ_mul]; omega
        rw [hc]
        refine hmv y _ _ _ (hr.2 q (y, q) (Kd.zip_at hy')) (fun k hk hlt => ⟨hk.1.2, ⟨.inl hk.1.1, hne k (.inl hk.1) hlt⟩, ?_⟩)
        have h3 : f k = q := hk.2
        rw [if_neg (hap k hk.1.1), if_neg (by omega), h3]
end
end Go.Proofs.YtmlclmbplbbbhaaDoor.P
end

section
/- slices.Delete of one file out of a row of files, in place. -/
set_option linter.unusedVariables false
set_option linter.unusedSimpArgs false
namespace Go.Proofs.YtmlclmbplbbbhaaDoor.P
open Go Go.RowKit Go.Proofs.YtmlclmbplbbbhaaDoorW.PrintWords Go.Proofs.YtmlclmbplbbbhaaDoorW.PrintLast Go.Proofs.YtmlclmbplbbbhaaDoorW.PrintMore
theorem clear_own {P : Program} {α : Type} {d : Kd α} {e base : Nat} {ok : Nat → Prop} {W : World} {g n c : Nat} {xs : List α} (t : TypeId) (z : Value) (hu : P.underlying t = some (.slice e)) (hv : ∀ w, (zeroValue e).run P w = .ok z w) (hz : z.cells.size = d.sz) (h1 : ∀ v ∈ z.cells.toList, v.oneCell' = true)
    (HO : Kd.S d e W base ok (.slice (some ⟨g, 0, none⟩) n c) xs) (hn : n < c) (k : Nat) : ∃ W2, (∀ ty, (Builtin.clear_ #[t] ty #[.slice (some ⟨g, n * d.sz, none⟩) 1 k]).run P W = .ok (.tuple #[]) W2) ∧ Kd.S d e W2 base ok (.slice (some ⟨g, 0, none⟩) n c) xs ∧ W.grownBy W2 (some g) := by
  obtain ⟨f, inner, ho, h0, hr⟩ := Sin_len HO
  have hnx : n = xs.length := (Kd.S_reads' HO).1
  subst hnx
  obtain ⟨hil, ho⟩ := ho
  rcases ho with ⟨h2, _⟩ | ⟨g', c', cur, hv', hb, hh, hnc, hcm, hcs, htk⟩
  · cases h2
  injection hv' with ha _ hc
  injection ha with ha
  injection ha with hg
  subst hg; subst hc
  have hcl : cur.toList.length = c * d.sz := by rw [Array.length_toList]; exact hcs
  have hmul : xs.length * d.sz + d.sz ≤ c * d.sz := by rw [← Nat.succ_mul]; exact Nat.mul_le_mul_right _ hn
  have hts : (Kd.tag f d).sz = d.sz := rfl
  have hzl : z.cells.toList.length = d.sz := by rw [Array.length_toList]; exact hz
  have hone : (Builtin.zeroCells z.cells 1).toList = z.cells.toList := by
    apply List.ext_getElem?
    intro j
    have hsz1 : (Builtin.zeroCells z.cells 1).size = z.cells.size := by rw [size_zeroCells, Nat.one_mul]
    by_cases hj : j < z.cells.size
    · rw [Array.getElem?_toList, Array.getElem?_toList, Array.getElem?_eq_getElem (by rw [hsz1]; exact hj), Array.getElem?_eq_getElem hj]
      simp [Builtin.zeroCells, Nat.mod_eq_of_lt hj, getElem!_pos z.cells j hj]
    · rw [List.getElem?_eq_none (by rw [Array.length_toList, hsz1]; omega), List.getElem?_eq_none (by rw [Array.length_toList]; omega)]
  have hrun := run_storeCells_at (P := P) g (xs.length * d.sz) e z.cells.toList 0 cur W hh (by rw [hzl, hcs]; omega) h1
  refine ⟨W.setRow g (cur.toList.take (xs.length * d.sz + 0) ++ z.cells.toList ++ cur.toList.drop (xs.length * d.sz + 0 + z.cells.toList.length)).toArray, fun ty => ?_, ?_, ?_⟩
  · simp [Builtin.clear_, run_underlying hu, hv, hone, hrun]
  · refine ⟨f, h0, inner, ⟨by rw [List.length_zipIdx]; exact hil, .inr ⟨g, c, _, by rw [List.length_zipIdx], hb, setRow_heap W g cur _ e (0, 0) hh, by rw [List.length_zipIdx]; exact hnc, hcm, ?_, ?_⟩⟩, ?_⟩
    · simp only [List.size_toArray, List.length_append, List.length_take, List.length_drop, hzl, Array.length_toList, hcs, hts]; omega
    · have e1 : List.take (xs.length * d.sz) (cur.toList.take (xs.length * d.sz + 0) ++ z.cells.toList ++ cur.toList.drop (xs.length * d.sz + 0 + z.cells.toList.length)) = inner := by
        rw [List.append_assoc, Nat.add_zero, List.take_append_of_le_length (by rw [List.length_take, hcl]; omega), List.take_take, Nat.min_self]; exact htk
      rw [List.length_zipIdx, List.toList_toArray]; exact e1
    · refine hr.imp_ (fun p q hp => (Kd.tag f d).M_move (fun k' hk' => setRow_other _ _ _ _ (fun he => hk'.2 (by rw [he]; rfl))) hp)
  · exact ⟨rfl, rfl, rfl, by simp [World.setRow], fun k' _ hk' => setRow_other _ _ _ _ (fun he => hk' (by rw [he]))⟩
set_option maxHeartbeats 4000000 in
set_option maxRecDepth 100000 in
theorem delF_row {base : Nat} {ok : Nat → Prop} {v : Value} {xs : List S53} {w : World} (i : Nat) (HO : Kd.S k53 53 w base ok v xs) (hi : i < xs.length) (hbase : base ≤ w.heap.size) :
    Calls Tryd.prog 75 #[v, .int .i64 i, .int .i64 ((i : Int) + 1)] w fun e w' => ∃ v1, e = .returned v1 ∧ Kd.S k53 53 w' base ok v1 (xs.eraseIdx i) ∧ w.grownBy w' v.ownBlock ∧ v1.ownBlock = v.ownBlock := by
  obtain ⟨g, c, rfl, hbg, hgw, cells0, hh⟩ := Kd.S_form HO (by omega)
  obtain ⟨n, hn⟩ : ∃ n, n = xs.length := ⟨_, rfl⟩
  have hnc : n ≤ c := by rw [hn]; exact (Kd.S_reads' HO).2.1
  have hcm : c ≤ 9223372036854775807 := by
    obtain ⟨inner, ho⟩ := Kd.S_own HO
    rcases ho.2 with ⟨h2, _⟩ | ⟨g', c', cur, hv', hb, hh, hnc, hcm, hcs, htk⟩
    · cases h2
    · injection hv' with _ _ hc; subst hc; unfold maxLen at hcm; omega
  rw [← hn] at HO hi ⊢
  have HO' : Aside0 (Kd.S k53 53 w.drew base ok (.slice (some ⟨g, 0, none⟩) n c) xs) := ⟨Kd.S_drew HO⟩
  have HZ : Aside0 (∀ w, (zeroValue 53).run Tryd.prog w = .ok (.agg #[.string ⟨#[]⟩, .slice none 0 0, .int .i64 0]) w) := ⟨fun w => by kernel_rfl⟩
  have HN : Aside0 (n = xs.length) := ⟨hn⟩
  have HGD : Aside0 (w.grownBy w.drew (some g)) := ⟨⟨rfl, rfl, rfl, Nat.le_refl _, fun _ _ _ => rfl⟩⟩
  clear hn hh HO hbg
  have hwi : IntKind.i64.wrap ((i : Int) + 1) = (i : Int) + 1 := by rw [IntKind.wrap_i64]; omega
  have hne : ¬ ((i : Int) = (i : Int) + 1) := by omega
  have hic : i ≤ c := by omega
  have hi1 : i + 1 ≤ n := by omega
  have hi1c : i + 1 ≤ c := by omega
  have htn : ((i : Int) + 1).toNat = i + 1 := by omega
  have hb0 : (0 : Int) ≤ (i : Int) + 1 := by omega
  have hii : (i : Int) ≤ (i : Int) + 1 := by omega
  have hin : (i : Int) + 1 ≤ (n : Int) := by omega
  have hcn1 : ¬ (c = n - 1) := by omega
  have hn1 : n - 1 ≤ n := by omega
  have hd1 : n - (n - 1) = 1 := by omega
  have HA : Aside0 ((if c = i + 1 then some (⟨g, 0, none⟩ : Addr) else some ⟨g, (i + 1) * 3, none⟩) = if c = i + 1 then some ⟨g, 0, none⟩ else (some (⟨g, 0, none⟩ : Addr)).map (·.add ((i + 1) * k53.sz))) := ⟨by split; rfl; rw [Option.map_some, Addr.add_lit, Nat.zero_add]; rfl⟩
  have mixed : Tryd.prog.follows .mixedOrders = true := by kernel_rfl
  go_enter Tryd.func75, Tryd.ntmps75
  go_wp2_with fail
  go_region_law_o (refine Kd.S_delete_step k53 (w0 := w) base (by rfl) (.tmp 22) (.tmp 25) 27 53 rfl Tryd.underlying27 (by kernel_rfl) rfl rfl HA.out rfl HO'.out hi (below_drew (Below.refl _ _)) hbase ?_; intro w1 HS hB hg)
  obtain ⟨W2, hcl0, HS2, hg2⟩ := clear_own (P := Tryd.prog) 27 _ Tryd.underlying27 HZ.out rfl (by decide) HS (by omega) (c - (n - 1))
  have hcl : ∀ ty, (Builtin.clear_ #[27] ty #[.slice (some ⟨g, (n - 1) * 3, none⟩) 1 (c - (n - 1))]).run Tryd.prog w1 = .ok (.tuple #[]) W2 := hcl0
  have HG : Aside0 (w.grownBy W2 (some g)) := ⟨(HGD.out.trans hg).trans hg2⟩
  have HS' := (⟨HS2⟩ : Aside0 _)
  clear hcl0 HS2 hg2 hg hB HS HO' HA HGD HZ hi hne hic hi1 hi1c htn hb0 hii hin
  go_wp2
  all_goals go_ret
  · have h : c = i + 1 := by assumption
    subst h
    exact ⟨_, rfl, HS'.out, HG.out, rfl⟩
  · exact ⟨_, rfl, HS'.out, HG.out, rfl⟩
end Go.Proofs.YtmlclmbplbbbhaaDoor.P
end

/-
  DERIVED: THE SHELF's CONTRACTS AT THIS DUMP, IN PLAIN WORDS (tools/lay-plain.mjs out of 'TrydShelf.lean', which tools/lay-shelf.mjs wrote): THE SAME DECLARATIONS UNDER THE SAME NAMES: 'import', 'namespace', 'open', 'def', 'theorem' AND NOTHING ELSE: no command of the shelf's: FOR A HAND-IN. Each laying: the table of numbers ('.._ren') and one theorem, a field a fact of the dump's own or the kernel's comparison; each contract: ONE APPLICATION.
-/
namespace Go.Proofs
open Go.Shelf
def Tryd.lays160_ren : Go.Shelf.Ren := ⟨fun | 160 => 87 | 232 => 96 | 231 => 95 | 227 => 97 | 234 => 99 | 233 => 98 | 236 => 101 | 235 => 100 | 228 => 105 | 271 => 108 | 151 => 107 | 197 => 106 | 120 => 113 | 152 => 112 | 260 => 111 | 137 => 115 | 119 => 116 | 224 => 117 | 225 => 118 | 217 => 119 | 266 => 120 | n => n, fun | 9 => 9 | 4 => 4 | 3 => 3 | 5 => 5 | 117 => 109 | 116 => 108 | 0 => 0 | 124 => 112 | 21 => 21 | 105 => 115 | 46 => 100 | 119 => 120 | 139 => 123 | 138 => 122 | n => n, fun | 3 => 1 | 4 => 2 | n => n⟩
theorem Tryd.lays160 : Go.Proofs.Lays.n160 Tryd.prog Tryd.lays160_ren := {
  mixed := by kernel_rfl
  f119 := Tryd.func116.trans (congrArg some (by kernel_rfl))
  f120 := Tryd.func113.trans (congrArg some (by kernel_rfl))
  f137 := Tryd.func115.trans (congrArg some (by kernel_rfl))
  f151 := Tryd.func107.trans (congrArg some (by kernel_rfl))
  f152 := Tryd.func112.trans (congrArg some (by kernel_rfl))
  f160 := Tryd.func87.trans (congrArg some (by kernel_rfl))
  f197 := Tryd.func106.trans (congrArg some (by kernel_rfl))
  f217 := Tryd.func119.trans (congrArg some (by kernel_rfl))
  f224 := Tryd.func117.trans (congrArg some (by kernel_rfl))
  f225 := Tryd.func118.trans (congrArg some (by kernel_rfl))
  f227 := Tryd.func97.trans (congrArg some (by kernel_rfl))
  f228 := Tryd.func105.trans (congrArg some (by kernel_rfl))
  f231 := Tryd.func95.trans (congrArg some (by kernel_rfl))
  f232 := Tryd.func96.trans (congrArg some (by kernel_rfl))
  f233 := Tryd.func98.trans (congrArg some (by kernel_rfl))
  f234 := Tryd.func99.trans (congrArg some (by kernel_rfl))
  f235 := Tryd.func100.trans (congrArg some (by kernel_rfl))
  f236 := Tryd.func101.trans (congrArg some (by kernel_rfl))
  f260 := Tryd.func111.trans (congrArg some (by kernel_rfl))
  f266 := Tryd.func120.trans (congrArg some (by kernel_rfl))
  f271 := Tryd.func108.trans (congrArg some (by kernel_rfl))
  t0 := Tryd.underlying0
  a0 := Tryd.isAgg0
  z0 := Tryd.sizeOf0
  v0 := Tryd.zeroValue0
  t3 := Tryd.underlying3
  a3 := Tryd.isAgg3
  z3 := Tryd.sizeOf3
  v3 := Tryd.zeroValue3
  t4 := Tryd.underlying4
  a4 := Tryd.isAgg4
  z4 := Tryd.sizeOf4
  v4 := Tryd.zeroValue4
  t5 := Tryd.underlying5
  a5 := Tryd.isAgg5
  z5 := Tryd.sizeOf5
  v5 := Tryd.zeroValue5
  t9 := Tryd.underlying9
  a9 := Tryd.isAgg9
  z9 := Tryd.sizeOf9
  v9 := Tryd.zeroValue9
  t21 := Tryd.underlying21
  a21 := Tryd.isAgg21
  z21 := Tryd.sizeOf21
  v21 := Tryd.zeroValue21
  t46 := Tryd.underlying100
  a46 := Tryd.isAgg100
  z46 := Tryd.sizeOf100
  v46 := Tryd.zeroValue100
  t105 := Tryd.underlying115
  a105 := Tryd.isAgg115
  z105 := Tryd.sizeOf115
  v105 := Tryd.zeroValue115
  t116 := Tryd.underlying108
  a116 := Tryd.isAgg108
  z116 := Tryd.sizeOf108
  t117 := Tryd.underlying109
  a117 := Tryd.isAgg109
  z117 := Tryd.sizeOf109
  v117 := Tryd.zeroValue109
  t119 := Tryd.underlying120
  a119 := Tryd.isAgg120
  z119 := Tryd.sizeOf120
  t124 := Tryd.underlying112
  a124 := Tryd.isAgg112
  z124 := Tryd.sizeOf112
  v124 := Tryd.zeroValue112
  t138 := Tryd.underlying122
  a138 := Tryd.isAgg122
  z138 := Tryd.sizeOf122
  v138 := Tryd.zeroValue122
  t139 := Tryd.underlying123
  a139 := Tryd.isAgg123
  z139 := Tryd.sizeOf123
  v139 := Tryd.zeroValue123
  g3 := by kernel_rfl
  g4 := by kernel_rfl }
def Tryd.lays106_ren : Go.Shelf.Ren := ⟨fun | 106 => 93 | 213 => 104 | 265 => 110 | n => n, fun | 9 => 9 | 3 => 3 | n => n, fun | n => n⟩
theorem Tryd.lays106 : Go.Proofs.Lays.n106 Tryd.prog Tryd.lays106_ren := {
  mixed := by kernel_rfl
  f106 := Tryd.func93.trans (congrArg some (by kernel_rfl))
  f213 := Tryd.func104.trans (congrArg some (by kernel_rfl))
  f265 := Tryd.func110.trans (congrArg some (by kernel_rfl))
  t3 := Tryd.underlying3
  a3 := Tryd.isAgg3
  z3 := Tryd.sizeOf3
  v3 := Tryd.zeroValue3
  t9 := Tryd.underlying9
  a9 := Tryd.isAgg9
  z9 := Tryd.sizeOf9
  v9 := Tryd.zeroValue9 }
open Go.RowKit in
/-- strings.Compare: "Compare returns an integer comparing two strings lexicographically. The result will be 0 if a == b, -1 if a < b, and +1 if a > b.": IT RETURNS 'Lib.compareBytes a b'; the world is as it was. (LAID: no walk: one application.) -/
theorem Tryd.strings_Compare (a b : ByteArray) (w : World) :
    Calls Tryd.prog 93 #[.string a, .string b] w fun e w' => e = .returned (.int .i64 (Lib.compareBytes a.data.toList b.data.toList)) ∧ w' = w := Any.strings_Compare Tryd.lays106 a b w
open Go.RowKit Go.Lib in
theorem Tryd.strings_Trim (s cutset : ByteArray) (w : World) (hs : s.size ≤ 9223372036854775807) (hcs : cutset.size < 4294967281) (hascii : ∀ (j : Nat) b, cutset.data.toList[j]? = some b → b.toNat < 128) :
    Calls Tryd.prog 87 #[.string s, .string cutset] w fun e w' => e = .returned (.string ⟨(Lib.trimS s.data.toList cutset.data.toList).toArray⟩) ∧ Below w.heap.size w w' := Any.strings_Trim_laid Tryd.lays160 (by kernel_rfl) s cutset w hs hcs hascii
end Go.Proofs

-- written by a program of this session's (wip/pp)
namespace Go.Proofs.YtmlclmbplbbbhaaDoor.P
open Go.RowKit Go.Proofs.YtmlclmbplbbbhaaDoorW.PrintWords Go.Proofs.YtmlclmbplbbbhaaDoorW.PrintLast Go.Proofs.YtmlclmbplbbbhaaDoorW.PrintMore
attribute [local go_sem] max2_int min2_int max_two min_two max_three min_three max_four min_four str_geq str_gtr str_leq   -- for this text's walks alone
set_option linter.unusedVariables false
set_option linter.unusedSimpArgs false

/-! ### strings_Compare: function 93 -/
def strings_Compare.f (a0 a1 : ByteArray) : Option (Int) := some (Go.Lib.compareBytes a0.data.toList a1.data.toList)
theorem strings_Compare.calls (a0 a1 : ByteArray) (r : Int) (w : World) (h : strings_Compare.f a0 a1 = some r) :
 Calls Tryd.prog 93 #[.string a0, .string a1] w fun e w' => e = .returned (.int .i64 r) ∧ Drawn0 w w' := by
 obtain rfl := Option.some.inj h
 refine (Tryd.strings_Compare a0 a1 w).mono ?_
 rintro e w' ⟨rfl, rfl⟩
 exact ⟨rfl, Drawn0.refl _⟩

end Go.Proofs.YtmlclmbplbbbhaaDoor.P

-- written by a program of this session's (wip/pp)
namespace Go.Proofs.YtmlclmbplbbbhaaDoor.P
open Go.RowKit Go.Proofs.YtmlclmbplbbbhaaDoorW.PrintWords Go.Proofs.YtmlclmbplbbbhaaDoorW.PrintLast Go.Proofs.YtmlclmbplbbbhaaDoorW.PrintMore
attribute [local go_sem] max2_int min2_int max_two min_two max_three min_three max_four min_four str_geq str_gtr str_leq   -- for this text's walks alone
set_option linter.unusedVariables false
set_option linter.unusedSimpArgs false

/-! ### impl_Files_find_1: function 92 -/
def impl_Files_find_1.f (a0_0 : ByteArray) (l0_1 : List Int) (a0_2 : Int) (a1 : ByteArray) : Option (Int) := (strings_Compare.f a0_0 a1).bind fun t102 => (some t102)
set_option maxHeartbeats 8000000 in
set_option maxRecDepth 100000 in
theorem impl_Files_find_1.calls (a0_0 : ByteArray) (A0_1 : Option Addr) (c0_1 : Nat) (l0_1 : List Int) (a0_2 : Int) (a1 : ByteArray) (r : Int) (w : World) (hr0_1 : Kd.C (Kd.int .u8) w A0_1 l0_1.length l0_1) (hc0_1 : l0_1.length ≤ c0_1) (h : impl_Files_find_1.f a0_0 l0_1 a0_2 a1 = some r) :
 Calls Tryd.prog 92 #[.agg #[.string a0_0, .slice A0_1 l0_1.length c0_1, .int .i64 a0_2], .string a1] w fun e w' => e = .returned (.int .i64 r) ∧ Below w.heap.size w w' := by
 have hu53 := Tryd.underlying53
 have HR0_1 := aM hr0_1
 have HC0_1 := aM hc0_1
 clear hr0_1 hc0_1
 have HB := aM (Below.refl w.heap.size w)
 have H : ((strings_Compare.f a0_0 a1).bind fun t102 => (some t102)) = some r := h
 clear h
 obtain ⟨t102, A3, H⟩ := bS H; try dsimp only at H
 obtain rfl := Option.some.inj H
 go_enter Tryd.func92, Tryd.ntmps92
 go_wp2_with (first | ((with_reducible refine gate_dst (N := 2) rfl ?_); refine bX 2 53 #[.string a0_0, .slice A0_1 l0_1.length c0_1, .int .i64 a0_2] ?_; intro gb101 hg w4 hbox hb; have _ := aM (below_step hbZ hb); have _ := aM hbox; have _ := szZ hg; have _ := szZ hg; clear HB; rename_i HB BK101 GW101 GE101; clear hb hbox hg; have hz5 := cellsZ3 BK101.out) | ((with_reducible refine gate_callee (f := 93) rfl ?_); refine gL 8 Tryd.func93 #[.string a0_0, .string a1] ?_; (with_reducible refine (strings_Compare.calls a0_0 a1 t102 _ A3.out).mono ?_); rintro e w' ⟨rfl, ⟨nd, rfl⟩⟩; refine ⟨_, rfl, ?_⟩))
 go_ret
 exact ⟨z674d, zcb41⟩

end Go.Proofs.YtmlclmbplbbbhaaDoor.P

-- written by a program of this session's (wip/pp)
namespace Go.Proofs.YtmlclmbplbbbhaaDoor.P
open Go.RowKit Go.Proofs.YtmlclmbplbbbhaaDoorW.PrintWords Go.Proofs.YtmlclmbplbbbhaaDoorW.PrintLast Go.Proofs.YtmlclmbplbbbhaaDoorW.PrintMore
attribute [local go_sem] max2_int min2_int max_two min_two max_three min_three max_four min_four str_geq str_gtr str_leq   -- for this text's walks alone
set_option linter.unusedVariables false
set_option linter.unusedSimpArgs false

/-! ### impl_File_string_with_impl_Files_find_1: function 10091092 -/
def impl_File_string_with_impl_Files_find_1.l0 : Nat → List (S53) → ByteArray → Int → Int → Int → Option (Int × Bool)
 | 0, _, _, _, _, _ => none
 | k + 1, x0, x1, x8, x9, x10 => if x9 < x10 then (if 0 ≤ (wrap64 ((IntKind.u64.wrap (wrap64 (x9 + x10))) / 2)) then (if (wrap64 ((IntKind.u64.wrap (wrap64 (x9 + x10))) / 2)) < (x0.length : Int) then ((impl_Files_find_1.f ((rd_T53 x0 (wrap64 ((IntKind.u64.wrap (wrap64 (x9 + x10))) / 2))).f0) ((rd_T53 x0 (wrap64 ((IntKind.u64.wrap (wrap64 (x9 + x10))) / 2))).f1) ((rd_T53 x0 (wrap64 ((IntKind.u64.wrap (wrap64 (x9 + x10))) / 2))).f2) x1).bind fun t102 => (if t102 < 0 then (impl_File_string_with_impl_Files_find_1.l0 k x0 x1 x8 (wrap64 ((wrap64 ((IntKind.u64.wrap (wrap64 (x9 + x10))) / 2)) + 1)) x10) else (impl_File_string_with_impl_Files_find_1.l0 k x0 x1 x8 x9 (wrap64 ((IntKind.u64.wrap (wrap64 (x9 + x10))) / 2))))) else (none)) else (none)) else (if x9 < x8 then (if 0 ≤ x9 then (if x9 < (x0.length : Int) then ((impl_Files_find_1.f ((rd_T53 x0 x9).f0) ((rd_T53 x0 x9).f1) ((rd_T53 x0 x9).f2) x1).bind fun t104 => (some (x9, (t104 == 0)))) else (none)) else (none)) else (some (x9, false)))
def impl_File_string_with_impl_Files_find_1.f (k : Nat) (l0 : List (S53)) (a1 : ByteArray)  : Option (Int × Bool) := impl_File_string_with_impl_Files_find_1.l0 k l0 a1 (l0.length : Int) 0 (l0.length : Int)
theorem impl_File_string_with_impl_Files_find_1.mono_l : ∀ k, (∀ y0 y1 y2 y3 y4, LeO (impl_File_string_with_impl_Files_find_1.l0 k y0 y1 y2 y3 y4) (impl_File_string_with_impl_Files_find_1.l0 (k + 1) y0 y1 y2 y3 y4))
 | 0 => fun _ _ _ _ _ r h => by simp [impl_File_string_with_impl_Files_find_1.l0] at h
 | k + 1 => by
  have ih0 := impl_File_string_with_impl_Files_find_1.mono_l k
  · intro y0 y1 y2 y3 y4
    unfold impl_File_string_with_impl_Files_find_1.l0
    exact moZ
theorem impl_File_string_with_impl_Files_find_1.mono : ∀ a0 a1 k, LeO (impl_File_string_with_impl_Files_find_1.f k a0 a1) (impl_File_string_with_impl_Files_find_1.f (k + 1) a0 a1) := by
 intro a0 a1 k
 have ih0 := impl_File_string_with_impl_Files_find_1.mono_l k
 unfold impl_File_string_with_impl_Files_find_1.f
 exact moZ
set_option maxHeartbeats 8000000 in
set_option maxRecDepth 100000 in
theorem impl_File_string_with_impl_Files_find_1.calls (k : Nat) (A0 : Option Addr) (c0 : Nat) (l0 : List (S53)) (a1 : ByteArray)  (r1 : Int) (r2 : Bool) (w : World) (hr0 : Kd.C k53 w A0 l0.length l0) (hc0 : l0.length ≤ c0) (h : impl_File_string_with_impl_Files_find_1.f k l0 a1 = some (r1, r2)) :
 Calls Tryd.prog 91 #[.slice A0 l0.length c0, .string a1, .func (.func 92) #[] #[]] w fun e w' => e = .returned (.tuple #[.int .i64 r1, .bool r2]) ∧ Below w.heap.size w w' := by
 have hu53 := Tryd.underlying53
 have HR0 := aM hr0
 have HC0 := aM hc0
 clear hr0 hc0
 have HB := aM (Below.refl w.heap.size w)
 have H : (impl_File_string_with_impl_Files_find_1.l0 k l0 a1 (l0.length : Int) 0 (l0.length : Int)) = some (r1, r2) := h
 clear h
 have H' := aM H
 clear H
 go_enter Tryd.func91, Tryd.ntmps91
 go_wp2
 go_loopg [9, 10] k (fun kq v9 v10 w' => ∃ (x9_1 : Int) (x10_1 : Int), v9 = .int .i64 x9_1 ∧ v10 = .int .i64 x10_1 ∧ Aside0 (impl_File_string_with_impl_Files_find_1.l0 kq l0 a1 (l0.length : Int) x9_1 x10_1 = some (r1, r2)) ∧ Aside0 (kq ≤ k) ∧ Aside0 (Below w.heap.size w w'))
 case atStart => exact ⟨(0), ((l0.length : Int)), z4458, z4458, H', ⟨Nat.le_refl _⟩, ⟨z5acd⟩⟩
 case round =>
  clear H'
  obtain ⟨x9_1, x10_1, rfl, rfl, HA, HK1, HB⟩ := hrel
  cases gk with
  | zero => exact absurd HA.out (by simp [impl_File_string_with_impl_Files_find_1.l0])
  | succ k1 =>
   have H := HA.out
   clear HA
   simp only [impl_File_string_with_impl_Files_find_1.l0] at H
   by_cases c4 : x9_1 < x10_1
   · rw [if_pos c4] at H
     have c4b0 := dL c4
     clear c4
     obtain ⟨ji5, hji5⟩ : ∃ j_ : Int, (wrap64 ((IntKind.u64.wrap (wrap64 (x9_1 + x10_1))) / 2)) = j_ := ⟨_, rfl⟩
     replace H : (if 0 ≤ (ji5) then (if (ji5) < (l0.length : Int) then ((impl_Files_find_1.f ((rd_T53 l0 (ji5)).f0) ((rd_T53 l0 (ji5)).f1) ((rd_T53 l0 (ji5)).f2) a1).bind fun t102 => (if t102 < 0 then (impl_File_string_with_impl_Files_find_1.l0 k1 l0 a1 (l0.length : Int) (wrap64 ((ji5) + 1)) x10_1) else (impl_File_string_with_impl_Files_find_1.l0 k1 l0 a1 (l0.length : Int) x9_1 ji5))) else (none)) else (none)) = some (r1, r2) := by first | (rw [hji5] at H; exact H) | (simp only [hji5] at H ⊢; exact H)
     have hji5w : (IntKind.i64.wrap ((IntKind.u64.wrap (wrap64 (x9_1 + x10_1))) / 2)) = ji5 := (i64_w _).trans hji5
     obtain ⟨c6b0, H⟩ := sE H
     obtain ⟨c7b0, H⟩ := sL H
     obtain ⟨t102, A8, H⟩ := bS H; try dsimp only at H
     by_cases c9 : t102 < 0
     · rw [if_pos c9] at H
       have c9b0 := dL c9
       clear c9
       have H' := aM H
       clear H
       have p101 : 0 ≤ ((ji5) : Int) := of_decide_eq_true z1200
       have q101 : (ji5) < (l0.length : Int) := of_decide_eq_true z1200
       obtain ⟨ad101, A101_1, c101_1, e101, hx101_0, hx101_1, hx101_2, hl101_1, hi101_1⟩ := at_T53 HR0.out (ji5) p101 q101
       cases e101
       have TW101_1 := aM hx101_1
       replace hx101_0 := (HB.out.cell (World.block_lt_of_cell? w _ hx101_0)).trans hx101_0
       replace hx101_1 := (HB.out.cell (World.block_lt_of_cell? w _ hx101_1)).trans hx101_1
       replace hx101_2 := (HB.out.cell (World.block_lt_of_cell? w _ hx101_2)).trans hx101_2
       have HR101_1 := aM hi101_1
       have HC101_1 := aM hl101_1
       clear hi101_1 hl101_1
       replace p101 := eq_true p101
       replace q101 := eq_true q101
       go_wp2_with (first | (go_at_call 92; (with_reducible refine (impl_Files_find_1.calls ((rd_T53 l0 (ji5)).f0) _ _ ((rd_T53 l0 (ji5)).f1) ((rd_T53 l0 (ji5)).f2) a1 t102 _ ?side1 ?side2 A8.out).mono ?_); (case side1 => exact (cZ (Kd.C_below HR101_1.out HB.out))); (case side2 => exact HC101_1.out); rintro e w10 ⟨rfl, hb⟩; have _ := aM (below_step hbZ hb); clear HB; rename_i HB; (try clear hb)))
       go_roundg k1
       case measure => have := HK1.out; omega
       case rel => exact ⟨(wrap64 ((ji5) + 1)), (x10_1), (by first | rfl | (simp; done) | (simp only [← hji5] <;> (first | rfl | (simp; done))) | (simp [*]; done)), z4458, H', ⟨zfb39⟩, ⟨z5acd⟩⟩
     · rw [if_neg c9] at H
       have c9b0 := nL c9
       clear c9
       have H' := aM H
       clear H
       have p101 : 0 ≤ ((ji5) : Int) := of_decide_eq_true z1200
       have q101 : (ji5) < (l0.length : Int) := of_decide_eq_true z1200
       obtain ⟨ad101, A101_1, c101_1, e101, hx101_0, hx101_1, hx101_2, hl101_1, hi101_1⟩ := at_T53 HR0.out (ji5) p101 q101
       cases e101
       have TW101_1 := aM hx101_1
       replace hx101_0 := (HB.out.cell (World.block_lt_of_cell? w _ hx101_0)).trans hx101_0
       replace hx101_1 := (HB.out.cell (World.block_lt_of_cell? w _ hx101_1)).trans hx101_1
       replace hx101_2 := (HB.out.cell (World.block_lt_of_cell? w _ hx101_2)).trans hx101_2
       have HR101_1 := aM hi101_1
       have HC101_1 := aM hl101_1
       clear hi101_1 hl101_1
       replace p101 := eq_true p101
       replace q101 := eq_true q101
       go_wp2_with (first | (go_at_call 92; (with_reducible refine (impl_Files_find_1.calls ((rd_T53 l0 (ji5)).f0) _ _ ((rd_T53 l0 (ji5)).f1) ((rd_T53 l0 (ji5)).f2) a1 t102 _ ?side1 ?side2 A8.out).mono ?_); (case side1 => exact (cZ (Kd.C_below HR101_1.out HB.out))); (case side2 => exact HC101_1.out); rintro e w11 ⟨rfl, hb⟩; have _ := aM (below_step hbZ hb); clear HB; rename_i HB; (try clear hb)))
       go_roundg k1
       case measure => have := HK1.out; omega
       case rel => exact ⟨(x9_1), (ji5), z4458, (by first | rfl | (simp; done) | (simp only [← hji5] <;> (first | rfl | (simp; done))) | (simp [*]; done)), H', ⟨zfb39⟩, ⟨z5acd⟩⟩
   · rw [if_neg c4] at H
     have c4b0 := nL c4
     clear c4
     by_cases c12 : x9_1 < (l0.length : Int)
     · rw [if_pos c12] at H
       have c12b0 := dL c12
       clear c12
       obtain ⟨c13b0, H⟩ := sE H
       obtain ⟨c14b0, H⟩ := sL H
       obtain ⟨t104, A15, H⟩ := bS H; try dsimp only at H
       simp only [Option.some.injEq, Prod.mk.injEq] at H
       obtain ⟨rfl, rfl⟩ := H
       have p103 : 0 ≤ (x9_1 : Int) := of_decide_eq_true z1200
       have q103 : x9_1 < (l0.length : Int) := of_decide_eq_true z1200
       obtain ⟨ad103, A103_1, c103_1, e103, hx103_0, hx103_1, hx103_2, hl103_1, hi103_1⟩ := at_T53 HR0.out x9_1 p103 q103
       cases e103
       have TW103_1 := aM hx103_1
       replace hx103_0 := (HB.out.cell (World.block_lt_of_cell? w _ hx103_0)).trans hx103_0
       replace hx103_1 := (HB.out.cell (World.block_lt_of_cell? w _ hx103_1)).trans hx103_1
       replace hx103_2 := (HB.out.cell (World.block_lt_of_cell? w _ hx103_2)).trans hx103_2
       have HR103_1 := aM hi103_1
       have HC103_1 := aM hl103_1
       clear hi103_1 hl103_1
       replace p103 := eq_true p103
       replace q103 := eq_true q103
       go_wp2_with (first | (go_at_call 92; (with_reducible refine (impl_Files_find_1.calls ((rd_T53 l0 x9_1).f0) _ _ ((rd_T53 l0 x9_1).f1) ((rd_T53 l0 x9_1).f2) a1 t104 _ ?side1 ?side2 A15.out).mono ?_); (case side1 => exact (cZ (Kd.C_below HR103_1.out HB.out))); (case side2 => exact HC103_1.out); rintro e w16 ⟨rfl, hb⟩; have _ := aM (below_step hbZ hb); clear HB; rename_i HB; (try clear hb)))
       go_ret2
       exact ⟨z674d, z5acd⟩
     · rw [if_neg c12] at H
       have c12b0 := nL c12
       clear c12
       simp only [Option.some.injEq, Prod.mk.injEq] at H
       obtain ⟨rfl, rfl⟩ := H
       go_wp2
       go_ret2
       exact ⟨z674d, z5acd⟩

end Go.Proofs.YtmlclmbplbbbhaaDoor.P

-- written by a program of this session's (wip/pp)
namespace Go.Proofs.YtmlclmbplbbbhaaDoor.P
open Go.RowKit Go.Proofs.YtmlclmbplbbbhaaDoorW.PrintWords Go.Proofs.YtmlclmbplbbbhaaDoorW.PrintLast Go.Proofs.YtmlclmbplbbbhaaDoorW.PrintMore
attribute [local go_sem] max2_int min2_int max_two min_two max_three min_three max_four min_four str_geq str_gtr str_leq   -- for this text's walks alone
set_option linter.unusedVariables false
set_option linter.unusedSimpArgs false

/-! ### impl_Files_find: function 71 -/
def impl_Files_find.f (k : Nat) (a0_0 : Int) (l0_1 : List (S53)) (a1 : ByteArray) : Option (Int × Bool) := (impl_File_string_with_impl_Files_find_1.f k l0_1 a1).bind fun bt102 => (some (bt102.1, bt102.2))
theorem impl_Files_find.mono : ∀ a0 a1 a2 k, LeO (impl_Files_find.f k a0 a1 a2) (impl_Files_find.f (k + 1) a0 a1 a2) := by
 intro a0 a1 a2 k
 have m0 := @impl_File_string_with_impl_Files_find_1.mono
 unfold impl_Files_find.f
 exact moZ
set_option maxHeartbeats 8000000 in
set_option maxRecDepth 100000 in
theorem impl_Files_find.calls (k : Nat) (a0_0 : Int) (A0_1 : Option Addr) (c0_1 : Nat) (l0_1 : List (S53)) (a1 : ByteArray) (r1 : Int) (r2 : Bool) (w : World) (hr0_1 : Kd.C k53 w A0_1 l0_1.length l0_1) (hc0_1 : l0_1.length ≤ c0_1) (h : impl_Files_find.f k a0_0 l0_1 a1 = some (r1, r2)) :
 Calls Tryd.prog 71 #[.agg #[.int .i64 a0_0, .slice A0_1 l0_1.length c0_1], .string a1] w fun e w' => e = .returned (.tuple #[.int .i64 r1, .bool r2]) ∧ Below w.heap.size w w' := by
 have hu29 := Tryd.underlying29
 have HR0_1 := aM hr0_1
 have HC0_1 := aM hc0_1
 clear hr0_1 hc0_1
 have HB := aM (Below.refl w.heap.size w)
 have H : ((impl_File_string_with_impl_Files_find_1.f k l0_1 a1).bind fun bt102 => (some (bt102.1, bt102.2))) = some (r1, r2) := h
 clear h
 obtain ⟨⟨t102, t103⟩, A3, H⟩ := bS H; try dsimp only at H
 simp only [Option.some.injEq, Prod.mk.injEq] at H
 obtain ⟨rfl, rfl⟩ := H
 go_enter Tryd.func71, Tryd.ntmps71
 go_wp2_with (first | ((with_reducible refine gate_dst (N := 2) rfl ?_); refine bX 2 29 #[.int .i64 a0_0, .slice A0_1 l0_1.length c0_1] ?_; intro gb101 hg w4 hbox hb; have _ := aM (below_step hbZ hb); have _ := aM hbox; have _ := szZ hg; have _ := szZ hg; clear HB; rename_i HB BK101 GW101 GE101; clear hb hbox hg; have hz5 := cellsZ2 BK101.out) | ((with_reducible refine gate_callee (f := 91) rfl ?_); refine gL 9 Tryd.func91 #[.slice A0_1 l0_1.length c0_1, .string a1, .func (.func 92) #[] #[]] ?_; (with_reducible refine (impl_File_string_with_impl_Files_find_1.calls k _ _ l0_1 a1  t102 t103 _ ?side1 ?side2 A3.out).mono ?_); (case side1 => exact (cZ (Kd.C_below HR0_1.out HB.out))); (case side2 => exact HC0_1.out); rintro e w6 ⟨rfl, hb⟩; refine ⟨_, rfl, ?_⟩; have _ := bB gb101 hb; have _ := aM (below_step hbZ hb); clear BK101 HB; rename_i BK101 HB; (try clear hb)))
 go_ret2
 exact ⟨z674d, zcb41⟩

end Go.Proofs.YtmlclmbplbbbhaaDoor.P

section
/- Files in memory: a variable of the kind, its row of files. Lemmas for what writes them. -/
set_option linter.unusedVariables false
set_option linter.unusedSimpArgs false
namespace Go.Proofs.YtmlclmbplbbbhaaDoor.P
open Go Go.RowKit Go.Proofs.YtmlclmbplbbbhaaDoorW.PrintWords Go.Proofs.YtmlclmbplbbbhaaDoorW.PrintLast Go.Proofs.YtmlclmbplbbbhaaDoorW.PrintMore
/-- A variable of files at block b: its quota and its row of files (blocks P, from base on). -/
def FilesAt (W : World) (base : Nat) (P : Nat → Prop) (b : Nat) (q : Int) (l : List S53) : Prop :=
  ∃ v, W.heap[b]? = some (.cells #[.int .i64 q, v] 29 (0, 0)) ∧ Kd.S k53 53 W base P v l ∧ ¬ P b ∧ base ≤ b
/-- What a method does to them: a code; nothing else that was there has changed. -/
def FilesPost (w0 W : World) (P : Nat → Prop) (b : Nat) (c q : Int) (l : List S53) (e : Ending) (W' : World) : Prop :=
  e = .returned (.int .i64 c) ∧ (∃ P', FilesAt W' w0.heap.size P' b q l) ∧ Below w0.heap.size w0 W' ∧ Kept W W' (fun k => k = b ∨ P k)
theorem box_lt {W : World} {b : Nat} {o : Obj} (h : W.heap[b]? = some o) : b < W.heap.size := (Array.getElem?_eq_some_iff.1 h).1
section
variable {w0 w W W' W1 : World} {b : Nat} {q : Int} {l l' : List S53} {P P' S : Nat → Prop} {v v1 : Value}
theorem FilesAt.after (h : FilesAt W w0.heap.size P b q l) (hb : Below W.heap.size W W') : FilesAt W' w0.heap.size P b q l := by
  obtain ⟨v, h1, h2, h3, h4⟩ := h
  exact ⟨v, blk_below h1 hb, Kd.S_below h2 hb, h3, h4⟩
/-- .. and where its row has been put anew. -/
theorem FilesAt.put (h1 : W.heap[b]? = some (.cells #[.int .i64 q, v] 29 (0, 0))) (hb : w0.heap.size ≤ b)
    (h2 : Kd.S k53 53 W w0.heap.size P' v1 l') (hP : ¬ P' b) : FilesAt (W.setCell ⟨b, 1, none⟩ v1) w0.heap.size P' b q l' :=
  ⟨v1, blk_set h1 1 v1, Kd.S_far h2 (fun k hk he => hP (by rw [← show k = b from he]; exact hk)) v1, hP, hb⟩
theorem Kept.refl (W : World) (S : Nat → Prop) : Kept W W S := ⟨Nat.le_refl _, fun _ _ _ => rfl⟩
theorem Kept.below (h : Kept w W S) (hb : Below W.heap.size W W') : Kept w W' S := ⟨Nat.le_trans h.1 hb.size, fun i hi hs => (hb.block i (Nat.lt_of_lt_of_le hi h.1)).trans (h.2 i hi hs)⟩
theorem Kept.grown {row : Option Nat} (h : Kept w W S) (hg : W.grownBy W' row) (hr : ∀ k, row = some k → S k ∨ w.heap.size ≤ k) : Kept w W' S :=
  ⟨Nat.le_trans h.1 hg.size, fun i hi hs => (hg.block i (Nat.lt_of_lt_of_le hi h.1) (fun he => by rcases hr i he.symm with h1 | h1; exact hs h1; omega)).trans (h.2 i hi hs)⟩
theorem Kept.set {i : Nat} {u : Value} (h : Kept w W S) (hs : S b ∨ w.heap.size ≤ b) : Kept w (W.setCell ⟨b, i, none⟩ u) S :=
  ⟨by rw [show (W.setCell ⟨b, i, none⟩ u).heap.size = W.heap.size by simp [World.setCell]]; exact h.1, fun j hj hn => (Below.heap_setCell W ⟨b, i, none⟩ u j (fun he => by rcases hs with h1 | h1; exact hn (he ▸ h1); have : j = b := he; omega)).trans (h.2 j hj hn)⟩
theorem Kept.kept {S2 : Nat → Prop} (h : Kept w W S) (h2 : Kept W W' S2) (hs : ∀ k, S2 k → S k ∨ w.heap.size ≤ k) : Kept w W' S :=
  ⟨Nat.le_trans h.1 h2.1, fun i hi hn => (h2.2 i (Nat.lt_of_lt_of_le hi h.1) (fun hk => by rcases hs i hk with h3 | h3; exact hn h3; omega)).trans (h.2 i hi hn)⟩
theorem blk_kept {o : Obj} (h : W.heap[b]? = some o) (hk : Kept W W' S) (hb : ¬ S b) : W'.heap[b]? = some o := (hk.2 b (box_lt h) hb).trans h
end
theorem wrap_ix {n : Nat} {c : Nat} (h : n < c) (hc : c ≤ 9223372036854775807) : IntKind.i64.wrap ((n : Int) + 1) = (n : Int) + 1 := by rw [IntKind.wrap_i64]; omega
theorem S_cap {α : Type} {d : Kd α} {e base n c : Nat} {ok : Nat → Prop} {w : World} {A : Option Addr} {xs : List α} (h : Kd.S d e w base ok (.slice A n c) xs) : c ≤ 9223372036854775807 := by
  obtain ⟨inner, ho⟩ := Kd.S_own h
  rcases ho.2 with ⟨h2, _⟩ | ⟨g', c', cur, hv', hb, hh, hnc, hcm, hcs, htk⟩
  · injection h2 with _ _ hc; omega
  · injection hv' with _ _ hc; subst hc; unfold maxLen at hcm; omega
theorem Kd.S_ok {α : Type} {d : Kd α} {e base : Nat} {ok : Nat → Prop} {w : World} {v : Value} {xs : List α} (h : Kd.S d e w base ok v xs) : ∀ k, v.ownBlock = some k → ok k := (Kd.S_R h).1
theorem S_form3 {α : Type} {d : Kd α} {e base : Nat} {ok : Nat → Prop} {w : World} {v : Value} {xs : List α} (h : Kd.S d e w base ok v xs) : ∃ A n c, v = .slice A n c := by
  obtain ⟨A, c, h⟩ := Kd.S_slice h
  exact ⟨A, _, c, h⟩
/-! ### a file is removed -/
def impl_Files_remove.f (k : Nat) (q : Int) (l : List S53) (a1 : ByteArray) : Option (Int × Int × List S53) :=
  (impl_Files_find.f k q l a1).bind fun t => if t.2 = true then (if 0 ≤ t.1 ∧ t.1 < (l.length : Int) then some (0, q, l.eraseIdx t.1.toNat) else none) else some (2, q, l)
set_option maxHeartbeats 4000000 in
set_option maxRecDepth 100000 in
theorem impl_Files_remove.does (k b : Nat) (q : Int) (l : List S53) (a1 : ByteArray) (r1 r2 : Int) (r3 : List S53) (w0 w : World) (hB : Below w0.heap.size w0 w) (P : Nat → Prop) (hF : FilesAt w w0.heap.size P b q l) (h : impl_Files_remove.f k q l a1 = some (r1, r2, r3)) :
    Calls Tryd.prog 47 #[.pointer (some ⟨b, 0, none⟩), .string a1] w (FilesPost w0 w P b r1 r2 r3) := by
  have hu := Tryd.underlying29
  obtain ⟨⟨i, t⟩, e1, h⟩ := Option.bind_eq_some_iff.1 h
  have E1 := aM e1
  clear e1
  have HF := aM hF
  have HB := aM hB
  obtain ⟨v, hbox, hs, hP, hwb⟩ := hF
  obtain ⟨A, c, rfl, hlc, hC⟩ := Kd.S_reads hs
  have hcap := S_cap hs
  have HC := aM hC
  have HL := aM hlc
  have HS := aM hs
  have HP := aM hP
  clear hP hC hlc hs
  cases t with
  | false =>
    simp only [Bool.false_eq_true, if_false, Option.some.injEq, Prod.mk.injEq] at h
    obtain ⟨rfl, rfl, rfl⟩ := h
    have hz := cellsZ2 hbox
    clear hbox
    go_enter Tryd.func47, Tryd.ntmps47
    go_wp2_with (first | ((with_reducible refine gate_callee (f := 71) rfl ?_); refine gL 12 Tryd.func71 #[.agg #[.int .i64 q, .slice A l.length c], .string a1] ?_; (with_reducible refine (impl_Files_find.calls k q _ _ l a1 i false _ HC.out HL.out E1.out).mono ?_); rintro e w1 ⟨rfl, hb⟩; refine ⟨_, rfl, ?_⟩; have HW := aM (HF.out.after hb); have HB' := aM (below_after HB.out hb); have HK := aM (Kept.below (Kept.refl w (fun k => k = b ∨ P k)) hb); clear hz hb))
    go_ret
    exact ⟨rfl, ⟨P, HW.out⟩, HB'.out, HK.out⟩
  | true =>
    simp only [if_true] at h
    obtain ⟨⟨hi0, hi1⟩, h⟩ := ifS h
    simp only [Option.some.injEq, Prod.mk.injEq] at h
    obtain ⟨rfl, rfl, rfl⟩ := h
    obtain ⟨n, rfl⟩ := Int.eq_ofNat_of_zero_le hi0
    have hn : n < l.length := by omega
    have hw := wrap_ix hn (by have := HL.out; omega)
    have HN := aM hn
    have hz := cellsZ2 hbox
    have HX := aM hbox
    have HWB := aM hwb
    clear hbox hi0 hi1 hn hcap hwb
    go_enter Tryd.func47, Tryd.ntmps47
    go_wp2_with (first | ((with_reducible refine gate_callee (f := 71) rfl ?_); refine gL 12 Tryd.func71 #[.agg #[.int .i64 q, .slice A l.length c], .string a1] ?_; (with_reducible refine (impl_Files_find.calls k q _ _ l a1 n true _ HC.out HL.out E1.out).mono ?_); rintro e w1 ⟨rfl, hb⟩; refine ⟨_, rfl, ?_⟩; have HS1 := aM (Kd.S_below HS.out hb); have HX1 := aM (blk_below HX.out hb); have HB' := aM (below_after HB.out hb); have HK := aM (Kept.below (Kept.refl w (fun k => k = b ∨ P k)) hb); clear hz hb; have hz := cellsZ2 HX1.out) | ((with_reducible refine gate_callee (f := 75) rfl ?_); refine gL 25 Tryd.func75 #[.slice A l.length c, .int .i64 n, .int .i64 ((n : Int) + 1)] ?_; (with_reducible refine (delF_row n HS1.out HN.out HB'.out.size).mono ?_); rintro e w2 ⟨v1, rfl, hs2, hg2, hv2⟩; refine ⟨_, rfl, ?_⟩; obtain ⟨A2, c2, rfl⟩ := Kd.S_slice hs2; have hne_ := Kd.S_ne HS1.out HX1.out (by decide); have HX2 := aM ((hg2.block b (box_lt HX1.out) hne_).trans HX1.out); have HS2 := aM hs2; have HK2 := aM (Kept.grown HK.out hg2 (fun k hk => .inl (.inr (Kd.S_ok HS1.out k hk)))); have HB2 := aM (pw_below_grown HB'.out _ HB'.out.size hg2 (Kd.S_base HS1.out)); clear hz hg2 hs2 hv2 hne_; have hz := cellsZ2 HX2.out))
    go_ret
    exact ⟨rfl, ⟨P, FilesAt.put HX2.out HWB.out HS2.out HP.out⟩, below_set HB2.out HWB.out, Kept.set HK2.out (.inl (.inl rfl))⟩
end Go.Proofs.YtmlclmbplbbbhaaDoor.P
end

-- written by a program of this session's (wip/pp)
namespace Go.Proofs.YtmlclmbplbbbhaaDoor.P
open Go.RowKit Go.Proofs.YtmlclmbplbbbhaaDoorW.PrintWords Go.Proofs.YtmlclmbplbbbhaaDoorW.PrintLast Go.Proofs.YtmlclmbplbbbhaaDoorW.PrintMore
attribute [local go_sem] max2_int min2_int max_two min_two max_three min_three max_four min_four str_geq str_gtr str_leq   -- for this text's walks alone
set_option linter.unusedVariables false
set_option linter.unusedSimpArgs false

/-! ### impl_Files_used: function 54 -/
def impl_Files_used.l0 : Nat → Int → List (S53) → Int → Int → Option (Int)
 | 0, _, _, _, _ => none
 | k + 1, x3, x7, x8, x9 => if x9 < x8 then (if 0 ≤ x9 then (if x9 < (x7.length : Int) then (impl_Files_used.l0 k (wrap64 (x3 + (((rd_T53 x7 x9).f1).length : Int))) x7 x8 (wrap64 (x9 + 1))) else (none)) else (none)) else (some x3)
def impl_Files_used.f (k : Nat) (a0_0 : Int) (l0_1 : List (S53)) : Option (Int) := impl_Files_used.l0 k 0 l0_1 (l0_1.length : Int) 0
theorem impl_Files_used.mono_l : ∀ k, (∀ y0 y1 y2 y3, LeO (impl_Files_used.l0 k y0 y1 y2 y3) (impl_Files_used.l0 (k + 1) y0 y1 y2 y3))
 | 0 => fun _ _ _ _ r h => by simp [impl_Files_used.l0] at h
 | k + 1 => by
  have ih0 := impl_Files_used.mono_l k
  · intro y0 y1 y2 y3
    unfold impl_Files_used.l0
    exact moZ
theorem impl_Files_used.mono : ∀ a0 a1 k, LeO (impl_Files_used.f k a0 a1) (impl_Files_used.f (k + 1) a0 a1) := by
 intro a0 a1 k
 have ih0 := impl_Files_used.mono_l k
 unfold impl_Files_used.f
 exact moZ
set_option maxHeartbeats 8000000 in
set_option maxRecDepth 100000 in
theorem impl_Files_used.calls (k : Nat) (a0_0 : Int) (A0_1 : Option Addr) (c0_1 : Nat) (l0_1 : List (S53)) (r : Int) (w : World) (hr0_1 : Kd.C k53 w A0_1 l0_1.length l0_1) (hc0_1 : l0_1.length ≤ c0_1) (h : impl_Files_used.f k a0_0 l0_1 = some r) :
 Calls Tryd.prog 54 #[.agg #[.int .i64 a0_0, .slice A0_1 l0_1.length c0_1]] w fun e w' => e = .returned (.int .i64 r) ∧ Below w.heap.size w w' := by
 have hu29 := Tryd.underlying29
 have hu53 := Tryd.underlying53
 have HR0_1 := aM hr0_1
 have HC0_1 := aM hc0_1
 clear hr0_1 hc0_1
 have HB := aM (Below.refl w.heap.size w)
 have H : (impl_Files_used.l0 k 0 l0_1 (l0_1.length : Int) 0) = some r := h
 clear h
 have H' := aM H
 clear H
 go_enter Tryd.func54, Tryd.ntmps54
 go_wp2_with (first | ((with_reducible refine gate_dst (N := 1) rfl ?_); refine bX 1 29 #[.int .i64 a0_0, .slice A0_1 l0_1.length c0_1] ?_; intro gb101 hg w2 hbox hb; have _ := aM (below_step hbZ hb); have _ := aM hbox; have _ := szZ hg; have _ := szZ hg; clear HB; rename_i HB BK101 GW101 GE101; clear hb hbox hg; have hz3 := cellsZ2 BK101.out))
 go_loopg [3, 9] k (fun kq v3 v9 w' => ∃ (x3_1 : Int) (x9_1 : Int), v3 = .int .i64 x3_1 ∧ v9 = .int .i64 x9_1 ∧ Aside0 (impl_Files_used.l0 kq x3_1 l0_1 (l0_1.length : Int) x9_1 = some r) ∧ Aside0 (kq ≤ k) ∧ Aside0 (w'.heap[gb101]? = some (.cells #[.int .i64 a0_0, (.slice A0_1 l0_1.length c0_1)] 29 (0, 0))) ∧ Aside0 (Below w.heap.size w w'))
 case atStart => exact ⟨(0), (0), z4458, z4458, H', ⟨Nat.le_refl _⟩, ⟨bkZ⟩, ⟨zcb41⟩⟩
 case round =>
  clear H'
  (try clear hz3)
  obtain ⟨x3_1, x9_1, rfl, rfl, HA, HK1, BK101, HB⟩ := hrel
  cases gk with
  | zero => exact absurd HA.out (by simp [impl_Files_used.l0])
  | succ k1 =>
   have H := HA.out
   clear HA
   simp only [impl_Files_used.l0] at H
   by_cases c4 : x9_1 < (l0_1.length : Int)
   · rw [if_pos c4] at H
     have c4b0 := dL c4
     clear c4
     obtain ⟨c5b0, H⟩ := sE H
     obtain ⟨c6b0, H⟩ := sL H
     have H' := aM H
     clear H
     have p102 : 0 ≤ (x9_1 : Int) := of_decide_eq_true z1200
     have q102 : x9_1 < (l0_1.length : Int) := of_decide_eq_true z1200
     obtain ⟨ad102, A102_1, c102_1, e102, hx102_0, hx102_1, hx102_2, hl102_1, hi102_1⟩ := at_T53 HR0_1.out x9_1 p102 q102
     cases e102
     have TW102_1 := aM hx102_1
     replace hx102_0 := (HB.out.cell (World.block_lt_of_cell? w _ hx102_0)).trans hx102_0
     replace hx102_1 := (HB.out.cell (World.block_lt_of_cell? w _ hx102_1)).trans hx102_1
     replace hx102_2 := (HB.out.cell (World.block_lt_of_cell? w _ hx102_2)).trans hx102_2
     have HR102_1 := aM hi102_1
     have HC102_1 := aM hl102_1
     clear hi102_1 hl102_1
     replace p102 := eq_true p102
     replace q102 := eq_true q102
     go_wp2_with (first | ((with_reducible refine gate_dst (N := 5) rfl ?_); refine bX 5 53 #[.string (⟨#[]⟩ : ByteArray), .slice none 0 0, .int .i64 0] ?_; intro gb103 hg w7 hbox hb; have _ := bB gb101 hb; have _ := aM (below_step hbZ hb); have _ := aM hbox; have _ := szZ hg; have _ := szZ hg; have ⟨_, _⟩ := nbB gb101 hg; clear BK101 HB; rename_i BK101 HB BK103 GW103 GE103 NB101_103 NB103_101; clear hb hbox hg; have hnb8 := NB103_101.out; have hnc8 := NB101_103.out; have hz9 := cellsZ3 BK103.out))
     go_roundg k1
     case measure => have := HK1.out; omega
     case rel => exact ⟨(wrap64 (x3_1 + (((rd_T53 l0_1 x9_1).f1).length : Int))), (wrap64 (x9_1 + 1)), z4458, z4458, H', ⟨zfb39⟩, ⟨bkZ⟩, ⟨zcb41⟩⟩
   · rw [if_neg c4] at H
     have c4b0 := nL c4
     clear c4
     obtain rfl := Option.some.inj H
     go_wp2
     go_ret
     exact ⟨z674d, zcb41⟩

end Go.Proofs.YtmlclmbplbbbhaaDoor.P

-- written by a program of this session's (wip/pp)
namespace Go.Proofs.YtmlclmbplbbbhaaDoor.P
open Go.RowKit Go.Proofs.YtmlclmbplbbbhaaDoorW.PrintWords Go.Proofs.YtmlclmbplbbbhaaDoorW.PrintLast Go.Proofs.YtmlclmbplbbbhaaDoorW.PrintMore
attribute [local go_sem] max2_int min2_int max_two min_two max_three min_three max_four min_four str_geq str_gtr str_leq   -- for this text's walks alone
set_option linter.unusedVariables false
set_option linter.unusedSimpArgs false

/-! ### impl_within: function 55 -/
def impl_within.f (a0 : Int) (a1 : Int) (a2 : Int) : Option (Bool) := if a0 ≥ a1 then (some (decide (a0 ≤ a2))) else (some false)
set_option maxHeartbeats 8000000 in
set_option maxRecDepth 100000 in
theorem impl_within.calls (a0 : Int) (a1 : Int) (a2 : Int) (r : Bool) (w : World) (h : impl_within.f a0 a1 a2 = some r) :
 Calls Tryd.prog 55 #[.int .i64 a0, .int .i64 a1, .int .i64 a2] w fun e w' => e = .returned (.bool r) ∧ Drawn0 w w' := by
 have H : (if a0 ≥ a1 then (some (decide (a0 ≤ a2))) else (some false)) = some r := h
 clear h
 by_cases c4 : a0 ≥ a1
 · rw [if_pos c4] at H
   have c4b0 := dE c4
   clear c4
   obtain rfl := Option.some.inj H
   go_enter Tryd.func55, Tryd.ntmps55
   go_wp2
   go_ret
   exact ⟨z4458, za9de⟩
 · rw [if_neg c4] at H
   have c4b0 := nE c4
   clear c4
   obtain rfl := Option.some.inj H
   go_enter Tryd.func55, Tryd.ntmps55
   go_wp2
   go_ret
   exact ⟨z4458, za9de⟩

end Go.Proofs.YtmlclmbplbbbhaaDoor.P

-- written by a program of this session's (wip/pp)
namespace Go.Proofs.YtmlclmbplbbbhaaDoor.P
open Go.RowKit Go.Proofs.YtmlclmbplbbbhaaDoorW.PrintWords Go.Proofs.YtmlclmbplbbbhaaDoorW.PrintLast Go.Proofs.YtmlclmbplbbbhaaDoorW.PrintMore
attribute [local go_sem] max2_int min2_int max_two min_two max_three min_three max_four min_four str_geq str_gtr str_leq   -- for this text's walks alone
set_option linter.unusedVariables false
set_option linter.unusedSimpArgs false

/-! ### strings_Trim: function 87 -/
def strings_Trim.f (a0 a1 : ByteArray) : Option ByteArray := if a0.size ≤ 9223372036854775807 ∧ a1.size < 4294967281 ∧ (a1.data.toList.all fun b => decide (b.toNat < 128)) = true then some ⟨(Go.Lib.trimS a0.data.toList a1.data.toList).toArray⟩ else none
theorem strings_Trim.calls (a0 a1 : ByteArray) (r : ByteArray) (w : World) (h : strings_Trim.f a0 a1 = some r) :
 Calls Tryd.prog 87 #[.string a0, .string a1] w fun e w' => e = .returned (.string r) ∧ Below w.heap.size w w' := by
 unfold strings_Trim.f at h
 split at h
 · rename_i hb
   injection h with h
   subst h
   refine (Tryd.strings_Trim a0 a1 w hb.1 hb.2.1 (fun j b hj => ?_)).mono ?_
   · exact of_decide_eq_true (List.all_eq_true.1 hb.2.2 b (List.mem_of_getElem? hj))
   · rintro e w' ⟨rfl, hB⟩
     exact ⟨rfl, hB⟩
 · cases h

end Go.Proofs.YtmlclmbplbbbhaaDoor.P

-- written by a program of this session's (wip/pp)
namespace Go.Proofs.YtmlclmbplbbbhaaDoor.P
open Go.RowKit Go.Proofs.YtmlclmbplbbbhaaDoorW.PrintWords Go.Proofs.YtmlclmbplbbbhaaDoorW.PrintLast Go.Proofs.YtmlclmbplbbbhaaDoorW.PrintMore
attribute [local go_sem] max2_int min2_int max_two min_two max_three min_three max_four min_four str_geq str_gtr str_leq   -- for this text's walks alone
set_option linter.unusedVariables false
set_option linter.unusedSimpArgs false

/-! ### impl_isFileName: function 56 -/
def impl_isFileName.f (a0 : ByteArray) : Option (Bool) := (impl_within.f (a0.size : Int) 1 20).bind fun t101 => (if t101 = true then ((strings_Trim.f a0 (⟨#[97, 98, 99, 100, 101, 102, 103, 104, 105, 106, 107, 108, 109, 110, 111, 112, 113, 114, 115, 116, 117, 118, 119, 120, 121, 122, 48, 49, 50, 51, 52, 53, 54, 55, 56, 57, 45]⟩ : ByteArray)).bind fun t102 => (some (t102.toList == ([] : List UInt8)))) else (some false))
set_option maxHeartbeats 8000000 in
set_option maxRecDepth 100000 in
theorem impl_isFileName.calls (a0 : ByteArray) (r : Bool) (w : World) (h : impl_isFileName.f a0 = some r) :
 Calls Tryd.prog 56 #[.string a0] w fun e w' => e = .returned (.bool r) ∧ Below w.heap.size w w' := by
 have HB := aM (Below.refl w.heap.size w)
 have H : ((impl_within.f (a0.size : Int) 1 20).bind fun t101 => (if t101 = true then ((strings_Trim.f a0 (⟨#[97, 98, 99, 100, 101, 102, 103, 104, 105, 106, 107, 108, 109, 110, 111, 112, 113, 114, 115, 116, 117, 118, 119, 120, 121, 122, 48, 49, 50, 51, 52, 53, 54, 55, 56, 57, 45]⟩ : ByteArray)).bind fun t102 => (some (t102.toList == ([] : List UInt8)))) else (some false))) = some r := h
 clear h
 obtain ⟨t101, A2, H⟩ := bS H; try dsimp only at H
 by_cases c3 : t101 = true
 · subst c3
   rw [if_pos rfl] at H
   obtain ⟨t102, A4, H⟩ := bS H; try dsimp only at H
   obtain rfl := Option.some.inj H
   go_enter Tryd.func56, Tryd.ntmps56
   go_wp2_with (first | ((with_reducible refine gate_callee (f := 55) rfl ?_); refine gL 5 Tryd.func55 #[.int .i64 (a0.size : Int), .int .i64 1, .int .i64 20] ?_; (with_reducible refine (impl_within.calls (a0.size : Int) 1 20 true _ A2.out).mono ?_); rintro e w' ⟨rfl, ⟨nd, rfl⟩⟩; refine ⟨_, rfl, ?_⟩) | (go_at_call 87; (with_reducible refine (strings_Trim.calls a0 (⟨#[97, 98, 99, 100, 101, 102, 103, 104, 105, 106, 107, 108, 109, 110, 111, 112, 113, 114, 115, 116, 117, 118, 119, 120, 121, 122, 48, 49, 50, 51, 52, 53, 54, 55, 56, 57, 45]⟩ : ByteArray) t102 _ A4.out).mono ?_); rintro e w5 ⟨rfl, hb⟩; have _ := aM (below_step hbZ hb); clear HB; rename_i HB; (try clear hb)))
   go_ret
   exact ⟨z674d, z5acd⟩
 · replace c3 := Bool.eq_false_iff.mpr c3
   subst c3
   rw [if_neg (show ¬ (false = true) by decide)] at H
   obtain rfl := Option.some.inj H
   go_enter Tryd.func56, Tryd.ntmps56
   go_wp2_with (first | ((with_reducible refine gate_callee (f := 55) rfl ?_); refine gL 5 Tryd.func55 #[.int .i64 (a0.size : Int), .int .i64 1, .int .i64 20] ?_; (with_reducible refine (impl_within.calls (a0.size : Int) 1 20 false _ A2.out).mono ?_); rintro e w' ⟨rfl, ⟨nd, rfl⟩⟩; refine ⟨_, rfl, ?_⟩))
   go_ret
   exact ⟨z674d, z5acd⟩

end Go.Proofs.YtmlclmbplbbbhaaDoor.P

-- written by a program of this session's (wip/pp)
namespace Go.Proofs.YtmlclmbplbbbhaaDoor.P
open Go.RowKit Go.Proofs.YtmlclmbplbbbhaaDoorW.PrintWords Go.Proofs.YtmlclmbplbbbhaaDoorW.PrintLast Go.Proofs.YtmlclmbplbbbhaaDoorW.PrintMore
attribute [local go_sem] max2_int min2_int max_two min_two max_three min_three max_four min_four str_geq str_gtr str_leq   -- for this text's walks alone
set_option linter.unusedVariables false
set_option linter.unusedSimpArgs false

/-! ### impl_GoodFiles: function 28 -/
mutual
def impl_GoodFiles.j0 : Nat → Bool → Int → List (S53) → Option (Bool)
 | 0, _, _, _ => none
 | k + 1, x21, x102000, x102001 => if x21 = true then (some false) else (impl_GoodFiles.l0 k x102001 (x102001.length : Int) 0 x102000 x102001)
def impl_GoodFiles.l0 : Nat → List (S53) → Int → Int → Int → List (S53) → Option (Bool)
 | 0, _, _, _, _, _ => none
 | k + 1, x23, x24, x25, x102000, x102001 => if x25 < x24 then (if 0 ≤ x25 then (if x25 < (x23.length : Int) then ((impl_isFileName.f ((rd_T53 x23 x25).f0)).bind fun t106 => (if t106 = true then ((impl_within.f ((rd_T53 x23 x25).f2) 0 (((rd_T53 x23 x25).f1).length : Int)).bind fun t107 => (if t107 = true then (if x25 > 0 then (if 0 ≤ (wrap64 (x25 - 1)) then (if (wrap64 (x25 - 1)) < (x102001.length : Int) then (if ((Op.bytesLess (((rd_T53 x102001 (wrap64 (x25 - 1))).f0).toList) (((rd_T53 x23 x25).f0).toList)) = true) then (impl_GoodFiles.l0 k x23 x24 (wrap64 (x25 + 1)) x102000 x102001) else (some false)) else (none)) else (none)) else (impl_GoodFiles.l0 k x23 x24 (wrap64 (x25 + 1)) x102000 x102001)) else (some false))) else (some false))) else (none)) else (none)) else (some true)
end
def impl_GoodFiles.f (k : Nat) (a0_0 : Int) (l0_1 : List (S53)) : Option (Bool) := (impl_within.f a0_0 0 60000).bind fun t102 => (if t102 = true then (if (l0_1.length : Int) > 40 then (impl_GoodFiles.j0 k true a0_0 l0_1) else ((impl_Files_used.f k a0_0 l0_1).bind fun t103 => (impl_GoodFiles.j0 k (decide (t103 > a0_0)) a0_0 l0_1))) else (impl_GoodFiles.j0 k true a0_0 l0_1))
theorem impl_GoodFiles.mono_l : ∀ k, (∀ y0 y1 y2, LeO (impl_GoodFiles.j0 k y0 y1 y2) (impl_GoodFiles.j0 (k + 1) y0 y1 y2)) ∧ (∀ y0 y1 y2 y3 y4, LeO (impl_GoodFiles.l0 k y0 y1 y2 y3 y4) (impl_GoodFiles.l0 (k + 1) y0 y1 y2 y3 y4))
 | 0 => ⟨fun _ _ _ r h => by simp [impl_GoodFiles.j0] at h, fun _ _ _ _ _ r h => by simp [impl_GoodFiles.l0] at h⟩
 | k + 1 => by
  obtain ⟨ih0, ih1⟩ := impl_GoodFiles.mono_l k; have m0 := @impl_Files_used.mono
  refine ⟨?_, ?_⟩
  · intro y0 y1 y2
    unfold impl_GoodFiles.j0
    exact moZ
  · intro y0 y1 y2 y3 y4
    unfold impl_GoodFiles.l0
    exact moZ
theorem impl_GoodFiles.mono : ∀ a0 a1 k, LeO (impl_GoodFiles.f k a0 a1) (impl_GoodFiles.f (k + 1) a0 a1) := by
 intro a0 a1 k
 obtain ⟨ih0, ih1⟩ := impl_GoodFiles.mono_l k
 have m0 := @impl_Files_used.mono
 unfold impl_GoodFiles.f
 exact moZ
def impl_GoodFiles.T1 : Bool × List (List Nat × List Nat) := (true, [([], []), ([0], [0]), ([1], [1]), ([2], [2]), ([3, 2], [3]), ([4], [4]), ([5, 4], [4, 5]), ([6, 4], [4, 6]), ([7, 4], [4, 7]), ([4, 8], [4, 8]), ([9, 4], [9]), ([10], [10]), ([11, 10, 10], [10, 11]), ([10], [10]), ([13, 10], [10, 13]), ([12, 14, 10], [10, 12, 14]), ([10, 15], [10, 15])])
def impl_GoodFiles.B1 : List Nat := [0, 1, 3, 7, 15, 31, 63, 127, 255, 511, 1023, 2047, 4095, 2047, 10239, 32767, 65535]
theorem impl_GoodFiles.tab1 : rtab .any (opsOf Tryd.f28 1) = impl_GoodFiles.T1 := by kernel_rfl
theorem impl_GoodFiles.bits1 : waitsOk impl_GoodFiles.T1.2 impl_GoodFiles.B1 = true := by kernel_rfl
def impl_GoodFiles.T6 : Bool × List (List Nat × List Nat) := (true, [([], []), ([0], [0]), ([1], [1]), ([2], [2]), ([3, 2], [3]), ([4], [4]), ([5, 4], [4, 5]), ([4], [4]), ([7, 4], [4, 7]), ([8, 4], [4, 8]), ([6, 9, 4, 4], [4, 6, 9]), ([10, 4], [4, 10]), ([4, 11], [4, 11]), ([12, 10], [12]), ([13], [13]), ([14, 13], [13, 14]), ([15, 13, 13], [13, 15]), ([16], [16]), ([17, 16], [16, 17]), ([16], [16]), ([19, 16], [16, 19]), ([18, 20, 16], [16, 18, 20]), ([21, 16], [16, 21]), ([22, 16], [16, 22]), ([16], [16]), ([24, 16], [16, 24]), ([23, 25, 16], [16, 23, 25]), ([16, 26, 13], [13, 16, 26]), ([13, 27], [13, 27])])
def impl_GoodFiles.B6 : List Nat := [0, 1, 3, 7, 15, 31, 63, 31, 159, 415, 1023, 2047, 4095, 8191, 16383, 32767, 65535, 131071, 262143, 131071, 655359, 2097151, 4194303, 8388607, 131071, 16908287, 67108863, 134217727, 268435455]
theorem impl_GoodFiles.tab6 : rtab .any (opsOf Tryd.f28 6) = impl_GoodFiles.T6 := by kernel_rfl
theorem impl_GoodFiles.bits6 : waitsOk impl_GoodFiles.T6.2 impl_GoodFiles.B6 = true := by kernel_rfl
set_option maxHeartbeats 8000000 in
set_option maxRecDepth 100000 in
theorem impl_GoodFiles.calls (k : Nat) (a0_0 : Int) (A0_1 : Option Addr) (c0_1 : Nat) (l0_1 : List (S53)) (r : Bool) (w : World) (hr0_1 : Kd.C k53 w A0_1 l0_1.length l0_1) (hc0_1 : l0_1.length ≤ c0_1) (h : impl_GoodFiles.f k a0_0 l0_1 = some r) :
 Calls Tryd.prog 28 #[.agg #[.int .i64 a0_0, .slice A0_1 l0_1.length c0_1]] w fun e w' => e = .returned (.bool r) ∧ Below w.heap.size w w' := by
 have hu29 := Tryd.underlying29
 have hu53 := Tryd.underlying53
 have HR0_1 := aM hr0_1
 have HC0_1 := aM hc0_1
 clear hr0_1 hc0_1
 have HB := aM (Below.refl w.heap.size w)
 have H : ((impl_within.f a0_0 0 60000).bind fun t102 => (if t102 = true then (if (l0_1.length : Int) > 40 then (impl_GoodFiles.j0 k true a0_0 l0_1) else ((impl_Files_used.f k a0_0 l0_1).bind fun t103 => (impl_GoodFiles.j0 k (decide (t103 > a0_0)) a0_0 l0_1))) else (impl_GoodFiles.j0 k true a0_0 l0_1))) = some r := h
 clear h
 have HC2 := aM H
 clear H
 go_enter Tryd.func28, Tryd.ntmps28
 go_upto_region 1 with (first | ((with_reducible refine gate_dst (N := 1) rfl ?_); (try (refine gate_guard (by rfl) ?_; dsimp only)); refine bX 1 29 #[.int .i64 a0_0, .slice A0_1 l0_1.length c0_1] ?_; intro gb101 hg w3 hbox hb; have _ := aM (below_step hbZ hb); have _ := aM hbox; have _ := szZ hg; have _ := szZ hg; clear HB; rename_i HB BK101 GW101 GE101; clear hb hbox hg))
 (try simp only [Act.put, List.setIfInBounds_toArray, List.set_cons_zero, List.set_cons_succ])
 go_cut [21] (fun v21 wc => ∃ (kq : Nat) (x21_1 : Bool), v21 = .bool x21_1 ∧ Aside0 (impl_GoodFiles.j0 kq x21_1 a0_0 l0_1 = some r) ∧ Aside0 (kq ≤ k) ∧ Aside0 (wc.heap[gb101]? = some (.cells #[.int .i64 a0_0, (.slice A0_1 l0_1.length c0_1)] 29 (0, 0))) ∧ Aside0 (Below w.heap.size w wc))
 case first =>
  have H := HC2.out
  clear HC2
  obtain ⟨t102, A4, H⟩ := bS H; try dsimp only at H
  by_cases c5 : t102 = true
  · subst c5
    rw [if_pos rfl] at H
    by_cases c6 : (l0_1.length : Int) > 40
    · rw [if_pos c6] at H
      have c6b0 : decide (40 < (l0_1.length : Int)) = true := decide_eq_true c6
      have c6b1 : decide (40 < l0_1.length) = true := decide_eq_true (by omega)
      clear c6
      (first | rw [c6b0] | (simp only [i64_w, i32_w]; rw [c6b0]) | skip)
      have H' := aM H
      clear H
      try go_wp2
      have _ := aM (blk_drew BK101.out)
      have _ := aM (below_drew1 HB.out)
      clear BK101
      clear HB
      rename_i BK101 HB
      refine sA 17 impl_GoodFiles.tab1 impl_GoodFiles.bits1 (fun w' => w'.cell? ⟨gb101, 0, none⟩ = some (.int .i64 a0_0) ∧ w'.cell? ⟨gb101, 1, none⟩ = some (.slice A0_1 l0_1.length c0_1)) [] (fun hHeld HT_ HW_ => ?_)
      generalize w3.drew = w7 at BK101 HB hHeld ⊢
      refine pA 0 5 HT_ ?_; refine tA 1 6 HT_ HW_ hHeld ?_; refine oA 2 7 HT_ (fun K hK => ?_)
      refine goes_ Tryd.func55 (by kernel_rfl) rfl #[.int .i64 a0_0, .int .i64 0, .int .i64 60000] (by rfl) rfl rfl zee81 ?_
      with_reducible refine (impl_within.calls a0_0 0 60000 true _ A4.out).mono ?_
      rintro e w' ⟨rfl, ⟨nd, rfl⟩⟩
      refine ⟨_, rfl, ?_⟩
      refine hK.out _ _ sZ (fun hHeld => ?_)
      clear hK K
      refine nA 7 ?_; refine pA 3 8 HT_ ?_; refine pA 4 9 HT_ ?_; refine pA 5 10 HT_ ?_; refine tA 6 11 HT_ HW_ hHeld ?_; refine pA 7 12 HT_ ?_; refine pA 8 13 HT_ ?_; refine pA 9 14 HT_ ?_; refine pA 10 15 HT_ ?_; refine uA 11 16 HT_ ?_; refine uA 12 17 HT_ ?_; refine uA 13 18 HT_ ?_; refine uA 14 19 HT_ ?_; refine uA 15 20 HT_ ?_; refine pA 16 21 HT_ ?_
      refine done_ (done_of HT_.out (by kernel_rfl)) ?_
      try go_wp2
      go_meet
      case rel => exact ⟨_, (true), z4458, H', ⟨zb79b⟩, ⟨bkZ⟩, ⟨zcb41⟩⟩
    · rw [if_neg c6] at H
      have c6b0 : decide (40 < (l0_1.length : Int)) = false := decide_eq_false c6
      have c6b1 : decide (40 < l0_1.length) = false := decide_eq_false (by omega)
      clear c6
      (first | rw [c6b0] | (simp only [i64_w, i32_w]; rw [c6b0]) | skip)
      obtain ⟨t103, A8, H⟩ := bS H; try dsimp only at H
      have H' := aM H
      clear H
      try go_wp2
      have _ := aM (blk_drew BK101.out)
      have _ := aM (below_drew1 HB.out)
      clear BK101
      clear HB
      rename_i BK101 HB
      refine sA 17 impl_GoodFiles.tab1 impl_GoodFiles.bits1 (fun w' => w'.cell? ⟨gb101, 0, none⟩ = some (.int .i64 a0_0) ∧ w'.cell? ⟨gb101, 1, none⟩ = some (.slice A0_1 l0_1.length c0_1)) [] (fun hHeld HT_ HW_ => ?_)
      generalize w3.drew = w9 at BK101 HB hHeld ⊢
      refine pA 0 5 HT_ ?_; refine tA 1 6 HT_ HW_ hHeld ?_; refine oA 2 7 HT_ (fun K hK => ?_)
      refine goes_ Tryd.func55 (by kernel_rfl) rfl #[.int .i64 a0_0, .int .i64 0, .int .i64 60000] (by rfl) rfl rfl zee81 ?_
      with_reducible refine (impl_within.calls a0_0 0 60000 true _ A4.out).mono ?_
      rintro e w' ⟨rfl, ⟨nd, rfl⟩⟩
      refine ⟨_, rfl, ?_⟩
      refine hK.out _ _ sZ (fun hHeld => ?_)
      clear hK K
      refine nA 7 ?_; refine pA 3 8 HT_ ?_; refine pA 4 9 HT_ ?_; refine pA 5 10 HT_ ?_; refine tA 6 11 HT_ HW_ hHeld ?_; refine pA 7 12 HT_ ?_; refine pA 8 13 HT_ ?_; refine pA 9 14 HT_ ?_; refine pA 10 15 HT_ ?_; refine pA 13 18 HT_ ?_; refine tA 11 16 HT_ HW_ hHeld ?_; refine tA 14 19 HT_ HW_ hHeld ?_; refine oA 12 17 HT_ (fun K hK => ?_)
      refine goes_ Tryd.func54 (by kernel_rfl) rfl #[.agg #[.int .i64 a0_0, .slice A0_1 l0_1.length c0_1]] (by rfl) rfl rfl zee81 ?_
      with_reducible refine (impl_Files_used.calls k a0_0 _ _ l0_1 t103 _ ?side1 ?side2 A8.out).mono ?_
      (case side1 => exact (cZ (Kd.C_below HR0_1.out hbZ)))
      (case side2 => exact HC0_1.out)
      rintro e w10 ⟨rfl, hb⟩
      refine ⟨_, rfl, ?_⟩
      have _ := bB gb101 hb
      have _ := aM (below_step hbZ hb)
      clear BK101
      clear HB
      rename_i BK101 HB
      (try clear hb)
      refine hK.out _ _ sZ (fun hHeld => ?_)
      clear hK K
      refine nA 17 ?_; refine pA 15 20 HT_ ?_; refine pA 16 21 HT_ ?_
      refine done_ (done_of HT_.out (by kernel_rfl)) ?_
      try go_wp2
      go_meet
      case rel => exact ⟨_, (decide (t103 > a0_0)), z4458, H', ⟨zb79b⟩, ⟨bkZ⟩, ⟨zcb41⟩⟩
  · replace c5 := Bool.eq_false_iff.mpr c5
    subst c5
    rw [if_neg (show ¬ (false = true) by decide)] at H
    have H' := aM H
    clear H
    try go_wp2
    have _ := aM (blk_drew BK101.out)
    have _ := aM (below_drew1 HB.out)
    clear BK101
    clear HB
    rename_i BK101 HB
    refine sA 17 impl_GoodFiles.tab1 impl_GoodFiles.bits1 (fun w' => w'.cell? ⟨gb101, 0, none⟩ = some (.int .i64 a0_0) ∧ w'.cell? ⟨gb101, 1, none⟩ = some (.slice A0_1 l0_1.length c0_1)) [] (fun hHeld HT_ HW_ => ?_)
    generalize w3.drew = w11 at BK101 HB hHeld ⊢
    refine pA 0 5 HT_ ?_; refine tA 1 6 HT_ HW_ hHeld ?_; refine oA 2 7 HT_ (fun K hK => ?_)
    refine goes_ Tryd.func55 (by kernel_rfl) rfl #[.int .i64 a0_0, .int .i64 0, .int .i64 60000] (by rfl) rfl rfl zee81 ?_
    with_reducible refine (impl_within.calls a0_0 0 60000 false _ A4.out).mono ?_
    rintro e w' ⟨rfl, ⟨nd, rfl⟩⟩
    refine ⟨_, rfl, ?_⟩
    refine hK.out _ _ sZ (fun hHeld => ?_)
    clear hK K
    refine nA 7 ?_; refine pA 3 8 HT_ ?_; refine pA 4 9 HT_ ?_; refine uA 5 10 HT_ ?_; refine uA 6 11 HT_ ?_; refine uA 7 12 HT_ ?_; refine uA 8 13 HT_ ?_; refine pA 9 14 HT_ ?_; refine pA 10 15 HT_ ?_; refine uA 11 16 HT_ ?_; refine uA 12 17 HT_ ?_; refine uA 13 18 HT_ ?_; refine uA 14 19 HT_ ?_; refine uA 15 20 HT_ ?_; refine pA 16 21 HT_ ?_
    refine done_ (done_of HT_.out (by kernel_rfl)) ?_
    try go_wp2
    go_meet
    case rel => exact ⟨_, (true), z4458, H', ⟨zb79b⟩, ⟨bkZ⟩, ⟨zcb41⟩⟩
 case rest =>
  clear HC2
  obtain ⟨kq, x21_1, rfl, HA, HJ1, BK101, HB⟩ := hcut
  cases kq with
  | zero => exact absurd HA.out (by simp [impl_GoodFiles.j0])
  | succ kj1 =>
   have H := HA.out
   clear HA
   simp only [impl_GoodFiles.j0] at H
   by_cases c12 : x21_1 = true
   · subst c12
     rw [if_pos rfl] at H
     obtain rfl := Option.some.inj H
     go_wp2
     go_ret
     exact ⟨z674d, zcb41⟩
   · replace c12 := Bool.eq_false_iff.mpr c12
     subst c12
     rw [if_neg (show ¬ (false = true) by decide)] at H
     have H' := aM H
     clear H
     have hz13 := cellsZ2 BK101.out
     go_wp2
     go_loopg [25] kj1 (fun kq v25 w' => ∃ (x25_2 : Int), v25 = .int .i64 x25_2 ∧ Aside0 (impl_GoodFiles.l0 kq l0_1 (l0_1.length : Int) x25_2 a0_0 l0_1 = some r) ∧ Aside0 (kq ≤ kj1) ∧ Aside0 (w'.heap[gb101]? = some (.cells #[.int .i64 a0_0, (.slice A0_1 l0_1.length c0_1)] 29 (0, 0))) ∧ Aside0 (Below w.heap.size w w'))
     case atStart => exact ⟨(0), z4458, H', ⟨Nat.le_refl _⟩, ⟨bkZ⟩, ⟨zcb41⟩⟩
     case round =>
      clear H'
      (try clear c12); (try clear hz13)
      obtain ⟨x25_2, rfl, HA, HK2, BK101, HB⟩ := hrel
      cases gk with
      | zero => exact absurd HA.out (by simp [impl_GoodFiles.l0])
      | succ k2 =>
       have H := HA.out
       clear HA
       simp only [impl_GoodFiles.l0] at H
       by_cases c14 : x25_2 < (l0_1.length : Int)
       · rw [if_pos c14] at H
         have c14b0 := dL c14
         clear c14
         obtain ⟨c15b0, H⟩ := sE H
         obtain ⟨c16b0, H⟩ := sL H
         obtain ⟨t106, A17, H⟩ := bS H; try dsimp only at H
         by_cases c18 : t106 = true
         · subst c18
           rw [if_pos rfl] at H
           obtain ⟨t107, A19, H⟩ := bS H; try dsimp only at H
           by_cases c20 : t107 = true
           · subst c20
             rw [if_pos rfl] at H
             by_cases c21 : x25_2 > 0
             · rw [if_pos c21] at H
               have c21b0 := dL c21
               clear c21
               obtain ⟨ji22, hji22⟩ : ∃ j_ : Int, (wrap64 (x25_2 - 1)) = j_ := ⟨_, rfl⟩
               replace H : (if 0 ≤ (ji22) then (if (ji22) < (l0_1.length : Int) then (if ((Op.bytesLess (((rd_T53 l0_1 (ji22)).f0).toList) (((rd_T53 l0_1 x25_2).f0).toList)) = true) then (impl_GoodFiles.l0 k2 l0_1 (l0_1.length : Int) (wrap64 (x25_2 + 1)) a0_0 l0_1) else (some false)) else (none)) else (none)) = some r := by first | (rw [hji22] at H; exact H) | (simp only [hji22] at H ⊢; exact H)
               (try rw [hji22] at A17)
               (try rw [hji22] at A19)
               have hji22w : (IntKind.i64.wrap (x25_2 - 1)) = ji22 := (i64_w _).trans hji22
               obtain ⟨c23b0, H⟩ := sE H
               obtain ⟨c24b0, H⟩ := sL H
               by_cases c25 : ((Op.bytesLess (((rd_T53 l0_1 (ji22)).f0).toList) (((rd_T53 l0_1 x25_2).f0).toList)) = true)
               · rw [if_pos c25] at H
                 have c25b0 : (Op.bytesLess (((rd_T53 l0_1 (ji22)).f0).toList) (((rd_T53 l0_1 x25_2).f0).toList)) = true := c25
                 clear c25
                 have H' := aM H
                 clear H
                 have p104 : 0 ≤ (x25_2 : Int) := of_decide_eq_true z1200
                 have q104 : x25_2 < (l0_1.length : Int) := of_decide_eq_true z1200
                 obtain ⟨ad104, A104_1, c104_1, e104, hx104_0, hx104_1, hx104_2, hl104_1, hi104_1⟩ := at_T53 HR0_1.out x25_2 p104 q104
                 cases e104
                 have TW104_1 := aM hx104_1
                 replace hx104_0 := (HB.out.cell (World.block_lt_of_cell? w _ hx104_0)).trans hx104_0
                 replace hx104_1 := (HB.out.cell (World.block_lt_of_cell? w _ hx104_1)).trans hx104_1
                 replace hx104_2 := (HB.out.cell (World.block_lt_of_cell? w _ hx104_2)).trans hx104_2
                 have HR104_1 := aM hi104_1
                 have HC104_1 := aM hl104_1
                 clear hi104_1 hl104_1
                 replace p104 := eq_true p104
                 replace q104 := eq_true q104
                 try go_wp2_with (first | ((with_reducible refine gate_dst (N := 4) rfl ?_); (try (refine gate_guard (by rfl) ?_; dsimp only)); refine bX 4 53 #[.string (⟨#[]⟩ : ByteArray), .slice none 0 0, .int .i64 0] ?_; intro gb105 hg w26 hbox hb; have _ := bB gb101 hb; have _ := aM (below_step hbZ hb); have _ := aM hbox; have _ := szZ hg; have _ := szZ hg; have ⟨_, _⟩ := nbB gb101 hg; clear BK101 HB; rename_i BK101 HB BK105 GW105 GE105 NB101_105 NB105_101; clear hb hbox hg; have hnb27 := NB105_101.out; have hnc27 := NB101_105.out; have hz28 := cellsZ3 BK105.out))
                 have n0_ : Aside0 ((((w26.setCell ⟨gb105, 0, none⟩ (.string ((rd_T53 l0_1 x25_2).f0))).setCell ⟨gb105, 1, none⟩ (.slice A104_1 ((rd_T53 l0_1 x25_2).f1).length c104_1)).setCell ⟨gb105, 2, none⟩ (.int .i64 ((rd_T53 l0_1 x25_2).f2))).heap[gb101]? = some (.cells #[.int .i64 a0_0, .slice (some ad104) l0_1.length c0_1] 29 (0, 0))) := ⟨bkZ⟩
                 have n1_ : Aside0 ((((w26.setCell ⟨gb105, 0, none⟩ (.string ((rd_T53 l0_1 x25_2).f0))).setCell ⟨gb105, 1, none⟩ (.slice A104_1 ((rd_T53 l0_1 x25_2).f1).length c104_1)).setCell ⟨gb105, 2, none⟩ (.int .i64 ((rd_T53 l0_1 x25_2).f2))).heap[gb105]? = some (.cells #[.string ((rd_T53 l0_1 x25_2).f0), .slice A104_1 ((rd_T53 l0_1 x25_2).f1).length c104_1, .int .i64 ((rd_T53 l0_1 x25_2).f2)] 53 (0, 0))) := ⟨bkZ⟩
                 have n2_ : Aside0 (Below w.heap.size w (((w26.setCell ⟨gb105, 0, none⟩ (.string ((rd_T53 l0_1 x25_2).f0))).setCell ⟨gb105, 1, none⟩ (.slice A104_1 ((rd_T53 l0_1 x25_2).f1).length c104_1)).setCell ⟨gb105, 2, none⟩ (.int .i64 ((rd_T53 l0_1 x25_2).f2)))) := ⟨zcb41⟩
                 (try clear BK101); (try clear BK105); (try clear HB)
                 generalize (((w26.setCell ⟨gb105, 0, none⟩ (.string ((rd_T53 l0_1 x25_2).f0))).setCell ⟨gb105, 1, none⟩ (.slice A104_1 ((rd_T53 l0_1 x25_2).f1).length c104_1)).setCell ⟨gb105, 2, none⟩ (.int .i64 ((rd_T53 l0_1 x25_2).f2))) = w29 at n0_ n1_ n2_ ⊢
                 have BK101 := n0_
                 have BK105 := n1_
                 have HB := n2_
                 clear n0_ n1_ n2_
                 have _ := aM (blk_drew BK101.out)
                 have _ := aM (blk_drew BK105.out)
                 have _ := aM (below_drew1 HB.out)
                 clear BK101
                 clear BK105
                 clear HB
                 rename_i BK101 BK105 HB
                 have p108 : 0 ≤ ((ji22) : Int) := of_decide_eq_true z1200
                 have q108 : (ji22) < (l0_1.length : Int) := of_decide_eq_true z1200
                 obtain ⟨ad108, A108_1, c108_1, e108, hx108_0, hx108_1, hx108_2, hl108_1, hi108_1⟩ := at_T53 HR0_1.out (ji22) p108 q108
                 have hw108_2 := hx108_2
                 have hw108_1 := hx108_1
                 have hw108_0 := hx108_0
                 obtain rfl : ad104 = ad108 := (by injection e108)
                 have TW108_1 := aM hx108_1
                 replace hx108_0 := (HB.out.cell (World.block_lt_of_cell? w _ hx108_0)).trans hx108_0
                 replace hx108_1 := (HB.out.cell (World.block_lt_of_cell? w _ hx108_1)).trans hx108_1
                 replace hx108_2 := (HB.out.cell (World.block_lt_of_cell? w _ hx108_2)).trans hx108_2
                 have HR108_1 := aM hi108_1
                 have HC108_1 := aM hl108_1
                 clear hi108_1 hl108_1
                 replace p108 := eq_true p108
                 replace q108 := eq_true q108
                 refine sA 29 impl_GoodFiles.tab6 impl_GoodFiles.bits6 (fun w' => w'.cell? ⟨gb105, 0, none⟩ = some (.string ((rd_T53 l0_1 x25_2).f0)) ∧ w'.cell? ⟨gb105, 1, none⟩ = some (.slice A104_1 ((rd_T53 l0_1 x25_2).f1).length c104_1) ∧ w'.cell? ⟨gb105, 2, none⟩ = some (.int .i64 ((rd_T53 l0_1 x25_2).f2)) ∧ w'.cell? ⟨gb101, 0, none⟩ = some (.int .i64 a0_0) ∧ w'.cell? ⟨gb101, 1, none⟩ = some (.slice (some ad104) l0_1.length c0_1) ∧ w'.cell? (ad104.add (((ji22)).toNat * 3)) = some (.string ((rd_T53 l0_1 (ji22)).f0)) ∧ w'.cell? ⟨(ad104.add (((ji22)).toNat * 3)).block, (ad104.add (((ji22)).toNat * 3)).off + 1, none⟩ = some (.slice A108_1 ((rd_T53 l0_1 (ji22)).f1).length c108_1) ∧ w'.cell? ⟨(ad104.add (((ji22)).toNat * 3)).block, (ad104.add (((ji22)).toNat * 3)).off + 2, none⟩ = some (.int .i64 ((rd_T53 l0_1 (ji22)).f2))) [] (fun hHeld HT_ HW_ => ?_)
                 generalize w29.drew = w30 at BK101 BK105 HB HR108_1 hx108_0 hx108_1 hx108_2 hHeld ⊢
                 refine pA 0 30 HT_ ?_; refine tA 1 31 HT_ HW_ hHeld ?_; refine oA 2 32 HT_ (fun K hK => ?_)
                 refine goes_ Tryd.func56 (by kernel_rfl) rfl #[.string ((rd_T53 l0_1 x25_2).f0)] (by rfl) rfl rfl zee81 ?_
                 with_reducible refine (impl_isFileName.calls ((rd_T53 l0_1 x25_2).f0) true _ A17.out).mono ?_
                 rintro e w31 ⟨rfl, hb⟩
                 refine ⟨_, rfl, ?_⟩
                 have _ := bB gb101 hb
                 have _ := bB gb105 hb
                 have _ := aM (below_step hbZ hb)
                 clear BK101
                 clear BK105
                 clear HB
                 rename_i BK101 BK105 HB
                 (try clear hb)
                 refine hK.out _ _ sZ (fun hHeld => ?_)
                 clear hK K
                 refine nA 32 ?_; refine pA 3 33 HT_ ?_; refine pA 4 34 HT_ ?_; refine pA 5 35 HT_ ?_; refine pA 7 37 HT_ ?_; refine tA 6 36 HT_ HW_ hHeld ?_; refine tA 8 38 HT_ HW_ hHeld ?_; refine pA 9 39 HT_ ?_; refine oA 10 40 HT_ (fun K hK => ?_)
                 refine goes_ Tryd.func55 (by kernel_rfl) rfl #[.int .i64 ((rd_T53 l0_1 x25_2).f2), .int .i64 0, .int .i64 (((rd_T53 l0_1 x25_2).f1).length : Int)] (by rfl) rfl rfl zee81 ?_
                 with_reducible refine (impl_within.calls ((rd_T53 l0_1 x25_2).f2) 0 (((rd_T53 l0_1 x25_2).f1).length : Int) true _ A19.out).mono ?_
                 rintro e w' ⟨rfl, ⟨nd, rfl⟩⟩
                 refine ⟨_, rfl, ?_⟩
                 refine hK.out _ _ sZ (fun hHeld => ?_)
                 clear hK K
                 refine nA 40 ?_; refine pA 11 41 HT_ ?_; refine pA 12 42 HT_ ?_; refine pA 13 43 HT_ ?_; refine pA 14 44 HT_ ?_; refine pA 15 45 HT_ ?_; refine pA 16 46 HT_ ?_; refine pA 17 47 HT_ ?_; refine pA 19 49 HT_ ?_; refine pA 20 50 HT_ ?_; refine pA 24 54 HT_ ?_; refine tA 18 48 HT_ HW_ hHeld ?_; refine pA 21 51 HT_ ?_; refine pA 22 52 HT_ ?_; refine tA 23 53 HT_ HW_ hHeld ?_; refine tA 25 55 HT_ HW_ hHeld ?_; refine pA 26 56 HT_ ?_; refine pA 27 57 HT_ ?_; refine pA 28 58 HT_ ?_
                 refine done_ (done_of HT_.out (by kernel_rfl)) ?_
                 try go_wp2
                 go_roundg k2
                 case measure => have := HJ1.out; have := HK2.out; omega
                 case rel => exact ⟨(wrap64 (x25_2 + 1)), z4458, H', ⟨by have := HJ1.out; have := HK2.out; omega⟩, ⟨bkZ⟩, ⟨zcb41⟩⟩
               · rw [if_neg c25] at H
                 have c25b0 : (Op.bytesLess (((rd_T53 l0_1 (ji22)).f0).toList) (((rd_T53 l0_1 x25_2).f0).toList)) = false := by simpa using c25
                 clear c25
                 obtain rfl := Option.some.inj H
                 have p104 : 0 ≤ (x25_2 : Int) := of_decide_eq_true z1200
                 have q104 : x25_2 < (l0_1.length : Int) := of_decide_eq_true z1200
                 obtain ⟨ad104, A104_1, c104_1, e104, hx104_0, hx104_1, hx104_2, hl104_1, hi104_1⟩ := at_T53 HR0_1.out x25_2 p104 q104
                 cases e104
                 have TW104_1 := aM hx104_1
                 replace hx104_0 := (HB.out.cell (World.block_lt_of_cell? w _ hx104_0)).trans hx104_0
                 replace hx104_1 := (HB.out.cell (World.block_lt_of_cell? w _ hx104_1)).trans hx104_1
                 replace hx104_2 := (HB.out.cell (World.block_lt_of_cell? w _ hx104_2)).trans hx104_2
                 have HR104_1 := aM hi104_1
                 have HC104_1 := aM hl104_1
                 clear hi104_1 hl104_1
                 replace p104 := eq_true p104
                 replace q104 := eq_true q104
                 try go_wp2_with (first | ((with_reducible refine gate_dst (N := 4) rfl ?_); (try (refine gate_guard (by rfl) ?_; dsimp only)); refine bX 4 53 #[.string (⟨#[]⟩ : ByteArray), .slice none 0 0, .int .i64 0] ?_; intro gb105 hg w32 hbox hb; have _ := bB gb101 hb; have _ := aM (below_step hbZ hb); have _ := aM hbox; have _ := szZ hg; have _ := szZ hg; have ⟨_, _⟩ := nbB gb101 hg; clear BK101 HB; rename_i BK101 HB BK105 GW105 GE105 NB101_105 NB105_101; clear hb hbox hg; have hnb33 := NB105_101.out; have hnc33 := NB101_105.out; have hz34 := cellsZ3 BK105.out))
                 have n0_ : Aside0 ((((w32.setCell ⟨gb105, 0, none⟩ (.string ((rd_T53 l0_1 x25_2).f0))).setCell ⟨gb105, 1, none⟩ (.slice A104_1 ((rd_T53 l0_1 x25_2).f1).length c104_1)).setCell ⟨gb105, 2, none⟩ (.int .i64 ((rd_T53 l0_1 x25_2).f2))).heap[gb101]? = some (.cells #[.int .i64 a0_0, .slice (some ad104) l0_1.length c0_1] 29 (0, 0))) := ⟨bkZ⟩
                 have n1_ : Aside0 ((((w32.setCell ⟨gb105, 0, none⟩ (.string ((rd_T53 l0_1 x25_2).f0))).setCell ⟨gb105, 1, none⟩ (.slice A104_1 ((rd_T53 l0_1 x25_2).f1).length c104_1)).setCell ⟨gb105, 2, none⟩ (.int .i64 ((rd_T53 l0_1 x25_2).f2))).heap[gb105]? = some (.cells #[.string ((rd_T53 l0_1 x25_2).f0), .slice A104_1 ((rd_T53 l0_1 x25_2).f1).length c104_1, .int .i64 ((rd_T53 l0_1 x25_2).f2)] 53 (0, 0))) := ⟨bkZ⟩
                 have n2_ : Aside0 (Below w.heap.size w (((w32.setCell ⟨gb105, 0, none⟩ (.string ((rd_T53 l0_1 x25_2).f0))).setCell ⟨gb105, 1, none⟩ (.slice A104_1 ((rd_T53 l0_1 x25_2).f1).length c104_1)).setCell ⟨gb105, 2, none⟩ (.int .i64 ((rd_T53 l0_1 x25_2).f2)))) := ⟨zcb41⟩
                 (try clear BK101); (try clear BK105); (try clear HB)
                 generalize (((w32.setCell ⟨gb105, 0, none⟩ (.string ((rd_T53 l0_1 x25_2).f0))).setCell ⟨gb105, 1, none⟩ (.slice A104_1 ((rd_T53 l0_1 x25_2).f1).length c104_1)).setCell ⟨gb105, 2, none⟩ (.int .i64 ((rd_T53 l0_1 x25_2).f2))) = w35 at n0_ n1_ n2_ ⊢
                 have BK101 := n0_
                 have BK105 := n1_
                 have HB := n2_
                 clear n0_ n1_ n2_
                 have _ := aM (blk_drew BK101.out)
                 have _ := aM (blk_drew BK105.out)
                 have _ := aM (below_drew1 HB.out)
                 clear BK101
                 clear BK105
                 clear HB
                 rename_i BK101 BK105 HB
                 have p108 : 0 ≤ ((ji22) : Int) := of_decide_eq_true z1200
                 have q108 : (ji22) < (l0_1.length : Int) := of_decide_eq_true z1200
                 obtain ⟨ad108, A108_1, c108_1, e108, hx108_0, hx108_1, hx108_2, hl108_1, hi108_1⟩ := at_T53 HR0_1.out (ji22) p108 q108
                 have hw108_2 := hx108_2
                 have hw108_1 := hx108_1
                 have hw108_0 := hx108_0
                 obtain rfl : ad104 = ad108 := (by injection e108)
                 have TW108_1 := aM hx108_1
                 replace hx108_0 := (HB.out.cell (World.block_lt_of_cell? w _ hx108_0)).trans hx108_0
                 replace hx108_1 := (HB.out.cell (World.block_lt_of_cell? w _ hx108_1)).trans hx108_1
                 replace hx108_2 := (HB.out.cell (World.block_lt_of_cell? w _ hx108_2)).trans hx108_2
                 have HR108_1 := aM hi108_1
                 have HC108_1 := aM hl108_1
                 clear hi108_1 hl108_1
                 replace p108 := eq_true p108
                 replace q108 := eq_true q108
                 refine sA 29 impl_GoodFiles.tab6 impl_GoodFiles.bits6 (fun w' => w'.cell? ⟨gb105, 0, none⟩ = some (.string ((rd_T53 l0_1 x25_2).f0)) ∧ w'.cell? ⟨gb105, 1, none⟩ = some (.slice A104_1 ((rd_T53 l0_1 x25_2).f1).length c104_1) ∧ w'.cell? ⟨gb105, 2, none⟩ = some (.int .i64 ((rd_T53 l0_1 x25_2).f2)) ∧ w'.cell? ⟨gb101, 0, none⟩ = some (.int .i64 a0_0) ∧ w'.cell? ⟨gb101, 1, none⟩ = some (.slice (some ad104) l0_1.length c0_1) ∧ w'.cell? (ad104.add (((ji22)).toNat * 3)) = some (.string ((rd_T53 l0_1 (ji22)).f0)) ∧ w'.cell? ⟨(ad104.add (((ji22)).toNat * 3)).block, (ad104.add (((ji22)).toNat * 3)).off + 1, none⟩ = some (.slice A108_1 ((rd_T53 l0_1 (ji22)).f1).length c108_1) ∧ w'.cell? ⟨(ad104.add (((ji22)).toNat * 3)).block, (ad104.add (((ji22)).toNat * 3)).off + 2, none⟩ = some (.int .i64 ((rd_T53 l0_1 (ji22)).f2))) [] (fun hHeld HT_ HW_ => ?_)
                 generalize w35.drew = w36 at BK101 BK105 HB HR108_1 hx108_0 hx108_1 hx108_2 hHeld ⊢
                 refine pA 0 30 HT_ ?_; refine tA 1 31 HT_ HW_ hHeld ?_; refine oA 2 32 HT_ (fun K hK => ?_)
                 refine goes_ Tryd.func56 (by kernel_rfl) rfl #[.string ((rd_T53 l0_1 x25_2).f0)] (by rfl) rfl rfl zee81 ?_
                 with_reducible refine (impl_isFileName.calls ((rd_T53 l0_1 x25_2).f0) true _ A17.out).mono ?_
                 rintro e w37 ⟨rfl, hb⟩
                 refine ⟨_, rfl, ?_⟩
                 have _ := bB gb101 hb
                 have _ := bB gb105 hb
                 have _ := aM (below_step hbZ hb)
                 clear BK101
                 clear BK105
                 clear HB
                 rename_i BK101 BK105 HB
                 (try clear hb)
                 refine hK.out _ _ sZ (fun hHeld => ?_)
                 clear hK K
                 refine nA 32 ?_; refine pA 3 33 HT_ ?_; refine pA 4 34 HT_ ?_; refine pA 5 35 HT_ ?_; refine pA 7 37 HT_ ?_; refine tA 6 36 HT_ HW_ hHeld ?_; refine tA 8 38 HT_ HW_ hHeld ?_; refine pA 9 39 HT_ ?_; refine oA 10 40 HT_ (fun K hK => ?_)
                 refine goes_ Tryd.func55 (by kernel_rfl) rfl #[.int .i64 ((rd_T53 l0_1 x25_2).f2), .int .i64 0, .int .i64 (((rd_T53 l0_1 x25_2).f1).length : Int)] (by rfl) rfl rfl zee81 ?_
                 with_reducible refine (impl_within.calls ((rd_T53 l0_1 x25_2).f2) 0 (((rd_T53 l0_1 x25_2).f1).length : Int) true _ A19.out).mono ?_
                 rintro e w' ⟨rfl, ⟨nd, rfl⟩⟩
                 refine ⟨_, rfl, ?_⟩
                 refine hK.out _ _ sZ (fun hHeld => ?_)
                 clear hK K
                 refine nA 40 ?_; refine pA 11 41 HT_ ?_; refine pA 12 42 HT_ ?_; refine pA 13 43 HT_ ?_; refine pA 14 44 HT_ ?_; refine pA 15 45 HT_ ?_; refine pA 16 46 HT_ ?_; refine pA 17 47 HT_ ?_; refine pA 19 49 HT_ ?_; refine pA 20 50 HT_ ?_; refine pA 24 54 HT_ ?_; refine tA 18 48 HT_ HW_ hHeld ?_; refine pA 21 51 HT_ ?_; refine pA 22 52 HT_ ?_; refine tA 23 53 HT_ HW_ hHeld ?_; refine tA 25 55 HT_ HW_ hHeld ?_; refine pA 26 56 HT_ ?_; refine pA 27 57 HT_ ?_; refine pA 28 58 HT_ ?_
                 refine done_ (done_of HT_.out (by kernel_rfl)) ?_
                 try go_wp2
                 go_ret
                 exact ⟨by first | rfl | (simp [errW_none, errW_some] <;> rfl) | (simp only [← hji22]; first | rfl | (simp [errW_none, errW_some] <;> rfl)) | (simp [*, errW_none, errW_some] <;> rfl), zcb41⟩
             · rw [if_neg c21] at H
               have c21b0 := nL c21
               clear c21
               have H' := aM H
               clear H
               have p104 : 0 ≤ (x25_2 : Int) := of_decide_eq_true z1200
               have q104 : x25_2 < (l0_1.length : Int) := of_decide_eq_true z1200
               obtain ⟨ad104, A104_1, c104_1, e104, hx104_0, hx104_1, hx104_2, hl104_1, hi104_1⟩ := at_T53 HR0_1.out x25_2 p104 q104
               cases e104
               have TW104_1 := aM hx104_1
               replace hx104_0 := (HB.out.cell (World.block_lt_of_cell? w _ hx104_0)).trans hx104_0
               replace hx104_1 := (HB.out.cell (World.block_lt_of_cell? w _ hx104_1)).trans hx104_1
               replace hx104_2 := (HB.out.cell (World.block_lt_of_cell? w _ hx104_2)).trans hx104_2
               have HR104_1 := aM hi104_1
               have HC104_1 := aM hl104_1
               clear hi104_1 hl104_1
               replace p104 := eq_true p104
               replace q104 := eq_true q104
               try go_wp2_with (first | ((with_reducible refine gate_dst (N := 4) rfl ?_); (try (refine gate_guard (by rfl) ?_; dsimp only)); refine bX 4 53 #[.string (⟨#[]⟩ : ByteArray), .slice none 0 0, .int .i64 0] ?_; intro gb105 hg w38 hbox hb; have _ := bB gb101 hb; have _ := aM (below_step hbZ hb); have _ := aM hbox; have _ := szZ hg; have _ := szZ hg; have ⟨_, _⟩ := nbB gb101 hg; clear BK101 HB; rename_i BK101 HB BK105 GW105 GE105 NB101_105 NB105_101; clear hb hbox hg; have hnb39 := NB105_101.out; have hnc39 := NB101_105.out; have hz40 := cellsZ3 BK105.out))
               have n0_ : Aside0 ((((w38.setCell ⟨gb105, 0, none⟩ (.string ((rd_T53 l0_1 x25_2).f0))).setCell ⟨gb105, 1, none⟩ (.slice A104_1 ((rd_T53 l0_1 x25_2).f1).length c104_1)).setCell ⟨gb105, 2, none⟩ (.int .i64 ((rd_T53 l0_1 x25_2).f2))).heap[gb101]? = some (.cells #[.int .i64 a0_0, .slice (some ad104) l0_1.length c0_1] 29 (0, 0))) := ⟨bkZ⟩
               have n1_ : Aside0 ((((w38.setCell ⟨gb105, 0, none⟩ (.string ((rd_T53 l0_1 x25_2).f0))).setCell ⟨gb105, 1, none⟩ (.slice A104_1 ((rd_T53 l0_1 x25_2).f1).length c104_1)).setCell ⟨gb105, 2, none⟩ (.int .i64 ((rd_T53 l0_1 x25_2).f2))).heap[gb105]? = some (.cells #[.string ((rd_T53 l0_1 x25_2).f0), .slice A104_1 ((rd_T53 l0_1 x25_2).f1).length c104_1, .int .i64 ((rd_T53 l0_1 x25_2).f2)] 53 (0, 0))) := ⟨bkZ⟩
               have n2_ : Aside0 (Below w.heap.size w (((w38.setCell ⟨gb105, 0, none⟩ (.string ((rd_T53 l0_1 x25_2).f0))).setCell ⟨gb105, 1, none⟩ (.slice A104_1 ((rd_T53 l0_1 x25_2).f1).length c104_1)).setCell ⟨gb105, 2, none⟩ (.int .i64 ((rd_T53 l0_1 x25_2).f2)))) := ⟨zcb41⟩
               (try clear BK101); (try clear BK105); (try clear HB)
               generalize (((w38.setCell ⟨gb105, 0, none⟩ (.string ((rd_T53 l0_1 x25_2).f0))).setCell ⟨gb105, 1, none⟩ (.slice A104_1 ((rd_T53 l0_1 x25_2).f1).length c104_1)).setCell ⟨gb105, 2, none⟩ (.int .i64 ((rd_T53 l0_1 x25_2).f2))) = w41 at n0_ n1_ n2_ ⊢
               have BK101 := n0_
               have BK105 := n1_
               have HB := n2_
               clear n0_ n1_ n2_
               have _ := aM (blk_drew BK101.out)
               have _ := aM (blk_drew BK105.out)
               have _ := aM (below_drew1 HB.out)
               clear BK101
               clear BK105
               clear HB
               rename_i BK101 BK105 HB
               refine sA 29 impl_GoodFiles.tab6 impl_GoodFiles.bits6 (fun w' => w'.cell? ⟨gb105, 0, none⟩ = some (.string ((rd_T53 l0_1 x25_2).f0)) ∧ w'.cell? ⟨gb105, 1, none⟩ = some (.slice A104_1 ((rd_T53 l0_1 x25_2).f1).length c104_1) ∧ w'.cell? ⟨gb105, 2, none⟩ = some (.int .i64 ((rd_T53 l0_1 x25_2).f2))) [] (fun hHeld HT_ HW_ => ?_)
               generalize w41.drew = w42 at BK101 BK105 HB hHeld ⊢
               refine pA 0 30 HT_ ?_; refine tA 1 31 HT_ HW_ hHeld ?_; refine oA 2 32 HT_ (fun K hK => ?_)
               refine goes_ Tryd.func56 (by kernel_rfl) rfl #[.string ((rd_T53 l0_1 x25_2).f0)] (by rfl) rfl rfl zee81 ?_
               with_reducible refine (impl_isFileName.calls ((rd_T53 l0_1 x25_2).f0) true _ A17.out).mono ?_
               rintro e w43 ⟨rfl, hb⟩
               refine ⟨_, rfl, ?_⟩
               have _ := bB gb101 hb
               have _ := bB gb105 hb
               have _ := aM (below_step hbZ hb)
               clear BK101
               clear BK105
               clear HB
               rename_i BK101 BK105 HB
               (try clear hb)
               refine hK.out _ _ sZ (fun hHeld => ?_)
               clear hK K
               refine nA 32 ?_; refine pA 3 33 HT_ ?_; refine pA 4 34 HT_ ?_; refine pA 5 35 HT_ ?_; refine pA 7 37 HT_ ?_; refine tA 6 36 HT_ HW_ hHeld ?_; refine tA 8 38 HT_ HW_ hHeld ?_; refine pA 9 39 HT_ ?_; refine oA 10 40 HT_ (fun K hK => ?_)
               refine goes_ Tryd.func55 (by kernel_rfl) rfl #[.int .i64 ((rd_T53 l0_1 x25_2).f2), .int .i64 0, .int .i64 (((rd_T53 l0_1 x25_2).f1).length : Int)] (by rfl) rfl rfl zee81 ?_
               with_reducible refine (impl_within.calls ((rd_T53 l0_1 x25_2).f2) 0 (((rd_T53 l0_1 x25_2).f1).length : Int) true _ A19.out).mono ?_
               rintro e w' ⟨rfl, ⟨nd, rfl⟩⟩
               refine ⟨_, rfl, ?_⟩
               refine hK.out _ _ sZ (fun hHeld => ?_)
               clear hK K
               refine nA 40 ?_; refine pA 11 41 HT_ ?_; refine pA 12 42 HT_ ?_; refine pA 13 43 HT_ ?_; refine pA 14 44 HT_ ?_; refine pA 15 45 HT_ ?_; refine pA 16 46 HT_ ?_; refine uA 17 47 HT_ ?_; refine uA 18 48 HT_ ?_; refine uA 19 49 HT_ ?_; refine uA 20 50 HT_ ?_; refine uA 21 51 HT_ ?_; refine uA 22 52 HT_ ?_; refine uA 23 53 HT_ ?_; refine uA 24 54 HT_ ?_; refine uA 25 55 HT_ ?_; refine uA 26 56 HT_ ?_; refine pA 27 57 HT_ ?_; refine pA 28 58 HT_ ?_
               refine done_ (done_of HT_.out (by kernel_rfl)) ?_
               try go_wp2
               go_roundg k2
               case measure => have := HJ1.out; have := HK2.out; omega
               case rel => exact ⟨(wrap64 (x25_2 + 1)), z4458, H', ⟨by have := HJ1.out; have := HK2.out; omega⟩, ⟨bkZ⟩, ⟨zcb41⟩⟩
           · replace c20 := Bool.eq_false_iff.mpr c20
             subst c20
             rw [if_neg (show ¬ (false = true) by decide)] at H
             obtain rfl := Option.some.inj H
             have p104 : 0 ≤ (x25_2 : Int) := of_decide_eq_true z1200
             have q104 : x25_2 < (l0_1.length : Int) := of_decide_eq_true z1200
             obtain ⟨ad104, A104_1, c104_1, e104, hx104_0, hx104_1, hx104_2, hl104_1, hi104_1⟩ := at_T53 HR0_1.out x25_2 p104 q104
             cases e104
             have TW104_1 := aM hx104_1
             replace hx104_0 := (HB.out.cell (World.block_lt_of_cell? w _ hx104_0)).trans hx104_0
             replace hx104_1 := (HB.out.cell (World.block_lt_of_cell? w _ hx104_1)).trans hx104_1
             replace hx104_2 := (HB.out.cell (World.block_lt_of_cell? w _ hx104_2)).trans hx104_2
             have HR104_1 := aM hi104_1
             have HC104_1 := aM hl104_1
             clear hi104_1 hl104_1
             replace p104 := eq_true p104
             replace q104 := eq_true q104
             try go_wp2_with (first | ((with_reducible refine gate_dst (N := 4) rfl ?_); (try (refine gate_guard (by rfl) ?_; dsimp only)); refine bX 4 53 #[.string (⟨#[]⟩ : ByteArray), .slice none 0 0, .int .i64 0] ?_; intro gb105 hg w44 hbox hb; have _ := bB gb101 hb; have _ := aM (below_step hbZ hb); have _ := aM hbox; have _ := szZ hg; have _ := szZ hg; have ⟨_, _⟩ := nbB gb101 hg; clear BK101 HB; rename_i BK101 HB BK105 GW105 GE105 NB101_105 NB105_101; clear hb hbox hg; have hnb45 := NB105_101.out; have hnc45 := NB101_105.out; have hz46 := cellsZ3 BK105.out))
             have n0_ : Aside0 ((((w44.setCell ⟨gb105, 0, none⟩ (.string ((rd_T53 l0_1 x25_2).f0))).setCell ⟨gb105, 1, none⟩ (.slice A104_1 ((rd_T53 l0_1 x25_2).f1).length c104_1)).setCell ⟨gb105, 2, none⟩ (.int .i64 ((rd_T53 l0_1 x25_2).f2))).heap[gb101]? = some (.cells #[.int .i64 a0_0, .slice (some ad104) l0_1.length c0_1] 29 (0, 0))) := ⟨bkZ⟩
             have n1_ : Aside0 ((((w44.setCell ⟨gb105, 0, none⟩ (.string ((rd_T53 l0_1 x25_2).f0))).setCell ⟨gb105, 1, none⟩ (.slice A104_1 ((rd_T53 l0_1 x25_2).f1).length c104_1)).setCell ⟨gb105, 2, none⟩ (.int .i64 ((rd_T53 l0_1 x25_2).f2))).heap[gb105]? = some (.cells #[.string ((rd_T53 l0_1 x25_2).f0), .slice A104_1 ((rd_T53 l0_1 x25_2).f1).length c104_1, .int .i64 ((rd_T53 l0_1 x25_2).f2)] 53 (0, 0))) := ⟨bkZ⟩
             have n2_ : Aside0 (Below w.heap.size w (((w44.setCell ⟨gb105, 0, none⟩ (.string ((rd_T53 l0_1 x25_2).f0))).setCell ⟨gb105, 1, none⟩ (.slice A104_1 ((rd_T53 l0_1 x25_2).f1).length c104_1)).setCell ⟨gb105, 2, none⟩ (.int .i64 ((rd_T53 l0_1 x25_2).f2)))) := ⟨zcb41⟩
             (try clear BK101); (try clear BK105); (try clear HB)
             generalize (((w44.setCell ⟨gb105, 0, none⟩ (.string ((rd_T53 l0_1 x25_2).f0))).setCell ⟨gb105, 1, none⟩ (.slice A104_1 ((rd_T53 l0_1 x25_2).f1).length c104_1)).setCell ⟨gb105, 2, none⟩ (.int .i64 ((rd_T53 l0_1 x25_2).f2))) = w47 at n0_ n1_ n2_ ⊢
             have BK101 := n0_
             have BK105 := n1_
             have HB := n2_
             clear n0_ n1_ n2_
             have _ := aM (blk_drew BK101.out)
             have _ := aM (blk_drew BK105.out)
             have _ := aM (below_drew1 HB.out)
             clear BK101
             clear BK105
             clear HB
             rename_i BK101 BK105 HB
             refine sA 29 impl_GoodFiles.tab6 impl_GoodFiles.bits6 (fun w' => w'.cell? ⟨gb105, 0, none⟩ = some (.string ((rd_T53 l0_1 x25_2).f0)) ∧ w'.cell? ⟨gb105, 1, none⟩ = some (.slice A104_1 ((rd_T53 l0_1 x25_2).f1).length c104_1) ∧ w'.cell? ⟨gb105, 2, none⟩ = some (.int .i64 ((rd_T53 l0_1 x25_2).f2))) [] (fun hHeld HT_ HW_ => ?_)
             generalize w47.drew = w48 at BK101 BK105 HB hHeld ⊢
             refine pA 0 30 HT_ ?_; refine tA 1 31 HT_ HW_ hHeld ?_; refine oA 2 32 HT_ (fun K hK => ?_)
             refine goes_ Tryd.func56 (by kernel_rfl) rfl #[.string ((rd_T53 l0_1 x25_2).f0)] (by rfl) rfl rfl zee81 ?_
             with_reducible refine (impl_isFileName.calls ((rd_T53 l0_1 x25_2).f0) true _ A17.out).mono ?_
             rintro e w49 ⟨rfl, hb⟩
             refine ⟨_, rfl, ?_⟩
             have _ := bB gb101 hb
             have _ := bB gb105 hb
             have _ := aM (below_step hbZ hb)
             clear BK101
             clear BK105
             clear HB
             rename_i BK101 BK105 HB
             (try clear hb)
             refine hK.out _ _ sZ (fun hHeld => ?_)
             clear hK K
             refine nA 32 ?_; refine pA 3 33 HT_ ?_; refine pA 4 34 HT_ ?_; refine pA 5 35 HT_ ?_; refine pA 7 37 HT_ ?_; refine tA 6 36 HT_ HW_ hHeld ?_; refine tA 8 38 HT_ HW_ hHeld ?_; refine pA 9 39 HT_ ?_; refine oA 10 40 HT_ (fun K hK => ?_)
             refine goes_ Tryd.func55 (by kernel_rfl) rfl #[.int .i64 ((rd_T53 l0_1 x25_2).f2), .int .i64 0, .int .i64 (((rd_T53 l0_1 x25_2).f1).length : Int)] (by rfl) rfl rfl zee81 ?_
             with_reducible refine (impl_within.calls ((rd_T53 l0_1 x25_2).f2) 0 (((rd_T53 l0_1 x25_2).f1).length : Int) false _ A19.out).mono ?_
             rintro e w' ⟨rfl, ⟨nd, rfl⟩⟩
             refine ⟨_, rfl, ?_⟩
             refine hK.out _ _ sZ (fun hHeld => ?_)
             clear hK K
             refine nA 40 ?_; refine pA 11 41 HT_ ?_; refine pA 12 42 HT_ ?_; refine pA 13 43 HT_ ?_; refine uA 14 44 HT_ ?_; refine uA 15 45 HT_ ?_; refine uA 16 46 HT_ ?_; refine uA 17 47 HT_ ?_; refine uA 18 48 HT_ ?_; refine uA 19 49 HT_ ?_; refine uA 20 50 HT_ ?_; refine uA 21 51 HT_ ?_; refine uA 22 52 HT_ ?_; refine uA 23 53 HT_ ?_; refine uA 24 54 HT_ ?_; refine uA 25 55 HT_ ?_; refine uA 26 56 HT_ ?_; refine uA 27 57 HT_ ?_; refine pA 28 58 HT_ ?_
             refine done_ (done_of HT_.out (by kernel_rfl)) ?_
             try go_wp2
             go_ret
             exact ⟨z674d, zcb41⟩
         · replace c18 := Bool.eq_false_iff.mpr c18
           subst c18
           rw [if_neg (show ¬ (false = true) by decide)] at H
           obtain rfl := Option.some.inj H
           have p104 : 0 ≤ (x25_2 : Int) := of_decide_eq_true z1200
           have q104 : x25_2 < (l0_1.length : Int) := of_decide_eq_true z1200
           obtain ⟨ad104, A104_1, c104_1, e104, hx104_0, hx104_1, hx104_2, hl104_1, hi104_1⟩ := at_T53 HR0_1.out x25_2 p104 q104
           cases e104
           have TW104_1 := aM hx104_1
           replace hx104_0 := (HB.out.cell (World.block_lt_of_cell? w _ hx104_0)).trans hx104_0
           replace hx104_1 := (HB.out.cell (World.block_lt_of_cell? w _ hx104_1)).trans hx104_1
           replace hx104_2 := (HB.out.cell (World.block_lt_of_cell? w _ hx104_2)).trans hx104_2
           have HR104_1 := aM hi104_1
           have HC104_1 := aM hl104_1
           clear hi104_1 hl104_1
           replace p104 := eq_true p104
           replace q104 := eq_true q104
           try go_wp2_with (first | ((with_reducible refine gate_dst (N := 4) rfl ?_); (try (refine gate_guard (by rfl) ?_; dsimp only)); refine bX 4 53 #[.string (⟨#[]⟩ : ByteArray), .slice none 0 0, .int .i64 0] ?_; intro gb105 hg w50 hbox hb; have _ := bB gb101 hb; have _ := aM (below_step hbZ hb); have _ := aM hbox; have _ := szZ hg; have _ := szZ hg; have ⟨_, _⟩ := nbB gb101 hg; clear BK101 HB; rename_i BK101 HB BK105 GW105 GE105 NB101_105 NB105_101; clear hb hbox hg; have hnb51 := NB105_101.out; have hnc51 := NB101_105.out; have hz52 := cellsZ3 BK105.out))
           have n0_ : Aside0 ((((w50.setCell ⟨gb105, 0, none⟩ (.string ((rd_T53 l0_1 x25_2).f0))).setCell ⟨gb105, 1, none⟩ (.slice A104_1 ((rd_T53 l0_1 x25_2).f1).length c104_1)).setCell ⟨gb105, 2, none⟩ (.int .i64 ((rd_T53 l0_1 x25_2).f2))).heap[gb101]? = some (.cells #[.int .i64 a0_0, .slice (some ad104) l0_1.length c0_1] 29 (0, 0))) := ⟨bkZ⟩
           have n1_ : Aside0 ((((w50.setCell ⟨gb105, 0, none⟩ (.string ((rd_T53 l0_1 x25_2).f0))).setCell ⟨gb105, 1, none⟩ (.slice A104_1 ((rd_T53 l0_1 x25_2).f1).length c104_1)).setCell ⟨gb105, 2, none⟩ (.int .i64 ((rd_T53 l0_1 x25_2).f2))).heap[gb105]? = some (.cells #[.string ((rd_T53 l0_1 x25_2).f0), .slice A104_1 ((rd_T53 l0_1 x25_2).f1).length c104_1, .int .i64 ((rd_T53 l0_1 x25_2).f2)] 53 (0, 0))) := ⟨bkZ⟩
           have n2_ : Aside0 (Below w.heap.size w (((w50.setCell ⟨gb105, 0, none⟩ (.string ((rd_T53 l0_1 x25_2).f0))).setCell ⟨gb105, 1, none⟩ (.slice A104_1 ((rd_T53 l0_1 x25_2).f1).length c104_1)).setCell ⟨gb105, 2, none⟩ (.int .i64 ((rd_T53 l0_1 x25_2).f2)))) := ⟨zcb41⟩
           (try clear BK101); (try clear BK105); (try clear HB)
           generalize (((w50.setCell ⟨gb105, 0, none⟩ (.string ((rd_T53 l0_1 x25_2).f0))).setCell ⟨gb105, 1, none⟩ (.slice A104_1 ((rd_T53 l0_1 x25_2).f1).length c104_1)).setCell ⟨gb105, 2, none⟩ (.int .i64 ((rd_T53 l0_1 x25_2).f2))) = w53 at n0_ n1_ n2_ ⊢
           have BK101 := n0_
           have BK105 := n1_
           have HB := n2_
           clear n0_ n1_ n2_
           have _ := aM (blk_drew BK101.out)
           have _ := aM (blk_drew BK105.out)
           have _ := aM (below_drew1 HB.out)
           clear BK101
           clear BK105
           clear HB
           rename_i BK101 BK105 HB
           refine sA 29 impl_GoodFiles.tab6 impl_GoodFiles.bits6 (fun w' => w'.cell? ⟨gb105, 0, none⟩ = some (.string ((rd_T53 l0_1 x25_2).f0)) ∧ w'.cell? ⟨gb105, 1, none⟩ = some (.slice A104_1 ((rd_T53 l0_1 x25_2).f1).length c104_1) ∧ w'.cell? ⟨gb105, 2, none⟩ = some (.int .i64 ((rd_T53 l0_1 x25_2).f2))) [] (fun hHeld HT_ HW_ => ?_)
           generalize w53.drew = w54 at BK101 BK105 HB hHeld ⊢
           refine pA 0 30 HT_ ?_; refine tA 1 31 HT_ HW_ hHeld ?_; refine oA 2 32 HT_ (fun K hK => ?_)
           refine goes_ Tryd.func56 (by kernel_rfl) rfl #[.string ((rd_T53 l0_1 x25_2).f0)] (by rfl) rfl rfl zee81 ?_
           with_reducible refine (impl_isFileName.calls ((rd_T53 l0_1 x25_2).f0) false _ A17.out).mono ?_
           rintro e w55 ⟨rfl, hb⟩
           refine ⟨_, rfl, ?_⟩
           have _ := bB gb101 hb
           have _ := bB gb105 hb
           have _ := aM (below_step hbZ hb)
           clear BK101
           clear BK105
           clear HB
           rename_i BK101 BK105 HB
           (try clear hb)
           refine hK.out _ _ sZ (fun hHeld => ?_)
           clear hK K
           refine nA 32 ?_; refine pA 3 33 HT_ ?_; refine pA 4 34 HT_ ?_; refine uA 5 35 HT_ ?_; refine uA 6 36 HT_ ?_; refine uA 7 37 HT_ ?_; refine uA 8 38 HT_ ?_; refine uA 9 39 HT_ ?_; refine uA 10 40 HT_ ?_; refine uA 11 41 HT_ ?_; refine pA 12 42 HT_ ?_; refine pA 13 43 HT_ ?_; refine uA 14 44 HT_ ?_; refine uA 15 45 HT_ ?_; refine uA 16 46 HT_ ?_; refine uA 17 47 HT_ ?_; refine uA 18 48 HT_ ?_; refine uA 19 49 HT_ ?_; refine uA 20 50 HT_ ?_; refine uA 21 51 HT_ ?_; refine uA 22 52 HT_ ?_; refine uA 23 53 HT_ ?_; refine uA 24 54 HT_ ?_; refine uA 25 55 HT_ ?_; refine uA 26 56 HT_ ?_; refine uA 27 57 HT_ ?_; refine pA 28 58 HT_ ?_
           refine done_ (done_of HT_.out (by kernel_rfl)) ?_
           try go_wp2
           go_ret
           exact ⟨z674d, zcb41⟩
       · rw [if_neg c14] at H
         have c14b0 := nL c14
         clear c14
         obtain rfl := Option.some.inj H
         go_wp2
         go_ret
         exact ⟨z674d, zcb41⟩

end Go.Proofs.YtmlclmbplbbbhaaDoor.P

-- written by a program of this session's (wip/pp)
namespace Go.Proofs.YtmlclmbplbbbhaaDoor.P
open Go.RowKit Go.Proofs.YtmlclmbplbbbhaaDoorW.PrintWords Go.Proofs.YtmlclmbplbbbhaaDoorW.PrintLast Go.Proofs.YtmlclmbplbbbhaaDoorW.PrintMore
attribute [local go_sem] max2_int min2_int max_two min_two max_three min_three max_four min_four str_geq str_gtr str_leq   -- for this text's walks alone
set_option linter.unusedVariables false
set_option linter.unusedSimpArgs false

/-! ### slices_Clone_byte_byte: function 78 -/
def slices_Clone_byte_byte.f (l0 : List Int) : Option (List Int) := (some (([] : List Int) : List Int)).bind fun y101 => (if y101.length + l0.length < 140737488355328 then (some (y101 ++ l0)) else (none))
set_option maxHeartbeats 8000000 in
set_option maxRecDepth 100000 in
theorem slices_Clone_byte_byte.callsN (A0 : Option Addr) (c0 : Nat) (l0 : List Int) (r : List Int) (w : World) (hr0 : Kd.C (Kd.int .u8) w A0 l0.length l0) (hc0 : l0.length ≤ c0) (hn0 : A0 ≠ none) (h : slices_Clone_byte_byte.f l0 = some r) :
 Calls Tryd.prog 78 #[.slice A0 l0.length c0] w fun e w' => ∃ v0_ : Value, e = .returned (v0_) ∧ Kd.R (Kd.int .u8) 5 w' w.heap.size (fun _ => True) v0_ r ∧ Below w.heap.size w w' := by
 have HR0 := aM hr0
 have HC0 := aM hc0
 clear hr0 hc0
 have HB := aM (Below.refl w.heap.size w)
 have H : ((some (([] : List Int) : List Int)).bind fun y101 => (if y101.length + l0.length < 140737488355328 then (some (y101 ++ l0)) else (none))) = some r := h
 clear h
 have hnil_ : ∀ W_ : World, (Go.binOp .eql 25 (.slice A0 l0.length c0) (.slice none 0 0)).run Tryd.prog W_ = .ok (.bool false) W_ := fun W_ => by have hz_ : A0.isNone = false := (by cases A0 with | none => exact absurd rfl hn0 | some _ => rfl); have hy_ := Go.Lib.run_eql_slice_nil (P := Tryd.prog) W_ 25 5 A0 l0.length c0 0 0 Tryd.underlying25; rw [hz_] at hy_; exact hy_
 obtain ⟨y101, hy101⟩ : ∃ y_ : List Int, y_ = (([] : List Int)) := ⟨_, rfl⟩
 first | (replace H := bindS H; rw [← hy101] at H; try dsimp only at H) | rw [← hy101] at H
 have Ny101 := aM hy101
 clear hy101
 obtain ⟨LMc2, H⟩ := sM H
 obtain ⟨y104, hy104⟩ : ∃ y_ : List Int, y_ = (y101 ++ l0) := ⟨_, rfl⟩
 first | (replace H := bindS H; rw [← hy104] at H; try dsimp only at H) | rw [← hy104] at H
 have Ny104 := aM hy104
 clear hy104
 obtain rfl := Option.some.inj H
 go_enter Tryd.func78, Tryd.ntmps78
 go_wp2_with (first | ((with_reducible refine gate_dst (N := 5) rfl ?_); refine Kd.R_lit (Kd.int .u8) _ 5 ?hg (N := 5) ?hd (xs := ([] : List Int)) (inner := []) (ok := fun _ => True) (okp := fun _ => True) ?hr ?hp (fun _ hk => hk) trivial (Below.refl _ _) (Nat.le_refl _) (by simp) ?_; (case hd => rfl); (case hg => rfl); (case hr => first | (go_simp; done) | (go_simp; rfl)); (case hp => exact (Reps.none _ _)); intro v102 w3 ho4 hb hg_ hnew_; clear hg_ hnew_; (first | rw [← Ny101.out] at ho4 | (simp only [Int.reduceToNat] at ho4; rw [← Ny101.out] at ho4)); have _ := aM (Kd.R_lower ho4 (below_size hbZ)); have _ := aM (below_step hbZ hb); clear HB; rename_i HO103 HB; clear hb ho4) | ((with_reducible refine gate_builtin (b := .append) (xs := #[.tmp 5, .tmp 6]) rfl ?_); at_builtin; refine Kd.R_append_rows (Kd.int .u8) (w0 := w) w.heap.size rfl (.tmp 5) (.tmp 6) 25 5 (.int .u8 0) 1 rfl Tryd.underlying25 info5 rfl (by decide) (by omega) v102 y101 l0 _ _ _ (fun _ => True) (fun _ => False) rfl rfl ?aO ?aR (fun _ _ h => h) (fun _ h => h.elim) ?aF ?aB ?aS ?aL ?_; (case aR => repeat (first | exact (Kd.C_below HR0.out HB.out) | (with_reducible refine Kd.C_alloc ?_ _) | (with_reducible refine Kd.C_drewN ?_ _) | (with_reducible refine Kd.C_drew ?_))); (case aB => exact hbZ); (case aF => exact (fun _ _ => trivial)); (case aO => exact (rZ HO103.out)); (case aS => exact (below_size hbZ)); (case aL => have := LMc2.out; omega); intro v105 w5 ho hb hg hat; rw [← Ny104.out] at ho; have _ := aM hb; have _ := aM ho; clear HB HO103; rename_i HB HO106; clear ho hb hg hat))
 go_ret
 exact ⟨_, z674d, rZ HO106.out, z5acd⟩
set_option maxHeartbeats 400000 in
theorem slices_Clone_byte_byte.calls (A0 : Option Addr) (c0 : Nat) (l0 : List Int) (r : List Int) (w : World) (hr0 : Kd.C (Kd.int .u8) w A0 l0.length l0) (hc0 : l0.length ≤ c0) (h : slices_Clone_byte_byte.f l0 = some r) :
 Calls Tryd.prog 78 #[.slice A0 l0.length c0] w fun e w' => ∃ v0_ : Value, e = .returned (v0_) ∧ Kd.R (Kd.int .u8) 5 w' w.heap.size (fun _ => True) v0_ r ∧ Below w.heap.size w w' := by
 by_cases hA_ : A0 = none
 · subst hA_
   have hl_ : l0 = [] := by
    rcases Nat.eq_zero_or_pos l0.length with hz | hz
    · exact List.eq_nil_of_length_eq_zero hz
    · obtain ⟨ad, e, _⟩ := hr0.2.2 hz; cases e
   subst hl_
   have hr_ : r = [] := by
    have h2 := h
    simp [slices_Clone_byte_byte.f] at h2
    first | exact h2 | exact h2.symm
   subst hr_
   have hnil_ := fun W_ : World => Go.Lib.run_eql_slice_nil (P := Tryd.prog) W_ 25 5 none 0 c0 0 0 Tryd.underlying25
   go_enter Tryd.func78, Tryd.ntmps78
   go_wp2
   go_ret
   exact ⟨_, rfl, Kd.R_nil _ _ _ _ _, Below.refl _ _⟩
 · exact slices_Clone_byte_byte.callsN A0 c0 l0 r w hr0 hc0 hA_ h

end Go.Proofs.YtmlclmbplbbbhaaDoor.P

-- written by a program of this session's (wip/pp)
namespace Go.Proofs.YtmlclmbplbbbhaaDoor.P
open Go.RowKit Go.Proofs.YtmlclmbplbbbhaaDoorW.PrintWords Go.Proofs.YtmlclmbplbbbhaaDoorW.PrintLast Go.Proofs.YtmlclmbplbbbhaaDoorW.PrintMore
attribute [local go_sem] max2_int min2_int max_two min_two max_three min_three max_four min_four str_geq str_gtr str_leq   -- for this text's walks alone
set_option linter.unusedVariables false
set_option linter.unusedSimpArgs false

/-! ### impl_Files_cloned: function 70 -/
def impl_Files_cloned.l0 : Nat → List (S53) → Int → Int → Int → List (S53) → Option (Int × (List (S53)))
 | 0, _, _, _, _, _ => none
 | k + 1, x10, x11, x12, x104000, x104001 => if x12 < x11 then (if 0 ≤ x12 then (if x12 < (x10.length : Int) then ((slices_Clone_byte_byte.f ((rd_T53 x10 x12).f1)).bind fun t106 => (if x104001.length < 2932031007402 then (impl_Files_cloned.l0 k x10 x11 (wrap64 (x12 + 1)) x104000 (x104001 ++ [(⟨(rd_T53 x10 x12).f0, t106, (rd_T53 x10 x12).f2⟩ : S53)])) else (none))) else (none)) else (none)) else (some (x104000, x104001))
def impl_Files_cloned.f (k : Nat) (a0_0 : Int) (l0_1 : List (S53)) : Option (Int × (List (S53))) := impl_Files_cloned.l0 k l0_1 (l0_1.length : Int) 0 a0_0 ([] : List (S53))
theorem impl_Files_cloned.mono_l : ∀ k, (∀ y0 y1 y2 y3 y4, LeO (impl_Files_cloned.l0 k y0 y1 y2 y3 y4) (impl_Files_cloned.l0 (k + 1) y0 y1 y2 y3 y4))
 | 0 => fun _ _ _ _ _ r h => by simp [impl_Files_cloned.l0] at h
 | k + 1 => by
  have ih0 := impl_Files_cloned.mono_l k
  · intro y0 y1 y2 y3 y4
    unfold impl_Files_cloned.l0
    exact moZ
theorem impl_Files_cloned.mono : ∀ a0 a1 k, LeO (impl_Files_cloned.f k a0 a1) (impl_Files_cloned.f (k + 1) a0 a1) := by
 intro a0 a1 k
 have ih0 := impl_Files_cloned.mono_l k
 unfold impl_Files_cloned.f
 exact moZ
def impl_Files_cloned.T5 : Bool × List (List Nat × List Nat) := (true, [([], []), ([0], [0]), ([], []), ([2], [2]), ([], []), ([4], [4]), ([5], [5]), ([], []), ([7], [7]), ([3, 6, 8], [3, 6, 8]), ([9], [9]), ([1, 10, 6], [1, 10]), ([0, 1, 2, 3, 4, 5, 6, 7, 8, 9, 10, 11], []), ([12, 11, 11, 0, 1, 2, 3, 4, 5, 6, 7, 8, 9, 10, 11], [11, 12])])
def impl_Files_cloned.B5 : List Nat := [0, 1, 0, 4, 0, 16, 48, 0, 128, 508, 1020, 2047, 4095, 8191]
theorem impl_Files_cloned.tab5 : rtab .any (opsOf Tryd.f70 5) = impl_Files_cloned.T5 := by kernel_rfl
theorem impl_Files_cloned.bits5 : waitsOk impl_Files_cloned.T5.2 impl_Files_cloned.B5 = true := by kernel_rfl
set_option maxHeartbeats 8000000 in
set_option maxRecDepth 100000 in
theorem impl_Files_cloned.calls (k : Nat) (a0_0 : Int) (A0_1 : Option Addr) (c0_1 : Nat) (l0_1 : List (S53)) (r1 : Int) (r2 : List (S53)) (w : World) (hr0_1 : Kd.C k53 w A0_1 l0_1.length l0_1) (hc0_1 : l0_1.length ≤ c0_1) (h : impl_Files_cloned.f k a0_0 l0_1 = some (r1, r2)) :
 Calls Tryd.prog 70 #[.agg #[.int .i64 a0_0, .slice A0_1 l0_1.length c0_1]] w fun e w' => ∃ v1_ : Value, e = .returned (.agg #[.int .i64 r1, v1_]) ∧ Kd.S k53 53 w' w.heap.size (fun _ => True) v1_ r2 ∧ Below w.heap.size w w' := by
 have hu29 := Tryd.underlying29
 have hu53 := Tryd.underlying53
 have HR0_1 := aM hr0_1
 have HC0_1 := aM hc0_1
 clear hr0_1 hc0_1
 have HB := aM (Below.refl w.heap.size w)
 have H : (impl_Files_cloned.l0 k l0_1 (l0_1.length : Int) 0 a0_0 ([] : List (S53))) = some (r1, r2) := h
 clear h
 have H' := aM H
 clear H
 go_enter Tryd.func70, Tryd.ntmps70
 go_wp2_with (first | ((with_reducible refine gate_dst (N := 1) rfl ?_); refine bX 1 29 #[.int .i64 a0_0, .slice A0_1 l0_1.length c0_1] ?_; intro gb101 hg w2 hbox hb; have _ := aM (below_step hbZ hb); have _ := aM hbox; have _ := szZ hg; have _ := szZ hg; clear HB; rename_i HB BK101 GW101 GE101; clear hb hbox hg) | ((with_reducible refine gate_dst (N := 2) rfl ?_); refine bX 2 29 #[.int .i64 0, .slice none 0 0] ?_; intro gb102 hg w3 hbox hb; have _ := bB gb101 hb; have _ := aM (below_step hbZ hb); have _ := aM hbox; have _ := szZ hg; have _ := szZ hg; have ⟨_, _⟩ := nbB gb101 hg; clear BK101 HB; rename_i BK101 HB BK102 GW102 GE102 NB101_102 NB102_101; clear hb hbox hg; have hnb4 := NB101_102.out; have hnc4 := NB102_101.out; have hz5 := cellsZ2 BK101.out) | ((with_reducible refine gate_dst (N := 3) rfl ?_); refine bX 3 29 #[.int .i64 0, .slice none 0 0] ?_; intro gb103 hg w6 hbox hb; have _ := bB gb101 hb; have _ := bB gb102 hb; have _ := aM (below_step hbZ hb); have _ := aM hbox; have _ := szZ hg; have _ := szZ hg; have ⟨_, _⟩ := nbB gb101 hg; have ⟨_, _⟩ := nbB gb102 hg; clear BK101 BK102 HB; rename_i BK101 BK102 HB BK103 GW103 GE103 NB101_103 NB103_101 NB102_103 NB103_102; clear hb hbox hg; have hnb7 := NB103_101.out; have hnc7 := NB101_103.out; have hnb8 := NB103_102.out; have hnc8 := NB102_103.out; have hz9 := cellsZ2 BK103.out; have hz10 := cellsZ2 BK101.out))
 go_loopg [12] k (fun kq v12 w' => ∃ (x12_1 : Int) (x104001_1 : List (S53)) (u104001 : Value), v12 = .int .i64 x12_1 ∧ Aside0 (impl_Files_cloned.l0 kq l0_1 (l0_1.length : Int) x12_1 a0_0 x104001_1 = some (r1, r2)) ∧ Aside0 (kq ≤ k) ∧ Aside0 (Kd.S k53 53 w' w.heap.size (fun _ => True) u104001 x104001_1) ∧ Aside0 (w'.heap[gb101]? = some (.cells #[.int .i64 a0_0, (.slice A0_1 l0_1.length c0_1)] 29 (0, 0))) ∧ Aside0 (w'.heap[gb102]? = some (.cells #[.int .i64 0, (.slice none 0 0)] 29 (0, 0))) ∧ Aside0 (w'.heap[gb103]? = some (.cells #[.int .i64 a0_0, u104001] 29 (0, 0))) ∧ Aside0 (Below w.heap.size w w'))
 case atStart => exact ⟨(0), (([] : List (S53))), (.slice none 0 0), z4458, H', ⟨Nat.le_refl _⟩, ⟨z2bfb⟩, ⟨bkZ⟩, ⟨bkZ⟩, ⟨bkZ⟩, ⟨zcb41⟩⟩
 case round =>
  clear H'
  (try clear hz10); (try clear hz5); (try clear hz9)
  obtain ⟨x12_1, x104001_1, u104001, rfl, HA, HK1, HO_104001, BK101, BK102, BK103, HB⟩ := hrel
  cases gk with
  | zero => exact absurd HA.out (by simp [impl_Files_cloned.l0])
  | succ k1 =>
   have H := HA.out
   clear HA
   simp only [impl_Files_cloned.l0] at H
   by_cases c11 : x12_1 < (l0_1.length : Int)
   · rw [if_pos c11] at H
     have c11b0 := dL c11
     clear c11
     obtain ⟨c12b0, H⟩ := sE H
     obtain ⟨c13b0, H⟩ := sL H
     obtain ⟨t106, A14, H⟩ := bS H; try dsimp only at H
     obtain ⟨LMc15, H⟩ := sM H
     obtain ⟨y109, hy109⟩ : ∃ y_ : List (S53), y_ = (x104001_1 ++ [(⟨(rd_T53 l0_1 x12_1).f0, t106, (rd_T53 l0_1 x12_1).f2⟩ : S53)]) := ⟨_, rfl⟩
     first | (replace H := bindS H; rw [← hy109] at H; try dsimp only at H) | rw [← hy109] at H
     have Ny109 := aM hy109
     clear hy109
     have H' := aM H
     clear H
     have p104 : 0 ≤ (x12_1 : Int) := of_decide_eq_true z1200
     have q104 : x12_1 < (l0_1.length : Int) := of_decide_eq_true z1200
     obtain ⟨ad104, A104_1, c104_1, e104, hx104_0, hx104_1, hx104_2, hl104_1, hi104_1⟩ := at_T53 HR0_1.out x12_1 p104 q104
     cases e104
     have TW104_1 := aM hx104_1
     replace hx104_0 := (HB.out.cell (World.block_lt_of_cell? w _ hx104_0)).trans hx104_0
     replace hx104_1 := (HB.out.cell (World.block_lt_of_cell? w _ hx104_1)).trans hx104_1
     replace hx104_2 := (HB.out.cell (World.block_lt_of_cell? w _ hx104_2)).trans hx104_2
     have HR104_1 := aM hi104_1
     have HC104_1 := aM hl104_1
     clear hi104_1 hl104_1
     replace p104 := eq_true p104
     replace q104 := eq_true q104
     try go_wp2_with (first | ((with_reducible refine gate_dst (N := 5) rfl ?_); refine bX 5 53 #[.string (⟨#[]⟩ : ByteArray), .slice none 0 0, .int .i64 0] ?_; intro gb105 hg w16 hbox hb; have _ := aM (Kd.S_below (Kd.S_elderB (by (with_reducible repeat (first | apply Kd.S_alloc | apply Kd.S_drewN | apply Kd.S_drew)); exact HO_104001.out) gb105 (Nat.le_of_eq hg.symm)) hb); have _ := bB gb101 hb; have _ := bB gb102 hb; have _ := bB gb103 hb; have _ := aM (below_step hbZ hb); have _ := aM hbox; have _ := szZ hg; have _ := szZ hg; have ⟨_, _⟩ := nbB gb101 hg; have ⟨_, _⟩ := nbB gb102 hg; have ⟨_, _⟩ := nbB gb103 hg; clear HO_104001 BK101 BK102 BK103 HB; rename_i HO_104001 BK101 BK102 BK103 HB BK105 GW105 GE105 NB101_105 NB105_101 NB102_105 NB105_102 NB103_105 NB105_103; clear hb hbox hg; have hnb17 := NB105_101.out; have hnc17 := NB101_105.out; have hnb18 := NB105_102.out; have hnc18 := NB102_105.out; have hnb19 := NB105_103.out; have hnc19 := NB103_105.out; have hz20 := cellsZ3 BK105.out))
     have n0_ : Aside0 (Kd.S k53 53 (((w16.setCell ⟨gb105, 0, none⟩ (.string ((rd_T53 l0_1 x12_1).f0))).setCell ⟨gb105, 1, none⟩ (.slice A104_1 ((rd_T53 l0_1 x12_1).f1).length c104_1)).setCell ⟨gb105, 2, none⟩ (.int .i64 ((rd_T53 l0_1 x12_1).f2))) w.heap.size (fun k_ => k_ ≠ gb105) u104001 x104001_1) := ⟨by (with_reducible repeat (first | apply Kd.S_alloc | apply Kd.S_drewN | apply Kd.S_drew)); exact Kd.S_mono (Kd.S_far (p := ⟨gb105, 2, none⟩) (Kd.S_far (p := ⟨gb105, 1, none⟩) (Kd.S_far (p := ⟨gb105, 0, none⟩) (Kd.S_mono HO_104001.out (fun k_ hk => (⟨hk, hk.2⟩ : _ ∧ k_ ≠ gb105))) (fun _ hk => hk.2) (.string ((rd_T53 l0_1 x12_1).f0))) (fun _ hk => hk.2) (.slice A104_1 ((rd_T53 l0_1 x12_1).f1).length c104_1)) (fun _ hk => hk.2) (.int .i64 ((rd_T53 l0_1 x12_1).f2))) (fun _ hk => hk.1.2)⟩
     have n1_ : Aside0 ((((w16.setCell ⟨gb105, 0, none⟩ (.string ((rd_T53 l0_1 x12_1).f0))).setCell ⟨gb105, 1, none⟩ (.slice A104_1 ((rd_T53 l0_1 x12_1).f1).length c104_1)).setCell ⟨gb105, 2, none⟩ (.int .i64 ((rd_T53 l0_1 x12_1).f2))).heap[gb101]? = some (.cells #[.int .i64 a0_0, .slice (some ad104) l0_1.length c0_1] 29 (0, 0))) := ⟨bkZ⟩
     have n2_ : Aside0 ((((w16.setCell ⟨gb105, 0, none⟩ (.string ((rd_T53 l0_1 x12_1).f0))).setCell ⟨gb105, 1, none⟩ (.slice A104_1 ((rd_T53 l0_1 x12_1).f1).length c104_1)).setCell ⟨gb105, 2, none⟩ (.int .i64 ((rd_T53 l0_1 x12_1).f2))).heap[gb102]? = some (.cells #[.int .i64 0, .slice none 0 0] 29 (0, 0))) := ⟨bkZ⟩
     have n3_ : Aside0 ((((w16.setCell ⟨gb105, 0, none⟩ (.string ((rd_T53 l0_1 x12_1).f0))).setCell ⟨gb105, 1, none⟩ (.slice A104_1 ((rd_T53 l0_1 x12_1).f1).length c104_1)).setCell ⟨gb105, 2, none⟩ (.int .i64 ((rd_T53 l0_1 x12_1).f2))).heap[gb103]? = some (.cells #[.int .i64 a0_0, u104001] 29 (0, 0))) := ⟨bkZ⟩
     have n4_ : Aside0 ((((w16.setCell ⟨gb105, 0, none⟩ (.string ((rd_T53 l0_1 x12_1).f0))).setCell ⟨gb105, 1, none⟩ (.slice A104_1 ((rd_T53 l0_1 x12_1).f1).length c104_1)).setCell ⟨gb105, 2, none⟩ (.int .i64 ((rd_T53 l0_1 x12_1).f2))).heap[gb105]? = some (.cells #[.string ((rd_T53 l0_1 x12_1).f0), .slice A104_1 ((rd_T53 l0_1 x12_1).f1).length c104_1, .int .i64 ((rd_T53 l0_1 x12_1).f2)] 53 (0, 0))) := ⟨bkZ⟩
     have n5_ : Aside0 (Below w.heap.size w (((w16.setCell ⟨gb105, 0, none⟩ (.string ((rd_T53 l0_1 x12_1).f0))).setCell ⟨gb105, 1, none⟩ (.slice A104_1 ((rd_T53 l0_1 x12_1).f1).length c104_1)).setCell ⟨gb105, 2, none⟩ (.int .i64 ((rd_T53 l0_1 x12_1).f2)))) := ⟨zcb41⟩
     (try clear HO_104001); (try clear BK101); (try clear BK102); (try clear BK103); (try clear BK105); (try clear HB)
     generalize (((w16.setCell ⟨gb105, 0, none⟩ (.string ((rd_T53 l0_1 x12_1).f0))).setCell ⟨gb105, 1, none⟩ (.slice A104_1 ((rd_T53 l0_1 x12_1).f1).length c104_1)).setCell ⟨gb105, 2, none⟩ (.int .i64 ((rd_T53 l0_1 x12_1).f2))) = w21 at n0_ n1_ n2_ n3_ n4_ n5_ ⊢
     have HO_104001 := n0_
     have BK101 := n1_
     have BK102 := n2_
     have BK103 := n3_
     have BK105 := n4_
     have HB := n5_
     clear n0_ n1_ n2_ n3_ n4_ n5_
     have _ := aM (Kd.S_drew HO_104001.out)
     have _ := aM (blk_drew BK101.out)
     have _ := aM (blk_drew BK102.out)
     have _ := aM (blk_drew BK103.out)
     have _ := aM (blk_drew BK105.out)
     have _ := aM (below_drew1 HB.out)
     clear HO_104001
     clear BK101
     clear BK102
     clear BK103
     clear BK105
     clear HB
     rename_i HO_104001 BK101 BK102 BK103 BK105 HB
     refine sA 14 impl_Files_cloned.tab5 impl_Files_cloned.bits5 (fun w' => w'.cell? ⟨gb103, 0, none⟩ = some (.int .i64 a0_0) ∧ w'.cell? ⟨gb103, 1, none⟩ = some (u104001) ∧ w'.cell? ⟨gb105, 0, none⟩ = some (.string ((rd_T53 l0_1 x12_1).f0)) ∧ w'.cell? ⟨gb105, 1, none⟩ = some (.slice A104_1 ((rd_T53 l0_1 x12_1).f1).length c104_1) ∧ w'.cell? ⟨gb105, 2, none⟩ = some (.int .i64 ((rd_T53 l0_1 x12_1).f2))) [13] (fun hHeld HT_ HW_ => ?_)
     generalize w21.drew = w22 at HO_104001 BK101 BK102 BK103 BK105 HB hHeld ⊢
     refine pA 0 16 HT_ ?_; refine pA 2 18 HT_ ?_; refine pA 4 20 HT_ ?_; refine pA 7 23 HT_ ?_; refine tA 1 17 HT_ HW_ hHeld ?_; refine tA 3 19 HT_ HW_ hHeld ?_; refine tA 5 21 HT_ HW_ hHeld ?_; refine tA 8 24 HT_ HW_ hHeld ?_; refine oA 6 22 HT_ (fun K hK => ?_)
     refine goes_ Tryd.func78 (by kernel_rfl) rfl #[.slice A104_1 ((rd_T53 l0_1 x12_1).f1).length c104_1] (by rfl) rfl rfl zee81 ?_
     with_reducible refine (slices_Clone_byte_byte.calls _ _ ((rd_T53 l0_1 x12_1).f1) t106 _ ?side1 ?side2 A14.out).mono ?_
     (case side1 => exact (cZ (Kd.C_below HR104_1.out HB.out)))
     (case side2 => exact HC104_1.out)
     rintro e w23 ⟨v107, rfl, ho0, hb⟩
     refine ⟨_, rfl, ?_⟩
     have _ := aM (Kd.S_elder' (by (with_reducible repeat (first | apply Kd.S_alloc | apply Kd.S_drewN | apply Kd.S_drew)); exact HO_104001.out) (Kd.R_base ho0) hb)
     have _ := aM (Kd.R_lower ho0 (below_size hbZ))
     have _ := bB gb101 hb
     have _ := bB gb102 hb
     have _ := bB gb103 hb
     have _ := bB gb105 hb
     have _ := aM (below_step hbZ hb)
     clear HO_104001
     clear BK101
     clear BK102
     clear BK103
     clear BK105
     clear HB
     rename_i HO_104001 HO108 BK101 BK102 BK103 BK105 HB
     (try clear hb); (try clear hk); (try clear ho0)
     obtain ⟨Ao24, co24, eo24⟩ := Kd.R_slice HO108.out
     (first | subst eo24 | (injection eo24 with f1_ f2_ f3_; have f4_ := f1_.symm; have f5_ := f3_.symm; clear f1_ f2_ f3_; subst f4_; subst f5_))
     refine hK.out _ _ sZ (fun hHeld => ?_)
     clear hK K
     refine nA 22 ?_; refine pA 9 25 HT_ ?_; refine oA 10 26 HT_ (fun K hK => ?_)
     refine value_ (w1 := ?_) (v := ?_) (by rfl) rfl ?_ ?_
     rotate_left 2
     · go_simp
       constructor
       · rfl
       · rfl
     refine hK.out _ _ ⟨(blk_cell (blk_alloc BK103.out _) 0).trans rfl, (blk_cell (blk_alloc BK103.out _) 1).trans rfl, (blk_cell (blk_alloc BK105.out _) 0).trans rfl, (blk_cell (blk_alloc BK105.out _) 1).trans rfl, (blk_cell (blk_alloc BK105.out _) 2).trans rfl⟩ (fun hHeld => ?_)
     clear hK K
     refine nA 26 ?_; refine oA 11 27 HT_ (fun K hK => ?_)
     refine Kd.S_append_step k53 (w0 := w) w.heap.size (by rfl) (.tmp 17) (.tmp 26) 27 53 (.agg #[(.string ⟨#[]⟩), (.slice none 0 0), (.int .i64 0)]) 48 rfl Tryd.underlying27 info53 rfl (by decide) (by omega) u104001 x104001_1 (⟨(rd_T53 l0_1 x12_1).f0, t106, (rd_T53 l0_1 x12_1).f2⟩ : S53) [.string ((rd_T53 l0_1 x12_1).f0), .slice Ao24 t106.length co24, .int .i64 ((rd_T53 l0_1 x12_1).f2)] (fun k_ => k_ ≠ gb105) (fun k_ => some k_ = (.slice Ao24 t106.length co24 : Value).ownBlock) rfl rfl ?aP (fun k_ hk_ => ((Kd.R_mono (ok' := fun k_ => ((fun k_ => k_ ≠ gb105)) k_ ∧ some k_ ≠ (u104001 : Value).ownBlock) (Kd.R_types (Kd.R_apart' (HO108.out) (Kd.S_typed HO_104001.out) (by decide)) BK105.out (by decide)) (fun k_ hk => ⟨hk.2, hk.1.2⟩))).1 k_ hk_.symm) ?aF ?aO ?aB ?aS ?aL ?_
     (case aP => exact k53_mkM _ _ _ (⟨(rd_T53 l0_1 x12_1).f0, t106, (rd_T53 l0_1 x12_1).f2⟩ : S53) (Kd.R_mono (Kd.R_tight rfl (Kd.R_mono (ok' := fun k_ => ((fun k_ => k_ ≠ gb105)) k_ ∧ some k_ ≠ (u104001 : Value).ownBlock) (Kd.R_types (Kd.R_apart' (HO108.out) (Kd.S_typed HO_104001.out) (by decide)) BK105.out (by decide)) (fun k_ hk => ⟨hk.2, hk.1.2⟩))) (fun _ h_ => h_)))
     (case aB => exact hbZ)
     (case aF => exact (fun k_ hk => Kd.freshB (g := gb105) bkZ k_ hk))
     (case aO => exact (by (with_reducible repeat (first | apply Kd.S_alloc | apply Kd.S_drewN | apply Kd.S_drew)); exact Kd.S_mono HO_104001.out (fun k_ hk => ⟨hk.1, fun e_ => hk.2 e_⟩)))
     (case aS => exact (below_size hbZ))
     (case aL => have := LMc15.out; omega)
     intro v110 w25 ho hb hg hat
     rw [← Ny109.out] at ho
     have _ := aM (blk_grown (g := gb101) bkZ hg (Kd.S_ne HO_104001.out BK101.out (by decide)))
     have _ := aM (blk_grown (g := gb102) bkZ hg (Kd.S_ne HO_104001.out BK102.out (by decide)))
     have _ := aM (blk_grown (g := gb103) bkZ hg (Kd.S_ne HO_104001.out BK103.out (by decide)))
     have _ := aM (blk_grown (g := gb105) bkZ hg (Kd.S_away HO_104001.out (fun _ hk => hk.1)))
     have _ := aM hb
     have _ := aM ho
     clear BK101
     clear BK102
     clear BK103
     clear BK105
     clear HB
     clear HO_104001
     clear HO108
     rename_i BK101 BK102 BK103 BK105 HB HO111
     clear ho hb hg hat
     obtain ⟨Ao26, co26, eo26⟩ := Kd.S_slice HO111.out
     (first | subst eo26 | (injection eo26 with f1_ f2_ f3_; have f4_ := f1_.symm; have f5_ := f3_.symm; clear f1_ f2_ f3_; subst f4_; subst f5_))
     refine hK.out _ _ sZ (fun hHeld => ?_)
     clear hK K
     refine nA 27 ?_; refine pA 12 28 HT_ ?_
     refine last_ (i := 13) (N := none) #[true, true, true, true, true, true, true, true, true, true, true, true, true, true] rfl rfl (one_of HT_.out (by kernel_rfl)) (by decide) (fun K hK => ?_)
     have hs27 : w25.cell? ⟨gb103, 1, none⟩ = some (u104001) := (blk_cell BK103.out 1).trans rfl
     have hfs27 := blk_frozen BK103.out 1
     have hns27_0 := NB101_103.out
     have hns27_1 := NB102_103.out
     have hns27_3 := NB105_103.out
     have hms27_0 := NB103_101.out
     have hms27_1 := NB103_102.out
     have hms27_3 := NB103_105.out
     refine skip_ (w1 := ?_) (by rfl) rfl ?_ ?_
     rotate_left
     · go_simp
       rfl
     refine hK.out _ _ ?_
     clear hK K
     refine done_ (done_of HT_.out (by kernel_rfl)) ?_
     try go_wp2
     go_roundg k1
     case measure => have := HK1.out; omega
     case rel => exact ⟨(wrap64 (x12_1 + 1)), (y109), (.slice Ao26 y109.length co26), z4458, H', ⟨zfb39⟩, ⟨by (with_reducible repeat (first | apply Kd.S_alloc | apply Kd.S_drewN | apply Kd.S_drew)); exact Kd.S_mono (Kd.S_far (p := ⟨gb103, 1, none⟩) (Kd.S_types HO111.out BK103.out (by decide)) (fun _ hk => hk.2) (.slice Ao26 y109.length co26)) (fun _ hk => trivial)⟩, ⟨bkZ⟩, ⟨bkZ⟩, ⟨bkZ⟩, ⟨zcb41⟩⟩
   · rw [if_neg c11] at H
     have c11b0 := nL c11
     clear c11
     simp only [Option.some.injEq, Prod.mk.injEq] at H
     obtain ⟨rfl, rfl⟩ := H
     have hnb28 := NB103_101.out
     have hnc28 := NB101_103.out
     have hnb29 := NB103_102.out
     have hnc29 := NB102_103.out
     have hz30 := cellsZ2 BK103.out
     have hnb31 := NB102_101.out
     have hnc31 := NB101_102.out
     have hz32 := cellsZ2 BK102.out
     obtain ⟨Ao33, co33, eo33⟩ := Kd.S_slice HO_104001.out
     subst eo33
     go_wp2
     refine bodyPost_ret (results_cell_row rfl _ _ gb102 29 #[.int .i64 a0_0, .slice Ao33 x104001_1.length co33] (0, 0) _ rfl bkZ Tryd.underlying29 rfl (by kernel_rfl)) rfl ?_
     exact ⟨_, z674d, by (with_reducible repeat (first | apply Kd.S_alloc | apply Kd.S_drewN | apply Kd.S_drew)); exact Kd.S_mono (Kd.S_far (p := ⟨gb102, 1, none⟩) (Kd.S_far (p := ⟨gb102, 0, none⟩) (Kd.S_types HO_104001.out BK102.out (by decide)) (fun _ hk => hk.2) (.int .i64 a0_0)) (fun _ hk => hk.2) (.slice Ao33 x104001_1.length co33)) (fun _ hk => trivial), zcb41⟩

end Go.Proofs.YtmlclmbplbbbhaaDoor.P

-- written by a program of this session's (wip/pp)
namespace Go.Proofs.YtmlclmbplbbbhaaDoor.P
open Go.RowKit Go.Proofs.YtmlclmbplbbbhaaDoorW.PrintWords Go.Proofs.YtmlclmbplbbbhaaDoorW.PrintLast Go.Proofs.YtmlclmbplbbbhaaDoorW.PrintMore
attribute [local go_sem] max2_int min2_int max_two min_two max_three min_three max_four min_four str_geq str_gtr str_leq   -- for this text's walks alone
set_option linter.unusedVariables false
set_option linter.unusedSimpArgs false

/-! ### impl_changed_1: function 69 -/
def impl_changed_1.f (a0 : ByteArray) : Option (Bool) := (impl_isFileName.f a0).bind fun t101 => (some (!t101))
set_option maxHeartbeats 8000000 in
set_option maxRecDepth 100000 in
theorem impl_changed_1.calls (a0 : ByteArray) (r : Bool) (w : World) (h : impl_changed_1.f a0 = some r) :
 Calls Tryd.prog 69 #[.string a0] w fun e w' => e = .returned (.bool r) ∧ Below w.heap.size w w' := by
 have HB := aM (Below.refl w.heap.size w)
 have H : ((impl_isFileName.f a0).bind fun t101 => (some (!t101))) = some r := h
 clear h
 obtain ⟨t101, A2, H⟩ := bS H; try dsimp only at H
 obtain rfl := Option.some.inj H
 go_enter Tryd.func69, Tryd.ntmps69
 go_wp2_with (first | ((with_reducible refine gate_callee (f := 56) rfl ?_); refine gL 4 Tryd.func56 #[.string a0] ?_; (with_reducible refine (impl_isFileName.calls a0 t101 _ A2.out).mono ?_); rintro e w3 ⟨rfl, hb⟩; refine ⟨_, rfl, ?_⟩; have _ := aM (below_step hbZ hb); clear HB; rename_i HB; (try clear hb)))
 go_ret
 exact ⟨z674d, z5acd⟩

end Go.Proofs.YtmlclmbplbbbhaaDoor.P

-- written by a program of this session's (wip/pp)
namespace Go.Proofs.YtmlclmbplbbbhaaDoor.P
open Go.RowKit Go.Proofs.YtmlclmbplbbbhaaDoorW.PrintWords Go.Proofs.YtmlclmbplbbbhaaDoorW.PrintLast Go.Proofs.YtmlclmbplbbbhaaDoorW.PrintMore
attribute [local go_sem] max2_int min2_int max_two min_two max_three min_three max_four min_four str_geq str_gtr str_leq   -- for this text's walks alone
set_option linter.unusedVariables false
set_option linter.unusedSimpArgs false

/-! ### slices_IndexFunc_string_string_with_impl_changed_1: function 10090069 -/
def slices_IndexFunc_string_string_with_impl_changed_1.l0 : Nat → List ByteArray → Int → Int → Option (Int)
 | 0, _, _, _ => none
 | k + 1, x0, x7, x8 => if x8 < x7 then (if 0 ≤ x8 then (if x8 < (x0.length : Int) then ((impl_changed_1.f (rdOf ByteArray.empty x0 x8)).bind fun t102 => (if t102 = true then (some x8) else (slices_IndexFunc_string_string_with_impl_changed_1.l0 k x0 x7 (wrap64 (x8 + 1))))) else (none)) else (none)) else (some (-1))
def slices_IndexFunc_string_string_with_impl_changed_1.f (k : Nat) (l0 : List ByteArray)  : Option (Int) := slices_IndexFunc_string_string_with_impl_changed_1.l0 k l0 (l0.length : Int) 0
theorem slices_IndexFunc_string_string_with_impl_changed_1.mono_l : ∀ k, (∀ y0 y1 y2, LeO (slices_IndexFunc_string_string_with_impl_changed_1.l0 k y0 y1 y2) (slices_IndexFunc_string_string_with_impl_changed_1.l0 (k + 1) y0 y1 y2))
 | 0 => fun _ _ _ r h => by simp [slices_IndexFunc_string_string_with_impl_changed_1.l0] at h
 | k + 1 => by
  have ih0 := slices_IndexFunc_string_string_with_impl_changed_1.mono_l k
  · intro y0 y1 y2
    unfold slices_IndexFunc_string_string_with_impl_changed_1.l0
    exact moZ
theorem slices_IndexFunc_string_string_with_impl_changed_1.mono : ∀ a0 k, LeO (slices_IndexFunc_string_string_with_impl_changed_1.f k a0) (slices_IndexFunc_string_string_with_impl_changed_1.f (k + 1) a0) := by
 intro a0 k
 have ih0 := slices_IndexFunc_string_string_with_impl_changed_1.mono_l k
 unfold slices_IndexFunc_string_string_with_impl_changed_1.f
 exact moZ
set_option maxHeartbeats 8000000 in
set_option maxRecDepth 100000 in
theorem slices_IndexFunc_string_string_with_impl_changed_1.calls (k : Nat) (A0 : Option Addr) (c0 : Nat) (l0 : List ByteArray)  (r : Int) (w : World) (hr0 : Kd.C Kd.string w A0 l0.length l0) (hc0 : l0.length ≤ c0) (h : slices_IndexFunc_string_string_with_impl_changed_1.f k l0 = some r) :
 Calls Tryd.prog 90 #[.slice A0 l0.length c0, .func (.func 69) #[] #[]] w fun e w' => e = .returned (.int .i64 r) ∧ Below w.heap.size w w' := by
 have HR0 := aM hr0
 have HC0 := aM hc0
 clear hr0 hc0
 have HB := aM (Below.refl w.heap.size w)
 have H : (slices_IndexFunc_string_string_with_impl_changed_1.l0 k l0 (l0.length : Int) 0) = some r := h
 clear h
 have H' := aM H
 clear H
 go_enter Tryd.func90, Tryd.ntmps90
 go_wp2
 go_loopg [8] k (fun kq v8 w' => ∃ (x8_1 : Int), v8 = .int .i64 x8_1 ∧ Aside0 (slices_IndexFunc_string_string_with_impl_changed_1.l0 kq l0 (l0.length : Int) x8_1 = some r) ∧ Aside0 (kq ≤ k) ∧ Aside0 (Below w.heap.size w w'))
 case atStart => exact ⟨(0), z4458, H', ⟨Nat.le_refl _⟩, ⟨z5acd⟩⟩
 case round =>
  clear H'
  obtain ⟨x8_1, rfl, HA, HK1, HB⟩ := hrel
  cases gk with
  | zero => exact absurd HA.out (by simp [slices_IndexFunc_string_string_with_impl_changed_1.l0])
  | succ k1 =>
   have H := HA.out
   clear HA
   simp only [slices_IndexFunc_string_string_with_impl_changed_1.l0] at H
   by_cases c3 : x8_1 < (l0.length : Int)
   · rw [if_pos c3] at H
     have c3b0 := dL c3
     clear c3
     obtain ⟨c4b0, H⟩ := sE H
     obtain ⟨c5b0, H⟩ := sL H
     obtain ⟨t102, A6, H⟩ := bS H; try dsimp only at H
     by_cases c7 : t102 = true
     · subst c7
       rw [if_pos rfl] at H
       obtain rfl := Option.some.inj H
       have p101 : 0 ≤ (x8_1 : Int) := of_decide_eq_true z1200
       have q101 : x8_1 < (l0.length : Int) := of_decide_eq_true z1200
       obtain ⟨ad101, e101, hx101_0⟩ := Kd.at_string HR0.out x8_1 p101 q101
       cases e101
       replace hx101_0 := (HB.out.cell (World.block_lt_of_cell? w _ hx101_0)).trans hx101_0
       replace p101 := eq_true p101
       replace q101 := eq_true q101
       go_wp2_with (first | (go_at_call 69; (with_reducible refine (impl_changed_1.calls (rdOf ByteArray.empty l0 x8_1) true _ A6.out).mono ?_); rintro e w8 ⟨rfl, hb⟩; have _ := aM (below_step hbZ hb); clear HB; rename_i HB; (try clear hb)))
       go_ret
       exact ⟨z674d, z5acd⟩
     · replace c7 := Bool.eq_false_iff.mpr c7
       subst c7
       rw [if_neg (show ¬ (false = true) by decide)] at H
       have H' := aM H
       clear H
       have p101 : 0 ≤ (x8_1 : Int) := of_decide_eq_true z1200
       have q101 : x8_1 < (l0.length : Int) := of_decide_eq_true z1200
       obtain ⟨ad101, e101, hx101_0⟩ := Kd.at_string HR0.out x8_1 p101 q101
       cases e101
       replace hx101_0 := (HB.out.cell (World.block_lt_of_cell? w _ hx101_0)).trans hx101_0
       replace p101 := eq_true p101
       replace q101 := eq_true q101
       go_wp2_with (first | (go_at_call 69; (with_reducible refine (impl_changed_1.calls (rdOf ByteArray.empty l0 x8_1) false _ A6.out).mono ?_); rintro e w9 ⟨rfl, hb⟩; have _ := aM (below_step hbZ hb); clear HB; rename_i HB; (try clear hb)))
       go_roundg k1
       case measure => have := HK1.out; omega
       case rel => exact ⟨(wrap64 (x8_1 + 1)), z4458, H', ⟨zfb39⟩, ⟨z5acd⟩⟩
   · rw [if_neg c3] at H
     have c3b0 := nL c3
     clear c3
     obtain rfl := Option.some.inj H
     go_wp2
     go_ret
     exact ⟨z674d, z5acd⟩

end Go.Proofs.YtmlclmbplbbbhaaDoor.P

-- written by a program of this session's (wip/pp)
namespace Go.Proofs.YtmlclmbplbbbhaaDoor.P
open Go.RowKit Go.Proofs.YtmlclmbplbbbhaaDoorW.PrintWords Go.Proofs.YtmlclmbplbbbhaaDoorW.PrintLast Go.Proofs.YtmlclmbplbbbhaaDoorW.PrintMore
attribute [local go_sem] max2_int min2_int max_two min_two max_three min_three max_four min_four str_geq str_gtr str_leq   -- for this text's walks alone
set_option linter.unusedVariables false
set_option linter.unusedSimpArgs false

/-! ### slices_ContainsFunc_string_string_with_impl_changed_1: function 10068069 -/
def slices_ContainsFunc_string_string_with_impl_changed_1.f (k : Nat) (l0 : List ByteArray)  : Option (Bool) := (slices_IndexFunc_string_string_with_impl_changed_1.f k l0).bind fun t101 => (some (decide (t101 ≥ 0)))
theorem slices_ContainsFunc_string_string_with_impl_changed_1.mono : ∀ a0 k, LeO (slices_ContainsFunc_string_string_with_impl_changed_1.f k a0) (slices_ContainsFunc_string_string_with_impl_changed_1.f (k + 1) a0) := by
 intro a0 k
 have m0 := @slices_IndexFunc_string_string_with_impl_changed_1.mono
 unfold slices_ContainsFunc_string_string_with_impl_changed_1.f
 exact moZ
set_option maxHeartbeats 8000000 in
set_option maxRecDepth 100000 in
theorem slices_ContainsFunc_string_string_with_impl_changed_1.calls (k : Nat) (A0 : Option Addr) (c0 : Nat) (l0 : List ByteArray)  (r : Bool) (w : World) (hr0 : Kd.C Kd.string w A0 l0.length l0) (hc0 : l0.length ≤ c0) (h : slices_ContainsFunc_string_string_with_impl_changed_1.f k l0 = some r) :
 Calls Tryd.prog 68 #[.slice A0 l0.length c0, .func (.func 69) #[] #[]] w fun e w' => e = .returned (.bool r) ∧ Below w.heap.size w w' := by
 have HR0 := aM hr0
 have HC0 := aM hc0
 clear hr0 hc0
 have HB := aM (Below.refl w.heap.size w)
 have H : ((slices_IndexFunc_string_string_with_impl_changed_1.f k l0).bind fun t101 => (some (decide (t101 ≥ 0)))) = some r := h
 clear h
 obtain ⟨t101, A3, H⟩ := bS H; try dsimp only at H
 obtain rfl := Option.some.inj H
 go_enter Tryd.func68, Tryd.ntmps68
 go_wp2_with (first | ((with_reducible refine gate_callee (f := 90) rfl ?_); refine gL 7 Tryd.func90 #[.slice A0 l0.length c0, .func (.func 69) #[] #[]] ?_; (with_reducible refine (slices_IndexFunc_string_string_with_impl_changed_1.calls k _ _ l0  t101 _ ?side1 ?side2 A3.out).mono ?_); (case side1 => exact z4195); (case side2 => exact HC0.out); rintro e w4 ⟨rfl, hb⟩; refine ⟨_, rfl, ?_⟩; have _ := aM (below_step hbZ hb); clear HB; rename_i HB; (try clear hb)))
 go_ret
 exact ⟨z674d, z5acd⟩

end Go.Proofs.YtmlclmbplbbbhaaDoor.P

section
/- impl.changed: files behind something that is done to a copy; what is done is told by its own contract. -/
set_option linter.unusedVariables false
set_option linter.unusedSimpArgs false
namespace Go.Proofs.YtmlclmbplbbbhaaDoor.P
open Go Go.RowKit Go.Proofs.YtmlclmbplbbbhaaDoorW.PrintWords Go.Proofs.YtmlclmbplbbbhaaDoorW.PrintLast Go.Proofs.YtmlclmbplbbbhaaDoorW.PrintMore
/-- What impl.changed answers where g is what the function does to the copy: its code, the quota, the files. -/
def impl_changed.g (k : Nat) (q : Int) (l : List S53) (names : List ByteArray) (g : Int → List S53 → Option (Int × Int × List S53)) : Option (Int × List S53 × Int) :=
  (impl_GoodFiles.f k q l).bind fun t => if t = true then ((slices_ContainsFunc_string_string_with_impl_changed_1.f k names).bind fun s => if s = true then some (0, [], 1) else ((impl_Files_cloned.f k q l).bind fun c => (g c.1 c.2).bind fun d => some (d.2.1, d.2.2, d.1))) else some (0, [], 1)
set_option maxHeartbeats 4000000 in
set_option maxRecDepth 100000 in
theorem impl_changed.does (k : Nat) (q : Int) (A : Option Addr) (c : Nat) (l : List S53) (B : Option Addr) (cB : Nat) (names : List ByteArray) (fdo : Nat) (caps : Array Value) (g : Int → List S53 → Option (Int × Int × List S53)) (r1 : Int) (r2 : List S53) (r3 : Int) (w : World)
    (hC : Kd.C k53 w A l.length l) (hc : l.length ≤ c) (hN : Kd.C Kd.string w B names.length names) (hcN : names.length ≤ cB) (hcall : ∀ args w, (callFunc fdo args).run Tryd.prog w = .ok (.enter fdo args) w)
    (hdo : ∀ (W : World) (P : Nat → Prop) (b : Nat) (q1 : Int) (l1 : List S53) (d1 d2 : Int) (d3 : List S53), g q1 l1 = some (d1, d2, d3) → Below w.heap.size w W → FilesAt W w.heap.size P b q1 l1 → Calls Tryd.prog fdo (#[.pointer (some ⟨b, 0, none⟩)] ++ caps) W (FilesPost w W P b d1 d2 d3))
    (h : impl_changed.g k q l names g = some (r1, r2, r3)) :
    Calls Tryd.prog 39 #[.agg #[.int .i64 q, .slice A l.length c], .func (.func fdo) #[] caps, .slice B names.length cB] w fun e w' => ∃ v : Value, e = .returned (.tuple #[.agg #[.int .i64 r1, v], .int .i64 r3]) ∧ Kd.S k53 53 w' w.heap.size (fun _ => True) v r2 ∧ Below w.heap.size w w' := by
  have hu := Tryd.underlying29
  have HC := aM hC
  have HL := aM hc
  have HN := aM hN
  have HM := aM hcN
  have HDO := aM hdo
  have HB := aM (Below.refl w.heap.size w)
  clear hC hc hN hcN hdo
  obtain ⟨t, e1, h⟩ := Option.bind_eq_some_iff.1 h
  have E1 := aM e1
  clear e1
  cases t with
  | false =>
    simp only [Bool.false_eq_true, if_false, Option.some.injEq, Prod.mk.injEq] at h
    obtain ⟨rfl, rfl, rfl⟩ := h
    clear hcall HDO
    go_enter Tryd.func39, Tryd.ntmps39
    go_wp2_with (first | ((with_reducible refine gate_dst (N := 3) rfl ?_); refine bX 3 29 #[.int .i64 q, .slice A l.length c] ?_; intro b1 hg w1 hbox hb; have X1 := aM hbox; have H1 := aM (show w.heap.size ≤ b1 from by rw [hg]; exact Nat.le_refl _); replace HB := aM (below_after HB.out hb); clear hg hbox hb; have hz1 := cellsZ2 X1.out) | ((with_reducible refine gate_dst (N := 6) rfl ?_); refine bX 6 29 #[.int .i64 0, .slice none 0 0] ?_; intro b2 hg w2 hbox hb; have X2 := aM hbox; have H2 := aM (show w.heap.size ≤ b2 from by rw [hg]; exact HB.out.size); replace X1 := aM (blk_below X1.out hb); replace HB := aM (below_after HB.out hb); clear hz1 hg hbox hb; have hz1 := cellsZ2 X1.out; have hz2 := cellsZ2 X2.out) | ((with_reducible refine gate_callee (f := 28) rfl ?_); refine gL 11 Tryd.func28 #[.agg #[.int .i64 q, .slice A l.length c]] ?_; (with_reducible refine (impl_GoodFiles.calls k q _ _ l false _ (Kd.C_below HC.out HB.out) HL.out E1.out).mono ?_); rintro e w3 ⟨rfl, hb⟩; refine ⟨_, rfl, ?_⟩; replace X1 := aM (blk_below X1.out hb); replace X2 := aM (blk_below X2.out hb); replace HB := aM (below_after HB.out hb); clear hz1 hz2 hb; have hz2 := cellsZ2 X2.out))
    refine bodyPost_ret (results_ct rfl _ _ b2 29 #[.int .i64 0, .slice none 0 0] (0, 0) _ rfl bkZ Tryd.underlying29 rfl (by kernel_rfl)) rfl ?_
    exact ⟨_, rfl, Kd.S_nil _ _ _ _ _, below_set (below_set HB.out H2.out) H2.out⟩
  | true =>
    simp only [if_true] at h
    obtain ⟨s, e2, h⟩ := Option.bind_eq_some_iff.1 h
    have E2 := aM e2
    clear e2
    cases s with
    | true =>
      simp only [if_true, Option.some.injEq, Prod.mk.injEq] at h
      obtain ⟨rfl, rfl, rfl⟩ := h
      clear hcall HDO
      go_enter Tryd.func39, Tryd.ntmps39
      go_wp2_with (first | ((with_reducible refine gate_dst (N := 3) rfl ?_); refine bX 3 29 #[.int .i64 q, .slice A l.length c] ?_; intro b1 hg w1 hbox hb; have X1 := aM hbox; have H1 := aM (show w.heap.size ≤ b1 from by rw [hg]; exact Nat.le_refl _); replace HB := aM (below_after HB.out hb); clear hg hbox hb; have hz1 := cellsZ2 X1.out) | ((with_reducible refine gate_dst (N := 6) rfl ?_); refine bX 6 29 #[.int .i64 0, .slice none 0 0] ?_; intro b2 hg w2 hbox hb; have X2 := aM hbox; have H2 := aM (show w.heap.size ≤ b2 from by rw [hg]; exact HB.out.size); replace X1 := aM (blk_below X1.out hb); replace HB := aM (below_after HB.out hb); clear hz1 hg hbox hb; have hz1 := cellsZ2 X1.out; have hz2 := cellsZ2 X2.out) | ((with_reducible refine gate_callee (f := 28) rfl ?_); refine gL 11 Tryd.func28 #[.agg #[.int .i64 q, .slice A l.length c]] ?_; (with_reducible refine (impl_GoodFiles.calls k q _ _ l true _ (Kd.C_below HC.out HB.out) HL.out E1.out).mono ?_); rintro e w3 ⟨rfl, hb⟩; refine ⟨_, rfl, ?_⟩; replace X1 := aM (blk_below X1.out hb); replace X2 := aM (blk_below X2.out hb); replace HB := aM (below_after HB.out hb); clear hz1 hz2 hb; have hz2 := cellsZ2 X2.out) | (go_at_call 68; (with_reducible refine (slices_ContainsFunc_string_string_with_impl_changed_1.calls k _ _ names true _ (Kd.C_below HN.out HB.out) HM.out E2.out).mono ?_); rintro e w4 ⟨rfl, hb⟩; replace X1 := aM (blk_below X1.out hb); replace X2 := aM (blk_below X2.out hb); replace HB := aM (below_after HB.out hb); clear hz2 hb; have hz2 := cellsZ2 X2.out))
      refine bodyPost_ret (results_ct rfl _ _ b2 29 #[.int .i64 0, .slice none 0 0] (0, 0) _ rfl bkZ Tryd.underlying29 rfl (by kernel_rfl)) rfl ?_
      exact ⟨_, rfl, Kd.S_nil _ _ _ _ _, below_set (below_set HB.out H2.out) H2.out⟩
    | false =>
      simp only [Bool.false_eq_true, if_false] at h
      obtain ⟨⟨q1, l1⟩, e3, h⟩ := Option.bind_eq_some_iff.1 h
      have E3 := aM e3
      clear e3
      obtain ⟨⟨d1, d2, d3⟩, e4, h⟩ := Option.bind_eq_some_iff.1 h
      have E4 := aM e4
      clear e4
      simp only [Option.some.injEq, Prod.mk.injEq] at h
      obtain ⟨rfl, rfl, rfl⟩ := h
      go_enter Tryd.func39, Tryd.ntmps39
      go_wp2_with (first | ((with_reducible refine gate_dst (N := 3) rfl ?_); refine bX 3 29 #[.int .i64 q, .slice A l.length c] ?_; intro b1 hg w1 hbox hb; have X1 := aM hbox; have H1 := aM (show w.heap.size ≤ b1 from by rw [hg]; exact Nat.le_refl _); replace HB := aM (below_after HB.out hb); clear hg hbox hb; have hz1 := cellsZ2 X1.out) | ((with_reducible refine gate_dst (N := 6) rfl ?_); refine bX 6 29 #[.int .i64 0, .slice none 0 0] ?_; intro b2 hg w2 hbox hb; have X2 := aM hbox; have H2 := aM (show w.heap.size ≤ b2 from by rw [hg]; exact HB.out.size); replace X1 := aM (blk_below X1.out hb); replace HB := aM (below_after HB.out hb); clear hz1 hg hbox hb; have hz1 := cellsZ2 X1.out; have hz2 := cellsZ2 X2.out) | ((with_reducible refine gate_callee (f := 28) rfl ?_); refine gL 11 Tryd.func28 #[.agg #[.int .i64 q, .slice A l.length c]] ?_; (with_reducible refine (impl_GoodFiles.calls k q _ _ l true _ (Kd.C_below HC.out HB.out) HL.out E1.out).mono ?_); rintro e w3 ⟨rfl, hb⟩; refine ⟨_, rfl, ?_⟩; replace X1 := aM (blk_below X1.out hb); replace X2 := aM (blk_below X2.out hb); replace HB := aM (below_after HB.out hb); clear hz1 hz2 hb; have hz1 := cellsZ2 X1.out) | (go_at_call 68; (with_reducible refine (slices_ContainsFunc_string_string_with_impl_changed_1.calls k _ _ names false _ (Kd.C_below HN.out HB.out) HM.out E2.out).mono ?_); rintro e w4 ⟨rfl, hb⟩; replace X1 := aM (blk_below X1.out hb); replace X2 := aM (blk_below X2.out hb); replace HB := aM (below_after HB.out hb); clear hz1 hb; have hz1 := cellsZ2 X1.out) | ((with_reducible refine gate_callee (f := 70) rfl ?_); refine gL 19 Tryd.func70 #[.agg #[.int .i64 q, .slice A l.length c]] ?_; (with_reducible refine (impl_Files_cloned.calls k q _ _ l q1 l1 _ (Kd.C_below HC.out HB.out) HL.out E3.out).mono ?_); rintro e w5 ⟨v1, rfl, hs, hb⟩; refine ⟨_, rfl, ?_⟩; obtain ⟨A1, c1, rfl⟩ := Kd.S_slice hs; have HS := aM (Kd.S_lower hs HB.out.size); replace X2 := aM (blk_below X2.out hb); replace HB := aM (below_after HB.out hb); clear hz1 hb hs) | ((with_reducible refine gate_dst (N := 8) rfl ?_); refine bX 8 29 #[.int .i64 0, .slice none 0 0] ?_; intro b3 hg w6 hbox hb; have X3 := aM hbox; have H3 := aM (show w.heap.size ≤ b3 from by rw [hg]; exact HB.out.size); have H23 := aM (show b2 ≠ b3 from by rw [hg]; exact Nat.ne_of_lt (box_lt X2.out)); replace HS := aM (Kd.S_below HS.out hb); replace X2 := aM (blk_below X2.out hb); replace HB := aM (below_after HB.out hb); clear hg hbox hb; have hz3 := cellsZ2 X3.out))
      have HF := aM (show FilesAt ((w6.setCell ⟨b3, 0, none⟩ (.int .i64 q1)).setCell ⟨b3, 1, none⟩ (.slice A1 l1.length c1)) w.heap.size (fun k => (True ∧ k ≠ b3) ∧ k ≠ b2) b3 q1 l1 from ⟨_, blk_set (blk_set X3.out 0 _) 1 _, Kd.S_far (Kd.S_far (Kd.S_types (Kd.S_types HS.out X3.out (by decide)) X2.out (by decide)) (fun k hk => hk.1.2) _) (fun k hk => hk.1.2) _, fun hk => hk.1.2 rfl, H3.out⟩)
      have X2' := aM (show ((w6.setCell ⟨b3, 0, none⟩ (.int .i64 q1)).setCell ⟨b3, 1, none⟩ (.slice A1 l1.length c1)).heap[b2]? = some (.cells #[.int .i64 0, .slice none 0 0] 29 (0, 0)) from (Below.heap_setCell _ ⟨b3, 1, none⟩ _ _ H23.out).trans ((Below.heap_setCell _ ⟨b3, 0, none⟩ _ _ H23.out).trans X2.out))
      have HB' := aM (below_set (j := 1) (v := .slice A1 l1.length c1) (below_set (j := 0) (v := .int .i64 q1) HB.out H3.out) H3.out)
      refine (HDO.out _ _ b3 q1 l1 d1 d2 d3 E4.out HB'.out HF.out).mono ?_
      rintro e w7 ⟨he, ⟨P7, v7, hx7, hs7, hp7, hb7⟩, hB7, hk7⟩
      subst he
      obtain ⟨A7, c7, rfl⟩ := Kd.S_slice hs7
      have Y3 := aM hx7
      have Y2 := aM (blk_kept X2'.out hk7 (fun hk => by rcases hk with hk | hk; exact H23.out hk; exact hk.2 rfl))
      have HS7 := aM hs7
      have HB7 := aM hB7
      clear hx7 hs7 hp7 hb7 hB7 hk7 hz3 hcall
      have hz2 := cellsZ2 Y2.out
      have hz3 := cellsZ2 Y3.out
      go_wp2
      refine bodyPost_ret (results_ct rfl _ _ b2 29 #[.int .i64 d2, .slice A7 d3.length c7] (0, 0) _ rfl (blk_set (blk_set Y2.out 0 _) 1 _) Tryd.underlying29 rfl (by kernel_rfl)) rfl ?_
      exact ⟨_, rfl, Kd.S_mono (Kd.S_far (Kd.S_far (Kd.S_types HS7.out Y2.out (by decide)) (fun k hk => hk.2) _) (fun k hk => hk.2) _) (fun _ _ => trivial), below_set (below_set HB7.out H2.out) H2.out⟩
end Go.Proofs.YtmlclmbplbbbhaaDoor.P
end

section
/- A row's elements by their cells alone, and put together again. No conditions. -/
set_option linter.unusedVariables false
namespace Go.Proofs.YtmlclmbplbbbhaaDoor.P
open Go Go.RowKit Go.Proofs.YtmlclmbplbbbhaaDoorW.PrintWords Go.Proofs.YtmlclmbplbbbhaaDoorW.PrintLast Go.Proofs.YtmlclmbplbbbhaaDoorW.PrintMore
section
variable {α : Type} {d : Kd α} {e base : Nat} {ok okr : Nat → Prop} {w W : World} {v : Value} {xs : List α} {rows : List (List Value)}
theorem S_rows (h : Kd.S d e w base ok v xs) : ∃ (f : Nat → Nat) (rows : List (List Value)), rows.length = xs.length ∧ (Kd.raw d.sz).R e w base (fun k => some k = v.ownBlock) v rows ∧ (∀ k, v.ownBlock = some k → ok k) ∧
    ∀ (j : Nat) (x : α) (c : List Value), xs[j]? = some x → rows[j]? = some c → d.M w base (fun k => (ok k ∧ some k ≠ v.ownBlock) ∧ f k = j) x c := by
  obtain ⟨f, h0, inner, ho, hr⟩ := h
  rw [List.length_zipIdx] at ho
  obtain ⟨rs, hrs⟩ : ∃ rs, rs = (List.range xs.length).map fun j => (inner.drop (j * d.sz)).take d.sz := ⟨_, rfl⟩
  have hl : rs.length = xs.length := by rw [hrs]; simp
  have hget : ∀ j c, rs[j]? = some c → j < xs.length ∧ c = (inner.drop (j * d.sz)).take d.sz := by
    intro j c hj
    have hlt : j < xs.length := by have := (List.getElem?_eq_some_iff.1 hj).1; omega
    refine ⟨hlt, ?_⟩
    rw [hrs, List.getElem?_map, List.getElem?_range hlt] at hj
    simpa using hj.symm
  have hM : ∀ (j : Nat) (x : α), xs[j]? = some x → (Kd.tag f d).M w base (fun k => ok k ∧ some k ≠ v.ownBlock) (x, j) ((inner.drop (j * d.sz)).take d.sz) := fun j x hx => hr.2 j (x, j) (Kd.zip_at hx)
  refine ⟨f, rs, hl, ⟨fun k hk => hk.symm, inner, by rw [hl]; exact ho, by rw [hl]; exact ho.1, fun j c hj => ?_⟩, h0, fun j x c hx hc => ?_⟩
  · obtain ⟨hlt, rfl⟩ := hget j c hj
    have h1 := (Kd.tag f d).K_of_M (hM j _ (List.getElem?_eq_getElem hlt))
    exact ⟨rfl, (Kd.tag f d).K_len h1, (Kd.tag f d).K_one h1⟩
  · obtain ⟨_, rfl⟩ := hget j c hc
    exact hM j x hx
open Classical in
theorem S_of_rows (h0 : ∀ k, v.ownBlock = some k → ok k) (hl : rows.length = xs.length) (hR : (Kd.raw d.sz).R e w base okr v rows) (Pj : Nat → Nat → Prop)
    (hM : ∀ (j : Nat) (x : α) (c : List Value), xs[j]? = some x → rows[j]? = some c → d.M w base (Pj j) x c) (hd : ∀ i j k, Pj i k → Pj j k → i = j) (hok : ∀ j k, Pj j k → ok k ∧ some k ≠ v.ownBlock) : Kd.S d e w base ok v xs := by
  obtain ⟨_, inner, ho, hr⟩ := hR
  refine ⟨fun k => if h : ∃ j, Pj j k then h.choose else 0, h0, inner, by rw [List.length_zipIdx, ← hl]; exact ho, by rw [List.length_zipIdx, ← hl]; exact ho.1, fun j p hj => ?_⟩
  rw [List.getElem?_zipIdx, Nat.zero_add] at hj
  obtain ⟨x, hx, rfl⟩ := Option.map_eq_some_iff.1 hj
  have hlt : j < rows.length := by have := (List.getElem?_eq_some_iff.1 hx).1; omega
  have h1 := hr.2 j _ (List.getElem?_eq_getElem hlt)
  have h2 : (inner.drop (j * d.sz)).take d.sz = rows[j] := h1.1
  show d.M w base (fun k => (ok k ∧ some k ≠ v.ownBlock) ∧ (if h : ∃ j, Pj j k then h.choose else 0) = j) x ((inner.drop (j * d.sz)).take d.sz)
  rw [h2]
  refine d.M_mono (fun k hk => ⟨hok j k hk, ?_⟩) (hM j x _ hx (List.getElem?_eq_getElem hlt))
  have he : ∃ j, Pj j k := ⟨j, hk⟩
  rw [dif_pos he]
  exact hd _ _ k he.choose_spec hk
/-- A new row that holds some of another row's elements, in any order, each once. -/
theorem S_moved {f : Nat → Nat} {w1 w3 : World} {v3 : Value} {xs' : List α} {rows' : List (List Value)} (hb : Below w1.heap.size w1 w3) (hM : ∀ (j : Nat) (x : α) (c : List Value), xs[j]? = some x → rows[j]? = some c → d.M w1 base (fun k => (ok k ∧ some k ≠ v.ownBlock) ∧ f k = j) x c)
    (σ : Nat → Nat) (hσ : ∀ i j, σ i = σ j → i = j) (hx : ∀ (j : Nat) (x : α), xs'[j]? = some x → xs[σ j]? = some x) (hr : ∀ (j : Nat) (c : List Value), rows'[j]? = some c → rows[σ j]? = some c) (hl : rows'.length = xs'.length)
    (hR : (Kd.raw d.sz).R e w3 w1.heap.size okr v3 rows') (hb0 : base ≤ w1.heap.size) : Kd.S d e w3 base (fun k => ok k ∨ w1.heap.size ≤ k) v3 xs' := by
  have hnew : ∀ k, v3.ownBlock = some k → w1.heap.size ≤ k := Kd.R_base hR
  refine S_of_rows (fun k hk => .inr (hnew k hk)) hl (Kd.R_lower hR hb0) (fun j k => ((ok k ∧ some k ≠ v.ownBlock) ∧ f k = σ j) ∧ k < w1.heap.size) ?_ (fun i j k h1 h2 => hσ i j (h1.1.2.symm.trans h2.1.2)) (fun j k hk => ⟨.inl hk.1.1.1, fun he => by have := hnew k he.symm; omega⟩)
  intro j x c h1 h2
  have h3 := d.M_bound (hM (σ j) x c (hx j x h1) (hr j c h2))
  exact d.M_mono (fun k hk => ⟨hk.1, hk.2.2.1⟩) (d.M_move (fun k hk => hb.block k hk.2.2.1) h3)
/-- A new row that holds another row's elements and one more. -/
theorem S_inserted {f : Nat → Nat} {w1 w3 : World} {v3 : Value} {x : α} {cx : List Value} {Px : Nat → Prop} {n : Nat} (hb : Below w1.heap.size w1 w3) (hM : ∀ (j : Nat) (x : α) (c : List Value), xs[j]? = some x → rows[j]? = some c → d.M w1 base (fun k => (ok k ∧ some k ≠ v.ownBlock) ∧ f k = j) x c)
    (hx : d.M w1 base Px x cx) (hxP : ∀ k, Px k → ¬ ok k) (hn : n ≤ xs.length) (hl : rows.length = xs.length)
    (hR : (Kd.raw d.sz).R e w3 w1.heap.size okr v3 (rows.take n ++ [cx] ++ rows.drop n)) (hb0 : base ≤ w1.heap.size) : Kd.S d e w3 base (fun k => ok k ∨ Px k ∨ w1.heap.size ≤ k) v3 (xs.take n ++ [x] ++ xs.drop n) := by
  have hnew : ∀ k, v3.ownBlock = some k → w1.heap.size ≤ k := Kd.R_base hR
  have hlen : (xs.take n ++ [x] ++ xs.drop n).length = xs.length + 1 := by simp only [List.length_append, List.length_take, List.length_drop, List.length_singleton]; omega
  refine S_of_rows (fun k hk => .inr (.inr (hnew k hk))) (by simp only [List.length_append, List.length_take, List.length_drop, List.length_singleton]; omega) (Kd.R_lower hR hb0)
    (fun j k => (if j = n then Px k else (ok k ∧ some k ≠ v.ownBlock) ∧ f k = (if j < n then j else j - 1)) ∧ k < w1.heap.size) ?_ ?_ ?_
  · intro j y c h1 h2
    have old : ∀ i, xs[i]? = some y → rows[i]? = some c → d.M w3 base (fun k => ((ok k ∧ some k ≠ v.ownBlock) ∧ f k = i) ∧ k < w1.heap.size) y c := fun i q1 q2 => by
      have h3 := d.M_bound (hM i y c q1 q2)
      exact d.M_mono (fun k hk => ⟨hk.1, hk.2.2.1⟩) (d.M_move (fun k hk => hb.block k hk.2.2.1) h3)
    by_cases e1 : j = n
    · subst e1
      have h3 : y = x := by
        rw [List.append_assoc, List.getElem?_append_right (by rw [List.length_take]; omega), List.length_take, Nat.min_eq_left hn, Nat.sub_self] at h1
        simpa using h1.symm
      have h4 : c = cx := by
        rw [List.append_assoc, List.getElem?_append_right (by rw [List.length_take]; omega), List.length_take, Nat.min_eq_left (by omega), Nat.sub_self] at h2
        simpa using h2.symm
      subst h3; subst h4
      have h5 := d.M_bound hx
      exact d.M_mono (fun k hk => ⟨by rw [if_pos rfl]; exact hk.1, hk.2.2.1⟩) (d.M_move (fun k hk => hb.block k hk.2.2.1) h5)
    · by_cases e2 : j < n
      · rw [List.append_assoc, List.getElem?_append_left (by rw [List.length_take]; omega), List.getElem?_take, if_pos e2] at h1 h2
        exact d.M_mono (fun k hk => ⟨by rw [if_neg e1, if_pos e2]; exact hk.1, hk.2⟩) (old j h1 h2)
      · have q1 : xs[j - 1]? = some y := by
          rw [List.getElem?_append_right (by simp only [List.length_append, List.length_take, List.length_singleton]; omega), List.getElem?_drop] at h1
          rw [← h1]; congr 1; simp only [List.length_append, List.length_take, List.length_singleton]; omega
        have q2 : rows[j - 1]? = some c := by
          rw [List.getElem?_append_right (by simp only [List.length_append, List.length_take, List.length_singleton]; omega), List.getElem?_drop] at h2
          rw [← h2]; congr 1; simp only [List.length_append, List.length_take, List.length_singleton]; omega
        exact d.M_mono (fun k hk => ⟨by rw [if_neg e1, if_neg e2]; exact hk.1, hk.2⟩) (old (j - 1) q1 q2)
  · intro i j k h1 h2
    have a1 := h1.1
    have a2 := h2.1
    by_cases e1 : i = n
    · rw [if_pos e1] at a1
      by_cases e2 : j = n
      · omega
      · rw [if_neg e2] at a2; exact absurd a2.1.1 (hxP k a1)
    · rw [if_neg e1] at a1
      by_cases e2 : j = n
      · rw [if_pos e2] at a2; exact absurd a1.1.1 (hxP k a2)
      · rw [if_neg e2] at a2
        have h3 := a1.2.symm.trans a2.2
        split at h3 <;> split at h3 <;> omega
  · intro j k hk
    refine ⟨?_, fun he => by have := hnew k he.symm; have := hk.2; omega⟩
    have a := hk.1
    by_cases e1 : j = n
    · rw [if_pos e1] at a; exact .inr (.inl a)
    · rw [if_neg e1] at a; exact .inl a.1.1
theorem erase_ix {β : Type} (l : List β) (n j : Nat) (x : β) (h : (l.eraseIdx n)[j]? = some x) : l[if j < n then j else j + 1]? = some x := by
  rw [List.getElem?_eraseIdx] at h
  split <;> simp_all
theorem erase_rows {β : Type} (l : List β) (n : Nat) : l.take n ++ l.drop (n + 1) = l.eraseIdx n := (List.eraseIdx_eq_take_drop_succ l n).symm
theorem skip_inj (n : Nat) : ∀ i j : Nat, (if i < n then i else i + 1) = (if j < n then j else j + 1) → i = j := by
  intro i j h
  split at h <;> split at h <;> omega
theorem M_after {x : α} {c : List Value} (h : d.M w base ok x c) (hb : Below w.heap.size w W) : d.M W base ok x c := d.M_mono (fun k hk => hk.1) (d.M_move (fun k hk => hb.block k hk.2.2.1) (d.M_bound h))
theorem S_shape {A : Option Addr} {n c : Nat} (h : Kd.S d e w base ok (.slice A n c) xs) : (A = none ∧ n = 0 ∧ c = 0 ∧ xs = []) ∨ ∃ g, A = some ⟨g, 0, none⟩ := by
  have hn := (Kd.S_reads' h).1
  obtain ⟨inner, ho⟩ := Kd.S_own h
  rcases ho.2 with ⟨h2, h3⟩ | ⟨g', c', cur, hv', _⟩
  · injection h2 with ha hb hc
    subst ha; subst hb; subst hc
    exact .inl ⟨rfl, rfl, rfl, List.eq_nil_of_length_eq_zero hn.symm⟩
  · injection hv' with ha _ _
    exact .inr ⟨g', ha⟩
theorem R_form3 {α : Type} {d : Kd α} {e base : Nat} {ok : Nat → Prop} {w : World} {v : Value} {xs : List α} (h : d.R e w base ok v xs) : ∃ A n c, v = .slice A n c := by
  obtain ⟨A, c, h⟩ := Kd.R_slice h
  exact ⟨A, _, c, h⟩
theorem raw_take {A : Option Addr} {m n c : Nat} (hR : (Kd.raw d.sz).R e w base okr (.slice A m c) rows) (hn : n ≤ rows.length) : ReadsRow ((Kd.raw d.sz).K w) (Kd.raw d.sz).sz w A n (rows.take n) := by
  have h := Kd.C_take (Kd.R_reads' hR).2.2 hn
  rw [List.length_take, Nat.min_eq_left hn] at h
  exact h
theorem raw_drop {A A' : Option Addr} {m n c : Nat} (hR : (Kd.raw d.sz).R e w base okr (.slice A m c) rows) (hn : n ≤ rows.length) (hA : A' = if c = n then A else A.map (·.add (n * d.sz))) : ReadsRow ((Kd.raw d.sz).K w) (Kd.raw d.sz).sz w A' (m - n) (rows.drop n) := by
  have h0 := Kd.R_reads' hR
  have h := Kd.C_drop (c := c) h0.2.2 hn (by have := h0.1; have := h0.2.1; omega)
  rw [List.length_drop, ← h0.1] at h
  rw [hA]
  exact h
theorem raw_all {A : Option Addr} {m c : Nat} (hR : (Kd.raw d.sz).R e w base okr (.slice A m c) rows) : ReadsRow ((Kd.raw d.sz).K w) (Kd.raw d.sz).sz w A m rows := by
  have h := Kd.R_reads' hR
  rw [h.1]
  exact h.2.2
theorem raw_reads {A : Option Addr} {n c : Nat} (hR : (Kd.raw d.sz).R e w base okr (.slice A n c) rows) : n = rows.length ∧ n ≤ c ∧ (Kd.raw d.sz).C w A rows.length rows := Kd.R_reads' hR
end
end Go.Proofs.YtmlclmbplbbbhaaDoor.P
end

section
/- slices.Delete of one file out of a row of files whose elements bear their owner's number: what the others lead to stays theirs. -/
set_option linter.unusedVariables false
set_option linter.unusedSimpArgs false
namespace Go.Proofs.YtmlclmbplbbbhaaDoor.P
open Go Go.RowKit Go.Proofs.YtmlclmbplbbbhaaDoorW.PrintWords Go.Proofs.YtmlclmbplbbbhaaDoorW.PrintLast Go.Proofs.YtmlclmbplbbbhaaDoorW.PrintMore
set_option maxHeartbeats 4000000 in
set_option maxRecDepth 100000 in
theorem delT_row {f : Nat → Nat} {base : Nat} {ok : Nat → Prop} {v : Value} {xs : List (S53 × Nat)} {w : World} (i : Nat) (HO : Kd.S (Kd.tag f k53) 53 w base ok v xs) (hi : i < xs.length) (hbase : base ≤ w.heap.size) :
    Calls Tryd.prog 75 #[v, .int .i64 i, .int .i64 ((i : Int) + 1)] w fun e w' => ∃ v1, e = .returned v1 ∧ Kd.S (Kd.tag f k53) 53 w' base ok v1 (xs.eraseIdx i) ∧ w.grownBy w' v.ownBlock ∧ v1.ownBlock = v.ownBlock := by
  obtain ⟨g, c, rfl, hbg, hgw, cells0, hh⟩ := Kd.S_form HO (by omega)
  obtain ⟨n, hn⟩ : ∃ n, n = xs.length := ⟨_, rfl⟩
  have hnc : n ≤ c := by rw [hn]; exact (Kd.S_reads' HO).2.1
  have hcm : c ≤ 9223372036854775807 := by
    obtain ⟨inner, ho⟩ := Kd.S_own HO
    rcases ho.2 with ⟨h2, _⟩ | ⟨g', c', cur, hv', hb, hh, hnc, hcm, hcs, htk⟩
    · cases h2
    · injection hv' with _ _ hc; subst hc; unfold maxLen at hcm; omega
  rw [← hn] at HO hi ⊢
  have HO' : Aside0 (Kd.S (Kd.tag f k53) 53 w.drew base ok (.slice (some ⟨g, 0, none⟩) n c) xs) := ⟨Kd.S_drew HO⟩
  have HZ : Aside0 (∀ w, (zeroValue 53).run Tryd.prog w = .ok (.agg #[.string ⟨#[]⟩, .slice none 0 0, .int .i64 0]) w) := ⟨fun w => by kernel_rfl⟩
  have HN : Aside0 (n = xs.length) := ⟨hn⟩
  have HGD : Aside0 (w.grownBy w.drew (some g)) := ⟨⟨rfl, rfl, rfl, Nat.le_refl _, fun _ _ _ => rfl⟩⟩
  clear hn hh HO hbg
  have hwi : IntKind.i64.wrap ((i : Int) + 1) = (i : Int) + 1 := by rw [IntKind.wrap_i64]; omega
  have hne : ¬ ((i : Int) = (i : Int) + 1) := by omega
  have hic : i ≤ c := by omega
  have hi1 : i + 1 ≤ n := by omega
  have hi1c : i + 1 ≤ c := by omega
  have htn : ((i : Int) + 1).toNat = i + 1 := by omega
  have hb0 : (0 : Int) ≤ (i : Int) + 1 := by omega
  have hii : (i : Int) ≤ (i : Int) + 1 := by omega
  have hin : (i : Int) + 1 ≤ (n : Int) := by omega
  have hcn1 : ¬ (c = n - 1) := by omega
  have hn1 : n - 1 ≤ n := by omega
  have hd1 : n - (n - 1) = 1 := by omega
  have HA : Aside0 ((if c = i + 1 then some (⟨g, 0, none⟩ : Addr) else some ⟨g, (i + 1) * 3, none⟩) = if c = i + 1 then some ⟨g, 0, none⟩ else (some (⟨g, 0, none⟩ : Addr)).map (·.add ((i + 1) * (Kd.tag f k53).sz))) := ⟨by split; rfl; rw [Option.map_some, Addr.add_lit, Nat.zero_add]; rfl⟩
  have mixed : Tryd.prog.follows .mixedOrders = true := by kernel_rfl
  go_enter Tryd.func75, Tryd.ntmps75
  go_wp2_with fail
  go_region_law_o (refine Kd.S_delete_step (Kd.tag f k53) (w0 := w) base (by rfl) (.tmp 22) (.tmp 25) 27 53 rfl Tryd.underlying27 (by kernel_rfl) rfl rfl HA.out rfl HO'.out hi (below_drew (Below.refl _ _)) hbase ?_; intro w1 HS hB hg)
  obtain ⟨W2, hcl0, HS2, hg2⟩ := clear_own (P := Tryd.prog) 27 _ Tryd.underlying27 HZ.out rfl (by decide) HS (by omega) (c - (n - 1))
  have hcl : ∀ ty, (Builtin.clear_ #[27] ty #[.slice (some ⟨g, (n - 1) * 3, none⟩) 1 (c - (n - 1))]).run Tryd.prog w1 = .ok (.tuple #[]) W2 := hcl0
  have HG : Aside0 (w.grownBy W2 (some g)) := ⟨(HGD.out.trans hg).trans hg2⟩
  have HS' := (⟨HS2⟩ : Aside0 _)
  clear hcl0 HS2 hg2 hg hB HS HO' HA HGD HZ hi hne hic hi1 hi1c htn hb0 hii hin
  go_wp2
  all_goals go_ret
  · have h : c = i + 1 := by assumption
    subst h
    exact ⟨_, rfl, HS'.out, HG.out, rfl⟩
  · exact ⟨_, rfl, HS'.out, HG.out, rfl⟩
/-- A row whose elements bear their owner's number. -/
theorem S_tag {W : World} {base : Nat} {P : Nat → Prop} {v : Value} {l : List S53} {f : Nat → Nat} (h : (Kd.tag f k53).R 53 W base P v l.zipIdx) : Kd.S (Kd.tag f k53) 53 W base P v l.zipIdx := by
  obtain ⟨h0, inner, ho, hr⟩ := h
  refine ⟨f, h0, inner, by rw [List.length_zipIdx]; exact ho, by have := hr.1; rw [List.length_zipIdx]; exact this, fun j p hj => ?_⟩
  rw [List.getElem?_zipIdx, Nat.zero_add] at hj
  obtain ⟨x, hx, rfl⟩ := Option.map_eq_some_iff.1 hj
  have h1 := hr.2 j x hx
  have h2 := hx
  rw [List.getElem?_zipIdx, Nat.zero_add] at h2
  obtain ⟨y, hy, rfl⟩ := Option.map_eq_some_iff.1 h2
  exact (Kd.M_mono k53 (fun k hk => ⟨⟨hk.1, hk.2⟩, hk.2⟩) h1)
/-- One file is taken out: it stands as it stood, and the others lead to nothing of its. -/
theorem delF_keep {W : World} {base g m c i : Nat} {P : Nat → Prop} {l : List S53} (h : Kd.S k53 53 W base P (.slice (some ⟨g, 0, none⟩) m c) l) (hi : i < l.length) (hbase : base ≤ W.heap.size) :
    ∃ (oki : Nat → Prop) (A1 : Option Addr) (c1 : Nat), k53.M W base oki (rd_T53 l (i : Int)) [.string (rd_T53 l (i : Int)).f0, .slice A1 (rd_T53 l (i : Int)).f1.length c1, .int .i64 (rd_T53 l (i : Int)).f2] ∧ (∀ k, oki k → P k ∧ k ≠ g) ∧
      W.cell? ⟨g, i * 3, none⟩ = some (.string (rd_T53 l (i : Int)).f0) ∧ W.cell? ⟨g, i * 3 + 1, none⟩ = some (.slice A1 (rd_T53 l (i : Int)).f1.length c1) ∧ W.cell? ⟨g, i * 3 + 2, none⟩ = some (.int .i64 (rd_T53 l (i : Int)).f2) ∧
      ∀ w : World, Below W.heap.size W w → Calls Tryd.prog 75 #[.slice (some ⟨g, 0, none⟩) m c, .int .i64 i, .int .i64 ((i : Int) + 1)] w fun e w' => ∃ v1, e = .returned v1 ∧ Kd.S k53 53 w' base (fun k => P k ∧ ¬ oki k) v1 (l.eraseIdx i) ∧ w.grownBy w' (some g) ∧ v1.ownBlock = some g := by
  obtain ⟨f, hR⟩ := h
  have hg : P g := hR.1 g rfl
  have hl := Kd.S_reads' (S_tag hR)
  have hlm : m = l.length := by have := hl.1; rw [List.length_zipIdx] at this; exact this
  obtain ⟨cs, hcl, hM, hcc, _⟩ := Kd.R_elem hR (⟨ByteArray.empty, [], 0⟩, 0) (i : Int) (by omega) (by omega)
  have hz : l.zipIdx.getD (i : Int).toNat (⟨ByteArray.empty, [], 0⟩, 0) = (rd_T53 l (i : Int), i) := by
    unfold rd_T53
    rw [Int.toNat_natCast, List.getD_eq_getElem?_getD, List.getD_eq_getElem?_getD, List.getElem?_zipIdx, List.getElem?_eq_getElem hi]
    simp
  rw [hz] at hM
  have hM' : k53.M W base (fun k => (P k ∧ k ≠ g) ∧ f k = i) (rd_T53 l (i : Int)) cs := hM
  obtain ⟨v1, rfl, hR1⟩ := k53_openM hM'
  obtain ⟨A1, c1, rfl⟩ := Kd.R_slice hR1
  have hsz : (Kd.tag f k53).sz = 3 := rfl
  simp only [Int.toNat_natCast, hsz] at hcc
  refine ⟨fun k => (P k ∧ k ≠ g) ∧ f k = i, A1, c1, hM', fun k hk => hk.1, by have := hcc 0 _ rfl; simpa using this, hcc 1 _ rfl, hcc 2 _ rfl, fun w hb => ?_⟩
  refine (delT_row i (Kd.S_below (S_tag hR) hb) (by rw [List.length_zipIdx]; exact hi) (Nat.le_trans hbase hb.size)).mono ?_
  rintro e w' ⟨v1, rfl, hs, hgr, hv⟩
  refine ⟨v1, rfl, ?_, hgr, hv⟩
  obtain ⟨f2, rows, hrl, hRR, h0, hMM⟩ := S_rows hs
  have hnum : ∀ (j : Nat) (x : S53), (l.eraseIdx i)[j]? = some x → (l.zipIdx.eraseIdx i)[j]? = some (x, if j < i then j else j + 1) := by
    intro j x hx
    rw [List.getElem?_eraseIdx] at hx ⊢
    split at hx
    · rename_i c1
      rw [if_pos c1, if_pos c1, List.getElem?_zipIdx, hx, Nat.zero_add]; rfl
    · rename_i c1
      rw [if_neg c1, if_neg c1, List.getElem?_zipIdx, hx, Nat.zero_add]; rfl
  refine S_of_rows (d := k53) (fun k hk => ⟨h0 k hk, fun ho => ho.1.2 (by rw [hv] at hk; injection hk with hk; exact hk.symm)⟩) (by rw [hrl, List.length_eraseIdx, List.length_eraseIdx, List.length_zipIdx]) hRR (fun j k => ((P k ∧ some k ≠ v1.ownBlock) ∧ f2 k = j) ∧ f k = (if j < i then j else j + 1)) ?_ (fun a b k h1 h2 => h1.1.2.symm.trans h2.1.2) (fun j k hk => ⟨⟨hk.1.1.1, fun ho => ?_⟩, hk.1.1.2⟩)
  · intro j x cs hx hc
    exact hMM j _ cs (hnum j x hx) hc
  · have e1 := hk.2
    have e2 := ho.2
    rw [e2] at e1
    split at e1 <;> omega
end Go.Proofs.YtmlclmbplbbbhaaDoor.P
end

section
/- A file's bytes are written anew in its place: the file out of its row, and put back. No conditions. -/
set_option linter.unusedVariables false
set_option linter.unusedSimpArgs false
namespace Go.Proofs.YtmlclmbplbbbhaaDoor.P
open Go Go.RowKit Go.Proofs.YtmlclmbplbbbhaaDoorW.PrintWords Go.Proofs.YtmlclmbplbbbhaaDoorW.PrintLast Go.Proofs.YtmlclmbplbbbhaaDoorW.PrintMore
/-- File n is out: where its bytes stand, and how they are put back. -/
theorem elem_out {W : World} {base g m c n : Nat} {P : Nat → Prop} {l : List S53} (h : Kd.S k53 53 W base P (.slice (some ⟨g, 0, none⟩) m c) l) (hn : n < l.length) :
    ∃ (oki : Nat → Prop) (A1 : Option Addr) (c1 : Nat), (Kd.int .u8).R 5 W base oki (.slice A1 (rd_T53 l (n : Int)).f1.length c1) (rd_T53 l (n : Int)).f1 ∧ (∀ k, oki k → P k ∧ k ≠ g) ∧
      W.cell? ⟨g, n * 3, none⟩ = some (.string (rd_T53 l (n : Int)).f0) ∧ W.cell? ⟨g, n * 3 + 1, none⟩ = some (.slice A1 (rd_T53 l (n : Int)).f1.length c1) ∧ W.cell? ⟨g, n * 3 + 2, none⟩ = some (.int .i64 (rd_T53 l (n : Int)).f2) ∧
      (∀ j, W.frozen? ⟨g, n * 3 + j, none⟩ = false) ∧
      ∀ (w1 : World) (v2 : Value) (ys : List Int), W.heap.size ≤ w1.heap.size → (∀ k, P k → ¬ oki k → k < W.heap.size → w1.heap[k]? = W.heap[k]?) → (Kd.int .u8).R 5 w1 base (fun k => oki k ∨ W.heap.size ≤ k) v2 ys →
        Kd.S k53 53 (w1.setCell ⟨g, n * 3 + 1, none⟩ v2) base (fun k => P k ∨ W.heap.size ≤ k) (.slice (some ⟨g, 0, none⟩) m c) (l.set n ⟨(rd_T53 l (n : Int)).f0, ys, (rd_T53 l (n : Int)).f2⟩) := by
  have hm := (Kd.S_reads' h).1
  have hlt := Kd.S_lt h g rfl
  have h1 : Kd.S k53 53 W base (fun k => (P k ∨ W.heap.size ≤ k) ∧ ¬ W.heap.size ≤ k) (.slice (some ⟨g, 0, none⟩) m c) l := Kd.S_mono (Kd.S_bound h) (fun k hk => ⟨.inl hk.1, by have := hk.2.2.1; omega⟩)
  obtain ⟨oki, cs, hcl, hM, hcc, hfr, hoki, hH⟩ := Kd.S_elem h1 ⟨ByteArray.empty, [], 0⟩ (n : Int) (by omega) (by omega)
  have hM' : k53.M W base oki (rd_T53 l (n : Int)) cs := hM
  obtain ⟨v1, rfl, hR⟩ := k53_openM hM'
  obtain ⟨A1, c1, rfl⟩ := Kd.R_slice hR
  have hsz : k53.sz = 3 := rfl
  simp only [Int.toNat_natCast, hsz] at hcc hfr
  refine ⟨oki, A1, c1, hR, fun k hk => ⟨?_, (hoki k hk).2⟩, by have := hcc 0 _ rfl; simpa using this, hcc 1 _ rfl, hcc 2 _ rfl, hfr, ?_⟩
  · rcases (hoki k hk).1 with ⟨h2, h3⟩
    rcases h2 with h2 | h2
    · exact h2
    · exact absurd h2 h3
  intro w1 v2 ys hsize hkeep hR2
  have hH1 := Kd.H_step hH (w1 := w1) (fun k hk hn hlt => hkeep k (by rcases hk with ⟨h2, h3⟩; rcases h2 with h2 | h2; exact h2; exact absurd h2 h3) hn hlt)
  have hH2 := Kd.H_more (okg := fun k => W.heap.size ≤ k) hH1 (fun k hk => .inr hk)
  obtain ⟨A2, c2, rfl⟩ := Kd.R_slice hR2
  obtain ⟨hH3, _⟩ := Kd.H_seg hH2 (by omega) (by omega) (seg := [.slice A2 ys.length c2]) (j := 1) (by show 1 + 1 ≤ 3; omega) (fun q hq => by rw [List.mem_singleton.1 hq]; rfl)
  have hH4 : Kd.H k53 53 (w1.setCell ⟨g, n * 3 + 1, none⟩ (.slice A2 ys.length c2)) base (fun k => P k ∨ W.heap.size ≤ k) (.slice (some ⟨g, 0, none⟩) m c) l (n : Int) (fun k => oki k ∨ W.heap.size ≤ k) [.string (rd_T53 l (n : Int)).f0, .slice A2 ys.length c2, .int .i64 (rd_T53 l (n : Int)).f2] := hH3
  have hb := Kd.H_back hH4 (x' := ⟨(rd_T53 l (n : Int)).f0, ys, (rd_T53 l (n : Int)).f2⟩) (k53_mkM _ base _ _ (Kd.R_far hR2 (fun k hk => by
    rcases hk with hk | hk
    · exact (hoki k hk).2
    · show k ≠ g; omega) _)) (fun k hk => hk)
  rw [Int.toNat_natCast] at hb
  exact hb
end Go.Proofs.YtmlclmbplbbbhaaDoor.P
end

section
/- slices.Insert of one file into a row of files: in place, and where the row grows. -/
set_option linter.unusedVariables false
set_option linter.unusedSimpArgs false
namespace Go.Proofs.YtmlclmbplbbbhaaDoor.P
open Go Go.RowKit Go.Proofs.YtmlclmbplbbbhaaDoorW.PrintWords Go.Proofs.YtmlclmbplbbbhaaDoorW.PrintLast Go.Proofs.YtmlclmbplbbbhaaDoorW.PrintMore
theorem insF_info : ∃ i, Tryd.prog.info? 53 = some i ∧ i.size = 3 := by
  obtain ⟨i, h0, h1, h2, _⟩ := info_parts info53
  exact ⟨i, h0, h2⟩
theorem insF_apart (w : World) (g vb o : Nat) (cur vcur : Array Value) (hg : w.heap[g]? = some (.cells cur 53 (0, 0))) (hv : w.heap[vb]? = some (.cells vcur 53 (0, 0))) (hne : vb ≠ g) (hc : cur.size ≠ 0) (lb cb m vc : Nat) :
    (callFunc 102 #[.slice (some ⟨vb, 0, none⟩) m vc, .slice (some ⟨g, o, none⟩) lb cb]).run Tryd.prog w = .ok (.value (.bool false)) w := by
  obtain ⟨i, hi, hs⟩ := insF_info
  rw [run_callFunc_extern Tryd.func102 (by kernel_rfl) (by kernel_rfl) (by kernel_rfl) (e := Extern.SlicesOverlaps.overlaps #[27, 27] #[4]) (by kernel_rfl),
    Lib.run_overlaps_apart w 27 4 53 Tryd.underlying27 3 (fun w => by simp [sizeOf, typeInfo, hi, hs]) ⟨vb, 0, none⟩ ⟨g, o, none⟩ m vc lb cb hne 53 53 vcur.size cur.size (by simp [World.shape?, hv]) (by simp [World.shape?, hg]) hc (by simp [World.frozen?, hv]) (by simp [World.frozen?, hv])]
  rfl
set_option maxHeartbeats 4000000 in
set_option maxRecDepth 100000 in
theorem insF_shift (g n c i vb vc : Nat) (cur vcur : Array Value) (vin : List Value) (w : World) (hi : i < n) (hroom : n + 1 ≤ c) (hc63 : c ≤ 9223372036854775807) (hne : vb ≠ g)
    (hg : w.heap[g]? = some (.cells cur 53 (0, 0))) (hv : w.heap[vb]? = some (.cells vcur 53 (0, 0))) (hcs : cur.size = c * 3) (hvl : vin.length = 3) (hvi : ∀ (j : Nat) (x : Value), vin[j]? = some x → vcur[j]? = some x) (hvz : vcur.size ≠ 0) (h1c : ∀ v ∈ cur.toList.take (n * 3), v.oneCell' = true) (h1v : ∀ v ∈ vin, v.oneCell' = true)
    (R1 R2 : Array Value) (hR1 : R1 = (cur.toList.take ((i + 1) * 3) ++ (cur.toList.take (n * 3)).drop (i * 3) ++ cur.toList.drop ((n + 1) * 3)).toArray) (hR2 : R2 = (R1.toList.take (i * 3) ++ vin ++ R1.toList.drop ((i + 1) * 3)).toArray) :
    Calls Tryd.prog 88 #[.slice (some ⟨g, 0, none⟩) n c, .int .i64 i, .slice (some ⟨vb, 0, none⟩) 1 vc] w fun e w' =>
      e = .returned (.slice (some ⟨g, 0, none⟩) (n + 1) c) ∧ w' = (w.drew.setRow g R1).setRow g R2 := by
  have hov := insF_apart w g vb ((i + 1) * 3) cur vcur hg hv hne (by omega)
  have hz2 : ¬ ((i : Int) = (n : Int)) := by omega
  have hw1 : IntKind.i64.wrap ((i : Int) + 1) = (i : Int) + 1 := by rw [IntKind.wrap_i64]; omega
  have hw2 : IntKind.i64.wrap ((n : Int) + 1) = (n : Int) + 1 := by rw [IntKind.wrap_i64]; omega
  have hb1 : (0 : Int) ≤ (i : Int) + 1 := by omega
  have hin : i ≤ n := by omega
  have htn : ((i : Int) + 1).toNat = i + 1 := by omega
  have hb2 : ¬ (c = i + 1) := by omega
  have hb3 : (i : Int) ≤ (n : Int) + 1 := by omega
  have hb4 : ¬ (c = i) := by omega
  obtain ⟨ti, hti, hts⟩ := insF_info
  have hmul : ∀ x y : Nat, x ≤ y → x * 3 ≤ y * 3 := fun x y h => Nat.mul_le_mul_right 3 h
  obtain ⟨cs, hcse⟩ : ∃ cs, cs = (cur.toList.take (n * 3)).drop (i * 3) := ⟨_, rfl⟩
  have hcl : cs.length = (n - i) * 3 := by rw [hcse, List.length_drop, List.length_take, Array.length_toList]; omega
  have hget : ∀ j v, cs[j]? = some v → cur[i * 3 + j]? = some v := fun j v hj => by
    rw [hcse, List.getElem?_drop, List.getElem?_take] at hj
    split at hj
    · rw [← Array.getElem?_toList]; exact hj
    · cases hj
  have hg1 : w.drew.heap[g]? = some (.cells cur 53 (0, 0)) := hg
  have hv1 : w.drew.heap[vb]? = some (.cells vcur 53 (0, 0)) := hv
  have hcp1 : ∀ ty dc sc, (Builtin.copy_ #[27, 27] ty #[.slice (some ⟨g, (i + 1) * 3, none⟩) (n - i) dc, .slice (some ⟨g, i * 3, none⟩) (n + 1 - i) sc]).run Tryd.prog w.drew = .ok (goInt (Nat.min (n + 1 - i) (n - i))) (w.drew.setRow g R1) := fun ty dc sc => by
    rw [run_copy_rowK w.drew 27 ty 53 ti g ((i + 1) * 3) (n - i) dc ⟨g, i * 3, none⟩ (n + 1 - i) sc cur cs Tryd.underlying27 hti hg1 (by rw [hcl, hts, show Nat.min (n + 1 - i) (n - i) = n - i from by simp only [Nat.min_def]; split <;> omega])
      (fun j v hj => by rw [Addr.add_lit]; simp only [World.cell?, hg1]; exact hget j v hj) (by rw [hcl]; omega) (fun v hv => h1c v (by rw [hcse] at hv; exact List.mem_of_mem_drop hv)), hR1, hcse.symm, show (i + 1) * 3 + cs.length = (n + 1) * 3 from by rw [hcl]; omega]
  have hR1s : R1.size = c * 3 := by
    rw [hR1, ← hcse]
    simp only [List.size_toArray, List.length_append, List.length_take, List.length_drop, Array.length_toList, hcl]
    omega
  obtain ⟨W1, hW1⟩ : ∃ W1, W1 = w.drew.setRow g R1 := ⟨_, rfl⟩
  have hg2 : W1.heap[g]? = some (.cells R1 53 (0, 0)) := by rw [hW1]; exact setRow_heap w.drew g cur R1 53 (0, 0) hg1
  have hv2 : W1.heap[vb]? = some (.cells vcur 53 (0, 0)) := by rw [hW1, setRow_other _ _ _ _ hne]; exact hv1
  have hcp2 : ∀ ty dc, (Builtin.copy_ #[27, 27] ty #[.slice (some ⟨g, i * 3, none⟩) (n + 1 - i) dc, .slice (some ⟨vb, 0, none⟩) 1 vc]).run Tryd.prog W1 = .ok (goInt (Nat.min 1 (n + 1 - i))) (W1.setRow g R2) := fun ty dc => by
    rw [run_copy_rowK W1 27 ty 53 ti g (i * 3) (n + 1 - i) dc ⟨vb, 0, none⟩ 1 vc R1 vin Tryd.underlying27 hti hg2 (by rw [hvl, hts, show Nat.min 1 (n + 1 - i) = 1 from by simp only [Nat.min_def]; split <;> omega])
      (fun j v hj => by rw [Addr.add_lit]; simp only [World.cell?, hv2]; rw [Nat.zero_add]; exact hvi j v hj) (by rw [hvl, hR1s]; omega) h1v, hR2, show i * 3 + vin.length = (i + 1) * 3 from by rw [hvl]; omega]
  rw [← hW1] at hcp1 ⊢
  clear hget hmul hW1 hR1 hR2 hcse hcl hR1s hg1 hv1 hg2 hv2 hvi
  have mixed : Tryd.prog.follows .mixedOrders = true := by kernel_rfl
  go_enter Tryd.func88, Tryd.ntmps88
  go_wp2_with (simp only [hov])
  go_region_law_o (refine step_copy_runI rfl _ _ 27 27 rfl _ _ (by simp [Act.eval, Act.put]) (by simp [Act.eval, Act.put]) (hcp1 _ _ _) ?_)
  go_wp2_with (at_builtin; refine wpList_copy_runI _ rfl _ _ 27 27 rfl _ _ rfl rfl (hcp2 _ _) ?_)
  go_ret
  exact ⟨rfl, rfl⟩
set_option maxHeartbeats 4000000 in
set_option maxRecDepth 100000 in
theorem insF_grow (g n c i vb vc : Nat) (cur vcur : Array Value) (vin : List Value) (w : World) (hi : i < n) (hnc : n ≤ c) (hroom : c < n + 1) (hbig : (n + 1) * 48 ≤ 140737488355328) (hne : vb ≠ g)
    (hg : w.heap[g]? = some (.cells cur 53 (0, 0))) (hv : w.heap[vb]? = some (.cells vcur 53 (0, 0))) (hcs : cur.size = c * 3) (hvl : vin.length = 3) (hvi : ∀ (j : Nat) (x : Value), vin[j]? = some x → vcur[j]? = some x) (hvz : vcur.size ≠ 0) (h1c : ∀ v ∈ cur.toList.take (n * 3), v.oneCell' = true) (h1v : ∀ v ∈ vin, v.oneCell' = true) :
    Calls Tryd.prog 88 #[.slice (some ⟨g, 0, none⟩) n c, .int .i64 i, .slice (some ⟨vb, 0, none⟩) 1 vc] w fun e w' =>
      ∃ (G : Nat) (R : Array Value), e = .returned (.slice (some ⟨w.heap.size, 0, none⟩) (n + 1) G) ∧ n + 1 ≤ G ∧ G ≤ maxLen ∧ R.size = G * 3 ∧ w'.heap[w.heap.size]? = some (.cells R 53 (0, 0)) ∧
        R.toList.take ((n + 1) * 3) = cur.toList.take (i * 3) ++ vin ++ (cur.toList.take (n * 3)).drop (i * 3) ∧ w.grownBy w' none := by
  obtain ⟨ti, hti, hz0, hzs, hzb⟩ := info_parts info53
  have hz2 : ¬ ((i : Int) = (n : Int)) := by omega
  have hz3 : (c : Int) < (n : Int) + 1 := by omega
  have hgw : g < w.heap.size := (Array.getElem?_eq_some_iff.1 hg).1
  have hvw : vb < w.heap.size := (Array.getElem?_eq_some_iff.1 hv).1
  have hkk : (n : Int) + 1 - (i : Int) = ((n + 1 - i : Nat) : Int) := by omega
  have hik : i + (n + 1 - i) = n + 1 := by omega
  obtain ⟨cs, hcse⟩ : ∃ cs, cs = (cur.toList.take (n * 3)).drop (i * 3) := ⟨_, rfl⟩
  have hcl : cs.length = (n - i) * 3 := by rw [hcse, List.length_drop, List.length_take, Array.length_toList]; omega
  have hget : ∀ j v, cs[j]? = some v → cur[i * 3 + j]? = some v := fun j v hj => by
    rw [hcse, List.getElem?_drop, List.getElem?_take] at hj
    split at hj
    · rw [← Array.getElem?_toList]; exact hj
    · cases hj
  have htl : (cur.toList.take (i * 3)).length = i * 3 := by rw [List.length_take, Array.length_toList]; omega
  have hold : (Builtin.firstCells ti.size i (.slice (some ⟨g, 0, none⟩) i c)).run Tryd.prog w.drew = .ok (cur.toList.take (i * 3)).toArray w.drew := by
    rw [hzs]
    exact run_firstCells_some w.drew 3 i ⟨g, 0, none⟩ i c (cur.toList.take (i * 3)) htl (fun j v hj => by
      rw [Addr.add_lit, Nat.zero_add]
      rw [List.getElem?_take] at hj
      split at hj
      · have hg1 : w.drew.heap[g]? = some (.cells cur 53 (0, 0)) := hg
        simp only [World.cell?, hg1]
        rw [← Array.getElem?_toList]; exact hj
      · cases hj)
  obtain ⟨G, hG⟩ : ∃ G, G = grownCap w (n + 1) c 53 := ⟨_, rfl⟩
  have hGn : n + 1 ≤ G := by rw [hG]; exact grownCap_ge w _ _ _
  have hGm : G ≤ maxLen := by rw [hG]; exact grownCap_le_maxLen w (n + 1) c 53 (by unfold maxLen; omega)
  have hG63 : G ≤ 9223372036854775807 := by unfold maxLen at hGm; omega
  obtain ⟨ROW, hRs, hRt, hrz⟩ : ∃ ROW : Array Value, ROW.size = G * 3 ∧ ROW.toList.take (i * 3) = cur.toList.take (i * 3) ∧ ∀ ty, (Builtin.append_ #[27, 3] ty #[.slice (some ⟨g, 0, none⟩) i c, .int .i64 ((n : Int) + 1 - (i : Int))]).run Tryd.prog w =
      .ok (.slice (some ⟨w.heap.size, 0, none⟩) (n + 1) G) (w.drew.alloc (.cells ROW 53)) := by
    obtain ⟨z, hz, hzc⟩ : ∃ z, ti.zero = some z ∧ z.cells.size = 3 := ⟨_, hz0, rfl⟩
    refine ⟨(cur.toList.take (i * 3)).toArray ++ Builtin.zeroCells z.cells (n + 1 - i) ++ Builtin.zeroCells z.cells (G - (n + 1)), ?_, ?_, fun ty => ?_⟩
    rotate_left 2
    · have h := Lib.run_append_grow_zeros w 27 3 ty 53 ti _ .i64 .i64 Tryd.underlying27 Tryd.underlying3 hti hz (some ⟨g, 0, none⟩) i c (cur.toList.take (i * 3)) hold (n + 1 - i) (by omega) (by omega) (by omega) (by omega) (by rw [hzb]; omega) (by rw [hzb, hik]; exact growslice_fits hroom hbig)
      rw [hik, ← hG] at h
      rw [hkk]
      exact h
    · simp only [Array.size_append, List.size_toArray, htl, size_zeroCells, hzc]
      omega
    · rw [Array.append_assoc, Array.toList_append, List.toList_toArray, List.take_left' htl]
  obtain ⟨RA, hRA⟩ : ∃ RA : Array Value, RA = (ROW.toList.take (i * 3) ++ vin ++ ROW.toList.drop ((i + 1) * 3)).toArray := ⟨_, rfl⟩
  obtain ⟨RB, hRB⟩ : ∃ RB : Array Value, RB = (RA.toList.take ((i + 1) * 3) ++ cs ++ RA.toList.drop ((n + 1) * 3)).toArray := ⟨_, rfl⟩
  have hRtl : (ROW.toList.take (i * 3)).length = i * 3 := by rw [hRt]; exact htl
  have hRAs : RA.size = G * 3 := by
    rw [hRA]
    simp only [List.size_toArray, List.length_append, hRtl, hvl, List.length_drop, Array.length_toList]
    omega
  have hRAt : RA.toList.take ((i + 1) * 3) = cur.toList.take (i * 3) ++ vin := by
    rw [hRA, List.toList_toArray, ← hRt]
    exact List.take_left' (by rw [List.length_append, hRtl, hvl]; omega)
  have hRBs : RB.size = G * 3 := by
    rw [hRB]
    simp only [List.size_toArray, List.length_append, List.length_take, hcl, List.length_drop, Array.length_toList]
    omega
  have hRBt : RB.toList.take ((n + 1) * 3) = cur.toList.take (i * 3) ++ vin ++ cs := by
    rw [hRB, List.toList_toArray, hRAt]
    exact List.take_left' (by simp only [List.length_append, htl, hvl, hcl]; omega)
  have hcpA : ∀ (W : World), W.heap[w.heap.size]? = some (.cells ROW 53 (0, 0)) → W.heap[vb]? = some (.cells vcur 53 (0, 0)) → ∀ ty dc, (Builtin.copy_ #[27, 27] ty #[.slice (some ⟨w.heap.size, i * 3, none⟩) (n + 1 - i) dc, .slice (some ⟨vb, 0, none⟩) 1 vc]).run Tryd.prog W = .ok (goInt (Nat.min 1 (n + 1 - i))) (W.setRow w.heap.size RA) := fun W h1 h2 ty dc => by
    rw [run_copy_rowK W 27 ty 53 ti w.heap.size (i * 3) (n + 1 - i) dc ⟨vb, 0, none⟩ 1 vc ROW vin Tryd.underlying27 hti h1 (by rw [hvl, hzs, show Nat.min 1 (n + 1 - i) = 1 from by simp only [Nat.min_def]; split <;> omega])
      (fun j v hj => by rw [Addr.add_lit]; simp only [World.cell?, h2]; rw [Nat.zero_add]; exact hvi j v hj) (by rw [hvl, hRs]; omega) h1v, hRA, show i * 3 + vin.length = (i + 1) * 3 from by rw [hvl]; omega]
  have hcpB : ∀ (W : World), W.heap[w.heap.size]? = some (.cells RA 53 (0, 0)) → W.heap[g]? = some (.cells cur 53 (0, 0)) → ∀ ty dc sc, (Builtin.copy_ #[27, 27] ty #[.slice (some ⟨w.heap.size, (i + 1) * 3, none⟩) (n - i) dc, .slice (some ⟨g, i * 3, none⟩) (n - i) sc]).run Tryd.prog W = .ok (goInt (Nat.min (n - i) (n - i))) (W.setRow w.heap.size RB) := fun W h1 h2 ty dc sc => by
    rw [run_copy_rowK W 27 ty 53 ti w.heap.size ((i + 1) * 3) (n - i) dc ⟨g, i * 3, none⟩ (n - i) sc RA cs Tryd.underlying27 hti h1 (by rw [hcl, hzs, show Nat.min (n - i) (n - i) = n - i from by simp only [Nat.min_def]; split <;> omega])
      (fun j v hj => by rw [Addr.add_lit]; simp only [World.cell?, h2]; exact hget j v hj) (by rw [hcl, hRAs]; omega) (fun v hv => h1c v (by rw [hcse] at hv; exact List.mem_of_mem_drop hv)), hRB, show (i + 1) * 3 + cs.length = (n + 1) * 3 from by rw [hcl]; omega]
  have hGi : ¬ (G = i) := by omega
  have hGim : ¬ (G = i + 1) := by omega
  have hci : ¬ (c = i) := by omega
  have hw1 : IntKind.i64.wrap ((i : Int) + 1) = (i : Int) + 1 := by rw [IntKind.wrap_i64]; omega
  have hw2 : IntKind.i64.wrap ((n : Int) + 1) = (n : Int) + 1 := by rw [IntKind.wrap_i64]; omega
  have hw3 : IntKind.i64.wrap ((n : Int) + 1 - (i : Int)) = (n : Int) + 1 - (i : Int) := by rw [IntKind.wrap_i64]; omega
  have hb1 : (0 : Int) ≤ (i : Int) + 1 := by omega
  have hin : i ≤ n := by omega
  have hic : i ≤ c := by omega
  have htn : ((i : Int) + 1).toNat = i + 1 := by omega
  have hb3 : (i : Int) ≤ (n : Int) + 1 := by omega
  have mixed : Tryd.prog.follows .mixedOrders = true := by kernel_rfl
  have hfin : ∀ W' : World, W'.heap[w.heap.size]? = some (.cells RB 53 (0, 0)) → w.grownBy W' none → ∃ (G_ : Nat) (R : Array Value), (Ending.returned (.slice (some ⟨w.heap.size, 0, none⟩) (n + 1) G)) = .returned (.slice (some ⟨w.heap.size, 0, none⟩) (n + 1) G_) ∧ n + 1 ≤ G_ ∧ G_ ≤ maxLen ∧ R.size = G_ * 3 ∧ W'.heap[w.heap.size]? = some (.cells R 53 (0, 0)) ∧
        R.toList.take ((n + 1) * 3) = cur.toList.take (i * 3) ++ vin ++ (cur.toList.take (n * 3)).drop (i * 3) ∧ w.grownBy W' none := fun W' h1 h2 => ⟨G, RB, rfl, hGn, hGm, hRBs, h1, by rw [hRBt, hcse], h2⟩
  have hA1 : ((w.alloc (.cells ROW 53)).drew).heap[w.heap.size]? = some (.cells ROW 53 (0, 0)) := by
    show (w.heap.push _)[w.heap.size]? = _
    rw [Array.getElem?_push, if_pos rfl]
  have hA2 : ((w.alloc (.cells ROW 53)).drew).heap[vb]? = some (.cells vcur 53 (0, 0)) := by
    show (w.heap.push _)[vb]? = _
    rw [Array.getElem?_push, if_neg (by omega)]; exact hv
  have hA3 : ((w.alloc (.cells ROW 53)).drew).heap[g]? = some (.cells cur 53 (0, 0)) := by
    show (w.heap.push _)[g]? = _
    rw [Array.getElem?_push, if_neg (by omega)]; exact hg
  have hB1 : ((((w.alloc (.cells ROW 53)).drew).setRow w.heap.size RA).drew).heap[w.heap.size]? = some (.cells RA 53 (0, 0)) := setRow_heap _ _ _ RA 53 (0, 0) hA1
  have hB3 : ((((w.alloc (.cells ROW 53)).drew).setRow w.heap.size RA).drew).heap[g]? = some (.cells cur 53 (0, 0)) := (setRow_other _ _ _ _ (by omega)).trans hA3
  have hF1 : (((w.alloc (.cells ROW 53)).drew.setRow w.heap.size RA).drew.setRow w.heap.size RB).heap[w.heap.size]? = some (.cells RB 53 (0, 0)) := setRow_heap _ _ _ RB 53 (0, 0) hB1
  have hF2 : w.grownBy (((w.alloc (.cells ROW 53)).drew.setRow w.heap.size RA).drew.setRow w.heap.size RB) none := by
    refine ⟨rfl, rfl, rfl, ?_, fun k hk _ => ?_⟩
    · rw [size_setRow]
      show w.heap.size ≤ (((w.alloc (.cells ROW 53)).drew.setRow w.heap.size RA)).heap.size
      rw [size_setRow]
      show w.heap.size ≤ (w.heap.push _).size
      rw [Array.size_push]; exact Nat.le_succ _
    · rw [setRow_other _ _ _ _ (by omega)]
      show (((w.alloc (.cells ROW 53)).drew.setRow w.heap.size RA)).heap[k]? = _
      rw [setRow_other _ _ _ _ (by omega)]
      show (w.heap.push _)[k]? = _
      rw [Array.getElem?_push, if_neg (by omega)]
  have hend := hfin _ hF1 hF2
  have hA := hcpA _ hA1 hA2
  have hB := hcpB _ hB1 hB3
  clear hcpA hcpB hA1 hA2 hA3 hB1 hB3 hF1 hF2 hfin
  clear hget hRA hRB hcse hcl htl hold hRs hRt hRtl hRAs hRAt hRBs hRBt hti hz0 hzs hzb hkk hik hG h1c h1v hcs hvl hvi hvz hg hv
  go_enter Tryd.func88, Tryd.ntmps88
  go_upto_region 10 with (at_builtin; refine Lib.wpList_append_run _ rfl _ _ _ _ rfl _ _ rfl rfl _ _ (hrz _) ?_)
  go_wp2_with (at_builtin; refine wpList_copy_runI _ rfl _ _ 27 27 rfl _ _ rfl rfl (hA _ _) ?_)
  go_region_law_o (refine step_copy_runI rfl _ _ 27 27 rfl _ _ (by simp [Act.eval, Act.put]) (by simp [Act.eval, Act.put]) (hB _ _ _) ?_)
  go_wp2
  go_ret
  exact hend
set_option maxHeartbeats 4000000 in
set_option maxRecDepth 100000 in
/-- At the end: an append. -/
theorem insF_end (base n : Nat) (v : Value) (inner : List Value) (vb vc : Nat) (vcur : Array Value) (vin : List Value) (w : World) (ho : w.ownsRow base 53 3 v n inner) (hbase : base ≤ w.heap.size) (hbig : (n + 1) * 48 ≤ 140737488355328)
    (hv : w.heap[vb]? = some (.cells vcur 53 (0, 0))) (hvl : vin.length = 3) (hvi : ∀ (j : Nat) (x : Value), vin[j]? = some x → vcur[j]? = some x) (h1v : ∀ v ∈ vin, v.oneCell' = true) :
    Calls Tryd.prog 88 #[v, .int .i64 n, .slice (some ⟨vb, 0, none⟩) 1 vc] w fun e w' => ∃ v1, e = .returned v1 ∧ w'.ownsRow base 53 3 v1 (n + 1) (inner ++ vin) ∧ w.grownBy w' v.ownBlock ∧ (v1.ownBlock = v.ownBlock ∨ ∃ b, v1.ownBlock = some b ∧ w.heap.size ≤ b) := by
  obtain ⟨ti, hti, hz0, hzs, hzb⟩ := info_parts info53
  obtain ⟨v1, w1, hrun, h2, hg, _, hat⟩ := run_append_own_at (P := Tryd.prog) w base 27 27 53 ti _ 3 48 Tryd.underlying27 hti hz0 hzs hzb rfl (by decide) v n inner ho ⟨vb, 0, none⟩ 1 vc vin (by omega)
    (fun j x hj => by rw [Addr.add_lit]; simp only [World.cell?, hv]; rw [Nat.zero_add]; exact hvi j x hj) h1v (by unfold maxLen; omega) hbig hbase
  have hat : v1.ownBlock = v.ownBlock ∨ ∃ b, v1.ownBlock = some b ∧ w.heap.size ≤ b := hat.imp_right (fun h => ⟨_, h, Nat.le_refl _⟩)
  rcases ho.2 with ⟨rfl, rfl⟩ | ⟨g, c, cur, rfl, _, _, hnc, _⟩
  · clear hti hz0 hzs hzb hv hvi h1v ho
    go_enter Tryd.func88, Tryd.ntmps88
    go_wp2_with (at_builtin; refine Lib.wpList_append_run _ rfl _ _ _ _ rfl _ _ rfl rfl _ _ hrun ?_)
    go_ret
    exact ⟨v1, rfl, h2, hg, hat⟩
  · clear hti hz0 hzs hzb hv hvi h1v ho
    have hn63 : n ≤ 9223372036854775807 := by omega
    rcases Nat.eq_or_lt_of_le hnc with hc | hc
    · subst hc
      go_enter Tryd.func88, Tryd.ntmps88
      go_wp2_with (at_builtin; refine Lib.wpList_append_run _ rfl _ _ _ _ rfl _ _ rfl rfl _ _ hrun ?_)
      go_ret
      exact ⟨v1, rfl, h2, hg, hat⟩
    · have hcn : ¬ (c = n) := by omega
      go_enter Tryd.func88, Tryd.ntmps88
      go_wp2_with (at_builtin; refine Lib.wpList_append_run _ rfl _ _ _ _ rfl _ _ rfl rfl _ _ hrun ?_)
      go_ret
      exact ⟨v1, rfl, h2, hg, hat⟩
theorem insF_own (base n : Nat) (v u : Value) (inner vin : List Value) (i : Nat) (w : World) (ho : w.ownsRow base 53 3 v n inner) (hu : w.ownsRow base 53 3 u 1 vin) (hne : ∀ k, u.ownBlock = some k → v.ownBlock ≠ some k) (hin : i ≤ n)
    (h1c : ∀ x ∈ inner, x.oneCell' = true) (h1v : ∀ x ∈ vin, x.oneCell' = true) (hbase : base ≤ w.heap.size) (hbig : (n + 1) * 48 ≤ 140737488355328) :
    Calls Tryd.prog 88 #[v, .int .i64 i, u] w fun e w' => ∃ v1, e = .returned v1 ∧ w'.ownsRow base 53 3 v1 (n + 1) (inner.take (i * 3) ++ vin ++ inner.drop (i * 3)) ∧ w.grownBy w' v.ownBlock ∧ (v1.ownBlock = v.ownBlock ∨ ∃ b, v1.ownBlock = some b ∧ w.heap.size ≤ b) := by
  obtain ⟨hul, hu⟩ := hu
  rcases hu with ⟨_, h0⟩ | ⟨vb, vc, vcur, rfl, hvb, hv, hvc, _, hvs, hvt⟩
  · exact absurd h0 (by decide)
  have hvl : vin.length = 3 := by omega
  have hvi : ∀ (j : Nat) (x : Value), vin[j]? = some x → vcur[j]? = some x := fun j x hj => by
    rw [← hvt, List.getElem?_take] at hj
    split at hj
    · rw [← Array.getElem?_toList]; exact hj
    · cases hj
  have hil : inner.length = n * 3 := ho.1
  by_cases hi : i = n
  · subst hi
    rw [List.take_of_length_le (by omega), List.drop_of_length_le (by omega), List.append_nil]
    exact insF_end base i v inner vb vc vcur vin w ho hbase hbig hv hvl hvi h1v
  · rcases ho.2 with ⟨rfl, h0⟩ | ⟨g, c, cur, rfl, hgb, hg, hnc, hcm, hcs, hct⟩
    · omega
    have hne' : vb ≠ g := fun e => hne vb rfl (by rw [e]; rfl)
    have hti : inner.take (i * 3) = cur.toList.take (i * 3) := by rw [← hct, List.take_take, Nat.min_eq_left (by omega)]
    have htd : inner.drop (i * 3) = (cur.toList.take (n * 3)).drop (i * 3) := by rw [hct]
    have hdl : (inner.drop (i * 3)).length = (n - i) * 3 := by rw [List.length_drop]; omega
    have htl : (inner.take (i * 3)).length = i * 3 := by rw [List.length_take]; omega
    have hc63 : c ≤ 9223372036854775807 := by unfold maxLen at hcm; omega
    by_cases hroom : n + 1 ≤ c
    · have hgw : g < w.heap.size := (Array.getElem?_eq_some_iff.1 hg).1
      refine (insF_shift g n c i vb vc cur vcur vin w (by omega) hroom hc63 hne' hg hv hcs hvl hvi (by omega) (by rw [hct]; exact h1c) h1v _ _ rfl rfl).mono ?_
      rintro e w' ⟨rfl, rfl⟩
      have hA : ∀ X : List Value, (cur.toList.take ((i + 1) * 3) ++ (inner.drop (i * 3)) ++ X).take (i * 3) = inner.take (i * 3) := fun X => by
        rw [List.append_assoc, List.take_append_of_le_length (by rw [List.length_take, Array.length_toList]; omega), List.take_take, Nat.min_eq_left (by omega), hti]
      have hB : ∀ X : List Value, (cur.toList.take ((i + 1) * 3) ++ (inner.drop (i * 3)) ++ X).drop ((i + 1) * 3) = inner.drop (i * 3) ++ X := fun X => by
        rw [List.append_assoc, List.drop_left' (by rw [List.length_take, Array.length_toList]; omega)]
      have hg1 : w.drew.heap[g]? = some (.cells cur 53 (0, 0)) := hg
      rw [← htd, List.toList_toArray, hA, hB]
      refine ⟨_, rfl, ⟨?_, .inr ⟨g, c, _, rfl, hgb, setRow_heap _ _ _ _ 53 (0, 0) (setRow_heap _ _ _ _ 53 (0, 0) hg1), hroom, hcm, ?_, ?_⟩⟩, ⟨rfl, rfl, rfl, ?_, fun k hk hkg => ?_⟩, .inl rfl⟩
      · simp only [List.length_append, htl, hvl, hdl]; omega
      · simp only [List.size_toArray, List.length_append, htl, hvl, hdl, List.length_drop, Array.length_toList]; omega
      · rw [List.toList_toArray, ← List.append_assoc]
        exact List.take_left' (by simp only [List.length_append, htl, hvl, hdl]; omega)
      · rw [size_setRow, size_setRow]; exact Nat.le_refl _
      · have hk' : k ≠ g := fun e => hkg (by rw [e]; rfl)
        rw [setRow_other _ _ _ _ hk', setRow_other _ _ _ _ hk']; rfl
    · refine (insF_grow g n c i vb vc cur vcur vin w (by omega) hnc (by omega) hbig hne' hg hv hcs hvl hvi (by omega) (by rw [hct]; exact h1c) h1v).mono ?_
      rintro e w' ⟨G, R, rfl, hG, hGm, hRs, hR, hRt, hgr⟩
      refine ⟨_, rfl, ⟨?_, .inr ⟨w.heap.size, G, R, rfl, hbase, hR, hG, hGm, hRs, by rw [hRt, hti, htd]⟩⟩, ⟨hgr.os, hgr.tape, hgr.output, hgr.size, fun k hk _ => hgr.block k hk (by simp)⟩, .inr ⟨w.heap.size, rfl, Nat.le_refl _⟩⟩
      simp only [List.length_append, htl, hvl, hdl]; omega
theorem insF_row {base : Nat} {okv oku : Nat → Prop} {v u : Value} {xs : List S53} {x : S53} {w : World} (i : Nat) (HO : Kd.S k53 53 w base okv v xs) (HU : Kd.S k53 53 w base oku u [x]) (hap : ∀ k, okv k → ¬ oku k) (hi : i ≤ xs.length)
    (hbase : base ≤ w.heap.size) (hbig : (xs.length + 1) * 48 ≤ 140737488355328) :
    Calls Tryd.prog 88 #[v, .int .i64 i, u] w fun e w' => ∃ v1, e = .returned v1 ∧ Kd.S k53 53 w' base (fun k => okv k ∨ oku k ∨ w.heap.size ≤ k) v1 (xs.take i ++ [x] ++ xs.drop i) ∧ w.grownBy w' v.ownBlock := by
  obtain ⟨f, inner, ho, h0, hr⟩ := Sin_len HO
  obtain ⟨f2, vin, hu, hu0, hr2⟩ := Sin_len HU
  refine (insF_own base xs.length v u inner vin i w ho hu (fun k hk he => hap k (h0 k he) (hu0 k hk)) hi (one_cells hr (by decide)) (one_cells hr2 (by decide)) hbase hbig).mono ?_
  rintro e w' ⟨v1, rfl, h1, h2, h3⟩
  exact ⟨v1, rfl, S_insert hi ho.1 h0 hr (by have := hu.1; simpa using this) hr2 hap h1 h2 h3, h2⟩
end Go.Proofs.YtmlclmbplbbbhaaDoor.P
end

section
/- A literal of one element that leads to rows of the call's own. No conditions. -/
set_option linter.unusedVariables false
namespace Go.Proofs.YtmlclmbplbbbhaaDoorW.PrintWords
open Go.RowKit
namespace Kd
section
variable {P : Program} {ops : Array Oper} {rest : List Oper} {o : Oper} {a : Act} {Q : Exit → Act → World → Prop} {Kc : Act → World → Prop} {α : Type}
theorem Below.refl' (B : Nat) (W : World) : Below B W W := ⟨rfl, rfl, rfl, Nat.le_refl _, fun _ _ => rfl⟩
theorem one_at {d : Kd α} {W : World} {base : Nat} {okp : Nat → Prop} {xs : List α} {inner : List Value} (hrep : Reps (d.M W base okp) d.sz xs inner) (hm : xs.length ≤ 1) (j : Nat) (x : α) (hj : xs[j]? = some x) :
    d.M W base (fun k => j = 0 ∧ okp k) x ((inner.drop (j * d.sz)).take d.sz) := by
  have hlt := (List.getElem?_eq_some_iff.1 hj).1
  have h0 : j = 0 := by omega
  exact d.M_mono (fun k hk => ⟨h0, hk⟩) (hrep.2 j x hj)
theorem S_lit1 (d : Kd α) {w0 W : World} (base e : Nat) (hgd : o.guard = none) {N : Tmp} (hd : o.dst = some N) {xs : List α} {inner : List Value} {ok okp : Nat → Prop} {base' : Nat}
    (hrun : (execOp a.eval o).run P W = .ok (.value (.slice (some ⟨W.heap.size, 0, none⟩) xs.length xs.length)) (W.alloc (.cells inner.toArray e)))
    (hrep : Reps (d.M W base' okp) d.sz xs inner) (hok : ∀ k, okp k → ok k) (hfresh : ok W.heap.size) (HB : Below base w0 W) (hbase : base ≤ W.heap.size) (hm : xs.length ≤ 1)
    (h : ∀ v1 w1, S d e w1 base' ok v1 xs → Below base w0 w1 → W.grownBy w1 none → (∃ b, v1.ownBlock = some b ∧ W.heap.size ≤ b) → wpList P ops Q rest (a.put o.dst v1) w1)
    (hb0 : base' ≤ W.heap.size := by exact below_size (by repeat (first | exact HB.out | apply below_alloc | apply pw_below_drewN | apply below_drew1 | refine below_set ?_ (Aside0.out (by assumption))))) : wpList P ops Q (o :: rest) a W :=
  S_lits d (w0 := W) base' e hgd hd (fun j k => j = 0 ∧ okp k) hrun hrep.1 (one_at hrep hm) (fun i j k h1 h2 => h1.1.trans h2.1.symm) (fun j k hk => hok k hk.2) hfresh (Below.refl' base' W) hb0 (Nat.le_trans hm (by decide)) (fun v1 w1 hs _ hg hat => h v1 w1 hs (HB.grown hg hbase (fun _ hk => by cases hk)) hg hat)
theorem S_lit1_step (d : Kd α) {w0 W : World} (base e : Nat) (hw : Region.wanted o (yielded ops a.tmps) = true) {N : Tmp} (hd : o.dst = some N) {xs : List α} {inner : List Value} {ok okp : Nat → Prop} {base' : Nat}
    (hrun : (execOp a.eval o).run P W = .ok (.value (.slice (some ⟨W.heap.size, 0, none⟩) xs.length xs.length)) (W.alloc (.cells inner.toArray e)))
    (hrep : Reps (d.M W base' okp) d.sz xs inner) (hok : ∀ k, okp k → ok k) (hfresh : ok W.heap.size) (HB : Below base w0 W) (hbase : base ≤ W.heap.size) (hm : xs.length ≤ 1)
    (h : ∀ v1 w1, S d e w1 base' ok v1 xs → Below base w0 w1 → W.grownBy w1 none → (∃ b, v1.ownBlock = some b ∧ W.heap.size ≤ b) → Kc (a.put o.dst v1) w1)
    (hb0 : base' ≤ W.heap.size := by exact below_size (by repeat (first | exact HB.out | apply below_alloc | apply pw_below_drewN | apply below_drew1 | refine below_set ?_ (Aside0.out (by assumption))))) :
    if Region.wanted o (yielded ops a.tmps) = true then Oper.wp P o a W Kc Q else Kc (a.put o.dst undef) W :=
  S_lits_step d (w0 := W) base' e hw hd (fun j k => j = 0 ∧ okp k) hrun hrep.1 (one_at hrep hm) (fun i j k h1 h2 => h1.1.trans h2.1.symm) (fun j k hk => hok k hk.2) hfresh (Below.refl' base' W) hb0 (Nat.le_trans hm (by decide)) (fun v1 w1 hs _ hg hat => h v1 w1 hs (HB.grown hg hbase (fun _ hk => by cases hk)) hg hat)
end
end Kd
end Go.Proofs.YtmlclmbplbbbhaaDoorW.PrintWords
end

section
/- A file is made in a variable of files. No conditions of its own. -/
set_option linter.unusedVariables false
set_option linter.unusedSimpArgs false
namespace Go.Proofs.YtmlclmbplbbbhaaDoor.P
open Go Go.RowKit Go.Proofs.YtmlclmbplbbbhaaDoorW.PrintWords Go.Proofs.YtmlclmbplbbbhaaDoorW.PrintLast Go.Proofs.YtmlclmbplbbbhaaDoorW.PrintMore
def impl_Files_create.f (k : Nat) (q : Int) (l : List S53) (a1 : ByteArray) : Option (Int × Int × List S53) :=
  (impl_Files_find.f k q l a1).bind fun t => if t.2 = true then some (3, q, l) else (if (l.length : Int) = 40 then some (4, q, l) else (if 0 ≤ t.1 ∧ t.1 ≤ (l.length : Int) ∧ l.length ≤ 1000000000 then some (0, q, l.take t.1.toNat ++ [⟨a1, [], 0⟩] ++ l.drop t.1.toNat) else none))
set_option maxHeartbeats 4000000 in
set_option maxRecDepth 100000 in
theorem impl_Files_create.does (k b : Nat) (q : Int) (l : List S53) (a1 : ByteArray) (r1 r2 : Int) (r3 : List S53) (w0 w : World) (hB : Below w0.heap.size w0 w) (P : Nat → Prop) (hF : FilesAt w w0.heap.size P b q l) (h : impl_Files_create.f k q l a1 = some (r1, r2, r3)) :
    Calls Tryd.prog 59 #[.pointer (some ⟨b, 0, none⟩), .string a1] w (FilesPost w0 w P b r1 r2 r3) := by
  have hu := Tryd.underlying29
  have hu2 := Tryd.underlying53
  obtain ⟨⟨i, t⟩, e1, h⟩ := Option.bind_eq_some_iff.1 h
  have E1 := aM e1
  clear e1
  have HF := aM hF
  have HB := aM hB
  obtain ⟨v, hbox, hs, hP, hwb⟩ := hF
  obtain ⟨A, c, rfl, hlc, hC⟩ := Kd.S_reads hs
  have HC := aM hC
  have HL := aM hlc
  have HS := aM hs
  have HP := aM hP
  have HX := aM hbox
  have HWB := aM hwb
  have hz := cellsZ2 hbox
  clear hP hC hlc hs hbox hwb
  cases t with
  | true =>
    simp only [if_true, Option.some.injEq, Prod.mk.injEq] at h
    obtain ⟨rfl, rfl, rfl⟩ := h
    go_enter Tryd.func59, Tryd.ntmps59
    go_wp2_with (first | ((with_reducible refine gate_callee (f := 71) rfl ?_); refine gL 12 Tryd.func71 #[.agg #[.int .i64 q, .slice A l.length c], .string a1] ?_; (with_reducible refine (impl_Files_find.calls k q _ _ l a1 i true _ HC.out HL.out E1.out).mono ?_); rintro e w1 ⟨rfl, hb⟩; refine ⟨_, rfl, ?_⟩; have HW := aM (HF.out.after hb); have HB' := aM (below_after HB.out hb); have HK := aM (Kept.below (Kept.refl w (fun k => k = b ∨ P k)) hb); clear hz hb))
    go_ret
    exact ⟨rfl, ⟨P, HW.out⟩, HB'.out, HK.out⟩
  | false =>
    simp only [Bool.false_eq_true, if_false] at h
    by_cases h40 : (l.length : Int) = 40
    · rw [if_pos h40] at h
      simp only [Option.some.injEq, Prod.mk.injEq] at h
      obtain ⟨rfl, rfl, rfl⟩ := h
      have hq := eqE h40
      clear h40
      go_enter Tryd.func59, Tryd.ntmps59
      go_wp2_with (first | ((with_reducible refine gate_callee (f := 71) rfl ?_); refine gL 12 Tryd.func71 #[.agg #[.int .i64 q, .slice A l.length c], .string a1] ?_; (with_reducible refine (impl_Files_find.calls k q _ _ l a1 i false _ HC.out HL.out E1.out).mono ?_); rintro e w1 ⟨rfl, hb⟩; refine ⟨_, rfl, ?_⟩; have HW := aM (HF.out.after hb); have HX1 := aM (blk_below HX.out hb); have HB' := aM (below_after HB.out hb); have HK := aM (Kept.below (Kept.refl w (fun k => k = b ∨ P k)) hb); clear hz hb; have hz := cellsZ2 HX1.out))
      go_ret
      exact ⟨rfl, ⟨P, HW.out⟩, HB'.out, HK.out⟩
    · rw [if_neg h40] at h
      obtain ⟨⟨hi0, hi1, hbig⟩, h⟩ := ifS h
      simp only [Option.some.injEq, Prod.mk.injEq] at h
      obtain ⟨rfl, rfl, rfl⟩ := h
      obtain ⟨n, rfl⟩ := Int.eq_ofNat_of_zero_le hi0
      have HN := aM (show n ≤ l.length by omega)
      have HBG := aM hbig
      have hq := eqN h40
      clear hi0 hi1 h40 hbig
      go_enter Tryd.func59, Tryd.ntmps59
      go_wp2_with (first | ((with_reducible refine gate_callee (f := 71) rfl ?_); refine gL 12 Tryd.func71 #[.agg #[.int .i64 q, .slice A l.length c], .string a1] ?_; (with_reducible refine (impl_Files_find.calls k q _ _ l a1 n false _ HC.out HL.out E1.out).mono ?_); rintro e w1 ⟨rfl, hb⟩; refine ⟨_, rfl, ?_⟩; have HX1 := aM (blk_below HX.out hb); have HBL := aM (box_lt HX1.out); have HS1 := aM (Kd.S_below HS.out hb); have HB' := aM (below_after HB.out hb); have HK := aM (Kept.below (Kept.refl w (fun k => k = b ∨ P k)) hb); clear hz hb; have hz := cellsZ2 HX1.out) | ((with_reducible refine gate_dst (N := 32) rfl ?_); refine Kd.S_lit1 (base' := w0.heap.size) k53 _ 53 ?hg (N := 32) ?hd (xs := [(⟨a1, [], 0⟩ : S53)]) (inner := [.string a1, .slice none 0 0, .int .i64 0]) (ok := fun k_ => w1.heap.size ≤ k_) (okp := fun k_ => w1.heap.size ≤ k_) ?hr ?hp (fun _ hk => hk) (Nat.le_refl _) (Below.refl _ _) (Nat.le_refl _) (by simp) ?_ HB'.out.size; (case hd => rfl); (case hg => rfl); (case hr => first | (go_simp; done) | (go_simp; rfl)); (case hp => exact Reps.c3 (show Kd.M k53 _ _ _ (⟨a1, [], 0⟩ : S53) [.string a1, .slice none 0 0, .int .i64 0] from k53_mkM _ _ _ (⟨a1, [], 0⟩ : S53) (Kd.R_nil _ _ _ _ _)) (Reps.none _ _)); intro u w2 hs hb hg_ hat; clear hg_ hat; obtain ⟨Au, cu, rfl⟩ := Kd.S_slice hs; have HU := aM hs; have HSP := aM (Kd.S_old HS1.out hb); replace HS1 := aM (Kd.S_below HS1.out hb); replace HX1 := aM (blk_below HX1.out hb); replace HK := aM (HK.out.below hb); replace HB' := aM (below_after HB'.out hb); clear hz hs hb; have hz := cellsZ2 HX1.out) | ((with_reducible refine gate_callee (f := 88) rfl ?_); refine gL 33 Tryd.func88 #[.slice A l.length c, .int .i64 n, .slice Au 1 cu] ?_; (refine (insF_row n HSP.out HU.out (fun k hk hk2 => by have := hk.2; omega) HN.out HB'.out.size (by have := HBG.out; omega)).mono ?_); rintro e w3 ⟨v1, rfl, hs2, hg2⟩; refine ⟨_, rfl, ?_⟩; obtain ⟨A2, m2, c2, rfl⟩ := S_form3 hs2; have HPb := aM (fun hk : ((P b ∧ b < w1.heap.size) ∨ w1.heap.size ≤ b ∨ w2.heap.size ≤ b) => by rcases hk with hk | hk | hk; exact HP.out hk.1; have := HBL.out; omega; have := box_lt HX1.out; omega); have hne_ := Kd.S_ne HS1.out HX1.out (by decide); have HX2 := aM ((hg2.block b (box_lt HX1.out) hne_).trans HX1.out); have HS2 := aM hs2; have HK2 := aM (Kept.grown HK.out hg2 (fun k hk => .inl (.inr (Kd.S_ok HS1.out k hk)))); have HB2 := aM (pw_below_grown HB'.out _ HB'.out.size hg2 (Kd.S_base HS1.out)); clear hz hg2 hs2 hne_; have hz := cellsZ2 HX2.out))
      go_ret
      exact ⟨rfl, ⟨_, FilesAt.put HX2.out HWB.out HS2.out HPb.out⟩, below_set HB2.out HWB.out, Kept.set HK2.out (.inl (.inl rfl))⟩
end Go.Proofs.YtmlclmbplbbbhaaDoor.P
end
