/- Part 2 of the walks and words that FE uses. No conditions of its own. -/
import Derived.Test.YtdkokfnnebdppaaProg
import Derived.Below
import Derived.Deep.Draws
import Derived.Deep.AppendLies
import Derived.Maps.AppendAt
import Derived.OwnWalk
import Derived.Laws.BytesArg
import Derived.Laws.MakeOwn
import Derived.Laws.OwnMore
import Derived.Deep.OwnRows
import Derived.Tactics
import Derived.Lib.ConvBytes
import Derived.Laws.Slices
import Derived.WalkKit
import Derived.KernelRfl
import Derived.RowKit3
import Derived.Deep.LoopGhost
import Derived.Deep.QuietTactic
import Derived.BigQuiet
import Derived.WideLaws
import Derived.Deep.DeepCutAuto
import Derived.Deep.CutBlock
import Derived.Deep.RegionHeld3
import Derived.Laws.Rows
import Derived.Lib.AppendStr
import Derived.ArgAppend
import Derived.Laws.IdiomCopy
import Derived.OrdersHeld
import Derived.Laws.BitsLemmas
import Derived.RowKit
import Derived.Lib.SliceRun
import Derived.Shelf.Small.Bits
import Derived.Shelf.Small.Wraps
import Derived.Shelf.Strconv.Itoa0
import Derived.Shelf.Sort.Plain
import Derived.Ground.Names2Prog
import Derived.Shelf.Slices.Clone
import Derived.Shelf.Slices.CompactI
import Derived.Shelf.Slices.SearchI
import Derived.Shelf.Slices.Cells
import Derived.Shelf.Slices.In.SortNone
import Derived.Sort.OwnSortedInts
import Derived.Lib.OwnBridge
import Derived.Test.YtdkokfnnebdppaaMFE1
set_option maxHeartbeats 8000000
set_option maxRecDepth 100000
section
namespace Go.Proofs.Ytdkokfnnebdppaa.P
open Go.RowKit Go.Proofs.YtdkokfnnebdppaaW.PrintWords Go.Proofs.YtdkokfnnebdppaaW.PrintLast Go.Proofs.YtdkokfnnebdppaaW.PrintMore
theorem less_tri : ∀ a b : List UInt8, Op.bytesLess b a = !(Op.bytesLess a b || a == b)
  | [], [] => rfl
  | [], _ :: _ => rfl
  | _ :: _, [] => rfl
  | a :: x, b :: y => by
    rw [Op.bytesLess, Op.bytesLess, less_tri x y, List.cons_beq_cons]
    by_cases h : a = b
    · subst h
      rw [beq_self_eq_true, show decide (a < a) = false from decide_eq_false (by rw [UInt8.lt_iff_toNat_lt]; omega)]
      simp only [Bool.true_and, Bool.false_or]
    · have h' : a.toNat ≠ b.toNat := fun e => h (UInt8.toNat_inj.1 e)
      have e1 : (a == b) = false := beq_eq_false_iff_ne.2 h
      have e2 : (b == a) = false := beq_eq_false_iff_ne.2 (Ne.symm h)
      rw [e1, e2, Bool.false_and, Bool.false_and, Bool.or_false, Bool.or_false, Bool.false_and, Bool.or_false]
      by_cases hl : a < b
      · rw [decide_eq_true hl, decide_eq_false (by rw [UInt8.lt_iff_toNat_lt] at hl ⊢; omega)]; rfl
      · rw [decide_eq_false hl, decide_eq_true (by rw [UInt8.lt_iff_toNat_lt] at hl ⊢; omega)]; rfl
theorem str_geq (t : TypeId) (a b : ByteArray) : binOp .geq t (.string a) (.string b) = pure (.bool !(Op.bytesLess a.toList b.toList)) := by simp [binOp, Op.stringOp]
theorem str_gtr (t : TypeId) (a b : ByteArray) : binOp .gtr t (.string a) (.string b) = pure (.bool (Op.bytesLess b.toList a.toList)) := by rw [less_tri a.toList b.toList]; simp [binOp, Op.stringOp]
theorem str_leq (t : TypeId) (a b : ByteArray) : binOp .leq t (.string a) (.string b) = pure (.bool !(Op.bytesLess b.toList a.toList)) := by rw [less_tri a.toList b.toList]; simp [binOp, Op.stringOp]
set_option linter.unusedVariables false
section
variable {P : Program} {md : Region.Mode} {ops : Array Oper} {Q : Exit → Act → World → Prop} {S : World → Prop} {ds : List Nat} {T : Bool × List (List Nat × List Nat)} {B : List Nat} {oi : Oper} {v : Value} {fuel : Nat} {l l' : Array Bool} {a a' : Act} {w : World}
theorem pA (i N : Nat) (hT : Aside0 (rtab md ops = T)) (h : wpAnyLast P md ops Q S ds fuel l' a' w) (hi : ops[i]? = some oi := by rfl) (hN : oi.dst = some N := by rfl)
    (hl : l.setIfInBounds i true = l' := by simp only [List.setIfInBounds_toArray, List.set_cons_zero, List.set_cons_succ]; rfl) (hc : anyT T l.toList l'.toList i = true := by kernel_rfl)
    (hQ : ∀ c a w, Q (.panic c) (a.put oi.dst v) w → Q (.panic c) a w := by exact fun _ _ _ h => h) (hw : Region.wanted oi (yielded ops a.tmps) = true := by rfl)
    (hy : ∀ w', (execOp a.eval oi).run P w' = .ok (.value v) w' := by intro w'; go_simp; with_reducible rfl) (ha : a.put (some N) v = a' := by simp only [Act.put, List.setIfInBounds_toArray, List.set_cons_zero, List.set_cons_succ, i64_w, i32_w]; rfl) : wpAnyLast P md ops Q S ds (fuel + 1) l a w :=
  pure_ l' hi hN (any_of hT.out hc) hQ (Or.inl ⟨hw, hy⟩) ha h
theorem uA (i N : Nat) (hT : Aside0 (rtab md ops = T)) (h : wpAnyLast P md ops Q S ds fuel l' a' w) (hi : ops[i]? = some oi := by rfl) (hN : oi.dst = some N := by rfl)
    (hl : l.setIfInBounds i true = l' := by simp only [List.setIfInBounds_toArray, List.set_cons_zero, List.set_cons_succ]; rfl) (hc : anyT T l.toList l'.toList i = true := by kernel_rfl)
    (hQ : ∀ c a w, Q (.panic c) (a.put oi.dst undef) w → Q (.panic c) a w := by exact fun _ _ _ h => h) (hw : Region.wanted oi (yielded ops a.tmps) = false := by rfl)
    (ha : a.put (some N) undef = a' := by simp only [Act.put, List.setIfInBounds_toArray, List.set_cons_zero, List.set_cons_succ, i64_w, i32_w]; rfl) : wpAnyLast P md ops Q S ds (fuel + 1) l a w :=
  pure_ l' hi hN (any_of hT.out hc) hQ (Or.inr ⟨hw, rfl⟩) ha h
theorem tA (i N : Nat) (hT : Aside0 (rtab md ops = T)) (hB : Aside0 (waitsOk T.2 B = true)) (hS : S w) (h : wpAnyLast P md ops Q S ds fuel l' a' w) (hi : ops[i]? = some oi := by rfl) (hN : oi.dst = some N := by rfl)
    (hl : l.setIfInBounds i true = l' := by simp only [List.setIfInBounds_toArray, List.set_cons_zero, List.set_cons_succ]; rfl) (hc : takeW T B ds l.toList l'.toList i = true := by kernel_rfl)
    (hQ : ∀ c a w, Q (.panic c) (a.put oi.dst v) w → Q (.panic c) a w := by exact fun _ _ _ h => h) (hw : Region.wanted oi (yielded ops a.tmps) = true := by rfl)
    (hy : ∀ w', S w' → (execOp a.eval oi).run P w' = .ok (.value v) w' := by intro w' hS_; (repeat (obtain ⟨_, hS_⟩ := hS_)); go_simp; with_reducible rfl) (ha : a.put (some N) v = a' := by simp only [Act.put, List.setIfInBounds_toArray, List.set_cons_zero, List.set_cons_succ, i64_w, i32_w]; rfl) : wpAnyLast P md ops Q S ds (fuel + 1) l a w :=
  take_ l' hi hN (take_ofW hT.out hB.out hc) hQ (Or.inl ⟨hw, hy⟩) hS ha h
theorem oA (i N : Nat) (hT : Aside0 (rtab md ops = T)) (h : ∀ K : Act → World → Prop, Shut (∀ a' w', S w' → (S w' → wpAnyLast P md ops Q S ds fuel l' a' w') → K a' w') → if Region.wanted oi (yielded ops a.tmps) = true then Oper.wp P oi a w K Q else K (a.put (some N) undef) w)
    (hi : ops[i]? = some oi := by rfl) (hN : oi.dst = some N := by rfl) (hl : l.setIfInBounds i true = l' := by simp only [List.setIfInBounds_toArray, List.set_cons_zero, List.set_cons_succ]; rfl)
    (hc : (readyT T.2 l.toList == [i] && l.toList.set i true == l'.toList) = true := by kernel_rfl) (hd : i ∉ ds := by decide) : wpAnyLast P md ops Q S ds (fuel + 1) l a w :=
  one_ l' hi hN (one_of hT.out hc) hd h
theorem nA (N : Nat) {d : Option Tmp} (h : wpAnyLast P md ops Q S ds fuel l a' w) (hd : d = some N := by rfl) (ha : a.put (some N) v = a' := by simp only [Act.put, List.setIfInBounds_toArray, List.set_cons_zero, List.set_cons_succ, i64_w, i32_w]; rfl) : wpAnyLast P md ops Q S ds fuel l (a.put d v) w := norm_ (hd ▸ ha) h
theorem sA {id : Nat} (n : Nat) (hT : rtab .any ops = T) (hB : waitsOk T.2 B = true) (S : World → Prop) (ds : List Nat) (h : S w.drew → Aside0 (rtab .any ops = T) → Aside0 (waitsOk T.2 B = true) → wpAnyLast P .any ops Q S ds n l a w.drew)
    (hm : P.follows .mixedOrders = true := by kernel_rfl) (hn : ops.size = n := by rfl) (hl : (List.replicate n false).toArray = l := by simp only [List.replicate]; rfl) (hS : S w.drew := by (repeat' apply And.intro) <;> first | trivial | exact Eq.trans (blk_cell (Aside0.out (by assumption)) _) (by rfl) | assumption | exact (HB.out.cell (World.block_lt_of_cell? w _ (by assumption))).trans (by assumption)) : (Code.region id ops true).wp P Q a w :=
  start_ l hm hn hl hS (fun hh => h hh ⟨hT⟩ ⟨hB⟩)
end
theorem sZ {p : Prop} (h : p := by (repeat' apply And.intro) <;> first | trivial | exact Eq.trans (blk_cell (Aside0.out (by assumption)) _) (by rfl) | assumption | exact (HB.out.cell (World.block_lt_of_cell? w _ (by assumption))).trans (by assumption)) : p := h
theorem ifS {α : Type} {c : Prop} [Decidable c] {x : Option α} {r : α} (h : (if c then x else none) = some r) : c ∧ x = some r := by
  by_cases hc : c
  · rw [if_pos hc] at h; exact ⟨hc, h⟩
  · rw [if_neg hc] at h; cases h
theorem ifN {α : Type} {c : Prop} [Decidable c] {x : Option α} {r : α} (h : (if c then none else x) = some r) : ¬ c ∧ x = some r := by
  by_cases hc : c
  · rw [if_pos hc] at h; cases h
  · rw [if_neg hc] at h; exact ⟨hc, h⟩
theorem bindS {α β : Type} {x : α} {f : α → Option β} {r : β} (h : (some x).bind f = some r) : f x = some r := h
theorem hbZ {p : Prop} (h : p := by repeat (first | (with_reducible first | exact HB.out | apply below_alloc | apply pw_below_drewN | apply below_drew1 | refine below_set ?_ (Aside0.out (by assumption))) | exact HB.out)) : p := h
theorem putR {cs cs' : Array Value} {i : Nat} {u : Value} (h : cs.setIfInBounds i u = cs') : cs.setIfInBounds i u = cs' := h
theorem neZ {a b : Nat} (h : a ≠ b) : a ≠ b := h
theorem blk_farZ {w : World} {g gp i : Nat} {t : TypeId} {cs : Array Value} {u : Value} (h : w.heap[g]? = some (.cells cs t (0, 0))) (hp : g ≠ gp) : (w.setCell ⟨gp, i, none⟩ u).heap[g]? = some (.cells cs t (0, 0)) := blk_far h hp u
theorem blk_eqZ {w : World} {g : Nat} {t : TypeId} {cs cs' : Array Value} {z : Nat × Nat} (h : w.heap[g]? = some (.cells cs t z)) (e : cs = cs') : w.heap[g]? = some (.cells cs' t z) := e ▸ h
theorem blk_put0 {w : World} {g i : Nat} {t : TypeId} {cs : Array Value} {u : Value} (h : w.heap[g]? = some (.cells cs t (0, 0))) : (w.setCell ⟨g, i, none⟩ u).heap[g]? = some (.cells (cs.setIfInBounds i u) t (0, 0)) := blk_set h i u
theorem bkZ {p : Prop} (h : p := by first | (with_reducible exact (Aside0.out (by assumption))) | (apply blk_eqZ; (repeat (first | (with_reducible first | refine blk_drewN ?_ _ | refine blk_drew ?_ | refine blk_alloc ?_ _ | exact (Aside0.out (by assumption)) | apply blk_put0 | apply blk_farZ) | exact neZ (Aside0.out (by assumption)))); first | (simp only [List.setIfInBounds_toArray, List.set_cons_zero, List.set_cons_succ] <;> rfl) | rfl) | (repeat (first | (with_reducible first | refine blk_drewN ?_ _ | refine blk_drew ?_ | refine blk_alloc ?_ _ | exact (Aside0.out (by assumption)) | apply blk_put | apply blk_farZ) | ((with_reducible refine putR ?_); simp only [List.setIfInBounds_toArray, List.set_cons_zero, List.set_cons_succ] <;> rfl) | exact putR rfl | exact neZ (Aside0.out (by assumption)) | with_reducible apply blk_far))) : p := h
theorem rZ {p q : Prop} (h0 : p) (h : p → q := by intro h_; (with_reducible repeat (first | apply Kd.R_alloc | apply Kd.R_drewN | apply Kd.R_drew)); exact h_) : q := h h0
theorem vZ {p q : Prop} (h0 : p) (h : p → q := by intro h_; (with_reducible repeat (first | apply Kd.V_alloc | apply Kd.V_drewN | apply Kd.V_drew)); exact h_) : q := h h0
theorem kZ {p q : Prop} (h0 : p) (h : p → q := by intro h_; (with_reducible repeat (first | apply Kd.Q_alloc | apply Kd.Q_drewN | apply Kd.Q_drew)); exact h_) : q := h h0
theorem aM {p : Prop} (h : p) : Aside0 p := ⟨h⟩
theorem nbL {w : World} {gb : Nat} (g : Nat) {o : Obj} (hg : gb = w.heap.size) (hb : w.heap[g]? = some o := by exact bkZ) : Aside0 (g ≠ gb) := ⟨by rw [hg]; exact Nat.ne_of_lt (blk_lt hb)⟩
theorem nbR {w : World} {gb : Nat} (g : Nat) {o : Obj} (hg : gb = w.heap.size) (hb : w.heap[g]? = some o := by exact bkZ) : Aside0 (gb ≠ g) := ⟨by rw [hg]; exact Nat.ne_of_gt (blk_lt hb)⟩
theorem szZ {w w0 : World} {gb : Nat} (hg : gb = w.heap.size) (hb : Below w0.heap.size w0 w := by exact hbZ) : Aside0 (w0.heap.size ≤ gb) := ⟨by rw [hg]; exact below_size hb⟩
theorem cZ {p q : Prop} (h0 : p) (h : p → q := by intro h_; repeat (first | exact h_ | (with_reducible refine Kd.C_alloc ?_ _) | (with_reducible refine Kd.C_drewN ?_ _) | (with_reducible refine Kd.C_drew ?_))) : q := h h0
theorem bB {w w1 : World} (g : Nat) {o : Obj} (hb : Below w.heap.size w w1) (h : w.heap[g]? = some o := by exact bkZ) : Aside0 (w1.heap[g]? = some o) := ⟨blk_below h hb⟩
theorem nbB {w : World} {gb : Nat} (g : Nat) {o : Obj} (hg : gb = w.heap.size) (hb : w.heap[g]? = some o := by exact bkZ) : Aside0 (g ≠ gb) ∧ Aside0 (gb ≠ g) := ⟨nbL g hg hb, nbR g hg hb⟩
theorem qF1 {α : Type} {d : Kd α} {e : Nat} {w : World} {base : Nat} {ok : Nat → Prop} {v : Value} {xs : List α} {g t : Nat} {cells : Array Value} {a0 : Value} (h : Kd.Q d e w base ok v xs) (hb : w.heap[g]? = some (.cells cells t (0, 0))) (ht : ∀ q, q ∈ e :: d.E → q ≠ t := by decide) : Kd.Q d e (w.setCell ⟨g, 0, none⟩ a0) base ok v xs := Kd.Q_mono (Kd.Q_far (p := ⟨g, 0, none⟩) (Kd.Q_types h hb ht) (fun _ hk => hk.2) a0) (fun _ h_ => h_.1)
theorem rF6 {α : Type} {d : Kd α} {e : Nat} {w : World} {base : Nat} {ok : Nat → Prop} {v : Value} {xs : List α} {g t : Nat} {cells : Array Value} {a0 a1 a2 a3 a4 a5 : Value} (h : Kd.R d e w base ok v xs) (hb : w.heap[g]? = some (.cells cells t (0, 0))) (ht : ∀ q, q ∈ e :: d.E → q ≠ t := by decide) : Kd.R d e ((((((w.setCell ⟨g, 0, none⟩ a0).setCell ⟨g, 1, none⟩ a1).setCell ⟨g, 2, none⟩ a2).setCell ⟨g, 3, none⟩ a3).setCell ⟨g, 4, none⟩ a4).setCell ⟨g, 5, none⟩ a5) base ok v xs := Kd.R_mono (Kd.R_far (p := ⟨g, 5, none⟩) (Kd.R_far (p := ⟨g, 4, none⟩) (Kd.R_far (p := ⟨g, 3, none⟩) (Kd.R_far (p := ⟨g, 2, none⟩) (Kd.R_far (p := ⟨g, 1, none⟩) (Kd.R_far (p := ⟨g, 0, none⟩) (Kd.R_types h hb ht) (fun _ hk => hk.2) a0) (fun _ hk => hk.2) a1) (fun _ hk => hk.2) a2) (fun _ hk => hk.2) a3) (fun _ hk => hk.2) a4) (fun _ hk => hk.2) a5) (fun _ h_ => h_.1)
theorem cellsZ6 {w : World} {g : Nat} {t : TypeId} {a0 a1 a2 a3 a4 a5 : Value} (h : w.heap[g]? = some (.cells #[a0, a1, a2, a3, a4, a5] t (0, 0))) : w.cell? ⟨g, 0, none⟩ = some a0 ∧ w.cell? ⟨g, 1, none⟩ = some a1 ∧ w.cell? ⟨g, 2, none⟩ = some a2 ∧ w.cell? ⟨g, 3, none⟩ = some a3 ∧ w.cell? ⟨g, 4, none⟩ = some a4 ∧ w.cell? ⟨g, 5, none⟩ = some a5 ∧ w.frozen? ⟨g, 0, none⟩ = false ∧ w.frozen? ⟨g, 1, none⟩ = false ∧ w.frozen? ⟨g, 2, none⟩ = false ∧ w.frozen? ⟨g, 3, none⟩ = false ∧ w.frozen? ⟨g, 4, none⟩ = false ∧ w.frozen? ⟨g, 5, none⟩ = false := ⟨(blk_cell h 0).trans rfl, (blk_cell h 1).trans rfl, (blk_cell h 2).trans rfl, (blk_cell h 3).trans rfl, (blk_cell h 4).trans rfl, (blk_cell h 5).trans rfl, blk_frozen h 0, blk_frozen h 1, blk_frozen h 2, blk_frozen h 3, blk_frozen h 4, blk_frozen h 5⟩
theorem cellsZ9 {w : World} {g : Nat} {t : TypeId} {a0 a1 a2 a3 a4 a5 a6 a7 a8 : Value} (h : w.heap[g]? = some (.cells #[a0, a1, a2, a3, a4, a5, a6, a7, a8] t (0, 0))) : w.cell? ⟨g, 0, none⟩ = some a0 ∧ w.cell? ⟨g, 1, none⟩ = some a1 ∧ w.cell? ⟨g, 2, none⟩ = some a2 ∧ w.cell? ⟨g, 3, none⟩ = some a3 ∧ w.cell? ⟨g, 4, none⟩ = some a4 ∧ w.cell? ⟨g, 5, none⟩ = some a5 ∧ w.cell? ⟨g, 6, none⟩ = some a6 ∧ w.cell? ⟨g, 7, none⟩ = some a7 ∧ w.cell? ⟨g, 8, none⟩ = some a8 ∧ w.frozen? ⟨g, 0, none⟩ = false ∧ w.frozen? ⟨g, 1, none⟩ = false ∧ w.frozen? ⟨g, 2, none⟩ = false ∧ w.frozen? ⟨g, 3, none⟩ = false ∧ w.frozen? ⟨g, 4, none⟩ = false ∧ w.frozen? ⟨g, 5, none⟩ = false ∧ w.frozen? ⟨g, 6, none⟩ = false ∧ w.frozen? ⟨g, 7, none⟩ = false ∧ w.frozen? ⟨g, 8, none⟩ = false := ⟨(blk_cell h 0).trans rfl, (blk_cell h 1).trans rfl, (blk_cell h 2).trans rfl, (blk_cell h 3).trans rfl, (blk_cell h 4).trans rfl, (blk_cell h 5).trans rfl, (blk_cell h 6).trans rfl, (blk_cell h 7).trans rfl, (blk_cell h 8).trans rfl, blk_frozen h 0, blk_frozen h 1, blk_frozen h 2, blk_frozen h 3, blk_frozen h 4, blk_frozen h 5, blk_frozen h 6, blk_frozen h 7, blk_frozen h 8⟩
theorem z002d {p : Prop} (h : p := by have := HJ3.out; have := HK2.out; have := HK3.out; have := HK4.out; omega) : p := h
theorem z00c4 {p : Prop} (h : p := by repeat (first | (with_reducible first | exact HI101.out | apply IsS76.alloc | apply IsS76.drewN | apply IsS76.drew | apply IsS76.set_1 | apply IsS76.set_2) | exact HI101.out)) : p := h
theorem z02fa {p : Prop} (h : p := by first | exact Kd.R_nil _ _ _ _ _ | exact Kd.N_nil _ _ _ _ _ | exact Kd.V_nil _ _ _ _ _ | exact Kd.Q_nil _ _ _ _ _ | exact Kd.S_nil _ _ _ _ _) : p := h
theorem z0c8c {p : Prop} (h : p := by (with_reducible repeat (first | apply Kd.R_alloc | apply Kd.R_drewN | apply Kd.R_drew)); exact Kd.R_mono HO_6.out (fun _ hk => trivial)) : p := h
theorem z0f56 {p : Prop} (h : p := by repeat (first | (with_reducible first | exact HI0.out | apply IsS76.alloc | apply IsS76.drewN | apply IsS76.drew | apply IsS76.set_1 | apply IsS76.set_2) | exact HI0.out)) : p := h
theorem z10d8 {p : Prop} (h : p := by (with_reducible repeat (first | apply Kd.R_alloc | apply Kd.R_drewN | apply Kd.R_drew)); exact Kd.R_mono HO141.out (fun _ hk => hk.1.1.2)) : p := h
theorem z1200 {p : Prop} (h : p := by first | (with_reducible assumption) | assumption) : p := h
theorem z1484 {p : Prop} (h : p := by have := HJ3.out; have := HK2.out; have := HK3.out; have := HK4.out; have := HK5.out; omega) : p := h
theorem z16b9 {p : Prop} (h : p := by repeat (first | (with_reducible first | exact HI0.out | apply IsS76.alloc | apply IsS76.drewN | apply IsS76.drew | apply IsS76.set_1 | apply IsS76.set_2 | refine IsS76.far ?_ (Aside0.out (by assumption)) _) | exact HI0.out)) : p := h
theorem z1bd3 {p : Prop} (h : p := by (with_reducible repeat (first | apply Kd.S_alloc | apply Kd.S_drewN | apply Kd.S_drew)); exact HO103.out) : p := h
theorem z20da {p : Prop} (h : p := by (with_reducible repeat (first | apply Kd.R_alloc | apply Kd.R_drewN | apply Kd.R_drew)); exact Kd.R_mono (Kd.R_far (p := ⟨gb109, 8, none⟩) (Kd.R_far (p := ⟨gb109, 7, none⟩) (Kd.R_far (p := ⟨gb109, 6, none⟩) (Kd.R_far (p := ⟨gb109, 5, none⟩) (Kd.R_far (p := ⟨gb109, 4, none⟩) (Kd.R_far (p := ⟨gb109, 3, none⟩) (Kd.R_far (p := ⟨gb109, 2, none⟩) (Kd.R_far (p := ⟨gb109, 1, none⟩) (Kd.R_far (p := ⟨gb109, 0, none⟩) (Kd.R_types HO_3.out BK109.out (by decide)) (fun _ hk => hk.2) (.string ((rd_T45 l0 x9_1).f0))) (fun _ hk => hk.2) (.int .i64 ((rd_T45 l0 x9_1).f1))) (fun _ hk => hk.2) (.int .i64 ((rd_T45 l0 x9_1).f2))) (fun _ hk => hk.2) (.int .i64 ((rd_T45 l0 x9_1).f3.f0))) (fun _ hk => hk.2) (.int .i64 ((rd_T45 l0 x9_1).f3.f1))) (fun _ hk => hk.2) (.int .i64 ((rd_T45 l0 x9_1).f3.f2))) (fun _ hk => hk.2) (.int .i64 ((rd_T45 l0 x9_1).f3.f3))) (fun _ hk => hk.2) (.slice A108_7 ((rd_T45 l0 x9_1).f3.f4).length c108_7)) (fun _ hk => hk.2) (.bool ((rd_T45 l0 x9_1).f3.f5))) (fun _ hk => trivial)) : p := h
theorem z2bfb {p : Prop} (h : p := by first | exact Kd.S_nil _ _ _ _ _ | exact Kd.N_nil _ _ _ _ _ | exact Kd.V_nil _ _ _ _ _ | exact Kd.Q_nil _ _ _ _ _ | exact Kd.R_nil _ _ _ _ _) : p := h
theorem z3e8a {p : Prop} (h : p := by repeat (first | exact (Kd.R_reads' HO136.out).2.2 | (with_reducible refine Kd.C_alloc ?_ _) | (with_reducible refine Kd.C_drewN ?_ _) | (with_reducible refine Kd.C_drew ?_))) : p := h
theorem z3fd5 {p : Prop} (h : p := by repeat (first | exact (Kd.R_reads' HO106.out).2.2 | (with_reducible refine Kd.C_alloc ?_ _) | (with_reducible refine Kd.C_drewN ?_ _) | (with_reducible refine Kd.C_drew ?_))) : p := h
theorem z4195 {p : Prop} (h : p := by repeat (first | exact HR0.out | (with_reducible refine Kd.C_alloc ?_ _) | (with_reducible refine Kd.C_drewN ?_ _) | (with_reducible refine Kd.C_drew ?_))) : p := h
theorem z423e {p : Prop} (h : p := by (with_reducible repeat (first | apply Kd.S_alloc | apply Kd.S_drewN | apply Kd.S_drew)); exact HO_5.out) : p := h
theorem z4458 {p : Prop} (h : p := by first | rfl | (simp; done) | (simp [*]; done)) : p := h
theorem z52d0 {p : Prop} (h : p := by (with_reducible repeat (first | apply Kd.N_alloc | apply Kd.N_drewN | apply Kd.N_drew)); exact HO_5.out) : p := h
theorem z5acd {p : Prop} (h : p := by repeat (first | (with_reducible first | exact HB.out | apply below_alloc | apply pw_below_drewN | apply below_drew1) | exact HB.out)) : p := h
theorem z674d {p : Prop} (h : p := by first | rfl | (simp [errW_none, errW_some] <;> rfl) | (simp [*, errW_none, errW_some] <;> rfl)) : p := h
theorem z7c8e {p : Prop} (h : p := by repeat (first | (with_reducible first | exact HK.out | apply KeepBut.set_ | apply keep_drewN | apply keep_drew | apply keep_alloc | refine keep_far (w := w) ?_ (Aside0.out (by assumption)) _) | exact HK.out)) : p := h
theorem z8c10 {p : Prop} (h : p := by (try simp only [List.map_toArray, List.map_cons, List.map_nil]); first | done | (simp only [hji8]; rfl) | rfl | (simp only [List.length_drop, List.length_take]; rfl)) : p := h
theorem z8d7a {p : Prop} (h : p := by (with_reducible repeat (first | apply Kd.Q_alloc | apply Kd.Q_drewN | apply Kd.Q_drew)); exact (Kd.Q_mono (Kd.Q_far (p := ⟨gb115, 8, none⟩) (Kd.Q_far (p := ⟨gb115, 7, none⟩) (Kd.Q_far (p := ⟨gb115, 6, none⟩) (Kd.Q_far (p := ⟨gb115, 5, none⟩) (Kd.Q_far (p := ⟨gb115, 4, none⟩) (Kd.Q_far (p := ⟨gb115, 3, none⟩) (Kd.Q_far (p := ⟨gb115, 2, none⟩) (Kd.Q_far (p := ⟨gb115, 1, none⟩) (Kd.Q_far (p := ⟨gb115, 0, none⟩) (Kd.Q_types HO113.out BK115.out (by decide)) (fun _ hk => hk.2) (.string t104)) (fun _ hk => hk.2) (.int .i64 t105)) (fun _ hk => hk.2) (.int .i64 t106)) (fun _ hk => hk.2) (.int .i64 t107)) (fun _ hk => hk.2) (.int .i64 t108)) (fun _ hk => hk.2) (.int .i64 t109)) (fun _ hk => hk.2) (.int .i64 t110)) (fun _ hk => hk.2) (.slice Ao11 t111.length co11)) (fun _ hk => hk.2) (.bool t114)) (fun _ h_ => h_.1))) : p := h
theorem za61f {p : Prop} (h : p := by repeat (first | (with_reducible first | exact HI102.out | apply IsS76.alloc | apply IsS76.drewN | apply IsS76.drew | apply IsS76.set_1 | apply IsS76.set_2 | refine IsS76.far ?_ (Aside0.out (by assumption)) _) | exact HI102.out)) : p := h
theorem za8af {p : Prop} (h : p := by repeat (first | (with_reducible first | exact HB.out | apply below_alloc | apply pw_below_drewN | apply below_drew1 | refine below_set ?_ (IsS76.ge (Aside0.out (by assumption))) | refine below_set ?_ (Aside0.out (by assumption))) | exact HB.out)) : p := h
theorem za9de {p : Prop} (h : p := by repeat (first | exact Drawn0.refl _ | apply Drawn0.step)) : p := h
theorem zb4a0 {p : Prop} (h : p := by first | (simp only [putAll, Act.put, List.setIfInBounds_toArray, List.set_cons_zero, List.set_cons_succ]; done) | (simp only [putAll, Act.put, List.setIfInBounds_toArray, List.set_cons_zero, List.set_cons_succ]; rfl)) : p := h
theorem zb79b {p : Prop} (h : p := by first | omega | exact Nat.le_refl _) : p := h
theorem zbc88 {p : Prop} (h : p := by repeat (first | (with_reducible exact HR102_7.out) | (with_reducible refine Kd.C_alloc ?_ _) | (with_reducible refine Kd.C_drewN ?_ _) | (with_reducible refine Kd.C_drew ?_) | exact HR102_7.out)) : p := h
theorem zc07f {p : Prop} (h : p := by (with_reducible repeat (first | apply Kd.R_alloc | apply Kd.R_drewN | apply Kd.R_drew)); exact Kd.R_mono (Kd.R_far (p := ⟨gb102, 8, none⟩) (Kd.R_far (p := ⟨gb102, 7, none⟩) (Kd.R_far (p := ⟨gb102, 6, none⟩) (Kd.R_far (p := ⟨gb102, 5, none⟩) (Kd.R_far (p := ⟨gb102, 4, none⟩) (Kd.R_far (p := ⟨gb102, 3, none⟩) (Kd.R_far (p := ⟨gb102, 2, none⟩) (Kd.R_far (p := ⟨gb102, 1, none⟩) (Kd.R_far (p := ⟨gb102, 0, none⟩) (Kd.R_types HO_3.out BK102.out (by decide)) (fun _ hk => hk.2) (.string ((rd_T45 l0 x12_1).f0))) (fun _ hk => hk.2) (.int .i64 ((rd_T45 l0 x12_1).f1))) (fun _ hk => hk.2) (.int .i64 ((rd_T45 l0 x12_1).f2))) (fun _ hk => hk.2) (.int .i64 ((rd_T45 l0 x12_1).f3.f0))) (fun _ hk => hk.2) (.int .i64 ((rd_T45 l0 x12_1).f3.f1))) (fun _ hk => hk.2) (.int .i64 ((rd_T45 l0 x12_1).f3.f2))) (fun _ hk => hk.2) (.int .i64 ((rd_T45 l0 x12_1).f3.f3))) (fun _ hk => hk.2) (.slice A101_7 ((rd_T45 l0 x12_1).f3.f4).length c101_7)) (fun _ hk => hk.2) (.bool ((rd_T45 l0 x12_1).f3.f5))) (fun _ hk => trivial)) : p := h
theorem zc2be {p : Prop} (h : p := by have := HK1.out; have := HK2.out; omega) : p := h
theorem zc59d {p : Prop} (h : p := by repeat (first | (with_reducible first | exact HB.out | apply below_alloc | apply pw_below_drewN | apply below_drew1 | refine below_set ?_ (IsS76.ge (Aside0.out (by assumption)))) | exact HB.out)) : p := h
theorem zcb41 {p : Prop} (h : p := by repeat (first | (with_reducible first | exact HB.out | apply below_alloc | apply pw_below_drewN | apply below_drew1 | refine below_set ?_ (Aside0.out (by assumption))) | exact HB.out)) : p := h
theorem zcbec {p : Prop} (h : p := by repeat (first | (with_reducible first | exact HK.out | apply KeepBut.set_ | apply keep_drewN | apply keep_drew | apply keep_alloc) | exact HK.out)) : p := h
theorem zd74a {p : Prop} (h : p := by (with_reducible repeat (first | apply Kd.S_alloc | apply Kd.S_drewN | apply Kd.S_drew)); exact HO_3.out) : p := h
theorem zdaed {p : Prop} (h : p := by (with_reducible repeat (first | apply Kd.R_alloc | apply Kd.R_drewN | apply Kd.R_drew)); exact Kd.R_mono HO130.out (fun _ hk => hk.2)) : p := h
theorem zdc19 {p : Prop} (h : p := by have := HJ1.out; have := HK2.out; first | omega | exact Nat.le_refl _) : p := h
theorem ze16d {p : Prop} (h : p := by (with_reducible repeat (first | apply Kd.Q_alloc | apply Kd.Q_drewN | apply Kd.Q_drew)); exact Kd.Q_mono HO_116007.out (fun _ hk => hk.1.2)) : p := h
theorem ze59a {p : Prop} (h : p := by have := HK1.out; first | omega | exact Nat.le_refl _) : p := h
theorem zec1d {p : Prop} (h : p := by (with_reducible repeat (first | apply Kd.R_alloc | apply Kd.R_drewN | apply Kd.R_drew)); exact Kd.R_mono HO133.out (fun _ hk => hk.2)) : p := h
theorem zee81 {p : Prop} (h : p := by (try simp only [List.map_toArray, List.map_cons, List.map_nil]); first | done | rfl | (simp only [List.length_drop, List.length_take]; rfl)) : p := h
theorem zfb39 {p : Prop} (h : p := by have := HK1.out; omega) : p := h
set_option linter.unusedVariables false
theorem dL {α : Type} [LT α] {a b : α} [Decidable (a < b)] (h : a < b) : decide (a < b) = true := decide_eq_true h
theorem dE {α : Type} [LE α] {a b : α} [Decidable (a ≤ b)] (h : a ≤ b) : decide (a ≤ b) = true := decide_eq_true h
theorem nL {α : Type} [LT α] {a b : α} [Decidable (a < b)] (h : ¬ a < b) : decide (a < b) = false := decide_eq_false h
theorem nE {α : Type} [LE α] {a b : α} [Decidable (a ≤ b)] (h : ¬ a ≤ b) : decide (a ≤ b) = false := decide_eq_false h
theorem eqE {α : Type} [BEq α] [LawfulBEq α] {a b : α} (h : a = b) : (a == b) = true ∧ (a != b) = false := ⟨beq_iff_eq.mpr h, bne_eq_false_iff_eq.mpr h⟩
theorem eqN {α : Type} [BEq α] [LawfulBEq α] {a b : α} (h : ¬ a = b) : (a == b) = false ∧ (a != b) = true := ⟨beq_eq_false_iff_ne.mpr h, bne_iff_ne.mpr h⟩
theorem sL {α β : Type} [LT β] {a b : β} [Decidable (a < b)] {x : Option α} {r : α} (h : (if a < b then x else none) = some r) : decide (a < b) = true ∧ x = some r := ⟨dL (ifS h).1, (ifS h).2⟩
theorem sE {α β : Type} [LE β] {a b : β} [Decidable (a ≤ b)] {x : Option α} {r : α} (h : (if a ≤ b then x else none) = some r) : decide (a ≤ b) = true ∧ x = some r := ⟨dE (ifS h).1, (ifS h).2⟩
theorem sM {α : Type} {c : Prop} [Decidable c] {x : Option α} {r : α} (h : (if c then x else none) = some r) : Aside0 c ∧ x = some r := ⟨⟨(ifS h).1⟩, (ifS h).2⟩
theorem bS {α β : Type} {x : Option α} {f : α → Option β} {r : β} (h : x.bind f = some r) : ∃ a, Aside0 (x = some a) ∧ f a = some r := by
  obtain ⟨a, h1, h2⟩ := Option.bind_eq_some_iff.mp h
  exact ⟨a, ⟨h1⟩, h2⟩
theorem moZ {p : Prop} (h : p := by repeat' first | (with_reducible first | exact LeO.refl _ | exact LeO.none _ | exact ih0 .. | exact ih1 .. | exact ih2 .. | exact ih3 .. | exact ih4 .. | exact ih5 .. | exact ih6 .. | exact ih7 .. | exact ih8 .. | exact ih9 .. | exact m0 .. | exact m1 .. | exact m2 .. | exact m3 .. | exact m4 .. | exact m5 .. | exact m6 .. | exact m7 .. | exact m8 .. | exact m9 .. | refine LeO.ite ?_ ?_ | refine LeO.bind ?_ (fun _ => ?_)) | exact LeO.none _ | refine LeO.ite ?_ ?_ | refine LeO.bind ?_ (fun _ => ?_)) : p := h
section
variable {P : Program} {ops : Array Oper} {o : Oper} {a : Act} {Q : Exit → Act → World → Prop} {W w : World} {rest : List Oper}
theorem bX (N : Tmp) (t : TypeId) (cs : Array Value) (h : ∀ g, g = W.heap.size → ∀ w1, w1.heap[g]? = some (.cells cs t (0, 0)) → Below W.heap.size W w1 → wpList P ops Q rest (a.put o.dst (.pointer (some ⟨g, 0, none⟩))) w1)
    (hd : o.dst = some N := by rfl) (hg : o.guard = none := by rfl) (hr : (execOp a.eval o).run P W = .ok (.value (.pointer (some ⟨W.heap.size, 0, none⟩))) (W.alloc (.cells cs t (0, 0))) := by first | (go_simp; done) | (go_simp; rfl)) : wpList P ops Q (o :: rest) a W := box_event hg hd hr h
theorem gL (N : Tmp) {f : FuncId} {fn : Func} {xs : Array Operand} {ts : Array TypeId} (hf : P.funcs[f]? = some fn) (args : Array Value) (h : Calls P f args w fun e w' => ∃ v, e = .returned v ∧ wpList P ops Q rest (a.put (some N) v) w')
    (hb : fn.body.isSome = true := by kernel_rfl) (hd : o.dst = some N := by rfl) (hg : o.guard = none := by rfl) (hname : (fn.name == "runtime.NumGoroutine") = false := by rfl)
    (hop : o.op = .call { callee := .value (.func f), args := xs, argTypes := ts } := by rfl) (hargs : xs.map a.eval = args := by (try simp only [List.map_toArray, List.map_cons, List.map_nil]); first | done | rfl | (simp only [List.length_drop, List.length_take]; rfl)) : wpList P ops Q (o :: rest) a w := goesL_ (some N) hd hg hf hname hb args hop hargs h
end
end Go.Proofs.Ytdkokfnnebdppaa.P
end
namespace Go.Proofs.Ytdkokfnnebdppaa.P
open Go.RowKit Go.Proofs.YtdkokfnnebdppaaW.PrintWords Go.Proofs.YtdkokfnnebdppaaW.PrintLast Go.Proofs.YtdkokfnnebdppaaW.PrintMore
attribute [local go_sem] max2_int min2_int max_two min_two max_three min_three max_four min_four str_geq str_gtr str_leq
set_option linter.unusedVariables false
set_option linter.unusedSimpArgs false
def errW : Option Int → Value
  | none => .nilIface
  | some c => .iface 0 (.int .i64 c)
theorem errW_none : errW none = .nilIface := rfl
theorem errW_some (c : Int) : errW (some c) = .iface 0 (.int .i64 c) := rfl
theorem info3 : (Try.prog.info? 3).map (fun i => (i.zero, i.size, i.bytes)) = some (some (.int .i64 0), 1, 8) := by kernel_rfl
theorem info5 : (Try.prog.info? 5).map (fun i => (i.zero, i.size, i.bytes)) = some (some (.int .u8 0), 1, 1) := by kernel_rfl
theorem info9 : (Try.prog.info? 9).map (fun i => (i.zero, i.size, i.bytes)) = some (some (.string ⟨#[]⟩), 1, 16) := by kernel_rfl
theorem info45 : (Try.prog.info? 45).map (fun i => (i.zero, i.size, i.bytes)) = some (some (.agg #[(.string ⟨#[]⟩), (.int .i64 0), (.int .i64 0), (.int .i64 0), (.int .i64 0), (.int .i64 0), (.int .i64 0), (.slice none 0 0), (.bool false)]), 9, 96) := by kernel_rfl
def rd_L2 (xs : List (List Int)) (i : Int) : (List Int) := xs.getD i.toNat ([] : List Int)
theorem at_L2 {w : World} {A : Option Addr} {n : Nat} {xs : List (List Int)} (h : Kd.C (Kd.slice 3 (Kd.int .i64)) w A n xs) (i : Int) (h0 : 0 ≤ i) (h1 : i < n) : ∃ ad A0 c0, A = some ad ∧ w.cell? (ad.add i.toNat) = some (.slice A0 (rd_L2 xs i).length c0) ∧ (rd_L2 xs i).length ≤ c0 ∧ (Kd.int .i64).C w A0 (rd_L2 xs i).length (rd_L2 xs i) := by
  obtain ⟨ad, c, e, _, hK, hc0⟩ := Kd.C_get h ([] : List Int) i h0 h1
  have hc : ∀ j u, c[j]? = some u → w.cell? (ad.add (i.toNat * 1 + j)) = some u := hc0
  obtain ⟨A0, c0, rfl, l0, g0⟩ := hK
  exact ⟨ad, A0, c0, e, by have hq := hc 0 _ rfl; rwa [Nat.mul_one, Nat.add_zero] at hq, l0, g0⟩
structure S39 where
  f0 : Int
  f1 : Int
  f2 : Int
  f3 : Int
  f4 : (List Int)
  f5 : Bool
def z39 : S39 := ⟨(0 : Int), (0 : Int), (0 : Int), (0 : Int), ([] : List Int), false⟩
def k39 : Kd S39 := Kd.iso (Kd.pair (Kd.int .i64) (Kd.pair (Kd.int .i64) (Kd.pair (Kd.int .i64) (Kd.pair (Kd.int .i64) (Kd.pair (Kd.slice 3 (Kd.int .i64)) Kd.bool))))) (fun x : S39 => (x.f0, x.f1, x.f2, x.f3, x.f4, x.f5))
theorem k39_heap : Kd.Heap k39 := Kd.heap_iso _ (Kd.heap_pair (Kd.heap_int .i64) (Kd.heap_pair (Kd.heap_int .i64) (Kd.heap_pair (Kd.heap_int .i64) (Kd.heap_pair (Kd.heap_int .i64) (Kd.heap_pair (Kd.heap_slice 3 (Kd.heap_int .i64)) Kd.heap_bool)))))
theorem k39_open {w : World} {x : S39} {cs : List Value} (h : k39.K w x cs) : ∃ A4 c4, cs = [.int .i64 x.f0, .int .i64 x.f1, .int .i64 x.f2, .int .i64 x.f3, .slice A4 x.f4.length c4, .bool x.f5] ∧ x.f4.length ≤ c4 ∧ (Kd.int .i64).C w A4 x.f4.length x.f4 := by
  obtain ⟨_, _, rfl, rfl, ⟨_, _, rfl, rfl, ⟨_, _, rfl, rfl, ⟨_, _, rfl, rfl, ⟨_, _, rfl, ⟨A4, c4, rfl, l4, g4⟩, rfl⟩⟩⟩⟩⟩ := h
  exact ⟨A4, c4, rfl, l4, g4⟩
theorem k39_openM {w : World} {base : Nat} {ok : Nat → Prop} {x : S39} {cs : List Value} (h : k39.M w base ok x cs) : ∃ v4, cs = [.int .i64 x.f0, .int .i64 x.f1, .int .i64 x.f2, .int .i64 x.f3, v4, .bool x.f5] ∧ (Kd.int .i64).R 3 w base ok v4 x.f4 := by
  obtain ⟨_, _, rfl, rfl, ⟨_, _, rfl, rfl, ⟨_, _, rfl, rfl, ⟨_, _, rfl, rfl, ⟨_, _, rfl, ⟨v4, rfl, g4⟩, rfl⟩⟩⟩⟩⟩ := h
  exact ⟨v4, rfl, g4⟩
theorem k39_mk (w : World) (x : S39) {A4 : Option Addr} {c4 : Nat} (l4 : x.f4.length ≤ c4) (g4 : (Kd.int .i64).C w A4 x.f4.length x.f4) : k39.K w x [.int .i64 x.f0, .int .i64 x.f1, .int .i64 x.f2, .int .i64 x.f3, .slice A4 x.f4.length c4, .bool x.f5] := ⟨[.int .i64 x.f0], [.int .i64 x.f1, .int .i64 x.f2, .int .i64 x.f3, .slice A4 x.f4.length c4, .bool x.f5], rfl, rfl, ⟨[.int .i64 x.f1], [.int .i64 x.f2, .int .i64 x.f3, .slice A4 x.f4.length c4, .bool x.f5], rfl, rfl, ⟨[.int .i64 x.f2], [.int .i64 x.f3, .slice A4 x.f4.length c4, .bool x.f5], rfl, rfl, ⟨[.int .i64 x.f3], [.slice A4 x.f4.length c4, .bool x.f5], rfl, rfl, ⟨[.slice A4 x.f4.length c4], [.bool x.f5], rfl, ⟨A4, c4, rfl, l4, g4⟩, rfl⟩⟩⟩⟩⟩
theorem k39_mkM (w : World) (base : Nat) (ok : Nat → Prop) (x : S39) {v4 : Value} (g4 : (Kd.int .i64).R 3 w base ok v4 x.f4) : k39.M w base ok x [.int .i64 x.f0, .int .i64 x.f1, .int .i64 x.f2, .int .i64 x.f3, v4, .bool x.f5] := ⟨[.int .i64 x.f0], [.int .i64 x.f1, .int .i64 x.f2, .int .i64 x.f3, v4, .bool x.f5], rfl, rfl, ⟨[.int .i64 x.f1], [.int .i64 x.f2, .int .i64 x.f3, v4, .bool x.f5], rfl, rfl, ⟨[.int .i64 x.f2], [.int .i64 x.f3, v4, .bool x.f5], rfl, rfl, ⟨[.int .i64 x.f3], [v4, .bool x.f5], rfl, rfl, ⟨[v4], [.bool x.f5], rfl, ⟨v4, rfl, g4⟩, rfl⟩⟩⟩⟩⟩
theorem k39_openF {W : World} {ok : Nat → Prop} {x : S39} {cs : List Value} (h : Kd.FK k39 W ok x cs) : ∃ A4 c4, cs = [.int .i64 x.f0, .int .i64 x.f1, .int .i64 x.f2, .int .i64 x.f3, .slice A4 x.f4.length c4, .bool x.f5] ∧ x.f4.length ≤ c4 ∧ Kd.F (Kd.int .i64) W ok A4 x.f4.length x.f4 := by
  obtain ⟨A4, c4, rfl, l4, _⟩ := k39_open (Kd.FK_now h)
  exact ⟨A4, c4, rfl, l4, (fun W' hW => by obtain ⟨A4_, c4_, he, l4_, g4_⟩ := k39_open (h W' hW); injection (Option.some.inj (show some (Value.slice A4 x.f4.length c4) = some (Value.slice A4_ x.f4.length c4_) from congrArg (fun l => l[4]?) he)) with ha_ _ _; rw [ha_]; exact g4_)⟩
theorem k39_mkF (W : World) (ok : Nat → Prop) (x : S39) {A4 : Option Addr} {c4 : Nat} (l4 : x.f4.length ≤ c4) (g4 : Kd.F (Kd.int .i64) W ok A4 x.f4.length x.f4) : Kd.FK k39 W ok x [.int .i64 x.f0, .int .i64 x.f1, .int .i64 x.f2, .int .i64 x.f3, .slice A4 x.f4.length c4, .bool x.f5] := fun W2 hW => k39_mk W2 x l4 (g4 W2 hW)
def rd_T39 (xs : List S39) (i : Int) : S39 := xs.getD i.toNat z39
theorem at_T39 {w : World} {A : Option Addr} {n : Nat} {xs : List S39} (h : Kd.C k39 w A n xs) (i : Int) (h0 : 0 ≤ i) (h1 : i < n) : ∃ ad A4 c4, A = some ad ∧ w.cell? (ad.add (i.toNat * 6)) = some (.int .i64 (rd_T39 xs i).f0) ∧ w.cell? ⟨(ad.add (i.toNat * 6)).block, (ad.add (i.toNat * 6)).off + 1, none⟩ = some (.int .i64 (rd_T39 xs i).f1) ∧ w.cell? ⟨(ad.add (i.toNat * 6)).block, (ad.add (i.toNat * 6)).off + 2, none⟩ = some (.int .i64 (rd_T39 xs i).f2) ∧ w.cell? ⟨(ad.add (i.toNat * 6)).block, (ad.add (i.toNat * 6)).off + 3, none⟩ = some (.int .i64 (rd_T39 xs i).f3) ∧ w.cell? ⟨(ad.add (i.toNat * 6)).block, (ad.add (i.toNat * 6)).off + 4, none⟩ = some (.slice A4 (rd_T39 xs i).f4.length c4) ∧ w.cell? ⟨(ad.add (i.toNat * 6)).block, (ad.add (i.toNat * 6)).off + 5, none⟩ = some (.bool (rd_T39 xs i).f5) ∧ (rd_T39 xs i).f4.length ≤ c4 ∧ (Kd.int .i64).C w A4 (rd_T39 xs i).f4.length (rd_T39 xs i).f4 := by
  obtain ⟨ad, c, e, _, hK, hc0⟩ := Kd.C_get h z39 i h0 h1
  have hc : ∀ j u, c[j]? = some u → w.cell? (ad.add (i.toNat * 6 + j)) = some u := hc0
  obtain ⟨A4, c4, rfl, l4, g4⟩ := k39_open hK
  exact ⟨ad, A4, c4, e, hc 0 _ rfl, by rw [← add_field _ _ 1 (by omega)]; exact hc 1 _ rfl, by rw [← add_field _ _ 2 (by omega)]; exact hc 2 _ rfl, by rw [← add_field _ _ 3 (by omega)]; exact hc 3 _ rfl, by rw [← add_field _ _ 4 (by omega)]; exact hc 4 _ rfl, by rw [← add_field _ _ 5 (by omega)]; exact hc 5 _ rfl, l4, g4⟩
structure S41 where
  f0 : ByteArray
  f1 : Int
  f2 : Int
  f3 : S39
def z41 : S41 := ⟨(⟨#[]⟩ : ByteArray), (0 : Int), (0 : Int), z39⟩
def k41 : Kd S41 := Kd.iso (Kd.pair Kd.string (Kd.pair (Kd.int .i64) (Kd.pair (Kd.int .i64) k39))) (fun x : S41 => (x.f0, x.f1, x.f2, x.f3))
theorem k41_heap : Kd.Heap k41 := Kd.heap_iso _ (Kd.heap_pair Kd.heap_string (Kd.heap_pair (Kd.heap_int .i64) (Kd.heap_pair (Kd.heap_int .i64) k39_heap)))
theorem k41_open {w : World} {x : S41} {cs : List Value} (h : k41.K w x cs) : ∃ A7 c7, cs = [.string x.f0, .int .i64 x.f1, .int .i64 x.f2, .int .i64 x.f3.f0, .int .i64 x.f3.f1, .int .i64 x.f3.f2, .int .i64 x.f3.f3, .slice A7 x.f3.f4.length c7, .bool x.f3.f5] ∧ x.f3.f4.length ≤ c7 ∧ (Kd.int .i64).C w A7 x.f3.f4.length x.f3.f4 := by
  obtain ⟨_, _, rfl, rfl, ⟨_, _, rfl, rfl, ⟨_, _, rfl, rfl, s3⟩⟩⟩ := h
  obtain ⟨A7, c7, rfl, l7, g7⟩ := k39_open s3
  exact ⟨A7, c7, rfl, l7, g7⟩
theorem k41_openM {w : World} {base : Nat} {ok : Nat → Prop} {x : S41} {cs : List Value} (h : k41.M w base ok x cs) : ∃ v7, cs = [.string x.f0, .int .i64 x.f1, .int .i64 x.f2, .int .i64 x.f3.f0, .int .i64 x.f3.f1, .int .i64 x.f3.f2, .int .i64 x.f3.f3, v7, .bool x.f3.f5] ∧ (Kd.int .i64).R 3 w base ok v7 x.f3.f4 := by
  obtain ⟨_, _, rfl, rfl, ⟨_, _, rfl, rfl, ⟨_, _, rfl, rfl, s3⟩⟩⟩ := h
  obtain ⟨v7, rfl, g7⟩ := k39_openM s3
  exact ⟨v7, rfl, g7⟩
theorem k41_mk (w : World) (x : S41) {A7 : Option Addr} {c7 : Nat} (l7 : x.f3.f4.length ≤ c7) (g7 : (Kd.int .i64).C w A7 x.f3.f4.length x.f3.f4) : k41.K w x [.string x.f0, .int .i64 x.f1, .int .i64 x.f2, .int .i64 x.f3.f0, .int .i64 x.f3.f1, .int .i64 x.f3.f2, .int .i64 x.f3.f3, .slice A7 x.f3.f4.length c7, .bool x.f3.f5] := ⟨[.string x.f0], [.int .i64 x.f1, .int .i64 x.f2, .int .i64 x.f3.f0, .int .i64 x.f3.f1, .int .i64 x.f3.f2, .int .i64 x.f3.f3, .slice A7 x.f3.f4.length c7, .bool x.f3.f5], rfl, rfl, ⟨[.int .i64 x.f1], [.int .i64 x.f2, .int .i64 x.f3.f0, .int .i64 x.f3.f1, .int .i64 x.f3.f2, .int .i64 x.f3.f3, .slice A7 x.f3.f4.length c7, .bool x.f3.f5], rfl, rfl, ⟨[.int .i64 x.f2], [.int .i64 x.f3.f0, .int .i64 x.f3.f1, .int .i64 x.f3.f2, .int .i64 x.f3.f3, .slice A7 x.f3.f4.length c7, .bool x.f3.f5], rfl, rfl, (k39_mk w x.f3 l7 g7)⟩⟩⟩
theorem k41_mkM (w : World) (base : Nat) (ok : Nat → Prop) (x : S41) {v7 : Value} (g7 : (Kd.int .i64).R 3 w base ok v7 x.f3.f4) : k41.M w base ok x [.string x.f0, .int .i64 x.f1, .int .i64 x.f2, .int .i64 x.f3.f0, .int .i64 x.f3.f1, .int .i64 x.f3.f2, .int .i64 x.f3.f3, v7, .bool x.f3.f5] := ⟨[.string x.f0], [.int .i64 x.f1, .int .i64 x.f2, .int .i64 x.f3.f0, .int .i64 x.f3.f1, .int .i64 x.f3.f2, .int .i64 x.f3.f3, v7, .bool x.f3.f5], rfl, rfl, ⟨[.int .i64 x.f1], [.int .i64 x.f2, .int .i64 x.f3.f0, .int .i64 x.f3.f1, .int .i64 x.f3.f2, .int .i64 x.f3.f3, v7, .bool x.f3.f5], rfl, rfl, ⟨[.int .i64 x.f2], [.int .i64 x.f3.f0, .int .i64 x.f3.f1, .int .i64 x.f3.f2, .int .i64 x.f3.f3, v7, .bool x.f3.f5], rfl, rfl, (k39_mkM w base ok x.f3 g7)⟩⟩⟩
theorem k41_openF {W : World} {ok : Nat → Prop} {x : S41} {cs : List Value} (h : Kd.FK k41 W ok x cs) : ∃ A7 c7, cs = [.string x.f0, .int .i64 x.f1, .int .i64 x.f2, .int .i64 x.f3.f0, .int .i64 x.f3.f1, .int .i64 x.f3.f2, .int .i64 x.f3.f3, .slice A7 x.f3.f4.length c7, .bool x.f3.f5] ∧ x.f3.f4.length ≤ c7 ∧ Kd.F (Kd.int .i64) W ok A7 x.f3.f4.length x.f3.f4 := by
  obtain ⟨A7, c7, rfl, l7, _⟩ := k41_open (Kd.FK_now h)
  exact ⟨A7, c7, rfl, l7, (fun W' hW => by obtain ⟨A7_, c7_, he, l7_, g7_⟩ := k41_open (h W' hW); injection (Option.some.inj (show some (Value.slice A7 x.f3.f4.length c7) = some (Value.slice A7_ x.f3.f4.length c7_) from congrArg (fun l => l[7]?) he)) with ha_ _ _; rw [ha_]; exact g7_)⟩
theorem k41_mkF (W : World) (ok : Nat → Prop) (x : S41) {A7 : Option Addr} {c7 : Nat} (l7 : x.f3.f4.length ≤ c7) (g7 : Kd.F (Kd.int .i64) W ok A7 x.f3.f4.length x.f3.f4) : Kd.FK k41 W ok x [.string x.f0, .int .i64 x.f1, .int .i64 x.f2, .int .i64 x.f3.f0, .int .i64 x.f3.f1, .int .i64 x.f3.f2, .int .i64 x.f3.f3, .slice A7 x.f3.f4.length c7, .bool x.f3.f5] := fun W2 hW => k41_mk W2 x l7 (g7 W2 hW)
def rd_T41 (xs : List S41) (i : Int) : S41 := xs.getD i.toNat z41
theorem at_T41 {w : World} {A : Option Addr} {n : Nat} {xs : List S41} (h : Kd.C k41 w A n xs) (i : Int) (h0 : 0 ≤ i) (h1 : i < n) : ∃ ad A7 c7, A = some ad ∧ w.cell? (ad.add (i.toNat * 9)) = some (.string (rd_T41 xs i).f0) ∧ w.cell? ⟨(ad.add (i.toNat * 9)).block, (ad.add (i.toNat * 9)).off + 1, none⟩ = some (.int .i64 (rd_T41 xs i).f1) ∧ w.cell? ⟨(ad.add (i.toNat * 9)).block, (ad.add (i.toNat * 9)).off + 2, none⟩ = some (.int .i64 (rd_T41 xs i).f2) ∧ w.cell? ⟨(ad.add (i.toNat * 9)).block, (ad.add (i.toNat * 9)).off + 3, none⟩ = some (.int .i64 (rd_T41 xs i).f3.f0) ∧ w.cell? ⟨(ad.add (i.toNat * 9)).block, (ad.add (i.toNat * 9)).off + 4, none⟩ = some (.int .i64 (rd_T41 xs i).f3.f1) ∧ w.cell? ⟨(ad.add (i.toNat * 9)).block, (ad.add (i.toNat * 9)).off + 5, none⟩ = some (.int .i64 (rd_T41 xs i).f3.f2) ∧ w.cell? ⟨(ad.add (i.toNat * 9)).block, (ad.add (i.toNat * 9)).off + 6, none⟩ = some (.int .i64 (rd_T41 xs i).f3.f3) ∧ w.cell? ⟨(ad.add (i.toNat * 9)).block, (ad.add (i.toNat * 9)).off + 7, none⟩ = some (.slice A7 (rd_T41 xs i).f3.f4.length c7) ∧ w.cell? ⟨(ad.add (i.toNat * 9)).block, (ad.add (i.toNat * 9)).off + 8, none⟩ = some (.bool (rd_T41 xs i).f3.f5) ∧ (rd_T41 xs i).f3.f4.length ≤ c7 ∧ (Kd.int .i64).C w A7 (rd_T41 xs i).f3.f4.length (rd_T41 xs i).f3.f4 := by
  obtain ⟨ad, c, e, _, hK, hc0⟩ := Kd.C_get h z41 i h0 h1
  have hc : ∀ j u, c[j]? = some u → w.cell? (ad.add (i.toNat * 9 + j)) = some u := hc0
  obtain ⟨A7, c7, rfl, l7, g7⟩ := k41_open hK
  exact ⟨ad, A7, c7, e, hc 0 _ rfl, by rw [← add_field _ _ 1 (by omega)]; exact hc 1 _ rfl, by rw [← add_field _ _ 2 (by omega)]; exact hc 2 _ rfl, by rw [← add_field _ _ 3 (by omega)]; exact hc 3 _ rfl, by rw [← add_field _ _ 4 (by omega)]; exact hc 4 _ rfl, by rw [← add_field _ _ 5 (by omega)]; exact hc 5 _ rfl, by rw [← add_field _ _ 6 (by omega)]; exact hc 6 _ rfl, by rw [← add_field _ _ 7 (by omega)]; exact hc 7 _ rfl, by rw [← add_field _ _ 8 (by omega)]; exact hc 8 _ rfl, l7, g7⟩
structure S26 where
  f0 : Int
  f1 : Int
  f2 : Int
  f3 : Int
  f4 : (List Int)
  f5 : Bool
def z26 : S26 := ⟨(0 : Int), (0 : Int), (0 : Int), (0 : Int), ([] : List Int), false⟩
def k26 : Kd S26 := Kd.iso (Kd.pair (Kd.int .i64) (Kd.pair (Kd.int .i64) (Kd.pair (Kd.int .i64) (Kd.pair (Kd.int .i64) (Kd.pair (Kd.slice 3 (Kd.int .i64)) Kd.bool))))) (fun x : S26 => (x.f0, x.f1, x.f2, x.f3, x.f4, x.f5))
theorem k26_heap : Kd.Heap k26 := Kd.heap_iso _ (Kd.heap_pair (Kd.heap_int .i64) (Kd.heap_pair (Kd.heap_int .i64) (Kd.heap_pair (Kd.heap_int .i64) (Kd.heap_pair (Kd.heap_int .i64) (Kd.heap_pair (Kd.heap_slice 3 (Kd.heap_int .i64)) Kd.heap_bool)))))
theorem k26_open {w : World} {x : S26} {cs : List Value} (h : k26.K w x cs) : ∃ A4 c4, cs = [.int .i64 x.f0, .int .i64 x.f1, .int .i64 x.f2, .int .i64 x.f3, .slice A4 x.f4.length c4, .bool x.f5] ∧ x.f4.length ≤ c4 ∧ (Kd.int .i64).C w A4 x.f4.length x.f4 := by
  obtain ⟨_, _, rfl, rfl, ⟨_, _, rfl, rfl, ⟨_, _, rfl, rfl, ⟨_, _, rfl, rfl, ⟨_, _, rfl, ⟨A4, c4, rfl, l4, g4⟩, rfl⟩⟩⟩⟩⟩ := h
  exact ⟨A4, c4, rfl, l4, g4⟩
theorem k26_openM {w : World} {base : Nat} {ok : Nat → Prop} {x : S26} {cs : List Value} (h : k26.M w base ok x cs) : ∃ v4, cs = [.int .i64 x.f0, .int .i64 x.f1, .int .i64 x.f2, .int .i64 x.f3, v4, .bool x.f5] ∧ (Kd.int .i64).R 3 w base ok v4 x.f4 := by
  obtain ⟨_, _, rfl, rfl, ⟨_, _, rfl, rfl, ⟨_, _, rfl, rfl, ⟨_, _, rfl, rfl, ⟨_, _, rfl, ⟨v4, rfl, g4⟩, rfl⟩⟩⟩⟩⟩ := h
  exact ⟨v4, rfl, g4⟩
theorem k26_mk (w : World) (x : S26) {A4 : Option Addr} {c4 : Nat} (l4 : x.f4.length ≤ c4) (g4 : (Kd.int .i64).C w A4 x.f4.length x.f4) : k26.K w x [.int .i64 x.f0, .int .i64 x.f1, .int .i64 x.f2, .int .i64 x.f3, .slice A4 x.f4.length c4, .bool x.f5] := ⟨[.int .i64 x.f0], [.int .i64 x.f1, .int .i64 x.f2, .int .i64 x.f3, .slice A4 x.f4.length c4, .bool x.f5], rfl, rfl, ⟨[.int .i64 x.f1], [.int .i64 x.f2, .int .i64 x.f3, .slice A4 x.f4.length c4, .bool x.f5], rfl, rfl, ⟨[.int .i64 x.f2], [.int .i64 x.f3, .slice A4 x.f4.length c4, .bool x.f5], rfl, rfl, ⟨[.int .i64 x.f3], [.slice A4 x.f4.length c4, .bool x.f5], rfl, rfl, ⟨[.slice A4 x.f4.length c4], [.bool x.f5], rfl, ⟨A4, c4, rfl, l4, g4⟩, rfl⟩⟩⟩⟩⟩
theorem k26_mkM (w : World) (base : Nat) (ok : Nat → Prop) (x : S26) {v4 : Value} (g4 : (Kd.int .i64).R 3 w base ok v4 x.f4) : k26.M w base ok x [.int .i64 x.f0, .int .i64 x.f1, .int .i64 x.f2, .int .i64 x.f3, v4, .bool x.f5] := ⟨[.int .i64 x.f0], [.int .i64 x.f1, .int .i64 x.f2, .int .i64 x.f3, v4, .bool x.f5], rfl, rfl, ⟨[.int .i64 x.f1], [.int .i64 x.f2, .int .i64 x.f3, v4, .bool x.f5], rfl, rfl, ⟨[.int .i64 x.f2], [.int .i64 x.f3, v4, .bool x.f5], rfl, rfl, ⟨[.int .i64 x.f3], [v4, .bool x.f5], rfl, rfl, ⟨[v4], [.bool x.f5], rfl, ⟨v4, rfl, g4⟩, rfl⟩⟩⟩⟩⟩
theorem k26_openF {W : World} {ok : Nat → Prop} {x : S26} {cs : List Value} (h : Kd.FK k26 W ok x cs) : ∃ A4 c4, cs = [.int .i64 x.f0, .int .i64 x.f1, .int .i64 x.f2, .int .i64 x.f3, .slice A4 x.f4.length c4, .bool x.f5] ∧ x.f4.length ≤ c4 ∧ Kd.F (Kd.int .i64) W ok A4 x.f4.length x.f4 := by
  obtain ⟨A4, c4, rfl, l4, _⟩ := k26_open (Kd.FK_now h)
  exact ⟨A4, c4, rfl, l4, (fun W' hW => by obtain ⟨A4_, c4_, he, l4_, g4_⟩ := k26_open (h W' hW); injection (Option.some.inj (show some (Value.slice A4 x.f4.length c4) = some (Value.slice A4_ x.f4.length c4_) from congrArg (fun l => l[4]?) he)) with ha_ _ _; rw [ha_]; exact g4_)⟩
theorem k26_mkF (W : World) (ok : Nat → Prop) (x : S26) {A4 : Option Addr} {c4 : Nat} (l4 : x.f4.length ≤ c4) (g4 : Kd.F (Kd.int .i64) W ok A4 x.f4.length x.f4) : Kd.FK k26 W ok x [.int .i64 x.f0, .int .i64 x.f1, .int .i64 x.f2, .int .i64 x.f3, .slice A4 x.f4.length c4, .bool x.f5] := fun W2 hW => k26_mk W2 x l4 (g4 W2 hW)
def rd_T26 (xs : List S26) (i : Int) : S26 := xs.getD i.toNat z26
theorem at_T26 {w : World} {A : Option Addr} {n : Nat} {xs : List S26} (h : Kd.C k26 w A n xs) (i : Int) (h0 : 0 ≤ i) (h1 : i < n) : ∃ ad A4 c4, A = some ad ∧ w.cell? (ad.add (i.toNat * 6)) = some (.int .i64 (rd_T26 xs i).f0) ∧ w.cell? ⟨(ad.add (i.toNat * 6)).block, (ad.add (i.toNat * 6)).off + 1, none⟩ = some (.int .i64 (rd_T26 xs i).f1) ∧ w.cell? ⟨(ad.add (i.toNat * 6)).block, (ad.add (i.toNat * 6)).off + 2, none⟩ = some (.int .i64 (rd_T26 xs i).f2) ∧ w.cell? ⟨(ad.add (i.toNat * 6)).block, (ad.add (i.toNat * 6)).off + 3, none⟩ = some (.int .i64 (rd_T26 xs i).f3) ∧ w.cell? ⟨(ad.add (i.toNat * 6)).block, (ad.add (i.toNat * 6)).off + 4, none⟩ = some (.slice A4 (rd_T26 xs i).f4.length c4) ∧ w.cell? ⟨(ad.add (i.toNat * 6)).block, (ad.add (i.toNat * 6)).off + 5, none⟩ = some (.bool (rd_T26 xs i).f5) ∧ (rd_T26 xs i).f4.length ≤ c4 ∧ (Kd.int .i64).C w A4 (rd_T26 xs i).f4.length (rd_T26 xs i).f4 := by
  obtain ⟨ad, c, e, _, hK, hc0⟩ := Kd.C_get h z26 i h0 h1
  have hc : ∀ j u, c[j]? = some u → w.cell? (ad.add (i.toNat * 6 + j)) = some u := hc0
  obtain ⟨A4, c4, rfl, l4, g4⟩ := k26_open hK
  exact ⟨ad, A4, c4, e, hc 0 _ rfl, by rw [← add_field _ _ 1 (by omega)]; exact hc 1 _ rfl, by rw [← add_field _ _ 2 (by omega)]; exact hc 2 _ rfl, by rw [← add_field _ _ 3 (by omega)]; exact hc 3 _ rfl, by rw [← add_field _ _ 4 (by omega)]; exact hc 4 _ rfl, by rw [← add_field _ _ 5 (by omega)]; exact hc 5 _ rfl, l4, g4⟩
structure S45 where
  f0 : ByteArray
  f1 : Int
  f2 : Int
  f3 : S26
def z45 : S45 := ⟨(⟨#[]⟩ : ByteArray), (0 : Int), (0 : Int), z26⟩
def k45 : Kd S45 := Kd.iso (Kd.pair Kd.string (Kd.pair (Kd.int .i64) (Kd.pair (Kd.int .i64) k26))) (fun x : S45 => (x.f0, x.f1, x.f2, x.f3))
theorem k45_heap : Kd.Heap k45 := Kd.heap_iso _ (Kd.heap_pair Kd.heap_string (Kd.heap_pair (Kd.heap_int .i64) (Kd.heap_pair (Kd.heap_int .i64) k26_heap)))
theorem k45_open {w : World} {x : S45} {cs : List Value} (h : k45.K w x cs) : ∃ A7 c7, cs = [.string x.f0, .int .i64 x.f1, .int .i64 x.f2, .int .i64 x.f3.f0, .int .i64 x.f3.f1, .int .i64 x.f3.f2, .int .i64 x.f3.f3, .slice A7 x.f3.f4.length c7, .bool x.f3.f5] ∧ x.f3.f4.length ≤ c7 ∧ (Kd.int .i64).C w A7 x.f3.f4.length x.f3.f4 := by
  obtain ⟨_, _, rfl, rfl, ⟨_, _, rfl, rfl, ⟨_, _, rfl, rfl, s3⟩⟩⟩ := h
  obtain ⟨A7, c7, rfl, l7, g7⟩ := k26_open s3
  exact ⟨A7, c7, rfl, l7, g7⟩
theorem k45_openM {w : World} {base : Nat} {ok : Nat → Prop} {x : S45} {cs : List Value} (h : k45.M w base ok x cs) : ∃ v7, cs = [.string x.f0, .int .i64 x.f1, .int .i64 x.f2, .int .i64 x.f3.f0, .int .i64 x.f3.f1, .int .i64 x.f3.f2, .int .i64 x.f3.f3, v7, .bool x.f3.f5] ∧ (Kd.int .i64).R 3 w base ok v7 x.f3.f4 := by
  obtain ⟨_, _, rfl, rfl, ⟨_, _, rfl, rfl, ⟨_, _, rfl, rfl, s3⟩⟩⟩ := h
  obtain ⟨v7, rfl, g7⟩ := k26_openM s3
  exact ⟨v7, rfl, g7⟩
theorem k45_mk (w : World) (x : S45) {A7 : Option Addr} {c7 : Nat} (l7 : x.f3.f4.length ≤ c7) (g7 : (Kd.int .i64).C w A7 x.f3.f4.length x.f3.f4) : k45.K w x [.string x.f0, .int .i64 x.f1, .int .i64 x.f2, .int .i64 x.f3.f0, .int .i64 x.f3.f1, .int .i64 x.f3.f2, .int .i64 x.f3.f3, .slice A7 x.f3.f4.length c7, .bool x.f3.f5] := ⟨[.string x.f0], [.int .i64 x.f1, .int .i64 x.f2, .int .i64 x.f3.f0, .int .i64 x.f3.f1, .int .i64 x.f3.f2, .int .i64 x.f3.f3, .slice A7 x.f3.f4.length c7, .bool x.f3.f5], rfl, rfl, ⟨[.int .i64 x.f1], [.int .i64 x.f2, .int .i64 x.f3.f0, .int .i64 x.f3.f1, .int .i64 x.f3.f2, .int .i64 x.f3.f3, .slice A7 x.f3.f4.length c7, .bool x.f3.f5], rfl, rfl, ⟨[.int .i64 x.f2], [.int .i64 x.f3.f0, .int .i64 x.f3.f1, .int .i64 x.f3.f2, .int .i64 x.f3.f3, .slice A7 x.f3.f4.length c7, .bool x.f3.f5], rfl, rfl, (k26_mk w x.f3 l7 g7)⟩⟩⟩
theorem k45_mkM (w : World) (base : Nat) (ok : Nat → Prop) (x : S45) {v7 : Value} (g7 : (Kd.int .i64).R 3 w base ok v7 x.f3.f4) : k45.M w base ok x [.string x.f0, .int .i64 x.f1, .int .i64 x.f2, .int .i64 x.f3.f0, .int .i64 x.f3.f1, .int .i64 x.f3.f2, .int .i64 x.f3.f3, v7, .bool x.f3.f5] := ⟨[.string x.f0], [.int .i64 x.f1, .int .i64 x.f2, .int .i64 x.f3.f0, .int .i64 x.f3.f1, .int .i64 x.f3.f2, .int .i64 x.f3.f3, v7, .bool x.f3.f5], rfl, rfl, ⟨[.int .i64 x.f1], [.int .i64 x.f2, .int .i64 x.f3.f0, .int .i64 x.f3.f1, .int .i64 x.f3.f2, .int .i64 x.f3.f3, v7, .bool x.f3.f5], rfl, rfl, ⟨[.int .i64 x.f2], [.int .i64 x.f3.f0, .int .i64 x.f3.f1, .int .i64 x.f3.f2, .int .i64 x.f3.f3, v7, .bool x.f3.f5], rfl, rfl, (k26_mkM w base ok x.f3 g7)⟩⟩⟩
theorem k45_openF {W : World} {ok : Nat → Prop} {x : S45} {cs : List Value} (h : Kd.FK k45 W ok x cs) : ∃ A7 c7, cs = [.string x.f0, .int .i64 x.f1, .int .i64 x.f2, .int .i64 x.f3.f0, .int .i64 x.f3.f1, .int .i64 x.f3.f2, .int .i64 x.f3.f3, .slice A7 x.f3.f4.length c7, .bool x.f3.f5] ∧ x.f3.f4.length ≤ c7 ∧ Kd.F (Kd.int .i64) W ok A7 x.f3.f4.length x.f3.f4 := by
  obtain ⟨A7, c7, rfl, l7, _⟩ := k45_open (Kd.FK_now h)
  exact ⟨A7, c7, rfl, l7, (fun W' hW => by obtain ⟨A7_, c7_, he, l7_, g7_⟩ := k45_open (h W' hW); injection (Option.some.inj (show some (Value.slice A7 x.f3.f4.length c7) = some (Value.slice A7_ x.f3.f4.length c7_) from congrArg (fun l => l[7]?) he)) with ha_ _ _; rw [ha_]; exact g7_)⟩
theorem k45_mkF (W : World) (ok : Nat → Prop) (x : S45) {A7 : Option Addr} {c7 : Nat} (l7 : x.f3.f4.length ≤ c7) (g7 : Kd.F (Kd.int .i64) W ok A7 x.f3.f4.length x.f3.f4) : Kd.FK k45 W ok x [.string x.f0, .int .i64 x.f1, .int .i64 x.f2, .int .i64 x.f3.f0, .int .i64 x.f3.f1, .int .i64 x.f3.f2, .int .i64 x.f3.f3, .slice A7 x.f3.f4.length c7, .bool x.f3.f5] := fun W2 hW => k45_mk W2 x l7 (g7 W2 hW)
def rd_T45 (xs : List S45) (i : Int) : S45 := xs.getD i.toNat z45
theorem at_T45 {w : World} {A : Option Addr} {n : Nat} {xs : List S45} (h : Kd.C k45 w A n xs) (i : Int) (h0 : 0 ≤ i) (h1 : i < n) : ∃ ad A7 c7, A = some ad ∧ w.cell? (ad.add (i.toNat * 9)) = some (.string (rd_T45 xs i).f0) ∧ w.cell? ⟨(ad.add (i.toNat * 9)).block, (ad.add (i.toNat * 9)).off + 1, none⟩ = some (.int .i64 (rd_T45 xs i).f1) ∧ w.cell? ⟨(ad.add (i.toNat * 9)).block, (ad.add (i.toNat * 9)).off + 2, none⟩ = some (.int .i64 (rd_T45 xs i).f2) ∧ w.cell? ⟨(ad.add (i.toNat * 9)).block, (ad.add (i.toNat * 9)).off + 3, none⟩ = some (.int .i64 (rd_T45 xs i).f3.f0) ∧ w.cell? ⟨(ad.add (i.toNat * 9)).block, (ad.add (i.toNat * 9)).off + 4, none⟩ = some (.int .i64 (rd_T45 xs i).f3.f1) ∧ w.cell? ⟨(ad.add (i.toNat * 9)).block, (ad.add (i.toNat * 9)).off + 5, none⟩ = some (.int .i64 (rd_T45 xs i).f3.f2) ∧ w.cell? ⟨(ad.add (i.toNat * 9)).block, (ad.add (i.toNat * 9)).off + 6, none⟩ = some (.int .i64 (rd_T45 xs i).f3.f3) ∧ w.cell? ⟨(ad.add (i.toNat * 9)).block, (ad.add (i.toNat * 9)).off + 7, none⟩ = some (.slice A7 (rd_T45 xs i).f3.f4.length c7) ∧ w.cell? ⟨(ad.add (i.toNat * 9)).block, (ad.add (i.toNat * 9)).off + 8, none⟩ = some (.bool (rd_T45 xs i).f3.f5) ∧ (rd_T45 xs i).f3.f4.length ≤ c7 ∧ (Kd.int .i64).C w A7 (rd_T45 xs i).f3.f4.length (rd_T45 xs i).f3.f4 := by
  obtain ⟨ad, c, e, _, hK, hc0⟩ := Kd.C_get h z45 i h0 h1
  have hc : ∀ j u, c[j]? = some u → w.cell? (ad.add (i.toNat * 9 + j)) = some u := hc0
  obtain ⟨A7, c7, rfl, l7, g7⟩ := k45_open hK
  exact ⟨ad, A7, c7, e, hc 0 _ rfl, by rw [← add_field _ _ 1 (by omega)]; exact hc 1 _ rfl, by rw [← add_field _ _ 2 (by omega)]; exact hc 2 _ rfl, by rw [← add_field _ _ 3 (by omega)]; exact hc 3 _ rfl, by rw [← add_field _ _ 4 (by omega)]; exact hc 4 _ rfl, by rw [← add_field _ _ 5 (by omega)]; exact hc 5 _ rfl, by rw [← add_field _ _ 6 (by omega)]; exact hc 6 _ rfl, by rw [← add_field _ _ 7 (by omega)]; exact hc 7 _ rfl, by rw [← add_field _ _ 8 (by omega)]; exact hc 8 _ rfl, l7, g7⟩
def rd_L9 (xs : List (List S45)) (i : Int) : (List S45) := xs.getD i.toNat ([] : List S45)
theorem at_L9 {w : World} {A : Option Addr} {n : Nat} {xs : List (List S45)} (h : Kd.C (Kd.slice 45 k45) w A n xs) (i : Int) (h0 : 0 ≤ i) (h1 : i < n) : ∃ ad A0 c0, A = some ad ∧ w.cell? (ad.add i.toNat) = some (.slice A0 (rd_L9 xs i).length c0) ∧ (rd_L9 xs i).length ≤ c0 ∧ k45.C w A0 (rd_L9 xs i).length (rd_L9 xs i) := by
  obtain ⟨ad, c, e, _, hK, hc0⟩ := Kd.C_get h ([] : List S45) i h0 h1
  have hc : ∀ j u, c[j]? = some u → w.cell? (ad.add (i.toNat * 1 + j)) = some u := hc0
  obtain ⟨A0, c0, rfl, l0, g0⟩ := hK
  exact ⟨ad, A0, c0, e, by have hq := hc 0 _ rfl; rwa [Nat.mul_one, Nat.add_zero] at hq, l0, g0⟩
end Go.Proofs.Ytdkokfnnebdppaa.P
namespace Go.Proofs.Ytdkokfnnebdppaa.P
open Go.RowKit Go.Proofs.YtdkokfnnebdppaaW.PrintWords Go.Proofs.YtdkokfnnebdppaaW.PrintLast Go.Proofs.YtdkokfnnebdppaaW.PrintMore
attribute [local go_sem] max2_int min2_int max_two min_two max_three min_three max_four min_four str_geq str_gtr str_leq
set_option linter.unusedVariables false
set_option linter.unusedSimpArgs false
def impl_within.f (a0 : Int) (a1 : Int) (a2 : Int) : Option (Bool) := if a0 ≥ a1 then (some (decide (a0 ≤ a2))) else (some false)
theorem impl_within.calls (a0 : Int) (a1 : Int) (a2 : Int) (r : Bool) (w : World) (h : impl_within.f a0 a1 a2 = some r) :
 Calls Try.prog 63 #[.int .i64 a0, .int .i64 a1, .int .i64 a2] w fun e w' => e = .returned (.bool r) ∧ Drawn0 w w' := by
 have H : (if a0 ≥ a1 then (some (decide (a0 ≤ a2))) else (some false)) = some r := h
 clear h
 by_cases c4 : a0 ≥ a1
 · rw [if_pos c4] at H
   have c4b0 := dE c4
   clear c4
   obtain rfl := Option.some.inj H
   go_enter Try.func63, Try.ntmps63
   go_wp2
   go_ret
   exact ⟨z4458, za9de⟩
 · rw [if_neg c4] at H
   have c4b0 := nE c4
   clear c4
   obtain rfl := Option.some.inj H
   go_enter Try.func63, Try.ntmps63
   go_wp2
   go_ret
   exact ⟨z4458, za9de⟩
def impl_isKeyText.f (a0 : ByteArray) : Option (Bool) := (impl_within.f (a0.size : Int) 1 140).bind fun t101 => (some t101)
theorem impl_isKeyText.calls (a0 : ByteArray) (r : Bool) (w : World) (h : impl_isKeyText.f a0 = some r) :
 Calls Try.prog 62 #[.string a0] w fun e w' => e = .returned (.bool r) ∧ Drawn0 w w' := by
 have H : ((impl_within.f (a0.size : Int) 1 140).bind fun t101 => (some t101)) = some r := h
 clear h
 obtain ⟨t101, A2, H⟩ := bS H; try dsimp only at H
 obtain rfl := Option.some.inj H
 go_enter Try.func62, Try.ntmps62
 go_wp2_with (first | ((with_reducible refine gate_callee (f := 63) rfl ?_); refine gL 5 Try.func63 #[.int .i64 (a0.size : Int), .int .i64 1, .int .i64 140] ?_; (with_reducible refine (impl_within.calls (a0.size : Int) 1 140 t101 _ A2.out).mono ?_); rintro e w' ⟨rfl, ⟨nd, rfl⟩⟩; refine ⟨_, rfl, ?_⟩))
 go_ret
 exact ⟨z4458, za9de⟩
def impl_Agg_isZero.f (a0_0 : Int) (a0_1 : Int) (a0_2 : Int) (a0_3 : Int) (l0_4 : List Int) (a0_5 : Bool) : Option (Bool) := if a0_0 = 0 then (if a0_1 = 0 then (if a0_2 = 0 then (if a0_3 = 0 then (if (l0_4.length : Int) = 0 then (some (!a0_5)) else (some false)) else (some false)) else (some false)) else (some false)) else (some false)
theorem impl_Agg_isZero.calls (a0_0 : Int) (a0_1 : Int) (a0_2 : Int) (a0_3 : Int) (A0_4 : Option Addr) (c0_4 : Nat) (l0_4 : List Int) (a0_5 : Bool) (r : Bool) (w : World) (hr0_4 : Kd.C (Kd.int .i64) w A0_4 l0_4.length l0_4) (hc0_4 : l0_4.length ≤ c0_4) (h : impl_Agg_isZero.f a0_0 a0_1 a0_2 a0_3 l0_4 a0_5 = some r) :
 Calls Try.prog 79 #[.agg #[.int .i64 a0_0, .int .i64 a0_1, .int .i64 a0_2, .int .i64 a0_3, .slice A0_4 l0_4.length c0_4, .bool a0_5]] w fun e w' => e = .returned (.bool r) ∧ Below w.heap.size w w' := by
 have hu26 := Try.underlying26
 have HR0_4 := aM hr0_4
 have HC0_4 := aM hc0_4
 clear hr0_4 hc0_4
 have HB := aM (Below.refl w.heap.size w)
 have H : (if a0_0 = 0 then (if a0_1 = 0 then (if a0_2 = 0 then (if a0_3 = 0 then (if (l0_4.length : Int) = 0 then (some (!a0_5)) else (some false)) else (some false)) else (some false)) else (some false)) else (some false)) = some r := h
 clear h
 by_cases c2 : a0_0 = 0
 · rw [if_pos c2] at H
   have c2b0 : (a0_0 == 0) = true := beq_iff_eq.mpr c2
   have c2b1 : (a0_0 != 0) = false := bne_eq_false_iff_eq.mpr c2
   clear c2
   by_cases c3 : a0_1 = 0
   · rw [if_pos c3] at H
     have c3b0 : (a0_1 == 0) = true := beq_iff_eq.mpr c3
     have c3b1 : (a0_1 != 0) = false := bne_eq_false_iff_eq.mpr c3
     clear c3
     by_cases c4 : a0_2 = 0
     · rw [if_pos c4] at H
       have c4b0 : (a0_2 == 0) = true := beq_iff_eq.mpr c4
       have c4b1 : (a0_2 != 0) = false := bne_eq_false_iff_eq.mpr c4
       clear c4
       by_cases c5 : a0_3 = 0
       · rw [if_pos c5] at H
         have c5b0 : (a0_3 == 0) = true := beq_iff_eq.mpr c5
         have c5b1 : (a0_3 != 0) = false := bne_eq_false_iff_eq.mpr c5
         clear c5
         by_cases c6 : (l0_4.length : Int) = 0
         · rw [if_pos c6] at H
           have c6b0 : ((l0_4.length : Int) == 0) = true := beq_iff_eq.mpr c6
           have c6b1 : ((l0_4.length : Int) != 0) = false := bne_eq_false_iff_eq.mpr c6
           clear c6
           obtain rfl := Option.some.inj H
           go_enter Try.func79, Try.ntmps79
           go_wp2_with (first | ((with_reducible refine gate_dst (N := 1) rfl ?_); (try (refine gate_guard (by rfl) ?_; dsimp only)); refine bX 1 26 #[.int .i64 a0_0, .int .i64 a0_1, .int .i64 a0_2, .int .i64 a0_3, .slice A0_4 l0_4.length c0_4, .bool a0_5] ?_; intro gb101 hg w7 hbox hb; have _ := aM (below_step hbZ hb); have _ := aM hbox; have _ := szZ hg; have _ := szZ hg; clear HB; rename_i HB BK101 GW101 GE101; clear hb hbox hg; have hz8 := cellsZ6 BK101.out))
           go_ret
           exact ⟨z674d, zcb41⟩
         · rw [if_neg c6] at H
           have c6b0 := eqN c6
           have c6b2 : ¬ (l0_4 = []) := fun h_ => c6 (by rw [h_]; rfl)
           obtain rfl := Option.some.inj H
           go_enter Try.func79, Try.ntmps79
           go_wp2_with (first | ((with_reducible refine gate_dst (N := 1) rfl ?_); (try (refine gate_guard (by rfl) ?_; dsimp only)); refine bX 1 26 #[.int .i64 a0_0, .int .i64 a0_1, .int .i64 a0_2, .int .i64 a0_3, .slice A0_4 l0_4.length c0_4, .bool a0_5] ?_; intro gb101 hg w9 hbox hb; have _ := aM (below_step hbZ hb); have _ := aM hbox; have _ := szZ hg; have _ := szZ hg; clear HB; rename_i HB BK101 GW101 GE101; clear hb hbox hg; have hz10 := cellsZ6 BK101.out))
           go_ret
           exact ⟨z674d, zcb41⟩
       · rw [if_neg c5] at H
         have c5b0 := eqN c5
         obtain rfl := Option.some.inj H
         go_enter Try.func79, Try.ntmps79
         go_wp2_with (first | ((with_reducible refine gate_dst (N := 1) rfl ?_); (try (refine gate_guard (by rfl) ?_; dsimp only)); refine bX 1 26 #[.int .i64 a0_0, .int .i64 a0_1, .int .i64 a0_2, .int .i64 a0_3, .slice A0_4 l0_4.length c0_4, .bool a0_5] ?_; intro gb101 hg w11 hbox hb; have _ := aM (below_step hbZ hb); have _ := aM hbox; have _ := szZ hg; have _ := szZ hg; clear HB; rename_i HB BK101 GW101 GE101; clear hb hbox hg; have hz12 := cellsZ6 BK101.out))
         go_ret
         exact ⟨z674d, zcb41⟩
     · rw [if_neg c4] at H
       have c4b0 := eqN c4
       obtain rfl := Option.some.inj H
       go_enter Try.func79, Try.ntmps79
       go_wp2_with (first | ((with_reducible refine gate_dst (N := 1) rfl ?_); (try (refine gate_guard (by rfl) ?_; dsimp only)); refine bX 1 26 #[.int .i64 a0_0, .int .i64 a0_1, .int .i64 a0_2, .int .i64 a0_3, .slice A0_4 l0_4.length c0_4, .bool a0_5] ?_; intro gb101 hg w13 hbox hb; have _ := aM (below_step hbZ hb); have _ := aM hbox; have _ := szZ hg; have _ := szZ hg; clear HB; rename_i HB BK101 GW101 GE101; clear hb hbox hg; have hz14 := cellsZ6 BK101.out))
       go_ret
       exact ⟨z674d, zcb41⟩
   · rw [if_neg c3] at H
     have c3b0 := eqN c3
     obtain rfl := Option.some.inj H
     go_enter Try.func79, Try.ntmps79
     go_wp2_with (first | ((with_reducible refine gate_dst (N := 1) rfl ?_); (try (refine gate_guard (by rfl) ?_; dsimp only)); refine bX 1 26 #[.int .i64 a0_0, .int .i64 a0_1, .int .i64 a0_2, .int .i64 a0_3, .slice A0_4 l0_4.length c0_4, .bool a0_5] ?_; intro gb101 hg w15 hbox hb; have _ := aM (below_step hbZ hb); have _ := aM hbox; have _ := szZ hg; have _ := szZ hg; clear HB; rename_i HB BK101 GW101 GE101; clear hb hbox hg; have hz16 := cellsZ6 BK101.out))
     go_ret
     exact ⟨z674d, zcb41⟩
 · rw [if_neg c2] at H
   have c2b0 := eqN c2
   obtain rfl := Option.some.inj H
   go_enter Try.func79, Try.ntmps79
   go_wp2_with (first | ((with_reducible refine gate_dst (N := 1) rfl ?_); (try (refine gate_guard (by rfl) ?_; dsimp only)); refine bX 1 26 #[.int .i64 a0_0, .int .i64 a0_1, .int .i64 a0_2, .int .i64 a0_3, .slice A0_4 l0_4.length c0_4, .bool a0_5] ?_; intro gb101 hg w17 hbox hb; have _ := aM (below_step hbZ hb); have _ := aM hbox; have _ := szZ hg; have _ := szZ hg; clear HB; rename_i HB BK101 GW101 GE101; clear hb hbox hg; have hz18 := cellsZ6 BK101.out))
   go_ret
   exact ⟨z674d, zcb41⟩
def impl_isValue.f (a0 : Int) : Option (Bool) := (impl_within.f a0 (-1000000000) 1000000000).bind fun t101 => (some t101)
theorem impl_isValue.calls (a0 : Int) (r : Bool) (w : World) (h : impl_isValue.f a0 = some r) :
 Calls Try.prog 95 #[.int .i64 a0] w fun e w' => e = .returned (.bool r) ∧ Drawn0 w w' := by
 have H : ((impl_within.f a0 (-1000000000) 1000000000).bind fun t101 => (some t101)) = some r := h
 clear h
 obtain ⟨t101, A2, H⟩ := bS H; try dsimp only at H
 obtain rfl := Option.some.inj H
 go_enter Try.func95, Try.ntmps95
 go_wp2_with (first | ((with_reducible refine gate_callee (f := 63) rfl ?_); refine gL 4 Try.func63 #[.int .i64 a0, .int .i64 (-1000000000), .int .i64 1000000000] ?_; (with_reducible refine (impl_within.calls a0 (-1000000000) 1000000000 t101 _ A2.out).mono ?_); rintro e w' ⟨rfl, ⟨nd, rfl⟩⟩; refine ⟨_, rfl, ?_⟩))
 go_ret
 exact ⟨z4458, za9de⟩
mutual
def impl_GoodAgg.j0 : Nat → Bool → Int → Int → Int → Int → List Int → Bool → Option (Bool)
 | 0, _, _, _, _, _, _, _ => none
 | k + 1, x15, x102000, x102001, x102002, x102003, x102004, x102005 => if x15 = true then (some false) else (impl_GoodAgg.l0 k 0 x102004 (x102004.length : Int) 0 x102000 x102001 x102002 x102003 x102004 x102005)
def impl_GoodAgg.l0 : Nat → Int → List Int → Int → Int → Int → Int → Int → Int → List Int → Bool → Option (Bool)
 | 0, _, _, _, _, _, _, _, _, _, _ => none
 | k + 1, x3, x17, x18, x19, x102000, x102001, x102002, x102003, x102004, x102005 => if x19 < x18 then (if 0 ≤ x19 then (if x19 < (x17.length : Int) then ((impl_within.f (rd x17 x19) 0 1000000000).bind fun t104 => (if t104 = true then (impl_GoodAgg.l0 k (wrap64 (x3 + (rd x17 x19))) x17 x18 (wrap64 (x19 + 1)) x102000 x102001 x102002 x102003 x102004 x102005) else (some false))) else (none)) else (none)) else (if x102005 = true then (impl_GoodAgg.j2 k x3 (x102001 != 0) x102000 x102001 x102002 x102003 x102004 x102005) else (impl_GoodAgg.j2 k x3 false x102000 x102001 x102002 x102003 x102004 x102005))
def impl_GoodAgg.j2 : Nat → Int → Bool → Int → Int → Int → Int → List Int → Bool → Option (Bool)
 | 0, _, _, _, _, _, _, _, _ => none
 | k + 1, x3, x30, x102000, x102001, x102002, x102003, x102004, x102005 => if x30 = true then (some false) else (if x102005 = true then (impl_GoodAgg.j3 k x3 false x102000 x102001 x102002 x102003 x102004 x102005) else (if x3 = x102000 then ((impl_within.f x102001 (wrap64 ((-1000000000) * x102000)) (wrap64 (1000000000 * x102000))).bind fun t105 => (impl_GoodAgg.j3 k x3 (!t105) x102000 x102001 x102002 x102003 x102004 x102005)) else (impl_GoodAgg.j3 k x3 true x102000 x102001 x102002 x102003 x102004 x102005)))
def impl_GoodAgg.j3 : Nat → Int → Bool → Int → Int → Int → Int → List Int → Bool → Option (Bool)
 | 0, _, _, _, _, _, _, _, _ => none
 | k + 1, x3, x38, x102000, x102001, x102002, x102003, x102004, x102005 => if x38 = true then (some false) else (if x102000 = 0 then (if x102002 = 0 then (if x102003 = 0 then (if x3 = 0 then (some (!x102005)) else (some false)) else (some false)) else (some false)) else ((impl_isValue.f x102002).bind fun t106 => (if t106 = true then ((impl_isValue.f x102003).bind fun t107 => (if t107 = true then (some (decide (x102002 ≤ x102003))) else (some false))) else (some false))))
end
def impl_GoodAgg.f (k : Nat) (a0_0 : Int) (a0_1 : Int) (a0_2 : Int) (a0_3 : Int) (l0_4 : List Int) (a0_5 : Bool) : Option (Bool) := (impl_within.f a0_0 0 1000000000).bind fun t102 => (if t102 = true then (impl_GoodAgg.j0 k ((l0_4.length : Int) != 8) a0_0 a0_1 a0_2 a0_3 l0_4 a0_5) else (impl_GoodAgg.j0 k true a0_0 a0_1 a0_2 a0_3 l0_4 a0_5))
theorem impl_GoodAgg.mono_l : ∀ k, (∀ y0 y1 y2 y3 y4 y5 y6, LeO (impl_GoodAgg.j0 k y0 y1 y2 y3 y4 y5 y6) (impl_GoodAgg.j0 (k + 1) y0 y1 y2 y3 y4 y5 y6)) ∧ (∀ y0 y1 y2 y3 y4 y5 y6 y7 y8 y9, LeO (impl_GoodAgg.l0 k y0 y1 y2 y3 y4 y5 y6 y7 y8 y9) (impl_GoodAgg.l0 (k + 1) y0 y1 y2 y3 y4 y5 y6 y7 y8 y9)) ∧ (∀ y0 y1 y2 y3 y4 y5 y6 y7, LeO (impl_GoodAgg.j2 k y0 y1 y2 y3 y4 y5 y6 y7) (impl_GoodAgg.j2 (k + 1) y0 y1 y2 y3 y4 y5 y6 y7)) ∧ (∀ y0 y1 y2 y3 y4 y5 y6 y7, LeO (impl_GoodAgg.j3 k y0 y1 y2 y3 y4 y5 y6 y7) (impl_GoodAgg.j3 (k + 1) y0 y1 y2 y3 y4 y5 y6 y7))
 | 0 => ⟨fun _ _ _ _ _ _ _ r h => by simp [impl_GoodAgg.j0] at h, fun _ _ _ _ _ _ _ _ _ _ r h => by simp [impl_GoodAgg.l0] at h, fun _ _ _ _ _ _ _ _ r h => by simp [impl_GoodAgg.j2] at h, fun _ _ _ _ _ _ _ _ r h => by simp [impl_GoodAgg.j3] at h⟩
 | k + 1 => by
  obtain ⟨ih0, ih1, ih2, ih3⟩ := impl_GoodAgg.mono_l k
  refine ⟨?_, ?_, ?_, ?_⟩
  · intro y0 y1 y2 y3 y4 y5 y6
    unfold impl_GoodAgg.j0
    exact moZ
  · intro y0 y1 y2 y3 y4 y5 y6 y7 y8 y9
    unfold impl_GoodAgg.l0
    exact moZ
  · intro y0 y1 y2 y3 y4 y5 y6 y7
    unfold impl_GoodAgg.j2
    exact moZ
  · intro y0 y1 y2 y3 y4 y5 y6 y7
    unfold impl_GoodAgg.j3
    exact moZ
theorem impl_GoodAgg.mono : ∀ a0 a1 a2 a3 a4 a5 k, LeO (impl_GoodAgg.f k a0 a1 a2 a3 a4 a5) (impl_GoodAgg.f (k + 1) a0 a1 a2 a3 a4 a5) := by
 intro a0 a1 a2 a3 a4 a5 k
 obtain ⟨ih0, ih1, ih2, ih3⟩ := impl_GoodAgg.mono_l k
 unfold impl_GoodAgg.f
 exact moZ
theorem impl_GoodAgg.calls (k : Nat) (a0_0 : Int) (a0_1 : Int) (a0_2 : Int) (a0_3 : Int) (A0_4 : Option Addr) (c0_4 : Nat) (l0_4 : List Int) (a0_5 : Bool) (r : Bool) (w : World) (hr0_4 : Kd.C (Kd.int .i64) w A0_4 l0_4.length l0_4) (hc0_4 : l0_4.length ≤ c0_4) (h : impl_GoodAgg.f k a0_0 a0_1 a0_2 a0_3 l0_4 a0_5 = some r) :
 Calls Try.prog 80 #[.agg #[.int .i64 a0_0, .int .i64 a0_1, .int .i64 a0_2, .int .i64 a0_3, .slice A0_4 l0_4.length c0_4, .bool a0_5]] w fun e w' => e = .returned (.bool r) ∧ Below w.heap.size w w' := by
 have hu26 := Try.underlying26
 have HR0_4 := aM hr0_4
 have HC0_4 := aM hc0_4
 clear hr0_4 hc0_4
 have HB := aM (Below.refl w.heap.size w)
 have H : ((impl_within.f a0_0 0 1000000000).bind fun t102 => (if t102 = true then (impl_GoodAgg.j0 k ((l0_4.length : Int) != 8) a0_0 a0_1 a0_2 a0_3 l0_4 a0_5) else (impl_GoodAgg.j0 k true a0_0 a0_1 a0_2 a0_3 l0_4 a0_5))) = some r := h
 clear h
 have HC2 := aM H
 clear H
 go_enter Try.func80, Try.ntmps80
 go_upto_region 1 with (first | ((with_reducible refine gate_dst (N := 1) rfl ?_); (try (refine gate_guard (by rfl) ?_; dsimp only)); refine bX 1 26 #[.int .i64 a0_0, .int .i64 a0_1, .int .i64 a0_2, .int .i64 a0_3, .slice A0_4 l0_4.length c0_4, .bool a0_5] ?_; intro gb101 hg w3 hbox hb; have _ := aM (below_step hbZ hb); have _ := aM hbox; have _ := szZ hg; have _ := szZ hg; clear HB; rename_i HB BK101 GW101 GE101; clear hb hbox hg))
 (try simp only [Act.put, List.setIfInBounds_toArray, List.set_cons_zero, List.set_cons_succ])
 go_cut [15] (fun v15 wc => ∃ (kq : Nat) (x15_1 : Bool), v15 = .bool x15_1 ∧ Aside0 (impl_GoodAgg.j0 kq x15_1 a0_0 a0_1 a0_2 a0_3 l0_4 a0_5 = some r) ∧ Aside0 (kq ≤ k) ∧ Aside0 (wc.heap[gb101]? = some (.cells #[.int .i64 a0_0, .int .i64 a0_1, .int .i64 a0_2, .int .i64 a0_3, (.slice A0_4 l0_4.length c0_4), .bool a0_5] 26 (0, 0))) ∧ Aside0 (Below w.heap.size w wc))
 case first =>
  have H := HC2.out
  clear HC2
  obtain ⟨t102, A4, H⟩ := bS H; try dsimp only at H
  by_cases c5 : t102 = true
  · subst c5
    rw [if_pos rfl] at H
    have H' := aM H
    clear H
    have hz6 := cellsZ6 BK101.out
    go_wp2_with (first | ((with_reducible refine gate_callee (f := 63) rfl ?_); refine gL 8 Try.func63 #[.int .i64 a0_0, .int .i64 0, .int .i64 1000000000] ?_; (with_reducible refine (impl_within.calls a0_0 0 1000000000 true _ A4.out).mono ?_); rintro e w' ⟨rfl, ⟨nd, rfl⟩⟩; refine ⟨_, rfl, ?_⟩))
    go_meet
    case rel => exact ⟨_, (((l0_4.length : Int) != 8)), z4458, H', ⟨zb79b⟩, ⟨bkZ⟩, ⟨zcb41⟩⟩
  · replace c5 := Bool.eq_false_iff.mpr c5
    subst c5
    rw [if_neg (show ¬ (false = true) by decide)] at H
    have H' := aM H
    clear H
    have hz7 := cellsZ6 BK101.out
    go_wp2_with (first | ((with_reducible refine gate_callee (f := 63) rfl ?_); refine gL 8 Try.func63 #[.int .i64 a0_0, .int .i64 0, .int .i64 1000000000] ?_; (with_reducible refine (impl_within.calls a0_0 0 1000000000 false _ A4.out).mono ?_); rintro e w' ⟨rfl, ⟨nd, rfl⟩⟩; refine ⟨_, rfl, ?_⟩))
    go_meet
    case rel => exact ⟨_, (true), z4458, H', ⟨zb79b⟩, ⟨bkZ⟩, ⟨zcb41⟩⟩
 case rest =>
  clear HC2
  obtain ⟨kq, x15_1, rfl, HA, HJ1, BK101, HB⟩ := hcut
  cases kq with
  | zero => exact absurd HA.out (by simp [impl_GoodAgg.j0])
  | succ kj1 =>
   have H := HA.out
   clear HA
   simp only [impl_GoodAgg.j0] at H
   by_cases c8 : x15_1 = true
   · subst c8
     rw [if_pos rfl] at H
     obtain rfl := Option.some.inj H
     go_wp2
     go_ret
     exact ⟨z674d, zcb41⟩
   · replace c8 := Bool.eq_false_iff.mpr c8
     subst c8
     rw [if_neg (show ¬ (false = true) by decide)] at H
     have H' := aM H
     clear H
     have hz9 := cellsZ6 BK101.out
     go_wp2
     go_loopg [3, 19] kj1 (fun kq v3 v19 w' => ∃ (x3_2 : Int) (x19_2 : Int), v3 = .int .i64 x3_2 ∧ v19 = .int .i64 x19_2 ∧ Aside0 (impl_GoodAgg.l0 kq x3_2 l0_4 (l0_4.length : Int) x19_2 a0_0 a0_1 a0_2 a0_3 l0_4 a0_5 = some r) ∧ Aside0 (kq ≤ kj1) ∧ Aside0 (w'.heap[gb101]? = some (.cells #[.int .i64 a0_0, .int .i64 a0_1, .int .i64 a0_2, .int .i64 a0_3, (.slice A0_4 l0_4.length c0_4), .bool a0_5] 26 (0, 0))) ∧ Aside0 (Below w.heap.size w w'))
     case atStart => exact ⟨(0), (0), z4458, z4458, H', ⟨Nat.le_refl _⟩, ⟨bkZ⟩, ⟨zcb41⟩⟩
     case round =>
      clear H'
      (try clear c8); (try clear hz9)
      obtain ⟨x3_2, x19_2, rfl, rfl, HA, HK2, BK101, HB⟩ := hrel
      cases gk with
      | zero => exact absurd HA.out (by simp [impl_GoodAgg.l0])
      | succ k2 =>
       have H := HA.out
       clear HA
       simp only [impl_GoodAgg.l0] at H
       by_cases c10 : x19_2 < (l0_4.length : Int)
       · rw [if_pos c10] at H
         have c10b0 := dL c10
         clear c10
         obtain ⟨c11b0, H⟩ := sE H
         obtain ⟨c12b0, H⟩ := sL H
         obtain ⟨t104, A13, H⟩ := bS H; try dsimp only at H
         by_cases c14 : t104 = true
         · subst c14
           rw [if_pos rfl] at H
           have H' := aM H
           clear H
           have p103 : 0 ≤ (x19_2 : Int) := of_decide_eq_true z1200
           have q103 : x19_2 < (l0_4.length : Int) := of_decide_eq_true z1200
           obtain ⟨ad103, e103, hx103_0⟩ := Kd.at_int HR0_4.out x19_2 p103 q103
           cases e103
           replace hx103_0 := (HB.out.cell (World.block_lt_of_cell? w _ hx103_0)).trans hx103_0
           replace p103 := eq_true p103
           replace q103 := eq_true q103
           go_wp2_with (first | ((with_reducible refine gate_callee (f := 63) rfl ?_); refine gL 24 Try.func63 #[.int .i64 (rd l0_4 x19_2), .int .i64 0, .int .i64 1000000000] ?_; (with_reducible refine (impl_within.calls (rd l0_4 x19_2) 0 1000000000 true _ A13.out).mono ?_); rintro e w' ⟨rfl, ⟨nd, rfl⟩⟩; refine ⟨_, rfl, ?_⟩))
           go_roundg k2
           case measure => have := HJ1.out; have := HK2.out; omega
           case rel => exact ⟨(wrap64 (x3_2 + (rd l0_4 x19_2))), (wrap64 (x19_2 + 1)), z4458, z4458, H', ⟨by have := HJ1.out; have := HK2.out; omega⟩, ⟨bkZ⟩, ⟨zcb41⟩⟩
         · replace c14 := Bool.eq_false_iff.mpr c14
           subst c14
           rw [if_neg (show ¬ (false = true) by decide)] at H
           obtain rfl := Option.some.inj H
           have p103 : 0 ≤ (x19_2 : Int) := of_decide_eq_true z1200
           have q103 : x19_2 < (l0_4.length : Int) := of_decide_eq_true z1200
           obtain ⟨ad103, e103, hx103_0⟩ := Kd.at_int HR0_4.out x19_2 p103 q103
           cases e103
           replace hx103_0 := (HB.out.cell (World.block_lt_of_cell? w _ hx103_0)).trans hx103_0
           replace p103 := eq_true p103
           replace q103 := eq_true q103
           go_wp2_with (first | ((with_reducible refine gate_callee (f := 63) rfl ?_); refine gL 24 Try.func63 #[.int .i64 (rd l0_4 x19_2), .int .i64 0, .int .i64 1000000000] ?_; (with_reducible refine (impl_within.calls (rd l0_4 x19_2) 0 1000000000 false _ A13.out).mono ?_); rintro e w' ⟨rfl, ⟨nd, rfl⟩⟩; refine ⟨_, rfl, ?_⟩))
           go_ret
           exact ⟨z674d, zcb41⟩
       · rw [if_neg c10] at H
         have c10b0 := nL c10
         clear c10
         have HC15 := aM H
         clear H
         go_upto_region 11 with (fail)
         go_cut [30] (fun v30 wc => ∃ (kq : Nat) (x30_14 : Bool), v30 = .bool x30_14 ∧ Aside0 (impl_GoodAgg.j2 kq x3_2 x30_14 a0_0 a0_1 a0_2 a0_3 l0_4 a0_5 = some r) ∧ Aside0 (kq ≤ k2) ∧ Aside0 (wc.heap[gb101]? = some (.cells #[.int .i64 a0_0, .int .i64 a0_1, .int .i64 a0_2, .int .i64 a0_3, (.slice A0_4 l0_4.length c0_4), .bool a0_5] 26 (0, 0))) ∧ Aside0 (Below w.heap.size w wc))
         case first =>
          have H := HC15.out
          clear HC15
          by_cases c16 : a0_5 = true
          · subst c16
            rw [if_pos rfl] at H
            have H' := aM H
            clear H
            have hz17 := cellsZ6 BK101.out
            go_wp2
            go_meet
            case rel => exact ⟨_, ((a0_1 != 0)), z4458, H', ⟨zdc19⟩, ⟨bkZ⟩, ⟨zcb41⟩⟩
          · replace c16 := Bool.eq_false_iff.mpr c16
            subst c16
            rw [if_neg (show ¬ (false = true) by decide)] at H
            have H' := aM H
            clear H
            have hz18 := cellsZ6 BK101.out
            go_wp2
            go_meet
            case rel => exact ⟨_, (false), z4458, H', ⟨zdc19⟩, ⟨bkZ⟩, ⟨zcb41⟩⟩
         case rest =>
          clear HC15
          (try clear c10b0)
          obtain ⟨kq, x30_14, rfl, HA, HJ14, BK101, HB⟩ := hcut
          cases kq with
          | zero => exact absurd HA.out (by simp [impl_GoodAgg.j2])
          | succ kj14 =>
           have H := HA.out
           clear HA
           simp only [impl_GoodAgg.j2] at H
           by_cases c19 : x30_14 = true
           · subst c19
             rw [if_pos rfl] at H
             obtain rfl := Option.some.inj H
             go_wp2
             go_ret
             exact ⟨z674d, zcb41⟩
           · replace c19 := Bool.eq_false_iff.mpr c19
             subst c19
             rw [if_neg (show ¬ (false = true) by decide)] at H
             have HC20 := aM H
             clear H
             go_upto_region 13 with (fail)
             go_cut [38] (fun v38 wc => ∃ (kq : Nat) (x38_19 : Bool), v38 = .bool x38_19 ∧ Aside0 (impl_GoodAgg.j3 kq x3_2 x38_19 a0_0 a0_1 a0_2 a0_3 l0_4 a0_5 = some r) ∧ Aside0 (kq ≤ kj14) ∧ Aside0 (wc.heap[gb101]? = some (.cells #[.int .i64 a0_0, .int .i64 a0_1, .int .i64 a0_2, .int .i64 a0_3, (.slice A0_4 l0_4.length c0_4), .bool a0_5] 26 (0, 0))) ∧ Aside0 (Below w.heap.size w wc))
             case first =>
              have H := HC20.out
              clear HC20
              by_cases c21 : a0_5 = true
              · subst c21
                rw [if_pos rfl] at H
                have H' := aM H
                clear H
                have hz22 := cellsZ6 BK101.out
                go_wp2
                go_meet
                case rel => exact ⟨_, (false), z4458, H', ⟨by have := HJ1.out; have := HK2.out; have := HJ14.out; first | omega | exact Nat.le_refl _⟩, ⟨bkZ⟩, ⟨zcb41⟩⟩
              · replace c21 := Bool.eq_false_iff.mpr c21
                subst c21
                rw [if_neg (show ¬ (false = true) by decide)] at H
                by_cases c23 : x3_2 = a0_0
                · rw [if_pos c23] at H
                  have c23b0 : (x3_2 == a0_0) = true := beq_iff_eq.mpr c23
                  have c23b1 : (x3_2 != a0_0) = false := bne_eq_false_iff_eq.mpr c23
                  clear c23
                  (first | rw [c23b0] | (simp only [i64_w, i32_w]; rw [c23b0]) | skip)
                  obtain ⟨t105, A24, H⟩ := bS H; try dsimp only at H
                  have H' := aM H
                  clear H
                  have hz25 := cellsZ6 BK101.out
                  go_wp2_with (first | (go_at_call 63; (with_reducible refine (impl_within.calls a0_1 (wrap64 ((-1000000000) * a0_0)) (wrap64 (1000000000 * a0_0)) t105 _ A24.out).mono ?_); rintro e w' ⟨rfl, ⟨nd, rfl⟩⟩))
                  go_meet
                  case rel => exact ⟨_, (!t105), z4458, H', ⟨by have := HJ1.out; have := HK2.out; have := HJ14.out; first | omega | exact Nat.le_refl _⟩, ⟨bkZ⟩, ⟨zcb41⟩⟩
                · rw [if_neg c23] at H
                  have c23b0 : (x3_2 == a0_0) = false := beq_eq_false_iff_ne.mpr c23
                  have c23b1 : (x3_2 != a0_0) = true := bne_iff_ne.mpr c23
                  (first | rw [c23b0] | (simp only [i64_w, i32_w]; rw [c23b0]) | skip)
                  have H' := aM H
                  clear H
                  have hz26 := cellsZ6 BK101.out
                  go_wp2
                  go_meet
                  case rel => exact ⟨_, (true), z4458, H', ⟨by have := HJ1.out; have := HK2.out; have := HJ14.out; first | omega | exact Nat.le_refl _⟩, ⟨bkZ⟩, ⟨zcb41⟩⟩
             case rest =>
              clear HC20
              (try clear c19)
              obtain ⟨kq, x38_19, rfl, HA, HJ19, BK101, HB⟩ := hcut
              cases kq with
              | zero => exact absurd HA.out (by simp [impl_GoodAgg.j3])
              | succ kj19 =>
               have H := HA.out
               clear HA
               simp only [impl_GoodAgg.j3] at H
               by_cases c27 : x38_19 = true
               · subst c27
                 rw [if_pos rfl] at H
                 obtain rfl := Option.some.inj H
                 go_wp2
                 go_ret
                 exact ⟨z674d, zcb41⟩
               · replace c27 := Bool.eq_false_iff.mpr c27
                 subst c27
                 rw [if_neg (show ¬ (false = true) by decide)] at H
                 by_cases c28 : a0_0 = 0
                 · rw [if_pos c28] at H
                   have c28b0 : (a0_0 == 0) = true := beq_iff_eq.mpr c28
                   have c28b1 : (a0_0 != 0) = false := bne_eq_false_iff_eq.mpr c28
                   clear c28
                   by_cases c29 : a0_2 = 0
                   · rw [if_pos c29] at H
                     have c29b0 : (a0_2 == 0) = true := beq_iff_eq.mpr c29
                     have c29b1 : (a0_2 != 0) = false := bne_eq_false_iff_eq.mpr c29
                     clear c29
                     by_cases c30 : a0_3 = 0
                     · rw [if_pos c30] at H
                       have c30b0 : (a0_3 == 0) = true := beq_iff_eq.mpr c30
                       have c30b1 : (a0_3 != 0) = false := bne_eq_false_iff_eq.mpr c30
                       clear c30
                       by_cases c31 : x3_2 = 0
                       · rw [if_pos c31] at H
                         have c31b0 : (x3_2 == 0) = true := beq_iff_eq.mpr c31
                         have c31b1 : (x3_2 != 0) = false := bne_eq_false_iff_eq.mpr c31
                         clear c31
                         obtain rfl := Option.some.inj H
                         have hz32 := cellsZ6 BK101.out
                         go_wp2
                         go_ret
                         exact ⟨z674d, zcb41⟩
                       · rw [if_neg c31] at H
                         have c31b0 := eqN c31
                         obtain rfl := Option.some.inj H
                         have hz33 := cellsZ6 BK101.out
                         go_wp2
                         go_ret
                         exact ⟨z674d, zcb41⟩
                     · rw [if_neg c30] at H
                       have c30b0 := eqN c30
                       obtain rfl := Option.some.inj H
                       have hz34 := cellsZ6 BK101.out
                       go_wp2
                       go_ret
                       exact ⟨z674d, zcb41⟩
                   · rw [if_neg c29] at H
                     have c29b0 := eqN c29
                     obtain rfl := Option.some.inj H
                     have hz35 := cellsZ6 BK101.out
                     go_wp2
                     go_ret
                     exact ⟨z674d, zcb41⟩
                 · rw [if_neg c28] at H
                   have c28b0 := eqN c28
                   obtain ⟨t106, A36, H⟩ := bS H; try dsimp only at H
                   by_cases c37 : t106 = true
                   · subst c37
                     rw [if_pos rfl] at H
                     obtain ⟨t107, A38, H⟩ := bS H; try dsimp only at H
                     by_cases c39 : t107 = true
                     · subst c39
                       rw [if_pos rfl] at H
                       obtain rfl := Option.some.inj H
                       have hz40 := cellsZ6 BK101.out
                       go_wp2_with (first | ((with_reducible refine gate_callee (f := 95) rfl ?_); refine gL 83 Try.func95 #[.int .i64 a0_2] ?_; (with_reducible refine (impl_isValue.calls a0_2 true _ A36.out).mono ?_); rintro e w' ⟨rfl, ⟨nd, rfl⟩⟩; refine ⟨_, rfl, ?_⟩) | (go_at_call 95; (with_reducible refine (impl_isValue.calls a0_3 true _ A38.out).mono ?_); rintro e w' ⟨rfl, ⟨nd, rfl⟩⟩))
                       go_ret
                       exact ⟨z674d, zcb41⟩
                     · replace c39 := Bool.eq_false_iff.mpr c39
                       subst c39
                       rw [if_neg (show ¬ (false = true) by decide)] at H
                       obtain rfl := Option.some.inj H
                       have hz41 := cellsZ6 BK101.out
                       go_wp2_with (first | ((with_reducible refine gate_callee (f := 95) rfl ?_); refine gL 83 Try.func95 #[.int .i64 a0_2] ?_; (with_reducible refine (impl_isValue.calls a0_2 true _ A36.out).mono ?_); rintro e w' ⟨rfl, ⟨nd, rfl⟩⟩; refine ⟨_, rfl, ?_⟩) | (go_at_call 95; (with_reducible refine (impl_isValue.calls a0_3 false _ A38.out).mono ?_); rintro e w' ⟨rfl, ⟨nd, rfl⟩⟩))
                       go_ret
                       exact ⟨z674d, zcb41⟩
                   · replace c37 := Bool.eq_false_iff.mpr c37
                     subst c37
                     rw [if_neg (show ¬ (false = true) by decide)] at H
                     obtain rfl := Option.some.inj H
                     have hz42 := cellsZ6 BK101.out
                     go_wp2_with (first | ((with_reducible refine gate_callee (f := 95) rfl ?_); refine gL 83 Try.func95 #[.int .i64 a0_2] ?_; (with_reducible refine (impl_isValue.calls a0_2 false _ A36.out).mono ?_); rintro e w' ⟨rfl, ⟨nd, rfl⟩⟩; refine ⟨_, rfl, ?_⟩))
                     go_ret
                     exact ⟨z674d, zcb41⟩
def impl_GoodEntry.j0 : Nat → Bool → ByteArray → Int → Int → Int → Int → Int → Int → List Int → Bool → Option (Bool)
 | 0, _, _, _, _, _, _, _, _, _, _ => none
 | k + 1, x12, x102000, x102001, x102002, x102003, x102004, x102005, x102006, x102007, x102008 => if x12 = true then (some false) else (if x102002 = 2 then ((impl_Agg_isZero.f x102003 x102004 x102005 x102006 x102007 x102008).bind fun t104 => (some t104)) else (if x102002 = 1 then ((impl_GoodAgg.f k x102003 x102004 x102005 x102006 x102007 x102008).bind fun t105 => (some t105)) else (if x102002 = 3 then ((impl_GoodAgg.f k x102003 x102004 x102005 x102006 x102007 x102008).bind fun t106 => (some t106)) else (some false))))
def impl_GoodEntry.f (k : Nat) (a0_0 : ByteArray) (a0_1 : Int) (a0_2 : Int) (a0_3 : Int) (a0_4 : Int) (a0_5 : Int) (a0_6 : Int) (l0_7 : List Int) (a0_8 : Bool) : Option (Bool) := (impl_isKeyText.f a0_0).bind fun t102 => (if t102 = true then ((impl_within.f a0_1 1 1000000000).bind fun t103 => (impl_GoodEntry.j0 k (!t103) a0_0 a0_1 a0_2 a0_3 a0_4 a0_5 a0_6 l0_7 a0_8)) else (impl_GoodEntry.j0 k true a0_0 a0_1 a0_2 a0_3 a0_4 a0_5 a0_6 l0_7 a0_8))
theorem impl_GoodEntry.mono_l : ∀ k, (∀ y0 y1 y2 y3 y4 y5 y6 y7 y8 y9, LeO (impl_GoodEntry.j0 k y0 y1 y2 y3 y4 y5 y6 y7 y8 y9) (impl_GoodEntry.j0 (k + 1) y0 y1 y2 y3 y4 y5 y6 y7 y8 y9))
 | 0 => fun _ _ _ _ _ _ _ _ _ _ r h => by simp [impl_GoodEntry.j0] at h
 | k + 1 => by
  have ih0 := impl_GoodEntry.mono_l k; have m0 := @impl_GoodAgg.mono
  · intro y0 y1 y2 y3 y4 y5 y6 y7 y8 y9
    unfold impl_GoodEntry.j0
    exact moZ
theorem impl_GoodEntry.mono : ∀ a0 a1 a2 a3 a4 a5 a6 a7 a8 k, LeO (impl_GoodEntry.f k a0 a1 a2 a3 a4 a5 a6 a7 a8) (impl_GoodEntry.f (k + 1) a0 a1 a2 a3 a4 a5 a6 a7 a8) := by
 intro a0 a1 a2 a3 a4 a5 a6 a7 a8 k
 have ih0 := impl_GoodEntry.mono_l k
 have m0 := @impl_GoodAgg.mono
 unfold impl_GoodEntry.f
 exact moZ
theorem impl_GoodEntry.calls (k : Nat) (a0_0 : ByteArray) (a0_1 : Int) (a0_2 : Int) (a0_3 : Int) (a0_4 : Int) (a0_5 : Int) (a0_6 : Int) (A0_7 : Option Addr) (c0_7 : Nat) (l0_7 : List Int) (a0_8 : Bool) (r : Bool) (w : World) (hr0_7 : Kd.C (Kd.int .i64) w A0_7 l0_7.length l0_7) (hc0_7 : l0_7.length ≤ c0_7) (h : impl_GoodEntry.f k a0_0 a0_1 a0_2 a0_3 a0_4 a0_5 a0_6 l0_7 a0_8 = some r) :
 Calls Try.prog 47 #[.agg #[.string a0_0, .int .i64 a0_1, .int .i64 a0_2, .int .i64 a0_3, .int .i64 a0_4, .int .i64 a0_5, .int .i64 a0_6, .slice A0_7 l0_7.length c0_7, .bool a0_8]] w fun e w' => e = .returned (.bool r) ∧ Below w.heap.size w w' := by
 have hu45 := Try.underlying45
 have hu26 := Try.underlying26
 have HR0_7 := aM hr0_7
 have HC0_7 := aM hc0_7
 clear hr0_7 hc0_7
 have HB := aM (Below.refl w.heap.size w)
 have H : ((impl_isKeyText.f a0_0).bind fun t102 => (if t102 = true then ((impl_within.f a0_1 1 1000000000).bind fun t103 => (impl_GoodEntry.j0 k (!t103) a0_0 a0_1 a0_2 a0_3 a0_4 a0_5 a0_6 l0_7 a0_8)) else (impl_GoodEntry.j0 k true a0_0 a0_1 a0_2 a0_3 a0_4 a0_5 a0_6 l0_7 a0_8))) = some r := h
 clear h
 have HC2 := aM H
 clear H
 go_enter Try.func47, Try.ntmps47
 go_upto_region 1 with (first | ((with_reducible refine gate_dst (N := 1) rfl ?_); refine bX 1 45 #[.string a0_0, .int .i64 a0_1, .int .i64 a0_2, .int .i64 a0_3, .int .i64 a0_4, .int .i64 a0_5, .int .i64 a0_6, .slice A0_7 l0_7.length c0_7, .bool a0_8] ?_; intro gb101 hg w3 hbox hb; have _ := aM (below_step hbZ hb); have _ := aM hbox; have _ := szZ hg; have _ := szZ hg; clear HB; rename_i HB BK101 GW101 GE101; clear hb hbox hg))
 (try simp only [Act.put, List.setIfInBounds_toArray, List.set_cons_zero, List.set_cons_succ])
 go_cut [12] (fun v12 wc => ∃ (kq : Nat) (x12_1 : Bool), v12 = .bool x12_1 ∧ Aside0 (impl_GoodEntry.j0 kq x12_1 a0_0 a0_1 a0_2 a0_3 a0_4 a0_5 a0_6 l0_7 a0_8 = some r) ∧ Aside0 (kq ≤ k) ∧ Aside0 (wc.heap[gb101]? = some (.cells #[.string a0_0, .int .i64 a0_1, .int .i64 a0_2, .int .i64 a0_3, .int .i64 a0_4, .int .i64 a0_5, .int .i64 a0_6, (.slice A0_7 l0_7.length c0_7), .bool a0_8] 45 (0, 0))) ∧ Aside0 (Below w.heap.size w wc))
 case first =>
  have H := HC2.out
  clear HC2
  obtain ⟨t102, A4, H⟩ := bS H; try dsimp only at H
  by_cases c5 : t102 = true
  · subst c5
    rw [if_pos rfl] at H
    obtain ⟨t103, A6, H⟩ := bS H; try dsimp only at H
    have H' := aM H
    clear H
    have hz7 := cellsZ9 BK101.out
    go_wp2_with (first | ((with_reducible refine gate_callee (f := 62) rfl ?_); refine gL 5 Try.func62 #[.string a0_0] ?_; (with_reducible refine (impl_isKeyText.calls a0_0 true _ A4.out).mono ?_); rintro e w' ⟨rfl, ⟨nd, rfl⟩⟩; refine ⟨_, rfl, ?_⟩) | (go_at_call 63; (with_reducible refine (impl_within.calls a0_1 1 1000000000 t103 _ A6.out).mono ?_); rintro e w' ⟨rfl, ⟨nd, rfl⟩⟩))
    go_meet
    case rel => exact ⟨_, (!t103), z4458, H', ⟨zb79b⟩, ⟨bkZ⟩, ⟨zcb41⟩⟩
  · replace c5 := Bool.eq_false_iff.mpr c5
    subst c5
    rw [if_neg (show ¬ (false = true) by decide)] at H
    have H' := aM H
    clear H
    have hz8 := cellsZ9 BK101.out
    go_wp2_with (first | ((with_reducible refine gate_callee (f := 62) rfl ?_); refine gL 5 Try.func62 #[.string a0_0] ?_; (with_reducible refine (impl_isKeyText.calls a0_0 false _ A4.out).mono ?_); rintro e w' ⟨rfl, ⟨nd, rfl⟩⟩; refine ⟨_, rfl, ?_⟩))
    go_meet
    case rel => exact ⟨_, (true), z4458, H', ⟨zb79b⟩, ⟨bkZ⟩, ⟨zcb41⟩⟩
 case rest =>
  clear HC2
  obtain ⟨kq, x12_1, rfl, HA, HJ1, BK101, HB⟩ := hcut
  cases kq with
  | zero => exact absurd HA.out (by simp [impl_GoodEntry.j0])
  | succ kj1 =>
   have H := HA.out
   clear HA
   simp only [impl_GoodEntry.j0] at H
   by_cases c9 : x12_1 = true
   · subst c9
     rw [if_pos rfl] at H
     obtain rfl := Option.some.inj H
     go_wp2
     go_ret
     exact ⟨z674d, zcb41⟩
   · replace c9 := Bool.eq_false_iff.mpr c9
     subst c9
     rw [if_neg (show ¬ (false = true) by decide)] at H
     by_cases c10 : a0_2 = 2
     · rw [if_pos c10] at H
       have c10b0 : (a0_2 == 2) = true := beq_iff_eq.mpr c10
       have c10b1 : (a0_2 != 2) = false := bne_eq_false_iff_eq.mpr c10
       clear c10
       obtain ⟨t104, A11, H⟩ := bS H; try dsimp only at H
       obtain rfl := Option.some.inj H
       have hz12 := cellsZ9 BK101.out
       go_wp2_with (first | ((with_reducible refine gate_callee (f := 79) rfl ?_); refine gL 18 Try.func79 #[.agg #[.int .i64 a0_3, .int .i64 a0_4, .int .i64 a0_5, .int .i64 a0_6, .slice A0_7 l0_7.length c0_7, .bool a0_8]] ?_; (with_reducible refine (impl_Agg_isZero.calls a0_3 a0_4 a0_5 a0_6 _ _ l0_7 a0_8 t104 _ ?side1 ?side2 A11.out).mono ?_); (case side1 => exact (cZ (Kd.C_below HR0_7.out HB.out))); (case side2 => exact HC0_7.out); rintro e w13 ⟨rfl, hb⟩; refine ⟨_, rfl, ?_⟩; have _ := bB gb101 hb; have _ := aM (below_step hbZ hb); clear BK101 HB; rename_i BK101 HB; (try clear hb)))
       go_ret
       exact ⟨z674d, zcb41⟩
     · rw [if_neg c10] at H
       have c10b0 := eqN c10
       by_cases c14 : a0_2 = 1
       · rw [if_pos c14] at H
         have c14b0 : (a0_2 == 1) = true := beq_iff_eq.mpr c14
         have c14b1 : (a0_2 != 1) = false := bne_eq_false_iff_eq.mpr c14
         clear c14
         obtain ⟨t105, A15, H⟩ := bS H; try dsimp only at H
         obtain rfl := Option.some.inj H
         have hz16 := cellsZ9 BK101.out
         go_wp2_with (first | (go_at_call 80; (with_reducible refine (impl_GoodAgg.calls kj1 a0_3 a0_4 a0_5 a0_6 _ _ l0_7 a0_8 t105 _ ?side1 ?side2 A15.out).mono ?_); (case side1 => exact (cZ (Kd.C_below HR0_7.out HB.out))); (case side2 => exact HC0_7.out); rintro e w17 ⟨rfl, hb⟩; have _ := bB gb101 hb; have _ := aM (below_step hbZ hb); clear BK101 HB; rename_i BK101 HB; (try clear hb)))
         go_ret
         exact ⟨z674d, zcb41⟩
       · rw [if_neg c14] at H
         have c14b0 := eqN c14
         by_cases c18 : a0_2 = 3
         · rw [if_pos c18] at H
           have c18b0 : (a0_2 == 3) = true := beq_iff_eq.mpr c18
           have c18b1 : (a0_2 != 3) = false := bne_eq_false_iff_eq.mpr c18
           clear c18
           obtain ⟨t106, A19, H⟩ := bS H; try dsimp only at H
           obtain rfl := Option.some.inj H
           have hz20 := cellsZ9 BK101.out
           go_wp2_with (first | (go_at_call 80; (with_reducible refine (impl_GoodAgg.calls kj1 a0_3 a0_4 a0_5 a0_6 _ _ l0_7 a0_8 t106 _ ?side1 ?side2 A19.out).mono ?_); (case side1 => exact (cZ (Kd.C_below HR0_7.out HB.out))); (case side2 => exact HC0_7.out); rintro e w21 ⟨rfl, hb⟩; have _ := bB gb101 hb; have _ := aM (below_step hbZ hb); clear BK101 HB; rename_i BK101 HB; (try clear hb)))
           go_ret
           exact ⟨z674d, zcb41⟩
         · rw [if_neg c18] at H
           have c18b0 := eqN c18
           obtain rfl := Option.some.inj H
           have hz22 := cellsZ9 BK101.out
           go_wp2
           go_ret
           exact ⟨z674d, zcb41⟩
def cmp_Or_int.l0 : Nat → Int → List Int → Int → Int → Option (Int)
 | 0, _, _, _, _ => none
 | k + 1, x3, x6, x7, x8 => if x8 < x7 then (if 0 ≤ x8 then (if x8 < (x6.length : Int) then (if (rd x6 x8) = x3 then (cmp_Or_int.l0 k x3 x6 x7 (wrap64 (x8 + 1))) else (some (rd x6 x8))) else (none)) else (none)) else (some x3)
def cmp_Or_int.f (k : Nat) (l0 : List Int) : Option (Int) := cmp_Or_int.l0 k 0 l0 (l0.length : Int) 0
theorem cmp_Or_int.mono_l : ∀ k, (∀ y0 y1 y2 y3, LeO (cmp_Or_int.l0 k y0 y1 y2 y3) (cmp_Or_int.l0 (k + 1) y0 y1 y2 y3))
 | 0 => fun _ _ _ _ r h => by simp [cmp_Or_int.l0] at h
 | k + 1 => by
  have ih0 := cmp_Or_int.mono_l k
  · intro y0 y1 y2 y3
    unfold cmp_Or_int.l0
    exact moZ
theorem cmp_Or_int.mono : ∀ a0 k, LeO (cmp_Or_int.f k a0) (cmp_Or_int.f (k + 1) a0) := by
 intro a0 k
 have ih0 := cmp_Or_int.mono_l k
 unfold cmp_Or_int.f
 exact moZ
theorem cmp_Or_int.calls (k : Nat) (A0 : Option Addr) (c0 : Nat) (l0 : List Int) (r : Int) (w : World) (hr0 : Kd.C (Kd.int .i64) w A0 l0.length l0) (hc0 : l0.length ≤ c0) (h : cmp_Or_int.f k l0 = some r) :
 Calls Try.prog 87 #[.slice A0 l0.length c0] w fun e w' => e = .returned (.int .i64 r) ∧ Drawn0 w w' := by
 have HR0 := aM hr0
 have HC0 := aM hc0
 clear hr0 hc0
 have H : (cmp_Or_int.l0 k 0 l0 (l0.length : Int) 0) = some r := h
 clear h
 have H' := aM H
 clear H
 go_enter Try.func87, Try.ntmps87
 go_wp2
 go_loopg [8] k (fun kq v8 w' => ∃ (x8_1 : Int), v8 = .int .i64 x8_1 ∧ Aside0 (cmp_Or_int.l0 kq 0 l0 (l0.length : Int) x8_1 = some r) ∧ Aside0 (kq ≤ k) ∧ Drawn0 w w')
 case atStart => exact ⟨(0), z4458, H', ⟨Nat.le_refl _⟩, za9de⟩
 case round =>
  clear H'
  obtain ⟨x8_1, rfl, HA, HK1, ⟨m1, rfl⟩⟩ := hrel
  cases gk with
  | zero => exact absurd HA.out (by simp [cmp_Or_int.l0])
  | succ k1 =>
   have H := HA.out
   clear HA
   simp only [cmp_Or_int.l0] at H
   by_cases c2 : x8_1 < (l0.length : Int)
   · rw [if_pos c2] at H
     have c2b0 := dL c2
     clear c2
     obtain ⟨c3b0, H⟩ := sE H
     obtain ⟨c4b0, H⟩ := sL H
     by_cases c5 : (rd l0 x8_1) = 0
     · rw [if_pos c5] at H
       have c5b0 : ((rd l0 x8_1) == 0) = true := beq_iff_eq.mpr c5
       have c5b1 : ((rd l0 x8_1) != 0) = false := bne_eq_false_iff_eq.mpr c5
       clear c5
       have H' := aM H
       clear H
       have p101 : 0 ≤ (x8_1 : Int) := of_decide_eq_true z1200
       have q101 : x8_1 < (l0.length : Int) := of_decide_eq_true z1200
       obtain ⟨ad101, e101, hx101_0⟩ := Kd.at_int HR0.out x8_1 p101 q101
       cases e101
       replace p101 := eq_true p101
       replace q101 := eq_true q101
       go_wp2
       go_roundg k1
       case measure => have := HK1.out; omega
       case rel => exact ⟨(wrap64 (x8_1 + 1)), z4458, H', ⟨zfb39⟩, za9de⟩
     · rw [if_neg c5] at H
       have c5b0 := eqN c5
       obtain rfl := Option.some.inj H
       have p101 : 0 ≤ (x8_1 : Int) := of_decide_eq_true z1200
       have q101 : x8_1 < (l0.length : Int) := of_decide_eq_true z1200
       obtain ⟨ad101, e101, hx101_0⟩ := Kd.at_int HR0.out x8_1 p101 q101
       cases e101
       replace p101 := eq_true p101
       replace q101 := eq_true q101
       go_wp2
       go_ret
       exact ⟨z4458, za9de⟩
   · rw [if_neg c2] at H
     have c2b0 := nL c2
     clear c2
     obtain rfl := Option.some.inj H
     go_wp2
     go_ret
     exact ⟨z4458, za9de⟩
def cmp_isNaN_string.f (a0 : ByteArray) : Option (Bool) := some (a0.toList != a0.toList)
theorem cmp_isNaN_string.calls (a0 : ByteArray) (r : Bool) (w : World) (h : cmp_isNaN_string.f a0 = some r) :
 Calls Try.prog 100 #[.string a0] w fun e w' => e = .returned (.bool r) ∧ Drawn0 w w' := by
 have H : (some (a0.toList != a0.toList)) = some r := h
 clear h
 obtain rfl := Option.some.inj H
 go_enter Try.func100, Try.ntmps100
 go_wp2
 go_ret
 exact ⟨z4458, za9de⟩
def cmp_Compare_string.f (a0 : ByteArray) (a1 : ByteArray) : Option (Int) := (cmp_isNaN_string.f a0).bind fun t101 => ((cmp_isNaN_string.f a1).bind fun t102 => (if t101 = true then (if t102 = true then (some 0) else (some (-1))) else (if t102 = true then (some 1) else (if (Op.bytesLess a0.toList a1.toList) = true then (some (-1)) else (if (Op.bytesLess a1.toList a0.toList) = true then (some 1) else (some 0))))))
theorem cmp_Compare_string.calls (a0 : ByteArray) (a1 : ByteArray) (r : Int) (w : World) (h : cmp_Compare_string.f a0 a1 = some r) :
 Calls Try.prog 88 #[.string a0, .string a1] w fun e w' => e = .returned (.int .i64 r) ∧ Drawn0 w w' := by
 have H : ((cmp_isNaN_string.f a0).bind fun t101 => ((cmp_isNaN_string.f a1).bind fun t102 => (if t101 = true then (if t102 = true then (some 0) else (some (-1))) else (if t102 = true then (some 1) else (if (Op.bytesLess a0.toList a1.toList) = true then (some (-1)) else (if (Op.bytesLess a1.toList a0.toList) = true then (some 1) else (some 0))))))) = some r := h
 clear h
 obtain ⟨t101, A3, H⟩ := bS H; try dsimp only at H
 obtain ⟨t102, A4, H⟩ := bS H; try dsimp only at H
 by_cases c5 : t101 = true
 · subst c5
   rw [if_pos rfl] at H
   by_cases c6 : t102 = true
   · subst c6
     rw [if_pos rfl] at H
     obtain rfl := Option.some.inj H
     go_enter Try.func88, Try.ntmps88
     go_wp2_with (first | ((with_reducible refine gate_callee (f := 100) rfl ?_); refine gL 8 Try.func100 #[.string a0] ?_; (with_reducible refine (cmp_isNaN_string.calls a0 true _ A3.out).mono ?_); rintro e w' ⟨rfl, ⟨nd, rfl⟩⟩; refine ⟨_, rfl, ?_⟩) | ((with_reducible refine gate_callee (f := 100) rfl ?_); refine gL 10 Try.func100 #[.string a1] ?_; (with_reducible refine (cmp_isNaN_string.calls a1 true _ A4.out).mono ?_); rintro e w' ⟨rfl, ⟨nd, rfl⟩⟩; refine ⟨_, rfl, ?_⟩))
     go_ret
     exact ⟨z4458, za9de⟩
   · replace c6 := Bool.eq_false_iff.mpr c6
     subst c6
     rw [if_neg (show ¬ (false = true) by decide)] at H
     obtain rfl := Option.some.inj H
     go_enter Try.func88, Try.ntmps88
     go_wp2_with (first | ((with_reducible refine gate_callee (f := 100) rfl ?_); refine gL 8 Try.func100 #[.string a0] ?_; (with_reducible refine (cmp_isNaN_string.calls a0 true _ A3.out).mono ?_); rintro e w' ⟨rfl, ⟨nd, rfl⟩⟩; refine ⟨_, rfl, ?_⟩) | ((with_reducible refine gate_callee (f := 100) rfl ?_); refine gL 10 Try.func100 #[.string a1] ?_; (with_reducible refine (cmp_isNaN_string.calls a1 false _ A4.out).mono ?_); rintro e w' ⟨rfl, ⟨nd, rfl⟩⟩; refine ⟨_, rfl, ?_⟩))
     go_ret
     exact ⟨z4458, za9de⟩
 · replace c5 := Bool.eq_false_iff.mpr c5
   subst c5
   rw [if_neg (show ¬ (false = true) by decide)] at H
   by_cases c7 : t102 = true
   · subst c7
     rw [if_pos rfl] at H
     obtain rfl := Option.some.inj H
     go_enter Try.func88, Try.ntmps88
     go_wp2_with (first | ((with_reducible refine gate_callee (f := 100) rfl ?_); refine gL 8 Try.func100 #[.string a0] ?_; (with_reducible refine (cmp_isNaN_string.calls a0 false _ A3.out).mono ?_); rintro e w' ⟨rfl, ⟨nd, rfl⟩⟩; refine ⟨_, rfl, ?_⟩) | ((with_reducible refine gate_callee (f := 100) rfl ?_); refine gL 10 Try.func100 #[.string a1] ?_; (with_reducible refine (cmp_isNaN_string.calls a1 true _ A4.out).mono ?_); rintro e w' ⟨rfl, ⟨nd, rfl⟩⟩; refine ⟨_, rfl, ?_⟩))
     go_ret
     exact ⟨z4458, za9de⟩
   · replace c7 := Bool.eq_false_iff.mpr c7
     subst c7
     rw [if_neg (show ¬ (false = true) by decide)] at H
     by_cases c8 : (Op.bytesLess a0.toList a1.toList) = true
     · rw [if_pos c8] at H
       have c8b0 : (Op.bytesLess a0.toList a1.toList) = true := c8
       clear c8
       obtain rfl := Option.some.inj H
       go_enter Try.func88, Try.ntmps88
       go_wp2_with (first | ((with_reducible refine gate_callee (f := 100) rfl ?_); refine gL 8 Try.func100 #[.string a0] ?_; (with_reducible refine (cmp_isNaN_string.calls a0 false _ A3.out).mono ?_); rintro e w' ⟨rfl, ⟨nd, rfl⟩⟩; refine ⟨_, rfl, ?_⟩) | ((with_reducible refine gate_callee (f := 100) rfl ?_); refine gL 10 Try.func100 #[.string a1] ?_; (with_reducible refine (cmp_isNaN_string.calls a1 false _ A4.out).mono ?_); rintro e w' ⟨rfl, ⟨nd, rfl⟩⟩; refine ⟨_, rfl, ?_⟩))
       go_ret
       exact ⟨z4458, za9de⟩
     · rw [if_neg c8] at H
       have c8b0 : (Op.bytesLess a0.toList a1.toList) = false := by simpa using c8
       clear c8
       by_cases c9 : (Op.bytesLess a1.toList a0.toList) = true
       · rw [if_pos c9] at H
         have c9b0 : (Op.bytesLess a1.toList a0.toList) = true := c9
         clear c9
         obtain rfl := Option.some.inj H
         go_enter Try.func88, Try.ntmps88
         go_wp2_with (first | ((with_reducible refine gate_callee (f := 100) rfl ?_); refine gL 8 Try.func100 #[.string a0] ?_; (with_reducible refine (cmp_isNaN_string.calls a0 false _ A3.out).mono ?_); rintro e w' ⟨rfl, ⟨nd, rfl⟩⟩; refine ⟨_, rfl, ?_⟩) | ((with_reducible refine gate_callee (f := 100) rfl ?_); refine gL 10 Try.func100 #[.string a1] ?_; (with_reducible refine (cmp_isNaN_string.calls a1 false _ A4.out).mono ?_); rintro e w' ⟨rfl, ⟨nd, rfl⟩⟩; refine ⟨_, rfl, ?_⟩))
         go_ret
         exact ⟨z4458, za9de⟩
       · rw [if_neg c9] at H
         have c9b0 : (Op.bytesLess a1.toList a0.toList) = false := by simpa using c9
         clear c9
         obtain rfl := Option.some.inj H
         go_enter Try.func88, Try.ntmps88
         go_wp2_with (first | ((with_reducible refine gate_callee (f := 100) rfl ?_); refine gL 8 Try.func100 #[.string a0] ?_; (with_reducible refine (cmp_isNaN_string.calls a0 false _ A3.out).mono ?_); rintro e w' ⟨rfl, ⟨nd, rfl⟩⟩; refine ⟨_, rfl, ?_⟩) | ((with_reducible refine gate_callee (f := 100) rfl ?_); refine gL 10 Try.func100 #[.string a1] ?_; (with_reducible refine (cmp_isNaN_string.calls a1 false _ A4.out).mono ?_); rintro e w' ⟨rfl, ⟨nd, rfl⟩⟩; refine ⟨_, rfl, ?_⟩))
         go_ret
         exact ⟨z4458, za9de⟩
def cmp_isNaN_int.f (a0 : Int) : Option (Bool) := some (a0 != a0)
theorem cmp_isNaN_int.calls (a0 : Int) (r : Bool) (w : World) (h : cmp_isNaN_int.f a0 = some r) :
 Calls Try.prog 101 #[.int .i64 a0] w fun e w' => e = .returned (.bool r) ∧ Drawn0 w w' := by
 have H : (some (a0 != a0)) = some r := h
 clear h
 obtain rfl := Option.some.inj H
 go_enter Try.func101, Try.ntmps101
 go_wp2
 go_ret
 exact ⟨z4458, za9de⟩
def cmp_Compare_int.f (a0 : Int) (a1 : Int) : Option (Int) := (cmp_isNaN_int.f a0).bind fun t101 => ((cmp_isNaN_int.f a1).bind fun t102 => (if t101 = true then (if t102 = true then (some 0) else (some (-1))) else (if t102 = true then (some 1) else (if a0 < a1 then (some (-1)) else (if a0 > a1 then (some 1) else (some 0))))))
theorem cmp_Compare_int.calls (a0 : Int) (a1 : Int) (r : Int) (w : World) (h : cmp_Compare_int.f a0 a1 = some r) :
 Calls Try.prog 89 #[.int .i64 a0, .int .i64 a1] w fun e w' => e = .returned (.int .i64 r) ∧ Drawn0 w w' := by
 have H : ((cmp_isNaN_int.f a0).bind fun t101 => ((cmp_isNaN_int.f a1).bind fun t102 => (if t101 = true then (if t102 = true then (some 0) else (some (-1))) else (if t102 = true then (some 1) else (if a0 < a1 then (some (-1)) else (if a0 > a1 then (some 1) else (some 0))))))) = some r := h
 clear h
 obtain ⟨t101, A3, H⟩ := bS H; try dsimp only at H
 obtain ⟨t102, A4, H⟩ := bS H; try dsimp only at H
 by_cases c5 : t101 = true
 · subst c5
   rw [if_pos rfl] at H
   by_cases c6 : t102 = true
   · subst c6
     rw [if_pos rfl] at H
     obtain rfl := Option.some.inj H
     go_enter Try.func89, Try.ntmps89
     go_wp2_with (first | ((with_reducible refine gate_callee (f := 101) rfl ?_); refine gL 8 Try.func101 #[.int .i64 a0] ?_; (with_reducible refine (cmp_isNaN_int.calls a0 true _ A3.out).mono ?_); rintro e w' ⟨rfl, ⟨nd, rfl⟩⟩; refine ⟨_, rfl, ?_⟩) | ((with_reducible refine gate_callee (f := 101) rfl ?_); refine gL 10 Try.func101 #[.int .i64 a1] ?_; (with_reducible refine (cmp_isNaN_int.calls a1 true _ A4.out).mono ?_); rintro e w' ⟨rfl, ⟨nd, rfl⟩⟩; refine ⟨_, rfl, ?_⟩))
     go_ret
     exact ⟨z4458, za9de⟩
   · replace c6 := Bool.eq_false_iff.mpr c6
     subst c6
     rw [if_neg (show ¬ (false = true) by decide)] at H
     obtain rfl := Option.some.inj H
     go_enter Try.func89, Try.ntmps89
     go_wp2_with (first | ((with_reducible refine gate_callee (f := 101) rfl ?_); refine gL 8 Try.func101 #[.int .i64 a0] ?_; (with_reducible refine (cmp_isNaN_int.calls a0 true _ A3.out).mono ?_); rintro e w' ⟨rfl, ⟨nd, rfl⟩⟩; refine ⟨_, rfl, ?_⟩) | ((with_reducible refine gate_callee (f := 101) rfl ?_); refine gL 10 Try.func101 #[.int .i64 a1] ?_; (with_reducible refine (cmp_isNaN_int.calls a1 false _ A4.out).mono ?_); rintro e w' ⟨rfl, ⟨nd, rfl⟩⟩; refine ⟨_, rfl, ?_⟩))
     go_ret
     exact ⟨z4458, za9de⟩
 · replace c5 := Bool.eq_false_iff.mpr c5
   subst c5
   rw [if_neg (show ¬ (false = true) by decide)] at H
   by_cases c7 : t102 = true
   · subst c7
     rw [if_pos rfl] at H
     obtain rfl := Option.some.inj H
     go_enter Try.func89, Try.ntmps89
     go_wp2_with (first | ((with_reducible refine gate_callee (f := 101) rfl ?_); refine gL 8 Try.func101 #[.int .i64 a0] ?_; (with_reducible refine (cmp_isNaN_int.calls a0 false _ A3.out).mono ?_); rintro e w' ⟨rfl, ⟨nd, rfl⟩⟩; refine ⟨_, rfl, ?_⟩) | ((with_reducible refine gate_callee (f := 101) rfl ?_); refine gL 10 Try.func101 #[.int .i64 a1] ?_; (with_reducible refine (cmp_isNaN_int.calls a1 true _ A4.out).mono ?_); rintro e w' ⟨rfl, ⟨nd, rfl⟩⟩; refine ⟨_, rfl, ?_⟩))
     go_ret
     exact ⟨z4458, za9de⟩
   · replace c7 := Bool.eq_false_iff.mpr c7
     subst c7
     rw [if_neg (show ¬ (false = true) by decide)] at H
     by_cases c8 : a0 < a1
     · rw [if_pos c8] at H
       have c8b0 := dL c8
       clear c8
       obtain rfl := Option.some.inj H
       go_enter Try.func89, Try.ntmps89
       go_wp2_with (first | ((with_reducible refine gate_callee (f := 101) rfl ?_); refine gL 8 Try.func101 #[.int .i64 a0] ?_; (with_reducible refine (cmp_isNaN_int.calls a0 false _ A3.out).mono ?_); rintro e w' ⟨rfl, ⟨nd, rfl⟩⟩; refine ⟨_, rfl, ?_⟩) | ((with_reducible refine gate_callee (f := 101) rfl ?_); refine gL 10 Try.func101 #[.int .i64 a1] ?_; (with_reducible refine (cmp_isNaN_int.calls a1 false _ A4.out).mono ?_); rintro e w' ⟨rfl, ⟨nd, rfl⟩⟩; refine ⟨_, rfl, ?_⟩))
       go_ret
       exact ⟨z4458, za9de⟩
     · rw [if_neg c8] at H
       have c8b0 := nL c8
       clear c8
       by_cases c9 : a0 > a1
       · rw [if_pos c9] at H
         have c9b0 := dL c9
         clear c9
         obtain rfl := Option.some.inj H
         go_enter Try.func89, Try.ntmps89
         go_wp2_with (first | ((with_reducible refine gate_callee (f := 101) rfl ?_); refine gL 8 Try.func101 #[.int .i64 a0] ?_; (with_reducible refine (cmp_isNaN_int.calls a0 false _ A3.out).mono ?_); rintro e w' ⟨rfl, ⟨nd, rfl⟩⟩; refine ⟨_, rfl, ?_⟩) | ((with_reducible refine gate_callee (f := 101) rfl ?_); refine gL 10 Try.func101 #[.int .i64 a1] ?_; (with_reducible refine (cmp_isNaN_int.calls a1 false _ A4.out).mono ?_); rintro e w' ⟨rfl, ⟨nd, rfl⟩⟩; refine ⟨_, rfl, ?_⟩))
         go_ret
         exact ⟨z4458, za9de⟩
       · rw [if_neg c9] at H
         have c9b0 := nL c9
         clear c9
         obtain rfl := Option.some.inj H
         go_enter Try.func89, Try.ntmps89
         go_wp2_with (first | ((with_reducible refine gate_callee (f := 101) rfl ?_); refine gL 8 Try.func101 #[.int .i64 a0] ?_; (with_reducible refine (cmp_isNaN_int.calls a0 false _ A3.out).mono ?_); rintro e w' ⟨rfl, ⟨nd, rfl⟩⟩; refine ⟨_, rfl, ?_⟩) | ((with_reducible refine gate_callee (f := 101) rfl ?_); refine gL 10 Try.func101 #[.int .i64 a1] ?_; (with_reducible refine (cmp_isNaN_int.calls a1 false _ A4.out).mono ?_); rintro e w' ⟨rfl, ⟨nd, rfl⟩⟩; refine ⟨_, rfl, ?_⟩))
         go_ret
         exact ⟨z4458, za9de⟩
def impl_compareEntries.f (k : Nat) (a0_0 : ByteArray) (a0_1 : Int) (a0_2 : Int) (a0_3 : Int) (a0_4 : Int) (a0_5 : Int) (a0_6 : Int) (l0_7 : List Int) (a0_8 : Bool) (a1_0 : ByteArray) (a1_1 : Int) (a1_2 : Int) (a1_3 : Int) (a1_4 : Int) (a1_5 : Int) (a1_6 : Int) (l1_7 : List Int) (a1_8 : Bool) : Option (Int) := (cmp_Compare_string.f a0_0 a1_0).bind fun t103 => ((cmp_Compare_int.f a1_1 a0_1).bind fun t104 => ((cmp_Or_int.f k (([t103, t104] : List Int))).bind fun t108 => (some t108)))
theorem impl_compareEntries.mono : ∀ a0 a1 a2 a3 a4 a5 a6 a7 a8 a9 a10 a11 a12 a13 a14 a15 a16 a17 k, LeO (impl_compareEntries.f k a0 a1 a2 a3 a4 a5 a6 a7 a8 a9 a10 a11 a12 a13 a14 a15 a16 a17) (impl_compareEntries.f (k + 1) a0 a1 a2 a3 a4 a5 a6 a7 a8 a9 a10 a11 a12 a13 a14 a15 a16 a17) := by
 intro a0 a1 a2 a3 a4 a5 a6 a7 a8 a9 a10 a11 a12 a13 a14 a15 a16 a17 k
 have m0 := @cmp_Or_int.mono
 unfold impl_compareEntries.f
 exact moZ
def impl_compareEntries.T1 : Bool × List (List Nat × List Nat) := (true, [([], []), ([0], [0]), ([], []), ([2], [2]), ([1, 3], [1, 3]), ([], []), ([5], [5]), ([], []), ([7], [7]), ([6, 8, 4], [6, 8]), ([4, 9], [4, 9]), ([10, 9], [10]), ([11, 11, 0, 1, 2, 3, 4, 5, 6, 7, 8, 9, 10, 11], [11])])
def impl_compareEntries.B1 : List Nat := [0, 1, 0, 4, 15, 0, 32, 0, 128, 511, 1023, 2047, 4095]
theorem impl_compareEntries.tab1 : rtab .any (opsOf Try.f57 1) = impl_compareEntries.T1 := by kernel_rfl
theorem impl_compareEntries.bits1 : waitsOk impl_compareEntries.T1.2 impl_compareEntries.B1 = true := by kernel_rfl
theorem impl_compareEntries.calls (k : Nat) (a0_0 : ByteArray) (a0_1 : Int) (a0_2 : Int) (a0_3 : Int) (a0_4 : Int) (a0_5 : Int) (a0_6 : Int) (A0_7 : Option Addr) (c0_7 : Nat) (l0_7 : List Int) (a0_8 : Bool) (a1_0 : ByteArray) (a1_1 : Int) (a1_2 : Int) (a1_3 : Int) (a1_4 : Int) (a1_5 : Int) (a1_6 : Int) (A1_7 : Option Addr) (c1_7 : Nat) (l1_7 : List Int) (a1_8 : Bool) (r : Int) (w : World) (hr0_7 : Kd.C (Kd.int .i64) w A0_7 l0_7.length l0_7) (hc0_7 : l0_7.length ≤ c0_7) (hr1_7 : Kd.C (Kd.int .i64) w A1_7 l1_7.length l1_7) (hc1_7 : l1_7.length ≤ c1_7) (h : impl_compareEntries.f k a0_0 a0_1 a0_2 a0_3 a0_4 a0_5 a0_6 l0_7 a0_8 a1_0 a1_1 a1_2 a1_3 a1_4 a1_5 a1_6 l1_7 a1_8 = some r) :
 Calls Try.prog 57 #[.agg #[.string a0_0, .int .i64 a0_1, .int .i64 a0_2, .int .i64 a0_3, .int .i64 a0_4, .int .i64 a0_5, .int .i64 a0_6, .slice A0_7 l0_7.length c0_7, .bool a0_8], .agg #[.string a1_0, .int .i64 a1_1, .int .i64 a1_2, .int .i64 a1_3, .int .i64 a1_4, .int .i64 a1_5, .int .i64 a1_6, .slice A1_7 l1_7.length c1_7, .bool a1_8]] w fun e w' => e = .returned (.int .i64 r) ∧ Below w.heap.size w w' := by
 have hu45 := Try.underlying45
 have HR0_7 := aM hr0_7
 have HC0_7 := aM hc0_7
 clear hr0_7 hc0_7
 have HR1_7 := aM hr1_7
 have HC1_7 := aM hc1_7
 clear hr1_7 hc1_7
 have HB := aM (Below.refl w.heap.size w)
 have H : ((cmp_Compare_string.f a0_0 a1_0).bind fun t103 => ((cmp_Compare_int.f a1_1 a0_1).bind fun t104 => ((cmp_Or_int.f k (([t103, t104] : List Int))).bind fun t108 => (some t108)))) = some r := h
 clear h
 obtain ⟨t103, A3, H⟩ := bS H; try dsimp only at H
 obtain ⟨t104, A4, H⟩ := bS H; try dsimp only at H
 obtain ⟨y105, hy105⟩ : ∃ y_ : List Int, y_ = (([t103, t104] : List Int)) := ⟨_, rfl⟩
 first | (replace H := bindS H; rw [← hy105] at H; try dsimp only at H) | rw [← hy105] at H
 have Ny105 := aM hy105
 clear hy105
 obtain ⟨t108, A5, H⟩ := bS H; try dsimp only at H
 obtain rfl := Option.some.inj H
 go_enter Try.func57, Try.ntmps57
 try go_wp2_with (first | ((with_reducible refine gate_dst (N := 2) rfl ?_); refine bX 2 45 #[.string a0_0, .int .i64 a0_1, .int .i64 a0_2, .int .i64 a0_3, .int .i64 a0_4, .int .i64 a0_5, .int .i64 a0_6, .slice A0_7 l0_7.length c0_7, .bool a0_8] ?_; intro gb101 hg w6 hbox hb; have _ := aM (below_step hbZ hb); have _ := aM hbox; have _ := szZ hg; have _ := szZ hg; clear HB; rename_i HB BK101 GW101 GE101; clear hb hbox hg) | ((with_reducible refine gate_dst (N := 3) rfl ?_); refine bX 3 45 #[.string a1_0, .int .i64 a1_1, .int .i64 a1_2, .int .i64 a1_3, .int .i64 a1_4, .int .i64 a1_5, .int .i64 a1_6, .slice A1_7 l1_7.length c1_7, .bool a1_8] ?_; intro gb102 hg w7 hbox hb; have _ := bB gb101 hb; have _ := aM (below_step hbZ hb); have _ := aM hbox; have _ := szZ hg; have _ := szZ hg; have ⟨_, _⟩ := nbB gb101 hg; clear BK101 HB; rename_i BK101 HB BK102 GW102 GE102 NB101_102 NB102_101; clear hb hbox hg))
 have _ := aM (blk_drew BK101.out)
 have _ := aM (blk_drew BK102.out)
 have _ := aM (below_drew1 HB.out)
 clear BK101
 clear BK102
 clear HB
 rename_i BK101 BK102 HB
 refine sA 13 impl_compareEntries.tab1 impl_compareEntries.bits1 (fun w' => w'.cell? ⟨gb101, 0, none⟩ = some (.string a0_0) ∧ w'.cell? ⟨gb101, 1, none⟩ = some (.int .i64 a0_1) ∧ w'.cell? ⟨gb101, 2, none⟩ = some (.int .i64 a0_2) ∧ w'.cell? ⟨gb101, 3, none⟩ = some (.int .i64 a0_3) ∧ w'.cell? ⟨gb101, 4, none⟩ = some (.int .i64 a0_4) ∧ w'.cell? ⟨gb101, 5, none⟩ = some (.int .i64 a0_5) ∧ w'.cell? ⟨gb101, 6, none⟩ = some (.int .i64 a0_6) ∧ w'.cell? ⟨gb101, 7, none⟩ = some (.slice A0_7 l0_7.length c0_7) ∧ w'.cell? ⟨gb101, 8, none⟩ = some (.bool a0_8) ∧ w'.cell? ⟨gb102, 0, none⟩ = some (.string a1_0) ∧ w'.cell? ⟨gb102, 1, none⟩ = some (.int .i64 a1_1) ∧ w'.cell? ⟨gb102, 2, none⟩ = some (.int .i64 a1_2) ∧ w'.cell? ⟨gb102, 3, none⟩ = some (.int .i64 a1_3) ∧ w'.cell? ⟨gb102, 4, none⟩ = some (.int .i64 a1_4) ∧ w'.cell? ⟨gb102, 5, none⟩ = some (.int .i64 a1_5) ∧ w'.cell? ⟨gb102, 6, none⟩ = some (.int .i64 a1_6) ∧ w'.cell? ⟨gb102, 7, none⟩ = some (.slice A1_7 l1_7.length c1_7) ∧ w'.cell? ⟨gb102, 8, none⟩ = some (.bool a1_8)) [] (fun hHeld HT_ HW_ => ?_)
 generalize w7.drew = w8 at BK101 BK102 HB hHeld ⊢
 refine pA 0 5 HT_ ?_; refine pA 2 7 HT_ ?_; refine pA 5 10 HT_ ?_; refine pA 7 12 HT_ ?_; refine tA 1 6 HT_ HW_ hHeld ?_; refine tA 3 8 HT_ HW_ hHeld ?_; refine tA 6 11 HT_ HW_ hHeld ?_; refine tA 8 13 HT_ HW_ hHeld ?_; refine oA 4 9 HT_ (fun K hK => ?_)
 refine goes_ Try.func88 (by kernel_rfl) rfl #[.string a0_0, .string a1_0] (by rfl) rfl rfl zee81 ?_
 with_reducible refine (cmp_Compare_string.calls a0_0 a1_0 t103 _ A3.out).mono ?_
 rintro e w' ⟨rfl, ⟨nd, rfl⟩⟩
 refine ⟨_, rfl, ?_⟩
 refine hK.out _ _ sZ (fun hHeld => ?_)
 clear hK K
 refine nA 9 ?_; refine oA 9 14 HT_ (fun K hK => ?_)
 refine goes_ Try.func89 (by kernel_rfl) rfl #[.int .i64 a1_1, .int .i64 a0_1] (by rfl) rfl rfl zee81 ?_
 with_reducible refine (cmp_Compare_int.calls a1_1 a0_1 t104 _ A4.out).mono ?_
 rintro e w' ⟨rfl, ⟨nd, rfl⟩⟩
 refine ⟨_, rfl, ?_⟩
 refine hK.out _ _ sZ (fun hHeld => ?_)
 clear hK K
 refine nA 14 ?_; refine oA 10 15 HT_ (fun K hK => ?_)
 refine Kd.R_lit_step (Kd.int .i64) _ 3 ?hg (N := 15) ?hd (xs := ([t103, t104] : List Int)) (inner := [.int .i64 t103, .int .i64 t104]) (ok := fun _ => True) (okp := fun _ => True) ?hr ?hp (fun _ hk => hk) trivial (Below.refl _ _) (Nat.le_refl _) (by simp) ?_; (case hd => rfl); (case hg => rfl); (case hr => first | (go_simp; done) | (go_simp; rfl)); (case hp => exact (Reps.one (show Kd.M (Kd.int .i64) _ _ _ t103 [.int .i64 t103] from rfl) (Reps.one (show Kd.M (Kd.int .i64) _ _ _ t104 [.int .i64 t104] from rfl) (Reps.none _ _))))
 intro v106 w9 ho10 hb hg_ hnew_
 clear hg_ hnew_
 (first | rw [← Ny105.out] at ho10 | (simp only [Int.reduceToNat] at ho10; rw [← Ny105.out] at ho10))
 have _ := aM (Kd.R_lower ho10 (below_size hbZ))
 have _ := bB gb101 hb
 have _ := bB gb102 hb
 have _ := aM (below_step hbZ hb)
 clear BK101
 clear BK102
 clear HB
 rename_i HO107 BK101 BK102 HB
 clear hb ho10
 obtain ⟨Ao11, co11, eo11⟩ := Kd.R_slice HO107.out
 (first | subst eo11 | (injection eo11 with f1_ f2_ f3_; have f4_ := f1_.symm; have f5_ := f3_.symm; clear f1_ f2_ f3_; subst f4_; subst f5_))
 refine hK.out _ _ sZ (fun hHeld => ?_)
 clear hK K
 refine nA 15 ?_; refine oA 11 16 HT_ (fun K hK => ?_)
 refine goes_ Try.func87 (by kernel_rfl) rfl #[.slice Ao11 y105.length co11] (by rfl) rfl rfl zee81 ?_
 with_reducible refine (cmp_Or_int.calls k _ _ y105 t108 _ ?side1 ?side2 A5.out).mono ?_
 (case side1 => exact (by repeat (first | exact (Kd.R_reads' HO107.out).2.2 | (with_reducible refine Kd.C_alloc ?_ _) | (with_reducible refine Kd.C_drewN ?_ _) | (with_reducible refine Kd.C_drew ?_))))
 (case side2 => exact (Kd.R_reads' HO107.out).2.1)
 rintro e w' ⟨rfl, ⟨nd, rfl⟩⟩
 refine ⟨_, rfl, ?_⟩
 refine hK.out _ _ sZ (fun hHeld => ?_)
 clear hK K
 refine nA 16 ?_; refine pA 12 4 HT_ ?_
 refine done_ (done_of HT_.out (by kernel_rfl)) ?_
 try go_wp2
 go_ret
 exact ⟨z674d, zcb41⟩
end Go.Proofs.Ytdkokfnnebdppaa.P
namespace Go.Proofs
open Go.Shelf
def Try.lays215_ren : Go.Shelf.Ren := ⟨fun | 215 => 101 | n => n, fun | 3 => 3 | 4 => 4 | n => n, fun | n => n⟩
theorem Try.lays215 : Go.Proofs.Lays.n215 Try.prog Try.lays215_ren := {
  mixed := by kernel_rfl
  f215 := Try.func101.trans (congrArg some (by kernel_rfl))
  t3 := Try.underlying3
  a3 := Try.isAgg3
  z3 := Try.sizeOf3
  v3 := Try.zeroValue3
  t4 := Try.underlying4
  a4 := Try.isAgg4
  z4 := Try.sizeOf4
  v4 := Try.zeroValue4 }
open Go.RowKit in
theorem Try.cmp_isNaN_int (x : Int) (w : World) :
    Calls Try.prog 101 #[.int .i64 x] w fun e w' => e = .returned (.bool false) ∧ w' = w := Any.cmp_isNaN_int Try.lays215 x w
def Try.lays122_ren : Go.Shelf.Ren := ⟨fun | 122 => 89 | 215 => 101 | n => n, fun | 3 => 3 | 4 => 4 | n => n, fun | n => n⟩
theorem Try.lays122 : Go.Proofs.Lays.n122 Try.prog Try.lays122_ren := {
  mixed := by kernel_rfl
  f122 := Try.func89.trans (congrArg some (by kernel_rfl))
  f215 := Try.func101.trans (congrArg some (by kernel_rfl))
  t3 := Try.underlying3
  a3 := Try.isAgg3
  z3 := Try.sizeOf3
  v3 := Try.zeroValue3
  t4 := Try.underlying4
  a4 := Try.isAgg4
  z4 := Try.sizeOf4
  v4 := Try.zeroValue4 }
open Go.RowKit in
theorem Try.cmp_Compare_int (x y : Int) (w : World) :
    Calls Try.prog 89 #[.int .i64 x, .int .i64 y] w fun e w' => e = .returned (.int .i64 (Lib.compareInt x y)) ∧ w' = w := Any.cmp_Compare_int Try.lays122 x y w
def Try.lays189_ren : Go.Shelf.Ren := ⟨fun | 189 => 58 | 125 => 91 | 257 => 90 | 128 => 111 | 129 => 112 | 294 => 102 | 295 => 103 | 296 => 104 | 297 => 105 | 298 => 106 | 299 => 107 | 216 => 108 | 300 => 109 | 301 => 110 | 328 => 115 | 329 => 116 | 330 => 117 | 331 => 118 | 332 => 119 | 215 => 101 | 343 => 121 | n => n, fun | 28 => 24 | 3 => 3 | 46 => 105 | 0 => 0 | 51 => 117 | 53 => 74 | 4 => 4 | 183 => 110 | 182 => 109 | 131 => 95 | 5 => 5 | 9 => 9 | 218 => 119 | 222 => 123 | 228 => 126 | 229 => 127 | n => n, fun | n => n⟩
theorem Try.lays189 : Go.Proofs.Lays.n189 Try.prog Try.lays189_ren := {
  mixed := by kernel_rfl
  f125 := Try.func91.trans (congrArg some (by kernel_rfl))
  f128 := Try.func111.trans (congrArg some (by kernel_rfl))
  f129 := Try.func112.trans (congrArg some (by kernel_rfl))
  f189 := Try.func58.trans (congrArg some (by kernel_rfl))
  f215 := Try.func101.trans (congrArg some (by kernel_rfl))
  f216 := Try.func108.trans (congrArg some (by kernel_rfl))
  f257 := Try.func90.trans (congrArg some (by kernel_rfl))
  f294 := Try.func102.trans (congrArg some (by kernel_rfl))
  f295 := Try.func103.trans (congrArg some (by kernel_rfl))
  f296 := Try.func104.trans (congrArg some (by kernel_rfl))
  f297 := Try.func105.trans (congrArg some (by kernel_rfl))
  f298 := Try.func106.trans (congrArg some (by kernel_rfl))
  f299 := Try.func107.trans (congrArg some (by kernel_rfl))
  f300 := Try.func109.trans (congrArg some (by kernel_rfl))
  f301 := Try.func110.trans (congrArg some (by kernel_rfl))
  f328 := Try.func115.trans (congrArg some (by kernel_rfl))
  f329 := Try.func116.trans (congrArg some (by kernel_rfl))
  f330 := Try.func117.trans (congrArg some (by kernel_rfl))
  f331 := Try.func118.trans (congrArg some (by kernel_rfl))
  f332 := Try.func119.trans (congrArg some (by kernel_rfl))
  f343 := Try.func121.trans (congrArg some (by kernel_rfl))
  t0 := Try.underlying0
  a0 := Try.isAgg0
  z0 := Try.sizeOf0
  v0 := Try.zeroValue0
  t3 := Try.underlying3
  a3 := Try.isAgg3
  z3 := Try.sizeOf3
  v3 := Try.zeroValue3
  t4 := Try.underlying4
  a4 := Try.isAgg4
  z4 := Try.sizeOf4
  v4 := Try.zeroValue4
  t5 := Try.underlying5
  a5 := Try.isAgg5
  z5 := Try.sizeOf5
  v5 := Try.zeroValue5
  t9 := Try.underlying9
  a9 := Try.isAgg9
  z9 := Try.sizeOf9
  v9 := Try.zeroValue9
  t28 := Try.underlying24
  a28 := Try.isAgg24
  z28 := Try.sizeOf24
  v28 := Try.zeroValue24
  t46 := Try.underlying105
  a46 := Try.isAgg105
  z46 := Try.sizeOf105
  v46 := Try.zeroValue105
  t51 := Try.underlying117
  a51 := Try.isAgg117
  z51 := Try.sizeOf117
  v51 := Try.zeroValue117
  t53 := Try.underlying74
  a53 := Try.isAgg74
  z53 := Try.sizeOf74
  v53 := Try.zeroValue74
  t131 := Try.underlying95
  a131 := Try.isAgg95
  z131 := Try.sizeOf95
  v131 := Try.zeroValue95
  t182 := Try.underlying109
  a182 := Try.isAgg109
  z182 := Try.sizeOf109
  v182 := Try.zeroValue109
  t183 := Try.underlying110
  a183 := Try.isAgg110
  z183 := Try.sizeOf110
  v183 := Try.zeroValue110
  t218 := Try.underlying119
  a218 := Try.isAgg119
  z218 := Try.sizeOf119
  v218 := Try.zeroValue119
  t222 := Try.underlying123
  a222 := Try.isAgg123
  z222 := Try.sizeOf123
  v222 := Try.zeroValue123
  t228 := Try.underlying126
  a228 := Try.isAgg126
  z228 := Try.sizeOf126
  v228 := Try.zeroValue126
  t229 := Try.underlying127
  a229 := Try.isAgg127
  z229 := Try.sizeOf127
  v229 := Try.zeroValue127 }
open Go.Sort Go.RowKit in
theorem Try.slices_Sort_int (blk off cap : Nat) (zs : List Int) (w : World) (hH : Holds (Value.int .i64) w blk off zs.toArray) (hblk : blk < w.heap.size) (hsz : zs.length < 4611686018427387904) :
    Calls Try.prog 58 #[.slice (some ⟨blk, off, none⟩) zs.length cap] w fun e w' =>
      e = .returned (.tuple #[]) ∧ ∃ n os, w' = grow (putRow (Value.int .i64) (Sort.ahead w n) blk off (zs.mergeSort fun x y => decide (x ≤ y)).toArray) os := Any.slices_Sort_int Try.lays189 blk off cap zs w hH hblk hsz
def Try.laysNm220_ren : Go.Shelf.Ren := ⟨fun | 20 => 59 | n => n, fun | 22 => 24 | 3 => 3 | 4 => 4 | 0 => 0 | n => n, fun | n => n⟩
theorem Try.laysNm220 : Go.Proofs.Lays2.n20 Try.prog Try.laysNm220_ren := {
  mixed := by kernel_rfl
  f20 := Try.func59.trans (congrArg some (by kernel_rfl))
  t0 := Try.underlying0
  a0 := Try.isAgg0
  z0 := Try.sizeOf0
  v0 := Try.zeroValue0
  t3 := Try.underlying3
  a3 := Try.isAgg3
  z3 := Try.sizeOf3
  v3 := Try.zeroValue3
  t4 := Try.underlying4
  a4 := Try.isAgg4
  z4 := Try.sizeOf4
  v4 := Try.zeroValue4
  t22 := Try.underlying24
  a22 := Try.isAgg24
  z22 := Try.sizeOf24
  v22 := Try.zeroValue24
  i3 := by kernel_rfl }
open Go.RowKit Go.Lib Go.Sort in
theorem Try.slices_Compact_int (blk off cap : Nat) (zs : List Int) (w : World) (hH : Holds (Value.int .i64) w blk off zs.toArray) (hsz : zs.length ≤ 9223372036854775807) (hcap : zs.length ≤ cap) :
    Calls Try.prog 59 #[.slice (some ⟨blk, off, none⟩) zs.length cap] w fun e w' => e = .returned (.slice (some ⟨blk, off, none⟩) (Lib.compact zs).length cap) ∧ ∃ q, w' = putRow (Value.int .i64) (Sort.ahead w q) blk off (Lib.compact zs ++ List.replicate (zs.length - (Lib.compact zs).length) 0).toArray := Any.slices_Compact_int Try.laysNm220 blk off cap zs w hH hsz hcap
open Go.RowKit Go.Lib Go.Sort in
theorem Try.slices_Compact_int_empty (a : Option Addr) (cap : Nat) (w : World) :
    Calls Try.prog 59 #[.slice a 0 cap] w fun e w' => e = .returned (.slice a 0 cap) ∧ w' = w := Any.slices_Compact_int_empty Try.laysNm220 a cap w
open Go.RowKit Go.Sort in
theorem Try.slices_Sort_int_none (p : Option Addr) (cap : Nat) (w : World) :
    Calls Try.prog 58 #[.slice p 0 cap] w fun e w' => e = .returned (.tuple #[]) ∧ w' = w := Any.slices_Sort_int_none Try.lays189 p cap w
end Go.Proofs
namespace Go.Proofs.Ytdkokfnnebdppaa.P
open Go.RowKit Go.Proofs.YtdkokfnnebdppaaW.PrintWords Go.Proofs.YtdkokfnnebdppaaW.PrintLast Go.Proofs.YtdkokfnnebdppaaW.PrintMore
attribute [local go_sem] max2_int min2_int max_two min_two max_three min_three max_four min_four str_geq str_gtr str_leq
set_option linter.unusedVariables false
set_option linter.unusedSimpArgs false
def slices_Sort_int_int.f (l0 : List Int) : Option (List Int) := if l0.length < 4611686018427387904 then some (l0.mergeSort fun x y => decide (x ≤ y)) else none
theorem slices_Sort_int_int.calls (P0_ : Nat → Prop) (u9000_ : Value) (l0 : List Int) (r : List Int) (w0 w : World) (hB : Below w0.heap.size w0 w) (ho0 : Kd.R (Kd.int .i64) 3 w w0.heap.size P0_ u9000_ l0) (h : slices_Sort_int_int.f l0 = some r) :
 Calls Try.prog 58 #[u9000_] w fun e w' => e = .returned (.tuple #[]) ∧ Kd.R (Kd.int .i64) 3 w' w0.heap.size (fun k_ => (P0_ k_ ∨ w.heap.size ≤ k_)) u9000_ r ∧ Below w0.heap.size w0 w' ∧ Kept w w' (fun k_ => P0_ k_) := by
 unfold slices_Sort_int_int.f at h
 split at h
 · rename_i hlen
   obtain rfl := Option.some.inj h
   have ho : w.ownsRow w0.heap.size 3 1 u9000_ l0.length (l0.map (Value.int .i64)) := Kd.own_of_R ho0
   by_cases h0 : l0 = []
   · subst h0
     obtain ⟨A, c, rfl⟩ := Kd.R_slice ho0
     refine (Try.slices_Sort_int_none A c w).mono ?_
     rintro e w' ⟨rfl, rfl⟩
     rw [List.mergeSort_nil]
     exact ⟨rfl, Kd.R_mono ho0 (fun k hk => .inl hk), hB, Kept.refl _ _⟩
   · skip
     have hne : u9000_ ≠ .slice none 0 0 := by
      rintro rfl
      rcases ho.2 with ⟨_, hn⟩ | ⟨_, _, _, hv, _⟩
      · exact h0 (List.length_eq_zero_iff.1 hn)
      · cases hv
     obtain ⟨g', cap', e1, _, hlt, _, _, _, hH⟩ := Go.Lib.holds_of_ownsRow ho hne
     rcases ho.2 with ⟨hv, _⟩ | ⟨g, cap, cur, rfl, hbase, hgc, hn, hm, hs, ht⟩
     · exact absurd hv hne
     · obtain ⟨rfl, rfl⟩ : g = g' ∧ cap = cap' := by simpa using e1
       refine (Try.slices_Sort_int g 0 cap l0 w hH hlt hlen).mono ?_
       rintro e w' ⟨rfl, n, os, rfl⟩
       have hg := grownBy_sortedI (w := w) (g := g) (n := n) (os := os) (l0.mergeSort fun x y => decide (x ≤ y)).toArray
       have hl : (l0.mergeSort fun x y => decide (x ≤ y)).length = l0.length := List.length_mergeSort ..
       have hR := ownsRow_sortedI (n := n) (os := os) hl hbase hgc hn hm hs
       refine ⟨rfl, Kd.R_of_own (h1 := fun _ => rfl) ?_ (fun k hk => .inl (ho0.1 k hk)), hB.grown hg hB.size (fun k hk => by injection hk with hk; omega), ⟨hg.size, fun i hi hn => hg.block i hi (fun e => hn (ho0.1 i (by injection e with e; rw [e]; rfl)))⟩⟩
       rw [hl]
       exact hR
 · cases h
def slices_Compact_int_int.f (l0 : List Int) : Option (List Int) := if l0.length ≤ 9223372036854775807 then some (Go.Lib.compact l0) else none
theorem slices_Compact_int_int.calls (P0_ : Nat → Prop) (u9000_ : Value) (l0 : List Int) (r : List Int) (w0 w : World) (hB : Below w0.heap.size w0 w) (ho0 : Kd.R (Kd.int .i64) 3 w w0.heap.size P0_ u9000_ l0) (h : slices_Compact_int_int.f l0 = some r) :
 Calls Try.prog 59 #[u9000_] w fun e w' => ∃ v0_ : Value, e = .returned (v0_) ∧ Kd.R (Kd.int .i64) 3 w' w0.heap.size (fun k_ => (P0_ k_ ∨ w.heap.size ≤ k_)) v0_ r ∧ Below w0.heap.size w0 w' ∧ Kept w w' (fun k_ => P0_ k_) := by
 unfold slices_Compact_int_int.f at h
 split at h
 · rename_i hlen
   obtain rfl := Option.some.inj h
   have ho : w.ownsRow w0.heap.size 3 1 u9000_ l0.length (l0.map (Value.int .i64)) := Kd.own_of_R ho0
   by_cases h0 : l0 = []
   · subst h0
     obtain ⟨A, c, rfl⟩ := Kd.R_slice ho0
     refine (Try.slices_Compact_int_empty A c w).mono ?_
     rintro e w' ⟨rfl, rfl⟩
     exact ⟨_, rfl, Kd.R_mono ho0 (fun k hk => .inl hk), hB, Kept.refl _ _⟩
   · skip
     have hne : u9000_ ≠ .slice none 0 0 := by
      rintro rfl
      rcases ho.2 with ⟨_, hn⟩ | ⟨_, _, _, hv, _⟩
      · exact h0 (List.length_eq_zero_iff.1 hn)
      · cases hv
     obtain ⟨g, cap, rfl, hbase, hlt, hn, hm, _, hH⟩ := Go.Lib.holds_of_ownsRow ho hne
     refine (Try.slices_Compact_int g 0 cap l0 w hH hlen hn).mono ?_
     rintro e w' ⟨rfl, q, rfl⟩
     have hle : (Go.Lib.compact l0).length ≤ l0.length := Go.Lib.compact_length_le l0
     have hy : (Go.Lib.compact l0 ++ List.replicate (l0.length - (Go.Lib.compact l0).length) 0).length = l0.length := by rw [List.length_append, List.length_replicate]; omega
     have hR := Go.Lib.ownsRow_putRow (q := q) ho hy hle
     rw [List.take_left] at hR
     have hg' : w.grownBy (Go.Sort.putRow (Value.int .i64) (Go.Sort.ahead w q) g 0 (Go.Lib.compact l0 ++ List.replicate (l0.length - (Go.Lib.compact l0).length) 0).toArray) (some g) := by
      refine ⟨rfl, rfl, rfl, by simp, fun k hk hne => ?_⟩
      have : g ≠ k := fun e => hne (by rw [e])
      simp [Go.Sort.putRow, Go.Sort.mapBlock, Go.Sort.ahead, Array.getElem?_modify, this]
     exact ⟨_, rfl, Kd.R_of_own (h1 := fun _ => rfl) hR (fun k hk => .inl (ho0.1 k (by simpa [Value.ownBlock] using hk))), hB.grown hg' hB.size (fun k hk => by injection hk with hk; omega), ⟨hg'.size, fun i hi hn => hg'.block i hi (fun e => hn (ho0.1 i (by injection e with e; rw [e]; rfl)))⟩⟩
 · cases h
def impl_GoodEntries.l0 : Nat → List (S45) → List Int → List (S45) → Int → Int → Option (Bool)
 | 0, _, _, _, _, _ => none
 | k + 1, x0, x3, x7, x8, x9 => if x9 < x8 then (if 0 ≤ x9 then (if x9 < (x7.length : Int) then ((impl_GoodEntry.f k ((rd_T45 x7 x9).f0) ((rd_T45 x7 x9).f1) ((rd_T45 x7 x9).f2) ((rd_T45 x7 x9).f3.f0) ((rd_T45 x7 x9).f3.f1) ((rd_T45 x7 x9).f3.f2) ((rd_T45 x7 x9).f3.f3) ((rd_T45 x7 x9).f3.f4) ((rd_T45 x7 x9).f3.f5)).bind fun t110 => (if t110 = true then (if x9 > 0 then (if 0 ≤ (wrap64 (x9 - 1)) then (if (wrap64 (x9 - 1)) < (x0.length : Int) then ((impl_compareEntries.f k ((rd_T45 x0 (wrap64 (x9 - 1))).f0) ((rd_T45 x0 (wrap64 (x9 - 1))).f1) ((rd_T45 x0 (wrap64 (x9 - 1))).f2) ((rd_T45 x0 (wrap64 (x9 - 1))).f3.f0) ((rd_T45 x0 (wrap64 (x9 - 1))).f3.f1) ((rd_T45 x0 (wrap64 (x9 - 1))).f3.f2) ((rd_T45 x0 (wrap64 (x9 - 1))).f3.f3) ((rd_T45 x0 (wrap64 (x9 - 1))).f3.f4) ((rd_T45 x0 (wrap64 (x9 - 1))).f3.f5) ((rd_T45 x7 x9).f0) ((rd_T45 x7 x9).f1) ((rd_T45 x7 x9).f2) ((rd_T45 x7 x9).f3.f0) ((rd_T45 x7 x9).f3.f1) ((rd_T45 x7 x9).f3.f2) ((rd_T45 x7 x9).f3.f3) ((rd_T45 x7 x9).f3.f4) ((rd_T45 x7 x9).f3.f5)).bind fun t112 => (if t112 ≥ 0 then (some false) else (if x3.length < 17592186044416 then (impl_GoodEntries.l0 k x0 (x3 ++ [(rd_T45 x7 x9).f1]) x7 x8 (wrap64 (x9 + 1))) else (none)))) else (none)) else (none)) else (if x3.length < 17592186044416 then (impl_GoodEntries.l0 k x0 (x3 ++ [(rd_T45 x7 x9).f1]) x7 x8 (wrap64 (x9 + 1))) else (none))) else (some false))) else (none)) else (none)) else ((slices_Sort_int_int.f x3).bind fun t104 => ((slices_Compact_int_int.f t104).bind fun t105 => (some ((t105.length : Int) == (x0.length : Int)))))
def impl_GoodEntries.f (k : Nat) (l0 : List (S45)) : Option (Bool) := impl_GoodEntries.l0 k l0 (([] : List Int)) l0 (l0.length : Int) 0
theorem impl_GoodEntries.mono_l : ∀ k, (∀ y0 y1 y2 y3 y4, LeO (impl_GoodEntries.l0 k y0 y1 y2 y3 y4) (impl_GoodEntries.l0 (k + 1) y0 y1 y2 y3 y4))
 | 0 => fun _ _ _ _ _ r h => by simp [impl_GoodEntries.l0] at h
 | k + 1 => by
  have ih0 := impl_GoodEntries.mono_l k; have m0 := @impl_GoodEntry.mono; have m1 := @impl_compareEntries.mono
  · intro y0 y1 y2 y3 y4
    unfold impl_GoodEntries.l0
    exact moZ
theorem impl_GoodEntries.mono : ∀ a0 k, LeO (impl_GoodEntries.f k a0) (impl_GoodEntries.f (k + 1) a0) := by
 intro a0 k
 have ih0 := impl_GoodEntries.mono_l k
 have m0 := @impl_GoodEntry.mono; have m1 := @impl_compareEntries.mono
 unfold impl_GoodEntries.f
 exact moZ
def impl_GoodEntries.T5 : Bool × List (List Nat × List Nat) := (true, [([], []), ([0], [0]), ([1], [1]), ([2, 1], [2]), ([3], [3]), ([4, 3], [3, 4]), ([5, 3, 3], [3, 5]), ([6], [6]), ([6], [6]), ([8, 6], [6, 8]), ([7, 9, 6], [6, 7, 9]), ([10, 6], [6, 10]), ([6], [6]), ([11, 12, 6, 6], [6, 11, 12]), ([13, 6], [6, 13]), ([6, 14, 3], [3, 6, 14]), ([3, 15], [3, 15])])
def impl_GoodEntries.B5 : List Nat := [0, 1, 3, 7, 15, 31, 63, 127, 127, 383, 1023, 2047, 127, 8191, 16383, 32767, 65535]
theorem impl_GoodEntries.tab5 : rtab .any (opsOf Try.f28 5) = impl_GoodEntries.T5 := by kernel_rfl
theorem impl_GoodEntries.bits5 : waitsOk impl_GoodEntries.T5.2 impl_GoodEntries.B5 = true := by kernel_rfl
theorem impl_GoodEntries.calls (k : Nat) (A0 : Option Addr) (c0 : Nat) (l0 : List (S45)) (r : Bool) (w : World) (hr0 : Kd.C k45 w A0 l0.length l0) (hc0 : l0.length ≤ c0) (h : impl_GoodEntries.f k l0 = some r) :
 Calls Try.prog 28 #[.slice A0 l0.length c0] w fun e w' => e = .returned (.bool r) ∧ Below w.heap.size w w' := by
 have hu45 := Try.underlying45
 have HR0 := aM hr0
 have HC0 := aM hc0
 clear hr0 hc0
 have HB := aM (Below.refl w.heap.size w)
 have H : (impl_GoodEntries.l0 k l0 (([] : List Int)) l0 (l0.length : Int) 0) = some r := h
 clear h
 obtain ⟨y101, hy101⟩ : ∃ y_ : List Int, y_ = (([] : List Int)) := ⟨_, rfl⟩
 first | (replace H := bindS H; rw [← hy101] at H; try dsimp only at H) | rw [← hy101] at H
 have Ny101 := aM hy101
 clear hy101
 have H' := aM H
 clear H
 go_enter Try.func28, Try.ntmps28
 go_wp2_with (first | ((with_reducible refine gate_dst (N := 6) rfl ?_); refine Kd.R_lit (Kd.int .i64) _ 3 ?hg (N := 6) ?hd (xs := ([] : List Int)) (inner := []) (ok := fun _ => True) (okp := fun _ => True) ?hr ?hp (fun _ hk => hk) trivial (Below.refl _ _) (Nat.le_refl _) (by simp) ?_; (case hd => rfl); (case hg => rfl); (case hr => first | (go_simp; done) | (go_simp; rfl)); (case hp => exact (Reps.none _ _)); intro v102 w2 ho3 hb hg_ hnew_; clear hg_ hnew_; (first | rw [← Ny101.out] at ho3 | (simp only [Int.reduceToNat] at ho3; rw [← Ny101.out] at ho3)); have _ := aM (Kd.R_lower ho3 (below_size hbZ)); have _ := aM (below_step hbZ hb); clear HB; rename_i HO103 HB; clear hb ho3))
 go_loopg [3, 9] k (fun kq v3 v9 w' => ∃ (x3_1 : List Int) (x9_1 : Int), v9 = .int .i64 x9_1 ∧ Aside0 (impl_GoodEntries.l0 kq l0 x3_1 l0 (l0.length : Int) x9_1 = some r) ∧ Aside0 (kq ≤ k) ∧ Aside0 (Kd.R (Kd.int .i64) 3 w' w.heap.size (fun _ => True) v3 x3_1) ∧ Aside0 (Below w.heap.size w w'))
 case atStart => exact ⟨(y101), (0), z4458, H', ⟨Nat.le_refl _⟩, ⟨rZ HO103.out⟩, ⟨z5acd⟩⟩
 case round =>
  clear H'
  obtain ⟨x3_1, x9_1, rfl, HA, HK1, HO_3, HB⟩ := hrel
  cases gk with
  | zero => exact absurd HA.out (by simp [impl_GoodEntries.l0])
  | succ k1 =>
   have H := HA.out
   clear HA
   simp only [impl_GoodEntries.l0] at H
   by_cases c4 : x9_1 < (l0.length : Int)
   · rw [if_pos c4] at H
     have c4b0 := dL c4
     clear c4
     obtain ⟨c5b0, H⟩ := sE H
     obtain ⟨c6b0, H⟩ := sL H
     obtain ⟨t110, A7, H⟩ := bS H; try dsimp only at H
     by_cases c8 : t110 = true
     · subst c8
       rw [if_pos rfl] at H
       by_cases c9 : x9_1 > 0
       · rw [if_pos c9] at H
         have c9b0 := dL c9
         clear c9
         obtain ⟨ji10, hji10⟩ : ∃ j_ : Int, (wrap64 (x9_1 - 1)) = j_ := ⟨_, rfl⟩
         replace H : (if 0 ≤ (ji10) then (if (ji10) < (l0.length : Int) then ((impl_compareEntries.f k1 ((rd_T45 l0 (ji10)).f0) ((rd_T45 l0 (ji10)).f1) ((rd_T45 l0 (ji10)).f2) ((rd_T45 l0 (ji10)).f3.f0) ((rd_T45 l0 (ji10)).f3.f1) ((rd_T45 l0 (ji10)).f3.f2) ((rd_T45 l0 (ji10)).f3.f3) ((rd_T45 l0 (ji10)).f3.f4) ((rd_T45 l0 (ji10)).f3.f5) ((rd_T45 l0 x9_1).f0) ((rd_T45 l0 x9_1).f1) ((rd_T45 l0 x9_1).f2) ((rd_T45 l0 x9_1).f3.f0) ((rd_T45 l0 x9_1).f3.f1) ((rd_T45 l0 x9_1).f3.f2) ((rd_T45 l0 x9_1).f3.f3) ((rd_T45 l0 x9_1).f3.f4) ((rd_T45 l0 x9_1).f3.f5)).bind fun t112 => (if t112 ≥ 0 then (some false) else (if x3_1.length < 17592186044416 then (impl_GoodEntries.l0 k1 l0 (x3_1 ++ [(rd_T45 l0 x9_1).f1]) l0 (l0.length : Int) (wrap64 (x9_1 + 1))) else (none)))) else (none)) else (none)) = some r := by first | (rw [hji10] at H; exact H) | (simp only [hji10] at H ⊢; exact H)
         (try rw [hji10] at A7)
         have hji10w : (IntKind.i64.wrap (x9_1 - 1)) = ji10 := (i64_w _).trans hji10
         obtain ⟨c11b0, H⟩ := sE H
         obtain ⟨c12b0, H⟩ := sL H
         obtain ⟨t112, A13, H⟩ := bS H; try dsimp only at H
         by_cases c14 : t112 ≥ 0
         · rw [if_pos c14] at H
           have c14b0 := dE c14
           clear c14
           obtain rfl := Option.some.inj H
           have p108 : 0 ≤ (x9_1 : Int) := of_decide_eq_true z1200
           have q108 : x9_1 < (l0.length : Int) := of_decide_eq_true z1200
           obtain ⟨ad108, A108_7, c108_7, e108, hx108_0, hx108_1, hx108_2, hx108_3, hx108_4, hx108_5, hx108_6, hx108_7, hx108_8, hl108_7, hi108_7⟩ := at_T45 HR0.out x9_1 p108 q108
           cases e108
           have TW108_7 := aM hx108_7
           replace hx108_0 := (HB.out.cell (World.block_lt_of_cell? w _ hx108_0)).trans hx108_0
           replace hx108_1 := (HB.out.cell (World.block_lt_of_cell? w _ hx108_1)).trans hx108_1
           replace hx108_2 := (HB.out.cell (World.block_lt_of_cell? w _ hx108_2)).trans hx108_2
           replace hx108_3 := (HB.out.cell (World.block_lt_of_cell? w _ hx108_3)).trans hx108_3
           replace hx108_4 := (HB.out.cell (World.block_lt_of_cell? w _ hx108_4)).trans hx108_4
           replace hx108_5 := (HB.out.cell (World.block_lt_of_cell? w _ hx108_5)).trans hx108_5
           replace hx108_6 := (HB.out.cell (World.block_lt_of_cell? w _ hx108_6)).trans hx108_6
           replace hx108_7 := (HB.out.cell (World.block_lt_of_cell? w _ hx108_7)).trans hx108_7
           replace hx108_8 := (HB.out.cell (World.block_lt_of_cell? w _ hx108_8)).trans hx108_8
           have HR108_7 := aM hi108_7
           have HC108_7 := aM hl108_7
           clear hi108_7 hl108_7
           replace p108 := eq_true p108
           replace q108 := eq_true q108
           try go_wp2_with (first | ((with_reducible refine gate_dst (N := 5) rfl ?_); refine bX 5 45 #[.string (⟨#[]⟩ : ByteArray), .int .i64 0, .int .i64 0, .int .i64 0, .int .i64 0, .int .i64 0, .int .i64 0, .slice none 0 0, .bool false] ?_; intro gb109 hg w15 hbox hb; have _ := aM (Kd.R_below (rZ HO_3.out) hb); have _ := aM (below_step hbZ hb); have _ := aM hbox; have _ := szZ hg; have _ := szZ hg; clear HO_3 HB; rename_i HO_3 HB BK109 GW109 GE109; clear hb hbox hg; have hz16 := cellsZ9 BK109.out))
           have n0_ : Aside0 (Kd.R (Kd.int .i64) 3 (((((((((w15.setCell ⟨gb109, 0, none⟩ (.string ((rd_T45 l0 x9_1).f0))).setCell ⟨gb109, 1, none⟩ (.int .i64 ((rd_T45 l0 x9_1).f1))).setCell ⟨gb109, 2, none⟩ (.int .i64 ((rd_T45 l0 x9_1).f2))).setCell ⟨gb109, 3, none⟩ (.int .i64 ((rd_T45 l0 x9_1).f3.f0))).setCell ⟨gb109, 4, none⟩ (.int .i64 ((rd_T45 l0 x9_1).f3.f1))).setCell ⟨gb109, 5, none⟩ (.int .i64 ((rd_T45 l0 x9_1).f3.f2))).setCell ⟨gb109, 6, none⟩ (.int .i64 ((rd_T45 l0 x9_1).f3.f3))).setCell ⟨gb109, 7, none⟩ (.slice A108_7 ((rd_T45 l0 x9_1).f3.f4).length c108_7)).setCell ⟨gb109, 8, none⟩ (.bool ((rd_T45 l0 x9_1).f3.f5))) w.heap.size (fun _ => True) u3 x3_1) := ⟨z20da⟩
           have n1_ : Aside0 ((((((((((w15.setCell ⟨gb109, 0, none⟩ (.string ((rd_T45 l0 x9_1).f0))).setCell ⟨gb109, 1, none⟩ (.int .i64 ((rd_T45 l0 x9_1).f1))).setCell ⟨gb109, 2, none⟩ (.int .i64 ((rd_T45 l0 x9_1).f2))).setCell ⟨gb109, 3, none⟩ (.int .i64 ((rd_T45 l0 x9_1).f3.f0))).setCell ⟨gb109, 4, none⟩ (.int .i64 ((rd_T45 l0 x9_1).f3.f1))).setCell ⟨gb109, 5, none⟩ (.int .i64 ((rd_T45 l0 x9_1).f3.f2))).setCell ⟨gb109, 6, none⟩ (.int .i64 ((rd_T45 l0 x9_1).f3.f3))).setCell ⟨gb109, 7, none⟩ (.slice A108_7 ((rd_T45 l0 x9_1).f3.f4).length c108_7)).setCell ⟨gb109, 8, none⟩ (.bool ((rd_T45 l0 x9_1).f3.f5))).heap[gb109]? = some (.cells #[.string ((rd_T45 l0 x9_1).f0), .int .i64 ((rd_T45 l0 x9_1).f1), .int .i64 ((rd_T45 l0 x9_1).f2), .int .i64 ((rd_T45 l0 x9_1).f3.f0), .int .i64 ((rd_T45 l0 x9_1).f3.f1), .int .i64 ((rd_T45 l0 x9_1).f3.f2), .int .i64 ((rd_T45 l0 x9_1).f3.f3), .slice A108_7 ((rd_T45 l0 x9_1).f3.f4).length c108_7, .bool ((rd_T45 l0 x9_1).f3.f5)] 45 (0, 0))) := ⟨bkZ⟩
           have n2_ : Aside0 (Below w.heap.size w (((((((((w15.setCell ⟨gb109, 0, none⟩ (.string ((rd_T45 l0 x9_1).f0))).setCell ⟨gb109, 1, none⟩ (.int .i64 ((rd_T45 l0 x9_1).f1))).setCell ⟨gb109, 2, none⟩ (.int .i64 ((rd_T45 l0 x9_1).f2))).setCell ⟨gb109, 3, none⟩ (.int .i64 ((rd_T45 l0 x9_1).f3.f0))).setCell ⟨gb109, 4, none⟩ (.int .i64 ((rd_T45 l0 x9_1).f3.f1))).setCell ⟨gb109, 5, none⟩ (.int .i64 ((rd_T45 l0 x9_1).f3.f2))).setCell ⟨gb109, 6, none⟩ (.int .i64 ((rd_T45 l0 x9_1).f3.f3))).setCell ⟨gb109, 7, none⟩ (.slice A108_7 ((rd_T45 l0 x9_1).f3.f4).length c108_7)).setCell ⟨gb109, 8, none⟩ (.bool ((rd_T45 l0 x9_1).f3.f5)))) := ⟨zcb41⟩
           (try clear HO_3); (try clear BK109); (try clear HB)
           generalize (((((((((w15.setCell ⟨gb109, 0, none⟩ (.string ((rd_T45 l0 x9_1).f0))).setCell ⟨gb109, 1, none⟩ (.int .i64 ((rd_T45 l0 x9_1).f1))).setCell ⟨gb109, 2, none⟩ (.int .i64 ((rd_T45 l0 x9_1).f2))).setCell ⟨gb109, 3, none⟩ (.int .i64 ((rd_T45 l0 x9_1).f3.f0))).setCell ⟨gb109, 4, none⟩ (.int .i64 ((rd_T45 l0 x9_1).f3.f1))).setCell ⟨gb109, 5, none⟩ (.int .i64 ((rd_T45 l0 x9_1).f3.f2))).setCell ⟨gb109, 6, none⟩ (.int .i64 ((rd_T45 l0 x9_1).f3.f3))).setCell ⟨gb109, 7, none⟩ (.slice A108_7 ((rd_T45 l0 x9_1).f3.f4).length c108_7)).setCell ⟨gb109, 8, none⟩ (.bool ((rd_T45 l0 x9_1).f3.f5))) = w17 at n0_ n1_ n2_ ⊢
           have HO_3 := n0_
           have BK109 := n1_
           have HB := n2_
           clear n0_ n1_ n2_
           have _ := aM (Kd.R_drew HO_3.out)
           have _ := aM (blk_drew BK109.out)
           have _ := aM (below_drew1 HB.out)
           clear HO_3
           clear BK109
           clear HB
           rename_i HO_3 BK109 HB
           have p111 : 0 ≤ ((ji10) : Int) := of_decide_eq_true z1200
           have q111 : (ji10) < (l0.length : Int) := of_decide_eq_true z1200
           obtain ⟨ad111, A111_7, c111_7, e111, hx111_0, hx111_1, hx111_2, hx111_3, hx111_4, hx111_5, hx111_6, hx111_7, hx111_8, hl111_7, hi111_7⟩ := at_T45 HR0.out (ji10) p111 q111
           have hw111_8 := hx111_8
           have hw111_7 := hx111_7
           have hw111_6 := hx111_6
           have hw111_5 := hx111_5
           have hw111_4 := hx111_4
           have hw111_3 := hx111_3
           have hw111_2 := hx111_2
           have hw111_1 := hx111_1
           have hw111_0 := hx111_0
           obtain rfl : ad108 = ad111 := (by injection e111)
           have TW111_7 := aM hx111_7
           replace hx111_0 := (HB.out.cell (World.block_lt_of_cell? w _ hx111_0)).trans hx111_0
           replace hx111_1 := (HB.out.cell (World.block_lt_of_cell? w _ hx111_1)).trans hx111_1
           replace hx111_2 := (HB.out.cell (World.block_lt_of_cell? w _ hx111_2)).trans hx111_2
           replace hx111_3 := (HB.out.cell (World.block_lt_of_cell? w _ hx111_3)).trans hx111_3
           replace hx111_4 := (HB.out.cell (World.block_lt_of_cell? w _ hx111_4)).trans hx111_4
           replace hx111_5 := (HB.out.cell (World.block_lt_of_cell? w _ hx111_5)).trans hx111_5
           replace hx111_6 := (HB.out.cell (World.block_lt_of_cell? w _ hx111_6)).trans hx111_6
           replace hx111_7 := (HB.out.cell (World.block_lt_of_cell? w _ hx111_7)).trans hx111_7
           replace hx111_8 := (HB.out.cell (World.block_lt_of_cell? w _ hx111_8)).trans hx111_8
           have HR111_7 := aM hi111_7
           have HC111_7 := aM hl111_7
           clear hi111_7 hl111_7
           replace p111 := eq_true p111
           replace q111 := eq_true q111
           refine sA 17 impl_GoodEntries.tab5 impl_GoodEntries.bits5 (fun w' => w'.cell? ⟨gb109, 0, none⟩ = some (.string ((rd_T45 l0 x9_1).f0)) ∧ w'.cell? ⟨gb109, 1, none⟩ = some (.int .i64 ((rd_T45 l0 x9_1).f1)) ∧ w'.cell? ⟨gb109, 2, none⟩ = some (.int .i64 ((rd_T45 l0 x9_1).f2)) ∧ w'.cell? ⟨gb109, 3, none⟩ = some (.int .i64 ((rd_T45 l0 x9_1).f3.f0)) ∧ w'.cell? ⟨gb109, 4, none⟩ = some (.int .i64 ((rd_T45 l0 x9_1).f3.f1)) ∧ w'.cell? ⟨gb109, 5, none⟩ = some (.int .i64 ((rd_T45 l0 x9_1).f3.f2)) ∧ w'.cell? ⟨gb109, 6, none⟩ = some (.int .i64 ((rd_T45 l0 x9_1).f3.f3)) ∧ w'.cell? ⟨gb109, 7, none⟩ = some (.slice A108_7 ((rd_T45 l0 x9_1).f3.f4).length c108_7) ∧ w'.cell? ⟨gb109, 8, none⟩ = some (.bool ((rd_T45 l0 x9_1).f3.f5)) ∧ w'.cell? (ad108.add (((ji10)).toNat * 9)) = some (.string ((rd_T45 l0 (ji10)).f0)) ∧ w'.cell? ⟨(ad108.add (((ji10)).toNat * 9)).block, (ad108.add (((ji10)).toNat * 9)).off + 1, none⟩ = some (.int .i64 ((rd_T45 l0 (ji10)).f1)) ∧ w'.cell? ⟨(ad108.add (((ji10)).toNat * 9)).block, (ad108.add (((ji10)).toNat * 9)).off + 2, none⟩ = some (.int .i64 ((rd_T45 l0 (ji10)).f2)) ∧ w'.cell? ⟨(ad108.add (((ji10)).toNat * 9)).block, (ad108.add (((ji10)).toNat * 9)).off + 3, none⟩ = some (.int .i64 ((rd_T45 l0 (ji10)).f3.f0)) ∧ w'.cell? ⟨(ad108.add (((ji10)).toNat * 9)).block, (ad108.add (((ji10)).toNat * 9)).off + 4, none⟩ = some (.int .i64 ((rd_T45 l0 (ji10)).f3.f1)) ∧ w'.cell? ⟨(ad108.add (((ji10)).toNat * 9)).block, (ad108.add (((ji10)).toNat * 9)).off + 5, none⟩ = some (.int .i64 ((rd_T45 l0 (ji10)).f3.f2)) ∧ w'.cell? ⟨(ad108.add (((ji10)).toNat * 9)).block, (ad108.add (((ji10)).toNat * 9)).off + 6, none⟩ = some (.int .i64 ((rd_T45 l0 (ji10)).f3.f3)) ∧ w'.cell? ⟨(ad108.add (((ji10)).toNat * 9)).block, (ad108.add (((ji10)).toNat * 9)).off + 7, none⟩ = some (.slice A111_7 ((rd_T45 l0 (ji10)).f3.f4).length c111_7) ∧ w'.cell? ⟨(ad108.add (((ji10)).toNat * 9)).block, (ad108.add (((ji10)).toNat * 9)).off + 8, none⟩ = some (.bool ((rd_T45 l0 (ji10)).f3.f5))) [] (fun hHeld HT_ HW_ => ?_)
           generalize w17.drew = w18 at HO_3 BK109 HB HR111_7 hx111_0 hx111_1 hx111_2 hx111_3 hx111_4 hx111_5 hx111_6 hx111_7 hx111_8 hHeld ⊢
           refine tA 0 14 HT_ HW_ hHeld ?_; refine oA 1 15 HT_ (fun K hK => ?_)
           refine goes_ Try.func47 (by kernel_rfl) rfl #[.agg #[.string ((rd_T45 l0 x9_1).f0), .int .i64 ((rd_T45 l0 x9_1).f1), .int .i64 ((rd_T45 l0 x9_1).f2), .int .i64 ((rd_T45 l0 x9_1).f3.f0), .int .i64 ((rd_T45 l0 x9_1).f3.f1), .int .i64 ((rd_T45 l0 x9_1).f3.f2), .int .i64 ((rd_T45 l0 x9_1).f3.f3), .slice A108_7 ((rd_T45 l0 x9_1).f3.f4).length c108_7, .bool ((rd_T45 l0 x9_1).f3.f5)]] (by rfl) rfl rfl zee81 ?_
           with_reducible refine (impl_GoodEntry.calls k1 ((rd_T45 l0 x9_1).f0) ((rd_T45 l0 x9_1).f1) ((rd_T45 l0 x9_1).f2) ((rd_T45 l0 x9_1).f3.f0) ((rd_T45 l0 x9_1).f3.f1) ((rd_T45 l0 x9_1).f3.f2) ((rd_T45 l0 x9_1).f3.f3) _ _ ((rd_T45 l0 x9_1).f3.f4) ((rd_T45 l0 x9_1).f3.f5) true _ ?side1 ?side2 A7.out).mono ?_
           (case side1 => exact (cZ (Kd.C_below HR108_7.out HB.out)))
           (case side2 => exact HC108_7.out)
           rintro e w19 ⟨rfl, hb⟩
           refine ⟨_, rfl, ?_⟩
           have _ := aM (Kd.R_below (rZ HO_3.out) hb)
           have _ := bB gb109 hb
           have _ := aM (below_step hbZ hb)
           clear HO_3
           clear BK109
           clear HB
           rename_i HO_3 BK109 HB
           (try clear hb); (try clear hk)
           refine hK.out _ _ sZ (fun hHeld => ?_)
           clear hK K
           refine nA 15 ?_; refine pA 2 16 HT_ ?_; refine pA 3 17 HT_ ?_; refine pA 4 18 HT_ ?_; refine pA 5 19 HT_ ?_; refine pA 6 20 HT_ ?_; refine pA 7 21 HT_ ?_; refine pA 8 22 HT_ ?_; refine pA 9 23 HT_ ?_; refine pA 10 24 HT_ ?_; refine tA 11 25 HT_ HW_ hHeld ?_; refine tA 12 26 HT_ HW_ hHeld ?_; refine oA 13 27 HT_ (fun K hK => ?_)
           refine goes_ Try.func57 (by kernel_rfl) rfl #[.agg #[.string ((rd_T45 l0 (ji10)).f0), .int .i64 ((rd_T45 l0 (ji10)).f1), .int .i64 ((rd_T45 l0 (ji10)).f2), .int .i64 ((rd_T45 l0 (ji10)).f3.f0), .int .i64 ((rd_T45 l0 (ji10)).f3.f1), .int .i64 ((rd_T45 l0 (ji10)).f3.f2), .int .i64 ((rd_T45 l0 (ji10)).f3.f3), .slice A111_7 ((rd_T45 l0 (ji10)).f3.f4).length c111_7, .bool ((rd_T45 l0 (ji10)).f3.f5)], .agg #[.string ((rd_T45 l0 x9_1).f0), .int .i64 ((rd_T45 l0 x9_1).f1), .int .i64 ((rd_T45 l0 x9_1).f2), .int .i64 ((rd_T45 l0 x9_1).f3.f0), .int .i64 ((rd_T45 l0 x9_1).f3.f1), .int .i64 ((rd_T45 l0 x9_1).f3.f2), .int .i64 ((rd_T45 l0 x9_1).f3.f3), .slice A108_7 ((rd_T45 l0 x9_1).f3.f4).length c108_7, .bool ((rd_T45 l0 x9_1).f3.f5)]] (by rfl) rfl rfl (by (try simp only [List.map_toArray, List.map_cons, List.map_nil]); first | done | (simp only [hji10]; rfl) | rfl | (simp only [List.length_drop, List.length_take]; rfl)) ?_
           with_reducible refine (impl_compareEntries.calls k1 ((rd_T45 l0 (ji10)).f0) ((rd_T45 l0 (ji10)).f1) ((rd_T45 l0 (ji10)).f2) ((rd_T45 l0 (ji10)).f3.f0) ((rd_T45 l0 (ji10)).f3.f1) ((rd_T45 l0 (ji10)).f3.f2) ((rd_T45 l0 (ji10)).f3.f3) _ _ ((rd_T45 l0 (ji10)).f3.f4) ((rd_T45 l0 (ji10)).f3.f5) ((rd_T45 l0 x9_1).f0) ((rd_T45 l0 x9_1).f1) ((rd_T45 l0 x9_1).f2) ((rd_T45 l0 x9_1).f3.f0) ((rd_T45 l0 x9_1).f3.f1) ((rd_T45 l0 x9_1).f3.f2) ((rd_T45 l0 x9_1).f3.f3) _ _ ((rd_T45 l0 x9_1).f3.f4) ((rd_T45 l0 x9_1).f3.f5) t112 _ ?side1 ?side2 ?side3 ?side4 A13.out).mono ?_
           (case side1 => exact (cZ (Kd.C_below HR111_7.out HB.out)))
           (case side2 => exact HC111_7.out)
           (case side3 => exact (cZ (Kd.C_below HR108_7.out HB.out)))
           (case side4 => exact HC108_7.out)
           rintro e w20 ⟨rfl, hb⟩
           refine ⟨_, rfl, ?_⟩
           have _ := aM (Kd.R_below (rZ HO_3.out) hb)
           have _ := bB gb109 hb
           have _ := aM (below_step hbZ hb)
           clear HO_3
           clear BK109
           clear HB
           rename_i HO_3 BK109 HB
           (try clear hb)
           refine hK.out _ _ sZ (fun hHeld => ?_)
           clear hK K
           refine nA 27 ?_; refine pA 14 28 HT_ ?_; refine pA 15 29 HT_ ?_; refine pA 16 30 HT_ ?_
           refine done_ (done_of HT_.out (by kernel_rfl)) ?_
           try go_wp2
           go_ret
           exact ⟨by first | rfl | (simp [errW_none, errW_some] <;> rfl) | (simp only [← hji10]; first | rfl | (simp [errW_none, errW_some] <;> rfl)) | (simp [*, errW_none, errW_some] <;> rfl), zcb41⟩
         · rw [if_neg c14] at H
           have c14b0 := nE c14
           clear c14
           obtain ⟨LMc21, H⟩ := sM H
           obtain ⟨y113, hy113⟩ : ∃ y_ : List Int, y_ = (x3_1 ++ [(rd_T45 l0 x9_1).f1]) := ⟨_, rfl⟩
           first | (replace H := bindS H; rw [← hy113] at H; try dsimp only at H) | rw [← hy113] at H
           have Ny113 := aM hy113
           clear hy113
           have H' := aM H
           clear H
           have p108 : 0 ≤ (x9_1 : Int) := of_decide_eq_true z1200
           have q108 : x9_1 < (l0.length : Int) := of_decide_eq_true z1200
           obtain ⟨ad108, A108_7, c108_7, e108, hx108_0, hx108_1, hx108_2, hx108_3, hx108_4, hx108_5, hx108_6, hx108_7, hx108_8, hl108_7, hi108_7⟩ := at_T45 HR0.out x9_1 p108 q108
           cases e108
           have TW108_7 := aM hx108_7
           replace hx108_0 := (HB.out.cell (World.block_lt_of_cell? w _ hx108_0)).trans hx108_0
           replace hx108_1 := (HB.out.cell (World.block_lt_of_cell? w _ hx108_1)).trans hx108_1
           replace hx108_2 := (HB.out.cell (World.block_lt_of_cell? w _ hx108_2)).trans hx108_2
           replace hx108_3 := (HB.out.cell (World.block_lt_of_cell? w _ hx108_3)).trans hx108_3
           replace hx108_4 := (HB.out.cell (World.block_lt_of_cell? w _ hx108_4)).trans hx108_4
           replace hx108_5 := (HB.out.cell (World.block_lt_of_cell? w _ hx108_5)).trans hx108_5
           replace hx108_6 := (HB.out.cell (World.block_lt_of_cell? w _ hx108_6)).trans hx108_6
           replace hx108_7 := (HB.out.cell (World.block_lt_of_cell? w _ hx108_7)).trans hx108_7
           replace hx108_8 := (HB.out.cell (World.block_lt_of_cell? w _ hx108_8)).trans hx108_8
           have HR108_7 := aM hi108_7
           have HC108_7 := aM hl108_7
           clear hi108_7 hl108_7
           replace p108 := eq_true p108
           replace q108 := eq_true q108
           try go_wp2_with (first | ((with_reducible refine gate_dst (N := 5) rfl ?_); refine bX 5 45 #[.string (⟨#[]⟩ : ByteArray), .int .i64 0, .int .i64 0, .int .i64 0, .int .i64 0, .int .i64 0, .int .i64 0, .slice none 0 0, .bool false] ?_; intro gb109 hg w22 hbox hb; have _ := aM (Kd.R_below (rZ HO_3.out) hb); have _ := aM (below_step hbZ hb); have _ := aM hbox; have _ := szZ hg; have _ := szZ hg; clear HO_3 HB; rename_i HO_3 HB BK109 GW109 GE109; clear hb hbox hg; have hz23 := cellsZ9 BK109.out))
           have n0_ : Aside0 (Kd.R (Kd.int .i64) 3 (((((((((w22.setCell ⟨gb109, 0, none⟩ (.string ((rd_T45 l0 x9_1).f0))).setCell ⟨gb109, 1, none⟩ (.int .i64 ((rd_T45 l0 x9_1).f1))).setCell ⟨gb109, 2, none⟩ (.int .i64 ((rd_T45 l0 x9_1).f2))).setCell ⟨gb109, 3, none⟩ (.int .i64 ((rd_T45 l0 x9_1).f3.f0))).setCell ⟨gb109, 4, none⟩ (.int .i64 ((rd_T45 l0 x9_1).f3.f1))).setCell ⟨gb109, 5, none⟩ (.int .i64 ((rd_T45 l0 x9_1).f3.f2))).setCell ⟨gb109, 6, none⟩ (.int .i64 ((rd_T45 l0 x9_1).f3.f3))).setCell ⟨gb109, 7, none⟩ (.slice A108_7 ((rd_T45 l0 x9_1).f3.f4).length c108_7)).setCell ⟨gb109, 8, none⟩ (.bool ((rd_T45 l0 x9_1).f3.f5))) w.heap.size (fun _ => True) u3 x3_1) := ⟨z20da⟩
           have n1_ : Aside0 ((((((((((w22.setCell ⟨gb109, 0, none⟩ (.string ((rd_T45 l0 x9_1).f0))).setCell ⟨gb109, 1, none⟩ (.int .i64 ((rd_T45 l0 x9_1).f1))).setCell ⟨gb109, 2, none⟩ (.int .i64 ((rd_T45 l0 x9_1).f2))).setCell ⟨gb109, 3, none⟩ (.int .i64 ((rd_T45 l0 x9_1).f3.f0))).setCell ⟨gb109, 4, none⟩ (.int .i64 ((rd_T45 l0 x9_1).f3.f1))).setCell ⟨gb109, 5, none⟩ (.int .i64 ((rd_T45 l0 x9_1).f3.f2))).setCell ⟨gb109, 6, none⟩ (.int .i64 ((rd_T45 l0 x9_1).f3.f3))).setCell ⟨gb109, 7, none⟩ (.slice A108_7 ((rd_T45 l0 x9_1).f3.f4).length c108_7)).setCell ⟨gb109, 8, none⟩ (.bool ((rd_T45 l0 x9_1).f3.f5))).heap[gb109]? = some (.cells #[.string ((rd_T45 l0 x9_1).f0), .int .i64 ((rd_T45 l0 x9_1).f1), .int .i64 ((rd_T45 l0 x9_1).f2), .int .i64 ((rd_T45 l0 x9_1).f3.f0), .int .i64 ((rd_T45 l0 x9_1).f3.f1), .int .i64 ((rd_T45 l0 x9_1).f3.f2), .int .i64 ((rd_T45 l0 x9_1).f3.f3), .slice A108_7 ((rd_T45 l0 x9_1).f3.f4).length c108_7, .bool ((rd_T45 l0 x9_1).f3.f5)] 45 (0, 0))) := ⟨bkZ⟩
           have n2_ : Aside0 (Below w.heap.size w (((((((((w22.setCell ⟨gb109, 0, none⟩ (.string ((rd_T45 l0 x9_1).f0))).setCell ⟨gb109, 1, none⟩ (.int .i64 ((rd_T45 l0 x9_1).f1))).setCell ⟨gb109, 2, none⟩ (.int .i64 ((rd_T45 l0 x9_1).f2))).setCell ⟨gb109, 3, none⟩ (.int .i64 ((rd_T45 l0 x9_1).f3.f0))).setCell ⟨gb109, 4, none⟩ (.int .i64 ((rd_T45 l0 x9_1).f3.f1))).setCell ⟨gb109, 5, none⟩ (.int .i64 ((rd_T45 l0 x9_1).f3.f2))).setCell ⟨gb109, 6, none⟩ (.int .i64 ((rd_T45 l0 x9_1).f3.f3))).setCell ⟨gb109, 7, none⟩ (.slice A108_7 ((rd_T45 l0 x9_1).f3.f4).length c108_7)).setCell ⟨gb109, 8, none⟩ (.bool ((rd_T45 l0 x9_1).f3.f5)))) := ⟨zcb41⟩
           (try clear HO_3); (try clear BK109); (try clear HB)
           generalize (((((((((w22.setCell ⟨gb109, 0, none⟩ (.string ((rd_T45 l0 x9_1).f0))).setCell ⟨gb109, 1, none⟩ (.int .i64 ((rd_T45 l0 x9_1).f1))).setCell ⟨gb109, 2, none⟩ (.int .i64 ((rd_T45 l0 x9_1).f2))).setCell ⟨gb109, 3, none⟩ (.int .i64 ((rd_T45 l0 x9_1).f3.f0))).setCell ⟨gb109, 4, none⟩ (.int .i64 ((rd_T45 l0 x9_1).f3.f1))).setCell ⟨gb109, 5, none⟩ (.int .i64 ((rd_T45 l0 x9_1).f3.f2))).setCell ⟨gb109, 6, none⟩ (.int .i64 ((rd_T45 l0 x9_1).f3.f3))).setCell ⟨gb109, 7, none⟩ (.slice A108_7 ((rd_T45 l0 x9_1).f3.f4).length c108_7)).setCell ⟨gb109, 8, none⟩ (.bool ((rd_T45 l0 x9_1).f3.f5))) = w24 at n0_ n1_ n2_ ⊢
           have HO_3 := n0_
           have BK109 := n1_
           have HB := n2_
           clear n0_ n1_ n2_
           have _ := aM (Kd.R_drew HO_3.out)
           have _ := aM (blk_drew BK109.out)
           have _ := aM (below_drew1 HB.out)
           clear HO_3
           clear BK109
           clear HB
           rename_i HO_3 BK109 HB
           have p111 : 0 ≤ ((ji10) : Int) := of_decide_eq_true z1200
           have q111 : (ji10) < (l0.length : Int) := of_decide_eq_true z1200
           obtain ⟨ad111, A111_7, c111_7, e111, hx111_0, hx111_1, hx111_2, hx111_3, hx111_4, hx111_5, hx111_6, hx111_7, hx111_8, hl111_7, hi111_7⟩ := at_T45 HR0.out (ji10) p111 q111
           have hw111_8 := hx111_8
           have hw111_7 := hx111_7
           have hw111_6 := hx111_6
           have hw111_5 := hx111_5
           have hw111_4 := hx111_4
           have hw111_3 := hx111_3
           have hw111_2 := hx111_2
           have hw111_1 := hx111_1
           have hw111_0 := hx111_0
           obtain rfl : ad108 = ad111 := (by injection e111)
           have TW111_7 := aM hx111_7
           replace hx111_0 := (HB.out.cell (World.block_lt_of_cell? w _ hx111_0)).trans hx111_0
           replace hx111_1 := (HB.out.cell (World.block_lt_of_cell? w _ hx111_1)).trans hx111_1
           replace hx111_2 := (HB.out.cell (World.block_lt_of_cell? w _ hx111_2)).trans hx111_2
           replace hx111_3 := (HB.out.cell (World.block_lt_of_cell? w _ hx111_3)).trans hx111_3
           replace hx111_4 := (HB.out.cell (World.block_lt_of_cell? w _ hx111_4)).trans hx111_4
           replace hx111_5 := (HB.out.cell (World.block_lt_of_cell? w _ hx111_5)).trans hx111_5
           replace hx111_6 := (HB.out.cell (World.block_lt_of_cell? w _ hx111_6)).trans hx111_6
           replace hx111_7 := (HB.out.cell (World.block_lt_of_cell? w _ hx111_7)).trans hx111_7
           replace hx111_8 := (HB.out.cell (World.block_lt_of_cell? w _ hx111_8)).trans hx111_8
           have HR111_7 := aM hi111_7
           have HC111_7 := aM hl111_7
           clear hi111_7 hl111_7
           replace p111 := eq_true p111
           replace q111 := eq_true q111
           refine sA 17 impl_GoodEntries.tab5 impl_GoodEntries.bits5 (fun w' => w'.cell? ⟨gb109, 0, none⟩ = some (.string ((rd_T45 l0 x9_1).f0)) ∧ w'.cell? ⟨gb109, 1, none⟩ = some (.int .i64 ((rd_T45 l0 x9_1).f1)) ∧ w'.cell? ⟨gb109, 2, none⟩ = some (.int .i64 ((rd_T45 l0 x9_1).f2)) ∧ w'.cell? ⟨gb109, 3, none⟩ = some (.int .i64 ((rd_T45 l0 x9_1).f3.f0)) ∧ w'.cell? ⟨gb109, 4, none⟩ = some (.int .i64 ((rd_T45 l0 x9_1).f3.f1)) ∧ w'.cell? ⟨gb109, 5, none⟩ = some (.int .i64 ((rd_T45 l0 x9_1).f3.f2)) ∧ w'.cell? ⟨gb109, 6, none⟩ = some (.int .i64 ((rd_T45 l0 x9_1).f3.f3)) ∧ w'.cell? ⟨gb109, 7, none⟩ = some (.slice A108_7 ((rd_T45 l0 x9_1).f3.f4).length c108_7) ∧ w'.cell? ⟨gb109, 8, none⟩ = some (.bool ((rd_T45 l0 x9_1).f3.f5)) ∧ w'.cell? (ad108.add (((ji10)).toNat * 9)) = some (.string ((rd_T45 l0 (ji10)).f0)) ∧ w'.cell? ⟨(ad108.add (((ji10)).toNat * 9)).block, (ad108.add (((ji10)).toNat * 9)).off + 1, none⟩ = some (.int .i64 ((rd_T45 l0 (ji10)).f1)) ∧ w'.cell? ⟨(ad108.add (((ji10)).toNat * 9)).block, (ad108.add (((ji10)).toNat * 9)).off + 2, none⟩ = some (.int .i64 ((rd_T45 l0 (ji10)).f2)) ∧ w'.cell? ⟨(ad108.add (((ji10)).toNat * 9)).block, (ad108.add (((ji10)).toNat * 9)).off + 3, none⟩ = some (.int .i64 ((rd_T45 l0 (ji10)).f3.f0)) ∧ w'.cell? ⟨(ad108.add (((ji10)).toNat * 9)).block, (ad108.add (((ji10)).toNat * 9)).off + 4, none⟩ = some (.int .i64 ((rd_T45 l0 (ji10)).f3.f1)) ∧ w'.cell? ⟨(ad108.add (((ji10)).toNat * 9)).block, (ad108.add (((ji10)).toNat * 9)).off + 5, none⟩ = some (.int .i64 ((rd_T45 l0 (ji10)).f3.f2)) ∧ w'.cell? ⟨(ad108.add (((ji10)).toNat * 9)).block, (ad108.add (((ji10)).toNat * 9)).off + 6, none⟩ = some (.int .i64 ((rd_T45 l0 (ji10)).f3.f3)) ∧ w'.cell? ⟨(ad108.add (((ji10)).toNat * 9)).block, (ad108.add (((ji10)).toNat * 9)).off + 7, none⟩ = some (.slice A111_7 ((rd_T45 l0 (ji10)).f3.f4).length c111_7) ∧ w'.cell? ⟨(ad108.add (((ji10)).toNat * 9)).block, (ad108.add (((ji10)).toNat * 9)).off + 8, none⟩ = some (.bool ((rd_T45 l0 (ji10)).f3.f5))) [] (fun hHeld HT_ HW_ => ?_)
           generalize w24.drew = w25 at HO_3 BK109 HB HR111_7 hx111_0 hx111_1 hx111_2 hx111_3 hx111_4 hx111_5 hx111_6 hx111_7 hx111_8 hHeld ⊢
           refine tA 0 14 HT_ HW_ hHeld ?_; refine oA 1 15 HT_ (fun K hK => ?_)
           refine goes_ Try.func47 (by kernel_rfl) rfl #[.agg #[.string ((rd_T45 l0 x9_1).f0), .int .i64 ((rd_T45 l0 x9_1).f1), .int .i64 ((rd_T45 l0 x9_1).f2), .int .i64 ((rd_T45 l0 x9_1).f3.f0), .int .i64 ((rd_T45 l0 x9_1).f3.f1), .int .i64 ((rd_T45 l0 x9_1).f3.f2), .int .i64 ((rd_T45 l0 x9_1).f3.f3), .slice A108_7 ((rd_T45 l0 x9_1).f3.f4).length c108_7, .bool ((rd_T45 l0 x9_1).f3.f5)]] (by rfl) rfl rfl zee81 ?_
           with_reducible refine (impl_GoodEntry.calls k1 ((rd_T45 l0 x9_1).f0) ((rd_T45 l0 x9_1).f1) ((rd_T45 l0 x9_1).f2) ((rd_T45 l0 x9_1).f3.f0) ((rd_T45 l0 x9_1).f3.f1) ((rd_T45 l0 x9_1).f3.f2) ((rd_T45 l0 x9_1).f3.f3) _ _ ((rd_T45 l0 x9_1).f3.f4) ((rd_T45 l0 x9_1).f3.f5) true _ ?side1 ?side2 A7.out).mono ?_
           (case side1 => exact (cZ (Kd.C_below HR108_7.out HB.out)))
           (case side2 => exact HC108_7.out)
           rintro e w26 ⟨rfl, hb⟩
           refine ⟨_, rfl, ?_⟩
           have _ := aM (Kd.R_below (rZ HO_3.out) hb)
           have _ := bB gb109 hb
           have _ := aM (below_step hbZ hb)
           clear HO_3
           clear BK109
           clear HB
           rename_i HO_3 BK109 HB
           (try clear hb); (try clear hk)
           refine hK.out _ _ sZ (fun hHeld => ?_)
           clear hK K
           refine nA 15 ?_; refine pA 2 16 HT_ ?_; refine pA 3 17 HT_ ?_; refine pA 4 18 HT_ ?_; refine pA 5 19 HT_ ?_; refine pA 6 20 HT_ ?_; refine pA 7 21 HT_ ?_; refine pA 8 22 HT_ ?_; refine pA 9 23 HT_ ?_; refine pA 10 24 HT_ ?_; refine tA 11 25 HT_ HW_ hHeld ?_; refine tA 12 26 HT_ HW_ hHeld ?_; refine oA 13 27 HT_ (fun K hK => ?_)
           refine goes_ Try.func57 (by kernel_rfl) rfl #[.agg #[.string ((rd_T45 l0 (ji10)).f0), .int .i64 ((rd_T45 l0 (ji10)).f1), .int .i64 ((rd_T45 l0 (ji10)).f2), .int .i64 ((rd_T45 l0 (ji10)).f3.f0), .int .i64 ((rd_T45 l0 (ji10)).f3.f1), .int .i64 ((rd_T45 l0 (ji10)).f3.f2), .int .i64 ((rd_T45 l0 (ji10)).f3.f3), .slice A111_7 ((rd_T45 l0 (ji10)).f3.f4).length c111_7, .bool ((rd_T45 l0 (ji10)).f3.f5)], .agg #[.string ((rd_T45 l0 x9_1).f0), .int .i64 ((rd_T45 l0 x9_1).f1), .int .i64 ((rd_T45 l0 x9_1).f2), .int .i64 ((rd_T45 l0 x9_1).f3.f0), .int .i64 ((rd_T45 l0 x9_1).f3.f1), .int .i64 ((rd_T45 l0 x9_1).f3.f2), .int .i64 ((rd_T45 l0 x9_1).f3.f3), .slice A108_7 ((rd_T45 l0 x9_1).f3.f4).length c108_7, .bool ((rd_T45 l0 x9_1).f3.f5)]] (by rfl) rfl rfl (by (try simp only [List.map_toArray, List.map_cons, List.map_nil]); first | done | (simp only [hji10]; rfl) | rfl | (simp only [List.length_drop, List.length_take]; rfl)) ?_
           with_reducible refine (impl_compareEntries.calls k1 ((rd_T45 l0 (ji10)).f0) ((rd_T45 l0 (ji10)).f1) ((rd_T45 l0 (ji10)).f2) ((rd_T45 l0 (ji10)).f3.f0) ((rd_T45 l0 (ji10)).f3.f1) ((rd_T45 l0 (ji10)).f3.f2) ((rd_T45 l0 (ji10)).f3.f3) _ _ ((rd_T45 l0 (ji10)).f3.f4) ((rd_T45 l0 (ji10)).f3.f5) ((rd_T45 l0 x9_1).f0) ((rd_T45 l0 x9_1).f1) ((rd_T45 l0 x9_1).f2) ((rd_T45 l0 x9_1).f3.f0) ((rd_T45 l0 x9_1).f3.f1) ((rd_T45 l0 x9_1).f3.f2) ((rd_T45 l0 x9_1).f3.f3) _ _ ((rd_T45 l0 x9_1).f3.f4) ((rd_T45 l0 x9_1).f3.f5) t112 _ ?side1 ?side2 ?side3 ?side4 A13.out).mono ?_
           (case side1 => exact (cZ (Kd.C_below HR111_7.out HB.out)))
           (case side2 => exact HC111_7.out)
           (case side3 => exact (cZ (Kd.C_below HR108_7.out HB.out)))
           (case side4 => exact HC108_7.out)
           rintro e w27 ⟨rfl, hb⟩
           refine ⟨_, rfl, ?_⟩
           have _ := aM (Kd.R_below (rZ HO_3.out) hb)
           have _ := bB gb109 hb
           have _ := aM (below_step hbZ hb)
           clear HO_3
           clear BK109
           clear HB
           rename_i HO_3 BK109 HB
           (try clear hb)
           refine hK.out _ _ sZ (fun hHeld => ?_)
           clear hK K
           refine nA 27 ?_; refine pA 14 28 HT_ ?_; refine pA 15 29 HT_ ?_; refine pA 16 30 HT_ ?_
           refine done_ (done_of HT_.out (by kernel_rfl)) ?_
           have hz28 := cellsZ9 BK109.out
           try go_wp2_with (first | ((with_reducible refine gate_builtin (b := .append) (xs := #[.tmp 31, .tmp 34]) rfl ?_); at_builtin; refine Kd.R_append (Kd.int .i64) (w0 := w) w.heap.size rfl (.tmp 31) (.tmp 34) 24 3 (.int .i64 0) 8 rfl Try.underlying24 info3 rfl (by decide) (by omega) u3 x3_1 ((rd_T45 l0 x9_1).f1) [.int .i64 ((rd_T45 l0 x9_1).f1)] (fun _ => True) (fun _ => False) rfl rfl ?aP (fun _ hk => hk.elim) ?aF ?aO ?aB ?aS ?aL ?_; (case aP => exact rfl); (case aB => exact hbZ); (case aF => exact (fun _ _ => trivial)); (case aO => exact (rZ HO_3.out)); (case aS => exact (below_size hbZ)); (case aL => have := LMc21.out; omega); intro v114 w29 ho hb hg hat; rw [← Ny113.out] at ho; have _ := aM (blk_grown (g := gb109) bkZ hg (Kd.R_ne HO_3.out BK109.out (by decide))); have _ := aM hb; have _ := aM ho; clear BK109 HB HO_3; rename_i BK109 HB HO115; clear ho hb hg hat))
           go_roundg k1
           case measure => have := HK1.out; omega
           case rel => exact ⟨(y113), (wrap64 (x9_1 + 1)), z4458, H', ⟨zfb39⟩, ⟨rZ HO115.out⟩, ⟨zcb41⟩⟩
       · rw [if_neg c9] at H
         have c9b0 := nL c9
         clear c9
         obtain ⟨LMc30, H⟩ := sM H
         obtain ⟨y116, hy116⟩ : ∃ y_ : List Int, y_ = (x3_1 ++ [(rd_T45 l0 x9_1).f1]) := ⟨_, rfl⟩
         first | (replace H := bindS H; rw [← hy116] at H; try dsimp only at H) | rw [← hy116] at H
         have Ny116 := aM hy116
         clear hy116
         have H' := aM H
         clear H
         have p108 : 0 ≤ (x9_1 : Int) := of_decide_eq_true z1200
         have q108 : x9_1 < (l0.length : Int) := of_decide_eq_true z1200
         obtain ⟨ad108, A108_7, c108_7, e108, hx108_0, hx108_1, hx108_2, hx108_3, hx108_4, hx108_5, hx108_6, hx108_7, hx108_8, hl108_7, hi108_7⟩ := at_T45 HR0.out x9_1 p108 q108
         cases e108
         have TW108_7 := aM hx108_7
         replace hx108_0 := (HB.out.cell (World.block_lt_of_cell? w _ hx108_0)).trans hx108_0
         replace hx108_1 := (HB.out.cell (World.block_lt_of_cell? w _ hx108_1)).trans hx108_1
         replace hx108_2 := (HB.out.cell (World.block_lt_of_cell? w _ hx108_2)).trans hx108_2
         replace hx108_3 := (HB.out.cell (World.block_lt_of_cell? w _ hx108_3)).trans hx108_3
         replace hx108_4 := (HB.out.cell (World.block_lt_of_cell? w _ hx108_4)).trans hx108_4
         replace hx108_5 := (HB.out.cell (World.block_lt_of_cell? w _ hx108_5)).trans hx108_5
         replace hx108_6 := (HB.out.cell (World.block_lt_of_cell? w _ hx108_6)).trans hx108_6
         replace hx108_7 := (HB.out.cell (World.block_lt_of_cell? w _ hx108_7)).trans hx108_7
         replace hx108_8 := (HB.out.cell (World.block_lt_of_cell? w _ hx108_8)).trans hx108_8
         have HR108_7 := aM hi108_7
         have HC108_7 := aM hl108_7
         clear hi108_7 hl108_7
         replace p108 := eq_true p108
         replace q108 := eq_true q108
         try go_wp2_with (first | ((with_reducible refine gate_dst (N := 5) rfl ?_); refine bX 5 45 #[.string (⟨#[]⟩ : ByteArray), .int .i64 0, .int .i64 0, .int .i64 0, .int .i64 0, .int .i64 0, .int .i64 0, .slice none 0 0, .bool false] ?_; intro gb109 hg w31 hbox hb; have _ := aM (Kd.R_below (rZ HO_3.out) hb); have _ := aM (below_step hbZ hb); have _ := aM hbox; have _ := szZ hg; have _ := szZ hg; clear HO_3 HB; rename_i HO_3 HB BK109 GW109 GE109; clear hb hbox hg; have hz32 := cellsZ9 BK109.out))
         have n0_ : Aside0 (Kd.R (Kd.int .i64) 3 (((((((((w31.setCell ⟨gb109, 0, none⟩ (.string ((rd_T45 l0 x9_1).f0))).setCell ⟨gb109, 1, none⟩ (.int .i64 ((rd_T45 l0 x9_1).f1))).setCell ⟨gb109, 2, none⟩ (.int .i64 ((rd_T45 l0 x9_1).f2))).setCell ⟨gb109, 3, none⟩ (.int .i64 ((rd_T45 l0 x9_1).f3.f0))).setCell ⟨gb109, 4, none⟩ (.int .i64 ((rd_T45 l0 x9_1).f3.f1))).setCell ⟨gb109, 5, none⟩ (.int .i64 ((rd_T45 l0 x9_1).f3.f2))).setCell ⟨gb109, 6, none⟩ (.int .i64 ((rd_T45 l0 x9_1).f3.f3))).setCell ⟨gb109, 7, none⟩ (.slice A108_7 ((rd_T45 l0 x9_1).f3.f4).length c108_7)).setCell ⟨gb109, 8, none⟩ (.bool ((rd_T45 l0 x9_1).f3.f5))) w.heap.size (fun _ => True) u3 x3_1) := ⟨z20da⟩
         have n1_ : Aside0 ((((((((((w31.setCell ⟨gb109, 0, none⟩ (.string ((rd_T45 l0 x9_1).f0))).setCell ⟨gb109, 1, none⟩ (.int .i64 ((rd_T45 l0 x9_1).f1))).setCell ⟨gb109, 2, none⟩ (.int .i64 ((rd_T45 l0 x9_1).f2))).setCell ⟨gb109, 3, none⟩ (.int .i64 ((rd_T45 l0 x9_1).f3.f0))).setCell ⟨gb109, 4, none⟩ (.int .i64 ((rd_T45 l0 x9_1).f3.f1))).setCell ⟨gb109, 5, none⟩ (.int .i64 ((rd_T45 l0 x9_1).f3.f2))).setCell ⟨gb109, 6, none⟩ (.int .i64 ((rd_T45 l0 x9_1).f3.f3))).setCell ⟨gb109, 7, none⟩ (.slice A108_7 ((rd_T45 l0 x9_1).f3.f4).length c108_7)).setCell ⟨gb109, 8, none⟩ (.bool ((rd_T45 l0 x9_1).f3.f5))).heap[gb109]? = some (.cells #[.string ((rd_T45 l0 x9_1).f0), .int .i64 ((rd_T45 l0 x9_1).f1), .int .i64 ((rd_T45 l0 x9_1).f2), .int .i64 ((rd_T45 l0 x9_1).f3.f0), .int .i64 ((rd_T45 l0 x9_1).f3.f1), .int .i64 ((rd_T45 l0 x9_1).f3.f2), .int .i64 ((rd_T45 l0 x9_1).f3.f3), .slice A108_7 ((rd_T45 l0 x9_1).f3.f4).length c108_7, .bool ((rd_T45 l0 x9_1).f3.f5)] 45 (0, 0))) := ⟨bkZ⟩
         have n2_ : Aside0 (Below w.heap.size w (((((((((w31.setCell ⟨gb109, 0, none⟩ (.string ((rd_T45 l0 x9_1).f0))).setCell ⟨gb109, 1, none⟩ (.int .i64 ((rd_T45 l0 x9_1).f1))).setCell ⟨gb109, 2, none⟩ (.int .i64 ((rd_T45 l0 x9_1).f2))).setCell ⟨gb109, 3, none⟩ (.int .i64 ((rd_T45 l0 x9_1).f3.f0))).setCell ⟨gb109, 4, none⟩ (.int .i64 ((rd_T45 l0 x9_1).f3.f1))).setCell ⟨gb109, 5, none⟩ (.int .i64 ((rd_T45 l0 x9_1).f3.f2))).setCell ⟨gb109, 6, none⟩ (.int .i64 ((rd_T45 l0 x9_1).f3.f3))).setCell ⟨gb109, 7, none⟩ (.slice A108_7 ((rd_T45 l0 x9_1).f3.f4).length c108_7)).setCell ⟨gb109, 8, none⟩ (.bool ((rd_T45 l0 x9_1).f3.f5)))) := ⟨zcb41⟩
         (try clear HO_3); (try clear BK109); (try clear HB)
         generalize (((((((((w31.setCell ⟨gb109, 0, none⟩ (.string ((rd_T45 l0 x9_1).f0))).setCell ⟨gb109, 1, none⟩ (.int .i64 ((rd_T45 l0 x9_1).f1))).setCell ⟨gb109, 2, none⟩ (.int .i64 ((rd_T45 l0 x9_1).f2))).setCell ⟨gb109, 3, none⟩ (.int .i64 ((rd_T45 l0 x9_1).f3.f0))).setCell ⟨gb109, 4, none⟩ (.int .i64 ((rd_T45 l0 x9_1).f3.f1))).setCell ⟨gb109, 5, none⟩ (.int .i64 ((rd_T45 l0 x9_1).f3.f2))).setCell ⟨gb109, 6, none⟩ (.int .i64 ((rd_T45 l0 x9_1).f3.f3))).setCell ⟨gb109, 7, none⟩ (.slice A108_7 ((rd_T45 l0 x9_1).f3.f4).length c108_7)).setCell ⟨gb109, 8, none⟩ (.bool ((rd_T45 l0 x9_1).f3.f5))) = w33 at n0_ n1_ n2_ ⊢
         have HO_3 := n0_
         have BK109 := n1_
         have HB := n2_
         clear n0_ n1_ n2_
         have _ := aM (Kd.R_drew HO_3.out)
         have _ := aM (blk_drew BK109.out)
         have _ := aM (below_drew1 HB.out)
         clear HO_3
         clear BK109
         clear HB
         rename_i HO_3 BK109 HB
         refine sA 17 impl_GoodEntries.tab5 impl_GoodEntries.bits5 (fun w' => w'.cell? ⟨gb109, 0, none⟩ = some (.string ((rd_T45 l0 x9_1).f0)) ∧ w'.cell? ⟨gb109, 1, none⟩ = some (.int .i64 ((rd_T45 l0 x9_1).f1)) ∧ w'.cell? ⟨gb109, 2, none⟩ = some (.int .i64 ((rd_T45 l0 x9_1).f2)) ∧ w'.cell? ⟨gb109, 3, none⟩ = some (.int .i64 ((rd_T45 l0 x9_1).f3.f0)) ∧ w'.cell? ⟨gb109, 4, none⟩ = some (.int .i64 ((rd_T45 l0 x9_1).f3.f1)) ∧ w'.cell? ⟨gb109, 5, none⟩ = some (.int .i64 ((rd_T45 l0 x9_1).f3.f2)) ∧ w'.cell? ⟨gb109, 6, none⟩ = some (.int .i64 ((rd_T45 l0 x9_1).f3.f3)) ∧ w'.cell? ⟨gb109, 7, none⟩ = some (.slice A108_7 ((rd_T45 l0 x9_1).f3.f4).length c108_7) ∧ w'.cell? ⟨gb109, 8, none⟩ = some (.bool ((rd_T45 l0 x9_1).f3.f5))) [] (fun hHeld HT_ HW_ => ?_)
         generalize w33.drew = w34 at HO_3 BK109 HB hHeld ⊢
         refine tA 0 14 HT_ HW_ hHeld ?_; refine oA 1 15 HT_ (fun K hK => ?_)
         refine goes_ Try.func47 (by kernel_rfl) rfl #[.agg #[.string ((rd_T45 l0 x9_1).f0), .int .i64 ((rd_T45 l0 x9_1).f1), .int .i64 ((rd_T45 l0 x9_1).f2), .int .i64 ((rd_T45 l0 x9_1).f3.f0), .int .i64 ((rd_T45 l0 x9_1).f3.f1), .int .i64 ((rd_T45 l0 x9_1).f3.f2), .int .i64 ((rd_T45 l0 x9_1).f3.f3), .slice A108_7 ((rd_T45 l0 x9_1).f3.f4).length c108_7, .bool ((rd_T45 l0 x9_1).f3.f5)]] (by rfl) rfl rfl zee81 ?_
         with_reducible refine (impl_GoodEntry.calls k1 ((rd_T45 l0 x9_1).f0) ((rd_T45 l0 x9_1).f1) ((rd_T45 l0 x9_1).f2) ((rd_T45 l0 x9_1).f3.f0) ((rd_T45 l0 x9_1).f3.f1) ((rd_T45 l0 x9_1).f3.f2) ((rd_T45 l0 x9_1).f3.f3) _ _ ((rd_T45 l0 x9_1).f3.f4) ((rd_T45 l0 x9_1).f3.f5) true _ ?side1 ?side2 A7.out).mono ?_
         (case side1 => exact (cZ (Kd.C_below HR108_7.out HB.out)))
         (case side2 => exact HC108_7.out)
         rintro e w35 ⟨rfl, hb⟩
         refine ⟨_, rfl, ?_⟩
         have _ := aM (Kd.R_below (rZ HO_3.out) hb)
         have _ := bB gb109 hb
         have _ := aM (below_step hbZ hb)
         clear HO_3
         clear BK109
         clear HB
         rename_i HO_3 BK109 HB
         (try clear hb); (try clear hk)
         refine hK.out _ _ sZ (fun hHeld => ?_)
         clear hK K
         refine nA 15 ?_; refine pA 2 16 HT_ ?_; refine pA 3 17 HT_ ?_; refine pA 4 18 HT_ ?_; refine pA 5 19 HT_ ?_; refine pA 6 20 HT_ ?_; refine uA 7 21 HT_ ?_; refine uA 8 22 HT_ ?_; refine uA 9 23 HT_ ?_; refine uA 10 24 HT_ ?_; refine uA 11 25 HT_ ?_; refine uA 12 26 HT_ ?_; refine uA 13 27 HT_ ?_; refine uA 14 28 HT_ ?_; refine pA 15 29 HT_ ?_; refine pA 16 30 HT_ ?_
         refine done_ (done_of HT_.out (by kernel_rfl)) ?_
         have hz36 := cellsZ9 BK109.out
         try go_wp2_with (first | ((with_reducible refine gate_builtin (b := .append) (xs := #[.tmp 31, .tmp 34]) rfl ?_); at_builtin; refine Kd.R_append (Kd.int .i64) (w0 := w) w.heap.size rfl (.tmp 31) (.tmp 34) 24 3 (.int .i64 0) 8 rfl Try.underlying24 info3 rfl (by decide) (by omega) u3 x3_1 ((rd_T45 l0 x9_1).f1) [.int .i64 ((rd_T45 l0 x9_1).f1)] (fun _ => True) (fun _ => False) rfl rfl ?aP (fun _ hk => hk.elim) ?aF ?aO ?aB ?aS ?aL ?_; (case aP => exact rfl); (case aB => exact hbZ); (case aF => exact (fun _ _ => trivial)); (case aO => exact (rZ HO_3.out)); (case aS => exact (below_size hbZ)); (case aL => have := LMc30.out; omega); intro v117 w37 ho hb hg hat; rw [← Ny116.out] at ho; have _ := aM (blk_grown (g := gb109) bkZ hg (Kd.R_ne HO_3.out BK109.out (by decide))); have _ := aM hb; have _ := aM ho; clear BK109 HB HO_3; rename_i BK109 HB HO118; clear ho hb hg hat))
         go_roundg k1
         case measure => have := HK1.out; omega
         case rel => exact ⟨(y116), (wrap64 (x9_1 + 1)), z4458, H', ⟨zfb39⟩, ⟨rZ HO118.out⟩, ⟨zcb41⟩⟩
     · replace c8 := Bool.eq_false_iff.mpr c8
       subst c8
       rw [if_neg (show ¬ (false = true) by decide)] at H
       obtain rfl := Option.some.inj H
       have p108 : 0 ≤ (x9_1 : Int) := of_decide_eq_true z1200
       have q108 : x9_1 < (l0.length : Int) := of_decide_eq_true z1200
       obtain ⟨ad108, A108_7, c108_7, e108, hx108_0, hx108_1, hx108_2, hx108_3, hx108_4, hx108_5, hx108_6, hx108_7, hx108_8, hl108_7, hi108_7⟩ := at_T45 HR0.out x9_1 p108 q108
       cases e108
       have TW108_7 := aM hx108_7
       replace hx108_0 := (HB.out.cell (World.block_lt_of_cell? w _ hx108_0)).trans hx108_0
       replace hx108_1 := (HB.out.cell (World.block_lt_of_cell? w _ hx108_1)).trans hx108_1
       replace hx108_2 := (HB.out.cell (World.block_lt_of_cell? w _ hx108_2)).trans hx108_2
       replace hx108_3 := (HB.out.cell (World.block_lt_of_cell? w _ hx108_3)).trans hx108_3
       replace hx108_4 := (HB.out.cell (World.block_lt_of_cell? w _ hx108_4)).trans hx108_4
       replace hx108_5 := (HB.out.cell (World.block_lt_of_cell? w _ hx108_5)).trans hx108_5
       replace hx108_6 := (HB.out.cell (World.block_lt_of_cell? w _ hx108_6)).trans hx108_6
       replace hx108_7 := (HB.out.cell (World.block_lt_of_cell? w _ hx108_7)).trans hx108_7
       replace hx108_8 := (HB.out.cell (World.block_lt_of_cell? w _ hx108_8)).trans hx108_8
       have HR108_7 := aM hi108_7
       have HC108_7 := aM hl108_7
       clear hi108_7 hl108_7
       replace p108 := eq_true p108
       replace q108 := eq_true q108
       try go_wp2_with (first | ((with_reducible refine gate_dst (N := 5) rfl ?_); refine bX 5 45 #[.string (⟨#[]⟩ : ByteArray), .int .i64 0, .int .i64 0, .int .i64 0, .int .i64 0, .int .i64 0, .int .i64 0, .slice none 0 0, .bool false] ?_; intro gb109 hg w38 hbox hb; have _ := aM (Kd.R_below (rZ HO_3.out) hb); have _ := aM (below_step hbZ hb); have _ := aM hbox; have _ := szZ hg; have _ := szZ hg; clear HO_3 HB; rename_i HO_3 HB BK109 GW109 GE109; clear hb hbox hg; have hz39 := cellsZ9 BK109.out))
       have n0_ : Aside0 (Kd.R (Kd.int .i64) 3 (((((((((w38.setCell ⟨gb109, 0, none⟩ (.string ((rd_T45 l0 x9_1).f0))).setCell ⟨gb109, 1, none⟩ (.int .i64 ((rd_T45 l0 x9_1).f1))).setCell ⟨gb109, 2, none⟩ (.int .i64 ((rd_T45 l0 x9_1).f2))).setCell ⟨gb109, 3, none⟩ (.int .i64 ((rd_T45 l0 x9_1).f3.f0))).setCell ⟨gb109, 4, none⟩ (.int .i64 ((rd_T45 l0 x9_1).f3.f1))).setCell ⟨gb109, 5, none⟩ (.int .i64 ((rd_T45 l0 x9_1).f3.f2))).setCell ⟨gb109, 6, none⟩ (.int .i64 ((rd_T45 l0 x9_1).f3.f3))).setCell ⟨gb109, 7, none⟩ (.slice A108_7 ((rd_T45 l0 x9_1).f3.f4).length c108_7)).setCell ⟨gb109, 8, none⟩ (.bool ((rd_T45 l0 x9_1).f3.f5))) w.heap.size (fun _ => True) u3 x3_1) := ⟨z20da⟩
       have n1_ : Aside0 ((((((((((w38.setCell ⟨gb109, 0, none⟩ (.string ((rd_T45 l0 x9_1).f0))).setCell ⟨gb109, 1, none⟩ (.int .i64 ((rd_T45 l0 x9_1).f1))).setCell ⟨gb109, 2, none⟩ (.int .i64 ((rd_T45 l0 x9_1).f2))).setCell ⟨gb109, 3, none⟩ (.int .i64 ((rd_T45 l0 x9_1).f3.f0))).setCell ⟨gb109, 4, none⟩ (.int .i64 ((rd_T45 l0 x9_1).f3.f1))).setCell ⟨gb109, 5, none⟩ (.int .i64 ((rd_T45 l0 x9_1).f3.f2))).setCell ⟨gb109, 6, none⟩ (.int .i64 ((rd_T45 l0 x9_1).f3.f3))).setCell ⟨gb109, 7, none⟩ (.slice A108_7 ((rd_T45 l0 x9_1).f3.f4).length c108_7)).setCell ⟨gb109, 8, none⟩ (.bool ((rd_T45 l0 x9_1).f3.f5))).heap[gb109]? = some (.cells #[.string ((rd_T45 l0 x9_1).f0), .int .i64 ((rd_T45 l0 x9_1).f1), .int .i64 ((rd_T45 l0 x9_1).f2), .int .i64 ((rd_T45 l0 x9_1).f3.f0), .int .i64 ((rd_T45 l0 x9_1).f3.f1), .int .i64 ((rd_T45 l0 x9_1).f3.f2), .int .i64 ((rd_T45 l0 x9_1).f3.f3), .slice A108_7 ((rd_T45 l0 x9_1).f3.f4).length c108_7, .bool ((rd_T45 l0 x9_1).f3.f5)] 45 (0, 0))) := ⟨bkZ⟩
       have n2_ : Aside0 (Below w.heap.size w (((((((((w38.setCell ⟨gb109, 0, none⟩ (.string ((rd_T45 l0 x9_1).f0))).setCell ⟨gb109, 1, none⟩ (.int .i64 ((rd_T45 l0 x9_1).f1))).setCell ⟨gb109, 2, none⟩ (.int .i64 ((rd_T45 l0 x9_1).f2))).setCell ⟨gb109, 3, none⟩ (.int .i64 ((rd_T45 l0 x9_1).f3.f0))).setCell ⟨gb109, 4, none⟩ (.int .i64 ((rd_T45 l0 x9_1).f3.f1))).setCell ⟨gb109, 5, none⟩ (.int .i64 ((rd_T45 l0 x9_1).f3.f2))).setCell ⟨gb109, 6, none⟩ (.int .i64 ((rd_T45 l0 x9_1).f3.f3))).setCell ⟨gb109, 7, none⟩ (.slice A108_7 ((rd_T45 l0 x9_1).f3.f4).length c108_7)).setCell ⟨gb109, 8, none⟩ (.bool ((rd_T45 l0 x9_1).f3.f5)))) := ⟨zcb41⟩
       (try clear HO_3); (try clear BK109); (try clear HB)
       generalize (((((((((w38.setCell ⟨gb109, 0, none⟩ (.string ((rd_T45 l0 x9_1).f0))).setCell ⟨gb109, 1, none⟩ (.int .i64 ((rd_T45 l0 x9_1).f1))).setCell ⟨gb109, 2, none⟩ (.int .i64 ((rd_T45 l0 x9_1).f2))).setCell ⟨gb109, 3, none⟩ (.int .i64 ((rd_T45 l0 x9_1).f3.f0))).setCell ⟨gb109, 4, none⟩ (.int .i64 ((rd_T45 l0 x9_1).f3.f1))).setCell ⟨gb109, 5, none⟩ (.int .i64 ((rd_T45 l0 x9_1).f3.f2))).setCell ⟨gb109, 6, none⟩ (.int .i64 ((rd_T45 l0 x9_1).f3.f3))).setCell ⟨gb109, 7, none⟩ (.slice A108_7 ((rd_T45 l0 x9_1).f3.f4).length c108_7)).setCell ⟨gb109, 8, none⟩ (.bool ((rd_T45 l0 x9_1).f3.f5))) = w40 at n0_ n1_ n2_ ⊢
       have HO_3 := n0_
       have BK109 := n1_
       have HB := n2_
       clear n0_ n1_ n2_
       have _ := aM (Kd.R_drew HO_3.out)
       have _ := aM (blk_drew BK109.out)
       have _ := aM (below_drew1 HB.out)
       clear HO_3
       clear BK109
       clear HB
       rename_i HO_3 BK109 HB
       refine sA 17 impl_GoodEntries.tab5 impl_GoodEntries.bits5 (fun w' => w'.cell? ⟨gb109, 0, none⟩ = some (.string ((rd_T45 l0 x9_1).f0)) ∧ w'.cell? ⟨gb109, 1, none⟩ = some (.int .i64 ((rd_T45 l0 x9_1).f1)) ∧ w'.cell? ⟨gb109, 2, none⟩ = some (.int .i64 ((rd_T45 l0 x9_1).f2)) ∧ w'.cell? ⟨gb109, 3, none⟩ = some (.int .i64 ((rd_T45 l0 x9_1).f3.f0)) ∧ w'.cell? ⟨gb109, 4, none⟩ = some (.int .i64 ((rd_T45 l0 x9_1).f3.f1)) ∧ w'.cell? ⟨gb109, 5, none⟩ = some (.int .i64 ((rd_T45 l0 x9_1).f3.f2)) ∧ w'.cell? ⟨gb109, 6, none⟩ = some (.int .i64 ((rd_T45 l0 x9_1).f3.f3)) ∧ w'.cell? ⟨gb109, 7, none⟩ = some (.slice A108_7 ((rd_T45 l0 x9_1).f3.f4).length c108_7) ∧ w'.cell? ⟨gb109, 8, none⟩ = some (.bool ((rd_T45 l0 x9_1).f3.f5))) [] (fun hHeld HT_ HW_ => ?_)
       generalize w40.drew = w41 at HO_3 BK109 HB hHeld ⊢
       refine tA 0 14 HT_ HW_ hHeld ?_; refine oA 1 15 HT_ (fun K hK => ?_)
       refine goes_ Try.func47 (by kernel_rfl) rfl #[.agg #[.string ((rd_T45 l0 x9_1).f0), .int .i64 ((rd_T45 l0 x9_1).f1), .int .i64 ((rd_T45 l0 x9_1).f2), .int .i64 ((rd_T45 l0 x9_1).f3.f0), .int .i64 ((rd_T45 l0 x9_1).f3.f1), .int .i64 ((rd_T45 l0 x9_1).f3.f2), .int .i64 ((rd_T45 l0 x9_1).f3.f3), .slice A108_7 ((rd_T45 l0 x9_1).f3.f4).length c108_7, .bool ((rd_T45 l0 x9_1).f3.f5)]] (by rfl) rfl rfl zee81 ?_
       with_reducible refine (impl_GoodEntry.calls k1 ((rd_T45 l0 x9_1).f0) ((rd_T45 l0 x9_1).f1) ((rd_T45 l0 x9_1).f2) ((rd_T45 l0 x9_1).f3.f0) ((rd_T45 l0 x9_1).f3.f1) ((rd_T45 l0 x9_1).f3.f2) ((rd_T45 l0 x9_1).f3.f3) _ _ ((rd_T45 l0 x9_1).f3.f4) ((rd_T45 l0 x9_1).f3.f5) false _ ?side1 ?side2 A7.out).mono ?_
       (case side1 => exact (cZ (Kd.C_below HR108_7.out HB.out)))
       (case side2 => exact HC108_7.out)
       rintro e w42 ⟨rfl, hb⟩
       refine ⟨_, rfl, ?_⟩
       have _ := aM (Kd.R_below (rZ HO_3.out) hb)
       have _ := bB gb109 hb
       have _ := aM (below_step hbZ hb)
       clear HO_3
       clear BK109
       clear HB
       rename_i HO_3 BK109 HB
       (try clear hb); (try clear hk)
       refine hK.out _ _ sZ (fun hHeld => ?_)
       clear hK K
       refine nA 15 ?_; refine pA 2 16 HT_ ?_; refine pA 3 17 HT_ ?_; refine uA 4 18 HT_ ?_; refine uA 5 19 HT_ ?_; refine uA 6 20 HT_ ?_; refine uA 7 21 HT_ ?_; refine uA 8 22 HT_ ?_; refine uA 9 23 HT_ ?_; refine uA 10 24 HT_ ?_; refine uA 11 25 HT_ ?_; refine uA 12 26 HT_ ?_; refine uA 13 27 HT_ ?_; refine uA 14 28 HT_ ?_; refine uA 15 29 HT_ ?_; refine pA 16 30 HT_ ?_
       refine done_ (done_of HT_.out (by kernel_rfl)) ?_
       try go_wp2
       go_ret
       exact ⟨z674d, zcb41⟩
   · rw [if_neg c4] at H
     have c4b0 := nL c4
     clear c4
     obtain ⟨t104, A43, H⟩ := bS H; try dsimp only at H
     obtain ⟨t105, A44, H⟩ := bS H; try dsimp only at H
     obtain rfl := Option.some.inj H
     obtain ⟨Ao45, co45, eo45⟩ := Kd.R_slice HO_3.out
     subst eo45
     go_wp2_with (first | ((with_reducible refine gate_callee (f := 58) rfl ?_); refine gL 38 Try.func58 #[.slice Ao45 x3_1.length co45] ?_; (with_reducible refine (slices_Sort_int_int.calls (fun k_ => some k_ = (.slice Ao45 x3_1.length co45 : Value).ownBlock) (.slice Ao45 x3_1.length co45) x3_1 t104 w _ ?side1 ?side2 A43.out).mono ?_); (case side1 => exact z5acd); (case side2 => exact Kd.R_tight rfl HO_3.out); rintro e w46 ⟨rfl, hy0, hb, hkp⟩; refine ⟨_, rfl, ?_⟩; have _ := aM (Kd.R_reok rfl hy0 (fun k_ e_ => HO_3.out.1 k_ e_)); have _ := aM hb; clear HO_3 HB; rename_i HO_3 HB; (try clear hb); (try clear hkp); (try clear hy0)) | ((with_reducible refine gate_callee (f := 59) rfl ?_); refine gL 40 Try.func59 #[.slice Ao45 x3_1.length co45] ?_; (with_reducible refine (slices_Compact_int_int.calls (fun k_ => some k_ = (.slice Ao45 x3_1.length co45 : Value).ownBlock) (.slice Ao45 x3_1.length co45) t104 t105 w _ ?side1 ?side2 A44.out).mono ?_); (case side1 => exact z5acd); (case side2 => exact Kd.R_tight rfl HO_3.out); rintro e w47 ⟨v106, rfl, ho0, hb, hkp⟩; refine ⟨_, rfl, ?_⟩; have _ := aM (Kd.R_mono (ok' := fun k_ => True) ho0 (fun k_ hk_ => trivial)); have _ := aM hb; clear HB HO_3; rename_i HO107 HB; (try clear hb); (try clear hkp); (try clear ho0); obtain ⟨Ao48, co48, eo48⟩ := Kd.R_slice HO107.out; subst eo48))
     go_ret
     exact ⟨z674d, z5acd⟩
def spec_l1In.f (a0 : Int) (a1 : Int) (a2 : Int) : Option (Bool) := if a0 ≥ a1 then (some (decide (a0 ≤ a2))) else (some false)
theorem spec_l1In.calls (a0 : Int) (a1 : Int) (a2 : Int) (r : Bool) (w : World) (h : spec_l1In.f a0 a1 a2 = some r) :
 Calls Try.prog 64 #[.int .i64 a0, .int .i64 a1, .int .i64 a2] w fun e w' => e = .returned (.bool r) ∧ Drawn0 w w' := by
 have H : (if a0 ≥ a1 then (some (decide (a0 ≤ a2))) else (some false)) = some r := h
 clear h
 by_cases c4 : a0 ≥ a1
 · rw [if_pos c4] at H
   have c4b0 := dE c4
   clear c4
   obtain rfl := Option.some.inj H
   go_enter Try.func64, Try.ntmps64
   go_wp2
   go_ret
   exact ⟨z4458, za9de⟩
 · rw [if_neg c4] at H
   have c4b0 := nE c4
   clear c4
   obtain rfl := Option.some.inj H
   go_enter Try.func64, Try.ntmps64
   go_wp2
   go_ret
   exact ⟨z4458, za9de⟩
def spec_l4Value.f (a0 : Int) : Option (Bool) := (spec_l1In.f a0 (-1000000000) 1000000000).bind fun t101 => (some t101)
theorem spec_l4Value.calls (a0 : Int) (r : Bool) (w : World) (h : spec_l4Value.f a0 = some r) :
 Calls Try.prog 94 #[.int .i64 a0] w fun e w' => e = .returned (.bool r) ∧ Drawn0 w w' := by
 have H : ((spec_l1In.f a0 (-1000000000) 1000000000).bind fun t101 => (some t101)) = some r := h
 clear h
 obtain ⟨t101, A2, H⟩ := bS H; try dsimp only at H
 obtain rfl := Option.some.inj H
 go_enter Try.func94, Try.ntmps94
 go_wp2_with (first | ((with_reducible refine gate_callee (f := 64) rfl ?_); refine gL 4 Try.func64 #[.int .i64 a0, .int .i64 (-1000000000), .int .i64 1000000000] ?_; (with_reducible refine (spec_l1In.calls a0 (-1000000000) 1000000000 t101 _ A2.out).mono ?_); rintro e w' ⟨rfl, ⟨nd, rfl⟩⟩; refine ⟨_, rfl, ?_⟩))
 go_ret
 exact ⟨z4458, za9de⟩
mutual
def spec_GoodAgg.j0 : Nat → Bool → Int → Int → Int → Int → List Int → Bool → Option (Bool)
 | 0, _, _, _, _, _, _, _ => none
 | k + 1, x15, x102000, x102001, x102002, x102003, x102004, x102005 => if x15 = true then (some false) else (spec_GoodAgg.l0 k 0 x102004 (x102004.length : Int) 0 x102000 x102001 x102002 x102003 x102004 x102005)
def spec_GoodAgg.l0 : Nat → Int → List Int → Int → Int → Int → Int → Int → Int → List Int → Bool → Option (Bool)
 | 0, _, _, _, _, _, _, _, _, _, _ => none
 | k + 1, x3, x17, x18, x19, x102000, x102001, x102002, x102003, x102004, x102005 => if x19 < x18 then (if 0 ≤ x19 then (if x19 < (x17.length : Int) then ((spec_l1In.f (rd x17 x19) 0 1000000000).bind fun t104 => (if t104 = true then (spec_GoodAgg.l0 k (wrap64 (x3 + (rd x17 x19))) x17 x18 (wrap64 (x19 + 1)) x102000 x102001 x102002 x102003 x102004 x102005) else (some false))) else (none)) else (none)) else (if x102000 = 0 then (if x3 = 0 then (if x102002 = 0 then (if x102003 = 0 then (if x102001 = 0 then (some (!x102005)) else (some false)) else (some false)) else (some false)) else (some false)) else ((spec_l4Value.f x102002).bind fun t105 => (if t105 = true then ((spec_l4Value.f x102003).bind fun t106 => (if t106 = true then (spec_GoodAgg.j2 k x3 (decide (x102002 > x102003)) x102000 x102001 x102002 x102003 x102004 x102005) else (spec_GoodAgg.j2 k x3 true x102000 x102001 x102002 x102003 x102004 x102005))) else (spec_GoodAgg.j2 k x3 true x102000 x102001 x102002 x102003 x102004 x102005))))
def spec_GoodAgg.j2 : Nat → Int → Bool → Int → Int → Int → Int → List Int → Bool → Option (Bool)
 | 0, _, _, _, _, _, _, _, _ => none
 | k + 1, x3, x71, x102000, x102001, x102002, x102003, x102004, x102005 => if x71 = true then (some false) else (if x102005 = true then (some (x102001 == 0)) else (if x3 = x102000 then ((spec_l1In.f x102001 (wrap64 ((-1000000000) * x102000)) (wrap64 (1000000000 * x102000))).bind fun t107 => (some t107)) else (some false)))
end
def spec_GoodAgg.f (k : Nat) (a0_0 : Int) (a0_1 : Int) (a0_2 : Int) (a0_3 : Int) (l0_4 : List Int) (a0_5 : Bool) : Option (Bool) := (spec_l1In.f a0_0 0 1000000000).bind fun t102 => (if t102 = true then (spec_GoodAgg.j0 k ((l0_4.length : Int) != 8) a0_0 a0_1 a0_2 a0_3 l0_4 a0_5) else (spec_GoodAgg.j0 k true a0_0 a0_1 a0_2 a0_3 l0_4 a0_5))
theorem spec_GoodAgg.mono_l : ∀ k, (∀ y0 y1 y2 y3 y4 y5 y6, LeO (spec_GoodAgg.j0 k y0 y1 y2 y3 y4 y5 y6) (spec_GoodAgg.j0 (k + 1) y0 y1 y2 y3 y4 y5 y6)) ∧ (∀ y0 y1 y2 y3 y4 y5 y6 y7 y8 y9, LeO (spec_GoodAgg.l0 k y0 y1 y2 y3 y4 y5 y6 y7 y8 y9) (spec_GoodAgg.l0 (k + 1) y0 y1 y2 y3 y4 y5 y6 y7 y8 y9)) ∧ (∀ y0 y1 y2 y3 y4 y5 y6 y7, LeO (spec_GoodAgg.j2 k y0 y1 y2 y3 y4 y5 y6 y7) (spec_GoodAgg.j2 (k + 1) y0 y1 y2 y3 y4 y5 y6 y7))
 | 0 => ⟨fun _ _ _ _ _ _ _ r h => by simp [spec_GoodAgg.j0] at h, fun _ _ _ _ _ _ _ _ _ _ r h => by simp [spec_GoodAgg.l0] at h, fun _ _ _ _ _ _ _ _ r h => by simp [spec_GoodAgg.j2] at h⟩
 | k + 1 => by
  obtain ⟨ih0, ih1, ih2⟩ := spec_GoodAgg.mono_l k
  refine ⟨?_, ?_, ?_⟩
  · intro y0 y1 y2 y3 y4 y5 y6
    unfold spec_GoodAgg.j0
    exact moZ
  · intro y0 y1 y2 y3 y4 y5 y6 y7 y8 y9
    unfold spec_GoodAgg.l0
    exact moZ
  · intro y0 y1 y2 y3 y4 y5 y6 y7
    unfold spec_GoodAgg.j2
    exact moZ
theorem spec_GoodAgg.mono : ∀ a0 a1 a2 a3 a4 a5 k, LeO (spec_GoodAgg.f k a0 a1 a2 a3 a4 a5) (spec_GoodAgg.f (k + 1) a0 a1 a2 a3 a4 a5) := by
 intro a0 a1 a2 a3 a4 a5 k
 obtain ⟨ih0, ih1, ih2⟩ := spec_GoodAgg.mono_l k
 unfold spec_GoodAgg.f
 exact moZ
theorem spec_GoodAgg.calls (k : Nat) (a0_0 : Int) (a0_1 : Int) (a0_2 : Int) (a0_3 : Int) (A0_4 : Option Addr) (c0_4 : Nat) (l0_4 : List Int) (a0_5 : Bool) (r : Bool) (w : World) (hr0_4 : Kd.C (Kd.int .i64) w A0_4 l0_4.length l0_4) (hc0_4 : l0_4.length ≤ c0_4) (h : spec_GoodAgg.f k a0_0 a0_1 a0_2 a0_3 l0_4 a0_5 = some r) :
 Calls Try.prog 76 #[.agg #[.int .i64 a0_0, .int .i64 a0_1, .int .i64 a0_2, .int .i64 a0_3, .slice A0_4 l0_4.length c0_4, .bool a0_5]] w fun e w' => e = .returned (.bool r) ∧ Below w.heap.size w w' := by
 have hu26 := Try.underlying26
 have HR0_4 := aM hr0_4
 have HC0_4 := aM hc0_4
 clear hr0_4 hc0_4
 have HB := aM (Below.refl w.heap.size w)
 have H : ((spec_l1In.f a0_0 0 1000000000).bind fun t102 => (if t102 = true then (spec_GoodAgg.j0 k ((l0_4.length : Int) != 8) a0_0 a0_1 a0_2 a0_3 l0_4 a0_5) else (spec_GoodAgg.j0 k true a0_0 a0_1 a0_2 a0_3 l0_4 a0_5))) = some r := h
 clear h
 have HC2 := aM H
 clear H
 go_enter Try.func76, Try.ntmps76
 go_upto_region 1 with (first | ((with_reducible refine gate_dst (N := 1) rfl ?_); (try (refine gate_guard (by rfl) ?_; dsimp only)); refine bX 1 26 #[.int .i64 a0_0, .int .i64 a0_1, .int .i64 a0_2, .int .i64 a0_3, .slice A0_4 l0_4.length c0_4, .bool a0_5] ?_; intro gb101 hg w3 hbox hb; have _ := aM (below_step hbZ hb); have _ := aM hbox; have _ := szZ hg; have _ := szZ hg; clear HB; rename_i HB BK101 GW101 GE101; clear hb hbox hg))
 (try simp only [Act.put, List.setIfInBounds_toArray, List.set_cons_zero, List.set_cons_succ])
 go_cut [15] (fun v15 wc => ∃ (kq : Nat) (x15_1 : Bool), v15 = .bool x15_1 ∧ Aside0 (spec_GoodAgg.j0 kq x15_1 a0_0 a0_1 a0_2 a0_3 l0_4 a0_5 = some r) ∧ Aside0 (kq ≤ k) ∧ Aside0 (wc.heap[gb101]? = some (.cells #[.int .i64 a0_0, .int .i64 a0_1, .int .i64 a0_2, .int .i64 a0_3, (.slice A0_4 l0_4.length c0_4), .bool a0_5] 26 (0, 0))) ∧ Aside0 (Below w.heap.size w wc))
 case first =>
  have H := HC2.out
  clear HC2
  obtain ⟨t102, A4, H⟩ := bS H; try dsimp only at H
  by_cases c5 : t102 = true
  · subst c5
    rw [if_pos rfl] at H
    have H' := aM H
    clear H
    have hz6 := cellsZ6 BK101.out
    go_wp2_with (first | ((with_reducible refine gate_callee (f := 64) rfl ?_); refine gL 8 Try.func64 #[.int .i64 a0_0, .int .i64 0, .int .i64 1000000000] ?_; (with_reducible refine (spec_l1In.calls a0_0 0 1000000000 true _ A4.out).mono ?_); rintro e w' ⟨rfl, ⟨nd, rfl⟩⟩; refine ⟨_, rfl, ?_⟩))
    go_meet
    case rel => exact ⟨_, (((l0_4.length : Int) != 8)), z4458, H', ⟨zb79b⟩, ⟨bkZ⟩, ⟨zcb41⟩⟩
  · replace c5 := Bool.eq_false_iff.mpr c5
    subst c5
    rw [if_neg (show ¬ (false = true) by decide)] at H
    have H' := aM H
    clear H
    have hz7 := cellsZ6 BK101.out
    go_wp2_with (first | ((with_reducible refine gate_callee (f := 64) rfl ?_); refine gL 8 Try.func64 #[.int .i64 a0_0, .int .i64 0, .int .i64 1000000000] ?_; (with_reducible refine (spec_l1In.calls a0_0 0 1000000000 false _ A4.out).mono ?_); rintro e w' ⟨rfl, ⟨nd, rfl⟩⟩; refine ⟨_, rfl, ?_⟩))
    go_meet
    case rel => exact ⟨_, (true), z4458, H', ⟨zb79b⟩, ⟨bkZ⟩, ⟨zcb41⟩⟩
 case rest =>
  clear HC2
  obtain ⟨kq, x15_1, rfl, HA, HJ1, BK101, HB⟩ := hcut
  cases kq with
  | zero => exact absurd HA.out (by simp [spec_GoodAgg.j0])
  | succ kj1 =>
   have H := HA.out
   clear HA
   simp only [spec_GoodAgg.j0] at H
   by_cases c8 : x15_1 = true
   · subst c8
     rw [if_pos rfl] at H
     obtain rfl := Option.some.inj H
     go_wp2
     go_ret
     exact ⟨z674d, zcb41⟩
   · replace c8 := Bool.eq_false_iff.mpr c8
     subst c8
     rw [if_neg (show ¬ (false = true) by decide)] at H
     have H' := aM H
     clear H
     have hz9 := cellsZ6 BK101.out
     go_wp2
     go_loopg [3, 19] kj1 (fun kq v3 v19 w' => ∃ (x3_2 : Int) (x19_2 : Int), v3 = .int .i64 x3_2 ∧ v19 = .int .i64 x19_2 ∧ Aside0 (spec_GoodAgg.l0 kq x3_2 l0_4 (l0_4.length : Int) x19_2 a0_0 a0_1 a0_2 a0_3 l0_4 a0_5 = some r) ∧ Aside0 (kq ≤ kj1) ∧ Aside0 (w'.heap[gb101]? = some (.cells #[.int .i64 a0_0, .int .i64 a0_1, .int .i64 a0_2, .int .i64 a0_3, (.slice A0_4 l0_4.length c0_4), .bool a0_5] 26 (0, 0))) ∧ Aside0 (Below w.heap.size w w'))
     case atStart => exact ⟨(0), (0), z4458, z4458, H', ⟨Nat.le_refl _⟩, ⟨bkZ⟩, ⟨zcb41⟩⟩
     case round =>
      clear H'
      (try clear c8); (try clear hz9)
      obtain ⟨x3_2, x19_2, rfl, rfl, HA, HK2, BK101, HB⟩ := hrel
      cases gk with
      | zero => exact absurd HA.out (by simp [spec_GoodAgg.l0])
      | succ k2 =>
       have H := HA.out
       clear HA
       simp only [spec_GoodAgg.l0] at H
       by_cases c10 : x19_2 < (l0_4.length : Int)
       · rw [if_pos c10] at H
         have c10b0 := dL c10
         clear c10
         obtain ⟨c11b0, H⟩ := sE H
         obtain ⟨c12b0, H⟩ := sL H
         obtain ⟨t104, A13, H⟩ := bS H; try dsimp only at H
         by_cases c14 : t104 = true
         · subst c14
           rw [if_pos rfl] at H
           have H' := aM H
           clear H
           have p103 : 0 ≤ (x19_2 : Int) := of_decide_eq_true z1200
           have q103 : x19_2 < (l0_4.length : Int) := of_decide_eq_true z1200
           obtain ⟨ad103, e103, hx103_0⟩ := Kd.at_int HR0_4.out x19_2 p103 q103
           cases e103
           replace hx103_0 := (HB.out.cell (World.block_lt_of_cell? w _ hx103_0)).trans hx103_0
           replace p103 := eq_true p103
           replace q103 := eq_true q103
           go_wp2_with (first | ((with_reducible refine gate_callee (f := 64) rfl ?_); refine gL 24 Try.func64 #[.int .i64 (rd l0_4 x19_2), .int .i64 0, .int .i64 1000000000] ?_; (with_reducible refine (spec_l1In.calls (rd l0_4 x19_2) 0 1000000000 true _ A13.out).mono ?_); rintro e w' ⟨rfl, ⟨nd, rfl⟩⟩; refine ⟨_, rfl, ?_⟩))
           go_roundg k2
           case measure => have := HJ1.out; have := HK2.out; omega
           case rel => exact ⟨(wrap64 (x3_2 + (rd l0_4 x19_2))), (wrap64 (x19_2 + 1)), z4458, z4458, H', ⟨by have := HJ1.out; have := HK2.out; omega⟩, ⟨bkZ⟩, ⟨zcb41⟩⟩
         · replace c14 := Bool.eq_false_iff.mpr c14
           subst c14
           rw [if_neg (show ¬ (false = true) by decide)] at H
           obtain rfl := Option.some.inj H
           have p103 : 0 ≤ (x19_2 : Int) := of_decide_eq_true z1200
           have q103 : x19_2 < (l0_4.length : Int) := of_decide_eq_true z1200
           obtain ⟨ad103, e103, hx103_0⟩ := Kd.at_int HR0_4.out x19_2 p103 q103
           cases e103
           replace hx103_0 := (HB.out.cell (World.block_lt_of_cell? w _ hx103_0)).trans hx103_0
           replace p103 := eq_true p103
           replace q103 := eq_true q103
           go_wp2_with (first | ((with_reducible refine gate_callee (f := 64) rfl ?_); refine gL 24 Try.func64 #[.int .i64 (rd l0_4 x19_2), .int .i64 0, .int .i64 1000000000] ?_; (with_reducible refine (spec_l1In.calls (rd l0_4 x19_2) 0 1000000000 false _ A13.out).mono ?_); rintro e w' ⟨rfl, ⟨nd, rfl⟩⟩; refine ⟨_, rfl, ?_⟩))
           go_ret
           exact ⟨z674d, zcb41⟩
       · rw [if_neg c10] at H
         have c10b0 := nL c10
         clear c10
         by_cases c15 : a0_0 = 0
         · rw [if_pos c15] at H
           have c15b0 : (a0_0 == 0) = true := beq_iff_eq.mpr c15
           have c15b1 : (a0_0 != 0) = false := bne_eq_false_iff_eq.mpr c15
           clear c15
           by_cases c16 : x3_2 = 0
           · rw [if_pos c16] at H
             have c16b0 : (x3_2 == 0) = true := beq_iff_eq.mpr c16
             have c16b1 : (x3_2 != 0) = false := bne_eq_false_iff_eq.mpr c16
             clear c16
             by_cases c17 : a0_2 = 0
             · rw [if_pos c17] at H
               have c17b0 : (a0_2 == 0) = true := beq_iff_eq.mpr c17
               have c17b1 : (a0_2 != 0) = false := bne_eq_false_iff_eq.mpr c17
               clear c17
               by_cases c18 : a0_3 = 0
               · rw [if_pos c18] at H
                 have c18b0 : (a0_3 == 0) = true := beq_iff_eq.mpr c18
                 have c18b1 : (a0_3 != 0) = false := bne_eq_false_iff_eq.mpr c18
                 clear c18
                 by_cases c19 : a0_1 = 0
                 · rw [if_pos c19] at H
                   have c19b0 : (a0_1 == 0) = true := beq_iff_eq.mpr c19
                   have c19b1 : (a0_1 != 0) = false := bne_eq_false_iff_eq.mpr c19
                   clear c19
                   obtain rfl := Option.some.inj H
                   have hz20 := cellsZ6 BK101.out
                   go_wp2
                   go_ret
                   exact ⟨z674d, zcb41⟩
                 · rw [if_neg c19] at H
                   have c19b0 := eqN c19
                   obtain rfl := Option.some.inj H
                   have hz21 := cellsZ6 BK101.out
                   go_wp2
                   go_ret
                   exact ⟨z674d, zcb41⟩
               · rw [if_neg c18] at H
                 have c18b0 := eqN c18
                 obtain rfl := Option.some.inj H
                 have hz22 := cellsZ6 BK101.out
                 go_wp2
                 go_ret
                 exact ⟨z674d, zcb41⟩
             · rw [if_neg c17] at H
               have c17b0 := eqN c17
               obtain rfl := Option.some.inj H
               have hz23 := cellsZ6 BK101.out
               go_wp2
               go_ret
               exact ⟨z674d, zcb41⟩
           · rw [if_neg c16] at H
             have c16b0 := eqN c16
             obtain rfl := Option.some.inj H
             have hz24 := cellsZ6 BK101.out
             go_wp2
             go_ret
             exact ⟨z674d, zcb41⟩
         · rw [if_neg c15] at H
           have c15b0 := eqN c15
           have HC25 := aM H
           clear H
           have hz26 := cellsZ6 BK101.out
           go_upto_region 13 with (fail)
           go_cut [71] (fun v71 wc => ∃ (kq : Nat) (x71_24 : Bool), v71 = .bool x71_24 ∧ Aside0 (spec_GoodAgg.j2 kq x3_2 x71_24 a0_0 a0_1 a0_2 a0_3 l0_4 a0_5 = some r) ∧ Aside0 (kq ≤ k2) ∧ Aside0 (wc.heap[gb101]? = some (.cells #[.int .i64 a0_0, .int .i64 a0_1, .int .i64 a0_2, .int .i64 a0_3, (.slice A0_4 l0_4.length c0_4), .bool a0_5] 26 (0, 0))) ∧ Aside0 (Below w.heap.size w wc))
           case first =>
            have H := HC25.out
            clear HC25
            obtain ⟨t105, A27, H⟩ := bS H; try dsimp only at H
            by_cases c28 : t105 = true
            · subst c28
              rw [if_pos rfl] at H
              obtain ⟨t106, A29, H⟩ := bS H; try dsimp only at H
              by_cases c30 : t106 = true
              · subst c30
                rw [if_pos rfl] at H
                have H' := aM H
                clear H
                have hz31 := cellsZ6 BK101.out
                go_wp2_with (first | ((with_reducible refine gate_callee (f := 94) rfl ?_); refine gL 57 Try.func94 #[.int .i64 a0_2] ?_; (with_reducible refine (spec_l4Value.calls a0_2 true _ A27.out).mono ?_); rintro e w' ⟨rfl, ⟨nd, rfl⟩⟩; refine ⟨_, rfl, ?_⟩) | (go_at_call 94; (with_reducible refine (spec_l4Value.calls a0_3 true _ A29.out).mono ?_); rintro e w' ⟨rfl, ⟨nd, rfl⟩⟩))
                go_meet
                case rel => exact ⟨_, (decide (a0_2 > a0_3)), z4458, H', ⟨zdc19⟩, ⟨bkZ⟩, ⟨zcb41⟩⟩
              · replace c30 := Bool.eq_false_iff.mpr c30
                subst c30
                rw [if_neg (show ¬ (false = true) by decide)] at H
                have H' := aM H
                clear H
                have hz32 := cellsZ6 BK101.out
                go_wp2_with (first | ((with_reducible refine gate_callee (f := 94) rfl ?_); refine gL 57 Try.func94 #[.int .i64 a0_2] ?_; (with_reducible refine (spec_l4Value.calls a0_2 true _ A27.out).mono ?_); rintro e w' ⟨rfl, ⟨nd, rfl⟩⟩; refine ⟨_, rfl, ?_⟩) | (go_at_call 94; (with_reducible refine (spec_l4Value.calls a0_3 false _ A29.out).mono ?_); rintro e w' ⟨rfl, ⟨nd, rfl⟩⟩))
                go_meet
                case rel => exact ⟨_, (true), z4458, H', ⟨zdc19⟩, ⟨bkZ⟩, ⟨zcb41⟩⟩
            · replace c28 := Bool.eq_false_iff.mpr c28
              subst c28
              rw [if_neg (show ¬ (false = true) by decide)] at H
              have H' := aM H
              clear H
              have hz33 := cellsZ6 BK101.out
              go_wp2_with (first | ((with_reducible refine gate_callee (f := 94) rfl ?_); refine gL 57 Try.func94 #[.int .i64 a0_2] ?_; (with_reducible refine (spec_l4Value.calls a0_2 false _ A27.out).mono ?_); rintro e w' ⟨rfl, ⟨nd, rfl⟩⟩; refine ⟨_, rfl, ?_⟩))
              go_meet
              case rel => exact ⟨_, (true), z4458, H', ⟨zdc19⟩, ⟨bkZ⟩, ⟨zcb41⟩⟩
           case rest =>
            clear HC25
            (try clear c10b0); (try clear c15); (try clear c15b0); (try clear hz26)
            obtain ⟨kq, x71_24, rfl, HA, HJ24, BK101, HB⟩ := hcut
            cases kq with
            | zero => exact absurd HA.out (by simp [spec_GoodAgg.j2])
            | succ kj24 =>
             have H := HA.out
             clear HA
             simp only [spec_GoodAgg.j2] at H
             by_cases c34 : x71_24 = true
             · subst c34
               rw [if_pos rfl] at H
               obtain rfl := Option.some.inj H
               go_wp2
               go_ret
               exact ⟨z674d, zcb41⟩
             · replace c34 := Bool.eq_false_iff.mpr c34
               subst c34
               rw [if_neg (show ¬ (false = true) by decide)] at H
               by_cases c35 : a0_5 = true
               · subst c35
                 rw [if_pos rfl] at H
                 obtain rfl := Option.some.inj H
                 have hz36 := cellsZ6 BK101.out
                 go_wp2
                 go_ret
                 exact ⟨z674d, zcb41⟩
               · replace c35 := Bool.eq_false_iff.mpr c35
                 subst c35
                 rw [if_neg (show ¬ (false = true) by decide)] at H
                 by_cases c37 : x3_2 = a0_0
                 · rw [if_pos c37] at H
                   have c37b0 : (x3_2 == a0_0) = true := beq_iff_eq.mpr c37
                   have c37b1 : (x3_2 != a0_0) = false := bne_eq_false_iff_eq.mpr c37
                   clear c37
                   obtain ⟨t107, A38, H⟩ := bS H; try dsimp only at H
                   obtain rfl := Option.some.inj H
                   have hz39 := cellsZ6 BK101.out
                   go_wp2_with (first | (go_at_call 64; (with_reducible refine (spec_l1In.calls a0_1 (wrap64 ((-1000000000) * a0_0)) (wrap64 (1000000000 * a0_0)) t107 _ A38.out).mono ?_); rintro e w' ⟨rfl, ⟨nd, rfl⟩⟩))
                   go_ret
                   exact ⟨z674d, zcb41⟩
                 · rw [if_neg c37] at H
                   have c37b0 := eqN c37
                   obtain rfl := Option.some.inj H
                   have hz40 := cellsZ6 BK101.out
                   go_wp2
                   go_ret
                   exact ⟨z674d, zcb41⟩
def spec_l5Zero.f (a0_0 : Int) (a0_1 : Int) (a0_2 : Int) (a0_3 : Int) (l0_4 : List Int) (a0_5 : Bool) : Option (Bool) := if a0_0 = 0 then (if a0_1 = 0 then (if a0_2 = 0 then (if a0_3 = 0 then (if (l0_4.length : Int) = 0 then (some (!a0_5)) else (some false)) else (some false)) else (some false)) else (some false)) else (some false)
theorem spec_l5Zero.calls (a0_0 : Int) (a0_1 : Int) (a0_2 : Int) (a0_3 : Int) (A0_4 : Option Addr) (c0_4 : Nat) (l0_4 : List Int) (a0_5 : Bool) (r : Bool) (w : World) (hr0_4 : Kd.C (Kd.int .i64) w A0_4 l0_4.length l0_4) (hc0_4 : l0_4.length ≤ c0_4) (h : spec_l5Zero.f a0_0 a0_1 a0_2 a0_3 l0_4 a0_5 = some r) :
 Calls Try.prog 77 #[.agg #[.int .i64 a0_0, .int .i64 a0_1, .int .i64 a0_2, .int .i64 a0_3, .slice A0_4 l0_4.length c0_4, .bool a0_5]] w fun e w' => e = .returned (.bool r) ∧ Below w.heap.size w w' := by
 have hu26 := Try.underlying26
 have HR0_4 := aM hr0_4
 have HC0_4 := aM hc0_4
 clear hr0_4 hc0_4
 have HB := aM (Below.refl w.heap.size w)
 have H : (if a0_0 = 0 then (if a0_1 = 0 then (if a0_2 = 0 then (if a0_3 = 0 then (if (l0_4.length : Int) = 0 then (some (!a0_5)) else (some false)) else (some false)) else (some false)) else (some false)) else (some false)) = some r := h
 clear h
 by_cases c2 : a0_0 = 0
 · rw [if_pos c2] at H
   have c2b0 : (a0_0 == 0) = true := beq_iff_eq.mpr c2
   have c2b1 : (a0_0 != 0) = false := bne_eq_false_iff_eq.mpr c2
   clear c2
   by_cases c3 : a0_1 = 0
   · rw [if_pos c3] at H
     have c3b0 : (a0_1 == 0) = true := beq_iff_eq.mpr c3
     have c3b1 : (a0_1 != 0) = false := bne_eq_false_iff_eq.mpr c3
     clear c3
     by_cases c4 : a0_2 = 0
     · rw [if_pos c4] at H
       have c4b0 : (a0_2 == 0) = true := beq_iff_eq.mpr c4
       have c4b1 : (a0_2 != 0) = false := bne_eq_false_iff_eq.mpr c4
       clear c4
       by_cases c5 : a0_3 = 0
       · rw [if_pos c5] at H
         have c5b0 : (a0_3 == 0) = true := beq_iff_eq.mpr c5
         have c5b1 : (a0_3 != 0) = false := bne_eq_false_iff_eq.mpr c5
         clear c5
         by_cases c6 : (l0_4.length : Int) = 0
         · rw [if_pos c6] at H
           have c6b0 : ((l0_4.length : Int) == 0) = true := beq_iff_eq.mpr c6
           have c6b1 : ((l0_4.length : Int) != 0) = false := bne_eq_false_iff_eq.mpr c6
           clear c6
           obtain rfl := Option.some.inj H
           go_enter Try.func77, Try.ntmps77
           go_wp2_with (first | ((with_reducible refine gate_dst (N := 1) rfl ?_); (try (refine gate_guard (by rfl) ?_; dsimp only)); refine bX 1 26 #[.int .i64 a0_0, .int .i64 a0_1, .int .i64 a0_2, .int .i64 a0_3, .slice A0_4 l0_4.length c0_4, .bool a0_5] ?_; intro gb101 hg w7 hbox hb; have _ := aM (below_step hbZ hb); have _ := aM hbox; have _ := szZ hg; have _ := szZ hg; clear HB; rename_i HB BK101 GW101 GE101; clear hb hbox hg; have hz8 := cellsZ6 BK101.out))
           go_ret
           exact ⟨z674d, zcb41⟩
         · rw [if_neg c6] at H
           have c6b0 := eqN c6
           have c6b2 : ¬ (l0_4 = []) := fun h_ => c6 (by rw [h_]; rfl)
           obtain rfl := Option.some.inj H
           go_enter Try.func77, Try.ntmps77
           go_wp2_with (first | ((with_reducible refine gate_dst (N := 1) rfl ?_); (try (refine gate_guard (by rfl) ?_; dsimp only)); refine bX 1 26 #[.int .i64 a0_0, .int .i64 a0_1, .int .i64 a0_2, .int .i64 a0_3, .slice A0_4 l0_4.length c0_4, .bool a0_5] ?_; intro gb101 hg w9 hbox hb; have _ := aM (below_step hbZ hb); have _ := aM hbox; have _ := szZ hg; have _ := szZ hg; clear HB; rename_i HB BK101 GW101 GE101; clear hb hbox hg; have hz10 := cellsZ6 BK101.out))
           go_ret
           exact ⟨z674d, zcb41⟩
       · rw [if_neg c5] at H
         have c5b0 := eqN c5
         obtain rfl := Option.some.inj H
         go_enter Try.func77, Try.ntmps77
         go_wp2_with (first | ((with_reducible refine gate_dst (N := 1) rfl ?_); (try (refine gate_guard (by rfl) ?_; dsimp only)); refine bX 1 26 #[.int .i64 a0_0, .int .i64 a0_1, .int .i64 a0_2, .int .i64 a0_3, .slice A0_4 l0_4.length c0_4, .bool a0_5] ?_; intro gb101 hg w11 hbox hb; have _ := aM (below_step hbZ hb); have _ := aM hbox; have _ := szZ hg; have _ := szZ hg; clear HB; rename_i HB BK101 GW101 GE101; clear hb hbox hg; have hz12 := cellsZ6 BK101.out))
         go_ret
         exact ⟨z674d, zcb41⟩
     · rw [if_neg c4] at H
       have c4b0 := eqN c4
       obtain rfl := Option.some.inj H
       go_enter Try.func77, Try.ntmps77
       go_wp2_with (first | ((with_reducible refine gate_dst (N := 1) rfl ?_); (try (refine gate_guard (by rfl) ?_; dsimp only)); refine bX 1 26 #[.int .i64 a0_0, .int .i64 a0_1, .int .i64 a0_2, .int .i64 a0_3, .slice A0_4 l0_4.length c0_4, .bool a0_5] ?_; intro gb101 hg w13 hbox hb; have _ := aM (below_step hbZ hb); have _ := aM hbox; have _ := szZ hg; have _ := szZ hg; clear HB; rename_i HB BK101 GW101 GE101; clear hb hbox hg; have hz14 := cellsZ6 BK101.out))
       go_ret
       exact ⟨z674d, zcb41⟩
   · rw [if_neg c3] at H
     have c3b0 := eqN c3
     obtain rfl := Option.some.inj H
     go_enter Try.func77, Try.ntmps77
     go_wp2_with (first | ((with_reducible refine gate_dst (N := 1) rfl ?_); (try (refine gate_guard (by rfl) ?_; dsimp only)); refine bX 1 26 #[.int .i64 a0_0, .int .i64 a0_1, .int .i64 a0_2, .int .i64 a0_3, .slice A0_4 l0_4.length c0_4, .bool a0_5] ?_; intro gb101 hg w15 hbox hb; have _ := aM (below_step hbZ hb); have _ := aM hbox; have _ := szZ hg; have _ := szZ hg; clear HB; rename_i HB BK101 GW101 GE101; clear hb hbox hg; have hz16 := cellsZ6 BK101.out))
     go_ret
     exact ⟨z674d, zcb41⟩
 · rw [if_neg c2] at H
   have c2b0 := eqN c2
   obtain rfl := Option.some.inj H
   go_enter Try.func77, Try.ntmps77
   go_wp2_with (first | ((with_reducible refine gate_dst (N := 1) rfl ?_); (try (refine gate_guard (by rfl) ?_; dsimp only)); refine bX 1 26 #[.int .i64 a0_0, .int .i64 a0_1, .int .i64 a0_2, .int .i64 a0_3, .slice A0_4 l0_4.length c0_4, .bool a0_5] ?_; intro gb101 hg w17 hbox hb; have _ := aM (below_step hbZ hb); have _ := aM hbox; have _ := szZ hg; have _ := szZ hg; clear HB; rename_i HB BK101 GW101 GE101; clear hb hbox hg; have hz18 := cellsZ6 BK101.out))
   go_ret
   exact ⟨z674d, zcb41⟩
mutual
def spec_GoodEntry.j0 : Nat → Bool → ByteArray → Int → Int → Int → Int → Int → Int → List Int → Bool → Option (Bool)
 | 0, _, _, _, _, _, _, _, _, _, _ => none
 | k + 1, x13, x102000, x102001, x102002, x102003, x102004, x102005, x102006, x102007, x102008 => if x13 = true then (some false) else (if x102002 = 1 then (spec_GoodEntry.j1 k x102002 (x102002 == 1) x102000 x102001 x102002 x102003 x102004 x102005 x102006 x102007 x102008) else (spec_GoodEntry.j1 k x102002 (x102002 == 3) x102000 x102001 x102002 x102003 x102004 x102005 x102006 x102007 x102008))
def spec_GoodEntry.j1 : Nat → Int → Bool → ByteArray → Int → Int → Int → Int → Int → Int → List Int → Bool → Option (Bool)
 | 0, _, _, _, _, _, _, _, _, _, _, _ => none
 | k + 1, x15, x16, x102000, x102001, x102002, x102003, x102004, x102005, x102006, x102007, x102008 => if x16 = true then ((spec_GoodAgg.f k x102003 x102004 x102005 x102006 x102007 x102008).bind fun t104 => (some t104)) else (if x15 = 2 then ((spec_l5Zero.f x102003 x102004 x102005 x102006 x102007 x102008).bind fun t105 => (some t105)) else (some false))
end
def spec_GoodEntry.f (k : Nat) (a0_0 : ByteArray) (a0_1 : Int) (a0_2 : Int) (a0_3 : Int) (a0_4 : Int) (a0_5 : Int) (a0_6 : Int) (l0_7 : List Int) (a0_8 : Bool) : Option (Bool) := (spec_l1In.f (a0_0.size : Int) 1 140).bind fun t102 => (if t102 = true then ((spec_l1In.f a0_1 1 1000000000).bind fun t103 => (spec_GoodEntry.j0 k (!t103) a0_0 a0_1 a0_2 a0_3 a0_4 a0_5 a0_6 l0_7 a0_8)) else (spec_GoodEntry.j0 k true a0_0 a0_1 a0_2 a0_3 a0_4 a0_5 a0_6 l0_7 a0_8))
theorem spec_GoodEntry.mono_l : ∀ k, (∀ y0 y1 y2 y3 y4 y5 y6 y7 y8 y9, LeO (spec_GoodEntry.j0 k y0 y1 y2 y3 y4 y5 y6 y7 y8 y9) (spec_GoodEntry.j0 (k + 1) y0 y1 y2 y3 y4 y5 y6 y7 y8 y9)) ∧ (∀ y0 y1 y2 y3 y4 y5 y6 y7 y8 y9 y10, LeO (spec_GoodEntry.j1 k y0 y1 y2 y3 y4 y5 y6 y7 y8 y9 y10) (spec_GoodEntry.j1 (k + 1) y0 y1 y2 y3 y4 y5 y6 y7 y8 y9 y10))
 | 0 => ⟨fun _ _ _ _ _ _ _ _ _ _ r h => by simp [spec_GoodEntry.j0] at h, fun _ _ _ _ _ _ _ _ _ _ _ r h => by simp [spec_GoodEntry.j1] at h⟩
 | k + 1 => by
  obtain ⟨ih0, ih1⟩ := spec_GoodEntry.mono_l k; have m0 := @spec_GoodAgg.mono
  refine ⟨?_, ?_⟩
  · intro y0 y1 y2 y3 y4 y5 y6 y7 y8 y9
    unfold spec_GoodEntry.j0
    exact moZ
  · intro y0 y1 y2 y3 y4 y5 y6 y7 y8 y9 y10
    unfold spec_GoodEntry.j1
    exact moZ
theorem spec_GoodEntry.mono : ∀ a0 a1 a2 a3 a4 a5 a6 a7 a8 k, LeO (spec_GoodEntry.f k a0 a1 a2 a3 a4 a5 a6 a7 a8) (spec_GoodEntry.f (k + 1) a0 a1 a2 a3 a4 a5 a6 a7 a8) := by
 intro a0 a1 a2 a3 a4 a5 a6 a7 a8 k
 obtain ⟨ih0, ih1⟩ := spec_GoodEntry.mono_l k
 have m0 := @spec_GoodAgg.mono
 unfold spec_GoodEntry.f
 exact moZ
theorem spec_GoodEntry.calls (k : Nat) (a0_0 : ByteArray) (a0_1 : Int) (a0_2 : Int) (a0_3 : Int) (a0_4 : Int) (a0_5 : Int) (a0_6 : Int) (A0_7 : Option Addr) (c0_7 : Nat) (l0_7 : List Int) (a0_8 : Bool) (r : Bool) (w : World) (hr0_7 : Kd.C (Kd.int .i64) w A0_7 l0_7.length l0_7) (hc0_7 : l0_7.length ≤ c0_7) (h : spec_GoodEntry.f k a0_0 a0_1 a0_2 a0_3 a0_4 a0_5 a0_6 l0_7 a0_8 = some r) :
 Calls Try.prog 43 #[.agg #[.string a0_0, .int .i64 a0_1, .int .i64 a0_2, .int .i64 a0_3, .int .i64 a0_4, .int .i64 a0_5, .int .i64 a0_6, .slice A0_7 l0_7.length c0_7, .bool a0_8]] w fun e w' => e = .returned (.bool r) ∧ Below w.heap.size w w' := by
 have hu45 := Try.underlying45
 have hu26 := Try.underlying26
 have HR0_7 := aM hr0_7
 have HC0_7 := aM hc0_7
 clear hr0_7 hc0_7
 have HB := aM (Below.refl w.heap.size w)
 have H : ((spec_l1In.f (a0_0.size : Int) 1 140).bind fun t102 => (if t102 = true then ((spec_l1In.f a0_1 1 1000000000).bind fun t103 => (spec_GoodEntry.j0 k (!t103) a0_0 a0_1 a0_2 a0_3 a0_4 a0_5 a0_6 l0_7 a0_8)) else (spec_GoodEntry.j0 k true a0_0 a0_1 a0_2 a0_3 a0_4 a0_5 a0_6 l0_7 a0_8))) = some r := h
 clear h
 have HC2 := aM H
 clear H
 go_enter Try.func43, Try.ntmps43
 go_upto_region 1 with (first | ((with_reducible refine gate_dst (N := 1) rfl ?_); refine bX 1 45 #[.string a0_0, .int .i64 a0_1, .int .i64 a0_2, .int .i64 a0_3, .int .i64 a0_4, .int .i64 a0_5, .int .i64 a0_6, .slice A0_7 l0_7.length c0_7, .bool a0_8] ?_; intro gb101 hg w3 hbox hb; have _ := aM (below_step hbZ hb); have _ := aM hbox; have _ := szZ hg; have _ := szZ hg; clear HB; rename_i HB BK101 GW101 GE101; clear hb hbox hg))
 (try simp only [Act.put, List.setIfInBounds_toArray, List.set_cons_zero, List.set_cons_succ])
 go_cut [13] (fun v13 wc => ∃ (kq : Nat) (x13_1 : Bool), v13 = .bool x13_1 ∧ Aside0 (spec_GoodEntry.j0 kq x13_1 a0_0 a0_1 a0_2 a0_3 a0_4 a0_5 a0_6 l0_7 a0_8 = some r) ∧ Aside0 (kq ≤ k) ∧ Aside0 (wc.heap[gb101]? = some (.cells #[.string a0_0, .int .i64 a0_1, .int .i64 a0_2, .int .i64 a0_3, .int .i64 a0_4, .int .i64 a0_5, .int .i64 a0_6, (.slice A0_7 l0_7.length c0_7), .bool a0_8] 45 (0, 0))) ∧ Aside0 (Below w.heap.size w wc))
 case first =>
  have H := HC2.out
  clear HC2
  obtain ⟨t102, A4, H⟩ := bS H; try dsimp only at H
  by_cases c5 : t102 = true
  · subst c5
    rw [if_pos rfl] at H
    obtain ⟨t103, A6, H⟩ := bS H; try dsimp only at H
    have H' := aM H
    clear H
    have hz7 := cellsZ9 BK101.out
    go_wp2_with (first | ((with_reducible refine gate_callee (f := 64) rfl ?_); refine gL 6 Try.func64 #[.int .i64 (a0_0.size : Int), .int .i64 1, .int .i64 140] ?_; (with_reducible refine (spec_l1In.calls (a0_0.size : Int) 1 140 true _ A4.out).mono ?_); rintro e w' ⟨rfl, ⟨nd, rfl⟩⟩; refine ⟨_, rfl, ?_⟩) | (go_at_call 64; (with_reducible refine (spec_l1In.calls a0_1 1 1000000000 t103 _ A6.out).mono ?_); rintro e w' ⟨rfl, ⟨nd, rfl⟩⟩))
    go_meet
    case rel => exact ⟨_, (!t103), z4458, H', ⟨zb79b⟩, ⟨bkZ⟩, ⟨zcb41⟩⟩
  · replace c5 := Bool.eq_false_iff.mpr c5
    subst c5
    rw [if_neg (show ¬ (false = true) by decide)] at H
    have H' := aM H
    clear H
    have hz8 := cellsZ9 BK101.out
    go_wp2_with (first | ((with_reducible refine gate_callee (f := 64) rfl ?_); refine gL 6 Try.func64 #[.int .i64 (a0_0.size : Int), .int .i64 1, .int .i64 140] ?_; (with_reducible refine (spec_l1In.calls (a0_0.size : Int) 1 140 false _ A4.out).mono ?_); rintro e w' ⟨rfl, ⟨nd, rfl⟩⟩; refine ⟨_, rfl, ?_⟩))
    go_meet
    case rel => exact ⟨_, (true), z4458, H', ⟨zb79b⟩, ⟨bkZ⟩, ⟨zcb41⟩⟩
 case rest =>
  clear HC2
  obtain ⟨kq, x13_1, rfl, HA, HJ1, BK101, HB⟩ := hcut
  cases kq with
  | zero => exact absurd HA.out (by simp [spec_GoodEntry.j0])
  | succ kj1 =>
   have H := HA.out
   clear HA
   simp only [spec_GoodEntry.j0] at H
   by_cases c9 : x13_1 = true
   · subst c9
     rw [if_pos rfl] at H
     obtain rfl := Option.some.inj H
     go_wp2
     go_ret
     exact ⟨z674d, zcb41⟩
   · replace c9 := Bool.eq_false_iff.mpr c9
     subst c9
     rw [if_neg (show ¬ (false = true) by decide)] at H
     have HC10 := aM H
     clear H
     have hz11 := cellsZ9 BK101.out
     go_upto_if 16 with (fail)
     go_cut [16] (fun v16 wc => ∃ (kq : Nat) (x16_9 : Bool), v16 = .bool x16_9 ∧ Aside0 (spec_GoodEntry.j1 kq a0_2 x16_9 a0_0 a0_1 a0_2 a0_3 a0_4 a0_5 a0_6 l0_7 a0_8 = some r) ∧ Aside0 (kq ≤ kj1) ∧ Aside0 (wc.heap[gb101]? = some (.cells #[.string a0_0, .int .i64 a0_1, .int .i64 a0_2, .int .i64 a0_3, .int .i64 a0_4, .int .i64 a0_5, .int .i64 a0_6, (.slice A0_7 l0_7.length c0_7), .bool a0_8] 45 (0, 0))) ∧ Aside0 (Below w.heap.size w wc))
     case first =>
      have H := HC10.out
      clear HC10
      by_cases c12 : a0_2 = 1
      · rw [if_pos c12] at H
        have c12b0 : (a0_2 == 1) = true := beq_iff_eq.mpr c12
        have c12b1 : (a0_2 != 1) = false := bne_eq_false_iff_eq.mpr c12
        clear c12
        (first | rw [c12b0] | (simp only [i64_w, i32_w]; rw [c12b0]) | skip)
        have H' := aM H
        clear H
        go_wp2
        go_meet
        case rel => exact ⟨_, ((a0_2 == 1)), z4458, H', ⟨by have := HJ1.out; first | omega | exact Nat.le_refl _⟩, ⟨bkZ⟩, ⟨zcb41⟩⟩
      · rw [if_neg c12] at H
        have c12b0 : (a0_2 == 1) = false := beq_eq_false_iff_ne.mpr c12
        have c12b1 : (a0_2 != 1) = true := bne_iff_ne.mpr c12
        (first | rw [c12b0] | (simp only [i64_w, i32_w]; rw [c12b0]) | skip)
        have H' := aM H
        clear H
        go_wp2
        go_meet
        case rel => exact ⟨_, ((a0_2 == 3)), z4458, H', ⟨by have := HJ1.out; first | omega | exact Nat.le_refl _⟩, ⟨bkZ⟩, ⟨zcb41⟩⟩
     case rest =>
      clear HC10
      (try clear c9); (try clear hz11)
      obtain ⟨kq, x16_9, rfl, HA, HJ9, BK101, HB⟩ := hcut
      cases kq with
      | zero => exact absurd HA.out (by simp [spec_GoodEntry.j1])
      | succ kj9 =>
       have H := HA.out
       clear HA
       simp only [spec_GoodEntry.j1] at H
       by_cases c13 : x16_9 = true
       · subst c13
         rw [if_pos rfl] at H
         obtain ⟨t104, A14, H⟩ := bS H; try dsimp only at H
         obtain rfl := Option.some.inj H
         have hz15 := cellsZ9 BK101.out
         go_wp2_with (first | ((with_reducible refine gate_callee (f := 76) rfl ?_); refine gL 21 Try.func76 #[.agg #[.int .i64 a0_3, .int .i64 a0_4, .int .i64 a0_5, .int .i64 a0_6, .slice A0_7 l0_7.length c0_7, .bool a0_8]] ?_; (with_reducible refine (spec_GoodAgg.calls kj9 a0_3 a0_4 a0_5 a0_6 _ _ l0_7 a0_8 t104 _ ?side1 ?side2 A14.out).mono ?_); (case side1 => exact (cZ (Kd.C_below HR0_7.out HB.out))); (case side2 => exact HC0_7.out); rintro e w16 ⟨rfl, hb⟩; refine ⟨_, rfl, ?_⟩; have _ := bB gb101 hb; have _ := aM (below_step hbZ hb); clear BK101 HB; rename_i BK101 HB; (try clear hb)))
         go_ret
         exact ⟨z674d, zcb41⟩
       · replace c13 := Bool.eq_false_iff.mpr c13
         subst c13
         rw [if_neg (show ¬ (false = true) by decide)] at H
         by_cases c17 : a0_2 = 2
         · rw [if_pos c17] at H
           have c17b0 : (a0_2 == 2) = true := beq_iff_eq.mpr c17
           have c17b1 : (a0_2 != 2) = false := bne_eq_false_iff_eq.mpr c17
           clear c17
           obtain ⟨t105, A18, H⟩ := bS H; try dsimp only at H
           obtain rfl := Option.some.inj H
           have hz19 := cellsZ9 BK101.out
           go_wp2_with (first | ((with_reducible refine gate_callee (f := 77) rfl ?_); refine gL 26 Try.func77 #[.agg #[.int .i64 a0_3, .int .i64 a0_4, .int .i64 a0_5, .int .i64 a0_6, .slice A0_7 l0_7.length c0_7, .bool a0_8]] ?_; (with_reducible refine (spec_l5Zero.calls a0_3 a0_4 a0_5 a0_6 _ _ l0_7 a0_8 t105 _ ?side1 ?side2 A18.out).mono ?_); (case side1 => exact (cZ (Kd.C_below HR0_7.out HB.out))); (case side2 => exact HC0_7.out); rintro e w20 ⟨rfl, hb⟩; refine ⟨_, rfl, ?_⟩; have _ := bB gb101 hb; have _ := aM (below_step hbZ hb); clear BK101 HB; rename_i BK101 HB; (try clear hb)))
           go_ret
           exact ⟨z674d, zcb41⟩
         · rw [if_neg c17] at H
           have c17b0 := eqN c17
           obtain rfl := Option.some.inj H
           go_wp2
           go_ret
           exact ⟨z674d, zcb41⟩
def spec_l5Before.f (a0_0 : ByteArray) (a0_1 : Int) (a0_2 : Int) (a0_3 : Int) (a0_4 : Int) (a0_5 : Int) (a0_6 : Int) (l0_7 : List Int) (a0_8 : Bool) (a1_0 : ByteArray) (a1_1 : Int) (a1_2 : Int) (a1_3 : Int) (a1_4 : Int) (a1_5 : Int) (a1_6 : Int) (l1_7 : List Int) (a1_8 : Bool) : Option (Bool) := if (Op.bytesLess a0_0.toList a1_0.toList) = true then (some true) else (if a0_0.toList = a1_0.toList then (some (decide (a0_1 > a1_1))) else (some false))
theorem spec_l5Before.calls (a0_0 : ByteArray) (a0_1 : Int) (a0_2 : Int) (a0_3 : Int) (a0_4 : Int) (a0_5 : Int) (a0_6 : Int) (A0_7 : Option Addr) (c0_7 : Nat) (l0_7 : List Int) (a0_8 : Bool) (a1_0 : ByteArray) (a1_1 : Int) (a1_2 : Int) (a1_3 : Int) (a1_4 : Int) (a1_5 : Int) (a1_6 : Int) (A1_7 : Option Addr) (c1_7 : Nat) (l1_7 : List Int) (a1_8 : Bool) (r : Bool) (w : World) (hr0_7 : Kd.C (Kd.int .i64) w A0_7 l0_7.length l0_7) (hc0_7 : l0_7.length ≤ c0_7) (hr1_7 : Kd.C (Kd.int .i64) w A1_7 l1_7.length l1_7) (hc1_7 : l1_7.length ≤ c1_7) (h : spec_l5Before.f a0_0 a0_1 a0_2 a0_3 a0_4 a0_5 a0_6 l0_7 a0_8 a1_0 a1_1 a1_2 a1_3 a1_4 a1_5 a1_6 l1_7 a1_8 = some r) :
 Calls Try.prog 65 #[.agg #[.string a0_0, .int .i64 a0_1, .int .i64 a0_2, .int .i64 a0_3, .int .i64 a0_4, .int .i64 a0_5, .int .i64 a0_6, .slice A0_7 l0_7.length c0_7, .bool a0_8], .agg #[.string a1_0, .int .i64 a1_1, .int .i64 a1_2, .int .i64 a1_3, .int .i64 a1_4, .int .i64 a1_5, .int .i64 a1_6, .slice A1_7 l1_7.length c1_7, .bool a1_8]] w fun e w' => e = .returned (.bool r) ∧ Below w.heap.size w w' := by
 have hu45 := Try.underlying45
 have HR0_7 := aM hr0_7
 have HC0_7 := aM hc0_7
 clear hr0_7 hc0_7
 have HR1_7 := aM hr1_7
 have HC1_7 := aM hc1_7
 clear hr1_7 hc1_7
 have HB := aM (Below.refl w.heap.size w)
 have H : (if (Op.bytesLess a0_0.toList a1_0.toList) = true then (some true) else (if a0_0.toList = a1_0.toList then (some (decide (a0_1 > a1_1))) else (some false))) = some r := h
 clear h
 by_cases c3 : (Op.bytesLess a0_0.toList a1_0.toList) = true
 · rw [if_pos c3] at H
   have c3b0 : (Op.bytesLess a0_0.toList a1_0.toList) = true := c3
   clear c3
   obtain rfl := Option.some.inj H
   go_enter Try.func65, Try.ntmps65
   go_wp2_with (first | ((with_reducible refine gate_dst (N := 2) rfl ?_); refine bX 2 45 #[.string a0_0, .int .i64 a0_1, .int .i64 a0_2, .int .i64 a0_3, .int .i64 a0_4, .int .i64 a0_5, .int .i64 a0_6, .slice A0_7 l0_7.length c0_7, .bool a0_8] ?_; intro gb101 hg w4 hbox hb; have _ := aM (below_step hbZ hb); have _ := aM hbox; have _ := szZ hg; have _ := szZ hg; clear HB; rename_i HB BK101 GW101 GE101; clear hb hbox hg) | ((with_reducible refine gate_dst (N := 3) rfl ?_); refine bX 3 45 #[.string a1_0, .int .i64 a1_1, .int .i64 a1_2, .int .i64 a1_3, .int .i64 a1_4, .int .i64 a1_5, .int .i64 a1_6, .slice A1_7 l1_7.length c1_7, .bool a1_8] ?_; intro gb102 hg w5 hbox hb; have _ := bB gb101 hb; have _ := aM (below_step hbZ hb); have _ := aM hbox; have _ := szZ hg; have _ := szZ hg; have ⟨_, _⟩ := nbB gb101 hg; clear BK101 HB; rename_i BK101 HB BK102 GW102 GE102 NB101_102 NB102_101; clear hb hbox hg; have hnb6 := NB101_102.out; have hnc6 := NB102_101.out; have hz7 := cellsZ9 BK101.out; have hz8 := cellsZ9 BK102.out))
   go_ret
   exact ⟨z674d, zcb41⟩
 · rw [if_neg c3] at H
   have c3b0 : (Op.bytesLess a0_0.toList a1_0.toList) = false := by simpa using c3
   clear c3
   by_cases c9 : a0_0.toList = a1_0.toList
   · rw [if_pos c9] at H
     have c9b0 : (a0_0.toList == a1_0.toList) = true := beq_iff_eq.mpr c9
     have c9b1 : (a0_0.toList != a1_0.toList) = false := bne_eq_false_iff_eq.mpr c9
     clear c9
     obtain rfl := Option.some.inj H
     go_enter Try.func65, Try.ntmps65
     go_wp2_with (first | ((with_reducible refine gate_dst (N := 2) rfl ?_); refine bX 2 45 #[.string a0_0, .int .i64 a0_1, .int .i64 a0_2, .int .i64 a0_3, .int .i64 a0_4, .int .i64 a0_5, .int .i64 a0_6, .slice A0_7 l0_7.length c0_7, .bool a0_8] ?_; intro gb101 hg w10 hbox hb; have _ := aM (below_step hbZ hb); have _ := aM hbox; have _ := szZ hg; have _ := szZ hg; clear HB; rename_i HB BK101 GW101 GE101; clear hb hbox hg) | ((with_reducible refine gate_dst (N := 3) rfl ?_); refine bX 3 45 #[.string a1_0, .int .i64 a1_1, .int .i64 a1_2, .int .i64 a1_3, .int .i64 a1_4, .int .i64 a1_5, .int .i64 a1_6, .slice A1_7 l1_7.length c1_7, .bool a1_8] ?_; intro gb102 hg w11 hbox hb; have _ := bB gb101 hb; have _ := aM (below_step hbZ hb); have _ := aM hbox; have _ := szZ hg; have _ := szZ hg; have ⟨_, _⟩ := nbB gb101 hg; clear BK101 HB; rename_i BK101 HB BK102 GW102 GE102 NB101_102 NB102_101; clear hb hbox hg; have hnb12 := NB101_102.out; have hnc12 := NB102_101.out; have hz13 := cellsZ9 BK101.out; have hz14 := cellsZ9 BK102.out))
     go_ret
     exact ⟨z674d, zcb41⟩
   · rw [if_neg c9] at H
     have c9b0 := eqN c9
     obtain rfl := Option.some.inj H
     go_enter Try.func65, Try.ntmps65
     go_wp2_with (first | ((with_reducible refine gate_dst (N := 2) rfl ?_); refine bX 2 45 #[.string a0_0, .int .i64 a0_1, .int .i64 a0_2, .int .i64 a0_3, .int .i64 a0_4, .int .i64 a0_5, .int .i64 a0_6, .slice A0_7 l0_7.length c0_7, .bool a0_8] ?_; intro gb101 hg w15 hbox hb; have _ := aM (below_step hbZ hb); have _ := aM hbox; have _ := szZ hg; have _ := szZ hg; clear HB; rename_i HB BK101 GW101 GE101; clear hb hbox hg) | ((with_reducible refine gate_dst (N := 3) rfl ?_); refine bX 3 45 #[.string a1_0, .int .i64 a1_1, .int .i64 a1_2, .int .i64 a1_3, .int .i64 a1_4, .int .i64 a1_5, .int .i64 a1_6, .slice A1_7 l1_7.length c1_7, .bool a1_8] ?_; intro gb102 hg w16 hbox hb; have _ := bB gb101 hb; have _ := aM (below_step hbZ hb); have _ := aM hbox; have _ := szZ hg; have _ := szZ hg; have ⟨_, _⟩ := nbB gb101 hg; clear BK101 HB; rename_i BK101 HB BK102 GW102 GE102 NB101_102 NB102_101; clear hb hbox hg; have hnb17 := NB101_102.out; have hnc17 := NB102_101.out; have hz18 := cellsZ9 BK101.out; have hz19 := cellsZ9 BK102.out))
     go_ret
     exact ⟨z674d, zcb41⟩
end Go.Proofs.Ytdkokfnnebdppaa.P
