/- Part 2 of the walks and words that PE uses. No conditions of its own. -/
import Derived.Test.YtdkokfnnebdppaaProg
import Derived.Below
import Derived.Deep.Draws
import Derived.Deep.AppendLies
import Derived.Maps.AppendAt
import Derived.OwnWalk
import Derived.Laws.BytesArg
import Derived.Laws.MakeOwn
import Derived.Laws.OwnMore
import Derived.Deep.OwnRows
import Derived.Tactics
import Derived.Lib.ConvBytes
import Derived.Laws.Slices
import Derived.WalkKit
import Derived.KernelRfl
import Derived.RowKit3
import Derived.Deep.LoopGhost
import Derived.Deep.QuietTactic
import Derived.BigQuiet
import Derived.WideLaws
import Derived.Deep.DeepCutAuto
import Derived.Deep.CutBlock
import Derived.Deep.RegionHeld3
import Derived.Laws.Rows
import Derived.Lib.AppendStr
import Derived.ArgAppend
import Derived.Laws.IdiomCopy
import Derived.OrdersHeld
import Derived.Laws.BitsLemmas
import Derived.RowKit
import Derived.Lib.SliceRun
import Derived.Test.YtdkokfnnebdppaaMPE1

/- Short words for the walks: each is a proof of its statement, found where it is used. No conditions. -/
namespace Go.Proofs.Ytdkokfnnebdppaa.P
open Go.RowKit Go.Proofs.YtdkokfnnebdppaaW.PrintWords Go.Proofs.YtdkokfnnebdppaaW.PrintLast Go.Proofs.YtdkokfnnebdppaaW.PrintMore
theorem less_tri : ∀ a b : List UInt8, Op.bytesLess b a = !(Op.bytesLess a b || a == b)
  | [], [] => rfl
  | [], _ :: _ => rfl
  | _ :: _, [] => rfl
  | a :: x, b :: y => by
    rw [Op.bytesLess, Op.bytesLess, less_tri x y, List.cons_beq_cons]
    by_cases h : a = b
    · subst h
      rw [beq_self_eq_true, show decide (a < a) = false from decide_eq_false (by rw [UInt8.lt_iff_toNat_lt]; omega)]
      simp only [Bool.true_and, Bool.false_or]
    · have h' : a.toNat ≠ b.toNat := fun e => h (UInt8.toNat_inj.1 e)
      have e1 : (a == b) = false := beq_eq_false_iff_ne.2 h
      have e2 : (b == a) = false := beq_eq_false_iff_ne.2 (Ne.symm h)
      rw [e1, e2, Bool.false_and, Bool.false_and, Bool.or_false, Bool.or_false, Bool.false_and, Bool.or_false]
      by_cases hl : a < b
      · rw [decide_eq_true hl, decide_eq_false (by rw [UInt8.lt_iff_toNat_lt] at hl ⊢; omega)]; rfl
      · rw [decide_eq_false hl, decide_eq_true (by rw [UInt8.lt_iff_toNat_lt] at hl ⊢; omega)]; rfl
theorem str_geq (t : TypeId) (a b : ByteArray) : binOp .geq t (.string a) (.string b) = pure (.bool !(Op.bytesLess a.toList b.toList)) := by simp [binOp, Op.stringOp]
theorem str_gtr (t : TypeId) (a b : ByteArray) : binOp .gtr t (.string a) (.string b) = pure (.bool (Op.bytesLess b.toList a.toList)) := by rw [less_tri a.toList b.toList]; simp [binOp, Op.stringOp]
theorem str_leq (t : TypeId) (a b : ByteArray) : binOp .leq t (.string a) (.string b) = pure (.bool !(Op.bytesLess b.toList a.toList)) := by rw [less_tri a.toList b.toList]; simp [binOp, Op.stringOp]
set_option linter.unusedVariables false
section
variable {P : Program} {md : Region.Mode} {ops : Array Oper} {Q : Exit → Act → World → Prop} {S : World → Prop} {ds : List Nat} {T : Bool × List (List Nat × List Nat)} {B : List Nat} {oi : Oper} {v : Value} {fuel : Nat} {l l' : Array Bool} {a a' : Act} {w : World}
theorem pA (i N : Nat) (hT : Aside0 (rtab md ops = T)) (h : wpAnyLast P md ops Q S ds fuel l' a' w) (hi : ops[i]? = some oi := by rfl) (hN : oi.dst = some N := by rfl)
    (hl : l.setIfInBounds i true = l' := by simp only [List.setIfInBounds_toArray, List.set_cons_zero, List.set_cons_succ]; rfl) (hc : anyT T l.toList l'.toList i = true := by kernel_rfl)
    (hQ : ∀ c a w, Q (.panic c) (a.put oi.dst v) w → Q (.panic c) a w := by exact fun _ _ _ h => h) (hw : Region.wanted oi (yielded ops a.tmps) = true := by rfl)
    (hy : ∀ w', (execOp a.eval oi).run P w' = .ok (.value v) w' := by intro w'; go_simp; with_reducible rfl) (ha : a.put (some N) v = a' := by simp only [Act.put, List.setIfInBounds_toArray, List.set_cons_zero, List.set_cons_succ, i64_w, i32_w]; rfl) : wpAnyLast P md ops Q S ds (fuel + 1) l a w :=
  pure_ l' hi hN (any_of hT.out hc) hQ (Or.inl ⟨hw, hy⟩) ha h
theorem uA (i N : Nat) (hT : Aside0 (rtab md ops = T)) (h : wpAnyLast P md ops Q S ds fuel l' a' w) (hi : ops[i]? = some oi := by rfl) (hN : oi.dst = some N := by rfl)
    (hl : l.setIfInBounds i true = l' := by simp only [List.setIfInBounds_toArray, List.set_cons_zero, List.set_cons_succ]; rfl) (hc : anyT T l.toList l'.toList i = true := by kernel_rfl)
    (hQ : ∀ c a w, Q (.panic c) (a.put oi.dst undef) w → Q (.panic c) a w := by exact fun _ _ _ h => h) (hw : Region.wanted oi (yielded ops a.tmps) = false := by rfl)
    (ha : a.put (some N) undef = a' := by simp only [Act.put, List.setIfInBounds_toArray, List.set_cons_zero, List.set_cons_succ, i64_w, i32_w]; rfl) : wpAnyLast P md ops Q S ds (fuel + 1) l a w :=
  pure_ l' hi hN (any_of hT.out hc) hQ (Or.inr ⟨hw, rfl⟩) ha h
theorem tA (i N : Nat) (hT : Aside0 (rtab md ops = T)) (hB : Aside0 (waitsOk T.2 B = true)) (hS : S w) (h : wpAnyLast P md ops Q S ds fuel l' a' w) (hi : ops[i]? = some oi := by rfl) (hN : oi.dst = some N := by rfl)
    (hl : l.setIfInBounds i true = l' := by simp only [List.setIfInBounds_toArray, List.set_cons_zero, List.set_cons_succ]; rfl) (hc : takeW T B ds l.toList l'.toList i = true := by kernel_rfl)
    (hQ : ∀ c a w, Q (.panic c) (a.put oi.dst v) w → Q (.panic c) a w := by exact fun _ _ _ h => h) (hw : Region.wanted oi (yielded ops a.tmps) = true := by rfl)
    (hy : ∀ w', S w' → (execOp a.eval oi).run P w' = .ok (.value v) w' := by intro w' hS_; (repeat (obtain ⟨_, hS_⟩ := hS_)); go_simp; with_reducible rfl) (ha : a.put (some N) v = a' := by simp only [Act.put, List.setIfInBounds_toArray, List.set_cons_zero, List.set_cons_succ, i64_w, i32_w]; rfl) : wpAnyLast P md ops Q S ds (fuel + 1) l a w :=
  take_ l' hi hN (take_ofW hT.out hB.out hc) hQ (Or.inl ⟨hw, hy⟩) hS ha h
theorem oA (i N : Nat) (hT : Aside0 (rtab md ops = T)) (h : ∀ K : Act → World → Prop, Shut (∀ a' w', S w' → (S w' → wpAnyLast P md ops Q S ds fuel l' a' w') → K a' w') → if Region.wanted oi (yielded ops a.tmps) = true then Oper.wp P oi a w K Q else K (a.put (some N) undef) w)
    (hi : ops[i]? = some oi := by rfl) (hN : oi.dst = some N := by rfl) (hl : l.setIfInBounds i true = l' := by simp only [List.setIfInBounds_toArray, List.set_cons_zero, List.set_cons_succ]; rfl)
    (hc : (readyT T.2 l.toList == [i] && l.toList.set i true == l'.toList) = true := by kernel_rfl) (hd : i ∉ ds := by decide) : wpAnyLast P md ops Q S ds (fuel + 1) l a w :=
  one_ l' hi hN (one_of hT.out hc) hd h
theorem nA (N : Nat) {d : Option Tmp} (h : wpAnyLast P md ops Q S ds fuel l a' w) (hd : d = some N := by rfl) (ha : a.put (some N) v = a' := by simp only [Act.put, List.setIfInBounds_toArray, List.set_cons_zero, List.set_cons_succ, i64_w, i32_w]; rfl) : wpAnyLast P md ops Q S ds fuel l (a.put d v) w := norm_ (hd ▸ ha) h
theorem sA {id : Nat} (n : Nat) (hT : rtab .any ops = T) (hB : waitsOk T.2 B = true) (S : World → Prop) (ds : List Nat) (h : S w.drew → Aside0 (rtab .any ops = T) → Aside0 (waitsOk T.2 B = true) → wpAnyLast P .any ops Q S ds n l a w.drew)
    (hm : P.follows .mixedOrders = true := by kernel_rfl) (hn : ops.size = n := by rfl) (hl : (List.replicate n false).toArray = l := by simp only [List.replicate]; rfl) (hS : S w.drew := by (repeat' apply And.intro) <;> first | trivial | exact Eq.trans (blk_cell (Aside0.out (by assumption)) _) (by rfl) | assumption | exact (HB.out.cell (World.block_lt_of_cell? w _ (by assumption))).trans (by assumption)) : (Code.region id ops true).wp P Q a w :=
  start_ l hm hn hl hS (fun hh => h hh ⟨hT⟩ ⟨hB⟩)
end
theorem sZ {p : Prop} (h : p := by (repeat' apply And.intro) <;> first | trivial | exact Eq.trans (blk_cell (Aside0.out (by assumption)) _) (by rfl) | assumption | exact (HB.out.cell (World.block_lt_of_cell? w _ (by assumption))).trans (by assumption)) : p := h
theorem ifS {α : Type} {c : Prop} [Decidable c] {x : Option α} {r : α} (h : (if c then x else none) = some r) : c ∧ x = some r := by
  by_cases hc : c
  · rw [if_pos hc] at h; exact ⟨hc, h⟩
  · rw [if_neg hc] at h; cases h
theorem ifN {α : Type} {c : Prop} [Decidable c] {x : Option α} {r : α} (h : (if c then none else x) = some r) : ¬ c ∧ x = some r := by
  by_cases hc : c
  · rw [if_pos hc] at h; cases h
  · rw [if_neg hc] at h; exact ⟨hc, h⟩
theorem bindS {α β : Type} {x : α} {f : α → Option β} {r : β} (h : (some x).bind f = some r) : f x = some r := h
theorem hbZ {p : Prop} (h : p := by repeat (first | (with_reducible first | exact HB.out | apply below_alloc | apply pw_below_drewN | apply below_drew1 | refine below_set ?_ (Aside0.out (by assumption))) | exact HB.out)) : p := h
theorem putR {cs cs' : Array Value} {i : Nat} {u : Value} (h : cs.setIfInBounds i u = cs') : cs.setIfInBounds i u = cs' := h
theorem neZ {a b : Nat} (h : a ≠ b) : a ≠ b := h
theorem blk_farZ {w : World} {g gp i : Nat} {t : TypeId} {cs : Array Value} {u : Value} (h : w.heap[g]? = some (.cells cs t (0, 0))) (hp : g ≠ gp) : (w.setCell ⟨gp, i, none⟩ u).heap[g]? = some (.cells cs t (0, 0)) := blk_far h hp u
theorem blk_eqZ {w : World} {g : Nat} {t : TypeId} {cs cs' : Array Value} {z : Nat × Nat} (h : w.heap[g]? = some (.cells cs t z)) (e : cs = cs') : w.heap[g]? = some (.cells cs' t z) := e ▸ h
theorem blk_put0 {w : World} {g i : Nat} {t : TypeId} {cs : Array Value} {u : Value} (h : w.heap[g]? = some (.cells cs t (0, 0))) : (w.setCell ⟨g, i, none⟩ u).heap[g]? = some (.cells (cs.setIfInBounds i u) t (0, 0)) := blk_set h i u
theorem bkZ {p : Prop} (h : p := by first | (with_reducible exact (Aside0.out (by assumption))) | (apply blk_eqZ; (repeat (first | (with_reducible first | refine blk_drewN ?_ _ | refine blk_drew ?_ | refine blk_alloc ?_ _ | exact (Aside0.out (by assumption)) | apply blk_put0 | apply blk_farZ) | exact neZ (Aside0.out (by assumption)))); first | (simp only [List.setIfInBounds_toArray, List.set_cons_zero, List.set_cons_succ] <;> rfl) | rfl) | (repeat (first | (with_reducible first | refine blk_drewN ?_ _ | refine blk_drew ?_ | refine blk_alloc ?_ _ | exact (Aside0.out (by assumption)) | apply blk_put | apply blk_farZ) | ((with_reducible refine putR ?_); simp only [List.setIfInBounds_toArray, List.set_cons_zero, List.set_cons_succ] <;> rfl) | exact putR rfl | exact neZ (Aside0.out (by assumption)) | with_reducible apply blk_far))) : p := h
theorem rZ {p q : Prop} (h0 : p) (h : p → q := by intro h_; (with_reducible repeat (first | apply Kd.R_alloc | apply Kd.R_drewN | apply Kd.R_drew)); exact h_) : q := h h0
theorem vZ {p q : Prop} (h0 : p) (h : p → q := by intro h_; (with_reducible repeat (first | apply Kd.V_alloc | apply Kd.V_drewN | apply Kd.V_drew)); exact h_) : q := h h0
theorem aM {p : Prop} (h : p) : Aside0 p := ⟨h⟩
theorem nbL {w : World} {gb : Nat} (g : Nat) {o : Obj} (hg : gb = w.heap.size) (hb : w.heap[g]? = some o := by exact bkZ) : Aside0 (g ≠ gb) := ⟨by rw [hg]; exact Nat.ne_of_lt (blk_lt hb)⟩
theorem nbR {w : World} {gb : Nat} (g : Nat) {o : Obj} (hg : gb = w.heap.size) (hb : w.heap[g]? = some o := by exact bkZ) : Aside0 (gb ≠ g) := ⟨by rw [hg]; exact Nat.ne_of_gt (blk_lt hb)⟩
theorem szZ {w w0 : World} {gb : Nat} (hg : gb = w.heap.size) (hb : Below w0.heap.size w0 w := by exact hbZ) : Aside0 (w0.heap.size ≤ gb) := ⟨by rw [hg]; exact below_size hb⟩
theorem cZ {p q : Prop} (h0 : p) (h : p → q := by intro h_; repeat (first | exact h_ | (with_reducible refine Kd.C_alloc ?_ _) | (with_reducible refine Kd.C_drewN ?_ _) | (with_reducible refine Kd.C_drew ?_))) : q := h h0
theorem bB {w w1 : World} (g : Nat) {o : Obj} (hb : Below w.heap.size w w1) (h : w.heap[g]? = some o := by exact bkZ) : Aside0 (w1.heap[g]? = some o) := ⟨blk_below h hb⟩
theorem nbB {w : World} {gb : Nat} (g : Nat) {o : Obj} (hg : gb = w.heap.size) (hb : w.heap[g]? = some o := by exact bkZ) : Aside0 (g ≠ gb) ∧ Aside0 (gb ≠ g) := ⟨nbL g hg hb, nbR g hg hb⟩
theorem cellsZ6 {w : World} {g : Nat} {t : TypeId} {a0 a1 a2 a3 a4 a5 : Value} (h : w.heap[g]? = some (.cells #[a0, a1, a2, a3, a4, a5] t (0, 0))) : w.cell? ⟨g, 0, none⟩ = some a0 ∧ w.cell? ⟨g, 1, none⟩ = some a1 ∧ w.cell? ⟨g, 2, none⟩ = some a2 ∧ w.cell? ⟨g, 3, none⟩ = some a3 ∧ w.cell? ⟨g, 4, none⟩ = some a4 ∧ w.cell? ⟨g, 5, none⟩ = some a5 ∧ w.frozen? ⟨g, 0, none⟩ = false ∧ w.frozen? ⟨g, 1, none⟩ = false ∧ w.frozen? ⟨g, 2, none⟩ = false ∧ w.frozen? ⟨g, 3, none⟩ = false ∧ w.frozen? ⟨g, 4, none⟩ = false ∧ w.frozen? ⟨g, 5, none⟩ = false := ⟨(blk_cell h 0).trans rfl, (blk_cell h 1).trans rfl, (blk_cell h 2).trans rfl, (blk_cell h 3).trans rfl, (blk_cell h 4).trans rfl, (blk_cell h 5).trans rfl, blk_frozen h 0, blk_frozen h 1, blk_frozen h 2, blk_frozen h 3, blk_frozen h 4, blk_frozen h 5⟩
theorem cellsZ9 {w : World} {g : Nat} {t : TypeId} {a0 a1 a2 a3 a4 a5 a6 a7 a8 : Value} (h : w.heap[g]? = some (.cells #[a0, a1, a2, a3, a4, a5, a6, a7, a8] t (0, 0))) : w.cell? ⟨g, 0, none⟩ = some a0 ∧ w.cell? ⟨g, 1, none⟩ = some a1 ∧ w.cell? ⟨g, 2, none⟩ = some a2 ∧ w.cell? ⟨g, 3, none⟩ = some a3 ∧ w.cell? ⟨g, 4, none⟩ = some a4 ∧ w.cell? ⟨g, 5, none⟩ = some a5 ∧ w.cell? ⟨g, 6, none⟩ = some a6 ∧ w.cell? ⟨g, 7, none⟩ = some a7 ∧ w.cell? ⟨g, 8, none⟩ = some a8 ∧ w.frozen? ⟨g, 0, none⟩ = false ∧ w.frozen? ⟨g, 1, none⟩ = false ∧ w.frozen? ⟨g, 2, none⟩ = false ∧ w.frozen? ⟨g, 3, none⟩ = false ∧ w.frozen? ⟨g, 4, none⟩ = false ∧ w.frozen? ⟨g, 5, none⟩ = false ∧ w.frozen? ⟨g, 6, none⟩ = false ∧ w.frozen? ⟨g, 7, none⟩ = false ∧ w.frozen? ⟨g, 8, none⟩ = false := ⟨(blk_cell h 0).trans rfl, (blk_cell h 1).trans rfl, (blk_cell h 2).trans rfl, (blk_cell h 3).trans rfl, (blk_cell h 4).trans rfl, (blk_cell h 5).trans rfl, (blk_cell h 6).trans rfl, (blk_cell h 7).trans rfl, (blk_cell h 8).trans rfl, blk_frozen h 0, blk_frozen h 1, blk_frozen h 2, blk_frozen h 3, blk_frozen h 4, blk_frozen h 5, blk_frozen h 6, blk_frozen h 7, blk_frozen h 8⟩
theorem z02fa {p : Prop} (h : p := by first | exact Kd.R_nil _ _ _ _ _ | exact Kd.N_nil _ _ _ _ _ | exact Kd.V_nil _ _ _ _ _ | exact Kd.Q_nil _ _ _ _ _ | exact Kd.S_nil _ _ _ _ _) : p := h
theorem z1200 {p : Prop} (h : p := by first | (with_reducible assumption) | assumption) : p := h
theorem z1bd3 {p : Prop} (h : p := by (with_reducible repeat (first | apply Kd.S_alloc | apply Kd.S_drewN | apply Kd.S_drew)); exact HO103.out) : p := h
theorem z2bfb {p : Prop} (h : p := by first | exact Kd.S_nil _ _ _ _ _ | exact Kd.N_nil _ _ _ _ _ | exact Kd.V_nil _ _ _ _ _ | exact Kd.Q_nil _ _ _ _ _ | exact Kd.R_nil _ _ _ _ _) : p := h
theorem z4195 {p : Prop} (h : p := by repeat (first | exact HR0.out | (with_reducible refine Kd.C_alloc ?_ _) | (with_reducible refine Kd.C_drewN ?_ _) | (with_reducible refine Kd.C_drew ?_))) : p := h
theorem z4458 {p : Prop} (h : p := by first | rfl | (simp; done) | (simp [*]; done)) : p := h
theorem z5acd {p : Prop} (h : p := by repeat (first | (with_reducible first | exact HB.out | apply below_alloc | apply pw_below_drewN | apply below_drew1) | exact HB.out)) : p := h
theorem z674d {p : Prop} (h : p := by first | rfl | (simp [errW_none, errW_some] <;> rfl) | (simp [*, errW_none, errW_some] <;> rfl)) : p := h
theorem za9de {p : Prop} (h : p := by repeat (first | exact Drawn0.refl _ | apply Drawn0.step)) : p := h
theorem zb79b {p : Prop} (h : p := by first | omega | exact Nat.le_refl _) : p := h
theorem zcb41 {p : Prop} (h : p := by repeat (first | (with_reducible first | exact HB.out | apply below_alloc | apply pw_below_drewN | apply below_drew1 | refine below_set ?_ (Aside0.out (by assumption))) | exact HB.out)) : p := h
theorem zdc19 {p : Prop} (h : p := by have := HJ1.out; have := HK2.out; first | omega | exact Nat.le_refl _) : p := h
theorem zee81 {p : Prop} (h : p := by (try simp only [List.map_toArray, List.map_cons, List.map_nil]); first | done | rfl | (simp only [List.length_drop, List.length_take]; rfl)) : p := h
theorem zfb39 {p : Prop} (h : p := by have := HK1.out; omega) : p := h
end Go.Proofs.Ytdkokfnnebdppaa.P

-- written by a program of this session's (wip/pp)
namespace Go.Proofs.Ytdkokfnnebdppaa.P
open Go.RowKit Go.Proofs.YtdkokfnnebdppaaW.PrintWords Go.Proofs.YtdkokfnnebdppaaW.PrintLast Go.Proofs.YtdkokfnnebdppaaW.PrintMore
attribute [local go_sem] max2_int min2_int max_two min_two max_three min_three max_four min_four str_geq str_gtr str_leq   -- for this text's walks alone
set_option linter.unusedVariables false
set_option linter.unusedSimpArgs false



def errW : Option Int → Value
  | none => .nilIface
  | some c => .iface 0 (.int .i64 c)
theorem errW_none : errW none = .nilIface := rfl
theorem errW_some (c : Int) : errW (some c) = .iface 0 (.int .i64 c) := rfl

theorem info3 : (Try.prog.info? 3).map (fun i => (i.zero, i.size, i.bytes)) = some (some (.int .i64 0), 1, 8) := by kernel_rfl
theorem info5 : (Try.prog.info? 5).map (fun i => (i.zero, i.size, i.bytes)) = some (some (.int .u8 0), 1, 1) := by kernel_rfl
theorem info9 : (Try.prog.info? 9).map (fun i => (i.zero, i.size, i.bytes)) = some (some (.string ⟨#[]⟩), 1, 16) := by kernel_rfl
theorem info45 : (Try.prog.info? 45).map (fun i => (i.zero, i.size, i.bytes)) = some (some (.agg #[(.string ⟨#[]⟩), (.int .i64 0), (.int .i64 0), (.int .i64 0), (.int .i64 0), (.int .i64 0), (.int .i64 0), (.slice none 0 0), (.bool false)]), 9, 96) := by kernel_rfl
-- the values' own types
def rd_L2 (xs : List (List Int)) (i : Int) : (List Int) := xs.getD i.toNat ([] : List Int)
theorem at_L2 {w : World} {A : Option Addr} {n : Nat} {xs : List (List Int)} (h : Kd.C (Kd.slice 3 (Kd.int .i64)) w A n xs) (i : Int) (h0 : 0 ≤ i) (h1 : i < n) : ∃ ad A0 c0, A = some ad ∧ w.cell? (ad.add i.toNat) = some (.slice A0 (rd_L2 xs i).length c0) ∧ (rd_L2 xs i).length ≤ c0 ∧ (Kd.int .i64).C w A0 (rd_L2 xs i).length (rd_L2 xs i) := by
  obtain ⟨ad, c, e, _, hK, hc0⟩ := Kd.C_get h ([] : List Int) i h0 h1
  have hc : ∀ j u, c[j]? = some u → w.cell? (ad.add (i.toNat * 1 + j)) = some u := hc0
  obtain ⟨A0, c0, rfl, l0, g0⟩ := hK
  exact ⟨ad, A0, c0, e, by have hq := hc 0 _ rfl; rwa [Nat.mul_one, Nat.add_zero] at hq, l0, g0⟩

/-! #### struct type 39 -/
structure S39 where
  f0 : Int
  f1 : Int
  f2 : Int
  f3 : Int
  f4 : (List Int)
  f5 : Bool
def z39 : S39 := ⟨(0 : Int), (0 : Int), (0 : Int), (0 : Int), ([] : List Int), false⟩
def k39 : Kd S39 := Kd.iso (Kd.pair (Kd.int .i64) (Kd.pair (Kd.int .i64) (Kd.pair (Kd.int .i64) (Kd.pair (Kd.int .i64) (Kd.pair (Kd.slice 3 (Kd.int .i64)) Kd.bool))))) (fun x : S39 => (x.f0, x.f1, x.f2, x.f3, x.f4, x.f5))
theorem k39_heap : Kd.Heap k39 := Kd.heap_iso _ (Kd.heap_pair (Kd.heap_int .i64) (Kd.heap_pair (Kd.heap_int .i64) (Kd.heap_pair (Kd.heap_int .i64) (Kd.heap_pair (Kd.heap_int .i64) (Kd.heap_pair (Kd.heap_slice 3 (Kd.heap_int .i64)) Kd.heap_bool)))))
theorem k39_open {w : World} {x : S39} {cs : List Value} (h : k39.K w x cs) : ∃ A4 c4, cs = [.int .i64 x.f0, .int .i64 x.f1, .int .i64 x.f2, .int .i64 x.f3, .slice A4 x.f4.length c4, .bool x.f5] ∧ x.f4.length ≤ c4 ∧ (Kd.int .i64).C w A4 x.f4.length x.f4 := by
  obtain ⟨_, _, rfl, rfl, ⟨_, _, rfl, rfl, ⟨_, _, rfl, rfl, ⟨_, _, rfl, rfl, ⟨_, _, rfl, ⟨A4, c4, rfl, l4, g4⟩, rfl⟩⟩⟩⟩⟩ := h
  exact ⟨A4, c4, rfl, l4, g4⟩
theorem k39_openM {w : World} {base : Nat} {ok : Nat → Prop} {x : S39} {cs : List Value} (h : k39.M w base ok x cs) : ∃ v4, cs = [.int .i64 x.f0, .int .i64 x.f1, .int .i64 x.f2, .int .i64 x.f3, v4, .bool x.f5] ∧ (Kd.int .i64).R 3 w base ok v4 x.f4 := by
  obtain ⟨_, _, rfl, rfl, ⟨_, _, rfl, rfl, ⟨_, _, rfl, rfl, ⟨_, _, rfl, rfl, ⟨_, _, rfl, ⟨v4, rfl, g4⟩, rfl⟩⟩⟩⟩⟩ := h
  exact ⟨v4, rfl, g4⟩
theorem k39_mk (w : World) (x : S39) {A4 : Option Addr} {c4 : Nat} (l4 : x.f4.length ≤ c4) (g4 : (Kd.int .i64).C w A4 x.f4.length x.f4) : k39.K w x [.int .i64 x.f0, .int .i64 x.f1, .int .i64 x.f2, .int .i64 x.f3, .slice A4 x.f4.length c4, .bool x.f5] := ⟨[.int .i64 x.f0], [.int .i64 x.f1, .int .i64 x.f2, .int .i64 x.f3, .slice A4 x.f4.length c4, .bool x.f5], rfl, rfl, ⟨[.int .i64 x.f1], [.int .i64 x.f2, .int .i64 x.f3, .slice A4 x.f4.length c4, .bool x.f5], rfl, rfl, ⟨[.int .i64 x.f2], [.int .i64 x.f3, .slice A4 x.f4.length c4, .bool x.f5], rfl, rfl, ⟨[.int .i64 x.f3], [.slice A4 x.f4.length c4, .bool x.f5], rfl, rfl, ⟨[.slice A4 x.f4.length c4], [.bool x.f5], rfl, ⟨A4, c4, rfl, l4, g4⟩, rfl⟩⟩⟩⟩⟩
theorem k39_mkM (w : World) (base : Nat) (ok : Nat → Prop) (x : S39) {v4 : Value} (g4 : (Kd.int .i64).R 3 w base ok v4 x.f4) : k39.M w base ok x [.int .i64 x.f0, .int .i64 x.f1, .int .i64 x.f2, .int .i64 x.f3, v4, .bool x.f5] := ⟨[.int .i64 x.f0], [.int .i64 x.f1, .int .i64 x.f2, .int .i64 x.f3, v4, .bool x.f5], rfl, rfl, ⟨[.int .i64 x.f1], [.int .i64 x.f2, .int .i64 x.f3, v4, .bool x.f5], rfl, rfl, ⟨[.int .i64 x.f2], [.int .i64 x.f3, v4, .bool x.f5], rfl, rfl, ⟨[.int .i64 x.f3], [v4, .bool x.f5], rfl, rfl, ⟨[v4], [.bool x.f5], rfl, ⟨v4, rfl, g4⟩, rfl⟩⟩⟩⟩⟩
theorem k39_openF {W : World} {ok : Nat → Prop} {x : S39} {cs : List Value} (h : Kd.FK k39 W ok x cs) : ∃ A4 c4, cs = [.int .i64 x.f0, .int .i64 x.f1, .int .i64 x.f2, .int .i64 x.f3, .slice A4 x.f4.length c4, .bool x.f5] ∧ x.f4.length ≤ c4 ∧ Kd.F (Kd.int .i64) W ok A4 x.f4.length x.f4 := by
  obtain ⟨A4, c4, rfl, l4, _⟩ := k39_open (Kd.FK_now h)
  exact ⟨A4, c4, rfl, l4, (fun W' hW => by obtain ⟨A4_, c4_, he, l4_, g4_⟩ := k39_open (h W' hW); injection (Option.some.inj (show some (Value.slice A4 x.f4.length c4) = some (Value.slice A4_ x.f4.length c4_) from congrArg (fun l => l[4]?) he)) with ha_ _ _; rw [ha_]; exact g4_)⟩
theorem k39_mkF (W : World) (ok : Nat → Prop) (x : S39) {A4 : Option Addr} {c4 : Nat} (l4 : x.f4.length ≤ c4) (g4 : Kd.F (Kd.int .i64) W ok A4 x.f4.length x.f4) : Kd.FK k39 W ok x [.int .i64 x.f0, .int .i64 x.f1, .int .i64 x.f2, .int .i64 x.f3, .slice A4 x.f4.length c4, .bool x.f5] := fun W2 hW => k39_mk W2 x l4 (g4 W2 hW)
def rd_T39 (xs : List S39) (i : Int) : S39 := xs.getD i.toNat z39
theorem at_T39 {w : World} {A : Option Addr} {n : Nat} {xs : List S39} (h : Kd.C k39 w A n xs) (i : Int) (h0 : 0 ≤ i) (h1 : i < n) : ∃ ad A4 c4, A = some ad ∧ w.cell? (ad.add (i.toNat * 6)) = some (.int .i64 (rd_T39 xs i).f0) ∧ w.cell? ⟨(ad.add (i.toNat * 6)).block, (ad.add (i.toNat * 6)).off + 1, none⟩ = some (.int .i64 (rd_T39 xs i).f1) ∧ w.cell? ⟨(ad.add (i.toNat * 6)).block, (ad.add (i.toNat * 6)).off + 2, none⟩ = some (.int .i64 (rd_T39 xs i).f2) ∧ w.cell? ⟨(ad.add (i.toNat * 6)).block, (ad.add (i.toNat * 6)).off + 3, none⟩ = some (.int .i64 (rd_T39 xs i).f3) ∧ w.cell? ⟨(ad.add (i.toNat * 6)).block, (ad.add (i.toNat * 6)).off + 4, none⟩ = some (.slice A4 (rd_T39 xs i).f4.length c4) ∧ w.cell? ⟨(ad.add (i.toNat * 6)).block, (ad.add (i.toNat * 6)).off + 5, none⟩ = some (.bool (rd_T39 xs i).f5) ∧ (rd_T39 xs i).f4.length ≤ c4 ∧ (Kd.int .i64).C w A4 (rd_T39 xs i).f4.length (rd_T39 xs i).f4 := by
  obtain ⟨ad, c, e, _, hK, hc0⟩ := Kd.C_get h z39 i h0 h1
  have hc : ∀ j u, c[j]? = some u → w.cell? (ad.add (i.toNat * 6 + j)) = some u := hc0
  obtain ⟨A4, c4, rfl, l4, g4⟩ := k39_open hK
  exact ⟨ad, A4, c4, e, hc 0 _ rfl, by rw [← add_field _ _ 1 (by omega)]; exact hc 1 _ rfl, by rw [← add_field _ _ 2 (by omega)]; exact hc 2 _ rfl, by rw [← add_field _ _ 3 (by omega)]; exact hc 3 _ rfl, by rw [← add_field _ _ 4 (by omega)]; exact hc 4 _ rfl, by rw [← add_field _ _ 5 (by omega)]; exact hc 5 _ rfl, l4, g4⟩

/-! #### struct type 41 -/
structure S41 where
  f0 : ByteArray
  f1 : Int
  f2 : Int
  f3 : S39
def z41 : S41 := ⟨(⟨#[]⟩ : ByteArray), (0 : Int), (0 : Int), z39⟩
def k41 : Kd S41 := Kd.iso (Kd.pair Kd.string (Kd.pair (Kd.int .i64) (Kd.pair (Kd.int .i64) k39))) (fun x : S41 => (x.f0, x.f1, x.f2, x.f3))
theorem k41_heap : Kd.Heap k41 := Kd.heap_iso _ (Kd.heap_pair Kd.heap_string (Kd.heap_pair (Kd.heap_int .i64) (Kd.heap_pair (Kd.heap_int .i64) k39_heap)))
theorem k41_open {w : World} {x : S41} {cs : List Value} (h : k41.K w x cs) : ∃ A7 c7, cs = [.string x.f0, .int .i64 x.f1, .int .i64 x.f2, .int .i64 x.f3.f0, .int .i64 x.f3.f1, .int .i64 x.f3.f2, .int .i64 x.f3.f3, .slice A7 x.f3.f4.length c7, .bool x.f3.f5] ∧ x.f3.f4.length ≤ c7 ∧ (Kd.int .i64).C w A7 x.f3.f4.length x.f3.f4 := by
  obtain ⟨_, _, rfl, rfl, ⟨_, _, rfl, rfl, ⟨_, _, rfl, rfl, s3⟩⟩⟩ := h
  obtain ⟨A7, c7, rfl, l7, g7⟩ := k39_open s3
  exact ⟨A7, c7, rfl, l7, g7⟩
theorem k41_openM {w : World} {base : Nat} {ok : Nat → Prop} {x : S41} {cs : List Value} (h : k41.M w base ok x cs) : ∃ v7, cs = [.string x.f0, .int .i64 x.f1, .int .i64 x.f2, .int .i64 x.f3.f0, .int .i64 x.f3.f1, .int .i64 x.f3.f2, .int .i64 x.f3.f3, v7, .bool x.f3.f5] ∧ (Kd.int .i64).R 3 w base ok v7 x.f3.f4 := by
  obtain ⟨_, _, rfl, rfl, ⟨_, _, rfl, rfl, ⟨_, _, rfl, rfl, s3⟩⟩⟩ := h
  obtain ⟨v7, rfl, g7⟩ := k39_openM s3
  exact ⟨v7, rfl, g7⟩
theorem k41_mk (w : World) (x : S41) {A7 : Option Addr} {c7 : Nat} (l7 : x.f3.f4.length ≤ c7) (g7 : (Kd.int .i64).C w A7 x.f3.f4.length x.f3.f4) : k41.K w x [.string x.f0, .int .i64 x.f1, .int .i64 x.f2, .int .i64 x.f3.f0, .int .i64 x.f3.f1, .int .i64 x.f3.f2, .int .i64 x.f3.f3, .slice A7 x.f3.f4.length c7, .bool x.f3.f5] := ⟨[.string x.f0], [.int .i64 x.f1, .int .i64 x.f2, .int .i64 x.f3.f0, .int .i64 x.f3.f1, .int .i64 x.f3.f2, .int .i64 x.f3.f3, .slice A7 x.f3.f4.length c7, .bool x.f3.f5], rfl, rfl, ⟨[.int .i64 x.f1], [.int .i64 x.f2, .int .i64 x.f3.f0, .int .i64 x.f3.f1, .int .i64 x.f3.f2, .int .i64 x.f3.f3, .slice A7 x.f3.f4.length c7, .bool x.f3.f5], rfl, rfl, ⟨[.int .i64 x.f2], [.int .i64 x.f3.f0, .int .i64 x.f3.f1, .int .i64 x.f3.f2, .int .i64 x.f3.f3, .slice A7 x.f3.f4.length c7, .bool x.f3.f5], rfl, rfl, (k39_mk w x.f3 l7 g7)⟩⟩⟩
theorem k41_mkM (w : World) (base : Nat) (ok : Nat → Prop) (x : S41) {v7 : Value} (g7 : (Kd.int .i64).R 3 w base ok v7 x.f3.f4) : k41.M w base ok x [.string x.f0, .int .i64 x.f1, .int .i64 x.f2, .int .i64 x.f3.f0, .int .i64 x.f3.f1, .int .i64 x.f3.f2, .int .i64 x.f3.f3, v7, .bool x.f3.f5] := ⟨[.string x.f0], [.int .i64 x.f1, .int .i64 x.f2, .int .i64 x.f3.f0, .int .i64 x.f3.f1, .int .i64 x.f3.f2, .int .i64 x.f3.f3, v7, .bool x.f3.f5], rfl, rfl, ⟨[.int .i64 x.f1], [.int .i64 x.f2, .int .i64 x.f3.f0, .int .i64 x.f3.f1, .int .i64 x.f3.f2, .int .i64 x.f3.f3, v7, .bool x.f3.f5], rfl, rfl, ⟨[.int .i64 x.f2], [.int .i64 x.f3.f0, .int .i64 x.f3.f1, .int .i64 x.f3.f2, .int .i64 x.f3.f3, v7, .bool x.f3.f5], rfl, rfl, (k39_mkM w base ok x.f3 g7)⟩⟩⟩
theorem k41_openF {W : World} {ok : Nat → Prop} {x : S41} {cs : List Value} (h : Kd.FK k41 W ok x cs) : ∃ A7 c7, cs = [.string x.f0, .int .i64 x.f1, .int .i64 x.f2, .int .i64 x.f3.f0, .int .i64 x.f3.f1, .int .i64 x.f3.f2, .int .i64 x.f3.f3, .slice A7 x.f3.f4.length c7, .bool x.f3.f5] ∧ x.f3.f4.length ≤ c7 ∧ Kd.F (Kd.int .i64) W ok A7 x.f3.f4.length x.f3.f4 := by
  obtain ⟨A7, c7, rfl, l7, _⟩ := k41_open (Kd.FK_now h)
  exact ⟨A7, c7, rfl, l7, (fun W' hW => by obtain ⟨A7_, c7_, he, l7_, g7_⟩ := k41_open (h W' hW); injection (Option.some.inj (show some (Value.slice A7 x.f3.f4.length c7) = some (Value.slice A7_ x.f3.f4.length c7_) from congrArg (fun l => l[7]?) he)) with ha_ _ _; rw [ha_]; exact g7_)⟩
theorem k41_mkF (W : World) (ok : Nat → Prop) (x : S41) {A7 : Option Addr} {c7 : Nat} (l7 : x.f3.f4.length ≤ c7) (g7 : Kd.F (Kd.int .i64) W ok A7 x.f3.f4.length x.f3.f4) : Kd.FK k41 W ok x [.string x.f0, .int .i64 x.f1, .int .i64 x.f2, .int .i64 x.f3.f0, .int .i64 x.f3.f1, .int .i64 x.f3.f2, .int .i64 x.f3.f3, .slice A7 x.f3.f4.length c7, .bool x.f3.f5] := fun W2 hW => k41_mk W2 x l7 (g7 W2 hW)
def rd_T41 (xs : List S41) (i : Int) : S41 := xs.getD i.toNat z41
theorem at_T41 {w : World} {A : Option Addr} {n : Nat} {xs : List S41} (h : Kd.C k41 w A n xs) (i : Int) (h0 : 0 ≤ i) (h1 : i < n) : ∃ ad A7 c7, A = some ad ∧ w.cell? (ad.add (i.toNat * 9)) = some (.string (rd_T41 xs i).f0) ∧ w.cell? ⟨(ad.add (i.toNat * 9)).block, (ad.add (i.toNat * 9)).off + 1, none⟩ = some (.int .i64 (rd_T41 xs i).f1) ∧ w.cell? ⟨(ad.add (i.toNat * 9)).block, (ad.add (i.toNat * 9)).off + 2, none⟩ = some (.int .i64 (rd_T41 xs i).f2) ∧ w.cell? ⟨(ad.add (i.toNat * 9)).block, (ad.add (i.toNat * 9)).off + 3, none⟩ = some (.int .i64 (rd_T41 xs i).f3.f0) ∧ w.cell? ⟨(ad.add (i.toNat * 9)).block, (ad.add (i.toNat * 9)).off + 4, none⟩ = some (.int .i64 (rd_T41 xs i).f3.f1) ∧ w.cell? ⟨(ad.add (i.toNat * 9)).block, (ad.add (i.toNat * 9)).off + 5, none⟩ = some (.int .i64 (rd_T41 xs i).f3.f2) ∧ w.cell? ⟨(ad.add (i.toNat * 9)).block, (ad.add (i.toNat * 9)).off + 6, none⟩ = some (.int .i64 (rd_T41 xs i).f3.f3) ∧ w.cell? ⟨(ad.add (i.toNat * 9)).block, (ad.add (i.toNat * 9)).off + 7, none⟩ = some (.slice A7 (rd_T41 xs i).f3.f4.length c7) ∧ w.cell? ⟨(ad.add (i.toNat * 9)).block, (ad.add (i.toNat * 9)).off + 8, none⟩ = some (.bool (rd_T41 xs i).f3.f5) ∧ (rd_T41 xs i).f3.f4.length ≤ c7 ∧ (Kd.int .i64).C w A7 (rd_T41 xs i).f3.f4.length (rd_T41 xs i).f3.f4 := by
  obtain ⟨ad, c, e, _, hK, hc0⟩ := Kd.C_get h z41 i h0 h1
  have hc : ∀ j u, c[j]? = some u → w.cell? (ad.add (i.toNat * 9 + j)) = some u := hc0
  obtain ⟨A7, c7, rfl, l7, g7⟩ := k41_open hK
  exact ⟨ad, A7, c7, e, hc 0 _ rfl, by rw [← add_field _ _ 1 (by omega)]; exact hc 1 _ rfl, by rw [← add_field _ _ 2 (by omega)]; exact hc 2 _ rfl, by rw [← add_field _ _ 3 (by omega)]; exact hc 3 _ rfl, by rw [← add_field _ _ 4 (by omega)]; exact hc 4 _ rfl, by rw [← add_field _ _ 5 (by omega)]; exact hc 5 _ rfl, by rw [← add_field _ _ 6 (by omega)]; exact hc 6 _ rfl, by rw [← add_field _ _ 7 (by omega)]; exact hc 7 _ rfl, by rw [← add_field _ _ 8 (by omega)]; exact hc 8 _ rfl, l7, g7⟩

/-! #### struct type 26 -/
structure S26 where
  f0 : Int
  f1 : Int
  f2 : Int
  f3 : Int
  f4 : (List Int)
  f5 : Bool
def z26 : S26 := ⟨(0 : Int), (0 : Int), (0 : Int), (0 : Int), ([] : List Int), false⟩
def k26 : Kd S26 := Kd.iso (Kd.pair (Kd.int .i64) (Kd.pair (Kd.int .i64) (Kd.pair (Kd.int .i64) (Kd.pair (Kd.int .i64) (Kd.pair (Kd.slice 3 (Kd.int .i64)) Kd.bool))))) (fun x : S26 => (x.f0, x.f1, x.f2, x.f3, x.f4, x.f5))
theorem k26_heap : Kd.Heap k26 := Kd.heap_iso _ (Kd.heap_pair (Kd.heap_int .i64) (Kd.heap_pair (Kd.heap_int .i64) (Kd.heap_pair (Kd.heap_int .i64) (Kd.heap_pair (Kd.heap_int .i64) (Kd.heap_pair (Kd.heap_slice 3 (Kd.heap_int .i64)) Kd.heap_bool)))))
theorem k26_open {w : World} {x : S26} {cs : List Value} (h : k26.K w x cs) : ∃ A4 c4, cs = [.int .i64 x.f0, .int .i64 x.f1, .int .i64 x.f2, .int .i64 x.f3, .slice A4 x.f4.length c4, .bool x.f5] ∧ x.f4.length ≤ c4 ∧ (Kd.int .i64).C w A4 x.f4.length x.f4 := by
  obtain ⟨_, _, rfl, rfl, ⟨_, _, rfl, rfl, ⟨_, _, rfl, rfl, ⟨_, _, rfl, rfl, ⟨_, _, rfl, ⟨A4, c4, rfl, l4, g4⟩, rfl⟩⟩⟩⟩⟩ := h
  exact ⟨A4, c4, rfl, l4, g4⟩
theorem k26_openM {w : World} {base : Nat} {ok : Nat → Prop} {x : S26} {cs : List Value} (h : k26.M w base ok x cs) : ∃ v4, cs = [.int .i64 x.f0, .int .i64 x.f1, .int .i64 x.f2, .int .i64 x.f3, v4, .bool x.f5] ∧ (Kd.int .i64).R 3 w base ok v4 x.f4 := by
  obtain ⟨_, _, rfl, rfl, ⟨_, _, rfl, rfl, ⟨_, _, rfl, rfl, ⟨_, _, rfl, rfl, ⟨_, _, rfl, ⟨v4, rfl, g4⟩, rfl⟩⟩⟩⟩⟩ := h
  exact ⟨v4, rfl, g4⟩
theorem k26_mk (w : World) (x : S26) {A4 : Option Addr} {c4 : Nat} (l4 : x.f4.length ≤ c4) (g4 : (Kd.int .i64).C w A4 x.f4.length x.f4) : k26.K w x [.int .i64 x.f0, .int .i64 x.f1, .int .i64 x.f2, .int .i64 x.f3, .slice A4 x.f4.length c4, .bool x.f5] := ⟨[.int .i64 x.f0], [.int .i64 x.f1, .int .i64 x.f2, .int .i64 x.f3, .slice A4 x.f4.length c4, .bool x.f5], rfl, rfl, ⟨[.int .i64 x.f1], [.int .i64 x.f2, .int .i64 x.f3, .slice A4 x.f4.length c4, .bool x.f5], rfl, rfl, ⟨[.int .i64 x.f2], [.int .i64 x.f3, .slice A4 x.f4.length c4, .bool x.f5], rfl, rfl, ⟨[.int .i64 x.f3], [.slice A4 x.f4.length c4, .bool x.f5], rfl, rfl, ⟨[.slice A4 x.f4.length c4], [.bool x.f5], rfl, ⟨A4, c4, rfl, l4, g4⟩, rfl⟩⟩⟩⟩⟩
theorem k26_mkM (w : World) (base : Nat) (ok : Nat → Prop) (x : S26) {v4 : Value} (g4 : (Kd.int .i64).R 3 w base ok v4 x.f4) : k26.M w base ok x [.int .i64 x.f0, .int .i64 x.f1, .int .i64 x.f2, .int .i64 x.f3, v4, .bool x.f5] := ⟨[.int .i64 x.f0], [.int .i64 x.f1, .int .i64 x.f2, .int .i64 x.f3, v4, .bool x.f5], rfl, rfl, ⟨[.int .i64 x.f1], [.int .i64 x.f2, .int .i64 x.f3, v4, .bool x.f5], rfl, rfl, ⟨[.int .i64 x.f2], [.int .i64 x.f3, v4, .bool x.f5], rfl, rfl, ⟨[.int .i64 x.f3], [v4, .bool x.f5], rfl, rfl, ⟨[v4], [.bool x.f5], rfl, ⟨v4, rfl, g4⟩, rfl⟩⟩⟩⟩⟩
theorem k26_openF {W : World} {ok : Nat → Prop} {x : S26} {cs : List Value} (h : Kd.FK k26 W ok x cs) : ∃ A4 c4, cs = [.int .i64 x.f0, .int .i64 x.f1, .int .i64 x.f2, .int .i64 x.f3, .slice A4 x.f4.length c4, .bool x.f5] ∧ x.f4.length ≤ c4 ∧ Kd.F (Kd.int .i64) W ok A4 x.f4.length x.f4 := by
  obtain ⟨A4, c4, rfl, l4, _⟩ := k26_open (Kd.FK_now h)
  exact ⟨A4, c4, rfl, l4, (fun W' hW => by obtain ⟨A4_, c4_, he, l4_, g4_⟩ := k26_open (h W' hW); injection (Option.some.inj (show some (Value.slice A4 x.f4.length c4) = some (Value.slice A4_ x.f4.length c4_) from congrArg (fun l => l[4]?) he)) with ha_ _ _; rw [ha_]; exact g4_)⟩
theorem k26_mkF (W : World) (ok : Nat → Prop) (x : S26) {A4 : Option Addr} {c4 : Nat} (l4 : x.f4.length ≤ c4) (g4 : Kd.F (Kd.int .i64) W ok A4 x.f4.length x.f4) : Kd.FK k26 W ok x [.int .i64 x.f0, .int .i64 x.f1, .int .i64 x.f2, .int .i64 x.f3, .slice A4 x.f4.length c4, .bool x.f5] := fun W2 hW => k26_mk W2 x l4 (g4 W2 hW)
def rd_T26 (xs : List S26) (i : Int) : S26 := xs.getD i.toNat z26
theorem at_T26 {w : World} {A : Option Addr} {n : Nat} {xs : List S26} (h : Kd.C k26 w A n xs) (i : Int) (h0 : 0 ≤ i) (h1 : i < n) : ∃ ad A4 c4, A = some ad ∧ w.cell? (ad.add (i.toNat * 6)) = some (.int .i64 (rd_T26 xs i).f0) ∧ w.cell? ⟨(ad.add (i.toNat * 6)).block, (ad.add (i.toNat * 6)).off + 1, none⟩ = some (.int .i64 (rd_T26 xs i).f1) ∧ w.cell? ⟨(ad.add (i.toNat * 6)).block, (ad.add (i.toNat * 6)).off + 2, none⟩ = some (.int .i64 (rd_T26 xs i).f2) ∧ w.cell? ⟨(ad.add (i.toNat * 6)).block, (ad.add (i.toNat * 6)).off + 3, none⟩ = some (.int .i64 (rd_T26 xs i).f3) ∧ w.cell? ⟨(ad.add (i.toNat * 6)).block, (ad.add (i.toNat * 6)).off + 4, none⟩ = some (.slice A4 (rd_T26 xs i).f4.length c4) ∧ w.cell? ⟨(ad.add (i.toNat * 6)).block, (ad.add (i.toNat * 6)).off + 5, none⟩ = some (.bool (rd_T26 xs i).f5) ∧ (rd_T26 xs i).f4.length ≤ c4 ∧ (Kd.int .i64).C w A4 (rd_T26 xs i).f4.length (rd_T26 xs i).f4 := by
  obtain ⟨ad, c, e, _, hK, hc0⟩ := Kd.C_get h z26 i h0 h1
  have hc : ∀ j u, c[j]? = some u → w.cell? (ad.add (i.toNat * 6 + j)) = some u := hc0
  obtain ⟨A4, c4, rfl, l4, g4⟩ := k26_open hK
  exact ⟨ad, A4, c4, e, hc 0 _ rfl, by rw [← add_field _ _ 1 (by omega)]; exact hc 1 _ rfl, by rw [← add_field _ _ 2 (by omega)]; exact hc 2 _ rfl, by rw [← add_field _ _ 3 (by omega)]; exact hc 3 _ rfl, by rw [← add_field _ _ 4 (by omega)]; exact hc 4 _ rfl, by rw [← add_field _ _ 5 (by omega)]; exact hc 5 _ rfl, l4, g4⟩

/-! #### struct type 45 -/
structure S45 where
  f0 : ByteArray
  f1 : Int
  f2 : Int
  f3 : S26
def z45 : S45 := ⟨(⟨#[]⟩ : ByteArray), (0 : Int), (0 : Int), z26⟩
def k45 : Kd S45 := Kd.iso (Kd.pair Kd.string (Kd.pair (Kd.int .i64) (Kd.pair (Kd.int .i64) k26))) (fun x : S45 => (x.f0, x.f1, x.f2, x.f3))
theorem k45_heap : Kd.Heap k45 := Kd.heap_iso _ (Kd.heap_pair Kd.heap_string (Kd.heap_pair (Kd.heap_int .i64) (Kd.heap_pair (Kd.heap_int .i64) k26_heap)))
theorem k45_open {w : World} {x : S45} {cs : List Value} (h : k45.K w x cs) : ∃ A7 c7, cs = [.string x.f0, .int .i64 x.f1, .int .i64 x.f2, .int .i64 x.f3.f0, .int .i64 x.f3.f1, .int .i64 x.f3.f2, .int .i64 x.f3.f3, .slice A7 x.f3.f4.length c7, .bool x.f3.f5] ∧ x.f3.f4.length ≤ c7 ∧ (Kd.int .i64).C w A7 x.f3.f4.length x.f3.f4 := by
  obtain ⟨_, _, rfl, rfl, ⟨_, _, rfl, rfl, ⟨_, _, rfl, rfl, s3⟩⟩⟩ := h
  obtain ⟨A7, c7, rfl, l7, g7⟩ := k26_open s3
  exact ⟨A7, c7, rfl, l7, g7⟩
theorem k45_openM {w : World} {base : Nat} {ok : Nat → Prop} {x : S45} {cs : List Value} (h : k45.M w base ok x cs) : ∃ v7, cs = [.string x.f0, .int .i64 x.f1, .int .i64 x.f2, .int .i64 x.f3.f0, .int .i64 x.f3.f1, .int .i64 x.f3.f2, .int .i64 x.f3.f3, v7, .bool x.f3.f5] ∧ (Kd.int .i64).R 3 w base ok v7 x.f3.f4 := by
  obtain ⟨_, _, rfl, rfl, ⟨_, _, rfl, rfl, ⟨_, _, rfl, rfl, s3⟩⟩⟩ := h
  obtain ⟨v7, rfl, g7⟩ := k26_openM s3
  exact ⟨v7, rfl, g7⟩
theorem k45_mk (w : World) (x : S45) {A7 : Option Addr} {c7 : Nat} (l7 : x.f3.f4.length ≤ c7) (g7 : (Kd.int .i64).C w A7 x.f3.f4.length x.f3.f4) : k45.K w x [.string x.f0, .int .i64 x.f1, .int .i64 x.f2, .int .i64 x.f3.f0, .int .i64 x.f3.f1, .int .i64 x.f3.f2, .int .i64 x.f3.f3, .slice A7 x.f3.f4.length c7, .bool x.f3.f5] := ⟨[.string x.f0], [.int .i64 x.f1, .int .i64 x.f2, .int .i64 x.f3.f0, .int .i64 x.f3.f1, .int .i64 x.f3.f2, .int .i64 x.f3.f3, .slice A7 x.f3.f4.length c7, .bool x.f3.f5], rfl, rfl, ⟨[.int .i64 x.f1], [.int .i64 x.f2, .int .i64 x.f3.f0, .int .i64 x.f3.f1, .int .i64 x.f3.f2, .int .i64 x.f3.f3, .slice A7 x.f3.f4.length c7, .bool x.f3.f5], rfl, rfl, ⟨[.int .i64 x.f2], [.int .i64 x.f3.f0, .int .i64 x.f3.f1, .int .i64 x.f3.f2, .int .i64 x.f3.f3, .slice A7 x.f3.f4.length c7, .bool x.f3.f5], rfl, rfl, (k26_mk w x.f3 l7 g7)⟩⟩⟩
theorem k45_mkM (w : World) (base : Nat) (ok : Nat → Prop) (x : S45) {v7 : Value} (g7 : (Kd.int .i64).R 3 w base ok v7 x.f3.f4) : k45.M w base ok x [.string x.f0, .int .i64 x.f1, .int .i64 x.f2, .int .i64 x.f3.f0, .int .i64 x.f3.f1, .int .i64 x.f3.f2, .int .i64 x.f3.f3, v7, .bool x.f3.f5] := ⟨[.string x.f0], [.int .i64 x.f1, .int .i64 x.f2, .int .i64 x.f3.f0, .int .i64 x.f3.f1, .int .i64 x.f3.f2, .int .i64 x.f3.f3, v7, .bool x.f3.f5], rfl, rfl, ⟨[.int .i64 x.f1], [.int .i64 x.f2, .int .i64 x.f3.f0, .int .i64 x.f3.f1, .int .i64 x.f3.f2, .int .i64 x.f3.f3, v7, .bool x.f3.f5], rfl, rfl, ⟨[.int .i64 x.f2], [.int .i64 x.f3.f0, .int .i64 x.f3.f1, .int .i64 x.f3.f2, .int .i64 x.f3.f3, v7, .bool x.f3.f5], rfl, rfl, (k26_mkM w base ok x.f3 g7)⟩⟩⟩
theorem k45_openF {W : World} {ok : Nat → Prop} {x : S45} {cs : List Value} (h : Kd.FK k45 W ok x cs) : ∃ A7 c7, cs = [.string x.f0, .int .i64 x.f1, .int .i64 x.f2, .int .i64 x.f3.f0, .int .i64 x.f3.f1, .int .i64 x.f3.f2, .int .i64 x.f3.f3, .slice A7 x.f3.f4.length c7, .bool x.f3.f5] ∧ x.f3.f4.length ≤ c7 ∧ Kd.F (Kd.int .i64) W ok A7 x.f3.f4.length x.f3.f4 := by
  obtain ⟨A7, c7, rfl, l7, _⟩ := k45_open (Kd.FK_now h)
  exact ⟨A7, c7, rfl, l7, (fun W' hW => by obtain ⟨A7_, c7_, he, l7_, g7_⟩ := k45_open (h W' hW); injection (Option.some.inj (show some (Value.slice A7 x.f3.f4.length c7) = some (Value.slice A7_ x.f3.f4.length c7_) from congrArg (fun l => l[7]?) he)) with ha_ _ _; rw [ha_]; exact g7_)⟩
theorem k45_mkF (W : World) (ok : Nat → Prop) (x : S45) {A7 : Option Addr} {c7 : Nat} (l7 : x.f3.f4.length ≤ c7) (g7 : Kd.F (Kd.int .i64) W ok A7 x.f3.f4.length x.f3.f4) : Kd.FK k45 W ok x [.string x.f0, .int .i64 x.f1, .int .i64 x.f2, .int .i64 x.f3.f0, .int .i64 x.f3.f1, .int .i64 x.f3.f2, .int .i64 x.f3.f3, .slice A7 x.f3.f4.length c7, .bool x.f3.f5] := fun W2 hW => k45_mk W2 x l7 (g7 W2 hW)
def rd_T45 (xs : List S45) (i : Int) : S45 := xs.getD i.toNat z45
theorem at_T45 {w : World} {A : Option Addr} {n : Nat} {xs : List S45} (h : Kd.C k45 w A n xs) (i : Int) (h0 : 0 ≤ i) (h1 : i < n) : ∃ ad A7 c7, A = some ad ∧ w.cell? (ad.add (i.toNat * 9)) = some (.string (rd_T45 xs i).f0) ∧ w.cell? ⟨(ad.add (i.toNat * 9)).block, (ad.add (i.toNat * 9)).off + 1, none⟩ = some (.int .i64 (rd_T45 xs i).f1) ∧ w.cell? ⟨(ad.add (i.toNat * 9)).block, (ad.add (i.toNat * 9)).off + 2, none⟩ = some (.int .i64 (rd_T45 xs i).f2) ∧ w.cell? ⟨(ad.add (i.toNat * 9)).block, (ad.add (i.toNat * 9)).off + 3, none⟩ = some (.int .i64 (rd_T45 xs i).f3.f0) ∧ w.cell? ⟨(ad.add (i.toNat * 9)).block, (ad.add (i.toNat * 9)).off + 4, none⟩ = some (.int .i64 (rd_T45 xs i).f3.f1) ∧ w.cell? ⟨(ad.add (i.toNat * 9)).block, (ad.add (i.toNat * 9)).off + 5, none⟩ = some (.int .i64 (rd_T45 xs i).f3.f2) ∧ w.cell? ⟨(ad.add (i.toNat * 9)).block, (ad.add (i.toNat * 9)).off + 6, none⟩ = some (.int .i64 (rd_T45 xs i).f3.f3) ∧ w.cell? ⟨(ad.add (i.toNat * 9)).block, (ad.add (i.toNat * 9)).off + 7, none⟩ = some (.slice A7 (rd_T45 xs i).f3.f4.length c7) ∧ w.cell? ⟨(ad.add (i.toNat * 9)).block, (ad.add (i.toNat * 9)).off + 8, none⟩ = some (.bool (rd_T45 xs i).f3.f5) ∧ (rd_T45 xs i).f3.f4.length ≤ c7 ∧ (Kd.int .i64).C w A7 (rd_T45 xs i).f3.f4.length (rd_T45 xs i).f3.f4 := by
  obtain ⟨ad, c, e, _, hK, hc0⟩ := Kd.C_get h z45 i h0 h1
  have hc : ∀ j u, c[j]? = some u → w.cell? (ad.add (i.toNat * 9 + j)) = some u := hc0
  obtain ⟨A7, c7, rfl, l7, g7⟩ := k45_open hK
  exact ⟨ad, A7, c7, e, hc 0 _ rfl, by rw [← add_field _ _ 1 (by omega)]; exact hc 1 _ rfl, by rw [← add_field _ _ 2 (by omega)]; exact hc 2 _ rfl, by rw [← add_field _ _ 3 (by omega)]; exact hc 3 _ rfl, by rw [← add_field _ _ 4 (by omega)]; exact hc 4 _ rfl, by rw [← add_field _ _ 5 (by omega)]; exact hc 5 _ rfl, by rw [← add_field _ _ 6 (by omega)]; exact hc 6 _ rfl, by rw [← add_field _ _ 7 (by omega)]; exact hc 7 _ rfl, by rw [← add_field _ _ 8 (by omega)]; exact hc 8 _ rfl, l7, g7⟩

def rd_L9 (xs : List (List S45)) (i : Int) : (List S45) := xs.getD i.toNat ([] : List S45)
theorem at_L9 {w : World} {A : Option Addr} {n : Nat} {xs : List (List S45)} (h : Kd.C (Kd.slice 45 k45) w A n xs) (i : Int) (h0 : 0 ≤ i) (h1 : i < n) : ∃ ad A0 c0, A = some ad ∧ w.cell? (ad.add i.toNat) = some (.slice A0 (rd_L9 xs i).length c0) ∧ (rd_L9 xs i).length ≤ c0 ∧ k45.C w A0 (rd_L9 xs i).length (rd_L9 xs i) := by
  obtain ⟨ad, c, e, _, hK, hc0⟩ := Kd.C_get h ([] : List S45) i h0 h1
  have hc : ∀ j u, c[j]? = some u → w.cell? (ad.add (i.toNat * 1 + j)) = some u := hc0
  obtain ⟨A0, c0, rfl, l0, g0⟩ := hK
  exact ⟨ad, A0, c0, e, by have hq := hc 0 _ rfl; rwa [Nat.mul_one, Nat.add_zero] at hq, l0, g0⟩

end Go.Proofs.Ytdkokfnnebdppaa.P

/- What lies in one stretch of memory stays, whatever is done elsewhere. No conditions. -/
namespace Go.Proofs.Ytdkokfnnebdppaa.P
open Go.RowKit Go.Proofs.YtdkokfnnebdppaaW.PrintWords Go.Proofs.YtdkokfnnebdppaaW.PrintLast Go.Proofs.YtdkokfnnebdppaaW.PrintMore
section
variable {α : Type} {d : Kd α} {e lo hi lo' hi' b : Nat} {w W W' : World} {S : Nat → Prop} {F G : World → Prop} {v : Value} {l l' : List α}
/-- F is told of W by its blocks lo .. hi alone. -/
def Loc (lo hi : Nat) (F : World → Prop) (W : World) : Prop := hi ≤ W.heap.size ∧ ∀ W' : World, hi ≤ W'.heap.size → (∀ k, lo ≤ k → k < hi → W'.heap[k]? = W.heap[k]?) → F W'
theorem Loc.now (h : Loc lo hi F W) : F W := h.2 W h.1 (fun _ _ _ => rfl)
theorem Loc.step (h : Loc lo hi F W) (hs : hi ≤ W'.heap.size) (hk : ∀ k, lo ≤ k → k < hi → W'.heap[k]? = W.heap[k]?) : Loc lo hi F W' :=
  ⟨hs, fun W2 h2 hk2 => h.2 W2 h2 (fun k h0 h1 => (hk2 k h0 h1).trans (hk k h0 h1))⟩
theorem Loc.below (h : Loc lo hi F W) (hb : Below W.heap.size W W') : Loc lo hi F W' := h.step (Nat.le_trans h.1 hb.size) (fun k _ h1 => hb.block k (Nat.lt_of_lt_of_le h1 h.1))
theorem Loc.kept (h : Loc lo hi F W) (hk : Kept W W' S) (hn : ∀ k, lo ≤ k → k < hi → ¬ S k) : Loc lo hi F W' := h.step (Nat.le_trans h.1 hk.1) (fun k h0 h1 => hk.2 k (Nat.lt_of_lt_of_le h1 h.1) (hn k h0 h1))
/-- .. where another stretch is written. -/
theorem Loc.apart (h : Loc lo hi F W) (hk : Kept W W' (fun k => lo' ≤ k ∧ k < hi')) (hn : hi ≤ lo' ∨ hi' ≤ lo) : Loc lo hi F W' := h.kept hk (fun k h0 h1 hs => by omega)
theorem Loc.box {o : Obj} (h : W.heap[b]? = some o) : Loc b (b + 1) (fun W => W.heap[b]? = some o) W :=
  ⟨(Array.getElem?_eq_some_iff.1 h).1, fun W' _ hk => (hk b (Nat.le_refl _) (by omega)).trans h⟩
theorem Loc.ofS (hh : hi ≤ W.heap.size) (h : Kd.S d e W w.heap.size (fun k => lo ≤ k ∧ k < hi) v l) : Loc lo hi (fun W => Kd.S d e W w.heap.size (fun k => lo ≤ k ∧ k < hi) v l) W :=
  ⟨hh, fun _ _ hk => Kd.S_move h (fun k hs => hk k hs.1 hs.2)⟩
theorem Loc.ofR (hh : hi ≤ W.heap.size) (h : Kd.R d e W w.heap.size (fun k => lo ≤ k ∧ k < hi) v l) : Loc lo hi (fun W => Kd.R d e W w.heap.size (fun k => lo ≤ k ∧ k < hi) v l) W :=
  ⟨hh, fun _ _ hk => Kd.R_move (Kd.R_bound h) (fun k hs => hk k hs.1.1 hs.1.2) |> fun h => Kd.R_mono h (fun _ hk => hk.1)⟩
/-- What a call has made. -/
theorem Loc.newS (hs : Kd.S d e W' W.heap.size (fun _ => True) v l) (hB : Below w.heap.size w W) : ∃ lo hi, lo = W.heap.size ∧ Loc lo hi (fun W => Kd.S d e W w.heap.size (fun k => lo ≤ k ∧ k < hi) v l) W' ∧ hi = W'.heap.size :=
  ⟨_, _, rfl, Loc.ofS (Nat.le_refl _) (Kd.S_mono (Kd.S_lower (Kd.S_bound hs) hB.size) (fun _ hk => ⟨hk.2.1, hk.2.2.1⟩)), rfl⟩
theorem Loc.newR (hs : Kd.R d e W' W.heap.size (fun _ => True) v l) (hB : Below w.heap.size w W) : ∃ lo hi, lo = W.heap.size ∧ Loc lo hi (fun W => Kd.R d e W w.heap.size (fun k => lo ≤ k ∧ k < hi) v l) W' ∧ hi = W'.heap.size :=
  ⟨_, _, rfl, Loc.ofR (Nat.le_refl _) (Kd.R_mono (Kd.R_lower (Kd.R_bound hs) hB.size) (fun _ hk => ⟨hk.2.1, hk.2.2.1⟩)), rfl⟩
theorem Loc.ofV (hh : hi ≤ W.heap.size) (h : Kd.V d e W w.heap.size (fun k => lo ≤ k ∧ k < hi) v l) : Loc lo hi (fun W => Kd.V d e W w.heap.size (fun k => lo ≤ k ∧ k < hi) v l) W :=
  ⟨hh, fun _ _ hk => Kd.V_step h (fun k hs _ => hk k hs.1 hs.2)⟩
/-- What a call has made of an elder stretch and of new blocks. -/
theorem Loc.newN {b : Nat} (hA : Loc lo hi F W) (hlo : lo ≤ hi) (hs : Kd.N d e W' b (fun k => ((lo ≤ k ∧ k < hi) ∨ W.heap.size ≤ k)) v l) (hb : Below W.heap.size W W') :
    ∃ hi', Loc lo hi' (fun W => Kd.V d e W w.heap.size (fun k => lo ≤ k ∧ k < hi') v l) W' ∧ hi' = W'.heap.size ∧ lo ≤ hi' :=
  ⟨_, Loc.ofV (Nat.le_refl _) (Kd.V_mono (Kd.V_bound (Kd.N_V hs)) (fun k hk => ⟨by rcases hk.1 with h | h; exact h.1; exact Nat.le_trans hlo (Nat.le_trans hA.1 h), hk.2⟩)), rfl, Nat.le_trans hlo (Nat.le_trans hA.1 hb.size)⟩
/-- .. of two elder stretches, one behind the other, and of new blocks. -/
theorem Loc.newN2 {b lo2 hi2 : Nat} (hA : Loc lo hi F W) (_ : Loc lo2 hi2 G W) (hlo : lo ≤ hi) (h12 : hi ≤ lo2) (_ : lo2 ≤ hi2) (hs : Kd.N d e W' b (fun k => (((lo ≤ k ∧ k < hi) ∨ (lo2 ≤ k ∧ k < hi2)) ∨ W.heap.size ≤ k)) v l) (hb : Below W.heap.size W W') :
    ∃ hi', Loc lo hi' (fun W => Kd.V d e W w.heap.size (fun k => lo ≤ k ∧ k < hi') v l) W' ∧ hi' = W'.heap.size ∧ lo ≤ hi' :=
  ⟨_, Loc.ofV (Nat.le_refl _) (Kd.V_mono (Kd.V_bound (Kd.N_V hs)) (fun k hk => ⟨by rcases hk.1 with (h | h) | h; exact h.1; omega; exact Nat.le_trans hlo (Nat.le_trans hA.1 h), hk.2⟩)), rfl, Nat.le_trans hlo (Nat.le_trans hA.1 hb.size)⟩
theorem Loc.readsV {A : Option Addr} {n c : Nat} (h : Loc lo hi (fun W => Kd.V d e W w.heap.size (fun k => lo ≤ k ∧ k < hi) (.slice A n c) l) W) : n = l.length ∧ l.length ≤ c ∧ d.C W A l.length l := by
  obtain ⟨h1, h2, h3⟩ := Kd.V_reads' h.now
  exact ⟨h1, by omega, h3⟩
theorem Loc.size (h : Loc lo hi F W) : hi ≤ W.heap.size := h.1
/-- A row's slice, and how it is read. -/
theorem Loc.readsS {A : Option Addr} {n c : Nat} (h : Loc lo hi (fun W => Kd.S d e W w.heap.size (fun k => lo ≤ k ∧ k < hi) (.slice A n c) l) W) : n = l.length ∧ l.length ≤ c ∧ d.C W A l.length l := by
  obtain ⟨h1, h2, h3⟩ := Kd.S_reads' h.now
  exact ⟨h1, by omega, h3⟩
theorem Loc.readsR {A : Option Addr} {n c : Nat} (h : Loc lo hi (fun W => Kd.R d e W w.heap.size (fun k => lo ≤ k ∧ k < hi) (.slice A n c) l) W) : n = l.length ∧ l.length ≤ c ∧ d.C W A l.length l := by
  obtain ⟨h1, h2, h3⟩ := Kd.R_reads' h.now
  exact ⟨h1, by omega, h3⟩
/-- Block b alone is written. -/
def Only (W W' : World) (b : Nat) : Prop := W'.os = W.os ∧ W'.tape = W.tape ∧ W'.output = W.output ∧ W'.heap.size = W.heap.size ∧ ∀ k, k ≠ b → W'.heap[k]? = W.heap[k]?
theorem Only.refl (W : World) (b : Nat) : Only W W b := ⟨rfl, rfl, rfl, rfl, fun _ _ => rfl⟩
theorem Only.set {i : Nat} {u : Value} (h : Only W W' b) : Only W (W'.setCell ⟨b, i, none⟩ u) b :=
  ⟨h.1, h.2.1, h.2.2.1, (by simpa [World.setCell] using h.2.2.2.1), fun k hk => (Below.heap_setCell W' ⟨b, i, none⟩ u k hk).trans (h.2.2.2.2 k hk)⟩
theorem Loc.only (h : Loc lo hi F W) (ho : Only W W' b) (hn : hi ≤ b) : Loc lo hi F W' := h.step (by rw [ho.2.2.2.1]; exact h.1) (fun k _ h1 => ho.2.2.2.2 k (by omega))
theorem Loc.only2 (h : Loc lo hi F W) (ho : Only W W' b) (hn : b + 1 ≤ lo ∨ hi ≤ b) : Loc lo hi F W' := h.step (by rw [ho.2.2.2.1]; exact h.1) (fun k h0 h1 => ho.2.2.2.2 k (by omega))
theorem blk_put4 {g : Nat} {t : TypeId} {a0 a1 a2 a3 x0 x1 x2 x3 : Value} (h : W.heap[g]? = some (.cells #[a0, a1, a2, a3] t (0, 0))) :
    ((((W.setCell ⟨g, 0, none⟩ x0).setCell ⟨g, 1, none⟩ x1).setCell ⟨g, 2, none⟩ x2).setCell ⟨g, 3, none⟩ x3).heap[g]? = some (.cells #[x0, x1, x2, x3] t (0, 0)) := blk_set (blk_set (blk_set (blk_set h 0 x0) 1 x1) 2 x2) 3 x3
theorem blk_put4_2 {g : Nat} {t : TypeId} {a0 a1 a2 a3 x2 : Value} (h : W.heap[g]? = some (.cells #[a0, a1, a2, a3] t (0, 0))) :
    (W.setCell ⟨g, 2, none⟩ x2).heap[g]? = some (.cells #[a0, a1, x2, a3] t (0, 0)) := blk_set h 2 x2
theorem blk_put6 {g : Nat} {t : TypeId} {a0 a1 a2 a3 a4 a5 x0 x1 x2 x3 x4 x5 : Value} (h : W.heap[g]? = some (.cells #[a0, a1, a2, a3, a4, a5] t (0, 0))) :
    ((((((W.setCell ⟨g, 0, none⟩ x0).setCell ⟨g, 1, none⟩ x1).setCell ⟨g, 2, none⟩ x2).setCell ⟨g, 3, none⟩ x3).setCell ⟨g, 4, none⟩ x4).setCell ⟨g, 5, none⟩ x5).heap[g]? = some (.cells #[x0, x1, x2, x3, x4, x5] t (0, 0)) := by
  have h0 : (W.setCell ⟨g, 0, none⟩ x0).heap[g]? = some (.cells #[x0, a1, a2, a3, a4, a5] t (0, 0)) := by
    have q := blk_set h 0 x0
    simp only [List.setIfInBounds_toArray, List.set_cons_zero] at q
    exact q
  have h1 : ((W.setCell ⟨g, 0, none⟩ x0).setCell ⟨g, 1, none⟩ x1).heap[g]? = some (.cells #[x0, x1, a2, a3, a4, a5] t (0, 0)) := by
    have q := blk_set h0 1 x1
    simp only [List.setIfInBounds_toArray, List.set_cons_zero, List.set_cons_succ] at q
    exact q
  have h2 : (((W.setCell ⟨g, 0, none⟩ x0).setCell ⟨g, 1, none⟩ x1).setCell ⟨g, 2, none⟩ x2).heap[g]? = some (.cells #[x0, x1, x2, a3, a4, a5] t (0, 0)) := by
    have q := blk_set h1 2 x2
    simp only [List.setIfInBounds_toArray, List.set_cons_zero, List.set_cons_succ] at q
    exact q
  have h3 : ((((W.setCell ⟨g, 0, none⟩ x0).setCell ⟨g, 1, none⟩ x1).setCell ⟨g, 2, none⟩ x2).setCell ⟨g, 3, none⟩ x3).heap[g]? = some (.cells #[x0, x1, x2, x3, a4, a5] t (0, 0)) := by
    have q := blk_set h2 3 x3
    simp only [List.setIfInBounds_toArray, List.set_cons_zero, List.set_cons_succ] at q
    exact q
  have h4 : (((((W.setCell ⟨g, 0, none⟩ x0).setCell ⟨g, 1, none⟩ x1).setCell ⟨g, 2, none⟩ x2).setCell ⟨g, 3, none⟩ x3).setCell ⟨g, 4, none⟩ x4).heap[g]? = some (.cells #[x0, x1, x2, x3, x4, a5] t (0, 0)) := by
    have q := blk_set h3 4 x4
    simp only [List.setIfInBounds_toArray, List.set_cons_zero, List.set_cons_succ] at q
    exact q
  have h5 : ((((((W.setCell ⟨g, 0, none⟩ x0).setCell ⟨g, 1, none⟩ x1).setCell ⟨g, 2, none⟩ x2).setCell ⟨g, 3, none⟩ x3).setCell ⟨g, 4, none⟩ x4).setCell ⟨g, 5, none⟩ x5).heap[g]? = some (.cells #[x0, x1, x2, x3, x4, x5] t (0, 0)) := by
    have q := blk_set h4 5 x5
    simp only [List.setIfInBounds_toArray, List.set_cons_zero, List.set_cons_succ] at q
    exact q
  exact h5
theorem blk_put9 {g : Nat} {t : TypeId} {a0 a1 a2 a3 a4 a5 a6 a7 a8 x0 x1 x2 x3 x4 x5 x6 x7 x8 : Value} (h : W.heap[g]? = some (.cells #[a0, a1, a2, a3, a4, a5, a6, a7, a8] t (0, 0))) :
    (((((((((W.setCell ⟨g, 0, none⟩ x0).setCell ⟨g, 1, none⟩ x1).setCell ⟨g, 2, none⟩ x2).setCell ⟨g, 3, none⟩ x3).setCell ⟨g, 4, none⟩ x4).setCell ⟨g, 5, none⟩ x5).setCell ⟨g, 6, none⟩ x6).setCell ⟨g, 7, none⟩ x7).setCell ⟨g, 8, none⟩ x8).heap[g]? = some (.cells #[x0, x1, x2, x3, x4, x5, x6, x7, x8] t (0, 0)) := by
  have h0 : (W.setCell ⟨g, 0, none⟩ x0).heap[g]? = some (.cells #[x0, a1, a2, a3, a4, a5, a6, a7, a8] t (0, 0)) := by
    have q := blk_set h 0 x0
    simp only [List.setIfInBounds_toArray, List.set_cons_zero] at q
    exact q
  have h1 : ((W.setCell ⟨g, 0, none⟩ x0).setCell ⟨g, 1, none⟩ x1).heap[g]? = some (.cells #[x0, x1, a2, a3, a4, a5, a6, a7, a8] t (0, 0)) := by
    have q := blk_set h0 1 x1
    simp only [List.setIfInBounds_toArray, List.set_cons_zero, List.set_cons_succ] at q
    exact q
  have h2 : (((W.setCell ⟨g, 0, none⟩ x0).setCell ⟨g, 1, none⟩ x1).setCell ⟨g, 2, none⟩ x2).heap[g]? = some (.cells #[x0, x1, x2, a3, a4, a5, a6, a7, a8] t (0, 0)) := by
    have q := blk_set h1 2 x2
    simp only [List.setIfInBounds_toArray, List.set_cons_zero, List.set_cons_succ] at q
    exact q
  have h3 : ((((W.setCell ⟨g, 0, none⟩ x0).setCell ⟨g, 1, none⟩ x1).setCell ⟨g, 2, none⟩ x2).setCell ⟨g, 3, none⟩ x3).heap[g]? = some (.cells #[x0, x1, x2, x3, a4, a5, a6, a7, a8] t (0, 0)) := by
    have q := blk_set h2 3 x3
    simp only [List.setIfInBounds_toArray, List.set_cons_zero, List.set_cons_succ] at q
    exact q
  have h4 : (((((W.setCell ⟨g, 0, none⟩ x0).setCell ⟨g, 1, none⟩ x1).setCell ⟨g, 2, none⟩ x2).setCell ⟨g, 3, none⟩ x3).setCell ⟨g, 4, none⟩ x4).heap[g]? = some (.cells #[x0, x1, x2, x3, x4, a5, a6, a7, a8] t (0, 0)) := by
    have q := blk_set h3 4 x4
    simp only [List.setIfInBounds_toArray, List.set_cons_zero, List.set_cons_succ] at q
    exact q
  have h5 : ((((((W.setCell ⟨g, 0, none⟩ x0).setCell ⟨g, 1, none⟩ x1).setCell ⟨g, 2, none⟩ x2).setCell ⟨g, 3, none⟩ x3).setCell ⟨g, 4, none⟩ x4).setCell ⟨g, 5, none⟩ x5).heap[g]? = some (.cells #[x0, x1, x2, x3, x4, x5, a6, a7, a8] t (0, 0)) := by
    have q := blk_set h4 5 x5
    simp only [List.setIfInBounds_toArray, List.set_cons_zero, List.set_cons_succ] at q
    exact q
  have h6 : (((((((W.setCell ⟨g, 0, none⟩ x0).setCell ⟨g, 1, none⟩ x1).setCell ⟨g, 2, none⟩ x2).setCell ⟨g, 3, none⟩ x3).setCell ⟨g, 4, none⟩ x4).setCell ⟨g, 5, none⟩ x5).setCell ⟨g, 6, none⟩ x6).heap[g]? = some (.cells #[x0, x1, x2, x3, x4, x5, x6, a7, a8] t (0, 0)) := by
    have q := blk_set h5 6 x6
    simp only [List.setIfInBounds_toArray, List.set_cons_zero, List.set_cons_succ] at q
    exact q
  have h7 : ((((((((W.setCell ⟨g, 0, none⟩ x0).setCell ⟨g, 1, none⟩ x1).setCell ⟨g, 2, none⟩ x2).setCell ⟨g, 3, none⟩ x3).setCell ⟨g, 4, none⟩ x4).setCell ⟨g, 5, none⟩ x5).setCell ⟨g, 6, none⟩ x6).setCell ⟨g, 7, none⟩ x7).heap[g]? = some (.cells #[x0, x1, x2, x3, x4, x5, x6, x7, a8] t (0, 0)) := by
    have q := blk_set h6 7 x7
    simp only [List.setIfInBounds_toArray, List.set_cons_zero, List.set_cons_succ] at q
    exact q
  have h8 : (((((((((W.setCell ⟨g, 0, none⟩ x0).setCell ⟨g, 1, none⟩ x1).setCell ⟨g, 2, none⟩ x2).setCell ⟨g, 3, none⟩ x3).setCell ⟨g, 4, none⟩ x4).setCell ⟨g, 5, none⟩ x5).setCell ⟨g, 6, none⟩ x6).setCell ⟨g, 7, none⟩ x7).setCell ⟨g, 8, none⟩ x8).heap[g]? = some (.cells #[x0, x1, x2, x3, x4, x5, x6, x7, x8] t (0, 0)) := by
    have q := blk_set h7 8 x8
    simp only [List.setIfInBounds_toArray, List.set_cons_zero, List.set_cons_succ] at q
    exact q
  exact h8
theorem Loc.boxed {o o' : Obj} (_ : Loc b (b + 1) (fun W => W.heap[b]? = some o) W) (h : W'.heap[b]? = some o') : Loc b (b + 1) (fun W => W.heap[b]? = some o') W' := Loc.box h
theorem below_only (hB : Below w.heap.size w W) (hw : w.heap.size ≤ b) (ho : Only W W' b) : Below w.heap.size w W' :=
  hB.trans ⟨ho.1, ho.2.1, ho.2.2.1, Nat.le_of_eq ho.2.2.2.1.symm, fun k hk => ho.2.2.2.2 k (by omega)⟩
theorem below_drawn (h : Drawn0 W W') : Below W.heap.size W W' := by
  obtain ⟨n, rfl⟩ := h
  exact pw_below_drewN (Below.refl _ _) n
theorem below_after {W : World} (hB : Below w.heap.size w W) (hb : Below W.heap.size W W') : Below w.heap.size w W' := hB.trans ⟨hb.os, hb.tape, hb.output, hb.size, fun k hk => hb.block k (Nat.lt_of_lt_of_le hk hB.size)⟩
end
end Go.Proofs.Ytdkokfnnebdppaa.P

/- An element of a row is written field by field: what stands meanwhile. No conditions. -/
namespace Go.Proofs.Ytdkokfnnebdppaa.P
open Go.RowKit Go.Proofs.YtdkokfnnebdppaaW.PrintWords Go.Proofs.YtdkokfnnebdppaaW.PrintLast Go.Proofs.YtdkokfnnebdppaaW.PrintMore
section
variable {α β : Type} {d : Kd α} {d' : Kd β} {e e' g n cap : Nat} {w0 w W W' : World} {P S oki : Nat → Prop} {xs : List α} {i : Int} {c : List Value}
/-- Element i of the row at block g is out: its cells are c, its rows' blocks are oki. -/
structure Hole (d : Kd α) (e : Nat) (w0 w W : World) (P : Nat → Prop) (g n cap : Nat) (xs : List α) (i : Int) (oki : Nat → Prop) (c : List Value) : Prop where
  i0 : 0 ≤ i
  i1 : i < n
  hb : Below w0.heap.size w0 W
  hk : Kept w W P
  hp : P g
  hg : w0.heap.size ≤ g
  ho : ∀ k, oki k → P k ∧ k ≠ g
  hh : Kd.H d e W w0.heap.size P (.slice (some ⟨g, 0, none⟩) n cap) xs i oki c
theorem Hole.mk0 (hS : Kd.S d e W w0.heap.size P (.slice (some ⟨g, 0, none⟩) n cap) xs) (hb : Below w0.heap.size w0 W) (hk : Kept w W P) (z : α) (h0 : 0 ≤ i) (h1 : i < n) :
    ∃ (oki : Nat → Prop) (c : List Value), Hole d e w0 w W P g n cap xs i oki c ∧ d.M W w0.heap.size oki (xs.getD i.toNat z) c := by
  obtain ⟨oki, c, hcl, hM, hcc, hfr, hoki, hH⟩ := Kd.S_elem hS z i h0 h1
  exact ⟨oki, c, ⟨h0, h1, hb, hk, (Kd.S_R hS).1 _ rfl, Kd.S_base hS _ rfl, hoki, hH⟩, hM⟩
theorem Hole.below (h : Hole d e w0 w W P g n cap xs i oki c) (hb : Below W.heap.size W W') : Hole d e w0 w W' P g n cap xs i oki c :=
  ⟨h.i0, h.i1, h.hb.trans ⟨hb.os, hb.tape, hb.output, hb.size, fun k hk => hb.block k (Nat.lt_of_lt_of_le hk h.hb.size)⟩, h.hk.below hb, h.hp, h.hg, h.ho, Kd.H_below h.hh hb⟩
theorem Hole.cell (h : Hole d e w0 w W P g n cap xs i oki c) {o : Nat} (j : Nat) (u : Value) (ho : o = i.toNat * d.sz + j) (hu : c[j]? = some u) : W.cell? ⟨g, o, none⟩ = some u := by
  rw [ho]
  exact (Kd.H_at h.hh h.i0 h.i1).1 j u hu
theorem Hole.free (h : Hole d e w0 w W P g n cap xs i oki c) {o : Nat} (j : Nat) (ho : o = i.toNat * d.sz + j) : W.frozen? ⟨g, o, none⟩ = false := by
  rw [ho]
  exact (Kd.H_at h.hh h.i0 h.i1).2 j
theorem Hole.clen (h : Hole d e w0 w W P g n cap xs i oki c) : c.length = d.sz := (Kd.H_raw h.hh h.i0 h.i1).choose_spec.2.2.1
theorem Hole.put (h : Hole d e w0 w W P g n cap xs i oki c) {o : Nat} (j : Nat) (u : Value) (ho : o = i.toNat * d.sz + j) (hj : j < d.sz) (hone : u.oneCell' = true) : Hole d e w0 w (W.setCell ⟨g, o, none⟩ u) P g n cap xs i oki (c.set j u) := by
  have hc := h.clen
  obtain ⟨h1, _⟩ := Kd.H_seg h.hh h.i0 h.i1 (seg := [u]) (j := j) (by show j + 1 ≤ d.sz; omega) (fun q hq => by rw [List.mem_singleton.1 hq]; exact hone)
  rw [← ho] at h1
  have e1 : c.take j ++ [u] ++ c.drop (j + 1) = c.set j u := by
    rw [List.set_eq_take_append_cons_drop, if_pos (by omega), List.append_assoc]
    rfl
  rw [show j + [u].length = j + 1 from rfl, e1] at h1
  exact ⟨h.i0, h.i1, below_set h.hb h.hg, h.hk.setCell (.inl h.hp) u, h.hp, h.hg, h.ho, h1⟩
theorem Hole.kept (h : Hole d e w0 w W P g n cap xs i oki c) (hk : Kept W W' S) (hb : Below w0.heap.size w0 W') (hS : ∀ k, S k → oki k) : Hole d e w0 w W' P g n cap xs i oki c :=
  ⟨h.i0, h.i1, hb, h.hk.then_ hk (fun k hs => .inl (h.ho k (hS k hs)).1), h.hp, h.hg, h.ho, Kd.H_kept h.hh hk (fun _ _ hn hs => hn (hS _ hs))⟩
theorem Hole.back (h : Hole d e w0 w W P g n cap xs i oki c) {x' : α} (hM : d.M W w0.heap.size oki x' c) : Kd.S d e W w0.heap.size P (.slice (some ⟨g, 0, none⟩) n cap) (xs.set i.toNat x') ∧ Kept w W P ∧ Below w0.heap.size w0 W :=
  ⟨Kd.H_back h.hh hM (fun _ hk => hk), h.hk, h.hb⟩
/-- The element's row v, the element being out. -/
theorem Hole.in_put (h : Hole d e w0 w W P g n cap xs i oki c) {v : Value} {l : List β} (hv : Kd.R d' e' W w0.heap.size oki v l) {o : Nat} (u : Value) : Kd.R d' e' (W.setCell ⟨g, o, none⟩ u) w0.heap.size oki v l :=
  Kd.R_far hv (fun k hk => (h.ho k hk).2) u
end
end Go.Proofs.Ytdkokfnnebdppaa.P

-- written by a program of this session's (wip/pp)
namespace Go.Proofs.Ytdkokfnnebdppaa.P
open Go.RowKit Go.Proofs.YtdkokfnnebdppaaW.PrintWords Go.Proofs.YtdkokfnnebdppaaW.PrintLast Go.Proofs.YtdkokfnnebdppaaW.PrintMore
attribute [local go_sem] max2_int min2_int max_two min_two max_three min_three max_four min_four str_geq str_gtr str_leq   -- for this text's walks alone
set_option linter.unusedVariables false
set_option linter.unusedSimpArgs false

/-! ### laws_markIntS: function 38 -/
def laws_markIntS.l0 : Nat → List Int → Int → Int → Option (Int × List Int)
 | 0, _, _, _ => none
 | k + 1, x0, x1, x5 => if x5 < (x0.length : Int) then (if 0 ≤ x5 then (laws_markIntS.l0 k (x0.set (x5 : Int).toNat x1) (wrap64 (x1 + 1)) (wrap64 (x5 + 1))) else (none)) else (some (x1, x0))
def laws_markIntS.f (k : Nat) (l0 : List Int) (a1 : Int) : Option (Int × List Int) := laws_markIntS.l0 k l0 a1 0
theorem laws_markIntS.mono_l : ∀ k, (∀ y0 y1 y2, LeO (laws_markIntS.l0 k y0 y1 y2) (laws_markIntS.l0 (k + 1) y0 y1 y2))
 | 0 => fun _ _ _ r h => by simp [laws_markIntS.l0] at h
 | k + 1 => by
  have ih0 := laws_markIntS.mono_l k
  · intro y0 y1 y2
    unfold laws_markIntS.l0
    repeat' first
     | (with_reducible first | exact ih0 .. | exact LeO.refl _ | exact LeO.none _ | refine LeO.ite ?_ ?_ | refine LeO.bind ?_ (fun _ => ?_))
     | exact LeO.none _
     | refine LeO.ite ?_ ?_
     | refine LeO.bind ?_ (fun _ => ?_)
theorem laws_markIntS.mono : ∀ a0 a1 k, LeO (laws_markIntS.f k a0 a1) (laws_markIntS.f (k + 1) a0 a1) := by
 intro a0 a1 k
 have ih0 := laws_markIntS.mono_l k
 unfold laws_markIntS.f
 repeat' first
  | (with_reducible first | exact ih0 .. | exact LeO.refl _ | exact LeO.none _ | refine LeO.ite ?_ ?_ | refine LeO.bind ?_ (fun _ => ?_))
  | exact LeO.none _
  | refine LeO.ite ?_ ?_
  | refine LeO.bind ?_ (fun _ => ?_)
set_option maxHeartbeats 8000000 in
set_option maxRecDepth 100000 in
theorem laws_markIntS.calls (k : Nat) (P0_ : Nat → Prop) (u9000_ : Value) (l0 : List Int) (a1 : Int) (r1 : Int) (r2 : List Int) (w0 w : World) (hB : Below w0.heap.size w0 w) (ho0 : Kd.R (Kd.int .i64) 3 w w0.heap.size P0_ u9000_ l0) (h : laws_markIntS.f k l0 a1 = some (r1, r2)) :
 Calls Try.prog 38 #[u9000_, .int .i64 a1] w fun e w' => e = .returned (.int .i64 r1) ∧ Kd.R (Kd.int .i64) 3 w' w0.heap.size (fun k_ => (P0_ k_ ∨ w.heap.size ≤ k_)) u9000_ r2 ∧ Below w0.heap.size w0 w' ∧ Kept w w' (fun k_ => P0_ k_) := by
 have HO0 := aM (show Kd.R (Kd.int .i64) 3 w w0.heap.size (fun k_ => (P0_ k_ ∨ w.heap.size ≤ k_)) u9000_ l0 from Kd.R_mono ho0 (fun k_ hk => (.inl hk)))
 have HK := aM (Kept.refl w (fun k_ => P0_ k_))
 have HW0 := aM hB.size
 have HB := aM hB
 clear hB
 have H : (laws_markIntS.l0 k l0 a1 0) = some (r1, r2) := h
 clear h
 have H' := aM H
 clear H
 go_enter Try.func38, Try.ntmps38
 go_wp2
 go_loopg [1, 5] k (fun kq v1 v5 w' => ∃ (x0_1 : List Int) (x1_1 : Int) (x5_1 : Int), v1 = .int .i64 x1_1 ∧ v5 = .int .i64 x5_1 ∧ Aside0 (laws_markIntS.l0 kq x0_1 x1_1 x5_1 = some (r1, r2)) ∧ Aside0 (kq ≤ k) ∧ Aside0 (Kd.R (Kd.int .i64) 3 w' w0.heap.size (fun k_ => (P0_ k_ ∨ w.heap.size ≤ k_)) u9000_ x0_1) ∧ Aside0 (Kept w w' (fun k_ => P0_ k_)) ∧ Aside0 (Below w0.heap.size w0 w'))
 case atStart => exact ⟨(l0), (a1), (0), z4458, z4458, H', ⟨Nat.le_refl _⟩, ⟨rZ HO0.out⟩, ⟨by repeat (first | (with_reducible first | exact HK.out | apply Kept.alloc | apply Kept.drewN | apply Kept.drew) | exact HK.out)⟩, ⟨z5acd⟩⟩
 case round =>
  clear H'
  try clear p2
  obtain ⟨x0_1, x1_1, x5_1, rfl, rfl, HA, HK1, HO_0, HK, HB⟩ := hrel
  cases gk with
  | zero => exact absurd HA.out (by simp [laws_markIntS.l0])
  | succ k1 =>
   have H := HA.out
   clear HA
   simp only [laws_markIntS.l0] at H
   by_cases c3 : x5_1 < (x0_1.length : Int)
   · rw [if_pos c3] at H
     have c3b0 : decide (x5_1 < (x0_1.length : Int)) = true := decide_eq_true c3
     clear c3
     replace H := ifS H; obtain ⟨c4, H⟩ := H
     have c4b0 : decide (0 ≤ x5_1) = true := decide_eq_true c4
     clear c4
     obtain ⟨y101, hy101⟩ : ∃ y_ : List Int, y_ = (x0_1.set (x5_1 : Int).toNat x1_1) := ⟨_, rfl⟩
     first | (replace H := bindS H; rw [← hy101] at H; try dsimp only at H) | rw [← hy101] at H
     have Ny101 := aM hy101
     clear hy101
     have H' := aM H
     clear H
     obtain ⟨Ao6, co6, eo6⟩ := Kd.R_slice HO_0.out
     subst eo6
     have p5 : 0 ≤ (x5_1 : Int) := of_decide_eq_true z1200
     have q5 : (x5_1 : Int) < ((x0_1.length : Int) : Int) := of_decide_eq_true z1200
     obtain ⟨go5, co5, eo5, gb5, gl5, cl5, HG5⟩ := Kd.R_form HO_0.out (by omega)
     (first | cases eo5 | (injection eo5 with ea_ en_ ec_; (first | subst ea_ | (injection ea_ with ea_; subst ea_)); subst ec_; clear en_))
     have GB5 := aM gb5
     have GG5 := aM HG5
     clear gb5 gl5 HG5
     have HMgo5 := aM (show (P0_ go5 ∨ w.heap.size ≤ go5) from (HO_0.out.1 _ rfl))
     obtain ⟨hx5_0, hf5_0⟩ := Kd.R_celln 0 HO_0.out (x5_1 : Int) p5 q5
     replace p5 := eq_true p5
     replace q5 := eq_true q5
     have HP7 := Kd.R_putg HO_0.out (x5_1 : Int) x1_1
     go_wp2_with (first | ((with_reducible refine gate_store (t := 3) (p := 15) rfl ?_); refine store_event (t := 3) (p := 15) (v := ?vo_w8) (w1 := (wr.setCell ⟨go5, (x5_1 : Int).toNat, none⟩ (.int .i64 x1_1))) ?hg ?ho ?hn ?hr ?_; (case ho => rfl); (case hg => rfl); (case hn => rfl); (case hr => first | (go_simp; done) | (go_simp; rfl)); intro w8 hw; have hg : wr.grownBy w8 (some go5) := (by rw [hw]; exact HP7.2); have hp_ : Kd.R (Kd.int .i64) 3 w8 w0.heap.size (fun k_ => (P0_ k_ ∨ w.heap.size ≤ k_)) (.slice (some ⟨go5, 0, none⟩) x0_1.length co6) y101 := (by rw [hw, Ny101.out]; exact HP7.1); clear HP7; have _ := aM hp_; have _ := aM ((by rw [hw]; exact below_set (HB.out) GB5.out : Below w0.heap.size w0 w8)); have _ := aM (Kept.of_grown (S := (fun k_ => P0_ k_)) hg (by repeat (first | (with_reducible first | exact HK.out | apply Kept.alloc | apply Kept.drewN | apply Kept.drew) | exact HK.out)) (fun k_ e_ => (HO_0.out.1 k_ e_))); clear HO_0 HB HK; rename_i HO_0 HB HK; clear hg hw hp_))
     go_roundg k1
     case measure => have := HK1.out; omega
     case rel => exact ⟨(y101), (wrap64 (x1_1 + 1)), (wrap64 (x5_1 + 1)), z4458, z4458, H', ⟨zfb39⟩, ⟨rZ HO_0.out⟩, ⟨by repeat (first | (with_reducible first | exact HK.out | apply Kept.alloc | apply Kept.drewN | apply Kept.drew) | exact HK.out)⟩, ⟨z5acd⟩⟩
   · rw [if_neg c3] at H
     have c3b0 : decide (x5_1 < (x0_1.length : Int)) = false := decide_eq_false c3
     clear c3
     simp only [Option.some.injEq, Prod.mk.injEq] at H
     obtain ⟨rfl, rfl⟩ := H
     obtain ⟨Ao9, co9, eo9⟩ := Kd.R_slice HO_0.out
     subst eo9
     go_wp2
     go_ret
     exact ⟨z674d, rZ HO_0.out, z5acd, by repeat (first | (with_reducible first | exact HK.out | apply Kept.alloc | apply Kept.drewN | apply Kept.drew) | exact HK.out)⟩

end Go.Proofs.Ytdkokfnnebdppaa.P

-- written by a program of this session's (wip/pp)
namespace Go.Proofs.Ytdkokfnnebdppaa.P
open Go.RowKit Go.Proofs.YtdkokfnnebdppaaW.PrintWords Go.Proofs.YtdkokfnnebdppaaW.PrintLast Go.Proofs.YtdkokfnnebdppaaW.PrintMore
attribute [local go_sem] max2_int min2_int max_two min_two max_three min_three max_four min_four str_geq str_gtr str_leq   -- for this text's walks alone
set_option linter.unusedVariables false
set_option linter.unusedSimpArgs false

/-! ### laws_markText: function 37 -/
def laws_markText.l0 : Nat → Int → ByteArray → Option (ByteArray)
 | 0, _, _ => none
 | k + 1, x0, x3 => if x0 > 0 then ((some (([(wrap64 (48 + (Int.tmod x0 10))) % 256] : List Int) : List Int)).bind fun y101 => (if (strOfNums y101).size + x3.size ≤ 9223372036854775807 then (laws_markText.l0 k (wrap64 (Int.tdiv x0 10)) ((strOfNums y101) ++ x3)) else (none))) else (if 1 + x3.size ≤ 9223372036854775807 then (some ((⟨#[109]⟩ : ByteArray) ++ x3)) else (none))
def laws_markText.f (k : Nat) (a0 : Int) : Option (ByteArray) := if a0 ≤ 0 then (some (⟨#[109, 48]⟩ : ByteArray)) else (laws_markText.l0 k a0 (⟨#[]⟩ : ByteArray))
theorem laws_markText.mono_l : ∀ k, (∀ y0 y1, LeO (laws_markText.l0 k y0 y1) (laws_markText.l0 (k + 1) y0 y1))
 | 0 => fun _ _ r h => by simp [laws_markText.l0] at h
 | k + 1 => by
  have ih0 := laws_markText.mono_l k
  · intro y0 y1
    unfold laws_markText.l0
    repeat' first
     | (with_reducible first | exact ih0 .. | exact LeO.refl _ | exact LeO.none _ | refine LeO.ite ?_ ?_ | refine LeO.bind ?_ (fun _ => ?_))
     | exact LeO.none _
     | refine LeO.ite ?_ ?_
     | refine LeO.bind ?_ (fun _ => ?_)
theorem laws_markText.mono : ∀ a0 k, LeO (laws_markText.f k a0) (laws_markText.f (k + 1) a0) := by
 intro a0 k
 have ih0 := laws_markText.mono_l k
 unfold laws_markText.f
 repeat' first
  | (with_reducible first | exact ih0 .. | exact LeO.refl _ | exact LeO.none _ | refine LeO.ite ?_ ?_ | refine LeO.bind ?_ (fun _ => ?_))
  | exact LeO.none _
  | refine LeO.ite ?_ ?_
  | refine LeO.bind ?_ (fun _ => ?_)
set_option maxHeartbeats 8000000 in
set_option maxRecDepth 100000 in
theorem laws_markText.calls (k : Nat) (a0 : Int) (r : ByteArray) (w : World) (h : laws_markText.f k a0 = some r) :
 Calls Try.prog 37 #[.int .i64 a0] w fun e w' => e = .returned (.string r) ∧ Below w.heap.size w w' := by
 have HB := aM (Below.refl w.heap.size w)
 have H : (if a0 ≤ 0 then (some (⟨#[109, 48]⟩ : ByteArray)) else (laws_markText.l0 k a0 (⟨#[]⟩ : ByteArray))) = some r := h
 clear h
 by_cases c2 : a0 ≤ 0
 · rw [if_pos c2] at H
   have c2b0 : decide (a0 ≤ 0) = true := decide_eq_true c2
   clear c2
   obtain rfl := Option.some.inj H
   go_enter Try.func37, Try.ntmps37
   go_wp2
   go_ret
   exact ⟨z674d, z5acd⟩
 · rw [if_neg c2] at H
   have c2b0 : decide (a0 ≤ 0) = false := decide_eq_false c2
   clear c2
   have H' := aM H
   clear H
   go_enter Try.func37, Try.ntmps37
   go_wp2
   go_loopg [0, 3] k (fun kq v0 v3 w' => ∃ (x0_1 : Int) (x3_1 : ByteArray), v0 = .int .i64 x0_1 ∧ v3 = .string x3_1 ∧ Aside0 (laws_markText.l0 kq x0_1 x3_1 = some r) ∧ Aside0 (kq ≤ k) ∧ Aside0 (Below w.heap.size w w'))
   case atStart => exact ⟨(a0), ((⟨#[]⟩ : ByteArray)), z4458, z4458, H', ⟨Nat.le_refl _⟩, ⟨z5acd⟩⟩
   case round =>
    clear H'
    try clear c2
    try clear c2b0
    try clear p2
    obtain ⟨x0_1, x3_1, rfl, rfl, HA, HK1, HB⟩ := hrel
    cases gk with
    | zero => exact absurd HA.out (by simp [laws_markText.l0])
    | succ k1 =>
     have H := HA.out
     clear HA
     simp only [laws_markText.l0] at H
     by_cases c3 : x0_1 > 0
     · rw [if_pos c3] at H
       have c3b0 : decide (0 < x0_1) = true := decide_eq_true c3
       clear c3
       obtain ⟨y101, hy101⟩ : ∃ y_ : List Int, y_ = (([(wrap64 (48 + (Int.tmod x0_1 10))) % 256] : List Int)) := ⟨_, rfl⟩
       first | (replace H := bindS H; rw [← hy101] at H; try dsimp only at H) | rw [← hy101] at H
       have Ny101 := aM hy101
       clear hy101
       replace H := ifS H; obtain ⟨c4, H⟩ := H
       have c4b0 := eq_true c4
       have c4b1 : decide ((strOfNums y101).size + x3_1.size ≤ 9223372036854775807) = true := decide_eq_true c4
       try have c4b2 : (9223372036854775807 < (strOfNums y101).size + x3_1.size) = False := eq_false (Nat.not_lt.2 c4)
       have H' := aM H
       clear H
       go_wp2_with (first | ((with_reducible refine gate_dst (N := 12) rfl ?_); refine Kd.R_lit (Kd.int .u8) _ 5 ?hg (N := 12) ?hd (xs := ([(wrap64 (48 + (Int.tmod x0_1 10))) % 256] : List Int)) (inner := [.int .u8 ((wrap64 (48 + (Int.tmod x0_1 10))) % 256)]) (ok := fun _ => True) (okp := fun _ => True) ?hr ?hp (fun _ hk => hk) trivial (Below.refl _ _) (Nat.le_refl _) (by simp) ?_; (case hd => rfl); (case hg => rfl); (case hr => first | (go_simp; done) | (go_simp; rfl)); (case hp => exact (Reps.one (show Kd.M (Kd.int .u8) _ _ _ ((wrap64 (48 + (Int.tmod x0_1 10))) % 256) [.int .u8 ((wrap64 (48 + (Int.tmod x0_1 10))) % 256)] from rfl) (Reps.none _ _))); intro v102 w5 ho6 hb hg_ hnew_; clear hg_ hnew_; (first | rw [← Ny101.out] at ho6 | (simp only [Int.reduceToNat] at ho6; rw [← Ny101.out] at ho6)); have _ := aM (Kd.R_lower ho6 (below_size hbZ)); have _ := aM (below_step hbZ hb); clear HB; rename_i HO103 HB; clear hb ho6; have hcv7 := own_string (P := Try.prog) Try.underlying50 Try.underlying5 Try.underlying9 (Kd.own_of_R HO103.out)))
       go_roundg k1
       case measure => have := HK1.out; omega
       case rel => exact ⟨(wrap64 (Int.tdiv x0_1 10)), ((strOfNums y101) ++ x3_1), z4458, z4458, H', ⟨zfb39⟩, ⟨z5acd⟩⟩
     · rw [if_neg c3] at H
       have c3b0 : decide (0 < x0_1) = false := decide_eq_false c3
       clear c3
       replace H := ifS H; obtain ⟨c8, H⟩ := H
       have c8b0 := eq_true c8
       have c8b1 : decide (1 + x3_1.size ≤ 9223372036854775807) = true := decide_eq_true c8
       try have c8b2 : (9223372036854775807 < 1 + x3_1.size) = False := eq_false (Nat.not_lt.2 c8)
       obtain rfl := Option.some.inj H
       go_wp2
       go_ret
       exact ⟨z674d, z5acd⟩
end Go.Proofs.Ytdkokfnnebdppaa.P

/- laws.markEntryS: marks are written into each element; what else stands in memory stays. No conditions of its own. -/
namespace Go.Proofs.Ytdkokfnnebdppaa.P
open Go.RowKit Go.Proofs.YtdkokfnnebdppaaW.PrintWords Go.Proofs.YtdkokfnnebdppaaW.PrintLast Go.Proofs.YtdkokfnnebdppaaW.PrintMore
set_option linter.unusedVariables false
set_option linter.unusedSimpArgs false
def laws_markEntryS.l0 : Nat → List S45 → Int → Int → Option (Int × List S45)
 | 0, _, _, _ => none
 | k + 1, x0, x1, x5 => if x5 < (x0.length : Int) then (if 0 ≤ x5 then ((laws_markText.f k x1).bind fun t0 => ((laws_markIntS.f k (rd_T45 x0 x5).f3.f4 (wrap64 ((wrap64 ((wrap64 ((wrap64 ((wrap64 ((wrap64 ((wrap64 (x1 + 1)) + 1)) + 1)) + 1)) + 1)) + 1)) + 1))).bind fun t1 => (laws_markEntryS.l0 k (x0.set x5.toNat (⟨t0, (wrap64 (x1 + 1)), (wrap64 ((wrap64 (x1 + 1)) + 1)), (⟨(wrap64 ((wrap64 ((wrap64 (x1 + 1)) + 1)) + 1)), (wrap64 ((wrap64 ((wrap64 ((wrap64 (x1 + 1)) + 1)) + 1)) + 1)), (wrap64 ((wrap64 ((wrap64 ((wrap64 ((wrap64 (x1 + 1)) + 1)) + 1)) + 1)) + 1)), (wrap64 ((wrap64 ((wrap64 ((wrap64 ((wrap64 ((wrap64 (x1 + 1)) + 1)) + 1)) + 1)) + 1)) + 1)), t1.2, (Int.tmod t1.1 3 == 0)⟩ : S26)⟩ : S45)) (wrap64 (t1.1 + 1)) (wrap64 (x5 + 1))))) else none) else some (x1, x0)
def laws_markEntryS.f (k : Nat) (l0 : List S45) (a1 : Int) : Option (Int × List S45) := laws_markEntryS.l0 k l0 a1 0
set_option maxHeartbeats 8000000 in
set_option maxRecDepth 100000 in
theorem laws_markEntryS.calls (k : Nat) (P0_ : Nat → Prop) (u9000_ : Value) (l0 : List S45) (a1 : Int) (r1 : Int) (r2 : List S45) (w0 w : World) (hB : Below w0.heap.size w0 w) (ho0 : Kd.S k45 45 w w0.heap.size P0_ u9000_ l0) (h : laws_markEntryS.f k l0 a1 = some (r1, r2)) :
 Calls Try.prog 13 #[u9000_, .int .i64 a1] w fun e w' => e = .returned (.int .i64 r1) ∧ Kd.S k45 45 w' w0.heap.size P0_ u9000_ r2 ∧ Below w0.heap.size w0 w' ∧ Kept w w' P0_ := by
 have HO0 := aM ho0
 have HK := aM (Kept.refl w P0_)
 have HB := aM hB
 clear hB ho0
 have H' := aM (show laws_markEntryS.l0 k l0 a1 0 = some (r1, r2) from h)
 clear h
 go_enter Try.func13, Try.ntmps13
 go_wp2
 go_loopg [1, 5] k (fun kq v1 v5 w' => ∃ (x0_1 : List S45) (x1_1 : Int) (x5_1 : Int), v1 = .int .i64 x1_1 ∧ v5 = .int .i64 x5_1 ∧ Aside0 (laws_markEntryS.l0 kq x0_1 x1_1 x5_1 = some (r1, r2)) ∧ Aside0 (kq ≤ k) ∧ Aside0 (Kd.S k45 45 w' w0.heap.size P0_ u9000_ x0_1) ∧ Aside0 (Kept w w' P0_) ∧ Aside0 (Below w0.heap.size w0 w'))
 case atStart => exact ⟨l0, a1, 0, rfl, rfl, H', ⟨Nat.le_refl _⟩, ⟨by (with_reducible repeat (first | apply Kd.S_alloc | apply Kd.S_drewN | apply Kd.S_drew)); exact HO0.out⟩, ⟨by repeat (first | exact HK.out | apply Kept.alloc | apply Kept.drewN | apply Kept.drew)⟩, ⟨by repeat (first | exact HB.out | apply below_alloc | apply pw_below_drewN | apply below_drew1)⟩⟩
 case round =>
  clear H' HO0 HK HB
  obtain ⟨x0_1, x1_1, x5_1, rfl, rfl, HA, HK1, HO_0, HK, HB⟩ := hrel
  cases gk with
  | zero => exact absurd HA.out (by simp [laws_markEntryS.l0])
  | succ k1 =>
   have H := HA.out
   clear HA
   simp only [laws_markEntryS.l0] at H
   by_cases c3 : x5_1 < (x0_1.length : Int)
   · rw [if_pos c3] at H
     have c3b0 : decide (x5_1 < (x0_1.length : Int)) = true := decide_eq_true c3
     by_cases c5 : 0 ≤ x5_1
     · rw [if_pos c5] at H
       have c5b0 : decide (0 ≤ x5_1) = true := decide_eq_true c5
       obtain ⟨t0, At00, H⟩ := Option.bind_eq_some_iff.mp H
       have At0 := aM At00
       clear At00
       obtain ⟨t1, At10, H⟩ := Option.bind_eq_some_iff.mp H
       have At1 := aM At10
       clear At10
       have H' := aM H
       clear H
       obtain ⟨g_, cap_, eo_, _, _, _, _⟩ := Kd.S_form HO_0.out (by omega)
       subst eo_
       obtain ⟨oki_, ce_, hH_, hM_⟩ := Hole.mk0 HO_0.out HB.out HK.out z45 c5 c3
       obtain ⟨v7_, rfl, hv7_⟩ := k45_openM hM_
       have HH := aM hH_
       clear hH_ hM_ HO_0 HK HB
       obtain ⟨n7_, hn7_⟩ : ∃ n_, n_ = (rd_T45 x0_1 x5_1).f3.f4.length := ⟨_, rfl⟩
       obtain ⟨A7_, c7_, ev7_⟩ : ∃ A_ c_, v7_ = .slice A_ (rd_T45 x0_1 x5_1).f3.f4.length c_ := Kd.R_slice hv7_
       rw [← hn7_] at ev7_
       clear hn7_
       subst ev7_
       have HV7 := aM hv7_
       clear hv7_
       have p_ := eq_true c5
       have q_ := eq_true c3
       clear c3 c5
       go_wp2_with (first | (go_at_call 37; (with_reducible refine (laws_markText.calls k1 x1_1 t0 _ At0.out).mono ?_); rintro e wa1 ⟨rfl, hb⟩; (try clear hy_); (try clear hz_); have n_ := aM (Kd.R_below HV7.out hb); clear HV7; have HV7 := n_; clear n_; have n_ := aM (HH.out.below hb); clear HH; have HH := n_; clear n_ hb; have hx_ := aM (HH.out.cell (o := (x5_1 : Int).toNat * 9) 0 _ rfl rfl); have hy_ : wa1.cell? ⟨g_, (x5_1 : Int).toNat * 9, none⟩ = some (.string ((rd_T45 x0_1 x5_1).f0)) := hx_.out; have hz_ : wa1.frozen? ⟨g_, (x5_1 : Int).toNat * 9, none⟩ = false := HH.out.free (o := (x5_1 : Int).toNat * 9) 0 rfl; clear hx_) | ((with_reducible refine gate_store (t := 9) (p := 17) rfl ?_); refine store_event (t := 9) (p := 17) (v := ?vo_wa2) (w1 := (wa1.setCell ⟨g_, (x5_1 : Int).toNat * 9, none⟩ (.string t0))) ?hg ?ho ?hn ?hr ?_; (case ho => rfl); (case hg => rfl); (case hn => rfl); (case hr => first | (go_simp; done) | (go_simp; rfl)); intro wa2 hw; (try clear hy_); (try clear hz_); have n_ := aM ((by rw [hw]; exact HH.out.in_put HV7.out (.string t0) : Kd.R (Kd.int .i64) 3 wa2 w0.heap.size oki_ (.slice A7_ n7_ c7_) _)); clear HV7; have HV7 := n_; clear n_; have n_ := aM (show Hole k45 45 w0 w wa2 P0_ g_ _ _ x0_1 x5_1 oki_ [.string t0, .int .i64 ((rd_T45 x0_1 x5_1).f1), .int .i64 ((rd_T45 x0_1 x5_1).f2), .int .i64 ((rd_T45 x0_1 x5_1).f3.f0), .int .i64 ((rd_T45 x0_1 x5_1).f3.f1), .int .i64 ((rd_T45 x0_1 x5_1).f3.f2), .int .i64 ((rd_T45 x0_1 x5_1).f3.f3), .slice A7_ n7_ c7_, .bool ((rd_T45 x0_1 x5_1).f3.f5)] from (by rw [hw]; exact HH.out.put (o := (x5_1 : Int).toNat * 9) 0 (.string t0) rfl (by decide) rfl)); clear HH; have HH := n_; clear n_ hw; have hx_ := aM (HH.out.cell (o := (x5_1 : Int).toNat * 9 + 1) 1 _ rfl rfl); have hy_ : wa2.cell? ⟨g_, (x5_1 : Int).toNat * 9 + 1, none⟩ = some (.int .i64 ((rd_T45 x0_1 x5_1).f1)) := hx_.out; have hz_ : wa2.frozen? ⟨g_, (x5_1 : Int).toNat * 9 + 1, none⟩ = false := HH.out.free (o := (x5_1 : Int).toNat * 9 + 1) 1 rfl; clear hx_) | ((with_reducible refine gate_store (t := 3) (p := 24) rfl ?_); refine store_event (t := 3) (p := 24) (v := ?vo_wa3) (w1 := (wa2.setCell ⟨g_, (x5_1 : Int).toNat * 9 + 1, none⟩ (.int .i64 (wrap64 (x1_1 + 1))))) ?hg ?ho ?hn ?hr ?_; (case ho => rfl); (case hg => rfl); (case hn => rfl); (case hr => first | (go_simp; done) | (go_simp; rfl)); intro wa3 hw; (try clear hy_); (try clear hz_); have n_ := aM ((by rw [hw]; exact HH.out.in_put HV7.out (.int .i64 (wrap64 (x1_1 + 1))) : Kd.R (Kd.int .i64) 3 wa3 w0.heap.size oki_ (.slice A7_ n7_ c7_) _)); clear HV7; have HV7 := n_; clear n_; have n_ := aM (show Hole k45 45 w0 w wa3 P0_ g_ _ _ x0_1 x5_1 oki_ [.string t0, .int .i64 (wrap64 (x1_1 + 1)), .int .i64 ((rd_T45 x0_1 x5_1).f2), .int .i64 ((rd_T45 x0_1 x5_1).f3.f0), .int .i64 ((rd_T45 x0_1 x5_1).f3.f1), .int .i64 ((rd_T45 x0_1 x5_1).f3.f2), .int .i64 ((rd_T45 x0_1 x5_1).f3.f3), .slice A7_ n7_ c7_, .bool ((rd_T45 x0_1 x5_1).f3.f5)] from (by rw [hw]; exact HH.out.put (o := (x5_1 : Int).toNat * 9 + 1) 1 (.int .i64 (wrap64 (x1_1 + 1))) rfl (by decide) rfl)); clear HH; have HH := n_; clear n_ hw; have hx_ := aM (HH.out.cell (o := (x5_1 : Int).toNat * 9 + 2) 2 _ rfl rfl); have hy_ : wa3.cell? ⟨g_, (x5_1 : Int).toNat * 9 + 2, none⟩ = some (.int .i64 ((rd_T45 x0_1 x5_1).f2)) := hx_.out; have hz_ : wa3.frozen? ⟨g_, (x5_1 : Int).toNat * 9 + 2, none⟩ = false := HH.out.free (o := (x5_1 : Int).toNat * 9 + 2) 2 rfl; clear hx_) | ((with_reducible refine gate_store (t := 3) (p := 31) rfl ?_); refine store_event (t := 3) (p := 31) (v := ?vo_wa4) (w1 := (wa3.setCell ⟨g_, (x5_1 : Int).toNat * 9 + 2, none⟩ (.int .i64 (wrap64 ((wrap64 (x1_1 + 1)) + 1))))) ?hg ?ho ?hn ?hr ?_; (case ho => rfl); (case hg => rfl); (case hn => rfl); (case hr => first | (go_simp; done) | (go_simp; rfl)); intro wa4 hw; (try clear hy_); (try clear hz_); have n_ := aM ((by rw [hw]; exact HH.out.in_put HV7.out (.int .i64 (wrap64 ((wrap64 (x1_1 + 1)) + 1))) : Kd.R (Kd.int .i64) 3 wa4 w0.heap.size oki_ (.slice A7_ n7_ c7_) _)); clear HV7; have HV7 := n_; clear n_; have n_ := aM (show Hole k45 45 w0 w wa4 P0_ g_ _ _ x0_1 x5_1 oki_ [.string t0, .int .i64 (wrap64 (x1_1 + 1)), .int .i64 (wrap64 ((wrap64 (x1_1 + 1)) + 1)), .int .i64 ((rd_T45 x0_1 x5_1).f3.f0), .int .i64 ((rd_T45 x0_1 x5_1).f3.f1), .int .i64 ((rd_T45 x0_1 x5_1).f3.f2), .int .i64 ((rd_T45 x0_1 x5_1).f3.f3), .slice A7_ n7_ c7_, .bool ((rd_T45 x0_1 x5_1).f3.f5)] from (by rw [hw]; exact HH.out.put (o := (x5_1 : Int).toNat * 9 + 2) 2 (.int .i64 (wrap64 ((wrap64 (x1_1 + 1)) + 1))) rfl (by decide) rfl)); clear HH; have HH := n_; clear n_ hw; have hx_ := aM (HH.out.cell (o := (x5_1 : Int).toNat * 9 + 3) 3 _ rfl rfl); have hy_ : wa4.cell? ⟨g_, (x5_1 : Int).toNat * 9 + 3, none⟩ = some (.int .i64 ((rd_T45 x0_1 x5_1).f3.f0)) := hx_.out; have hz_ : wa4.frozen? ⟨g_, (x5_1 : Int).toNat * 9 + 3, none⟩ = false := HH.out.free (o := (x5_1 : Int).toNat * 9 + 3) 3 rfl; clear hx_) | ((with_reducible refine gate_store (t := 3) (p := 39) rfl ?_); refine store_event (t := 3) (p := 39) (v := ?vo_wa5) (w1 := (wa4.setCell ⟨g_, (x5_1 : Int).toNat * 9 + 3, none⟩ (.int .i64 (wrap64 ((wrap64 ((wrap64 (x1_1 + 1)) + 1)) + 1))))) ?hg ?ho ?hn ?hr ?_; (case ho => rfl); (case hg => rfl); (case hn => rfl); (case hr => first | (go_simp; done) | (go_simp; rfl)); intro wa5 hw; (try clear hy_); (try clear hz_); have n_ := aM ((by rw [hw]; exact HH.out.in_put HV7.out (.int .i64 (wrap64 ((wrap64 ((wrap64 (x1_1 + 1)) + 1)) + 1))) : Kd.R (Kd.int .i64) 3 wa5 w0.heap.size oki_ (.slice A7_ n7_ c7_) _)); clear HV7; have HV7 := n_; clear n_; have n_ := aM (show Hole k45 45 w0 w wa5 P0_ g_ _ _ x0_1 x5_1 oki_ [.string t0, .int .i64 (wrap64 (x1_1 + 1)), .int .i64 (wrap64 ((wrap64 (x1_1 + 1)) + 1)), .int .i64 (wrap64 ((wrap64 ((wrap64 (x1_1 + 1)) + 1)) + 1)), .int .i64 ((rd_T45 x0_1 x5_1).f3.f1), .int .i64 ((rd_T45 x0_1 x5_1).f3.f2), .int .i64 ((rd_T45 x0_1 x5_1).f3.f3), .slice A7_ n7_ c7_, .bool ((rd_T45 x0_1 x5_1).f3.f5)] from (by rw [hw]; exact HH.out.put (o := (x5_1 : Int).toNat * 9 + 3) 3 (.int .i64 (wrap64 ((wrap64 ((wrap64 (x1_1 + 1)) + 1)) + 1))) rfl (by decide) rfl)); clear HH; have HH := n_; clear n_ hw; have hx_ := aM (HH.out.cell (o := (x5_1 : Int).toNat * 9 + 4) 4 _ rfl rfl); have hy_ : wa5.cell? ⟨g_, (x5_1 : Int).toNat * 9 + 4, none⟩ = some (.int .i64 ((rd_T45 x0_1 x5_1).f3.f1)) := hx_.out; have hz_ : wa5.frozen? ⟨g_, (x5_1 : Int).toNat * 9 + 4, none⟩ = false := HH.out.free (o := (x5_1 : Int).toNat * 9 + 4) 4 rfl; clear hx_) | ((with_reducible refine gate_store (t := 3) (p := 47) rfl ?_); refine store_event (t := 3) (p := 47) (v := ?vo_wa6) (w1 := (wa5.setCell ⟨g_, (x5_1 : Int).toNat * 9 + 4, none⟩ (.int .i64 (wrap64 ((wrap64 ((wrap64 ((wrap64 (x1_1 + 1)) + 1)) + 1)) + 1))))) ?hg ?ho ?hn ?hr ?_; (case ho => rfl); (case hg => rfl); (case hn => rfl); (case hr => first | (go_simp; done) | (go_simp; rfl)); intro wa6 hw; (try clear hy_); (try clear hz_); have n_ := aM ((by rw [hw]; exact HH.out.in_put HV7.out (.int .i64 (wrap64 ((wrap64 ((wrap64 ((wrap64 (x1_1 + 1)) + 1)) + 1)) + 1))) : Kd.R (Kd.int .i64) 3 wa6 w0.heap.size oki_ (.slice A7_ n7_ c7_) _)); clear HV7; have HV7 := n_; clear n_; have n_ := aM (show Hole k45 45 w0 w wa6 P0_ g_ _ _ x0_1 x5_1 oki_ [.string t0, .int .i64 (wrap64 (x1_1 + 1)), .int .i64 (wrap64 ((wrap64 (x1_1 + 1)) + 1)), .int .i64 (wrap64 ((wrap64 ((wrap64 (x1_1 + 1)) + 1)) + 1)), .int .i64 (wrap64 ((wrap64 ((wrap64 ((wrap64 (x1_1 + 1)) + 1)) + 1)) + 1)), .int .i64 ((rd_T45 x0_1 x5_1).f3.f2), .int .i64 ((rd_T45 x0_1 x5_1).f3.f3), .slice A7_ n7_ c7_, .bool ((rd_T45 x0_1 x5_1).f3.f5)] from (by rw [hw]; exact HH.out.put (o := (x5_1 : Int).toNat * 9 + 4) 4 (.int .i64 (wrap64 ((wrap64 ((wrap64 ((wrap64 (x1_1 + 1)) + 1)) + 1)) + 1))) rfl (by decide) rfl)); clear HH; have HH := n_; clear n_ hw; have hx_ := aM (HH.out.cell (o := (x5_1 : Int).toNat * 9 + 5) 5 _ rfl rfl); have hy_ : wa6.cell? ⟨g_, (x5_1 : Int).toNat * 9 + 5, none⟩ = some (.int .i64 ((rd_T45 x0_1 x5_1).f3.f2)) := hx_.out; have hz_ : wa6.frozen? ⟨g_, (x5_1 : Int).toNat * 9 + 5, none⟩ = false := HH.out.free (o := (x5_1 : Int).toNat * 9 + 5) 5 rfl; clear hx_) | ((with_reducible refine gate_store (t := 3) (p := 55) rfl ?_); refine store_event (t := 3) (p := 55) (v := ?vo_wa7) (w1 := (wa6.setCell ⟨g_, (x5_1 : Int).toNat * 9 + 5, none⟩ (.int .i64 (wrap64 ((wrap64 ((wrap64 ((wrap64 ((wrap64 (x1_1 + 1)) + 1)) + 1)) + 1)) + 1))))) ?hg ?ho ?hn ?hr ?_; (case ho => rfl); (case hg => rfl); (case hn => rfl); (case hr => first | (go_simp; done) | (go_simp; rfl)); intro wa7 hw; (try clear hy_); (try clear hz_); have n_ := aM ((by rw [hw]; exact HH.out.in_put HV7.out (.int .i64 (wrap64 ((wrap64 ((wrap64 ((wrap64 ((wrap64 (x1_1 + 1)) + 1)) + 1)) + 1)) + 1))) : Kd.R (Kd.int .i64) 3 wa7 w0.heap.size oki_ (.slice A7_ n7_ c7_) _)); clear HV7; have HV7 := n_; clear n_; have n_ := aM (show Hole k45 45 w0 w wa7 P0_ g_ _ _ x0_1 x5_1 oki_ [.string t0, .int .i64 (wrap64 (x1_1 + 1)), .int .i64 (wrap64 ((wrap64 (x1_1 + 1)) + 1)), .int .i64 (wrap64 ((wrap64 ((wrap64 (x1_1 + 1)) + 1)) + 1)), .int .i64 (wrap64 ((wrap64 ((wrap64 ((wrap64 (x1_1 + 1)) + 1)) + 1)) + 1)), .int .i64 (wrap64 ((wrap64 ((wrap64 ((wrap64 ((wrap64 (x1_1 + 1)) + 1)) + 1)) + 1)) + 1)), .int .i64 ((rd_T45 x0_1 x5_1).f3.f3), .slice A7_ n7_ c7_, .bool ((rd_T45 x0_1 x5_1).f3.f5)] from (by rw [hw]; exact HH.out.put (o := (x5_1 : Int).toNat * 9 + 5) 5 (.int .i64 (wrap64 ((wrap64 ((wrap64 ((wrap64 ((wrap64 (x1_1 + 1)) + 1)) + 1)) + 1)) + 1))) rfl (by decide) rfl)); clear HH; have HH := n_; clear n_ hw; have hx_ := aM (HH.out.cell (o := (x5_1 : Int).toNat * 9 + 6) 6 _ rfl rfl); have hy_ : wa7.cell? ⟨g_, (x5_1 : Int).toNat * 9 + 6, none⟩ = some (.int .i64 ((rd_T45 x0_1 x5_1).f3.f3)) := hx_.out; have hz_ : wa7.frozen? ⟨g_, (x5_1 : Int).toNat * 9 + 6, none⟩ = false := HH.out.free (o := (x5_1 : Int).toNat * 9 + 6) 6 rfl; clear hx_) | ((with_reducible refine gate_store (t := 3) (p := 63) rfl ?_); refine store_event (t := 3) (p := 63) (v := ?vo_wa8) (w1 := (wa7.setCell ⟨g_, (x5_1 : Int).toNat * 9 + 6, none⟩ (.int .i64 (wrap64 ((wrap64 ((wrap64 ((wrap64 ((wrap64 ((wrap64 (x1_1 + 1)) + 1)) + 1)) + 1)) + 1)) + 1))))) ?hg ?ho ?hn ?hr ?_; (case ho => rfl); (case hg => rfl); (case hn => rfl); (case hr => first | (go_simp; done) | (go_simp; rfl)); intro wa8 hw; (try clear hy_); (try clear hz_); have n_ := aM ((by rw [hw]; exact HH.out.in_put HV7.out (.int .i64 (wrap64 ((wrap64 ((wrap64 ((wrap64 ((wrap64 ((wrap64 (x1_1 + 1)) + 1)) + 1)) + 1)) + 1)) + 1))) : Kd.R (Kd.int .i64) 3 wa8 w0.heap.size oki_ (.slice A7_ n7_ c7_) _)); clear HV7; have HV7 := n_; clear n_; have n_ := aM (show Hole k45 45 w0 w wa8 P0_ g_ _ _ x0_1 x5_1 oki_ [.string t0, .int .i64 (wrap64 (x1_1 + 1)), .int .i64 (wrap64 ((wrap64 (x1_1 + 1)) + 1)), .int .i64 (wrap64 ((wrap64 ((wrap64 (x1_1 + 1)) + 1)) + 1)), .int .i64 (wrap64 ((wrap64 ((wrap64 ((wrap64 (x1_1 + 1)) + 1)) + 1)) + 1)), .int .i64 (wrap64 ((wrap64 ((wrap64 ((wrap64 ((wrap64 (x1_1 + 1)) + 1)) + 1)) + 1)) + 1)), .int .i64 (wrap64 ((wrap64 ((wrap64 ((wrap64 ((wrap64 ((wrap64 (x1_1 + 1)) + 1)) + 1)) + 1)) + 1)) + 1)), .slice A7_ n7_ c7_, .bool ((rd_T45 x0_1 x5_1).f3.f5)] from (by rw [hw]; exact HH.out.put (o := (x5_1 : Int).toNat * 9 + 6) 6 (.int .i64 (wrap64 ((wrap64 ((wrap64 ((wrap64 ((wrap64 ((wrap64 (x1_1 + 1)) + 1)) + 1)) + 1)) + 1)) + 1))) rfl (by decide) rfl)); clear HH; have HH := n_; clear n_ hw; have hx_ := aM (HH.out.cell (o := (x5_1 : Int).toNat * 9 + 7) 7 _ rfl rfl); have hy_ : wa8.cell? ⟨g_, (x5_1 : Int).toNat * 9 + 7, none⟩ = some (.slice A7_ n7_ c7_) := hx_.out; clear hx_) | (go_at_call 38; (with_reducible refine (laws_markIntS.calls k1 (fun k_ => some k_ = (.slice A7_ n7_ c7_ : Value).ownBlock) (.slice A7_ n7_ c7_) ((rd_T45 x0_1 x5_1).f3.f4) (wrap64 ((wrap64 ((wrap64 ((wrap64 ((wrap64 ((wrap64 ((wrap64 (x1_1 + 1)) + 1)) + 1)) + 1)) + 1)) + 1)) + 1)) t1.1 t1.2 w0 _ ?s1 ?s2 At1.out).mono ?_); (case s1 => exact HH.out.hb); (case s2 => exact Kd.R_tight rfl HV7.out); rintro e wa9 ⟨rfl, ho, hb, hk⟩; (try clear hy_); (try clear hz_); have ht_ : ∀ k_, (fun k_ => some k_ = (.slice A7_ n7_ c7_ : Value).ownBlock) k_ → oki_ k_ := fun k_ e_ => HV7.out.1 k_ e_.symm; have n_ := aM (HH.out.kept hk hb ht_); clear HH; have HH := n_; clear n_; have n_ := aM (Kd.R_mono (Kd.R_tight rfl ho) (fun k_ e_ => ht_ k_ e_)); clear HV7 ho hb hk ht_; have HV7 := n_; clear n_; have hx_ := aM (HH.out.cell (o := (x5_1 : Int).toNat * 9 + 8) 8 _ rfl rfl); have hy_ : wa9.cell? ⟨g_, (x5_1 : Int).toNat * 9 + 8, none⟩ = some (.bool ((rd_T45 x0_1 x5_1).f3.f5)) := hx_.out; have hz_ : wa9.frozen? ⟨g_, (x5_1 : Int).toNat * 9 + 8, none⟩ = false := HH.out.free (o := (x5_1 : Int).toNat * 9 + 8) 8 rfl; clear hx_) | ((with_reducible refine gate_store (t := 4) (p := 81) rfl ?_); refine store_event (t := 4) (p := 81) (v := ?vo_wa10) (w1 := (wa9.setCell ⟨g_, (x5_1 : Int).toNat * 9 + 8, none⟩ (.bool (Int.tmod t1.1 3 == 0)))) ?hg ?ho ?hn ?hr ?_; (case ho => rfl); (case hg => rfl); (case hn => rfl); (case hr => first | (go_simp; done) | (go_simp; rfl)); intro wa10 hw; (try clear hy_); (try clear hz_); have n_ := aM ((by rw [hw]; exact HH.out.in_put HV7.out (.bool (Int.tmod t1.1 3 == 0)) : Kd.R (Kd.int .i64) 3 wa10 w0.heap.size oki_ (.slice A7_ n7_ c7_) _)); clear HV7; have HV7 := n_; clear n_; have n_ := aM (show Hole k45 45 w0 w wa10 P0_ g_ _ _ x0_1 x5_1 oki_ [.string t0, .int .i64 (wrap64 (x1_1 + 1)), .int .i64 (wrap64 ((wrap64 (x1_1 + 1)) + 1)), .int .i64 (wrap64 ((wrap64 ((wrap64 (x1_1 + 1)) + 1)) + 1)), .int .i64 (wrap64 ((wrap64 ((wrap64 ((wrap64 (x1_1 + 1)) + 1)) + 1)) + 1)), .int .i64 (wrap64 ((wrap64 ((wrap64 ((wrap64 ((wrap64 (x1_1 + 1)) + 1)) + 1)) + 1)) + 1)), .int .i64 (wrap64 ((wrap64 ((wrap64 ((wrap64 ((wrap64 ((wrap64 (x1_1 + 1)) + 1)) + 1)) + 1)) + 1)) + 1)), .slice A7_ n7_ c7_, .bool (Int.tmod t1.1 3 == 0)] from (by rw [hw]; exact HH.out.put (o := (x5_1 : Int).toNat * 9 + 8) 8 (.bool (Int.tmod t1.1 3 == 0)) rfl (by decide) rfl)); clear HH; have HH := n_; clear n_ hw; skip))
       go_roundg k1
       case measure => have := HK1.out; omega
       case rel =>
        have hq_ := HH.out.back (k45_mkM _ _ _ (⟨t0, (wrap64 (x1_1 + 1)), (wrap64 ((wrap64 (x1_1 + 1)) + 1)), (⟨(wrap64 ((wrap64 ((wrap64 (x1_1 + 1)) + 1)) + 1)), (wrap64 ((wrap64 ((wrap64 ((wrap64 (x1_1 + 1)) + 1)) + 1)) + 1)), (wrap64 ((wrap64 ((wrap64 ((wrap64 ((wrap64 (x1_1 + 1)) + 1)) + 1)) + 1)) + 1)), (wrap64 ((wrap64 ((wrap64 ((wrap64 ((wrap64 ((wrap64 (x1_1 + 1)) + 1)) + 1)) + 1)) + 1)) + 1)), t1.2, (Int.tmod t1.1 3 == 0)⟩ : S26)⟩ : S45) HV7.out)
        exact ⟨_, _, _, rfl, rfl, H', ⟨by have := HK1.out; omega⟩, ⟨by (with_reducible repeat (first | apply Kd.S_alloc | apply Kd.S_drewN | apply Kd.S_drew)); exact hq_.1⟩, ⟨by repeat (first | exact hq_.2.1 | apply Kept.alloc | apply Kept.drewN | apply Kept.drew)⟩, ⟨by repeat (first | exact hq_.2.2 | apply below_alloc | apply pw_below_drewN | apply below_drew1)⟩⟩
     · rw [if_neg c5] at H
       exact absurd H (by simp)
   · rw [if_neg c3] at H
     have c3b0 : decide (x5_1 < (x0_1.length : Int)) = false := decide_eq_false c3
     clear c3
     simp only [Option.some.injEq, Prod.mk.injEq] at H
     obtain ⟨rfl, rfl⟩ := H
     obtain ⟨Ao_, co_, eo_⟩ := Kd.S_slice HO_0.out
     subst eo_
     go_wp2
     go_ret
     exact ⟨rfl, by (with_reducible repeat (first | apply Kd.S_alloc | apply Kd.S_drewN | apply Kd.S_drew)); exact HO_0.out, by repeat (first | exact HB.out | apply below_alloc | apply pw_below_drewN | apply below_drew1), by repeat (first | exact HK.out | apply Kept.alloc | apply Kept.drewN | apply Kept.drew)⟩
end Go.Proofs.Ytdkokfnnebdppaa.P

-- written by a program of this session's (wip/pp)
namespace Go.Proofs.Ytdkokfnnebdppaa.P
open Go.RowKit Go.Proofs.YtdkokfnnebdppaaW.PrintWords Go.Proofs.YtdkokfnnebdppaaW.PrintLast Go.Proofs.YtdkokfnnebdppaaW.PrintMore
attribute [local go_sem] max2_int min2_int max_two min_two max_three min_three max_four min_four str_geq str_gtr str_leq   -- for this text's walks alone
set_option linter.unusedVariables false
set_option linter.unusedSimpArgs false

/-! ### laws_eqIntS: function 36 -/
def laws_eqIntS.l0 : Nat → List Int → List Int → Int → Option (Bool)
 | 0, _, _, _ => none
 | k + 1, x0, x1, x5 => if x5 < (x0.length : Int) then (if 0 ≤ x5 then (if x5 < (x1.length : Int) then (if (rd x0 x5) = (rd x1 x5) then (laws_eqIntS.l0 k x0 x1 (wrap64 (x5 + 1))) else (none)) else (none)) else (none)) else (some true)
def laws_eqIntS.f (k : Nat) (l0 : List Int) (l1 : List Int) : Option (Bool) := if (l0.length : Int) = (l1.length : Int) then (laws_eqIntS.l0 k l0 l1 0) else (none)
theorem laws_eqIntS.mono_l : ∀ k, (∀ y0 y1 y2, LeO (laws_eqIntS.l0 k y0 y1 y2) (laws_eqIntS.l0 (k + 1) y0 y1 y2))
 | 0 => fun _ _ _ r h => by simp [laws_eqIntS.l0] at h
 | k + 1 => by
  have ih0 := laws_eqIntS.mono_l k
  · intro y0 y1 y2
    unfold laws_eqIntS.l0
    repeat' first
     | (with_reducible first | exact ih0 .. | exact LeO.refl _ | exact LeO.none _ | refine LeO.ite ?_ ?_ | refine LeO.bind ?_ (fun _ => ?_))
     | exact LeO.none _
     | refine LeO.ite ?_ ?_
     | refine LeO.bind ?_ (fun _ => ?_)
theorem laws_eqIntS.mono : ∀ a0 a1 k, LeO (laws_eqIntS.f k a0 a1) (laws_eqIntS.f (k + 1) a0 a1) := by
 intro a0 a1 k
 have ih0 := laws_eqIntS.mono_l k
 unfold laws_eqIntS.f
 repeat' first
  | (with_reducible first | exact ih0 .. | exact LeO.refl _ | exact LeO.none _ | refine LeO.ite ?_ ?_ | refine LeO.bind ?_ (fun _ => ?_))
  | exact LeO.none _
  | refine LeO.ite ?_ ?_
  | refine LeO.bind ?_ (fun _ => ?_)
set_option maxHeartbeats 8000000 in
set_option maxRecDepth 100000 in
theorem laws_eqIntS.calls (k : Nat) (A0 : Option Addr) (c0 : Nat) (l0 : List Int) (A1 : Option Addr) (c1 : Nat) (l1 : List Int) (r : Bool) (w : World) (hr0 : Kd.C (Kd.int .i64) w A0 l0.length l0) (hc0 : l0.length ≤ c0) (hr1 : Kd.C (Kd.int .i64) w A1 l1.length l1) (hc1 : l1.length ≤ c1) (h : laws_eqIntS.f k l0 l1 = some r) :
 Calls Try.prog 36 #[.slice A0 l0.length c0, .slice A1 l1.length c1] w fun e w' => e = .returned (.bool r) ∧ Drawn0 w w' := by
 have HR0 := aM hr0
 have HC0 := aM hc0
 clear hr0 hc0
 have HR1 := aM hr1
 have HC1 := aM hc1
 clear hr1 hc1
 have H : (if (l0.length : Int) = (l1.length : Int) then (laws_eqIntS.l0 k l0 l1 0) else (none)) = some r := h
 clear h
 replace H := ifS H; obtain ⟨c3, H⟩ := H
 have c3b0 : ((l0.length : Int) == (l1.length : Int)) = true := beq_iff_eq.mpr c3
 have c3b1 : ((l0.length : Int) != (l1.length : Int)) = false := bne_eq_false_iff_eq.mpr c3
 have c3b2 : (l0.length == l1.length) = true := by first | simpa using c3 | (simp at c3 ⊢; omega)
 clear c3
 have H' := aM H
 clear H
 go_enter Try.func36, Try.ntmps36
 go_wp2
 repeat (go_quiet (fail); try go_wp2)
 go_loopg [5] k (fun kq v5 w' => ∃ (x5_1 : Int), v5 = .int .i64 x5_1 ∧ Aside0 (laws_eqIntS.l0 kq l0 l1 x5_1 = some r) ∧ Aside0 (kq ≤ k) ∧ Drawn0 w w')
 case atStart => exact ⟨(0), z4458, H', ⟨Nat.le_refl _⟩, za9de⟩
 case round =>
  clear H'
  try clear c1
  try clear p2
  try clear c3
  try clear c3b0
  try clear c3b1
  try clear c3b2
  obtain ⟨x5_1, rfl, HA, HK1, ⟨m1, rfl⟩⟩ := hrel
  cases gk with
  | zero => exact absurd HA.out (by simp [laws_eqIntS.l0])
  | succ k1 =>
   have H := HA.out
   clear HA
   simp only [laws_eqIntS.l0] at H
   by_cases c4 : x5_1 < (l0.length : Int)
   · rw [if_pos c4] at H
     have c4b0 : decide (x5_1 < (l0.length : Int)) = true := decide_eq_true c4
     clear c4
     replace H := ifS H; obtain ⟨c5, H⟩ := H
     have c5b0 : decide (0 ≤ x5_1) = true := decide_eq_true c5
     clear c5
     replace H := ifS H; obtain ⟨c6, H⟩ := H
     have c6b0 : decide (x5_1 < (l1.length : Int)) = true := decide_eq_true c6
     clear c6
     replace H := ifS H; obtain ⟨c7, H⟩ := H
     have c7b0 : ((rd l0 x5_1) == (rd l1 x5_1)) = true := beq_iff_eq.mpr c7
     have c7b1 : ((rd l0 x5_1) != (rd l1 x5_1)) = false := bne_eq_false_iff_eq.mpr c7
     clear c7
     have H' := aM H
     clear H
     have p101 : 0 ≤ (x5_1 : Int) := of_decide_eq_true z1200
     have q101 : x5_1 < (l0.length : Int) := of_decide_eq_true z1200
     obtain ⟨ad101, e101, hx101_0⟩ := Kd.at_int HR0.out x5_1 p101 q101
     cases e101
     replace p101 := eq_true p101
     replace q101 := eq_true q101
     have p102 : 0 ≤ (x5_1 : Int) := of_decide_eq_true z1200
     have q102 : x5_1 < (l1.length : Int) := of_decide_eq_true z1200
     obtain ⟨ad102, e102, hx102_0⟩ := Kd.at_int HR1.out x5_1 p102 q102
     cases e102
     replace p102 := eq_true p102
     replace q102 := eq_true q102
     go_wp2
     repeat (go_quiet (fail); try go_wp2)
     go_roundg k1
     case measure => have := HK1.out; omega
     case rel => exact ⟨(wrap64 (x5_1 + 1)), z4458, H', ⟨zfb39⟩, za9de⟩
   · rw [if_neg c4] at H
     have c4b0 : decide (x5_1 < (l0.length : Int)) = false := decide_eq_false c4
     clear c4
     obtain rfl := Option.some.inj H
     go_wp2
     repeat (go_quiet (fail); try go_wp2)
     go_ret
     exact ⟨z4458, za9de⟩
end Go.Proofs.Ytdkokfnnebdppaa.P

-- written by a program of this session's (wip/pp)
namespace Go.Proofs.Ytdkokfnnebdppaa.P
open Go.RowKit Go.Proofs.YtdkokfnnebdppaaW.PrintWords Go.Proofs.YtdkokfnnebdppaaW.PrintLast Go.Proofs.YtdkokfnnebdppaaW.PrintMore
attribute [local go_sem] max2_int min2_int max_two min_two max_three min_three max_four min_four str_geq str_gtr str_leq   -- for this text's walks alone
set_option linter.unusedVariables false
set_option linter.unusedSimpArgs false

/-! ### laws_eqAgg: function 11 -/
def laws_eqAgg.f (k : Nat) (a0_0 : Int) (a0_1 : Int) (a0_2 : Int) (a0_3 : Int) (l0_4 : List Int) (a0_5 : Bool) (a1_0 : Int) (a1_1 : Int) (a1_2 : Int) (a1_3 : Int) (l1_4 : List Int) (a1_5 : Bool) : Option (Bool) := if a0_0 = a1_0 then (if a0_1 = a1_1 then (if a0_2 = a1_2 then (if a0_3 = a1_3 then ((laws_eqIntS.f k l0_4 l1_4).bind fun t103 => (if t103 = true then (if (a0_5 != a1_5) = true then (none) else (some true)) else (none))) else (none)) else (none)) else (none)) else (none)
theorem laws_eqAgg.mono : ∀ a0 a1 a2 a3 a4 a5 a6 a7 a8 a9 a10 a11 k, LeO (laws_eqAgg.f k a0 a1 a2 a3 a4 a5 a6 a7 a8 a9 a10 a11) (laws_eqAgg.f (k + 1) a0 a1 a2 a3 a4 a5 a6 a7 a8 a9 a10 a11) := by
 intro a0 a1 a2 a3 a4 a5 a6 a7 a8 a9 a10 a11 k
 unfold laws_eqAgg.f
 repeat' first
  | (with_reducible first | exact laws_eqIntS.mono .. | exact LeO.refl _ | exact LeO.none _ | refine LeO.ite ?_ ?_ | refine LeO.bind ?_ (fun _ => ?_))
  | exact LeO.none _
  | refine LeO.ite ?_ ?_
  | refine LeO.bind ?_ (fun _ => ?_)
set_option maxHeartbeats 8000000 in
set_option maxRecDepth 100000 in
theorem laws_eqAgg.calls (k : Nat) (a0_0 : Int) (a0_1 : Int) (a0_2 : Int) (a0_3 : Int) (A0_4 : Option Addr) (c0_4 : Nat) (l0_4 : List Int) (a0_5 : Bool) (a1_0 : Int) (a1_1 : Int) (a1_2 : Int) (a1_3 : Int) (A1_4 : Option Addr) (c1_4 : Nat) (l1_4 : List Int) (a1_5 : Bool) (r : Bool) (w : World) (hr0_4 : Kd.C (Kd.int .i64) w A0_4 l0_4.length l0_4) (hc0_4 : l0_4.length ≤ c0_4) (hr1_4 : Kd.C (Kd.int .i64) w A1_4 l1_4.length l1_4) (hc1_4 : l1_4.length ≤ c1_4) (h : laws_eqAgg.f k a0_0 a0_1 a0_2 a0_3 l0_4 a0_5 a1_0 a1_1 a1_2 a1_3 l1_4 a1_5 = some r) :
 Calls Try.prog 11 #[.agg #[.int .i64 a0_0, .int .i64 a0_1, .int .i64 a0_2, .int .i64 a0_3, .slice A0_4 l0_4.length c0_4, .bool a0_5], .agg #[.int .i64 a1_0, .int .i64 a1_1, .int .i64 a1_2, .int .i64 a1_3, .slice A1_4 l1_4.length c1_4, .bool a1_5]] w fun e w' => e = .returned (.bool r) ∧ Below w.heap.size w w' := by
 have hu26 := Try.underlying26
 have HR0_4 := aM hr0_4
 have HC0_4 := aM hc0_4
 clear hr0_4 hc0_4
 have HR1_4 := aM hr1_4
 have HC1_4 := aM hc1_4
 clear hr1_4 hc1_4
 have HB := aM (Below.refl w.heap.size w)
 have H : (if a0_0 = a1_0 then (if a0_1 = a1_1 then (if a0_2 = a1_2 then (if a0_3 = a1_3 then ((laws_eqIntS.f k l0_4 l1_4).bind fun t103 => (if t103 = true then (if (a0_5 != a1_5) = true then (none) else (some true)) else (none))) else (none)) else (none)) else (none)) else (none)) = some r := h
 clear h
 replace H := ifS H; obtain ⟨c3, H⟩ := H
 have c3b0 : (a0_0 == a1_0) = true := beq_iff_eq.mpr c3
 have c3b1 : (a0_0 != a1_0) = false := bne_eq_false_iff_eq.mpr c3
 clear c3
 replace H := ifS H; obtain ⟨c4, H⟩ := H
 have c4b0 : (a0_1 == a1_1) = true := beq_iff_eq.mpr c4
 have c4b1 : (a0_1 != a1_1) = false := bne_eq_false_iff_eq.mpr c4
 clear c4
 replace H := ifS H; obtain ⟨c5, H⟩ := H
 have c5b0 : (a0_2 == a1_2) = true := beq_iff_eq.mpr c5
 have c5b1 : (a0_2 != a1_2) = false := bne_eq_false_iff_eq.mpr c5
 clear c5
 replace H := ifS H; obtain ⟨c6, H⟩ := H
 have c6b0 : (a0_3 == a1_3) = true := beq_iff_eq.mpr c6
 have c6b1 : (a0_3 != a1_3) = false := bne_eq_false_iff_eq.mpr c6
 clear c6
 replace H := Option.bind_eq_some_iff.mp H
 obtain ⟨t103, A70, H⟩ := H
 try dsimp only at H
 have A7 := aM A70
 clear A70
 by_cases c8 : t103 = true
 · subst c8
   rw [if_pos rfl] at H
   replace H := ifN H; obtain ⟨c9, H⟩ := H
   have c9b0 : (a0_5 != a1_5) = false := by simpa using c9
   (try (have c9b1 : decide (a0_5 = a1_5) = true := by simpa using c9))
   (try (have c9b2 : (a0_5 == a1_5) = true := by simpa using c9))
   clear c9
   obtain rfl := Option.some.inj H
   go_enter Try.func11, Try.ntmps11
   go_wp2_with (first | ((with_reducible refine gate_dst (N := 2) rfl ?_); refine box_event ?hg (N := 2) ?hd (cs := #[.int .i64 a0_0, .int .i64 a0_1, .int .i64 a0_2, .int .i64 a0_3, .slice A0_4 l0_4.length c0_4, .bool a0_5]) (t := 26) ?hr ?_; (case hd => rfl); (case hg => rfl); (case hr => first | (go_simp; done) | (go_simp; rfl)); intro gb101 hg w10 hbox hb; have _ := aM (below_step hbZ hb); have _ := aM hbox; have _ := szZ hg; have _ := szZ hg; clear HB; rename_i HB BK101 GW101 GE101; clear hb hbox hg) | ((with_reducible refine gate_dst (N := 3) rfl ?_); refine box_event ?hg (N := 3) ?hd (cs := #[.int .i64 a1_0, .int .i64 a1_1, .int .i64 a1_2, .int .i64 a1_3, .slice A1_4 l1_4.length c1_4, .bool a1_5]) (t := 26) ?hr ?_; (case hd => rfl); (case hg => rfl); (case hr => first | (go_simp; done) | (go_simp; rfl)); intro gb102 hg w11 hbox hb; have _ := bB gb101 hb; have _ := aM (below_step hbZ hb); have _ := aM hbox; have _ := szZ hg; have _ := szZ hg; have ⟨_, _⟩ := nbB gb101 hg; clear BK101 HB; rename_i BK101 HB BK102 GW102 GE102 NB101_102 NB102_101; clear hb hbox hg; have hnb12 := NB101_102.out; have hnc12 := NB102_101.out; obtain ⟨hcz13_0, hcz13_1, hcz13_2, hcz13_3, hcz13_4, hcz13_5, hfz13_0, hfz13_1, hfz13_2, hfz13_3, hfz13_4, hfz13_5⟩ := cellsZ6 BK101.out; obtain ⟨hcz14_0, hcz14_1, hcz14_2, hcz14_3, hcz14_4, hcz14_5, hfz14_0, hfz14_1, hfz14_2, hfz14_3, hfz14_4, hfz14_5⟩ := cellsZ6 BK102.out) | ((with_reducible refine gate_callee (f := 36) rfl ?_); refine goesL_ (some 29) rfl rfl Try.func36 (by kernel_rfl) rfl #[.slice A0_4 l0_4.length c0_4, .slice A1_4 l1_4.length c1_4] rfl zee81 ?_; (with_reducible refine (laws_eqIntS.calls k _ _ l0_4 _ _ l1_4 true _ ?side1 ?side2 ?side3 ?side4 A7.out).mono ?_); (case side1 => exact (cZ (Kd.C_below HR0_4.out HB.out))); (case side2 => exact HC0_4.out); (case side3 => exact (cZ (Kd.C_below HR1_4.out HB.out))); (case side4 => exact HC1_4.out); rintro e w' ⟨rfl, ⟨nd, rfl⟩⟩; refine ⟨_, rfl, ?_⟩))
   go_ret
   exact ⟨z674d, zcb41⟩
 · replace c8 := Bool.eq_false_iff.mpr c8
   subst c8
   rw [if_neg (show ¬ (false = true) by decide)] at H
   exact absurd H (by simp)
end Go.Proofs.Ytdkokfnnebdppaa.P

-- written by a program of this session's (wip/pp)
namespace Go.Proofs.Ytdkokfnnebdppaa.P
open Go.RowKit Go.Proofs.YtdkokfnnebdppaaW.PrintWords Go.Proofs.YtdkokfnnebdppaaW.PrintLast Go.Proofs.YtdkokfnnebdppaaW.PrintMore
attribute [local go_sem] max2_int min2_int max_two min_two max_three min_three max_four min_four str_geq str_gtr str_leq   -- for this text's walks alone
set_option linter.unusedVariables false
set_option linter.unusedSimpArgs false

/-! ### laws_eqEntry: function 23 -/
def laws_eqEntry.f (k : Nat) (a0_0 : ByteArray) (a0_1 : Int) (a0_2 : Int) (a0_3 : Int) (a0_4 : Int) (a0_5 : Int) (a0_6 : Int) (l0_7 : List Int) (a0_8 : Bool) (a1_0 : ByteArray) (a1_1 : Int) (a1_2 : Int) (a1_3 : Int) (a1_4 : Int) (a1_5 : Int) (a1_6 : Int) (l1_7 : List Int) (a1_8 : Bool) : Option (Bool) := if a0_0.toList = a1_0.toList then (if a0_1 = a1_1 then (if a0_2 = a1_2 then ((laws_eqAgg.f k a0_3 a0_4 a0_5 a0_6 l0_7 a0_8 a1_3 a1_4 a1_5 a1_6 l1_7 a1_8).bind fun t103 => (if t103 = true then (some true) else (none))) else (none)) else (none)) else (none)
theorem laws_eqEntry.mono : ∀ a0 a1 a2 a3 a4 a5 a6 a7 a8 a9 a10 a11 a12 a13 a14 a15 a16 a17 k, LeO (laws_eqEntry.f k a0 a1 a2 a3 a4 a5 a6 a7 a8 a9 a10 a11 a12 a13 a14 a15 a16 a17) (laws_eqEntry.f (k + 1) a0 a1 a2 a3 a4 a5 a6 a7 a8 a9 a10 a11 a12 a13 a14 a15 a16 a17) := by
 intro a0 a1 a2 a3 a4 a5 a6 a7 a8 a9 a10 a11 a12 a13 a14 a15 a16 a17 k
 unfold laws_eqEntry.f
 repeat' first
  | (with_reducible first | exact laws_eqAgg.mono .. | exact LeO.refl _ | exact LeO.none _ | refine LeO.ite ?_ ?_ | refine LeO.bind ?_ (fun _ => ?_))
  | exact LeO.none _
  | refine LeO.ite ?_ ?_
  | refine LeO.bind ?_ (fun _ => ?_)
set_option maxHeartbeats 8000000 in
set_option maxRecDepth 100000 in
theorem laws_eqEntry.calls (k : Nat) (a0_0 : ByteArray) (a0_1 : Int) (a0_2 : Int) (a0_3 : Int) (a0_4 : Int) (a0_5 : Int) (a0_6 : Int) (A0_7 : Option Addr) (c0_7 : Nat) (l0_7 : List Int) (a0_8 : Bool) (a1_0 : ByteArray) (a1_1 : Int) (a1_2 : Int) (a1_3 : Int) (a1_4 : Int) (a1_5 : Int) (a1_6 : Int) (A1_7 : Option Addr) (c1_7 : Nat) (l1_7 : List Int) (a1_8 : Bool) (r : Bool) (w : World) (hr0_7 : Kd.C (Kd.int .i64) w A0_7 l0_7.length l0_7) (hc0_7 : l0_7.length ≤ c0_7) (hr1_7 : Kd.C (Kd.int .i64) w A1_7 l1_7.length l1_7) (hc1_7 : l1_7.length ≤ c1_7) (h : laws_eqEntry.f k a0_0 a0_1 a0_2 a0_3 a0_4 a0_5 a0_6 l0_7 a0_8 a1_0 a1_1 a1_2 a1_3 a1_4 a1_5 a1_6 l1_7 a1_8 = some r) :
 Calls Try.prog 23 #[.agg #[.string a0_0, .int .i64 a0_1, .int .i64 a0_2, .int .i64 a0_3, .int .i64 a0_4, .int .i64 a0_5, .int .i64 a0_6, .slice A0_7 l0_7.length c0_7, .bool a0_8], .agg #[.string a1_0, .int .i64 a1_1, .int .i64 a1_2, .int .i64 a1_3, .int .i64 a1_4, .int .i64 a1_5, .int .i64 a1_6, .slice A1_7 l1_7.length c1_7, .bool a1_8]] w fun e w' => e = .returned (.bool r) ∧ Below w.heap.size w w' := by
 have hu45 := Try.underlying45
 have hu26 := Try.underlying26
 have HR0_7 := aM hr0_7
 have HC0_7 := aM hc0_7
 clear hr0_7 hc0_7
 have HR1_7 := aM hr1_7
 have HC1_7 := aM hc1_7
 clear hr1_7 hc1_7
 have HB := aM (Below.refl w.heap.size w)
 have H : (if a0_0.toList = a1_0.toList then (if a0_1 = a1_1 then (if a0_2 = a1_2 then ((laws_eqAgg.f k a0_3 a0_4 a0_5 a0_6 l0_7 a0_8 a1_3 a1_4 a1_5 a1_6 l1_7 a1_8).bind fun t103 => (if t103 = true then (some true) else (none))) else (none)) else (none)) else (none)) = some r := h
 clear h
 replace H := ifS H; obtain ⟨c3, H⟩ := H
 have c3b0 : (a0_0.toList == a1_0.toList) = true := beq_iff_eq.mpr c3
 have c3b1 : (a0_0.toList != a1_0.toList) = false := bne_eq_false_iff_eq.mpr c3
 clear c3
 replace H := ifS H; obtain ⟨c4, H⟩ := H
 have c4b0 : (a0_1 == a1_1) = true := beq_iff_eq.mpr c4
 have c4b1 : (a0_1 != a1_1) = false := bne_eq_false_iff_eq.mpr c4
 clear c4
 replace H := ifS H; obtain ⟨c5, H⟩ := H
 have c5b0 : (a0_2 == a1_2) = true := beq_iff_eq.mpr c5
 have c5b1 : (a0_2 != a1_2) = false := bne_eq_false_iff_eq.mpr c5
 clear c5
 replace H := Option.bind_eq_some_iff.mp H
 obtain ⟨t103, A60, H⟩ := H
 try dsimp only at H
 have A6 := aM A60
 clear A60
 by_cases c7 : t103 = true
 · subst c7
   rw [if_pos rfl] at H
   obtain rfl := Option.some.inj H
   go_enter Try.func23, Try.ntmps23
   go_wp2_with (first | ((with_reducible refine gate_dst (N := 2) rfl ?_); refine box_event ?hg (N := 2) ?hd (cs := #[.string a0_0, .int .i64 a0_1, .int .i64 a0_2, .int .i64 a0_3, .int .i64 a0_4, .int .i64 a0_5, .int .i64 a0_6, .slice A0_7 l0_7.length c0_7, .bool a0_8]) (t := 45) ?hr ?_; (case hd => rfl); (case hg => rfl); (case hr => first | (go_simp; done) | (go_simp; rfl)); intro gb101 hg w8 hbox hb; have _ := aM (below_step hbZ hb); have _ := aM hbox; have _ := szZ hg; have _ := szZ hg; clear HB; rename_i HB BK101 GW101 GE101; clear hb hbox hg) | ((with_reducible refine gate_dst (N := 3) rfl ?_); refine box_event ?hg (N := 3) ?hd (cs := #[.string a1_0, .int .i64 a1_1, .int .i64 a1_2, .int .i64 a1_3, .int .i64 a1_4, .int .i64 a1_5, .int .i64 a1_6, .slice A1_7 l1_7.length c1_7, .bool a1_8]) (t := 45) ?hr ?_; (case hd => rfl); (case hg => rfl); (case hr => first | (go_simp; done) | (go_simp; rfl)); intro gb102 hg w9 hbox hb; have _ := bB gb101 hb; have _ := aM (below_step hbZ hb); have _ := aM hbox; have _ := szZ hg; have _ := szZ hg; have ⟨_, _⟩ := nbB gb101 hg; clear BK101 HB; rename_i BK101 HB BK102 GW102 GE102 NB101_102 NB102_101; clear hb hbox hg; have hnb10 := NB101_102.out; have hnc10 := NB102_101.out; obtain ⟨hcz11_0, hcz11_1, hcz11_2, hcz11_3, hcz11_4, hcz11_5, hcz11_6, hcz11_7, hcz11_8, hfz11_0, hfz11_1, hfz11_2, hfz11_3, hfz11_4, hfz11_5, hfz11_6, hfz11_7, hfz11_8⟩ := cellsZ9 BK101.out; obtain ⟨hcz12_0, hcz12_1, hcz12_2, hcz12_3, hcz12_4, hcz12_5, hcz12_6, hcz12_7, hcz12_8, hfz12_0, hfz12_1, hfz12_2, hfz12_3, hfz12_4, hfz12_5, hfz12_6, hfz12_7, hfz12_8⟩ := cellsZ9 BK102.out) | ((with_reducible refine gate_callee (f := 11) rfl ?_); refine goesL_ (some 24) rfl rfl Try.func11 (by kernel_rfl) rfl #[.agg #[.int .i64 a0_3, .int .i64 a0_4, .int .i64 a0_5, .int .i64 a0_6, .slice A0_7 l0_7.length c0_7, .bool a0_8], .agg #[.int .i64 a1_3, .int .i64 a1_4, .int .i64 a1_5, .int .i64 a1_6, .slice A1_7 l1_7.length c1_7, .bool a1_8]] rfl zee81 ?_; (with_reducible refine (laws_eqAgg.calls k a0_3 a0_4 a0_5 a0_6 _ _ l0_7 a0_8 a1_3 a1_4 a1_5 a1_6 _ _ l1_7 a1_8 true _ ?side1 ?side2 ?side3 ?side4 A6.out).mono ?_); (case side1 => exact (cZ (Kd.C_below HR0_7.out HB.out))); (case side2 => exact HC0_7.out); (case side3 => exact (cZ (Kd.C_below HR1_7.out HB.out))); (case side4 => exact HC1_7.out); rintro e w13 ⟨rfl, hb⟩; refine ⟨_, rfl, ?_⟩; have _ := bB gb101 hb; have _ := bB gb102 hb; have _ := aM (below_step hbZ hb); clear BK101 BK102 HB; rename_i BK101 BK102 HB; (try clear hb)))
   go_ret
   exact ⟨z674d, zcb41⟩
 · replace c7 := Bool.eq_false_iff.mpr c7
   subst c7
   rw [if_neg (show ¬ (false = true) by decide)] at H
   exact absurd H (by simp)
end Go.Proofs.Ytdkokfnnebdppaa.P

-- written by a program of this session's (wip/pp)
namespace Go.Proofs.Ytdkokfnnebdppaa.P
open Go.RowKit Go.Proofs.YtdkokfnnebdppaaW.PrintWords Go.Proofs.YtdkokfnnebdppaaW.PrintLast Go.Proofs.YtdkokfnnebdppaaW.PrintMore
attribute [local go_sem] max2_int min2_int max_two min_two max_three min_three max_four min_four str_geq str_gtr str_leq   -- for this text's walks alone
set_option linter.unusedVariables false
set_option linter.unusedSimpArgs false

/-! ### laws_eqEntryS: function 12 -/
def laws_eqEntryS.l0 : Nat → List (S45) → List (S45) → Int → Option (Bool)
 | 0, _, _, _ => none
 | k + 1, x0, x1, x5 => if x5 < (x0.length : Int) then (if 0 ≤ x5 then (if x5 < (x1.length : Int) then ((laws_eqEntry.f k ((rd_T45 x0 x5).f0) ((rd_T45 x0 x5).f1) ((rd_T45 x0 x5).f2) ((rd_T45 x0 x5).f3.f0) ((rd_T45 x0 x5).f3.f1) ((rd_T45 x0 x5).f3.f2) ((rd_T45 x0 x5).f3.f3) ((rd_T45 x0 x5).f3.f4) ((rd_T45 x0 x5).f3.f5) ((rd_T45 x1 x5).f0) ((rd_T45 x1 x5).f1) ((rd_T45 x1 x5).f2) ((rd_T45 x1 x5).f3.f0) ((rd_T45 x1 x5).f3.f1) ((rd_T45 x1 x5).f3.f2) ((rd_T45 x1 x5).f3.f3) ((rd_T45 x1 x5).f3.f4) ((rd_T45 x1 x5).f3.f5)).bind fun t103 => (if t103 = true then (laws_eqEntryS.l0 k x0 x1 (wrap64 (x5 + 1))) else (none))) else (none)) else (none)) else (some true)
def laws_eqEntryS.f (k : Nat) (l0 : List (S45)) (l1 : List (S45)) : Option (Bool) := if (l0.length : Int) = (l1.length : Int) then (laws_eqEntryS.l0 k l0 l1 0) else (none)
theorem laws_eqEntryS.mono_l : ∀ k, (∀ y0 y1 y2, LeO (laws_eqEntryS.l0 k y0 y1 y2) (laws_eqEntryS.l0 (k + 1) y0 y1 y2))
 | 0 => fun _ _ _ r h => by simp [laws_eqEntryS.l0] at h
 | k + 1 => by
  have ih0 := laws_eqEntryS.mono_l k
  · intro y0 y1 y2
    unfold laws_eqEntryS.l0
    repeat' first
     | (with_reducible first | exact ih0 .. | exact laws_eqEntry.mono .. | exact LeO.refl _ | exact LeO.none _ | refine LeO.ite ?_ ?_ | refine LeO.bind ?_ (fun _ => ?_))
     | exact LeO.none _
     | refine LeO.ite ?_ ?_
     | refine LeO.bind ?_ (fun _ => ?_)
theorem laws_eqEntryS.mono : ∀ a0 a1 k, LeO (laws_eqEntryS.f k a0 a1) (laws_eqEntryS.f (k + 1) a0 a1) := by
 intro a0 a1 k
 have ih0 := laws_eqEntryS.mono_l k
 unfold laws_eqEntryS.f
 repeat' first
  | (with_reducible first | exact ih0 .. | exact laws_eqEntry.mono .. | exact LeO.refl _ | exact LeO.none _ | refine LeO.ite ?_ ?_ | refine LeO.bind ?_ (fun _ => ?_))
  | exact LeO.none _
  | refine LeO.ite ?_ ?_
  | refine LeO.bind ?_ (fun _ => ?_)
def laws_eqEntryS.T6 : Bool × List (List Nat × List Nat) := (true, [([], []), ([], []), ([0, 1], [0, 1]), ([2], [2]), ([], []), ([], []), ([4, 5], [4, 5]), ([6], [6]), ([3, 7], [3, 7]), ([8], [8])])
def laws_eqEntryS.B6 : List Nat := [0, 0, 3, 7, 0, 0, 48, 112, 255, 511]
theorem laws_eqEntryS.tab6 : rtab .any (opsOf Try.f12 6) = laws_eqEntryS.T6 := by kernel_rfl
theorem laws_eqEntryS.bits6 : waitsOk laws_eqEntryS.T6.2 laws_eqEntryS.B6 = true := by kernel_rfl
set_option maxHeartbeats 8000000 in
set_option maxRecDepth 100000 in
theorem laws_eqEntryS.calls (k : Nat) (A0 : Option Addr) (c0 : Nat) (l0 : List (S45)) (A1 : Option Addr) (c1 : Nat) (l1 : List (S45)) (r : Bool) (w : World) (hr0 : Kd.C k45 w A0 l0.length l0) (hc0 : l0.length ≤ c0) (hr1 : Kd.C k45 w A1 l1.length l1) (hc1 : l1.length ≤ c1) (h : laws_eqEntryS.f k l0 l1 = some r) :
 Calls Try.prog 12 #[.slice A0 l0.length c0, .slice A1 l1.length c1] w fun e w' => e = .returned (.bool r) ∧ Below w.heap.size w w' := by
 have hu45 := Try.underlying45
 have HR0 := aM hr0
 have HC0 := aM hc0
 clear hr0 hc0
 have HR1 := aM hr1
 have HC1 := aM hc1
 clear hr1 hc1
 have HB := aM (Below.refl w.heap.size w)
 have H : (if (l0.length : Int) = (l1.length : Int) then (laws_eqEntryS.l0 k l0 l1 0) else (none)) = some r := h
 clear h
 replace H := ifS H; obtain ⟨c3, H⟩ := H
 have c3b0 : ((l0.length : Int) == (l1.length : Int)) = true := beq_iff_eq.mpr c3
 have c3b1 : ((l0.length : Int) != (l1.length : Int)) = false := bne_eq_false_iff_eq.mpr c3
 have c3b2 : (l0.length == l1.length) = true := by first | simpa using c3 | (simp at c3 ⊢; omega)
 clear c3
 have H' := aM H
 clear H
 go_enter Try.func12, Try.ntmps12
 go_wp2
 go_loopg [5] k (fun kq v5 w' => ∃ (x5_1 : Int), v5 = .int .i64 x5_1 ∧ Aside0 (laws_eqEntryS.l0 kq l0 l1 x5_1 = some r) ∧ Aside0 (kq ≤ k) ∧ Aside0 (Below w.heap.size w w'))
 case atStart => exact ⟨(0), z4458, H', ⟨Nat.le_refl _⟩, ⟨z5acd⟩⟩
 case round =>
  clear H'
  try clear c1
  try clear p2
  try clear c3
  try clear c3b0
  try clear c3b1
  try clear c3b2
  obtain ⟨x5_1, rfl, HA, HK1, HB⟩ := hrel
  cases gk with
  | zero => exact absurd HA.out (by simp [laws_eqEntryS.l0])
  | succ k1 =>
   have H := HA.out
   clear HA
   simp only [laws_eqEntryS.l0] at H
   by_cases c4 : x5_1 < (l0.length : Int)
   · rw [if_pos c4] at H
     have c4b0 : decide (x5_1 < (l0.length : Int)) = true := decide_eq_true c4
     clear c4
     replace H := ifS H; obtain ⟨c5, H⟩ := H
     have c5b0 : decide (0 ≤ x5_1) = true := decide_eq_true c5
     clear c5
     replace H := ifS H; obtain ⟨c6, H⟩ := H
     have c6b0 : decide (x5_1 < (l1.length : Int)) = true := decide_eq_true c6
     clear c6
     replace H := Option.bind_eq_some_iff.mp H
     obtain ⟨t103, A70, H⟩ := H
     try dsimp only at H
     have A7 := aM A70
     clear A70
     by_cases c8 : t103 = true
     · subst c8
       rw [if_pos rfl] at H
       have H' := aM H
       clear H
       try go_wp2
       have _ := aM (below_drew1 HB.out)
       clear HB
       rename_i HB
       have p101 : 0 ≤ (x5_1 : Int) := of_decide_eq_true z1200
       have q101 : x5_1 < (l0.length : Int) := of_decide_eq_true z1200
       obtain ⟨ad101, A101_7, c101_7, e101, hx101_0, hx101_1, hx101_2, hx101_3, hx101_4, hx101_5, hx101_6, hx101_7, hx101_8, hl101_7, hi101_7⟩ := at_T45 HR0.out x5_1 p101 q101
       have hw101_8 := hx101_8
       have hw101_7 := hx101_7
       have hw101_6 := hx101_6
       have hw101_5 := hx101_5
       have hw101_4 := hx101_4
       have hw101_3 := hx101_3
       have hw101_2 := hx101_2
       have hw101_1 := hx101_1
       have hw101_0 := hx101_0
       cases e101
       have TW101_7 := aM hx101_7
       replace hx101_0 := (HB.out.cell (World.block_lt_of_cell? w _ hx101_0)).trans hx101_0
       replace hx101_1 := (HB.out.cell (World.block_lt_of_cell? w _ hx101_1)).trans hx101_1
       replace hx101_2 := (HB.out.cell (World.block_lt_of_cell? w _ hx101_2)).trans hx101_2
       replace hx101_3 := (HB.out.cell (World.block_lt_of_cell? w _ hx101_3)).trans hx101_3
       replace hx101_4 := (HB.out.cell (World.block_lt_of_cell? w _ hx101_4)).trans hx101_4
       replace hx101_5 := (HB.out.cell (World.block_lt_of_cell? w _ hx101_5)).trans hx101_5
       replace hx101_6 := (HB.out.cell (World.block_lt_of_cell? w _ hx101_6)).trans hx101_6
       replace hx101_7 := (HB.out.cell (World.block_lt_of_cell? w _ hx101_7)).trans hx101_7
       replace hx101_8 := (HB.out.cell (World.block_lt_of_cell? w _ hx101_8)).trans hx101_8
       have HR101_7 := aM hi101_7
       have HC101_7 := aM hl101_7
       clear hi101_7 hl101_7
       replace p101 := eq_true p101
       replace q101 := eq_true q101
       have p102 : 0 ≤ (x5_1 : Int) := of_decide_eq_true z1200
       have q102 : x5_1 < (l1.length : Int) := of_decide_eq_true z1200
       obtain ⟨ad102, A102_7, c102_7, e102, hx102_0, hx102_1, hx102_2, hx102_3, hx102_4, hx102_5, hx102_6, hx102_7, hx102_8, hl102_7, hi102_7⟩ := at_T45 HR1.out x5_1 p102 q102
       have hw102_8 := hx102_8
       have hw102_7 := hx102_7
       have hw102_6 := hx102_6
       have hw102_5 := hx102_5
       have hw102_4 := hx102_4
       have hw102_3 := hx102_3
       have hw102_2 := hx102_2
       have hw102_1 := hx102_1
       have hw102_0 := hx102_0
       cases e102
       have TW102_7 := aM hx102_7
       replace hx102_0 := (HB.out.cell (World.block_lt_of_cell? w _ hx102_0)).trans hx102_0
       replace hx102_1 := (HB.out.cell (World.block_lt_of_cell? w _ hx102_1)).trans hx102_1
       replace hx102_2 := (HB.out.cell (World.block_lt_of_cell? w _ hx102_2)).trans hx102_2
       replace hx102_3 := (HB.out.cell (World.block_lt_of_cell? w _ hx102_3)).trans hx102_3
       replace hx102_4 := (HB.out.cell (World.block_lt_of_cell? w _ hx102_4)).trans hx102_4
       replace hx102_5 := (HB.out.cell (World.block_lt_of_cell? w _ hx102_5)).trans hx102_5
       replace hx102_6 := (HB.out.cell (World.block_lt_of_cell? w _ hx102_6)).trans hx102_6
       replace hx102_7 := (HB.out.cell (World.block_lt_of_cell? w _ hx102_7)).trans hx102_7
       replace hx102_8 := (HB.out.cell (World.block_lt_of_cell? w _ hx102_8)).trans hx102_8
       have HR102_7 := aM hi102_7
       have HC102_7 := aM hl102_7
       clear hi102_7 hl102_7
       replace p102 := eq_true p102
       replace q102 := eq_true q102
       refine sA 10 laws_eqEntryS.tab6 laws_eqEntryS.bits6 (fun w' => w'.cell? (ad101.add ((x5_1).toNat * 9)) = some (.string ((rd_T45 l0 x5_1).f0)) ∧ w'.cell? ⟨(ad101.add ((x5_1).toNat * 9)).block, (ad101.add ((x5_1).toNat * 9)).off + 1, none⟩ = some (.int .i64 ((rd_T45 l0 x5_1).f1)) ∧ w'.cell? ⟨(ad101.add ((x5_1).toNat * 9)).block, (ad101.add ((x5_1).toNat * 9)).off + 2, none⟩ = some (.int .i64 ((rd_T45 l0 x5_1).f2)) ∧ w'.cell? ⟨(ad101.add ((x5_1).toNat * 9)).block, (ad101.add ((x5_1).toNat * 9)).off + 3, none⟩ = some (.int .i64 ((rd_T45 l0 x5_1).f3.f0)) ∧ w'.cell? ⟨(ad101.add ((x5_1).toNat * 9)).block, (ad101.add ((x5_1).toNat * 9)).off + 4, none⟩ = some (.int .i64 ((rd_T45 l0 x5_1).f3.f1)) ∧ w'.cell? ⟨(ad101.add ((x5_1).toNat * 9)).block, (ad101.add ((x5_1).toNat * 9)).off + 5, none⟩ = some (.int .i64 ((rd_T45 l0 x5_1).f3.f2)) ∧ w'.cell? ⟨(ad101.add ((x5_1).toNat * 9)).block, (ad101.add ((x5_1).toNat * 9)).off + 6, none⟩ = some (.int .i64 ((rd_T45 l0 x5_1).f3.f3)) ∧ w'.cell? ⟨(ad101.add ((x5_1).toNat * 9)).block, (ad101.add ((x5_1).toNat * 9)).off + 7, none⟩ = some (.slice A101_7 ((rd_T45 l0 x5_1).f3.f4).length c101_7) ∧ w'.cell? ⟨(ad101.add ((x5_1).toNat * 9)).block, (ad101.add ((x5_1).toNat * 9)).off + 8, none⟩ = some (.bool ((rd_T45 l0 x5_1).f3.f5)) ∧ w'.cell? (ad102.add ((x5_1).toNat * 9)) = some (.string ((rd_T45 l1 x5_1).f0)) ∧ w'.cell? ⟨(ad102.add ((x5_1).toNat * 9)).block, (ad102.add ((x5_1).toNat * 9)).off + 1, none⟩ = some (.int .i64 ((rd_T45 l1 x5_1).f1)) ∧ w'.cell? ⟨(ad102.add ((x5_1).toNat * 9)).block, (ad102.add ((x5_1).toNat * 9)).off + 2, none⟩ = some (.int .i64 ((rd_T45 l1 x5_1).f2)) ∧ w'.cell? ⟨(ad102.add ((x5_1).toNat * 9)).block, (ad102.add ((x5_1).toNat * 9)).off + 3, none⟩ = some (.int .i64 ((rd_T45 l1 x5_1).f3.f0)) ∧ w'.cell? ⟨(ad102.add ((x5_1).toNat * 9)).block, (ad102.add ((x5_1).toNat * 9)).off + 4, none⟩ = some (.int .i64 ((rd_T45 l1 x5_1).f3.f1)) ∧ w'.cell? ⟨(ad102.add ((x5_1).toNat * 9)).block, (ad102.add ((x5_1).toNat * 9)).off + 5, none⟩ = some (.int .i64 ((rd_T45 l1 x5_1).f3.f2)) ∧ w'.cell? ⟨(ad102.add ((x5_1).toNat * 9)).block, (ad102.add ((x5_1).toNat * 9)).off + 6, none⟩ = some (.int .i64 ((rd_T45 l1 x5_1).f3.f3)) ∧ w'.cell? ⟨(ad102.add ((x5_1).toNat * 9)).block, (ad102.add ((x5_1).toNat * 9)).off + 7, none⟩ = some (.slice A102_7 ((rd_T45 l1 x5_1).f3.f4).length c102_7) ∧ w'.cell? ⟨(ad102.add ((x5_1).toNat * 9)).block, (ad102.add ((x5_1).toNat * 9)).off + 8, none⟩ = some (.bool ((rd_T45 l1 x5_1).f3.f5))) [] (fun hHeld HT_ HW_ => ?_)
       generalize wr.drew = w9 at HB HR101_7 HR102_7 hx101_0 hx101_1 hx101_2 hx101_3 hx101_4 hx101_5 hx101_6 hx101_7 hx101_8 hx102_0 hx102_1 hx102_2 hx102_3 hx102_4 hx102_5 hx102_6 hx102_7 hx102_8 hHeld ⊢
       refine pA 0 17 HT_ ?_; refine pA 1 18 HT_ ?_; refine pA 2 19 HT_ ?_; refine pA 4 21 HT_ ?_; refine pA 5 22 HT_ ?_; refine pA 6 23 HT_ ?_; refine tA 3 20 HT_ HW_ hHeld ?_; refine tA 7 24 HT_ HW_ hHeld ?_; refine oA 8 25 HT_ (fun K hK => ?_)
       refine goes_ Try.func23 (by kernel_rfl) rfl #[.agg #[.string ((rd_T45 l0 x5_1).f0), .int .i64 ((rd_T45 l0 x5_1).f1), .int .i64 ((rd_T45 l0 x5_1).f2), .int .i64 ((rd_T45 l0 x5_1).f3.f0), .int .i64 ((rd_T45 l0 x5_1).f3.f1), .int .i64 ((rd_T45 l0 x5_1).f3.f2), .int .i64 ((rd_T45 l0 x5_1).f3.f3), .slice A101_7 ((rd_T45 l0 x5_1).f3.f4).length c101_7, .bool ((rd_T45 l0 x5_1).f3.f5)], .agg #[.string ((rd_T45 l1 x5_1).f0), .int .i64 ((rd_T45 l1 x5_1).f1), .int .i64 ((rd_T45 l1 x5_1).f2), .int .i64 ((rd_T45 l1 x5_1).f3.f0), .int .i64 ((rd_T45 l1 x5_1).f3.f1), .int .i64 ((rd_T45 l1 x5_1).f3.f2), .int .i64 ((rd_T45 l1 x5_1).f3.f3), .slice A102_7 ((rd_T45 l1 x5_1).f3.f4).length c102_7, .bool ((rd_T45 l1 x5_1).f3.f5)]] (by rfl) rfl rfl zee81 ?_
       with_reducible refine (laws_eqEntry.calls k1 ((rd_T45 l0 x5_1).f0) ((rd_T45 l0 x5_1).f1) ((rd_T45 l0 x5_1).f2) ((rd_T45 l0 x5_1).f3.f0) ((rd_T45 l0 x5_1).f3.f1) ((rd_T45 l0 x5_1).f3.f2) ((rd_T45 l0 x5_1).f3.f3) _ _ ((rd_T45 l0 x5_1).f3.f4) ((rd_T45 l0 x5_1).f3.f5) ((rd_T45 l1 x5_1).f0) ((rd_T45 l1 x5_1).f1) ((rd_T45 l1 x5_1).f2) ((rd_T45 l1 x5_1).f3.f0) ((rd_T45 l1 x5_1).f3.f1) ((rd_T45 l1 x5_1).f3.f2) ((rd_T45 l1 x5_1).f3.f3) _ _ ((rd_T45 l1 x5_1).f3.f4) ((rd_T45 l1 x5_1).f3.f5) true _ ?side1 ?side2 ?side3 ?side4 A7.out).mono ?_
       (case side1 => exact (cZ (Kd.C_below HR101_7.out HB.out)))
       (case side2 => exact HC101_7.out)
       (case side3 => exact (cZ (Kd.C_below HR102_7.out HB.out)))
       (case side4 => exact HC102_7.out)
       rintro e w10 ⟨rfl, hb⟩
       refine ⟨_, rfl, ?_⟩
       have _ := aM (below_step hbZ hb)
       clear HB
       rename_i HB
       (try clear hb)
       (try clear hb2)
       (try clear hk)
       (try clear hi)
       refine hK.out _ _ sZ (fun hHeld => ?_)
       clear hK K
       refine nA 25 ?_; refine pA 9 26 HT_ ?_
       refine done_ (done_of HT_.out (by kernel_rfl)) ?_
       try go_wp2
       go_roundg k1
       case measure => have := HK1.out; omega
       case rel => exact ⟨(wrap64 (x5_1 + 1)), z4458, H', ⟨zfb39⟩, ⟨z5acd⟩⟩
     · replace c8 := Bool.eq_false_iff.mpr c8
       subst c8
       rw [if_neg (show ¬ (false = true) by decide)] at H
       exact absurd H (by simp)
   · rw [if_neg c4] at H
     have c4b0 : decide (x5_1 < (l0.length : Int)) = false := decide_eq_false c4
     clear c4
     obtain rfl := Option.some.inj H
     go_wp2
     go_ret
     exact ⟨z674d, z5acd⟩
end Go.Proofs.Ytdkokfnnebdppaa.P

-- written by a program of this session's (wip/pp)
namespace Go.Proofs.Ytdkokfnnebdppaa.P
open Go.RowKit Go.Proofs.YtdkokfnnebdppaaW.PrintWords Go.Proofs.YtdkokfnnebdppaaW.PrintLast Go.Proofs.YtdkokfnnebdppaaW.PrintMore
attribute [local go_sem] max2_int min2_int max_two min_two max_three min_three max_four min_four str_geq str_gtr str_leq   -- for this text's walks alone
set_option linter.unusedVariables false
set_option linter.unusedSimpArgs false

/-! ### laws_heldIntS: function 39 -/
def laws_heldIntS.l0 : Nat → List Int → Int → Int → Option (Int)
 | 0, _, _, _ => none
 | k + 1, x0, x1, x5 => if x5 < (x0.length : Int) then (if 0 ≤ x5 then (if (rd x0 x5) = x1 then (laws_heldIntS.l0 k x0 (wrap64 (x1 + 1)) (wrap64 (x5 + 1))) else (none)) else (none)) else (some x1)
def laws_heldIntS.f (k : Nat) (l0 : List Int) (a1 : Int) : Option (Int) := laws_heldIntS.l0 k l0 a1 0
theorem laws_heldIntS.mono_l : ∀ k, (∀ y0 y1 y2, LeO (laws_heldIntS.l0 k y0 y1 y2) (laws_heldIntS.l0 (k + 1) y0 y1 y2))
 | 0 => fun _ _ _ r h => by simp [laws_heldIntS.l0] at h
 | k + 1 => by
  have ih0 := laws_heldIntS.mono_l k
  · intro y0 y1 y2
    unfold laws_heldIntS.l0
    repeat' first
     | (with_reducible first | exact ih0 .. | exact LeO.refl _ | exact LeO.none _ | refine LeO.ite ?_ ?_ | refine LeO.bind ?_ (fun _ => ?_))
     | exact LeO.none _
     | refine LeO.ite ?_ ?_
     | refine LeO.bind ?_ (fun _ => ?_)
theorem laws_heldIntS.mono : ∀ a0 a1 k, LeO (laws_heldIntS.f k a0 a1) (laws_heldIntS.f (k + 1) a0 a1) := by
 intro a0 a1 k
 have ih0 := laws_heldIntS.mono_l k
 unfold laws_heldIntS.f
 repeat' first
  | (with_reducible first | exact ih0 .. | exact LeO.refl _ | exact LeO.none _ | refine LeO.ite ?_ ?_ | refine LeO.bind ?_ (fun _ => ?_))
  | exact LeO.none _
  | refine LeO.ite ?_ ?_
  | refine LeO.bind ?_ (fun _ => ?_)
set_option maxHeartbeats 8000000 in
set_option maxRecDepth 100000 in
theorem laws_heldIntS.calls (k : Nat) (A0 : Option Addr) (c0 : Nat) (l0 : List Int) (a1 : Int) (r : Int) (w : World) (hr0 : Kd.C (Kd.int .i64) w A0 l0.length l0) (hc0 : l0.length ≤ c0) (h : laws_heldIntS.f k l0 a1 = some r) :
 Calls Try.prog 39 #[.slice A0 l0.length c0, .int .i64 a1] w fun e w' => e = .returned (.int .i64 r) ∧ Drawn0 w w' := by
 have HR0 := aM hr0
 have HC0 := aM hc0
 clear hr0 hc0
 have H : (laws_heldIntS.l0 k l0 a1 0) = some r := h
 clear h
 have H' := aM H
 clear H
 go_enter Try.func39, Try.ntmps39
 go_wp2
 go_loopg [1, 5] k (fun kq v1 v5 w' => ∃ (x1_1 : Int) (x5_1 : Int), v1 = .int .i64 x1_1 ∧ v5 = .int .i64 x5_1 ∧ Aside0 (laws_heldIntS.l0 kq l0 x1_1 x5_1 = some r) ∧ Aside0 (kq ≤ k) ∧ Drawn0 w w')
 case atStart => exact ⟨(a1), (0), z4458, z4458, H', ⟨Nat.le_refl _⟩, za9de⟩
 case round =>
  clear H'
  try clear p2
  obtain ⟨x1_1, x5_1, rfl, rfl, HA, HK1, ⟨m1, rfl⟩⟩ := hrel
  cases gk with
  | zero => exact absurd HA.out (by simp [laws_heldIntS.l0])
  | succ k1 =>
   have H := HA.out
   clear HA
   simp only [laws_heldIntS.l0] at H
   by_cases c3 : x5_1 < (l0.length : Int)
   · rw [if_pos c3] at H
     have c3b0 : decide (x5_1 < (l0.length : Int)) = true := decide_eq_true c3
     clear c3
     replace H := ifS H; obtain ⟨c4, H⟩ := H
     have c4b0 : decide (0 ≤ x5_1) = true := decide_eq_true c4
     clear c4
     replace H := ifS H; obtain ⟨c5, H⟩ := H
     have c5b0 : ((rd l0 x5_1) == x1_1) = true := beq_iff_eq.mpr c5
     have c5b1 : ((rd l0 x5_1) != x1_1) = false := bne_eq_false_iff_eq.mpr c5
     clear c5
     have H' := aM H
     clear H
     have p101 : 0 ≤ (x5_1 : Int) := of_decide_eq_true z1200
     have q101 : x5_1 < (l0.length : Int) := of_decide_eq_true z1200
     obtain ⟨ad101, e101, hx101_0⟩ := Kd.at_int HR0.out x5_1 p101 q101
     cases e101
     replace p101 := eq_true p101
     replace q101 := eq_true q101
     go_wp2
     go_roundg k1
     case measure => have := HK1.out; omega
     case rel => exact ⟨(wrap64 (x1_1 + 1)), (wrap64 (x5_1 + 1)), z4458, z4458, H', ⟨zfb39⟩, za9de⟩
   · rw [if_neg c3] at H
     have c3b0 : decide (x5_1 < (l0.length : Int)) = false := decide_eq_false c3
     clear c3
     obtain rfl := Option.some.inj H
     go_wp2
     go_ret
     exact ⟨z4458, za9de⟩

end Go.Proofs.Ytdkokfnnebdppaa.P

-- written by a program of this session's (wip/pp)
namespace Go.Proofs.Ytdkokfnnebdppaa.P
open Go.RowKit Go.Proofs.YtdkokfnnebdppaaW.PrintWords Go.Proofs.YtdkokfnnebdppaaW.PrintLast Go.Proofs.YtdkokfnnebdppaaW.PrintMore
attribute [local go_sem] max2_int min2_int max_two min_two max_three min_three max_four min_four str_geq str_gtr str_leq   -- for this text's walks alone
set_option linter.unusedVariables false
set_option linter.unusedSimpArgs false

/-! ### laws_heldEntryS: function 18 -/
def laws_heldEntryS.l0 : Nat → List (S45) → Int → Int → Option (Int)
 | 0, _, _, _ => none
 | k + 1, x0, x1, x5 => if x5 < (x0.length : Int) then (if 0 ≤ x5 then ((laws_markText.f k x1).bind fun t102 => (if ((rd_T45 x0 x5).f0).toList = t102.toList then (if ((rd_T45 x0 x5).f1) = (wrap64 (x1 + 1)) then (if ((rd_T45 x0 x5).f2) = (wrap64 ((wrap64 (x1 + 1)) + 1)) then (if ((rd_T45 x0 x5).f3.f0) = (wrap64 ((wrap64 ((wrap64 (x1 + 1)) + 1)) + 1)) then (if ((rd_T45 x0 x5).f3.f1) = (wrap64 ((wrap64 ((wrap64 ((wrap64 (x1 + 1)) + 1)) + 1)) + 1)) then (if ((rd_T45 x0 x5).f3.f2) = (wrap64 ((wrap64 ((wrap64 ((wrap64 ((wrap64 (x1 + 1)) + 1)) + 1)) + 1)) + 1)) then (if ((rd_T45 x0 x5).f3.f3) = (wrap64 ((wrap64 ((wrap64 ((wrap64 ((wrap64 ((wrap64 (x1 + 1)) + 1)) + 1)) + 1)) + 1)) + 1)) then ((laws_heldIntS.f k ((rd_T45 x0 x5).f3.f4) (wrap64 ((wrap64 ((wrap64 ((wrap64 ((wrap64 ((wrap64 ((wrap64 (x1 + 1)) + 1)) + 1)) + 1)) + 1)) + 1)) + 1))).bind fun t110 => (if t110 < 0 then (none) else (if (((rd_T45 x0 x5).f3.f5) != ((Int.tmod t110 3) == 0)) = true then (none) else (laws_heldEntryS.l0 k x0 (wrap64 (t110 + 1)) (wrap64 (x5 + 1)))))) else (none)) else (none)) else (none)) else (none)) else (none)) else (none)) else (none))) else (none)) else (some x1)
def laws_heldEntryS.f (k : Nat) (l0 : List (S45)) (a1 : Int) : Option (Int) := laws_heldEntryS.l0 k l0 a1 0
theorem laws_heldEntryS.mono_l : ∀ k, (∀ y0 y1 y2, LeO (laws_heldEntryS.l0 k y0 y1 y2) (laws_heldEntryS.l0 (k + 1) y0 y1 y2))
 | 0 => fun _ _ _ r h => by simp [laws_heldEntryS.l0] at h
 | k + 1 => by
  have ih0 := laws_heldEntryS.mono_l k
  · intro y0 y1 y2
    unfold laws_heldEntryS.l0
    repeat' first
     | (with_reducible first | exact ih0 .. | exact laws_heldIntS.mono .. | exact laws_markText.mono .. | exact LeO.refl _ | exact LeO.none _ | refine LeO.ite ?_ ?_ | refine LeO.bind ?_ (fun _ => ?_))
     | exact LeO.none _
     | refine LeO.ite ?_ ?_
     | refine LeO.bind ?_ (fun _ => ?_)
theorem laws_heldEntryS.mono : ∀ a0 a1 k, LeO (laws_heldEntryS.f k a0 a1) (laws_heldEntryS.f (k + 1) a0 a1) := by
 intro a0 a1 k
 have ih0 := laws_heldEntryS.mono_l k
 unfold laws_heldEntryS.f
 repeat' first
  | (with_reducible first | exact ih0 .. | exact laws_heldIntS.mono .. | exact laws_markText.mono .. | exact LeO.refl _ | exact LeO.none _ | refine LeO.ite ?_ ?_ | refine LeO.bind ?_ (fun _ => ?_))
  | exact LeO.none _
  | refine LeO.ite ?_ ?_
  | refine LeO.bind ?_ (fun _ => ?_)
def laws_heldEntryS.T4 : Bool × List (List Nat × List Nat) := (true, [([], []), ([], []), ([0, 1], [0, 1]), ([2], [2]), ([3], [3]), ([], []), ([5], [5]), ([4, 6], [4, 6])])
def laws_heldEntryS.B4 : List Nat := [0, 0, 3, 7, 15, 0, 32, 127]
theorem laws_heldEntryS.tab4 : rtab .any (opsOf Try.f18 4) = laws_heldEntryS.T4 := by kernel_rfl
theorem laws_heldEntryS.bits4 : waitsOk laws_heldEntryS.T4.2 laws_heldEntryS.B4 = true := by kernel_rfl
set_option maxHeartbeats 8000000 in
set_option maxRecDepth 100000 in
theorem laws_heldEntryS.calls (k : Nat) (A0 : Option Addr) (c0 : Nat) (l0 : List (S45)) (a1 : Int) (r : Int) (w : World) (hr0 : Kd.C k45 w A0 l0.length l0) (hc0 : l0.length ≤ c0) (h : laws_heldEntryS.f k l0 a1 = some r) :
 Calls Try.prog 18 #[.slice A0 l0.length c0, .int .i64 a1] w fun e w' => e = .returned (.int .i64 r) ∧ Below w.heap.size w w' := by
 have HR0 := aM hr0
 have HC0 := aM hc0
 clear hr0 hc0
 have HB := aM (Below.refl w.heap.size w)
 have H : (laws_heldEntryS.l0 k l0 a1 0) = some r := h
 clear h
 have H' := aM H
 clear H
 go_enter Try.func18, Try.ntmps18
 go_wp2
 go_loopg [1, 5] k (fun kq v1 v5 w' => ∃ (x1_1 : Int) (x5_1 : Int), v1 = .int .i64 x1_1 ∧ v5 = .int .i64 x5_1 ∧ Aside0 (laws_heldEntryS.l0 kq l0 x1_1 x5_1 = some r) ∧ Aside0 (kq ≤ k) ∧ Aside0 (Below w.heap.size w w'))
 case atStart => exact ⟨(a1), (0), z4458, z4458, H', ⟨Nat.le_refl _⟩, ⟨z5acd⟩⟩
 case round =>
  clear H'
  try clear c1
  try clear p2
  obtain ⟨x1_1, x5_1, rfl, rfl, HA, HK1, HB⟩ := hrel
  cases gk with
  | zero => exact absurd HA.out (by simp [laws_heldEntryS.l0])
  | succ k1 =>
   have H := HA.out
   clear HA
   simp only [laws_heldEntryS.l0] at H
   by_cases c3 : x5_1 < (l0.length : Int)
   · rw [if_pos c3] at H
     have c3b0 : decide (x5_1 < (l0.length : Int)) = true := decide_eq_true c3
     clear c3
     replace H := ifS H; obtain ⟨c4, H⟩ := H
     have c4b0 : decide (0 ≤ x5_1) = true := decide_eq_true c4
     clear c4
     replace H := Option.bind_eq_some_iff.mp H
     obtain ⟨t102, A50, H⟩ := H
     try dsimp only at H
     have A5 := aM A50
     clear A50
     replace H := ifS H; obtain ⟨c6, H⟩ := H
     have c6b0 : (((rd_T45 l0 x5_1).f0).toList == t102.toList) = true := beq_iff_eq.mpr c6
     have c6b1 : (((rd_T45 l0 x5_1).f0).toList != t102.toList) = false := bne_eq_false_iff_eq.mpr c6
     clear c6
     replace H := ifS H; obtain ⟨c7, H⟩ := H
     have c7b0 : (((rd_T45 l0 x5_1).f1) == (wrap64 (x1_1 + 1))) = true := beq_iff_eq.mpr c7
     have c7b1 : (((rd_T45 l0 x5_1).f1) != (wrap64 (x1_1 + 1))) = false := bne_eq_false_iff_eq.mpr c7
     clear c7
     replace H := ifS H; obtain ⟨c8, H⟩ := H
     have c8b0 : (((rd_T45 l0 x5_1).f2) == (wrap64 ((wrap64 (x1_1 + 1)) + 1))) = true := beq_iff_eq.mpr c8
     have c8b1 : (((rd_T45 l0 x5_1).f2) != (wrap64 ((wrap64 (x1_1 + 1)) + 1))) = false := bne_eq_false_iff_eq.mpr c8
     clear c8
     replace H := ifS H; obtain ⟨c9, H⟩ := H
     have c9b0 : (((rd_T45 l0 x5_1).f3.f0) == (wrap64 ((wrap64 ((wrap64 (x1_1 + 1)) + 1)) + 1))) = true := beq_iff_eq.mpr c9
     have c9b1 : (((rd_T45 l0 x5_1).f3.f0) != (wrap64 ((wrap64 ((wrap64 (x1_1 + 1)) + 1)) + 1))) = false := bne_eq_false_iff_eq.mpr c9
     clear c9
     replace H := ifS H; obtain ⟨c10, H⟩ := H
     have c10b0 : (((rd_T45 l0 x5_1).f3.f1) == (wrap64 ((wrap64 ((wrap64 ((wrap64 (x1_1 + 1)) + 1)) + 1)) + 1))) = true := beq_iff_eq.mpr c10
     have c10b1 : (((rd_T45 l0 x5_1).f3.f1) != (wrap64 ((wrap64 ((wrap64 ((wrap64 (x1_1 + 1)) + 1)) + 1)) + 1))) = false := bne_eq_false_iff_eq.mpr c10
     clear c10
     replace H := ifS H; obtain ⟨c11, H⟩ := H
     have c11b0 : (((rd_T45 l0 x5_1).f3.f2) == (wrap64 ((wrap64 ((wrap64 ((wrap64 ((wrap64 (x1_1 + 1)) + 1)) + 1)) + 1)) + 1))) = true := beq_iff_eq.mpr c11
     have c11b1 : (((rd_T45 l0 x5_1).f3.f2) != (wrap64 ((wrap64 ((wrap64 ((wrap64 ((wrap64 (x1_1 + 1)) + 1)) + 1)) + 1)) + 1))) = false := bne_eq_false_iff_eq.mpr c11
     clear c11
     replace H := ifS H; obtain ⟨c12, H⟩ := H
     have c12b0 : (((rd_T45 l0 x5_1).f3.f3) == (wrap64 ((wrap64 ((wrap64 ((wrap64 ((wrap64 ((wrap64 (x1_1 + 1)) + 1)) + 1)) + 1)) + 1)) + 1))) = true := beq_iff_eq.mpr c12
     have c12b1 : (((rd_T45 l0 x5_1).f3.f3) != (wrap64 ((wrap64 ((wrap64 ((wrap64 ((wrap64 ((wrap64 (x1_1 + 1)) + 1)) + 1)) + 1)) + 1)) + 1))) = false := bne_eq_false_iff_eq.mpr c12
     clear c12
     replace H := Option.bind_eq_some_iff.mp H
     obtain ⟨t110, A130, H⟩ := H
     try dsimp only at H
     have A13 := aM A130
     clear A130
     replace H := ifN H; obtain ⟨c14, H⟩ := H
     have c14b0 : decide (t110 < 0) = false := decide_eq_false c14
     clear c14
     replace H := ifN H; obtain ⟨c15, H⟩ := H
     have c15b0 : (((rd_T45 l0 x5_1).f3.f5) != ((Int.tmod t110 3) == 0)) = false := by simpa using c15
     (try (have c15b1 : decide (((rd_T45 l0 x5_1).f3.f5) = ((Int.tmod t110 3) == 0)) = true := by simpa using c15))
     (try (have c15b2 : (((rd_T45 l0 x5_1).f3.f5) == ((Int.tmod t110 3) == 0)) = true := by simpa using c15))
     clear c15
     have H' := aM H
     clear H
     try go_wp2
     have _ := aM (below_drew1 HB.out)
     clear HB
     rename_i HB
     have p101 : 0 ≤ (x5_1 : Int) := of_decide_eq_true z1200
     have q101 : x5_1 < (l0.length : Int) := of_decide_eq_true z1200
     obtain ⟨ad101, A101_7, c101_7, e101, hx101_0, hx101_1, hx101_2, hx101_3, hx101_4, hx101_5, hx101_6, hx101_7, hx101_8, hl101_7, hi101_7⟩ := at_T45 HR0.out x5_1 p101 q101
     have hw101_8 := hx101_8
     have hw101_7 := hx101_7
     have hw101_6 := hx101_6
     have hw101_5 := hx101_5
     have hw101_4 := hx101_4
     have hw101_3 := hx101_3
     have hw101_2 := hx101_2
     have hw101_1 := hx101_1
     have hw101_0 := hx101_0
     cases e101
     have TW101_7 := aM hx101_7
     replace hx101_0 := (HB.out.cell (World.block_lt_of_cell? w _ hx101_0)).trans hx101_0
     replace hx101_1 := (HB.out.cell (World.block_lt_of_cell? w _ hx101_1)).trans hx101_1
     replace hx101_2 := (HB.out.cell (World.block_lt_of_cell? w _ hx101_2)).trans hx101_2
     replace hx101_3 := (HB.out.cell (World.block_lt_of_cell? w _ hx101_3)).trans hx101_3
     replace hx101_4 := (HB.out.cell (World.block_lt_of_cell? w _ hx101_4)).trans hx101_4
     replace hx101_5 := (HB.out.cell (World.block_lt_of_cell? w _ hx101_5)).trans hx101_5
     replace hx101_6 := (HB.out.cell (World.block_lt_of_cell? w _ hx101_6)).trans hx101_6
     replace hx101_7 := (HB.out.cell (World.block_lt_of_cell? w _ hx101_7)).trans hx101_7
     replace hx101_8 := (HB.out.cell (World.block_lt_of_cell? w _ hx101_8)).trans hx101_8
     have HR101_7 := aM hi101_7
     have HC101_7 := aM hl101_7
     clear hi101_7 hl101_7
     replace p101 := eq_true p101
     replace q101 := eq_true q101
     refine sA 8 laws_heldEntryS.tab4 laws_heldEntryS.bits4 (fun w' => w'.cell? (ad101.add ((x5_1).toNat * 9)) = some (.string ((rd_T45 l0 x5_1).f0)) ∧ w'.cell? ⟨(ad101.add ((x5_1).toNat * 9)).block, (ad101.add ((x5_1).toNat * 9)).off + 1, none⟩ = some (.int .i64 ((rd_T45 l0 x5_1).f1)) ∧ w'.cell? ⟨(ad101.add ((x5_1).toNat * 9)).block, (ad101.add ((x5_1).toNat * 9)).off + 2, none⟩ = some (.int .i64 ((rd_T45 l0 x5_1).f2)) ∧ w'.cell? ⟨(ad101.add ((x5_1).toNat * 9)).block, (ad101.add ((x5_1).toNat * 9)).off + 3, none⟩ = some (.int .i64 ((rd_T45 l0 x5_1).f3.f0)) ∧ w'.cell? ⟨(ad101.add ((x5_1).toNat * 9)).block, (ad101.add ((x5_1).toNat * 9)).off + 4, none⟩ = some (.int .i64 ((rd_T45 l0 x5_1).f3.f1)) ∧ w'.cell? ⟨(ad101.add ((x5_1).toNat * 9)).block, (ad101.add ((x5_1).toNat * 9)).off + 5, none⟩ = some (.int .i64 ((rd_T45 l0 x5_1).f3.f2)) ∧ w'.cell? ⟨(ad101.add ((x5_1).toNat * 9)).block, (ad101.add ((x5_1).toNat * 9)).off + 6, none⟩ = some (.int .i64 ((rd_T45 l0 x5_1).f3.f3)) ∧ w'.cell? ⟨(ad101.add ((x5_1).toNat * 9)).block, (ad101.add ((x5_1).toNat * 9)).off + 7, none⟩ = some (.slice A101_7 ((rd_T45 l0 x5_1).f3.f4).length c101_7) ∧ w'.cell? ⟨(ad101.add ((x5_1).toNat * 9)).block, (ad101.add ((x5_1).toNat * 9)).off + 8, none⟩ = some (.bool ((rd_T45 l0 x5_1).f3.f5))) [] (fun hHeld HT_ HW_ => ?_)
     generalize wr.drew = w16 at HB HR101_7 hx101_0 hx101_1 hx101_2 hx101_3 hx101_4 hx101_5 hx101_6 hx101_7 hx101_8 hHeld ⊢
     refine pA 0 12 HT_ ?_; refine pA 1 13 HT_ ?_; refine pA 2 14 HT_ ?_; refine pA 3 15 HT_ ?_; refine pA 5 17 HT_ ?_; refine tA 4 16 HT_ HW_ hHeld ?_; refine oA 6 18 HT_ (fun K hK => ?_)
     refine goes_ Try.func37 (by kernel_rfl) rfl #[.int .i64 x1_1] (by rfl) rfl rfl zee81 ?_
     with_reducible refine (laws_markText.calls k1 x1_1 t102 _ A5.out).mono ?_
     rintro e w17 ⟨rfl, hb⟩
     refine ⟨_, rfl, ?_⟩
     have _ := aM (below_step hbZ hb)
     clear HB
     rename_i HB
     (try clear hb)
     (try clear hb2)
     (try clear hk)
     (try clear hi)
     refine hK.out _ _ sZ (fun hHeld => ?_)
     clear hK K
     refine nA 18 ?_; refine pA 7 19 HT_ ?_
     refine done_ (done_of HT_.out (by kernel_rfl)) ?_
     have p103 : 0 ≤ (x5_1 : Int) := of_decide_eq_true z1200
     have q103 : x5_1 < (l0.length : Int) := of_decide_eq_true z1200
     obtain ⟨ad103, A103_7, c103_7, e103, hx103_0, hx103_1, hx103_2, hx103_3, hx103_4, hx103_5, hx103_6, hx103_7, hx103_8, hl103_7, hi103_7⟩ := at_T45 HR0.out x5_1 p103 q103
     obtain rfl : ad101 = ad103 := (by injection e103)
     (try (have ez_ := hx103_7.symm.trans TW101_7.out; simp only [Option.some.injEq, Value.slice.injEq, true_and] at ez_; obtain ⟨ez1_, ez2_⟩ := ez_; subst ez1_ ez2_))
     have TW103_7 := aM hx103_7
     replace hx103_0 := (HB.out.cell (World.block_lt_of_cell? w _ hx103_0)).trans hx103_0
     replace hx103_1 := (HB.out.cell (World.block_lt_of_cell? w _ hx103_1)).trans hx103_1
     replace hx103_2 := (HB.out.cell (World.block_lt_of_cell? w _ hx103_2)).trans hx103_2
     replace hx103_3 := (HB.out.cell (World.block_lt_of_cell? w _ hx103_3)).trans hx103_3
     replace hx103_4 := (HB.out.cell (World.block_lt_of_cell? w _ hx103_4)).trans hx103_4
     replace hx103_5 := (HB.out.cell (World.block_lt_of_cell? w _ hx103_5)).trans hx103_5
     replace hx103_6 := (HB.out.cell (World.block_lt_of_cell? w _ hx103_6)).trans hx103_6
     replace hx103_7 := (HB.out.cell (World.block_lt_of_cell? w _ hx103_7)).trans hx103_7
     replace hx103_8 := (HB.out.cell (World.block_lt_of_cell? w _ hx103_8)).trans hx103_8
     have HR103_7 := aM hi103_7
     have HC103_7 := aM hl103_7
     clear hi103_7 hl103_7
     replace p103 := eq_true p103
     replace q103 := eq_true q103
     have p104 : 0 ≤ (x5_1 : Int) := of_decide_eq_true z1200
     have q104 : x5_1 < (l0.length : Int) := of_decide_eq_true z1200
     obtain ⟨ad104, A104_7, c104_7, e104, hx104_0, hx104_1, hx104_2, hx104_3, hx104_4, hx104_5, hx104_6, hx104_7, hx104_8, hl104_7, hi104_7⟩ := at_T45 HR0.out x5_1 p104 q104
     obtain rfl : ad101 = ad104 := (by injection e104)
     replace hx104_0 := (HB.out.cell (World.block_lt_of_cell? w _ hx104_0)).trans hx104_0
     replace hx104_1 := (HB.out.cell (World.block_lt_of_cell? w _ hx104_1)).trans hx104_1
     replace hx104_2 := (HB.out.cell (World.block_lt_of_cell? w _ hx104_2)).trans hx104_2
     replace hx104_3 := (HB.out.cell (World.block_lt_of_cell? w _ hx104_3)).trans hx104_3
     replace hx104_4 := (HB.out.cell (World.block_lt_of_cell? w _ hx104_4)).trans hx104_4
     replace hx104_5 := (HB.out.cell (World.block_lt_of_cell? w _ hx104_5)).trans hx104_5
     replace hx104_6 := (HB.out.cell (World.block_lt_of_cell? w _ hx104_6)).trans hx104_6
     replace hx104_7 := (HB.out.cell (World.block_lt_of_cell? w _ hx104_7)).trans hx104_7
     replace hx104_8 := (HB.out.cell (World.block_lt_of_cell? w _ hx104_8)).trans hx104_8
     have HR104_7 := aM hi104_7
     have HC104_7 := aM hl104_7
     clear hi104_7 hl104_7
     replace p104 := eq_true p104
     replace q104 := eq_true q104
     have ea_ := Option.some.inj (hx103_7.symm.trans hx104_7)
     injection ea_ with ea_ en_ ec_
     subst ea_
     subst ec_
     clear en_
     have p105 : 0 ≤ (x5_1 : Int) := of_decide_eq_true z1200
     have q105 : x5_1 < (l0.length : Int) := of_decide_eq_true z1200
     obtain ⟨ad105, A105_7, c105_7, e105, hx105_0, hx105_1, hx105_2, hx105_3, hx105_4, hx105_5, hx105_6, hx105_7, hx105_8, hl105_7, hi105_7⟩ := at_T45 HR0.out x5_1 p105 q105
     obtain rfl : ad101 = ad105 := (by injection e105)
     replace hx105_0 := (HB.out.cell (World.block_lt_of_cell? w _ hx105_0)).trans hx105_0
     replace hx105_1 := (HB.out.cell (World.block_lt_of_cell? w _ hx105_1)).trans hx105_1
     replace hx105_2 := (HB.out.cell (World.block_lt_of_cell? w _ hx105_2)).trans hx105_2
     replace hx105_3 := (HB.out.cell (World.block_lt_of_cell? w _ hx105_3)).trans hx105_3
     replace hx105_4 := (HB.out.cell (World.block_lt_of_cell? w _ hx105_4)).trans hx105_4
     replace hx105_5 := (HB.out.cell (World.block_lt_of_cell? w _ hx105_5)).trans hx105_5
     replace hx105_6 := (HB.out.cell (World.block_lt_of_cell? w _ hx105_6)).trans hx105_6
     replace hx105_7 := (HB.out.cell (World.block_lt_of_cell? w _ hx105_7)).trans hx105_7
     replace hx105_8 := (HB.out.cell (World.block_lt_of_cell? w _ hx105_8)).trans hx105_8
     have HR105_7 := aM hi105_7
     have HC105_7 := aM hl105_7
     clear hi105_7 hl105_7
     replace p105 := eq_true p105
     replace q105 := eq_true q105
     have ea_ := Option.some.inj (hx103_7.symm.trans hx105_7)
     injection ea_ with ea_ en_ ec_
     subst ea_
     subst ec_
     clear en_
     have p106 : 0 ≤ (x5_1 : Int) := of_decide_eq_true z1200
     have q106 : x5_1 < (l0.length : Int) := of_decide_eq_true z1200
     obtain ⟨ad106, A106_7, c106_7, e106, hx106_0, hx106_1, hx106_2, hx106_3, hx106_4, hx106_5, hx106_6, hx106_7, hx106_8, hl106_7, hi106_7⟩ := at_T45 HR0.out x5_1 p106 q106
     obtain rfl : ad101 = ad106 := (by injection e106)
     replace hx106_0 := (HB.out.cell (World.block_lt_of_cell? w _ hx106_0)).trans hx106_0
     replace hx106_1 := (HB.out.cell (World.block_lt_of_cell? w _ hx106_1)).trans hx106_1
     replace hx106_2 := (HB.out.cell (World.block_lt_of_cell? w _ hx106_2)).trans hx106_2
     replace hx106_3 := (HB.out.cell (World.block_lt_of_cell? w _ hx106_3)).trans hx106_3
     replace hx106_4 := (HB.out.cell (World.block_lt_of_cell? w _ hx106_4)).trans hx106_4
     replace hx106_5 := (HB.out.cell (World.block_lt_of_cell? w _ hx106_5)).trans hx106_5
     replace hx106_6 := (HB.out.cell (World.block_lt_of_cell? w _ hx106_6)).trans hx106_6
     replace hx106_7 := (HB.out.cell (World.block_lt_of_cell? w _ hx106_7)).trans hx106_7
     replace hx106_8 := (HB.out.cell (World.block_lt_of_cell? w _ hx106_8)).trans hx106_8
     have HR106_7 := aM hi106_7
     have HC106_7 := aM hl106_7
     clear hi106_7 hl106_7
     replace p106 := eq_true p106
     replace q106 := eq_true q106
     have ea_ := Option.some.inj (hx103_7.symm.trans hx106_7)
     injection ea_ with ea_ en_ ec_
     subst ea_
     subst ec_
     clear en_
     have p107 : 0 ≤ (x5_1 : Int) := of_decide_eq_true z1200
     have q107 : x5_1 < (l0.length : Int) := of_decide_eq_true z1200
     obtain ⟨ad107, A107_7, c107_7, e107, hx107_0, hx107_1, hx107_2, hx107_3, hx107_4, hx107_5, hx107_6, hx107_7, hx107_8, hl107_7, hi107_7⟩ := at_T45 HR0.out x5_1 p107 q107
     obtain rfl : ad101 = ad107 := (by injection e107)
     replace hx107_0 := (HB.out.cell (World.block_lt_of_cell? w _ hx107_0)).trans hx107_0
     replace hx107_1 := (HB.out.cell (World.block_lt_of_cell? w _ hx107_1)).trans hx107_1
     replace hx107_2 := (HB.out.cell (World.block_lt_of_cell? w _ hx107_2)).trans hx107_2
     replace hx107_3 := (HB.out.cell (World.block_lt_of_cell? w _ hx107_3)).trans hx107_3
     replace hx107_4 := (HB.out.cell (World.block_lt_of_cell? w _ hx107_4)).trans hx107_4
     replace hx107_5 := (HB.out.cell (World.block_lt_of_cell? w _ hx107_5)).trans hx107_5
     replace hx107_6 := (HB.out.cell (World.block_lt_of_cell? w _ hx107_6)).trans hx107_6
     replace hx107_7 := (HB.out.cell (World.block_lt_of_cell? w _ hx107_7)).trans hx107_7
     replace hx107_8 := (HB.out.cell (World.block_lt_of_cell? w _ hx107_8)).trans hx107_8
     have HR107_7 := aM hi107_7
     have HC107_7 := aM hl107_7
     clear hi107_7 hl107_7
     replace p107 := eq_true p107
     replace q107 := eq_true q107
     have ea_ := Option.some.inj (hx103_7.symm.trans hx107_7)
     injection ea_ with ea_ en_ ec_
     subst ea_
     subst ec_
     clear en_
     have p108 : 0 ≤ (x5_1 : Int) := of_decide_eq_true z1200
     have q108 : x5_1 < (l0.length : Int) := of_decide_eq_true z1200
     obtain ⟨ad108, A108_7, c108_7, e108, hx108_0, hx108_1, hx108_2, hx108_3, hx108_4, hx108_5, hx108_6, hx108_7, hx108_8, hl108_7, hi108_7⟩ := at_T45 HR0.out x5_1 p108 q108
     obtain rfl : ad101 = ad108 := (by injection e108)
     replace hx108_0 := (HB.out.cell (World.block_lt_of_cell? w _ hx108_0)).trans hx108_0
     replace hx108_1 := (HB.out.cell (World.block_lt_of_cell? w _ hx108_1)).trans hx108_1
     replace hx108_2 := (HB.out.cell (World.block_lt_of_cell? w _ hx108_2)).trans hx108_2
     replace hx108_3 := (HB.out.cell (World.block_lt_of_cell? w _ hx108_3)).trans hx108_3
     replace hx108_4 := (HB.out.cell (World.block_lt_of_cell? w _ hx108_4)).trans hx108_4
     replace hx108_5 := (HB.out.cell (World.block_lt_of_cell? w _ hx108_5)).trans hx108_5
     replace hx108_6 := (HB.out.cell (World.block_lt_of_cell? w _ hx108_6)).trans hx108_6
     replace hx108_7 := (HB.out.cell (World.block_lt_of_cell? w _ hx108_7)).trans hx108_7
     replace hx108_8 := (HB.out.cell (World.block_lt_of_cell? w _ hx108_8)).trans hx108_8
     have HR108_7 := aM hi108_7
     have HC108_7 := aM hl108_7
     clear hi108_7 hl108_7
     replace p108 := eq_true p108
     replace q108 := eq_true q108
     have ea_ := Option.some.inj (hx103_7.symm.trans hx108_7)
     injection ea_ with ea_ en_ ec_
     subst ea_
     subst ec_
     clear en_
     have p109 : 0 ≤ (x5_1 : Int) := of_decide_eq_true z1200
     have q109 : x5_1 < (l0.length : Int) := of_decide_eq_true z1200
     obtain ⟨ad109, A109_7, c109_7, e109, hx109_0, hx109_1, hx109_2, hx109_3, hx109_4, hx109_5, hx109_6, hx109_7, hx109_8, hl109_7, hi109_7⟩ := at_T45 HR0.out x5_1 p109 q109
     obtain rfl : ad101 = ad109 := (by injection e109)
     replace hx109_0 := (HB.out.cell (World.block_lt_of_cell? w _ hx109_0)).trans hx109_0
     replace hx109_1 := (HB.out.cell (World.block_lt_of_cell? w _ hx109_1)).trans hx109_1
     replace hx109_2 := (HB.out.cell (World.block_lt_of_cell? w _ hx109_2)).trans hx109_2
     replace hx109_3 := (HB.out.cell (World.block_lt_of_cell? w _ hx109_3)).trans hx109_3
     replace hx109_4 := (HB.out.cell (World.block_lt_of_cell? w _ hx109_4)).trans hx109_4
     replace hx109_5 := (HB.out.cell (World.block_lt_of_cell? w _ hx109_5)).trans hx109_5
     replace hx109_6 := (HB.out.cell (World.block_lt_of_cell? w _ hx109_6)).trans hx109_6
     replace hx109_7 := (HB.out.cell (World.block_lt_of_cell? w _ hx109_7)).trans hx109_7
     replace hx109_8 := (HB.out.cell (World.block_lt_of_cell? w _ hx109_8)).trans hx109_8
     have HR109_7 := aM hi109_7
     have HC109_7 := aM hl109_7
     clear hi109_7 hl109_7
     replace p109 := eq_true p109
     replace q109 := eq_true q109
     have ea_ := Option.some.inj (hx103_7.symm.trans hx109_7)
     injection ea_ with ea_ en_ ec_
     subst ea_
     subst ec_
     clear en_
     try go_wp2_with (first | ((with_reducible refine gate_callee (f := 39) rfl ?_); refine goesL_ (some 87) rfl rfl Try.func39 (by kernel_rfl) rfl #[.slice A103_7 ((rd_T45 l0 x5_1).f3.f4).length c103_7, .int .i64 (wrap64 ((wrap64 ((wrap64 ((wrap64 ((wrap64 ((wrap64 ((wrap64 (x1_1 + 1)) + 1)) + 1)) + 1)) + 1)) + 1)) + 1))] rfl zee81 ?_; (with_reducible refine (laws_heldIntS.calls k1 _ _ ((rd_T45 l0 x5_1).f3.f4) (wrap64 ((wrap64 ((wrap64 ((wrap64 ((wrap64 ((wrap64 ((wrap64 (x1_1 + 1)) + 1)) + 1)) + 1)) + 1)) + 1)) + 1)) t110 _ ?side1 ?side2 A13.out).mono ?_); (case side1 => exact (cZ (Kd.C_below HR109_7.out HB.out))); (case side2 => exact HC109_7.out); rintro e w' ⟨rfl, ⟨nd, rfl⟩⟩; refine ⟨_, rfl, ?_⟩; have p111 : 0 ≤ (x5_1 : Int) := of_decide_eq_true z1200; have q111 : x5_1 < (l0.length : Int) := of_decide_eq_true z1200; obtain ⟨ad111, A111_7, c111_7, e111, hx111_0, hx111_1, hx111_2, hx111_3, hx111_4, hx111_5, hx111_6, hx111_7, hx111_8, hl111_7, hi111_7⟩ := at_T45 HR0.out x5_1 p111 q111; obtain rfl : ad101 = ad111 := (by injection e111); replace hx111_0 := (HB.out.cell (World.block_lt_of_cell? w _ hx111_0)).trans hx111_0; replace hx111_1 := (HB.out.cell (World.block_lt_of_cell? w _ hx111_1)).trans hx111_1; replace hx111_2 := (HB.out.cell (World.block_lt_of_cell? w _ hx111_2)).trans hx111_2; replace hx111_3 := (HB.out.cell (World.block_lt_of_cell? w _ hx111_3)).trans hx111_3; replace hx111_4 := (HB.out.cell (World.block_lt_of_cell? w _ hx111_4)).trans hx111_4; replace hx111_5 := (HB.out.cell (World.block_lt_of_cell? w _ hx111_5)).trans hx111_5; replace hx111_6 := (HB.out.cell (World.block_lt_of_cell? w _ hx111_6)).trans hx111_6; replace hx111_7 := (HB.out.cell (World.block_lt_of_cell? w _ hx111_7)).trans hx111_7; replace hx111_8 := (HB.out.cell (World.block_lt_of_cell? w _ hx111_8)).trans hx111_8; have HR111_7 := aM hi111_7; have HC111_7 := aM hl111_7; clear hi111_7 hl111_7; replace p111 := eq_true p111; replace q111 := eq_true q111; have ea_ := Option.some.inj (hx103_7.symm.trans hx111_7); injection ea_ with ea_ en_ ec_; subst ea_; subst ec_; clear en_))
     go_roundg k1
     case measure => have := HK1.out; omega
     case rel => exact ⟨(wrap64 (t110 + 1)), (wrap64 (x5_1 + 1)), z4458, z4458, H', ⟨zfb39⟩, ⟨z5acd⟩⟩
   · rw [if_neg c3] at H
     have c3b0 : decide (x5_1 < (l0.length : Int)) = false := decide_eq_false c3
     clear c3
     obtain rfl := Option.some.inj H
     go_wp2
     go_ret
     exact ⟨z674d, z5acd⟩

end Go.Proofs.Ytdkokfnnebdppaa.P

-- written by a program of this session's (wip/pp)
namespace Go.Proofs.Ytdkokfnnebdppaa.P
open Go.RowKit Go.Proofs.YtdkokfnnebdppaaW.PrintWords Go.Proofs.YtdkokfnnebdppaaW.PrintLast Go.Proofs.YtdkokfnnebdppaaW.PrintMore
attribute [local go_sem] max2_int min2_int max_two min_two max_three min_three max_four min_four str_geq str_gtr str_leq   -- for this text's walks alone
set_option linter.unusedVariables false
set_option linter.unusedSimpArgs false

/-! ### laws_szIntS: function 75 -/
def laws_szIntS.f (l0 : List Int) (a1 : Int) : Option (Int) := if (wrap64 (a1 - (l0.length : Int))) < 0 then (some (-1)) else (some (wrap64 (a1 - (l0.length : Int))))
set_option maxHeartbeats 8000000 in
set_option maxRecDepth 100000 in
theorem laws_szIntS.calls (A0 : Option Addr) (c0 : Nat) (l0 : List Int) (a1 : Int) (r : Int) (w : World) (hr0 : Kd.C (Kd.int .i64) w A0 l0.length l0) (hc0 : l0.length ≤ c0) (h : laws_szIntS.f l0 a1 = some r) :
 Calls Try.prog 75 #[.slice A0 l0.length c0, .int .i64 a1] w fun e w' => e = .returned (.int .i64 r) ∧ Drawn0 w w' := by
 have HR0 := aM hr0
 have HC0 := aM hc0
 clear hr0 hc0
 have H : (if (wrap64 (a1 - (l0.length : Int))) < 0 then (some (-1)) else (some (wrap64 (a1 - (l0.length : Int))))) = some r := h
 clear h
 by_cases c3 : (wrap64 (a1 - (l0.length : Int))) < 0
 · rw [if_pos c3] at H
   have c3b0 : decide ((wrap64 (a1 - (l0.length : Int))) < 0) = true := decide_eq_true c3
   clear c3
   obtain rfl := Option.some.inj H
   go_enter Try.func75, Try.ntmps75
   go_wp2
   go_ret
   exact ⟨z4458, za9de⟩
 · rw [if_neg c3] at H
   have c3b0 : decide ((wrap64 (a1 - (l0.length : Int))) < 0) = false := decide_eq_false c3
   clear c3
   obtain rfl := Option.some.inj H
   go_enter Try.func75, Try.ntmps75
   go_wp2
   go_ret
   exact ⟨z4458, za9de⟩

end Go.Proofs.Ytdkokfnnebdppaa.P

-- written by a program of this session's (wip/pp)
namespace Go.Proofs.Ytdkokfnnebdppaa.P
open Go.RowKit Go.Proofs.YtdkokfnnebdppaaW.PrintWords Go.Proofs.YtdkokfnnebdppaaW.PrintLast Go.Proofs.YtdkokfnnebdppaaW.PrintMore
attribute [local go_sem] max2_int min2_int max_two min_two max_three min_three max_four min_four str_geq str_gtr str_leq   -- for this text's walks alone
set_option linter.unusedVariables false
set_option linter.unusedSimpArgs false

/-! ### laws_szAgg: function 42 -/
def laws_szAgg.f (a0_0 : Int) (a0_1 : Int) (a0_2 : Int) (a0_3 : Int) (l0_4 : List Int) (a0_5 : Bool) (a1 : Int) : Option (Int) := (laws_szIntS.f l0_4 a1).bind fun t102 => (if t102 < 0 then (some (-1)) else (some t102))
set_option maxHeartbeats 8000000 in
set_option maxRecDepth 100000 in
theorem laws_szAgg.calls (a0_0 : Int) (a0_1 : Int) (a0_2 : Int) (a0_3 : Int) (A0_4 : Option Addr) (c0_4 : Nat) (l0_4 : List Int) (a0_5 : Bool) (a1 : Int) (r : Int) (w : World) (hr0_4 : Kd.C (Kd.int .i64) w A0_4 l0_4.length l0_4) (hc0_4 : l0_4.length ≤ c0_4) (h : laws_szAgg.f a0_0 a0_1 a0_2 a0_3 l0_4 a0_5 a1 = some r) :
 Calls Try.prog 42 #[.agg #[.int .i64 a0_0, .int .i64 a0_1, .int .i64 a0_2, .int .i64 a0_3, .slice A0_4 l0_4.length c0_4, .bool a0_5], .int .i64 a1] w fun e w' => e = .returned (.int .i64 r) ∧ Below w.heap.size w w' := by
 have hu39 := Try.underlying39
 have HR0_4 := aM hr0_4
 have HC0_4 := aM hc0_4
 clear hr0_4 hc0_4
 have HB := aM (Below.refl w.heap.size w)
 have H : ((laws_szIntS.f l0_4 a1).bind fun t102 => (if t102 < 0 then (some (-1)) else (some t102))) = some r := h
 clear h
 replace H := Option.bind_eq_some_iff.mp H
 obtain ⟨t102, A30, H⟩ := H
 try dsimp only at H
 have A3 := aM A30
 clear A30
 by_cases c4 : t102 < 0
 · rw [if_pos c4] at H
   have c4b0 : decide (t102 < 0) = true := decide_eq_true c4
   clear c4
   obtain rfl := Option.some.inj H
   go_enter Try.func42, Try.ntmps42
   go_wp2_with (first | ((with_reducible refine gate_dst (N := 2) rfl ?_); refine box_event ?hg (N := 2) ?hd (cs := #[.int .i64 a0_0, .int .i64 a0_1, .int .i64 a0_2, .int .i64 a0_3, .slice A0_4 l0_4.length c0_4, .bool a0_5]) (t := 39) ?hr ?_; (case hd => rfl); (case hg => rfl); (case hr => first | (go_simp; done) | (go_simp; rfl)); intro gb101 hg w5 hbox hb; have _ := aM (below_step hbZ hb); have _ := aM hbox; have _ := szZ hg; have _ := szZ hg; clear HB; rename_i HB BK101 GW101 GE101; clear hb hbox hg; obtain ⟨hcz6_0, hcz6_1, hcz6_2, hcz6_3, hcz6_4, hcz6_5, hfz6_0, hfz6_1, hfz6_2, hfz6_3, hfz6_4, hfz6_5⟩ := cellsZ6 BK101.out) | ((with_reducible refine gate_callee (f := 75) rfl ?_); refine goesL_ (some 8) rfl rfl Try.func75 (by kernel_rfl) rfl #[.slice A0_4 l0_4.length c0_4, .int .i64 a1] rfl zee81 ?_; (with_reducible refine (laws_szIntS.calls _ _ l0_4 a1 t102 _ ?side1 ?side2 A3.out).mono ?_); (case side1 => exact (cZ (Kd.C_below HR0_4.out HB.out))); (case side2 => exact HC0_4.out); rintro e w' ⟨rfl, ⟨nd, rfl⟩⟩; refine ⟨_, rfl, ?_⟩))
   go_ret
   exact ⟨z674d, zcb41⟩
 · rw [if_neg c4] at H
   have c4b0 : decide (t102 < 0) = false := decide_eq_false c4
   clear c4
   obtain rfl := Option.some.inj H
   go_enter Try.func42, Try.ntmps42
   go_wp2_with (first | ((with_reducible refine gate_dst (N := 2) rfl ?_); refine box_event ?hg (N := 2) ?hd (cs := #[.int .i64 a0_0, .int .i64 a0_1, .int .i64 a0_2, .int .i64 a0_3, .slice A0_4 l0_4.length c0_4, .bool a0_5]) (t := 39) ?hr ?_; (case hd => rfl); (case hg => rfl); (case hr => first | (go_simp; done) | (go_simp; rfl)); intro gb101 hg w7 hbox hb; have _ := aM (below_step hbZ hb); have _ := aM hbox; have _ := szZ hg; have _ := szZ hg; clear HB; rename_i HB BK101 GW101 GE101; clear hb hbox hg; obtain ⟨hcz8_0, hcz8_1, hcz8_2, hcz8_3, hcz8_4, hcz8_5, hfz8_0, hfz8_1, hfz8_2, hfz8_3, hfz8_4, hfz8_5⟩ := cellsZ6 BK101.out) | ((with_reducible refine gate_callee (f := 75) rfl ?_); refine goesL_ (some 8) rfl rfl Try.func75 (by kernel_rfl) rfl #[.slice A0_4 l0_4.length c0_4, .int .i64 a1] rfl zee81 ?_; (with_reducible refine (laws_szIntS.calls _ _ l0_4 a1 t102 _ ?side1 ?side2 A3.out).mono ?_); (case side1 => exact (cZ (Kd.C_below HR0_4.out HB.out))); (case side2 => exact HC0_4.out); rintro e w' ⟨rfl, ⟨nd, rfl⟩⟩; refine ⟨_, rfl, ?_⟩))
   go_ret
   exact ⟨z674d, zcb41⟩

end Go.Proofs.Ytdkokfnnebdppaa.P

-- written by a program of this session's (wip/pp)
namespace Go.Proofs.Ytdkokfnnebdppaa.P
open Go.RowKit Go.Proofs.YtdkokfnnebdppaaW.PrintWords Go.Proofs.YtdkokfnnebdppaaW.PrintLast Go.Proofs.YtdkokfnnebdppaaW.PrintMore
attribute [local go_sem] max2_int min2_int max_two min_two max_three min_three max_four min_four str_geq str_gtr str_leq   -- for this text's walks alone
set_option linter.unusedVariables false
set_option linter.unusedSimpArgs false

/-! ### laws_szEntry: function 19 -/
def laws_szEntry.f (a0_0 : ByteArray) (a0_1 : Int) (a0_2 : Int) (a0_3 : Int) (a0_4 : Int) (a0_5 : Int) (a0_6 : Int) (l0_7 : List Int) (a0_8 : Bool) (a1 : Int) : Option (Int) := if (wrap64 (a1 - (a0_0.size : Int))) < 0 then (some (-1)) else ((laws_szAgg.f a0_3 a0_4 a0_5 a0_6 l0_7 a0_8 (wrap64 (a1 - (a0_0.size : Int)))).bind fun t102 => (if t102 < 0 then (some (-1)) else (some t102)))
set_option maxHeartbeats 8000000 in
set_option maxRecDepth 100000 in
theorem laws_szEntry.calls (a0_0 : ByteArray) (a0_1 : Int) (a0_2 : Int) (a0_3 : Int) (a0_4 : Int) (a0_5 : Int) (a0_6 : Int) (A0_7 : Option Addr) (c0_7 : Nat) (l0_7 : List Int) (a0_8 : Bool) (a1 : Int) (r : Int) (w : World) (hr0_7 : Kd.C (Kd.int .i64) w A0_7 l0_7.length l0_7) (hc0_7 : l0_7.length ≤ c0_7) (h : laws_szEntry.f a0_0 a0_1 a0_2 a0_3 a0_4 a0_5 a0_6 l0_7 a0_8 a1 = some r) :
 Calls Try.prog 19 #[.agg #[.string a0_0, .int .i64 a0_1, .int .i64 a0_2, .int .i64 a0_3, .int .i64 a0_4, .int .i64 a0_5, .int .i64 a0_6, .slice A0_7 l0_7.length c0_7, .bool a0_8], .int .i64 a1] w fun e w' => e = .returned (.int .i64 r) ∧ Below w.heap.size w w' := by
 have hu41 := Try.underlying41
 have hu39 := Try.underlying39
 have HR0_7 := aM hr0_7
 have HC0_7 := aM hc0_7
 clear hr0_7 hc0_7
 have HB := aM (Below.refl w.heap.size w)
 have H : (if (wrap64 (a1 - (a0_0.size : Int))) < 0 then (some (-1)) else ((laws_szAgg.f a0_3 a0_4 a0_5 a0_6 l0_7 a0_8 (wrap64 (a1 - (a0_0.size : Int)))).bind fun t102 => (if t102 < 0 then (some (-1)) else (some t102)))) = some r := h
 clear h
 by_cases c3 : (wrap64 (a1 - (a0_0.size : Int))) < 0
 · rw [if_pos c3] at H
   have c3b0 : decide ((wrap64 (a1 - (a0_0.size : Int))) < 0) = true := decide_eq_true c3
   clear c3
   obtain rfl := Option.some.inj H
   go_enter Try.func19, Try.ntmps19
   go_wp2_with (first | ((with_reducible refine gate_dst (N := 2) rfl ?_); refine box_event ?hg (N := 2) ?hd (cs := #[.string a0_0, .int .i64 a0_1, .int .i64 a0_2, .int .i64 a0_3, .int .i64 a0_4, .int .i64 a0_5, .int .i64 a0_6, .slice A0_7 l0_7.length c0_7, .bool a0_8]) (t := 41) ?hr ?_; (case hd => rfl); (case hg => rfl); (case hr => first | (go_simp; done) | (go_simp; rfl)); intro gb101 hg w4 hbox hb; have _ := aM (below_step hbZ hb); have _ := aM hbox; have _ := szZ hg; have _ := szZ hg; clear HB; rename_i HB BK101 GW101 GE101; clear hb hbox hg; obtain ⟨hcz5_0, hcz5_1, hcz5_2, hcz5_3, hcz5_4, hcz5_5, hcz5_6, hcz5_7, hcz5_8, hfz5_0, hfz5_1, hfz5_2, hfz5_3, hfz5_4, hfz5_5, hfz5_6, hfz5_7, hfz5_8⟩ := cellsZ9 BK101.out))
   go_ret
   exact ⟨z674d, zcb41⟩
 · rw [if_neg c3] at H
   have c3b0 : decide ((wrap64 (a1 - (a0_0.size : Int))) < 0) = false := decide_eq_false c3
   clear c3
   replace H := Option.bind_eq_some_iff.mp H
   obtain ⟨t102, A60, H⟩ := H
   try dsimp only at H
   have A6 := aM A60
   clear A60
   by_cases c7 : t102 < 0
   · rw [if_pos c7] at H
     have c7b0 : decide (t102 < 0) = true := decide_eq_true c7
     clear c7
     obtain rfl := Option.some.inj H
     go_enter Try.func19, Try.ntmps19
     go_wp2_with (first | ((with_reducible refine gate_dst (N := 2) rfl ?_); refine box_event ?hg (N := 2) ?hd (cs := #[.string a0_0, .int .i64 a0_1, .int .i64 a0_2, .int .i64 a0_3, .int .i64 a0_4, .int .i64 a0_5, .int .i64 a0_6, .slice A0_7 l0_7.length c0_7, .bool a0_8]) (t := 41) ?hr ?_; (case hd => rfl); (case hg => rfl); (case hr => first | (go_simp; done) | (go_simp; rfl)); intro gb101 hg w8 hbox hb; have _ := aM (below_step hbZ hb); have _ := aM hbox; have _ := szZ hg; have _ := szZ hg; clear HB; rename_i HB BK101 GW101 GE101; clear hb hbox hg; obtain ⟨hcz9_0, hcz9_1, hcz9_2, hcz9_3, hcz9_4, hcz9_5, hcz9_6, hcz9_7, hcz9_8, hfz9_0, hfz9_1, hfz9_2, hfz9_3, hfz9_4, hfz9_5, hfz9_6, hfz9_7, hfz9_8⟩ := cellsZ9 BK101.out) | ((with_reducible refine gate_callee (f := 42) rfl ?_); refine goesL_ (some 15) rfl rfl Try.func42 (by kernel_rfl) rfl #[.agg #[.int .i64 a0_3, .int .i64 a0_4, .int .i64 a0_5, .int .i64 a0_6, .slice A0_7 l0_7.length c0_7, .bool a0_8], .int .i64 (wrap64 (a1 - (a0_0.size : Int)))] rfl zee81 ?_; (with_reducible refine (laws_szAgg.calls a0_3 a0_4 a0_5 a0_6 _ _ l0_7 a0_8 (wrap64 (a1 - (a0_0.size : Int))) t102 _ ?side1 ?side2 A6.out).mono ?_); (case side1 => exact (cZ (Kd.C_below HR0_7.out HB.out))); (case side2 => exact HC0_7.out); rintro e w10 ⟨rfl, hb⟩; refine ⟨_, rfl, ?_⟩; have _ := bB gb101 hb; have _ := aM (below_step hbZ hb); clear BK101 HB; rename_i BK101 HB; (try clear hb)))
     go_ret
     exact ⟨z674d, zcb41⟩
   · rw [if_neg c7] at H
     have c7b0 : decide (t102 < 0) = false := decide_eq_false c7
     clear c7
     obtain rfl := Option.some.inj H
     go_enter Try.func19, Try.ntmps19
     go_wp2_with (first | ((with_reducible refine gate_dst (N := 2) rfl ?_); refine box_event ?hg (N := 2) ?hd (cs := #[.string a0_0, .int .i64 a0_1, .int .i64 a0_2, .int .i64 a0_3, .int .i64 a0_4, .int .i64 a0_5, .int .i64 a0_6, .slice A0_7 l0_7.length c0_7, .bool a0_8]) (t := 41) ?hr ?_; (case hd => rfl); (case hg => rfl); (case hr => first | (go_simp; done) | (go_simp; rfl)); intro gb101 hg w11 hbox hb; have _ := aM (below_step hbZ hb); have _ := aM hbox; have _ := szZ hg; have _ := szZ hg; clear HB; rename_i HB BK101 GW101 GE101; clear hb hbox hg; obtain ⟨hcz12_0, hcz12_1, hcz12_2, hcz12_3, hcz12_4, hcz12_5, hcz12_6, hcz12_7, hcz12_8, hfz12_0, hfz12_1, hfz12_2, hfz12_3, hfz12_4, hfz12_5, hfz12_6, hfz12_7, hfz12_8⟩ := cellsZ9 BK101.out) | ((with_reducible refine gate_callee (f := 42) rfl ?_); refine goesL_ (some 15) rfl rfl Try.func42 (by kernel_rfl) rfl #[.agg #[.int .i64 a0_3, .int .i64 a0_4, .int .i64 a0_5, .int .i64 a0_6, .slice A0_7 l0_7.length c0_7, .bool a0_8], .int .i64 (wrap64 (a1 - (a0_0.size : Int)))] rfl zee81 ?_; (with_reducible refine (laws_szAgg.calls a0_3 a0_4 a0_5 a0_6 _ _ l0_7 a0_8 (wrap64 (a1 - (a0_0.size : Int))) t102 _ ?side1 ?side2 A6.out).mono ?_); (case side1 => exact (cZ (Kd.C_below HR0_7.out HB.out))); (case side2 => exact HC0_7.out); rintro e w13 ⟨rfl, hb⟩; refine ⟨_, rfl, ?_⟩; have _ := bB gb101 hb; have _ := aM (below_step hbZ hb); clear BK101 HB; rename_i BK101 HB; (try clear hb)))
     go_ret
     exact ⟨z674d, zcb41⟩

end Go.Proofs.Ytdkokfnnebdppaa.P

-- written by a program of this session's (wip/pp)
namespace Go.Proofs.Ytdkokfnnebdppaa.P
open Go.RowKit Go.Proofs.YtdkokfnnebdppaaW.PrintWords Go.Proofs.YtdkokfnnebdppaaW.PrintLast Go.Proofs.YtdkokfnnebdppaaW.PrintMore
attribute [local go_sem] max2_int min2_int max_two min_two max_three min_three max_four min_four str_geq str_gtr str_leq   -- for this text's walks alone
set_option linter.unusedVariables false
set_option linter.unusedSimpArgs false

/-! ### spec_l1In: function 64 -/
def spec_l1In.f (a0 : Int) (a1 : Int) (a2 : Int) : Option (Bool) := if a0 ≥ a1 then (some (decide (a0 ≤ a2))) else (some false)
set_option maxHeartbeats 8000000 in
set_option maxRecDepth 100000 in
theorem spec_l1In.calls (a0 : Int) (a1 : Int) (a2 : Int) (r : Bool) (w : World) (h : spec_l1In.f a0 a1 a2 = some r) :
 Calls Try.prog 64 #[.int .i64 a0, .int .i64 a1, .int .i64 a2] w fun e w' => e = .returned (.bool r) ∧ Drawn0 w w' := by
 have H : (if a0 ≥ a1 then (some (decide (a0 ≤ a2))) else (some false)) = some r := h
 clear h
 by_cases c4 : a0 ≥ a1
 · rw [if_pos c4] at H
   have c4b0 : decide (a1 ≤ a0) = true := decide_eq_true c4
   clear c4
   obtain rfl := Option.some.inj H
   go_enter Try.func64, Try.ntmps64
   go_wp2
   go_ret
   exact ⟨z4458, za9de⟩
 · rw [if_neg c4] at H
   have c4b0 : decide (a1 ≤ a0) = false := decide_eq_false c4
   clear c4
   obtain rfl := Option.some.inj H
   go_enter Try.func64, Try.ntmps64
   go_wp2
   go_ret
   exact ⟨z4458, za9de⟩

end Go.Proofs.Ytdkokfnnebdppaa.P

-- written by a program of this session's (wip/pp)
namespace Go.Proofs.Ytdkokfnnebdppaa.P
open Go.RowKit Go.Proofs.YtdkokfnnebdppaaW.PrintWords Go.Proofs.YtdkokfnnebdppaaW.PrintLast Go.Proofs.YtdkokfnnebdppaaW.PrintMore
attribute [local go_sem] max2_int min2_int max_two min_two max_three min_three max_four min_four str_geq str_gtr str_leq   -- for this text's walks alone
set_option linter.unusedVariables false
set_option linter.unusedSimpArgs false

/-! ### spec_l4Value: function 94 -/
def spec_l4Value.f (a0 : Int) : Option (Bool) := (spec_l1In.f a0 (-1000000000) 1000000000).bind fun t101 => (some t101)
set_option maxHeartbeats 8000000 in
set_option maxRecDepth 100000 in
theorem spec_l4Value.calls (a0 : Int) (r : Bool) (w : World) (h : spec_l4Value.f a0 = some r) :
 Calls Try.prog 94 #[.int .i64 a0] w fun e w' => e = .returned (.bool r) ∧ Drawn0 w w' := by
 have H : ((spec_l1In.f a0 (-1000000000) 1000000000).bind fun t101 => (some t101)) = some r := h
 clear h
 replace H := Option.bind_eq_some_iff.mp H
 obtain ⟨t101, A20, H⟩ := H
 try dsimp only at H
 have A2 := aM A20
 clear A20
 obtain rfl := Option.some.inj H
 go_enter Try.func94, Try.ntmps94
 go_wp2_with (first | ((with_reducible refine gate_callee (f := 64) rfl ?_); refine goesL_ (some 4) rfl rfl Try.func64 (by kernel_rfl) rfl #[.int .i64 a0, .int .i64 (-1000000000), .int .i64 1000000000] rfl zee81 ?_; (with_reducible refine (spec_l1In.calls a0 (-1000000000) 1000000000 t101 _ A2.out).mono ?_); rintro e w' ⟨rfl, ⟨nd, rfl⟩⟩; refine ⟨_, rfl, ?_⟩))
 go_ret
 exact ⟨z4458, za9de⟩

end Go.Proofs.Ytdkokfnnebdppaa.P

-- written by a program of this session's (wip/pp)
namespace Go.Proofs.Ytdkokfnnebdppaa.P
open Go.RowKit Go.Proofs.YtdkokfnnebdppaaW.PrintWords Go.Proofs.YtdkokfnnebdppaaW.PrintLast Go.Proofs.YtdkokfnnebdppaaW.PrintMore
attribute [local go_sem] max2_int min2_int max_two min_two max_three min_three max_four min_four str_geq str_gtr str_leq   -- for this text's walks alone
set_option linter.unusedVariables false
set_option linter.unusedSimpArgs false

/-! ### spec_GoodAgg: function 76 -/
mutual
def spec_GoodAgg.j0 : Nat → Bool → Int → Int → Int → Int → List Int → Bool → Option (Bool)
 | 0, _, _, _, _, _, _, _ => none
 | k + 1, x15, x102000, x102001, x102002, x102003, x102004, x102005 => if x15 = true then (some false) else (spec_GoodAgg.l0 k 0 x102004 (x102004.length : Int) 0 x102000 x102001 x102002 x102003 x102004 x102005)
def spec_GoodAgg.l0 : Nat → Int → List Int → Int → Int → Int → Int → Int → Int → List Int → Bool → Option (Bool)
 | 0, _, _, _, _, _, _, _, _, _, _ => none
 | k + 1, x3, x17, x18, x19, x102000, x102001, x102002, x102003, x102004, x102005 => if x19 < x18 then (if 0 ≤ x19 then (if x19 < (x17.length : Int) then ((spec_l1In.f (rd x17 x19) 0 1000000000).bind fun t104 => (if t104 = true then (spec_GoodAgg.l0 k (wrap64 (x3 + (rd x17 x19))) x17 x18 (wrap64 (x19 + 1)) x102000 x102001 x102002 x102003 x102004 x102005) else (some false))) else (none)) else (none)) else (if x102000 = 0 then (if x3 = 0 then (if x102002 = 0 then (if x102003 = 0 then (if x102001 = 0 then (some (!x102005)) else (some false)) else (some false)) else (some false)) else (some false)) else ((spec_l4Value.f x102002).bind fun t105 => (if t105 = true then ((spec_l4Value.f x102003).bind fun t106 => (if t106 = true then (spec_GoodAgg.j2 k x3 (decide (x102002 > x102003)) x102000 x102001 x102002 x102003 x102004 x102005) else (spec_GoodAgg.j2 k x3 true x102000 x102001 x102002 x102003 x102004 x102005))) else (spec_GoodAgg.j2 k x3 true x102000 x102001 x102002 x102003 x102004 x102005))))
def spec_GoodAgg.j2 : Nat → Int → Bool → Int → Int → Int → Int → List Int → Bool → Option (Bool)
 | 0, _, _, _, _, _, _, _, _ => none
 | k + 1, x3, x71, x102000, x102001, x102002, x102003, x102004, x102005 => if x71 = true then (some false) else (if x102005 = true then (some (x102001 == 0)) else (if x3 = x102000 then ((spec_l1In.f x102001 (wrap64 ((-1000000000) * x102000)) (wrap64 (1000000000 * x102000))).bind fun t107 => (some t107)) else (some false)))
end
def spec_GoodAgg.f (k : Nat) (a0_0 : Int) (a0_1 : Int) (a0_2 : Int) (a0_3 : Int) (l0_4 : List Int) (a0_5 : Bool) : Option (Bool) := (spec_l1In.f a0_0 0 1000000000).bind fun t102 => (if t102 = true then (spec_GoodAgg.j0 k ((l0_4.length : Int) != 8) a0_0 a0_1 a0_2 a0_3 l0_4 a0_5) else (spec_GoodAgg.j0 k true a0_0 a0_1 a0_2 a0_3 l0_4 a0_5))
theorem spec_GoodAgg.mono_l : ∀ k, (∀ y0 y1 y2 y3 y4 y5 y6, LeO (spec_GoodAgg.j0 k y0 y1 y2 y3 y4 y5 y6) (spec_GoodAgg.j0 (k + 1) y0 y1 y2 y3 y4 y5 y6)) ∧ (∀ y0 y1 y2 y3 y4 y5 y6 y7 y8 y9, LeO (spec_GoodAgg.l0 k y0 y1 y2 y3 y4 y5 y6 y7 y8 y9) (spec_GoodAgg.l0 (k + 1) y0 y1 y2 y3 y4 y5 y6 y7 y8 y9)) ∧ (∀ y0 y1 y2 y3 y4 y5 y6 y7, LeO (spec_GoodAgg.j2 k y0 y1 y2 y3 y4 y5 y6 y7) (spec_GoodAgg.j2 (k + 1) y0 y1 y2 y3 y4 y5 y6 y7))
 | 0 => ⟨fun _ _ _ _ _ _ _ r h => by simp [spec_GoodAgg.j0] at h, fun _ _ _ _ _ _ _ _ _ _ r h => by simp [spec_GoodAgg.l0] at h, fun _ _ _ _ _ _ _ _ r h => by simp [spec_GoodAgg.j2] at h⟩
 | k + 1 => by
  obtain ⟨ih0, ih1, ih2⟩ := spec_GoodAgg.mono_l k
  refine ⟨?_, ?_, ?_⟩
  · intro y0 y1 y2 y3 y4 y5 y6
    unfold spec_GoodAgg.j0
    repeat' first
     | (with_reducible first | exact ih0 .. | exact ih1 .. | exact ih2 .. | exact LeO.refl _ | exact LeO.none _ | refine LeO.ite ?_ ?_ | refine LeO.bind ?_ (fun _ => ?_))
     | exact LeO.none _
     | refine LeO.ite ?_ ?_
     | refine LeO.bind ?_ (fun _ => ?_)
  · intro y0 y1 y2 y3 y4 y5 y6 y7 y8 y9
    unfold spec_GoodAgg.l0
    repeat' first
     | (with_reducible first | exact ih0 .. | exact ih1 .. | exact ih2 .. | exact LeO.refl _ | exact LeO.none _ | refine LeO.ite ?_ ?_ | refine LeO.bind ?_ (fun _ => ?_))
     | exact LeO.none _
     | refine LeO.ite ?_ ?_
     | refine LeO.bind ?_ (fun _ => ?_)
  · intro y0 y1 y2 y3 y4 y5 y6 y7
    unfold spec_GoodAgg.j2
    repeat' first
     | (with_reducible first | exact ih0 .. | exact ih1 .. | exact ih2 .. | exact LeO.refl _ | exact LeO.none _ | refine LeO.ite ?_ ?_ | refine LeO.bind ?_ (fun _ => ?_))
     | exact LeO.none _
     | refine LeO.ite ?_ ?_
     | refine LeO.bind ?_ (fun _ => ?_)
theorem spec_GoodAgg.mono : ∀ a0 a1 a2 a3 a4 a5 k, LeO (spec_GoodAgg.f k a0 a1 a2 a3 a4 a5) (spec_GoodAgg.f (k + 1) a0 a1 a2 a3 a4 a5) := by
 intro a0 a1 a2 a3 a4 a5 k
 obtain ⟨ih0, ih1, ih2⟩ := spec_GoodAgg.mono_l k
 unfold spec_GoodAgg.f
 repeat' first
  | (with_reducible first | exact ih0 .. | exact ih1 .. | exact ih2 .. | exact LeO.refl _ | exact LeO.none _ | refine LeO.ite ?_ ?_ | refine LeO.bind ?_ (fun _ => ?_))
  | exact LeO.none _
  | refine LeO.ite ?_ ?_
  | refine LeO.bind ?_ (fun _ => ?_)
set_option maxHeartbeats 8000000 in
set_option maxRecDepth 100000 in
theorem spec_GoodAgg.calls (k : Nat) (a0_0 : Int) (a0_1 : Int) (a0_2 : Int) (a0_3 : Int) (A0_4 : Option Addr) (c0_4 : Nat) (l0_4 : List Int) (a0_5 : Bool) (r : Bool) (w : World) (hr0_4 : Kd.C (Kd.int .i64) w A0_4 l0_4.length l0_4) (hc0_4 : l0_4.length ≤ c0_4) (h : spec_GoodAgg.f k a0_0 a0_1 a0_2 a0_3 l0_4 a0_5 = some r) :
 Calls Try.prog 76 #[.agg #[.int .i64 a0_0, .int .i64 a0_1, .int .i64 a0_2, .int .i64 a0_3, .slice A0_4 l0_4.length c0_4, .bool a0_5]] w fun e w' => e = .returned (.bool r) ∧ Below w.heap.size w w' := by
 have hu26 := Try.underlying26
 have HR0_4 := aM hr0_4
 have HC0_4 := aM hc0_4
 clear hr0_4 hc0_4
 have HB := aM (Below.refl w.heap.size w)
 have H : ((spec_l1In.f a0_0 0 1000000000).bind fun t102 => (if t102 = true then (spec_GoodAgg.j0 k ((l0_4.length : Int) != 8) a0_0 a0_1 a0_2 a0_3 l0_4 a0_5) else (spec_GoodAgg.j0 k true a0_0 a0_1 a0_2 a0_3 l0_4 a0_5))) = some r := h
 clear h
 have HC2 := aM H
 clear H
 go_enter Try.func76, Try.ntmps76
 go_upto_region 1 with (first | ((with_reducible refine gate_dst (N := 1) rfl ?_); (try (refine gate_guard (by rfl) ?_; dsimp only)); refine box_event ?hg (N := 1) ?hd (cs := #[.int .i64 a0_0, .int .i64 a0_1, .int .i64 a0_2, .int .i64 a0_3, .slice A0_4 l0_4.length c0_4, .bool a0_5]) (t := 26) ?hr ?_; (case hd => rfl); (case hg => rfl); (case hr => first | (go_simp; done) | (go_simp; rfl)); intro gb101 hg w3 hbox hb; have _ := aM (below_step hbZ hb); have _ := aM hbox; have _ := szZ hg; have _ := szZ hg; clear HB; rename_i HB BK101 GW101 GE101; clear hb hbox hg))
 (try simp only [Act.put, List.setIfInBounds_toArray, List.set_cons_zero, List.set_cons_succ])
 go_cut [15] (fun v15 wc => ∃ (kq : Nat) (x15_1 : Bool), v15 = .bool x15_1 ∧ Aside0 (spec_GoodAgg.j0 kq x15_1 a0_0 a0_1 a0_2 a0_3 l0_4 a0_5 = some r) ∧ Aside0 (kq ≤ k) ∧ Aside0 (wc.heap[gb101]? = some (.cells #[.int .i64 a0_0, .int .i64 a0_1, .int .i64 a0_2, .int .i64 a0_3, (.slice A0_4 l0_4.length c0_4), .bool a0_5] 26 (0, 0))) ∧ Aside0 (Below w.heap.size w wc))
 case first =>
  have H := HC2.out
  clear HC2
  replace H := Option.bind_eq_some_iff.mp H
  obtain ⟨t102, A40, H⟩ := H
  try dsimp only at H
  have A4 := aM A40
  clear A40
  by_cases c5 : t102 = true
  · subst c5
    rw [if_pos rfl] at H
    have H' := aM H
    clear H
    obtain ⟨hcz6_0, hcz6_1, hcz6_2, hcz6_3, hcz6_4, hcz6_5, hfz6_0, hfz6_1, hfz6_2, hfz6_3, hfz6_4, hfz6_5⟩ := cellsZ6 BK101.out
    go_wp2_with (first | ((with_reducible refine gate_callee (f := 64) rfl ?_); refine goesL_ (some 8) rfl rfl Try.func64 (by kernel_rfl) rfl #[.int .i64 a0_0, .int .i64 0, .int .i64 1000000000] rfl zee81 ?_; (with_reducible refine (spec_l1In.calls a0_0 0 1000000000 true _ A4.out).mono ?_); rintro e w' ⟨rfl, ⟨nd, rfl⟩⟩; refine ⟨_, rfl, ?_⟩))
    go_meet
    case rel => exact ⟨_, (((l0_4.length : Int) != 8)), z4458, H', ⟨zb79b⟩, ⟨bkZ⟩, ⟨zcb41⟩⟩
  · replace c5 := Bool.eq_false_iff.mpr c5
    subst c5
    rw [if_neg (show ¬ (false = true) by decide)] at H
    have H' := aM H
    clear H
    obtain ⟨hcz7_0, hcz7_1, hcz7_2, hcz7_3, hcz7_4, hcz7_5, hfz7_0, hfz7_1, hfz7_2, hfz7_3, hfz7_4, hfz7_5⟩ := cellsZ6 BK101.out
    go_wp2_with (first | ((with_reducible refine gate_callee (f := 64) rfl ?_); refine goesL_ (some 8) rfl rfl Try.func64 (by kernel_rfl) rfl #[.int .i64 a0_0, .int .i64 0, .int .i64 1000000000] rfl zee81 ?_; (with_reducible refine (spec_l1In.calls a0_0 0 1000000000 false _ A4.out).mono ?_); rintro e w' ⟨rfl, ⟨nd, rfl⟩⟩; refine ⟨_, rfl, ?_⟩))
    go_meet
    case rel => exact ⟨_, (true), z4458, H', ⟨zb79b⟩, ⟨bkZ⟩, ⟨zcb41⟩⟩
 case rest =>
  clear HC2
  try clear p2
  try clear c5
  try clear c6
  try clear c7
  try clear hcz6_0 hcz6_1 hcz6_2 hcz6_3 hcz6_4 hcz6_5
  try clear hcz7_0 hcz7_1 hcz7_2 hcz7_3 hcz7_4 hcz7_5
  try clear hfz6_0 hfz6_1 hfz6_2 hfz6_3 hfz6_4 hfz6_5
  try clear hfz7_0 hfz7_1 hfz7_2 hfz7_3 hfz7_4 hfz7_5
  obtain ⟨kq, x15_1, rfl, HA, HJ1, BK101, HB⟩ := hcut
  cases kq with
  | zero => exact absurd HA.out (by simp [spec_GoodAgg.j0])
  | succ kj1 =>
   have H := HA.out
   clear HA
   simp only [spec_GoodAgg.j0] at H
   by_cases c8 : x15_1 = true
   · subst c8
     rw [if_pos rfl] at H
     obtain rfl := Option.some.inj H
     go_wp2
     go_ret
     exact ⟨z674d, zcb41⟩
   · replace c8 := Bool.eq_false_iff.mpr c8
     subst c8
     rw [if_neg (show ¬ (false = true) by decide)] at H
     have H' := aM H
     clear H
     obtain ⟨hcz9_0, hcz9_1, hcz9_2, hcz9_3, hcz9_4, hcz9_5, hfz9_0, hfz9_1, hfz9_2, hfz9_3, hfz9_4, hfz9_5⟩ := cellsZ6 BK101.out
     go_wp2
     go_loopg [3, 19] kj1 (fun kq v3 v19 w' => ∃ (x3_2 : Int) (x19_2 : Int), v3 = .int .i64 x3_2 ∧ v19 = .int .i64 x19_2 ∧ Aside0 (spec_GoodAgg.l0 kq x3_2 l0_4 (l0_4.length : Int) x19_2 a0_0 a0_1 a0_2 a0_3 l0_4 a0_5 = some r) ∧ Aside0 (kq ≤ kj1) ∧ Aside0 (w'.heap[gb101]? = some (.cells #[.int .i64 a0_0, .int .i64 a0_1, .int .i64 a0_2, .int .i64 a0_3, (.slice A0_4 l0_4.length c0_4), .bool a0_5] 26 (0, 0))) ∧ Aside0 (Below w.heap.size w w'))
     case atStart => exact ⟨(0), (0), z4458, z4458, H', ⟨Nat.le_refl _⟩, ⟨bkZ⟩, ⟨zcb41⟩⟩
     case round =>
      clear H'
      try clear p2
      try clear c5
      try clear c6
      try clear c7
      try clear c8
      try clear hcz6_0 hcz6_1 hcz6_2 hcz6_3 hcz6_4 hcz6_5
      try clear hcz7_0 hcz7_1 hcz7_2 hcz7_3 hcz7_4 hcz7_5
      try clear hcz9_0 hcz9_1 hcz9_2 hcz9_3 hcz9_4 hcz9_5
      try clear hfz6_0 hfz6_1 hfz6_2 hfz6_3 hfz6_4 hfz6_5
      try clear hfz7_0 hfz7_1 hfz7_2 hfz7_3 hfz7_4 hfz7_5
      try clear hfz9_0 hfz9_1 hfz9_2 hfz9_3 hfz9_4 hfz9_5
      try clear p2
      obtain ⟨x3_2, x19_2, rfl, rfl, HA, HK2, BK101, HB⟩ := hrel
      cases gk with
      | zero => exact absurd HA.out (by simp [spec_GoodAgg.l0])
      | succ k2 =>
       have H := HA.out
       clear HA
       simp only [spec_GoodAgg.l0] at H
       by_cases c10 : x19_2 < (l0_4.length : Int)
       · rw [if_pos c10] at H
         have c10b0 : decide (x19_2 < (l0_4.length : Int)) = true := decide_eq_true c10
         clear c10
         replace H := ifS H; obtain ⟨c11, H⟩ := H
         have c11b0 : decide (0 ≤ x19_2) = true := decide_eq_true c11
         clear c11
         replace H := ifS H; obtain ⟨c12, H⟩ := H
         have c12b0 : decide (x19_2 < (l0_4.length : Int)) = true := decide_eq_true c12
         clear c12
         replace H := Option.bind_eq_some_iff.mp H
         obtain ⟨t104, A130, H⟩ := H
         try dsimp only at H
         have A13 := aM A130
         clear A130
         by_cases c14 : t104 = true
         · subst c14
           rw [if_pos rfl] at H
           have H' := aM H
           clear H
           have p103 : 0 ≤ (x19_2 : Int) := of_decide_eq_true z1200
           have q103 : x19_2 < (l0_4.length : Int) := of_decide_eq_true z1200
           obtain ⟨ad103, e103, hx103_0⟩ := Kd.at_int HR0_4.out x19_2 p103 q103
           cases e103
           replace hx103_0 := (HB.out.cell (World.block_lt_of_cell? w _ hx103_0)).trans hx103_0
           replace p103 := eq_true p103
           replace q103 := eq_true q103
           go_wp2_with (first | ((with_reducible refine gate_callee (f := 64) rfl ?_); refine goesL_ (some 24) rfl rfl Try.func64 (by kernel_rfl) rfl #[.int .i64 (rd l0_4 x19_2), .int .i64 0, .int .i64 1000000000] rfl zee81 ?_; (with_reducible refine (spec_l1In.calls (rd l0_4 x19_2) 0 1000000000 true _ A13.out).mono ?_); rintro e w' ⟨rfl, ⟨nd, rfl⟩⟩; refine ⟨_, rfl, ?_⟩))
           go_roundg k2
           case measure => have := HJ1.out; have := HK2.out; omega
           case rel => exact ⟨(wrap64 (x3_2 + (rd l0_4 x19_2))), (wrap64 (x19_2 + 1)), z4458, z4458, H', ⟨by have := HJ1.out; have := HK2.out; omega⟩, ⟨bkZ⟩, ⟨zcb41⟩⟩
         · replace c14 := Bool.eq_false_iff.mpr c14
           subst c14
           rw [if_neg (show ¬ (false = true) by decide)] at H
           obtain rfl := Option.some.inj H
           have p103 : 0 ≤ (x19_2 : Int) := of_decide_eq_true z1200
           have q103 : x19_2 < (l0_4.length : Int) := of_decide_eq_true z1200
           obtain ⟨ad103, e103, hx103_0⟩ := Kd.at_int HR0_4.out x19_2 p103 q103
           cases e103
           replace hx103_0 := (HB.out.cell (World.block_lt_of_cell? w _ hx103_0)).trans hx103_0
           replace p103 := eq_true p103
           replace q103 := eq_true q103
           go_wp2_with (first | ((with_reducible refine gate_callee (f := 64) rfl ?_); refine goesL_ (some 24) rfl rfl Try.func64 (by kernel_rfl) rfl #[.int .i64 (rd l0_4 x19_2), .int .i64 0, .int .i64 1000000000] rfl zee81 ?_; (with_reducible refine (spec_l1In.calls (rd l0_4 x19_2) 0 1000000000 false _ A13.out).mono ?_); rintro e w' ⟨rfl, ⟨nd, rfl⟩⟩; refine ⟨_, rfl, ?_⟩))
           go_ret
           exact ⟨z674d, zcb41⟩
       · rw [if_neg c10] at H
         have c10b0 : decide (x19_2 < (l0_4.length : Int)) = false := decide_eq_false c10
         clear c10
         by_cases c15 : a0_0 = 0
         · rw [if_pos c15] at H
           have c15b0 : (a0_0 == 0) = true := beq_iff_eq.mpr c15
           have c15b1 : (a0_0 != 0) = false := bne_eq_false_iff_eq.mpr c15
           clear c15
           by_cases c16 : x3_2 = 0
           · rw [if_pos c16] at H
             have c16b0 : (x3_2 == 0) = true := beq_iff_eq.mpr c16
             have c16b1 : (x3_2 != 0) = false := bne_eq_false_iff_eq.mpr c16
             clear c16
             by_cases c17 : a0_2 = 0
             · rw [if_pos c17] at H
               have c17b0 : (a0_2 == 0) = true := beq_iff_eq.mpr c17
               have c17b1 : (a0_2 != 0) = false := bne_eq_false_iff_eq.mpr c17
               clear c17
               by_cases c18 : a0_3 = 0
               · rw [if_pos c18] at H
                 have c18b0 : (a0_3 == 0) = true := beq_iff_eq.mpr c18
                 have c18b1 : (a0_3 != 0) = false := bne_eq_false_iff_eq.mpr c18
                 clear c18
                 by_cases c19 : a0_1 = 0
                 · rw [if_pos c19] at H
                   have c19b0 : (a0_1 == 0) = true := beq_iff_eq.mpr c19
                   have c19b1 : (a0_1 != 0) = false := bne_eq_false_iff_eq.mpr c19
                   clear c19
                   obtain rfl := Option.some.inj H
                   obtain ⟨hcz20_0, hcz20_1, hcz20_2, hcz20_3, hcz20_4, hcz20_5, hfz20_0, hfz20_1, hfz20_2, hfz20_3, hfz20_4, hfz20_5⟩ := cellsZ6 BK101.out
                   go_wp2
                   go_ret
                   exact ⟨z674d, zcb41⟩
                 · rw [if_neg c19] at H
                   have c19b0 : (a0_1 == 0) = false := beq_eq_false_iff_ne.mpr c19
                   have c19b1 : (a0_1 != 0) = true := bne_iff_ne.mpr c19
                   obtain rfl := Option.some.inj H
                   obtain ⟨hcz21_0, hcz21_1, hcz21_2, hcz21_3, hcz21_4, hcz21_5, hfz21_0, hfz21_1, hfz21_2, hfz21_3, hfz21_4, hfz21_5⟩ := cellsZ6 BK101.out
                   go_wp2
                   go_ret
                   exact ⟨z674d, zcb41⟩
               · rw [if_neg c18] at H
                 have c18b0 : (a0_3 == 0) = false := beq_eq_false_iff_ne.mpr c18
                 have c18b1 : (a0_3 != 0) = true := bne_iff_ne.mpr c18
                 obtain rfl := Option.some.inj H
                 obtain ⟨hcz22_0, hcz22_1, hcz22_2, hcz22_3, hcz22_4, hcz22_5, hfz22_0, hfz22_1, hfz22_2, hfz22_3, hfz22_4, hfz22_5⟩ := cellsZ6 BK101.out
                 go_wp2
                 go_ret
                 exact ⟨z674d, zcb41⟩
             · rw [if_neg c17] at H
               have c17b0 : (a0_2 == 0) = false := beq_eq_false_iff_ne.mpr c17
               have c17b1 : (a0_2 != 0) = true := bne_iff_ne.mpr c17
               obtain rfl := Option.some.inj H
               obtain ⟨hcz23_0, hcz23_1, hcz23_2, hcz23_3, hcz23_4, hcz23_5, hfz23_0, hfz23_1, hfz23_2, hfz23_3, hfz23_4, hfz23_5⟩ := cellsZ6 BK101.out
               go_wp2
               go_ret
               exact ⟨z674d, zcb41⟩
           · rw [if_neg c16] at H
             have c16b0 : (x3_2 == 0) = false := beq_eq_false_iff_ne.mpr c16
             have c16b1 : (x3_2 != 0) = true := bne_iff_ne.mpr c16
             obtain rfl := Option.some.inj H
             obtain ⟨hcz24_0, hcz24_1, hcz24_2, hcz24_3, hcz24_4, hcz24_5, hfz24_0, hfz24_1, hfz24_2, hfz24_3, hfz24_4, hfz24_5⟩ := cellsZ6 BK101.out
             go_wp2
             go_ret
             exact ⟨z674d, zcb41⟩
         · rw [if_neg c15] at H
           have c15b0 : (a0_0 == 0) = false := beq_eq_false_iff_ne.mpr c15
           have c15b1 : (a0_0 != 0) = true := bne_iff_ne.mpr c15
           have HC25 := aM H
           clear H
           obtain ⟨hcz26_0, hcz26_1, hcz26_2, hcz26_3, hcz26_4, hcz26_5, hfz26_0, hfz26_1, hfz26_2, hfz26_3, hfz26_4, hfz26_5⟩ := cellsZ6 BK101.out
           go_upto_region 13 with (fail)
           go_cut [71] (fun v71 wc => ∃ (kq : Nat) (x71_24 : Bool), v71 = .bool x71_24 ∧ Aside0 (spec_GoodAgg.j2 kq x3_2 x71_24 a0_0 a0_1 a0_2 a0_3 l0_4 a0_5 = some r) ∧ Aside0 (kq ≤ k2) ∧ Aside0 (wc.heap[gb101]? = some (.cells #[.int .i64 a0_0, .int .i64 a0_1, .int .i64 a0_2, .int .i64 a0_3, (.slice A0_4 l0_4.length c0_4), .bool a0_5] 26 (0, 0))) ∧ Aside0 (Below w.heap.size w wc))
           case first =>
            have H := HC25.out
            clear HC25
            replace H := Option.bind_eq_some_iff.mp H
            obtain ⟨t105, A270, H⟩ := H
            try dsimp only at H
            have A27 := aM A270
            clear A270
            by_cases c28 : t105 = true
            · subst c28
              rw [if_pos rfl] at H
              replace H := Option.bind_eq_some_iff.mp H
              obtain ⟨t106, A290, H⟩ := H
              try dsimp only at H
              have A29 := aM A290
              clear A290
              by_cases c30 : t106 = true
              · subst c30
                rw [if_pos rfl] at H
                have H' := aM H
                clear H
                obtain ⟨hcz31_0, hcz31_1, hcz31_2, hcz31_3, hcz31_4, hcz31_5, hfz31_0, hfz31_1, hfz31_2, hfz31_3, hfz31_4, hfz31_5⟩ := cellsZ6 BK101.out
                go_wp2_with (first | ((with_reducible refine gate_callee (f := 94) rfl ?_); refine goesL_ (some 57) rfl rfl Try.func94 (by kernel_rfl) rfl #[.int .i64 a0_2] rfl zee81 ?_; (with_reducible refine (spec_l4Value.calls a0_2 true _ A27.out).mono ?_); rintro e w' ⟨rfl, ⟨nd, rfl⟩⟩; refine ⟨_, rfl, ?_⟩) | (go_at_call 94; (with_reducible refine (spec_l4Value.calls a0_3 true _ A29.out).mono ?_); rintro e w' ⟨rfl, ⟨nd, rfl⟩⟩))
                go_meet
                case rel => exact ⟨_, (decide (a0_2 > a0_3)), z4458, H', ⟨zdc19⟩, ⟨bkZ⟩, ⟨zcb41⟩⟩
              · replace c30 := Bool.eq_false_iff.mpr c30
                subst c30
                rw [if_neg (show ¬ (false = true) by decide)] at H
                have H' := aM H
                clear H
                obtain ⟨hcz32_0, hcz32_1, hcz32_2, hcz32_3, hcz32_4, hcz32_5, hfz32_0, hfz32_1, hfz32_2, hfz32_3, hfz32_4, hfz32_5⟩ := cellsZ6 BK101.out
                go_wp2_with (first | ((with_reducible refine gate_callee (f := 94) rfl ?_); refine goesL_ (some 57) rfl rfl Try.func94 (by kernel_rfl) rfl #[.int .i64 a0_2] rfl zee81 ?_; (with_reducible refine (spec_l4Value.calls a0_2 true _ A27.out).mono ?_); rintro e w' ⟨rfl, ⟨nd, rfl⟩⟩; refine ⟨_, rfl, ?_⟩) | (go_at_call 94; (with_reducible refine (spec_l4Value.calls a0_3 false _ A29.out).mono ?_); rintro e w' ⟨rfl, ⟨nd, rfl⟩⟩))
                go_meet
                case rel => exact ⟨_, (true), z4458, H', ⟨zdc19⟩, ⟨bkZ⟩, ⟨zcb41⟩⟩
            · replace c28 := Bool.eq_false_iff.mpr c28
              subst c28
              rw [if_neg (show ¬ (false = true) by decide)] at H
              have H' := aM H
              clear H
              obtain ⟨hcz33_0, hcz33_1, hcz33_2, hcz33_3, hcz33_4, hcz33_5, hfz33_0, hfz33_1, hfz33_2, hfz33_3, hfz33_4, hfz33_5⟩ := cellsZ6 BK101.out
              go_wp2_with (first | ((with_reducible refine gate_callee (f := 94) rfl ?_); refine goesL_ (some 57) rfl rfl Try.func94 (by kernel_rfl) rfl #[.int .i64 a0_2] rfl zee81 ?_; (with_reducible refine (spec_l4Value.calls a0_2 false _ A27.out).mono ?_); rintro e w' ⟨rfl, ⟨nd, rfl⟩⟩; refine ⟨_, rfl, ?_⟩))
              go_meet
              case rel => exact ⟨_, (true), z4458, H', ⟨zdc19⟩, ⟨bkZ⟩, ⟨zcb41⟩⟩
           case rest =>
            clear HC25
            try clear c1
            try clear p1
            try clear q1
            try clear hx1
            try clear c2
            try clear p2
            try clear c3
            try clear c5
            try clear c6
            try clear p6
            try clear c7
            try clear c8
            try clear c9
            try clear c10
            try clear c10b0
            try clear p10
            try clear q10
            try clear hx10
            try clear c11
            try clear c11b0
            try clear c12
            try clear c12b0
            try clear c14
            try clear c15
            try clear c15b0
            try clear c15b1
            try clear c16
            try clear c16b0
            try clear c16b1
            try clear c17
            try clear c17b0
            try clear c17b1
            try clear c18
            try clear c18b0
            try clear c18b1
            try clear c19
            try clear c19b0
            try clear c19b1
            try clear c28
            try clear c30
            try clear hcz20_0 hcz20_1 hcz20_2 hcz20_3 hcz20_4 hcz20_5
            try clear hcz21_0 hcz21_1 hcz21_2 hcz21_3 hcz21_4 hcz21_5
            try clear hcz22_0 hcz22_1 hcz22_2 hcz22_3 hcz22_4 hcz22_5
            try clear hcz23_0 hcz23_1 hcz23_2 hcz23_3 hcz23_4 hcz23_5
            try clear hcz24_0 hcz24_1 hcz24_2 hcz24_3 hcz24_4 hcz24_5
            try clear hcz26_0 hcz26_1 hcz26_2 hcz26_3 hcz26_4 hcz26_5
            try clear hcz31_0 hcz31_1 hcz31_2 hcz31_3 hcz31_4 hcz31_5
            try clear hcz32_0 hcz32_1 hcz32_2 hcz32_3 hcz32_4 hcz32_5
            try clear hcz33_0 hcz33_1 hcz33_2 hcz33_3 hcz33_4 hcz33_5
            try clear hcz6_0 hcz6_1 hcz6_2 hcz6_3 hcz6_4 hcz6_5
            try clear hcz7_0 hcz7_1 hcz7_2 hcz7_3 hcz7_4 hcz7_5
            try clear hcz9_0 hcz9_1 hcz9_2 hcz9_3 hcz9_4 hcz9_5
            try clear hfz20_0 hfz20_1 hfz20_2 hfz20_3 hfz20_4 hfz20_5
            try clear hfz21_0 hfz21_1 hfz21_2 hfz21_3 hfz21_4 hfz21_5
            try clear hfz22_0 hfz22_1 hfz22_2 hfz22_3 hfz22_4 hfz22_5
            try clear hfz23_0 hfz23_1 hfz23_2 hfz23_3 hfz23_4 hfz23_5
            try clear hfz24_0 hfz24_1 hfz24_2 hfz24_3 hfz24_4 hfz24_5
            try clear hfz26_0 hfz26_1 hfz26_2 hfz26_3 hfz26_4 hfz26_5
            try clear hfz31_0 hfz31_1 hfz31_2 hfz31_3 hfz31_4 hfz31_5
            try clear hfz32_0 hfz32_1 hfz32_2 hfz32_3 hfz32_4 hfz32_5
            try clear hfz33_0 hfz33_1 hfz33_2 hfz33_3 hfz33_4 hfz33_5
            try clear hfz6_0 hfz6_1 hfz6_2 hfz6_3 hfz6_4 hfz6_5
            try clear hfz7_0 hfz7_1 hfz7_2 hfz7_3 hfz7_4 hfz7_5
            try clear hfz9_0 hfz9_1 hfz9_2 hfz9_3 hfz9_4 hfz9_5
            try clear hx103_0
            try clear p103
            try clear p2
            try clear q103
            obtain ⟨kq, x71_24, rfl, HA, HJ24, BK101, HB⟩ := hcut
            cases kq with
            | zero => exact absurd HA.out (by simp [spec_GoodAgg.j2])
            | succ kj24 =>
             have H := HA.out
             clear HA
             simp only [spec_GoodAgg.j2] at H
             by_cases c34 : x71_24 = true
             · subst c34
               rw [if_pos rfl] at H
               obtain rfl := Option.some.inj H
               go_wp2
               go_ret
               exact ⟨z674d, zcb41⟩
             · replace c34 := Bool.eq_false_iff.mpr c34
               subst c34
               rw [if_neg (show ¬ (false = true) by decide)] at H
               by_cases c35 : a0_5 = true
               · subst c35
                 rw [if_pos rfl] at H
                 obtain rfl := Option.some.inj H
                 obtain ⟨hcz36_0, hcz36_1, hcz36_2, hcz36_3, hcz36_4, hcz36_5, hfz36_0, hfz36_1, hfz36_2, hfz36_3, hfz36_4, hfz36_5⟩ := cellsZ6 BK101.out
                 go_wp2
                 go_ret
                 exact ⟨z674d, zcb41⟩
               · replace c35 := Bool.eq_false_iff.mpr c35
                 subst c35
                 rw [if_neg (show ¬ (false = true) by decide)] at H
                 by_cases c37 : x3_2 = a0_0
                 · rw [if_pos c37] at H
                   have c37b0 : (x3_2 == a0_0) = true := beq_iff_eq.mpr c37
                   have c37b1 : (x3_2 != a0_0) = false := bne_eq_false_iff_eq.mpr c37
                   clear c37
                   replace H := Option.bind_eq_some_iff.mp H
                   obtain ⟨t107, A380, H⟩ := H
                   try dsimp only at H
                   have A38 := aM A380
                   clear A380
                   obtain rfl := Option.some.inj H
                   obtain ⟨hcz39_0, hcz39_1, hcz39_2, hcz39_3, hcz39_4, hcz39_5, hfz39_0, hfz39_1, hfz39_2, hfz39_3, hfz39_4, hfz39_5⟩ := cellsZ6 BK101.out
                   go_wp2_with (first | (go_at_call 64; (with_reducible refine (spec_l1In.calls a0_1 (wrap64 ((-1000000000) * a0_0)) (wrap64 (1000000000 * a0_0)) t107 _ A38.out).mono ?_); rintro e w' ⟨rfl, ⟨nd, rfl⟩⟩))
                   go_ret
                   exact ⟨z674d, zcb41⟩
                 · rw [if_neg c37] at H
                   have c37b0 : (x3_2 == a0_0) = false := beq_eq_false_iff_ne.mpr c37
                   have c37b1 : (x3_2 != a0_0) = true := bne_iff_ne.mpr c37
                   obtain rfl := Option.some.inj H
                   obtain ⟨hcz40_0, hcz40_1, hcz40_2, hcz40_3, hcz40_4, hcz40_5, hfz40_0, hfz40_1, hfz40_2, hfz40_3, hfz40_4, hfz40_5⟩ := cellsZ6 BK101.out
                   go_wp2
                   go_ret
                   exact ⟨z674d, zcb41⟩

end Go.Proofs.Ytdkokfnnebdppaa.P

-- written by a program of this session's (wip/pp)
namespace Go.Proofs.Ytdkokfnnebdppaa.P
open Go.RowKit Go.Proofs.YtdkokfnnebdppaaW.PrintWords Go.Proofs.YtdkokfnnebdppaaW.PrintLast Go.Proofs.YtdkokfnnebdppaaW.PrintMore
attribute [local go_sem] max2_int min2_int max_two min_two max_three min_three max_four min_four str_geq str_gtr str_leq   -- for this text's walks alone
set_option linter.unusedVariables false
set_option linter.unusedSimpArgs false

/-! ### spec_l5Zero: function 77 -/
def spec_l5Zero.f (a0_0 : Int) (a0_1 : Int) (a0_2 : Int) (a0_3 : Int) (l0_4 : List Int) (a0_5 : Bool) : Option (Bool) := if a0_0 = 0 then (if a0_1 = 0 then (if a0_2 = 0 then (if a0_3 = 0 then (if (l0_4.length : Int) = 0 then (some (!a0_5)) else (some false)) else (some false)) else (some false)) else (some false)) else (some false)
set_option maxHeartbeats 8000000 in
set_option maxRecDepth 100000 in
theorem spec_l5Zero.calls (a0_0 : Int) (a0_1 : Int) (a0_2 : Int) (a0_3 : Int) (A0_4 : Option Addr) (c0_4 : Nat) (l0_4 : List Int) (a0_5 : Bool) (r : Bool) (w : World) (hr0_4 : Kd.C (Kd.int .i64) w A0_4 l0_4.length l0_4) (hc0_4 : l0_4.length ≤ c0_4) (h : spec_l5Zero.f a0_0 a0_1 a0_2 a0_3 l0_4 a0_5 = some r) :
 Calls Try.prog 77 #[.agg #[.int .i64 a0_0, .int .i64 a0_1, .int .i64 a0_2, .int .i64 a0_3, .slice A0_4 l0_4.length c0_4, .bool a0_5]] w fun e w' => e = .returned (.bool r) ∧ Below w.heap.size w w' := by
 have hu26 := Try.underlying26
 have HR0_4 := aM hr0_4
 have HC0_4 := aM hc0_4
 clear hr0_4 hc0_4
 have HB := aM (Below.refl w.heap.size w)
 have H : (if a0_0 = 0 then (if a0_1 = 0 then (if a0_2 = 0 then (if a0_3 = 0 then (if (l0_4.length : Int) = 0 then (some (!a0_5)) else (some false)) else (some false)) else (some false)) else (some false)) else (some false)) = some r := h
 clear h
 by_cases c2 : a0_0 = 0
 · rw [if_pos c2] at H
   have c2b0 : (a0_0 == 0) = true := beq_iff_eq.mpr c2
   have c2b1 : (a0_0 != 0) = false := bne_eq_false_iff_eq.mpr c2
   clear c2
   by_cases c3 : a0_1 = 0
   · rw [if_pos c3] at H
     have c3b0 : (a0_1 == 0) = true := beq_iff_eq.mpr c3
     have c3b1 : (a0_1 != 0) = false := bne_eq_false_iff_eq.mpr c3
     clear c3
     by_cases c4 : a0_2 = 0
     · rw [if_pos c4] at H
       have c4b0 : (a0_2 == 0) = true := beq_iff_eq.mpr c4
       have c4b1 : (a0_2 != 0) = false := bne_eq_false_iff_eq.mpr c4
       clear c4
       by_cases c5 : a0_3 = 0
       · rw [if_pos c5] at H
         have c5b0 : (a0_3 == 0) = true := beq_iff_eq.mpr c5
         have c5b1 : (a0_3 != 0) = false := bne_eq_false_iff_eq.mpr c5
         clear c5
         by_cases c6 : (l0_4.length : Int) = 0
         · rw [if_pos c6] at H
           have c6b0 : ((l0_4.length : Int) == 0) = true := beq_iff_eq.mpr c6
           have c6b1 : ((l0_4.length : Int) != 0) = false := bne_eq_false_iff_eq.mpr c6
           clear c6
           obtain rfl := Option.some.inj H
           go_enter Try.func77, Try.ntmps77
           go_wp2_with (first | ((with_reducible refine gate_dst (N := 1) rfl ?_); (try (refine gate_guard (by rfl) ?_; dsimp only)); refine box_event ?hg (N := 1) ?hd (cs := #[.int .i64 a0_0, .int .i64 a0_1, .int .i64 a0_2, .int .i64 a0_3, .slice A0_4 l0_4.length c0_4, .bool a0_5]) (t := 26) ?hr ?_; (case hd => rfl); (case hg => rfl); (case hr => first | (go_simp; done) | (go_simp; rfl)); intro gb101 hg w7 hbox hb; have _ := aM (below_step hbZ hb); have _ := aM hbox; have _ := szZ hg; have _ := szZ hg; clear HB; rename_i HB BK101 GW101 GE101; clear hb hbox hg; obtain ⟨hcz8_0, hcz8_1, hcz8_2, hcz8_3, hcz8_4, hcz8_5, hfz8_0, hfz8_1, hfz8_2, hfz8_3, hfz8_4, hfz8_5⟩ := cellsZ6 BK101.out))
           go_ret
           exact ⟨z674d, zcb41⟩
         · rw [if_neg c6] at H
           have c6b0 : ((l0_4.length : Int) == 0) = false := beq_eq_false_iff_ne.mpr c6
           have c6b1 : ((l0_4.length : Int) != 0) = true := bne_iff_ne.mpr c6
           have c6b2 : ¬ (l0_4 = []) := fun h_ => c6 (by rw [h_]; rfl)
           obtain rfl := Option.some.inj H
           go_enter Try.func77, Try.ntmps77
           go_wp2_with (first | ((with_reducible refine gate_dst (N := 1) rfl ?_); (try (refine gate_guard (by rfl) ?_; dsimp only)); refine box_event ?hg (N := 1) ?hd (cs := #[.int .i64 a0_0, .int .i64 a0_1, .int .i64 a0_2, .int .i64 a0_3, .slice A0_4 l0_4.length c0_4, .bool a0_5]) (t := 26) ?hr ?_; (case hd => rfl); (case hg => rfl); (case hr => first | (go_simp; done) | (go_simp; rfl)); intro gb101 hg w9 hbox hb; have _ := aM (below_step hbZ hb); have _ := aM hbox; have _ := szZ hg; have _ := szZ hg; clear HB; rename_i HB BK101 GW101 GE101; clear hb hbox hg; obtain ⟨hcz10_0, hcz10_1, hcz10_2, hcz10_3, hcz10_4, hcz10_5, hfz10_0, hfz10_1, hfz10_2, hfz10_3, hfz10_4, hfz10_5⟩ := cellsZ6 BK101.out))
           go_ret
           exact ⟨z674d, zcb41⟩
       · rw [if_neg c5] at H
         have c5b0 : (a0_3 == 0) = false := beq_eq_false_iff_ne.mpr c5
         have c5b1 : (a0_3 != 0) = true := bne_iff_ne.mpr c5
         obtain rfl := Option.some.inj H
         go_enter Try.func77, Try.ntmps77
         go_wp2_with (first | ((with_reducible refine gate_dst (N := 1) rfl ?_); (try (refine gate_guard (by rfl) ?_; dsimp only)); refine box_event ?hg (N := 1) ?hd (cs := #[.int .i64 a0_0, .int .i64 a0_1, .int .i64 a0_2, .int .i64 a0_3, .slice A0_4 l0_4.length c0_4, .bool a0_5]) (t := 26) ?hr ?_; (case hd => rfl); (case hg => rfl); (case hr => first | (go_simp; done) | (go_simp; rfl)); intro gb101 hg w11 hbox hb; have _ := aM (below_step hbZ hb); have _ := aM hbox; have _ := szZ hg; have _ := szZ hg; clear HB; rename_i HB BK101 GW101 GE101; clear hb hbox hg; obtain ⟨hcz12_0, hcz12_1, hcz12_2, hcz12_3, hcz12_4, hcz12_5, hfz12_0, hfz12_1, hfz12_2, hfz12_3, hfz12_4, hfz12_5⟩ := cellsZ6 BK101.out))
         go_ret
         exact ⟨z674d, zcb41⟩
     · rw [if_neg c4] at H
       have c4b0 : (a0_2 == 0) = false := beq_eq_false_iff_ne.mpr c4
       have c4b1 : (a0_2 != 0) = true := bne_iff_ne.mpr c4
       obtain rfl := Option.some.inj H
       go_enter Try.func77, Try.ntmps77
       go_wp2_with (first | ((with_reducible refine gate_dst (N := 1) rfl ?_); (try (refine gate_guard (by rfl) ?_; dsimp only)); refine box_event ?hg (N := 1) ?hd (cs := #[.int .i64 a0_0, .int .i64 a0_1, .int .i64 a0_2, .int .i64 a0_3, .slice A0_4 l0_4.length c0_4, .bool a0_5]) (t := 26) ?hr ?_; (case hd => rfl); (case hg => rfl); (case hr => first | (go_simp; done) | (go_simp; rfl)); intro gb101 hg w13 hbox hb; have _ := aM (below_step hbZ hb); have _ := aM hbox; have _ := szZ hg; have _ := szZ hg; clear HB; rename_i HB BK101 GW101 GE101; clear hb hbox hg; obtain ⟨hcz14_0, hcz14_1, hcz14_2, hcz14_3, hcz14_4, hcz14_5, hfz14_0, hfz14_1, hfz14_2, hfz14_3, hfz14_4, hfz14_5⟩ := cellsZ6 BK101.out))
       go_ret
       exact ⟨z674d, zcb41⟩
   · rw [if_neg c3] at H
     have c3b0 : (a0_1 == 0) = false := beq_eq_false_iff_ne.mpr c3
     have c3b1 : (a0_1 != 0) = true := bne_iff_ne.mpr c3
     obtain rfl := Option.some.inj H
     go_enter Try.func77, Try.ntmps77
     go_wp2_with (first | ((with_reducible refine gate_dst (N := 1) rfl ?_); (try (refine gate_guard (by rfl) ?_; dsimp only)); refine box_event ?hg (N := 1) ?hd (cs := #[.int .i64 a0_0, .int .i64 a0_1, .int .i64 a0_2, .int .i64 a0_3, .slice A0_4 l0_4.length c0_4, .bool a0_5]) (t := 26) ?hr ?_; (case hd => rfl); (case hg => rfl); (case hr => first | (go_simp; done) | (go_simp; rfl)); intro gb101 hg w15 hbox hb; have _ := aM (below_step hbZ hb); have _ := aM hbox; have _ := szZ hg; have _ := szZ hg; clear HB; rename_i HB BK101 GW101 GE101; clear hb hbox hg; obtain ⟨hcz16_0, hcz16_1, hcz16_2, hcz16_3, hcz16_4, hcz16_5, hfz16_0, hfz16_1, hfz16_2, hfz16_3, hfz16_4, hfz16_5⟩ := cellsZ6 BK101.out))
     go_ret
     exact ⟨z674d, zcb41⟩
 · rw [if_neg c2] at H
   have c2b0 : (a0_0 == 0) = false := beq_eq_false_iff_ne.mpr c2
   have c2b1 : (a0_0 != 0) = true := bne_iff_ne.mpr c2
   obtain rfl := Option.some.inj H
   go_enter Try.func77, Try.ntmps77
   go_wp2_with (first | ((with_reducible refine gate_dst (N := 1) rfl ?_); (try (refine gate_guard (by rfl) ?_; dsimp only)); refine box_event ?hg (N := 1) ?hd (cs := #[.int .i64 a0_0, .int .i64 a0_1, .int .i64 a0_2, .int .i64 a0_3, .slice A0_4 l0_4.length c0_4, .bool a0_5]) (t := 26) ?hr ?_; (case hd => rfl); (case hg => rfl); (case hr => first | (go_simp; done) | (go_simp; rfl)); intro gb101 hg w17 hbox hb; have _ := aM (below_step hbZ hb); have _ := aM hbox; have _ := szZ hg; have _ := szZ hg; clear HB; rename_i HB BK101 GW101 GE101; clear hb hbox hg; obtain ⟨hcz18_0, hcz18_1, hcz18_2, hcz18_3, hcz18_4, hcz18_5, hfz18_0, hfz18_1, hfz18_2, hfz18_3, hfz18_4, hfz18_5⟩ := cellsZ6 BK101.out))
   go_ret
   exact ⟨z674d, zcb41⟩

end Go.Proofs.Ytdkokfnnebdppaa.P

-- written by a program of this session's (wip/pp)
namespace Go.Proofs.Ytdkokfnnebdppaa.P
open Go.RowKit Go.Proofs.YtdkokfnnebdppaaW.PrintWords Go.Proofs.YtdkokfnnebdppaaW.PrintLast Go.Proofs.YtdkokfnnebdppaaW.PrintMore
attribute [local go_sem] max2_int min2_int max_two min_two max_three min_three max_four min_four str_geq str_gtr str_leq   -- for this text's walks alone
set_option linter.unusedVariables false
set_option linter.unusedSimpArgs false

/-! ### spec_GoodEntry: function 43 -/
mutual
def spec_GoodEntry.j0 : Nat → Bool → ByteArray → Int → Int → Int → Int → Int → Int → List Int → Bool → Option (Bool)
 | 0, _, _, _, _, _, _, _, _, _, _ => none
 | k + 1, x13, x102000, x102001, x102002, x102003, x102004, x102005, x102006, x102007, x102008 => if x13 = true then (some false) else (if x102002 = 1 then (spec_GoodEntry.j1 k x102002 (x102002 == 1) x102000 x102001 x102002 x102003 x102004 x102005 x102006 x102007 x102008) else (spec_GoodEntry.j1 k x102002 (x102002 == 3) x102000 x102001 x102002 x102003 x102004 x102005 x102006 x102007 x102008))
def spec_GoodEntry.j1 : Nat → Int → Bool → ByteArray → Int → Int → Int → Int → Int → Int → List Int → Bool → Option (Bool)
 | 0, _, _, _, _, _, _, _, _, _, _, _ => none
 | k + 1, x15, x16, x102000, x102001, x102002, x102003, x102004, x102005, x102006, x102007, x102008 => if x16 = true then ((spec_GoodAgg.f k x102003 x102004 x102005 x102006 x102007 x102008).bind fun t104 => (some t104)) else (if x15 = 2 then ((spec_l5Zero.f x102003 x102004 x102005 x102006 x102007 x102008).bind fun t105 => (some t105)) else (some false))
end
def spec_GoodEntry.f (k : Nat) (a0_0 : ByteArray) (a0_1 : Int) (a0_2 : Int) (a0_3 : Int) (a0_4 : Int) (a0_5 : Int) (a0_6 : Int) (l0_7 : List Int) (a0_8 : Bool) : Option (Bool) := (spec_l1In.f (a0_0.size : Int) 1 140).bind fun t102 => (if t102 = true then ((spec_l1In.f a0_1 1 1000000000).bind fun t103 => (spec_GoodEntry.j0 k (!t103) a0_0 a0_1 a0_2 a0_3 a0_4 a0_5 a0_6 l0_7 a0_8)) else (spec_GoodEntry.j0 k true a0_0 a0_1 a0_2 a0_3 a0_4 a0_5 a0_6 l0_7 a0_8))
theorem spec_GoodEntry.mono_l : ∀ k, (∀ y0 y1 y2 y3 y4 y5 y6 y7 y8 y9, LeO (spec_GoodEntry.j0 k y0 y1 y2 y3 y4 y5 y6 y7 y8 y9) (spec_GoodEntry.j0 (k + 1) y0 y1 y2 y3 y4 y5 y6 y7 y8 y9)) ∧ (∀ y0 y1 y2 y3 y4 y5 y6 y7 y8 y9 y10, LeO (spec_GoodEntry.j1 k y0 y1 y2 y3 y4 y5 y6 y7 y8 y9 y10) (spec_GoodEntry.j1 (k + 1) y0 y1 y2 y3 y4 y5 y6 y7 y8 y9 y10))
 | 0 => ⟨fun _ _ _ _ _ _ _ _ _ _ r h => by simp [spec_GoodEntry.j0] at h, fun _ _ _ _ _ _ _ _ _ _ _ r h => by simp [spec_GoodEntry.j1] at h⟩
 | k + 1 => by
  obtain ⟨ih0, ih1⟩ := spec_GoodEntry.mono_l k
  refine ⟨?_, ?_⟩
  · intro y0 y1 y2 y3 y4 y5 y6 y7 y8 y9
    unfold spec_GoodEntry.j0
    repeat' first
     | (with_reducible first | exact ih0 .. | exact ih1 .. | exact spec_GoodAgg.mono .. | exact LeO.refl _ | exact LeO.none _ | refine LeO.ite ?_ ?_ | refine LeO.bind ?_ (fun _ => ?_))
     | exact LeO.none _
     | refine LeO.ite ?_ ?_
     | refine LeO.bind ?_ (fun _ => ?_)
  · intro y0 y1 y2 y3 y4 y5 y6 y7 y8 y9 y10
    unfold spec_GoodEntry.j1
    repeat' first
     | (with_reducible first | exact ih0 .. | exact ih1 .. | exact spec_GoodAgg.mono .. | exact LeO.refl _ | exact LeO.none _ | refine LeO.ite ?_ ?_ | refine LeO.bind ?_ (fun _ => ?_))
     | exact LeO.none _
     | refine LeO.ite ?_ ?_
     | refine LeO.bind ?_ (fun _ => ?_)
theorem spec_GoodEntry.mono : ∀ a0 a1 a2 a3 a4 a5 a6 a7 a8 k, LeO (spec_GoodEntry.f k a0 a1 a2 a3 a4 a5 a6 a7 a8) (spec_GoodEntry.f (k + 1) a0 a1 a2 a3 a4 a5 a6 a7 a8) := by
 intro a0 a1 a2 a3 a4 a5 a6 a7 a8 k
 obtain ⟨ih0, ih1⟩ := spec_GoodEntry.mono_l k
 unfold spec_GoodEntry.f
 repeat' first
  | (with_reducible first | exact ih0 .. | exact ih1 .. | exact spec_GoodAgg.mono .. | exact LeO.refl _ | exact LeO.none _ | refine LeO.ite ?_ ?_ | refine LeO.bind ?_ (fun _ => ?_))
  | exact LeO.none _
  | refine LeO.ite ?_ ?_
  | refine LeO.bind ?_ (fun _ => ?_)
set_option maxHeartbeats 8000000 in
set_option maxRecDepth 100000 in
theorem spec_GoodEntry.calls (k : Nat) (a0_0 : ByteArray) (a0_1 : Int) (a0_2 : Int) (a0_3 : Int) (a0_4 : Int) (a0_5 : Int) (a0_6 : Int) (A0_7 : Option Addr) (c0_7 : Nat) (l0_7 : List Int) (a0_8 : Bool) (r : Bool) (w : World) (hr0_7 : Kd.C (Kd.int .i64) w A0_7 l0_7.length l0_7) (hc0_7 : l0_7.length ≤ c0_7) (h : spec_GoodEntry.f k a0_0 a0_1 a0_2 a0_3 a0_4 a0_5 a0_6 l0_7 a0_8 = some r) :
 Calls Try.prog 43 #[.agg #[.string a0_0, .int .i64 a0_1, .int .i64 a0_2, .int .i64 a0_3, .int .i64 a0_4, .int .i64 a0_5, .int .i64 a0_6, .slice A0_7 l0_7.length c0_7, .bool a0_8]] w fun e w' => e = .returned (.bool r) ∧ Below w.heap.size w w' := by
 have hu45 := Try.underlying45
 have hu26 := Try.underlying26
 have HR0_7 := aM hr0_7
 have HC0_7 := aM hc0_7
 clear hr0_7 hc0_7
 have HB := aM (Below.refl w.heap.size w)
 have H : ((spec_l1In.f (a0_0.size : Int) 1 140).bind fun t102 => (if t102 = true then ((spec_l1In.f a0_1 1 1000000000).bind fun t103 => (spec_GoodEntry.j0 k (!t103) a0_0 a0_1 a0_2 a0_3 a0_4 a0_5 a0_6 l0_7 a0_8)) else (spec_GoodEntry.j0 k true a0_0 a0_1 a0_2 a0_3 a0_4 a0_5 a0_6 l0_7 a0_8))) = some r := h
 clear h
 have HC2 := aM H
 clear H
 go_enter Try.func43, Try.ntmps43
 go_upto_region 1 with (first | ((with_reducible refine gate_dst (N := 1) rfl ?_); refine box_event ?hg (N := 1) ?hd (cs := #[.string a0_0, .int .i64 a0_1, .int .i64 a0_2, .int .i64 a0_3, .int .i64 a0_4, .int .i64 a0_5, .int .i64 a0_6, .slice A0_7 l0_7.length c0_7, .bool a0_8]) (t := 45) ?hr ?_; (case hd => rfl); (case hg => rfl); (case hr => first | (go_simp; done) | (go_simp; rfl)); intro gb101 hg w3 hbox hb; have _ := aM (below_step hbZ hb); have _ := aM hbox; have _ := szZ hg; have _ := szZ hg; clear HB; rename_i HB BK101 GW101 GE101; clear hb hbox hg))
 (try simp only [Act.put, List.setIfInBounds_toArray, List.set_cons_zero, List.set_cons_succ])
 go_cut [13] (fun v13 wc => ∃ (kq : Nat) (x13_1 : Bool), v13 = .bool x13_1 ∧ Aside0 (spec_GoodEntry.j0 kq x13_1 a0_0 a0_1 a0_2 a0_3 a0_4 a0_5 a0_6 l0_7 a0_8 = some r) ∧ Aside0 (kq ≤ k) ∧ Aside0 (wc.heap[gb101]? = some (.cells #[.string a0_0, .int .i64 a0_1, .int .i64 a0_2, .int .i64 a0_3, .int .i64 a0_4, .int .i64 a0_5, .int .i64 a0_6, (.slice A0_7 l0_7.length c0_7), .bool a0_8] 45 (0, 0))) ∧ Aside0 (Below w.heap.size w wc))
 case first =>
  have H := HC2.out
  clear HC2
  replace H := Option.bind_eq_some_iff.mp H
  obtain ⟨t102, A40, H⟩ := H
  try dsimp only at H
  have A4 := aM A40
  clear A40
  by_cases c5 : t102 = true
  · subst c5
    rw [if_pos rfl] at H
    replace H := Option.bind_eq_some_iff.mp H
    obtain ⟨t103, A60, H⟩ := H
    try dsimp only at H
    have A6 := aM A60
    clear A60
    have H' := aM H
    clear H
    obtain ⟨hcz7_0, hcz7_1, hcz7_2, hcz7_3, hcz7_4, hcz7_5, hcz7_6, hcz7_7, hcz7_8, hfz7_0, hfz7_1, hfz7_2, hfz7_3, hfz7_4, hfz7_5, hfz7_6, hfz7_7, hfz7_8⟩ := cellsZ9 BK101.out
    go_wp2_with (first | ((with_reducible refine gate_callee (f := 64) rfl ?_); refine goesL_ (some 6) rfl rfl Try.func64 (by kernel_rfl) rfl #[.int .i64 (a0_0.size : Int), .int .i64 1, .int .i64 140] rfl zee81 ?_; (with_reducible refine (spec_l1In.calls (a0_0.size : Int) 1 140 true _ A4.out).mono ?_); rintro e w' ⟨rfl, ⟨nd, rfl⟩⟩; refine ⟨_, rfl, ?_⟩) | (go_at_call 64; (with_reducible refine (spec_l1In.calls a0_1 1 1000000000 t103 _ A6.out).mono ?_); rintro e w' ⟨rfl, ⟨nd, rfl⟩⟩))
    go_meet
    case rel => exact ⟨_, (!t103), z4458, H', ⟨zb79b⟩, ⟨bkZ⟩, ⟨zcb41⟩⟩
  · replace c5 := Bool.eq_false_iff.mpr c5
    subst c5
    rw [if_neg (show ¬ (false = true) by decide)] at H
    have H' := aM H
    clear H
    obtain ⟨hcz8_0, hcz8_1, hcz8_2, hcz8_3, hcz8_4, hcz8_5, hcz8_6, hcz8_7, hcz8_8, hfz8_0, hfz8_1, hfz8_2, hfz8_3, hfz8_4, hfz8_5, hfz8_6, hfz8_7, hfz8_8⟩ := cellsZ9 BK101.out
    go_wp2_with (first | ((with_reducible refine gate_callee (f := 64) rfl ?_); refine goesL_ (some 6) rfl rfl Try.func64 (by kernel_rfl) rfl #[.int .i64 (a0_0.size : Int), .int .i64 1, .int .i64 140] rfl zee81 ?_; (with_reducible refine (spec_l1In.calls (a0_0.size : Int) 1 140 false _ A4.out).mono ?_); rintro e w' ⟨rfl, ⟨nd, rfl⟩⟩; refine ⟨_, rfl, ?_⟩))
    go_meet
    case rel => exact ⟨_, (true), z4458, H', ⟨zb79b⟩, ⟨bkZ⟩, ⟨zcb41⟩⟩
 case rest =>
  clear HC2
  try clear p2
  try clear c4
  try clear c5
  try clear c6
  try clear hcz7_0 hcz7_1 hcz7_2 hcz7_3 hcz7_4 hcz7_5 hcz7_6 hcz7_7 hcz7_8
  try clear hcz8_0 hcz8_1 hcz8_2 hcz8_3 hcz8_4 hcz8_5 hcz8_6 hcz8_7 hcz8_8
  try clear hfz7_0 hfz7_1 hfz7_2 hfz7_3 hfz7_4 hfz7_5 hfz7_6 hfz7_7 hfz7_8
  try clear hfz8_0 hfz8_1 hfz8_2 hfz8_3 hfz8_4 hfz8_5 hfz8_6 hfz8_7 hfz8_8
  obtain ⟨kq, x13_1, rfl, HA, HJ1, BK101, HB⟩ := hcut
  cases kq with
  | zero => exact absurd HA.out (by simp [spec_GoodEntry.j0])
  | succ kj1 =>
   have H := HA.out
   clear HA
   simp only [spec_GoodEntry.j0] at H
   by_cases c9 : x13_1 = true
   · subst c9
     rw [if_pos rfl] at H
     obtain rfl := Option.some.inj H
     go_wp2
     go_ret
     exact ⟨z674d, zcb41⟩
   · replace c9 := Bool.eq_false_iff.mpr c9
     subst c9
     rw [if_neg (show ¬ (false = true) by decide)] at H
     have HC10 := aM H
     clear H
     obtain ⟨hcz11_0, hcz11_1, hcz11_2, hcz11_3, hcz11_4, hcz11_5, hcz11_6, hcz11_7, hcz11_8, hfz11_0, hfz11_1, hfz11_2, hfz11_3, hfz11_4, hfz11_5, hfz11_6, hfz11_7, hfz11_8⟩ := cellsZ9 BK101.out
     go_upto_if 16 with (fail)
     go_cut [16] (fun v16 wc => ∃ (kq : Nat) (x16_9 : Bool), v16 = .bool x16_9 ∧ Aside0 (spec_GoodEntry.j1 kq a0_2 x16_9 a0_0 a0_1 a0_2 a0_3 a0_4 a0_5 a0_6 l0_7 a0_8 = some r) ∧ Aside0 (kq ≤ kj1) ∧ Aside0 (wc.heap[gb101]? = some (.cells #[.string a0_0, .int .i64 a0_1, .int .i64 a0_2, .int .i64 a0_3, .int .i64 a0_4, .int .i64 a0_5, .int .i64 a0_6, (.slice A0_7 l0_7.length c0_7), .bool a0_8] 45 (0, 0))) ∧ Aside0 (Below w.heap.size w wc))
     case first =>
      have H := HC10.out
      clear HC10
      by_cases c12 : a0_2 = 1
      · rw [if_pos c12] at H
        have c12b0 : (a0_2 == 1) = true := beq_iff_eq.mpr c12
        have c12b1 : (a0_2 != 1) = false := bne_eq_false_iff_eq.mpr c12
        clear c12
        (first | rw [c12b0] | (simp only [i64_w, i32_w]; rw [c12b0]) | skip)
        have H' := aM H
        clear H
        go_wp2
        go_meet
        case rel => exact ⟨_, ((a0_2 == 1)), z4458, H', ⟨by have := HJ1.out; first | omega | exact Nat.le_refl _⟩, ⟨bkZ⟩, ⟨zcb41⟩⟩
      · rw [if_neg c12] at H
        have c12b0 : (a0_2 == 1) = false := beq_eq_false_iff_ne.mpr c12
        have c12b1 : (a0_2 != 1) = true := bne_iff_ne.mpr c12
        (first | rw [c12b0] | (simp only [i64_w, i32_w]; rw [c12b0]) | skip)
        have H' := aM H
        clear H
        go_wp2
        go_meet
        case rel => exact ⟨_, ((a0_2 == 3)), z4458, H', ⟨by have := HJ1.out; first | omega | exact Nat.le_refl _⟩, ⟨bkZ⟩, ⟨zcb41⟩⟩
     case rest =>
      clear HC10
      try clear c1
      try clear p2
      try clear c4
      try clear c5
      try clear c6
      try clear c9
      try clear c12
      try clear c12b0
      try clear c12b1
      try clear hcz11_0 hcz11_1 hcz11_2 hcz11_3 hcz11_4 hcz11_5 hcz11_6 hcz11_7 hcz11_8
      try clear hcz7_0 hcz7_1 hcz7_2 hcz7_3 hcz7_4 hcz7_5 hcz7_6 hcz7_7 hcz7_8
      try clear hcz8_0 hcz8_1 hcz8_2 hcz8_3 hcz8_4 hcz8_5 hcz8_6 hcz8_7 hcz8_8
      try clear hfz11_0 hfz11_1 hfz11_2 hfz11_3 hfz11_4 hfz11_5 hfz11_6 hfz11_7 hfz11_8
      try clear hfz7_0 hfz7_1 hfz7_2 hfz7_3 hfz7_4 hfz7_5 hfz7_6 hfz7_7 hfz7_8
      try clear hfz8_0 hfz8_1 hfz8_2 hfz8_3 hfz8_4 hfz8_5 hfz8_6 hfz8_7 hfz8_8
      try clear p2
      obtain ⟨kq, x16_9, rfl, HA, HJ9, BK101, HB⟩ := hcut
      cases kq with
      | zero => exact absurd HA.out (by simp [spec_GoodEntry.j1])
      | succ kj9 =>
       have H := HA.out
       clear HA
       simp only [spec_GoodEntry.j1] at H
       by_cases c13 : x16_9 = true
       · subst c13
         rw [if_pos rfl] at H
         replace H := Option.bind_eq_some_iff.mp H
         obtain ⟨t104, A140, H⟩ := H
         try dsimp only at H
         have A14 := aM A140
         clear A140
         obtain rfl := Option.some.inj H
         obtain ⟨hcz15_0, hcz15_1, hcz15_2, hcz15_3, hcz15_4, hcz15_5, hcz15_6, hcz15_7, hcz15_8, hfz15_0, hfz15_1, hfz15_2, hfz15_3, hfz15_4, hfz15_5, hfz15_6, hfz15_7, hfz15_8⟩ := cellsZ9 BK101.out
         go_wp2_with (first | ((with_reducible refine gate_callee (f := 76) rfl ?_); refine goesL_ (some 21) rfl rfl Try.func76 (by kernel_rfl) rfl #[.agg #[.int .i64 a0_3, .int .i64 a0_4, .int .i64 a0_5, .int .i64 a0_6, .slice A0_7 l0_7.length c0_7, .bool a0_8]] rfl zee81 ?_; (with_reducible refine (spec_GoodAgg.calls kj9 a0_3 a0_4 a0_5 a0_6 _ _ l0_7 a0_8 t104 _ ?side1 ?side2 A14.out).mono ?_); (case side1 => exact (cZ (Kd.C_below HR0_7.out HB.out))); (case side2 => exact HC0_7.out); rintro e w16 ⟨rfl, hb⟩; refine ⟨_, rfl, ?_⟩; have _ := bB gb101 hb; have _ := aM (below_step hbZ hb); clear BK101 HB; rename_i BK101 HB; (try clear hb)))
         go_ret
         exact ⟨z674d, zcb41⟩
       · replace c13 := Bool.eq_false_iff.mpr c13
         subst c13
         rw [if_neg (show ¬ (false = true) by decide)] at H
         by_cases c17 : a0_2 = 2
         · rw [if_pos c17] at H
           have c17b0 : (a0_2 == 2) = true := beq_iff_eq.mpr c17
           have c17b1 : (a0_2 != 2) = false := bne_eq_false_iff_eq.mpr c17
           clear c17
           replace H := Option.bind_eq_some_iff.mp H
           obtain ⟨t105, A180, H⟩ := H
           try dsimp only at H
           have A18 := aM A180
           clear A180
           obtain rfl := Option.some.inj H
           obtain ⟨hcz19_0, hcz19_1, hcz19_2, hcz19_3, hcz19_4, hcz19_5, hcz19_6, hcz19_7, hcz19_8, hfz19_0, hfz19_1, hfz19_2, hfz19_3, hfz19_4, hfz19_5, hfz19_6, hfz19_7, hfz19_8⟩ := cellsZ9 BK101.out
           go_wp2_with (first | ((with_reducible refine gate_callee (f := 77) rfl ?_); refine goesL_ (some 26) rfl rfl Try.func77 (by kernel_rfl) rfl #[.agg #[.int .i64 a0_3, .int .i64 a0_4, .int .i64 a0_5, .int .i64 a0_6, .slice A0_7 l0_7.length c0_7, .bool a0_8]] rfl zee81 ?_; (with_reducible refine (spec_l5Zero.calls a0_3 a0_4 a0_5 a0_6 _ _ l0_7 a0_8 t105 _ ?side1 ?side2 A18.out).mono ?_); (case side1 => exact (cZ (Kd.C_below HR0_7.out HB.out))); (case side2 => exact HC0_7.out); rintro e w20 ⟨rfl, hb⟩; refine ⟨_, rfl, ?_⟩; have _ := bB gb101 hb; have _ := aM (below_step hbZ hb); clear BK101 HB; rename_i BK101 HB; (try clear hb)))
           go_ret
           exact ⟨z674d, zcb41⟩
         · rw [if_neg c17] at H
           have c17b0 : (a0_2 == 2) = false := beq_eq_false_iff_ne.mpr c17
           have c17b1 : (a0_2 != 2) = true := bne_iff_ne.mpr c17
           obtain rfl := Option.some.inj H
           go_wp2
           go_ret
           exact ⟨z674d, zcb41⟩

end Go.Proofs.Ytdkokfnnebdppaa.P

-- written by a program of this session's (wip/pp)
namespace Go.Proofs.Ytdkokfnnebdppaa.P
open Go.RowKit Go.Proofs.YtdkokfnnebdppaaW.PrintWords Go.Proofs.YtdkokfnnebdppaaW.PrintLast Go.Proofs.YtdkokfnnebdppaaW.PrintMore
attribute [local go_sem] max2_int min2_int max_two min_two max_three min_three max_four min_four str_geq str_gtr str_leq   -- for this text's walks alone
set_option linter.unusedVariables false
set_option linter.unusedSimpArgs false

/-! ### spec_l5Before: function 65 -/
def spec_l5Before.f (a0_0 : ByteArray) (a0_1 : Int) (a0_2 : Int) (a0_3 : Int) (a0_4 : Int) (a0_5 : Int) (a0_6 : Int) (l0_7 : List Int) (a0_8 : Bool) (a1_0 : ByteArray) (a1_1 : Int) (a1_2 : Int) (a1_3 : Int) (a1_4 : Int) (a1_5 : Int) (a1_6 : Int) (l1_7 : List Int) (a1_8 : Bool) : Option (Bool) := if (Op.bytesLess a0_0.toList a1_0.toList) = true then (some true) else (if a0_0.toList = a1_0.toList then (some (decide (a0_1 > a1_1))) else (some false))
set_option maxHeartbeats 8000000 in
set_option maxRecDepth 100000 in
theorem spec_l5Before.calls (a0_0 : ByteArray) (a0_1 : Int) (a0_2 : Int) (a0_3 : Int) (a0_4 : Int) (a0_5 : Int) (a0_6 : Int) (A0_7 : Option Addr) (c0_7 : Nat) (l0_7 : List Int) (a0_8 : Bool) (a1_0 : ByteArray) (a1_1 : Int) (a1_2 : Int) (a1_3 : Int) (a1_4 : Int) (a1_5 : Int) (a1_6 : Int) (A1_7 : Option Addr) (c1_7 : Nat) (l1_7 : List Int) (a1_8 : Bool) (r : Bool) (w : World) (hr0_7 : Kd.C (Kd.int .i64) w A0_7 l0_7.length l0_7) (hc0_7 : l0_7.length ≤ c0_7) (hr1_7 : Kd.C (Kd.int .i64) w A1_7 l1_7.length l1_7) (hc1_7 : l1_7.length ≤ c1_7) (h : spec_l5Before.f a0_0 a0_1 a0_2 a0_3 a0_4 a0_5 a0_6 l0_7 a0_8 a1_0 a1_1 a1_2 a1_3 a1_4 a1_5 a1_6 l1_7 a1_8 = some r) :
 Calls Try.prog 65 #[.agg #[.string a0_0, .int .i64 a0_1, .int .i64 a0_2, .int .i64 a0_3, .int .i64 a0_4, .int .i64 a0_5, .int .i64 a0_6, .slice A0_7 l0_7.length c0_7, .bool a0_8], .agg #[.string a1_0, .int .i64 a1_1, .int .i64 a1_2, .int .i64 a1_3, .int .i64 a1_4, .int .i64 a1_5, .int .i64 a1_6, .slice A1_7 l1_7.length c1_7, .bool a1_8]] w fun e w' => e = .returned (.bool r) ∧ Below w.heap.size w w' := by
 have hu45 := Try.underlying45
 have HR0_7 := aM hr0_7
 have HC0_7 := aM hc0_7
 clear hr0_7 hc0_7
 have HR1_7 := aM hr1_7
 have HC1_7 := aM hc1_7
 clear hr1_7 hc1_7
 have HB := aM (Below.refl w.heap.size w)
 have H : (if (Op.bytesLess a0_0.toList a1_0.toList) = true then (some true) else (if a0_0.toList = a1_0.toList then (some (decide (a0_1 > a1_1))) else (some false))) = some r := h
 clear h
 by_cases c3 : (Op.bytesLess a0_0.toList a1_0.toList) = true
 · rw [if_pos c3] at H
   have c3b0 : (Op.bytesLess a0_0.toList a1_0.toList) = true := c3
   clear c3
   obtain rfl := Option.some.inj H
   go_enter Try.func65, Try.ntmps65
   go_wp2_with (first | ((with_reducible refine gate_dst (N := 2) rfl ?_); refine box_event ?hg (N := 2) ?hd (cs := #[.string a0_0, .int .i64 a0_1, .int .i64 a0_2, .int .i64 a0_3, .int .i64 a0_4, .int .i64 a0_5, .int .i64 a0_6, .slice A0_7 l0_7.length c0_7, .bool a0_8]) (t := 45) ?hr ?_; (case hd => rfl); (case hg => rfl); (case hr => first | (go_simp; done) | (go_simp; rfl)); intro gb101 hg w4 hbox hb; have _ := aM (below_step hbZ hb); have _ := aM hbox; have _ := szZ hg; have _ := szZ hg; clear HB; rename_i HB BK101 GW101 GE101; clear hb hbox hg) | ((with_reducible refine gate_dst (N := 3) rfl ?_); refine box_event ?hg (N := 3) ?hd (cs := #[.string a1_0, .int .i64 a1_1, .int .i64 a1_2, .int .i64 a1_3, .int .i64 a1_4, .int .i64 a1_5, .int .i64 a1_6, .slice A1_7 l1_7.length c1_7, .bool a1_8]) (t := 45) ?hr ?_; (case hd => rfl); (case hg => rfl); (case hr => first | (go_simp; done) | (go_simp; rfl)); intro gb102 hg w5 hbox hb; have _ := bB gb101 hb; have _ := aM (below_step hbZ hb); have _ := aM hbox; have _ := szZ hg; have _ := szZ hg; have ⟨_, _⟩ := nbB gb101 hg; clear BK101 HB; rename_i BK101 HB BK102 GW102 GE102 NB101_102 NB102_101; clear hb hbox hg; have hnb6 := NB101_102.out; have hnc6 := NB102_101.out; obtain ⟨hcz7_0, hcz7_1, hcz7_2, hcz7_3, hcz7_4, hcz7_5, hcz7_6, hcz7_7, hcz7_8, hfz7_0, hfz7_1, hfz7_2, hfz7_3, hfz7_4, hfz7_5, hfz7_6, hfz7_7, hfz7_8⟩ := cellsZ9 BK101.out; obtain ⟨hcz8_0, hcz8_1, hcz8_2, hcz8_3, hcz8_4, hcz8_5, hcz8_6, hcz8_7, hcz8_8, hfz8_0, hfz8_1, hfz8_2, hfz8_3, hfz8_4, hfz8_5, hfz8_6, hfz8_7, hfz8_8⟩ := cellsZ9 BK102.out))
   go_ret
   exact ⟨z674d, zcb41⟩
 · rw [if_neg c3] at H
   have c3b0 : (Op.bytesLess a0_0.toList a1_0.toList) = false := by simpa using c3
   clear c3
   by_cases c9 : a0_0.toList = a1_0.toList
   · rw [if_pos c9] at H
     have c9b0 : (a0_0.toList == a1_0.toList) = true := beq_iff_eq.mpr c9
     have c9b1 : (a0_0.toList != a1_0.toList) = false := bne_eq_false_iff_eq.mpr c9
     clear c9
     obtain rfl := Option.some.inj H
     go_enter Try.func65, Try.ntmps65
     go_wp2_with (first | ((with_reducible refine gate_dst (N := 2) rfl ?_); refine box_event ?hg (N := 2) ?hd (cs := #[.string a0_0, .int .i64 a0_1, .int .i64 a0_2, .int .i64 a0_3, .int .i64 a0_4, .int .i64 a0_5, .int .i64 a0_6, .slice A0_7 l0_7.length c0_7, .bool a0_8]) (t := 45) ?hr ?_; (case hd => rfl); (case hg => rfl); (case hr => first | (go_simp; done) | (go_simp; rfl)); intro gb101 hg w10 hbox hb; have _ := aM (below_step hbZ hb); have _ := aM hbox; have _ := szZ hg; have _ := szZ hg; clear HB; rename_i HB BK101 GW101 GE101; clear hb hbox hg) | ((with_reducible refine gate_dst (N := 3) rfl ?_); refine box_event ?hg (N := 3) ?hd (cs := #[.string a1_0, .int .i64 a1_1, .int .i64 a1_2, .int .i64 a1_3, .int .i64 a1_4, .int .i64 a1_5, .int .i64 a1_6, .slice A1_7 l1_7.length c1_7, .bool a1_8]) (t := 45) ?hr ?_; (case hd => rfl); (case hg => rfl); (case hr => first | (go_simp; done) | (go_simp; rfl)); intro gb102 hg w11 hbox hb; have _ := bB gb101 hb; have _ := aM (below_step hbZ hb); have _ := aM hbox; have _ := szZ hg; have _ := szZ hg; have ⟨_, _⟩ := nbB gb101 hg; clear BK101 HB; rename_i BK101 HB BK102 GW102 GE102 NB101_102 NB102_101; clear hb hbox hg; have hnb12 := NB101_102.out; have hnc12 := NB102_101.out; obtain ⟨hcz13_0, hcz13_1, hcz13_2, hcz13_3, hcz13_4, hcz13_5, hcz13_6, hcz13_7, hcz13_8, hfz13_0, hfz13_1, hfz13_2, hfz13_3, hfz13_4, hfz13_5, hfz13_6, hfz13_7, hfz13_8⟩ := cellsZ9 BK101.out; obtain ⟨hcz14_0, hcz14_1, hcz14_2, hcz14_3, hcz14_4, hcz14_5, hcz14_6, hcz14_7, hcz14_8, hfz14_0, hfz14_1, hfz14_2, hfz14_3, hfz14_4, hfz14_5, hfz14_6, hfz14_7, hfz14_8⟩ := cellsZ9 BK102.out))
     go_ret
     exact ⟨z674d, zcb41⟩
   · rw [if_neg c9] at H
     have c9b0 : (a0_0.toList == a1_0.toList) = false := beq_eq_false_iff_ne.mpr c9
     have c9b1 : (a0_0.toList != a1_0.toList) = true := bne_iff_ne.mpr c9
     obtain rfl := Option.some.inj H
     go_enter Try.func65, Try.ntmps65
     go_wp2_with (first | ((with_reducible refine gate_dst (N := 2) rfl ?_); refine box_event ?hg (N := 2) ?hd (cs := #[.string a0_0, .int .i64 a0_1, .int .i64 a0_2, .int .i64 a0_3, .int .i64 a0_4, .int .i64 a0_5, .int .i64 a0_6, .slice A0_7 l0_7.length c0_7, .bool a0_8]) (t := 45) ?hr ?_; (case hd => rfl); (case hg => rfl); (case hr => first | (go_simp; done) | (go_simp; rfl)); intro gb101 hg w15 hbox hb; have _ := aM (below_step hbZ hb); have _ := aM hbox; have _ := szZ hg; have _ := szZ hg; clear HB; rename_i HB BK101 GW101 GE101; clear hb hbox hg) | ((with_reducible refine gate_dst (N := 3) rfl ?_); refine box_event ?hg (N := 3) ?hd (cs := #[.string a1_0, .int .i64 a1_1, .int .i64 a1_2, .int .i64 a1_3, .int .i64 a1_4, .int .i64 a1_5, .int .i64 a1_6, .slice A1_7 l1_7.length c1_7, .bool a1_8]) (t := 45) ?hr ?_; (case hd => rfl); (case hg => rfl); (case hr => first | (go_simp; done) | (go_simp; rfl)); intro gb102 hg w16 hbox hb; have _ := bB gb101 hb; have _ := aM (below_step hbZ hb); have _ := aM hbox; have _ := szZ hg; have _ := szZ hg; have ⟨_, _⟩ := nbB gb101 hg; clear BK101 HB; rename_i BK101 HB BK102 GW102 GE102 NB101_102 NB102_101; clear hb hbox hg; have hnb17 := NB101_102.out; have hnc17 := NB102_101.out; obtain ⟨hcz18_0, hcz18_1, hcz18_2, hcz18_3, hcz18_4, hcz18_5, hcz18_6, hcz18_7, hcz18_8, hfz18_0, hfz18_1, hfz18_2, hfz18_3, hfz18_4, hfz18_5, hfz18_6, hfz18_7, hfz18_8⟩ := cellsZ9 BK101.out; obtain ⟨hcz19_0, hcz19_1, hcz19_2, hcz19_3, hcz19_4, hcz19_5, hcz19_6, hcz19_7, hcz19_8, hfz19_0, hfz19_1, hfz19_2, hfz19_3, hfz19_4, hfz19_5, hfz19_6, hfz19_7, hfz19_8⟩ := cellsZ9 BK102.out))
     go_ret
     exact ⟨z674d, zcb41⟩

end Go.Proofs.Ytdkokfnnebdppaa.P
