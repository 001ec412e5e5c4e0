/- Part 2 of the walks and words that FnSums uses. No conditions of its own. -/
import Derived.Test.YthliooccgclbjaaProg
import Derived.Below
import Derived.Deep.Draws
import Derived.Deep.AppendLies
import Derived.Maps.AppendAt
import Derived.OwnWalk
import Derived.Laws.BytesArg
import Derived.Laws.MakeOwn
import Derived.Laws.OwnMore
import Derived.Deep.OwnRows
import Derived.Tactics
import Derived.Lib.ConvBytes
import Derived.Laws.Slices
import Derived.WalkKit
import Derived.KernelRfl
import Derived.RowKit3
import Derived.Deep.LoopGhost
import Derived.Deep.QuietTactic
import Derived.BigQuiet
import Derived.WideLaws
import Derived.Deep.DeepCutAuto
import Derived.Deep.CutBlock
import Derived.Deep.RegionHeld3
import Derived.Laws.Rows
import Derived.Lib.AppendStr
import Derived.ArgAppend
import Derived.Laws.IdiomCopy
import Derived.OrdersHeld
import Derived.Laws.BitsLemmas
import Derived.RowKit
import Derived.Lib.SliceRun
import Derived.Test.YthliooccgclbjaaMFnSums1

/- Short words for the walks: each is a proof of its statement, found where it is used. No conditions. -/
namespace Go.Proofs.Ythliooccgclbjaa.P
open Go.RowKit Go.Proofs.YthliooccgclbjaaW.PrintWords Go.Proofs.YthliooccgclbjaaW.PrintLast Go.Proofs.YthliooccgclbjaaW.PrintMore
theorem hbZ {p : Prop} (h : p := by repeat (first | (with_reducible first | exact HB.out | apply below_alloc | apply pw_below_drewN | apply below_drew1 | refine below_set ?_ (Aside0.out (by assumption))) | exact HB.out)) : p := h
theorem putR {cs cs' : Array Value} {i : Nat} {u : Value} (h : cs.setIfInBounds i u = cs') : cs.setIfInBounds i u = cs' := h
theorem neZ {a b : Nat} (h : a ≠ b) : a ≠ b := h
theorem blk_farZ {w : World} {g gp i : Nat} {t : TypeId} {cs : Array Value} {u : Value} (h : w.heap[g]? = some (.cells cs t (0, 0))) (hp : g ≠ gp) : (w.setCell ⟨gp, i, none⟩ u).heap[g]? = some (.cells cs t (0, 0)) := blk_far h hp u
theorem bkZ {p : Prop} (h : p := by repeat (first | (with_reducible first | refine blk_drewN ?_ _ | refine blk_drew ?_ | refine blk_alloc ?_ _ | exact (Aside0.out (by assumption)) | apply blk_put | apply blk_farZ) | exact putR rfl | exact neZ (Aside0.out (by assumption)) | with_reducible apply blk_far)) : p := h
theorem rZ {p q : Prop} (h0 : p) (h : p → q := by intro h_; (with_reducible repeat (first | apply Kd.R_alloc | apply Kd.R_drewN | apply Kd.R_drew)); exact h_) : q := h h0
theorem kZ {p q : Prop} (h0 : p) (h : p → q := by intro h_; (with_reducible repeat (first | apply Kd.Q_alloc | apply Kd.Q_drewN | apply Kd.Q_drew)); exact h_) : q := h h0
theorem aM {p : Prop} (h : p) : Aside0 p := ⟨h⟩
theorem nbL {w : World} {gb : Nat} (g : Nat) {o : Obj} (hg : gb = w.heap.size) (hb : w.heap[g]? = some o := by exact bkZ) : Aside0 (g ≠ gb) := ⟨by rw [hg]; exact Nat.ne_of_lt (blk_lt hb)⟩
theorem nbR {w : World} {gb : Nat} (g : Nat) {o : Obj} (hg : gb = w.heap.size) (hb : w.heap[g]? = some o := by exact bkZ) : Aside0 (gb ≠ g) := ⟨by rw [hg]; exact Nat.ne_of_gt (blk_lt hb)⟩
theorem szZ {w w0 : World} {gb : Nat} (hg : gb = w.heap.size) (hb : Below w0.heap.size w0 w := by exact hbZ) : Aside0 (w0.heap.size ≤ gb) := ⟨by rw [hg]; exact below_size hb⟩
theorem cZ {p q : Prop} (h0 : p) (h : p → q := by intro h_; repeat (first | exact h_ | (with_reducible refine Kd.C_alloc ?_ _) | (with_reducible refine Kd.C_drewN ?_ _) | (with_reducible refine Kd.C_drew ?_))) : q := h h0
theorem bB {w w1 : World} (g : Nat) {o : Obj} (hb : Below w.heap.size w w1) (h : w.heap[g]? = some o := by exact bkZ) : Aside0 (w1.heap[g]? = some o) := ⟨blk_below h hb⟩
theorem nbB {w : World} {gb : Nat} (g : Nat) {o : Obj} (hg : gb = w.heap.size) (hb : w.heap[g]? = some o := by exact bkZ) : Aside0 (g ≠ gb) ∧ Aside0 (gb ≠ g) := ⟨nbL g hg hb, nbR g hg hb⟩
theorem qF1 {α : Type} {d : Kd α} {e : Nat} {w : World} {base : Nat} {ok : Nat → Prop} {v : Value} {xs : List α} {g t : Nat} {cells : Array Value} {a0 : Value} (h : Kd.Q d e w base ok v xs) (hb : w.heap[g]? = some (.cells cells t (0, 0))) (ht : ∀ q, q ∈ e :: d.E → q ≠ t := by decide) : Kd.Q d e (w.setCell ⟨g, 0, none⟩ a0) base ok v xs := Kd.Q_mono (Kd.Q_far (p := ⟨g, 0, none⟩) (Kd.Q_types h hb ht) (fun _ hk => hk.2) a0) (fun _ h_ => h_.1)
theorem qF6 {α : Type} {d : Kd α} {e : Nat} {w : World} {base : Nat} {ok : Nat → Prop} {v : Value} {xs : List α} {g t : Nat} {cells : Array Value} {a0 a1 a2 a3 a4 a5 : Value} (h : Kd.Q d e w base ok v xs) (hb : w.heap[g]? = some (.cells cells t (0, 0))) (ht : ∀ q, q ∈ e :: d.E → q ≠ t := by decide) : Kd.Q d e ((((((w.setCell ⟨g, 0, none⟩ a0).setCell ⟨g, 1, none⟩ a1).setCell ⟨g, 2, none⟩ a2).setCell ⟨g, 3, none⟩ a3).setCell ⟨g, 4, none⟩ a4).setCell ⟨g, 5, none⟩ a5) base ok v xs := Kd.Q_mono (Kd.Q_far (p := ⟨g, 5, none⟩) (Kd.Q_far (p := ⟨g, 4, none⟩) (Kd.Q_far (p := ⟨g, 3, none⟩) (Kd.Q_far (p := ⟨g, 2, none⟩) (Kd.Q_far (p := ⟨g, 1, none⟩) (Kd.Q_far (p := ⟨g, 0, none⟩) (Kd.Q_types h hb ht) (fun _ hk => hk.2) a0) (fun _ hk => hk.2) a1) (fun _ hk => hk.2) a2) (fun _ hk => hk.2) a3) (fun _ hk => hk.2) a4) (fun _ hk => hk.2) a5) (fun _ h_ => h_.1)
theorem rF6 {α : Type} {d : Kd α} {e : Nat} {w : World} {base : Nat} {ok : Nat → Prop} {v : Value} {xs : List α} {g t : Nat} {cells : Array Value} {a0 a1 a2 a3 a4 a5 : Value} (h : Kd.R d e w base ok v xs) (hb : w.heap[g]? = some (.cells cells t (0, 0))) (ht : ∀ q, q ∈ e :: d.E → q ≠ t := by decide) : Kd.R d e ((((((w.setCell ⟨g, 0, none⟩ a0).setCell ⟨g, 1, none⟩ a1).setCell ⟨g, 2, none⟩ a2).setCell ⟨g, 3, none⟩ a3).setCell ⟨g, 4, none⟩ a4).setCell ⟨g, 5, none⟩ a5) base ok v xs := Kd.R_mono (Kd.R_far (p := ⟨g, 5, none⟩) (Kd.R_far (p := ⟨g, 4, none⟩) (Kd.R_far (p := ⟨g, 3, none⟩) (Kd.R_far (p := ⟨g, 2, none⟩) (Kd.R_far (p := ⟨g, 1, none⟩) (Kd.R_far (p := ⟨g, 0, none⟩) (Kd.R_types h hb ht) (fun _ hk => hk.2) a0) (fun _ hk => hk.2) a1) (fun _ hk => hk.2) a2) (fun _ hk => hk.2) a3) (fun _ hk => hk.2) a4) (fun _ hk => hk.2) a5) (fun _ h_ => h_.1)
theorem cellsZ6 {w : World} {g : Nat} {t : TypeId} {a0 a1 a2 a3 a4 a5 : Value} (h : w.heap[g]? = some (.cells #[a0, a1, a2, a3, a4, a5] t (0, 0))) : w.cell? ⟨g, 0, none⟩ = some a0 ∧ w.cell? ⟨g, 1, none⟩ = some a1 ∧ w.cell? ⟨g, 2, none⟩ = some a2 ∧ w.cell? ⟨g, 3, none⟩ = some a3 ∧ w.cell? ⟨g, 4, none⟩ = some a4 ∧ w.cell? ⟨g, 5, none⟩ = some a5 ∧ w.frozen? ⟨g, 0, none⟩ = false ∧ w.frozen? ⟨g, 1, none⟩ = false ∧ w.frozen? ⟨g, 2, none⟩ = false ∧ w.frozen? ⟨g, 3, none⟩ = false ∧ w.frozen? ⟨g, 4, none⟩ = false ∧ w.frozen? ⟨g, 5, none⟩ = false := ⟨(blk_cell h 0).trans rfl, (blk_cell h 1).trans rfl, (blk_cell h 2).trans rfl, (blk_cell h 3).trans rfl, (blk_cell h 4).trans rfl, (blk_cell h 5).trans rfl, blk_frozen h 0, blk_frozen h 1, blk_frozen h 2, blk_frozen h 3, blk_frozen h 4, blk_frozen h 5⟩
theorem z02fa {p : Prop} (h : p := by first | exact Kd.R_nil _ _ _ _ _ | exact Kd.N_nil _ _ _ _ _ | exact Kd.V_nil _ _ _ _ _ | exact Kd.Q_nil _ _ _ _ _ | exact Kd.S_nil _ _ _ _ _) : p := h
theorem z1200 {p : Prop} (h : p := by first | (with_reducible assumption) | assumption) : p := h
theorem z3fd5 {p : Prop} (h : p := by repeat (first | exact (Kd.R_reads' HO106.out).2.2 | (with_reducible refine Kd.C_alloc ?_ _) | (with_reducible refine Kd.C_drewN ?_ _) | (with_reducible refine Kd.C_drew ?_))) : p := h
theorem z4195 {p : Prop} (h : p := by repeat (first | exact HR0.out | (with_reducible refine Kd.C_alloc ?_ _) | (with_reducible refine Kd.C_drewN ?_ _) | (with_reducible refine Kd.C_drew ?_))) : p := h
theorem z4458 {p : Prop} (h : p := by first | rfl | (simp; done) | (simp [*]; done)) : p := h
theorem z5acd {p : Prop} (h : p := by repeat (first | (with_reducible first | exact HB.out | apply below_alloc | apply pw_below_drewN | apply below_drew1) | exact HB.out)) : p := h
theorem z674d {p : Prop} (h : p := by first | rfl | (simp [errW_none, errW_some] <;> rfl) | (simp [*, errW_none, errW_some] <;> rfl)) : p := h
theorem z7c8e {p : Prop} (h : p := by repeat (first | (with_reducible first | exact HK.out | apply KeepBut.set_ | apply keep_drewN | apply keep_drew | apply keep_alloc | refine keep_far (w := w) ?_ (Aside0.out (by assumption)) _) | exact HK.out)) : p := h
theorem za9de {p : Prop} (h : p := by repeat (first | exact Drawn0.refl _ | apply Drawn0.step)) : p := h
theorem zb79b {p : Prop} (h : p := by first | omega | exact Nat.le_refl _) : p := h
theorem zc1cf {p : Prop} (h : p := by repeat (first | (with_reducible first | exact HI0.out | apply IsS66.alloc | apply IsS66.drewN | apply IsS66.drew | apply IsS66.set_1 | apply IsS66.set_2 | refine IsS66.far ?_ (Aside0.out (by assumption)) _) | exact HI0.out)) : p := h
theorem zc64e {p : Prop} (h : p := by repeat (first | (with_reducible first | exact HB.out | apply below_alloc | apply pw_below_drewN | apply below_drew1 | refine below_set ?_ (IsS66.ge (Aside0.out (by assumption))) | refine below_set ?_ (Aside0.out (by assumption))) | exact HB.out)) : p := h
theorem zcb41 {p : Prop} (h : p := by repeat (first | (with_reducible first | exact HB.out | apply below_alloc | apply pw_below_drewN | apply below_drew1 | refine below_set ?_ (Aside0.out (by assumption))) | exact HB.out)) : p := h
theorem zcbec {p : Prop} (h : p := by repeat (first | (with_reducible first | exact HK.out | apply KeepBut.set_ | apply keep_drewN | apply keep_drew | apply keep_alloc) | exact HK.out)) : p := h
theorem zdb4b {p : Prop} (h : p := by repeat (first | (with_reducible first | exact HI0.out | apply IsS66.alloc | apply IsS66.drewN | apply IsS66.drew | apply IsS66.set_1 | apply IsS66.set_2) | exact HI0.out)) : p := h
theorem zdc19 {p : Prop} (h : p := by have := HJ1.out; have := HK2.out; first | omega | exact Nat.le_refl _) : p := h
theorem ze59a {p : Prop} (h : p := by have := HK1.out; first | omega | exact Nat.le_refl _) : p := h
theorem zee81 {p : Prop} (h : p := by (try simp only [List.map_toArray, List.map_cons, List.map_nil]); first | done | rfl | (simp only [List.length_drop, List.length_take]; rfl)) : p := h
theorem zfb39 {p : Prop} (h : p := by have := HK1.out; omega) : p := h
theorem zfd03 {p : Prop} (h : p := by repeat (first | (with_reducible first | exact HB.out | apply below_alloc | apply pw_below_drewN | apply below_drew1 | refine below_set ?_ (IsS66.ge (Aside0.out (by assumption)))) | exact HB.out)) : p := h
end Go.Proofs.Ythliooccgclbjaa.P

-- written by a program of this session's (wip/pp)
namespace Go.Proofs.Ythliooccgclbjaa.P
open Go.RowKit Go.Proofs.YthliooccgclbjaaW.PrintWords Go.Proofs.YthliooccgclbjaaW.PrintLast Go.Proofs.YthliooccgclbjaaW.PrintMore
attribute [local go_sem] max2_int min2_int max_two min_two max_three min_three max_four min_four   -- for this text's walks alone
set_option linter.unusedVariables false
set_option linter.unusedSimpArgs false



def errW : Option Int → Value
  | none => .nilIface
  | some c => .iface 0 (.int .i64 c)
theorem errW_none : errW none = .nilIface := rfl
theorem errW_some (c : Int) : errW (some c) = .iface 0 (.int .i64 c) := rfl

theorem info3 : (Try.prog.info? 3).map (fun i => (i.zero, i.size, i.bytes)) = some (some (.int .i64 0), 1, 8) := by kernel_rfl
theorem info5 : (Try.prog.info? 5).map (fun i => (i.zero, i.size, i.bytes)) = some (some (.int .u8 0), 1, 1) := by kernel_rfl
-- the values' own types

end Go.Proofs.Ythliooccgclbjaa.P

-- written by a program of this session's (wip/pp)
namespace Go.Proofs.Ythliooccgclbjaa.P
open Go.RowKit Go.Proofs.YthliooccgclbjaaW.PrintWords Go.Proofs.YthliooccgclbjaaW.PrintLast Go.Proofs.YthliooccgclbjaaW.PrintMore
attribute [local go_sem] max2_int min2_int max_two min_two max_three min_three max_four min_four   -- for this text's walks alone
set_option linter.unusedVariables false
set_option linter.unusedSimpArgs false

/-! ### spec_l1In: function 41 -/
def spec_l1In.f (a0 : Int) (a1 : Int) (a2 : Int) : Option (Bool) := if a0 ≥ a1 then (some (decide (a0 ≤ a2))) else (some false)
set_option maxHeartbeats 8000000 in
set_option maxRecDepth 100000 in
theorem spec_l1In.calls (a0 : Int) (a1 : Int) (a2 : Int) (r : Bool) (w : World) (h : spec_l1In.f a0 a1 a2 = some r) :
 Calls Try.prog 41 #[.int .i64 a0, .int .i64 a1, .int .i64 a2] w fun e w' => e = .returned (.bool r) ∧ Drawn0 w w' := by
 have H : (if a0 ≥ a1 then (some (decide (a0 ≤ a2))) else (some false)) = some r := h
 clear h
 by_cases c4 : a0 ≥ a1
 · rw [if_pos c4] at H
   have c4b0 : decide (a1 ≤ a0) = true := decide_eq_true c4
   clear c4
   obtain rfl := Option.some.inj H
   go_enter Try.func41, Try.ntmps41
   go_wp2
   go_ret
   exact ⟨z4458, za9de⟩
 · rw [if_neg c4] at H
   have c4b0 : decide (a1 ≤ a0) = false := decide_eq_false c4
   clear c4
   obtain rfl := Option.some.inj H
   go_enter Try.func41, Try.ntmps41
   go_wp2
   go_ret
   exact ⟨z4458, za9de⟩

end Go.Proofs.Ythliooccgclbjaa.P

-- written by a program of this session's (wip/pp)
namespace Go.Proofs.Ythliooccgclbjaa.P
open Go.RowKit Go.Proofs.YthliooccgclbjaaW.PrintWords Go.Proofs.YthliooccgclbjaaW.PrintLast Go.Proofs.YthliooccgclbjaaW.PrintMore
attribute [local go_sem] max2_int min2_int max_two min_two max_three min_three max_four min_four   -- for this text's walks alone
set_option linter.unusedVariables false
set_option linter.unusedSimpArgs false

/-! ### spec_l4Value: function 61 -/
def spec_l4Value.f (a0 : Int) : Option (Bool) := (spec_l1In.f a0 (-1000000000) 1000000000).bind fun t101 => (some t101)
set_option maxHeartbeats 8000000 in
set_option maxRecDepth 100000 in
theorem spec_l4Value.calls (a0 : Int) (r : Bool) (w : World) (h : spec_l4Value.f a0 = some r) :
 Calls Try.prog 61 #[.int .i64 a0] w fun e w' => e = .returned (.bool r) ∧ Drawn0 w w' := by
 have H : ((spec_l1In.f a0 (-1000000000) 1000000000).bind fun t101 => (some t101)) = some r := h
 clear h
 replace H := Option.bind_eq_some_iff.mp H
 obtain ⟨t101, A20, H⟩ := H
 try dsimp only at H
 have A2 := aM A20
 clear A20
 obtain rfl := Option.some.inj H
 go_enter Try.func61, Try.ntmps61
 go_wp2_with (first | ((with_reducible refine gate_callee (f := 41) rfl ?_); refine goesL_ (some 4) rfl rfl Try.func41 (by kernel_rfl) rfl #[.int .i64 a0, .int .i64 (-1000000000), .int .i64 1000000000] rfl zee81 ?_; (with_reducible refine (spec_l1In.calls a0 (-1000000000) 1000000000 t101 _ A2.out).mono ?_); rintro e w' ⟨rfl, ⟨nd, rfl⟩⟩; refine ⟨_, rfl, ?_⟩))
 go_ret
 exact ⟨z4458, za9de⟩

end Go.Proofs.Ythliooccgclbjaa.P

-- written by a program of this session's (wip/pp)
namespace Go.Proofs.Ythliooccgclbjaa.P
open Go.RowKit Go.Proofs.YthliooccgclbjaaW.PrintWords Go.Proofs.YthliooccgclbjaaW.PrintLast Go.Proofs.YthliooccgclbjaaW.PrintMore
attribute [local go_sem] max2_int min2_int max_two min_two max_three min_three max_four min_four   -- for this text's walks alone
set_option linter.unusedVariables false
set_option linter.unusedSimpArgs false

/-! ### spec_GoodAgg: function 32 -/
mutual
def spec_GoodAgg.j0 : Nat → Bool → Int → Int → Int → Int → List Int → Bool → Option (Bool)
 | 0, _, _, _, _, _, _, _ => none
 | k + 1, x15, x102000, x102001, x102002, x102003, x102004, x102005 => if x15 = true then (some false) else (spec_GoodAgg.l0 k 0 x102004 (x102004.length : Int) 0 x102000 x102001 x102002 x102003 x102004 x102005)
def spec_GoodAgg.l0 : Nat → Int → List Int → Int → Int → Int → Int → Int → Int → List Int → Bool → Option (Bool)
 | 0, _, _, _, _, _, _, _, _, _, _ => none
 | k + 1, x3, x17, x18, x19, x102000, x102001, x102002, x102003, x102004, x102005 => if x19 < x18 then (if 0 ≤ x19 then (if x19 < (x17.length : Int) then ((spec_l1In.f (rd x17 x19) 0 1000000000).bind fun t104 => (if t104 = true then (spec_GoodAgg.l0 k (wrap64 (x3 + (rd x17 x19))) x17 x18 (wrap64 (x19 + 1)) x102000 x102001 x102002 x102003 x102004 x102005) else (some false))) else (none)) else (none)) else (if x102000 = 0 then (if x3 = 0 then (if x102002 = 0 then (if x102003 = 0 then (if x102001 = 0 then (some (!x102005)) else (some false)) else (some false)) else (some false)) else (some false)) else ((spec_l4Value.f x102002).bind fun t105 => (if t105 = true then ((spec_l4Value.f x102003).bind fun t106 => (if t106 = true then (spec_GoodAgg.j2 k x3 (decide (x102002 > x102003)) x102000 x102001 x102002 x102003 x102004 x102005) else (spec_GoodAgg.j2 k x3 true x102000 x102001 x102002 x102003 x102004 x102005))) else (spec_GoodAgg.j2 k x3 true x102000 x102001 x102002 x102003 x102004 x102005))))
def spec_GoodAgg.j2 : Nat → Int → Bool → Int → Int → Int → Int → List Int → Bool → Option (Bool)
 | 0, _, _, _, _, _, _, _, _ => none
 | k + 1, x3, x71, x102000, x102001, x102002, x102003, x102004, x102005 => if x71 = true then (some false) else (if x102005 = true then (some (x102001 == 0)) else (if x3 = x102000 then ((spec_l1In.f x102001 (wrap64 ((-1000000000) * x102000)) (wrap64 (1000000000 * x102000))).bind fun t107 => (some t107)) else (some false)))
end
def spec_GoodAgg.f (k : Nat) (a0_0 : Int) (a0_1 : Int) (a0_2 : Int) (a0_3 : Int) (l0_4 : List Int) (a0_5 : Bool) : Option (Bool) := (spec_l1In.f a0_0 0 1000000000).bind fun t102 => (if t102 = true then (spec_GoodAgg.j0 k ((l0_4.length : Int) != 8) a0_0 a0_1 a0_2 a0_3 l0_4 a0_5) else (spec_GoodAgg.j0 k true a0_0 a0_1 a0_2 a0_3 l0_4 a0_5))
theorem spec_GoodAgg.mono_l : ∀ k, (∀ y0 y1 y2 y3 y4 y5 y6, LeO (spec_GoodAgg.j0 k y0 y1 y2 y3 y4 y5 y6) (spec_GoodAgg.j0 (k + 1) y0 y1 y2 y3 y4 y5 y6)) ∧ (∀ y0 y1 y2 y3 y4 y5 y6 y7 y8 y9, LeO (spec_GoodAgg.l0 k y0 y1 y2 y3 y4 y5 y6 y7 y8 y9) (spec_GoodAgg.l0 (k + 1) y0 y1 y2 y3 y4 y5 y6 y7 y8 y9)) ∧ (∀ y0 y1 y2 y3 y4 y5 y6 y7, LeO (spec_GoodAgg.j2 k y0 y1 y2 y3 y4 y5 y6 y7) (spec_GoodAgg.j2 (k + 1) y0 y1 y2 y3 y4 y5 y6 y7))
 | 0 => ⟨fun _ _ _ _ _ _ _ r h => by simp [spec_GoodAgg.j0] at h, fun _ _ _ _ _ _ _ _ _ _ r h => by simp [spec_GoodAgg.l0] at h, fun _ _ _ _ _ _ _ _ r h => by simp [spec_GoodAgg.j2] at h⟩
 | k + 1 => by
  obtain ⟨ih0, ih1, ih2⟩ := spec_GoodAgg.mono_l k
  refine ⟨?_, ?_, ?_⟩
  · intro y0 y1 y2 y3 y4 y5 y6
    unfold spec_GoodAgg.j0
    repeat' first
     | (with_reducible first | exact ih0 .. | exact ih1 .. | exact ih2 .. | exact LeO.refl _ | exact LeO.none _ | refine LeO.ite ?_ ?_ | refine LeO.bind ?_ (fun _ => ?_))
     | exact LeO.none _
     | refine LeO.ite ?_ ?_
     | refine LeO.bind ?_ (fun _ => ?_)
  · intro y0 y1 y2 y3 y4 y5 y6 y7 y8 y9
    unfold spec_GoodAgg.l0
    repeat' first
     | (with_reducible first | exact ih0 .. | exact ih1 .. | exact ih2 .. | exact LeO.refl _ | exact LeO.none _ | refine LeO.ite ?_ ?_ | refine LeO.bind ?_ (fun _ => ?_))
     | exact LeO.none _
     | refine LeO.ite ?_ ?_
     | refine LeO.bind ?_ (fun _ => ?_)
  · intro y0 y1 y2 y3 y4 y5 y6 y7
    unfold spec_GoodAgg.j2
    repeat' first
     | (with_reducible first | exact ih0 .. | exact ih1 .. | exact ih2 .. | exact LeO.refl _ | exact LeO.none _ | refine LeO.ite ?_ ?_ | refine LeO.bind ?_ (fun _ => ?_))
     | exact LeO.none _
     | refine LeO.ite ?_ ?_
     | refine LeO.bind ?_ (fun _ => ?_)
theorem spec_GoodAgg.mono : ∀ a0 a1 a2 a3 a4 a5 k, LeO (spec_GoodAgg.f k a0 a1 a2 a3 a4 a5) (spec_GoodAgg.f (k + 1) a0 a1 a2 a3 a4 a5) := by
 intro a0 a1 a2 a3 a4 a5 k
 obtain ⟨ih0, ih1, ih2⟩ := spec_GoodAgg.mono_l k
 unfold spec_GoodAgg.f
 repeat' first
  | (with_reducible first | exact ih0 .. | exact ih1 .. | exact ih2 .. | exact LeO.refl _ | exact LeO.none _ | refine LeO.ite ?_ ?_ | refine LeO.bind ?_ (fun _ => ?_))
  | exact LeO.none _
  | refine LeO.ite ?_ ?_
  | refine LeO.bind ?_ (fun _ => ?_)
set_option maxHeartbeats 8000000 in
set_option maxRecDepth 100000 in
theorem spec_GoodAgg.calls (k : Nat) (a0_0 : Int) (a0_1 : Int) (a0_2 : Int) (a0_3 : Int) (A0_4 : Option Addr) (c0_4 : Nat) (l0_4 : List Int) (a0_5 : Bool) (r : Bool) (w : World) (hr0_4 : Kd.C (Kd.int .i64) w A0_4 l0_4.length l0_4) (hc0_4 : l0_4.length ≤ c0_4) (h : spec_GoodAgg.f k a0_0 a0_1 a0_2 a0_3 l0_4 a0_5 = some r) :
 Calls Try.prog 32 #[.agg #[.int .i64 a0_0, .int .i64 a0_1, .int .i64 a0_2, .int .i64 a0_3, .slice A0_4 l0_4.length c0_4, .bool a0_5]] w fun e w' => e = .returned (.bool r) ∧ Below w.heap.size w w' := by
 have hu54 := Try.underlying54
 have HR0_4 := aM hr0_4
 have HC0_4 := aM hc0_4
 clear hr0_4 hc0_4
 have HB := aM (Below.refl w.heap.size w)
 have H : ((spec_l1In.f a0_0 0 1000000000).bind fun t102 => (if t102 = true then (spec_GoodAgg.j0 k ((l0_4.length : Int) != 8) a0_0 a0_1 a0_2 a0_3 l0_4 a0_5) else (spec_GoodAgg.j0 k true a0_0 a0_1 a0_2 a0_3 l0_4 a0_5))) = some r := h
 clear h
 have HC2 := aM H
 clear H
 go_enter Try.func32, Try.ntmps32
 go_upto_region 1 with (first | ((with_reducible refine gate_dst (N := 1) rfl ?_); (try (refine gate_guard (by rfl) ?_; dsimp only)); refine box_event ?hg (N := 1) ?hd (cs := #[.int .i64 a0_0, .int .i64 a0_1, .int .i64 a0_2, .int .i64 a0_3, .slice A0_4 l0_4.length c0_4, .bool a0_5]) (t := 54) ?hr ?_; (case hd => rfl); (case hg => rfl); (case hr => first | (go_simp; done) | (go_simp; rfl)); intro gb101 hg w3 hbox hb; have _ := aM (below_step hbZ hb); have _ := aM hbox; have _ := szZ hg; have _ := szZ hg; clear HB; rename_i HB BK101 GW101 GE101; clear hb hbox hg))
 (try simp only [Act.put, List.setIfInBounds_toArray, List.set_cons_zero, List.set_cons_succ])
 go_cut [15] (fun v15 wc => ∃ (kq : Nat) (x15_1 : Bool), v15 = .bool x15_1 ∧ Aside0 (spec_GoodAgg.j0 kq x15_1 a0_0 a0_1 a0_2 a0_3 l0_4 a0_5 = some r) ∧ Aside0 (kq ≤ k) ∧ Aside0 (wc.heap[gb101]? = some (.cells #[.int .i64 a0_0, .int .i64 a0_1, .int .i64 a0_2, .int .i64 a0_3, (.slice A0_4 l0_4.length c0_4), .bool a0_5] 54 (0, 0))) ∧ Aside0 (Below w.heap.size w wc))
 case first =>
  have H := HC2.out
  clear HC2
  replace H := Option.bind_eq_some_iff.mp H
  obtain ⟨t102, A40, H⟩ := H
  try dsimp only at H
  have A4 := aM A40
  clear A40
  by_cases c5 : t102 = true
  · subst c5
    have H1 : (spec_GoodAgg.j0 k ((l0_4.length : Int) != 8) a0_0 a0_1 a0_2 a0_3 l0_4 a0_5) = some r := by rw [if_pos rfl] at H; exact H
    clear H
    have H := H1
    clear H1
    have H' := aM H
    clear H
    obtain ⟨hcz6_0, hcz6_1, hcz6_2, hcz6_3, hcz6_4, hcz6_5, hfz6_0, hfz6_1, hfz6_2, hfz6_3, hfz6_4, hfz6_5⟩ := cellsZ6 BK101.out
    go_wp2_with (first | ((with_reducible refine gate_callee (f := 41) rfl ?_); refine goesL_ (some 8) rfl rfl Try.func41 (by kernel_rfl) rfl #[.int .i64 a0_0, .int .i64 0, .int .i64 1000000000] rfl zee81 ?_; (with_reducible refine (spec_l1In.calls a0_0 0 1000000000 true _ A4.out).mono ?_); rintro e w' ⟨rfl, ⟨nd, rfl⟩⟩; refine ⟨_, rfl, ?_⟩))
    go_meet
    case rel => exact ⟨_, (((l0_4.length : Int) != 8)), z4458, H', ⟨zb79b⟩, ⟨bkZ⟩, ⟨zcb41⟩⟩
  · replace c5 := Bool.eq_false_iff.mpr c5
    subst c5
    have H1 : (spec_GoodAgg.j0 k true a0_0 a0_1 a0_2 a0_3 l0_4 a0_5) = some r := by rw [if_neg (show ¬ (false = true) by decide)] at H; exact H
    clear H
    have H := H1
    clear H1
    have H' := aM H
    clear H
    obtain ⟨hcz7_0, hcz7_1, hcz7_2, hcz7_3, hcz7_4, hcz7_5, hfz7_0, hfz7_1, hfz7_2, hfz7_3, hfz7_4, hfz7_5⟩ := cellsZ6 BK101.out
    go_wp2_with (first | ((with_reducible refine gate_callee (f := 41) rfl ?_); refine goesL_ (some 8) rfl rfl Try.func41 (by kernel_rfl) rfl #[.int .i64 a0_0, .int .i64 0, .int .i64 1000000000] rfl zee81 ?_; (with_reducible refine (spec_l1In.calls a0_0 0 1000000000 false _ A4.out).mono ?_); rintro e w' ⟨rfl, ⟨nd, rfl⟩⟩; refine ⟨_, rfl, ?_⟩))
    go_meet
    case rel => exact ⟨_, (true), z4458, H', ⟨zb79b⟩, ⟨bkZ⟩, ⟨zcb41⟩⟩
 case rest =>
  clear HC2
  try clear p2
  try clear c3
  try clear c4
  try clear c5
  try clear hcz6_0 hcz6_1 hcz6_2 hcz6_3 hcz6_4 hcz6_5
  try clear hcz7_0 hcz7_1 hcz7_2 hcz7_3 hcz7_4 hcz7_5
  try clear hfz6_0 hfz6_1 hfz6_2 hfz6_3 hfz6_4 hfz6_5
  try clear hfz7_0 hfz7_1 hfz7_2 hfz7_3 hfz7_4 hfz7_5
  obtain ⟨kq, x15_1, rfl, HA, HJ1, BK101, HB⟩ := hcut
  cases kq with
  | zero => exact absurd HA.out (by simp [spec_GoodAgg.j0])
  | succ kj1 =>
   have H := HA.out
   clear HA
   simp only [spec_GoodAgg.j0] at H
   by_cases c8 : x15_1 = true
   · subst c8
     have H1 : (some false) = some r := by rw [if_pos rfl] at H; exact H
     clear H
     have H := H1
     clear H1
     obtain rfl := Option.some.inj H
     go_wp2
     go_ret
     exact ⟨z674d, zcb41⟩
   · replace c8 := Bool.eq_false_iff.mpr c8
     subst c8
     have H1 : (spec_GoodAgg.l0 kj1 0 l0_4 (l0_4.length : Int) 0 a0_0 a0_1 a0_2 a0_3 l0_4 a0_5) = some r := by rw [if_neg (show ¬ (false = true) by decide)] at H; exact H
     clear H
     have H := H1
     clear H1
     have H' := aM H
     clear H
     obtain ⟨hcz9_0, hcz9_1, hcz9_2, hcz9_3, hcz9_4, hcz9_5, hfz9_0, hfz9_1, hfz9_2, hfz9_3, hfz9_4, hfz9_5⟩ := cellsZ6 BK101.out
     go_wp2
     go_loopg [3, 19] kj1 (fun kq v3 v19 w' => ∃ (x3_2 : Int) (x19_2 : Int), v3 = .int .i64 x3_2 ∧ v19 = .int .i64 x19_2 ∧ Aside0 (spec_GoodAgg.l0 kq x3_2 l0_4 (l0_4.length : Int) x19_2 a0_0 a0_1 a0_2 a0_3 l0_4 a0_5 = some r) ∧ Aside0 (kq ≤ kj1) ∧ Aside0 (w'.heap[gb101]? = some (.cells #[.int .i64 a0_0, .int .i64 a0_1, .int .i64 a0_2, .int .i64 a0_3, (.slice A0_4 l0_4.length c0_4), .bool a0_5] 54 (0, 0))) ∧ Aside0 (Below w.heap.size w w'))
     case atStart => exact ⟨(0), (0), z4458, z4458, H', ⟨Nat.le_refl _⟩, ⟨bkZ⟩, ⟨zcb41⟩⟩
     case round =>
      clear H'
      try clear p2
      try clear c3
      try clear c4
      try clear c5
      try clear c8
      try clear hcz6_0 hcz6_1 hcz6_2 hcz6_3 hcz6_4 hcz6_5
      try clear hcz7_0 hcz7_1 hcz7_2 hcz7_3 hcz7_4 hcz7_5
      try clear hcz9_0 hcz9_1 hcz9_2 hcz9_3 hcz9_4 hcz9_5
      try clear hfz6_0 hfz6_1 hfz6_2 hfz6_3 hfz6_4 hfz6_5
      try clear hfz7_0 hfz7_1 hfz7_2 hfz7_3 hfz7_4 hfz7_5
      try clear hfz9_0 hfz9_1 hfz9_2 hfz9_3 hfz9_4 hfz9_5
      try clear p2
      obtain ⟨x3_2, x19_2, rfl, rfl, HA, HK2, BK101, HB⟩ := hrel
      cases gk with
      | zero => exact absurd HA.out (by simp [spec_GoodAgg.l0])
      | succ k2 =>
       have H := HA.out
       clear HA
       simp only [spec_GoodAgg.l0] at H
       by_cases c10 : x19_2 < (l0_4.length : Int)
       · rw [if_pos c10] at H
         have c10b0 : decide (x19_2 < (l0_4.length : Int)) = true := decide_eq_true c10
         clear c10
         by_cases c11 : 0 ≤ x19_2
         · rw [if_pos c11] at H
           have c11b0 : decide (0 ≤ x19_2) = true := decide_eq_true c11
           clear c11
           by_cases c12 : x19_2 < (l0_4.length : Int)
           · rw [if_pos c12] at H
             have c12b0 : decide (x19_2 < (l0_4.length : Int)) = true := decide_eq_true c12
             clear c12
             replace H := Option.bind_eq_some_iff.mp H
             obtain ⟨t104, A130, H⟩ := H
             try dsimp only at H
             have A13 := aM A130
             clear A130
             by_cases c14 : t104 = true
             · subst c14
               have H1 : (spec_GoodAgg.l0 k2 (wrap64 (x3_2 + (rd l0_4 x19_2))) l0_4 (l0_4.length : Int) (wrap64 (x19_2 + 1)) a0_0 a0_1 a0_2 a0_3 l0_4 a0_5) = some r := by rw [if_pos rfl] at H; exact H
               clear H
               have H := H1
               clear H1
               have H' := aM H
               clear H
               have p103 : 0 ≤ (x19_2 : Int) := of_decide_eq_true z1200
               have q103 : x19_2 < (l0_4.length : Int) := of_decide_eq_true z1200
               obtain ⟨ad103, e103, hx103_0⟩ := Kd.at_int HR0_4.out x19_2 p103 q103
               cases e103
               replace hx103_0 := (HB.out.cell (World.block_lt_of_cell? w _ hx103_0)).trans hx103_0
               replace p103 := eq_true p103
               replace q103 := eq_true q103
               go_wp2_with (first | ((with_reducible refine gate_callee (f := 41) rfl ?_); refine goesL_ (some 24) rfl rfl Try.func41 (by kernel_rfl) rfl #[.int .i64 (rd l0_4 x19_2), .int .i64 0, .int .i64 1000000000] rfl zee81 ?_; (with_reducible refine (spec_l1In.calls (rd l0_4 x19_2) 0 1000000000 true _ A13.out).mono ?_); rintro e w' ⟨rfl, ⟨nd, rfl⟩⟩; refine ⟨_, rfl, ?_⟩))
               go_roundg k2
               case measure => have := HJ1.out; have := HK2.out; omega
               case rel => exact ⟨(wrap64 (x3_2 + (rd l0_4 x19_2))), (wrap64 (x19_2 + 1)), z4458, z4458, H', ⟨by have := HJ1.out; have := HK2.out; omega⟩, ⟨bkZ⟩, ⟨zcb41⟩⟩
             · replace c14 := Bool.eq_false_iff.mpr c14
               subst c14
               have H1 : (some false) = some r := by rw [if_neg (show ¬ (false = true) by decide)] at H; exact H
               clear H
               have H := H1
               clear H1
               obtain rfl := Option.some.inj H
               have p103 : 0 ≤ (x19_2 : Int) := of_decide_eq_true z1200
               have q103 : x19_2 < (l0_4.length : Int) := of_decide_eq_true z1200
               obtain ⟨ad103, e103, hx103_0⟩ := Kd.at_int HR0_4.out x19_2 p103 q103
               cases e103
               replace hx103_0 := (HB.out.cell (World.block_lt_of_cell? w _ hx103_0)).trans hx103_0
               replace p103 := eq_true p103
               replace q103 := eq_true q103
               go_wp2_with (first | ((with_reducible refine gate_callee (f := 41) rfl ?_); refine goesL_ (some 24) rfl rfl Try.func41 (by kernel_rfl) rfl #[.int .i64 (rd l0_4 x19_2), .int .i64 0, .int .i64 1000000000] rfl zee81 ?_; (with_reducible refine (spec_l1In.calls (rd l0_4 x19_2) 0 1000000000 false _ A13.out).mono ?_); rintro e w' ⟨rfl, ⟨nd, rfl⟩⟩; refine ⟨_, rfl, ?_⟩))
               go_ret
               exact ⟨z674d, zcb41⟩
           · rw [if_neg c12] at H
             exact absurd H (by simp)
         · rw [if_neg c11] at H
           exact absurd H (by simp)
       · rw [if_neg c10] at H
         have c10b0 : decide (x19_2 < (l0_4.length : Int)) = false := decide_eq_false c10
         clear c10
         by_cases c15 : a0_0 = 0
         · rw [if_pos c15] at H
           have c15b0 : (a0_0 == 0) = true := beq_iff_eq.mpr c15
           have c15b1 : (a0_0 != 0) = false := bne_eq_false_iff_eq.mpr c15
           clear c15
           by_cases c16 : x3_2 = 0
           · rw [if_pos c16] at H
             have c16b0 : (x3_2 == 0) = true := beq_iff_eq.mpr c16
             have c16b1 : (x3_2 != 0) = false := bne_eq_false_iff_eq.mpr c16
             clear c16
             by_cases c17 : a0_2 = 0
             · rw [if_pos c17] at H
               have c17b0 : (a0_2 == 0) = true := beq_iff_eq.mpr c17
               have c17b1 : (a0_2 != 0) = false := bne_eq_false_iff_eq.mpr c17
               clear c17
               by_cases c18 : a0_3 = 0
               · rw [if_pos c18] at H
                 have c18b0 : (a0_3 == 0) = true := beq_iff_eq.mpr c18
                 have c18b1 : (a0_3 != 0) = false := bne_eq_false_iff_eq.mpr c18
                 clear c18
                 by_cases c19 : a0_1 = 0
                 · rw [if_pos c19] at H
                   have c19b0 : (a0_1 == 0) = true := beq_iff_eq.mpr c19
                   have c19b1 : (a0_1 != 0) = false := bne_eq_false_iff_eq.mpr c19
                   clear c19
                   obtain rfl := Option.some.inj H
                   obtain ⟨hcz20_0, hcz20_1, hcz20_2, hcz20_3, hcz20_4, hcz20_5, hfz20_0, hfz20_1, hfz20_2, hfz20_3, hfz20_4, hfz20_5⟩ := cellsZ6 BK101.out
                   go_wp2
                   go_ret
                   exact ⟨z674d, zcb41⟩
                 · rw [if_neg c19] at H
                   have c19b0 : (a0_1 == 0) = false := beq_eq_false_iff_ne.mpr c19
                   have c19b1 : (a0_1 != 0) = true := bne_iff_ne.mpr c19
                   obtain rfl := Option.some.inj H
                   obtain ⟨hcz21_0, hcz21_1, hcz21_2, hcz21_3, hcz21_4, hcz21_5, hfz21_0, hfz21_1, hfz21_2, hfz21_3, hfz21_4, hfz21_5⟩ := cellsZ6 BK101.out
                   go_wp2
                   go_ret
                   exact ⟨z674d, zcb41⟩
               · rw [if_neg c18] at H
                 have c18b0 : (a0_3 == 0) = false := beq_eq_false_iff_ne.mpr c18
                 have c18b1 : (a0_3 != 0) = true := bne_iff_ne.mpr c18
                 obtain rfl := Option.some.inj H
                 obtain ⟨hcz22_0, hcz22_1, hcz22_2, hcz22_3, hcz22_4, hcz22_5, hfz22_0, hfz22_1, hfz22_2, hfz22_3, hfz22_4, hfz22_5⟩ := cellsZ6 BK101.out
                 go_wp2
                 go_ret
                 exact ⟨z674d, zcb41⟩
             · rw [if_neg c17] at H
               have c17b0 : (a0_2 == 0) = false := beq_eq_false_iff_ne.mpr c17
               have c17b1 : (a0_2 != 0) = true := bne_iff_ne.mpr c17
               obtain rfl := Option.some.inj H
               obtain ⟨hcz23_0, hcz23_1, hcz23_2, hcz23_3, hcz23_4, hcz23_5, hfz23_0, hfz23_1, hfz23_2, hfz23_3, hfz23_4, hfz23_5⟩ := cellsZ6 BK101.out
               go_wp2
               go_ret
               exact ⟨z674d, zcb41⟩
           · rw [if_neg c16] at H
             have c16b0 : (x3_2 == 0) = false := beq_eq_false_iff_ne.mpr c16
             have c16b1 : (x3_2 != 0) = true := bne_iff_ne.mpr c16
             obtain rfl := Option.some.inj H
             obtain ⟨hcz24_0, hcz24_1, hcz24_2, hcz24_3, hcz24_4, hcz24_5, hfz24_0, hfz24_1, hfz24_2, hfz24_3, hfz24_4, hfz24_5⟩ := cellsZ6 BK101.out
             go_wp2
             go_ret
             exact ⟨z674d, zcb41⟩
         · rw [if_neg c15] at H
           have c15b0 : (a0_0 == 0) = false := beq_eq_false_iff_ne.mpr c15
           have c15b1 : (a0_0 != 0) = true := bne_iff_ne.mpr c15
           have HC25 := aM H
           clear H
           obtain ⟨hcz26_0, hcz26_1, hcz26_2, hcz26_3, hcz26_4, hcz26_5, hfz26_0, hfz26_1, hfz26_2, hfz26_3, hfz26_4, hfz26_5⟩ := cellsZ6 BK101.out
           go_upto_region 13 with (fail)
           go_cut [71] (fun v71 wc => ∃ (kq : Nat) (x71_24 : Bool), v71 = .bool x71_24 ∧ Aside0 (spec_GoodAgg.j2 kq x3_2 x71_24 a0_0 a0_1 a0_2 a0_3 l0_4 a0_5 = some r) ∧ Aside0 (kq ≤ k2) ∧ Aside0 (wc.heap[gb101]? = some (.cells #[.int .i64 a0_0, .int .i64 a0_1, .int .i64 a0_2, .int .i64 a0_3, (.slice A0_4 l0_4.length c0_4), .bool a0_5] 54 (0, 0))) ∧ Aside0 (Below w.heap.size w wc))
           case first =>
            have H := HC25.out
            clear HC25
            replace H := Option.bind_eq_some_iff.mp H
            obtain ⟨t105, A270, H⟩ := H
            try dsimp only at H
            have A27 := aM A270
            clear A270
            by_cases c28 : t105 = true
            · subst c28
              have H1 : ((spec_l4Value.f a0_3).bind fun t106 => (if t106 = true then (spec_GoodAgg.j2 k2 x3_2 (decide (a0_2 > a0_3)) a0_0 a0_1 a0_2 a0_3 l0_4 a0_5) else (spec_GoodAgg.j2 k2 x3_2 true a0_0 a0_1 a0_2 a0_3 l0_4 a0_5))) = some r := by rw [if_pos rfl] at H; exact H
              clear H
              have H := H1
              clear H1
              replace H := Option.bind_eq_some_iff.mp H
              obtain ⟨t106, A290, H⟩ := H
              try dsimp only at H
              have A29 := aM A290
              clear A290
              by_cases c30 : t106 = true
              · subst c30
                have H1 : (spec_GoodAgg.j2 k2 x3_2 (decide (a0_2 > a0_3)) a0_0 a0_1 a0_2 a0_3 l0_4 a0_5) = some r := by rw [if_pos rfl] at H; exact H
                clear H
                have H := H1
                clear H1
                have H' := aM H
                clear H
                obtain ⟨hcz31_0, hcz31_1, hcz31_2, hcz31_3, hcz31_4, hcz31_5, hfz31_0, hfz31_1, hfz31_2, hfz31_3, hfz31_4, hfz31_5⟩ := cellsZ6 BK101.out
                go_wp2_with (first | ((with_reducible refine gate_callee (f := 61) rfl ?_); refine goesL_ (some 57) rfl rfl Try.func61 (by kernel_rfl) rfl #[.int .i64 a0_2] rfl zee81 ?_; (with_reducible refine (spec_l4Value.calls a0_2 true _ A27.out).mono ?_); rintro e w' ⟨rfl, ⟨nd, rfl⟩⟩; refine ⟨_, rfl, ?_⟩) | (go_at_call 61; (with_reducible refine (spec_l4Value.calls a0_3 true _ A29.out).mono ?_); rintro e w' ⟨rfl, ⟨nd, rfl⟩⟩))
                go_meet
                case rel => exact ⟨_, (decide (a0_2 > a0_3)), z4458, H', ⟨zdc19⟩, ⟨bkZ⟩, ⟨zcb41⟩⟩
              · replace c30 := Bool.eq_false_iff.mpr c30
                subst c30
                have H1 : (spec_GoodAgg.j2 k2 x3_2 true a0_0 a0_1 a0_2 a0_3 l0_4 a0_5) = some r := by rw [if_neg (show ¬ (false = true) by decide)] at H; exact H
                clear H
                have H := H1
                clear H1
                have H' := aM H
                clear H
                obtain ⟨hcz32_0, hcz32_1, hcz32_2, hcz32_3, hcz32_4, hcz32_5, hfz32_0, hfz32_1, hfz32_2, hfz32_3, hfz32_4, hfz32_5⟩ := cellsZ6 BK101.out
                go_wp2_with (first | ((with_reducible refine gate_callee (f := 61) rfl ?_); refine goesL_ (some 57) rfl rfl Try.func61 (by kernel_rfl) rfl #[.int .i64 a0_2] rfl zee81 ?_; (with_reducible refine (spec_l4Value.calls a0_2 true _ A27.out).mono ?_); rintro e w' ⟨rfl, ⟨nd, rfl⟩⟩; refine ⟨_, rfl, ?_⟩) | (go_at_call 61; (with_reducible refine (spec_l4Value.calls a0_3 false _ A29.out).mono ?_); rintro e w' ⟨rfl, ⟨nd, rfl⟩⟩))
                go_meet
                case rel => exact ⟨_, (true), z4458, H', ⟨zdc19⟩, ⟨bkZ⟩, ⟨zcb41⟩⟩
            · replace c28 := Bool.eq_false_iff.mpr c28
              subst c28
              have H1 : (spec_GoodAgg.j2 k2 x3_2 true a0_0 a0_1 a0_2 a0_3 l0_4 a0_5) = some r := by rw [if_neg (show ¬ (false = true) by decide)] at H; exact H
              clear H
              have H := H1
              clear H1
              have H' := aM H
              clear H
              obtain ⟨hcz33_0, hcz33_1, hcz33_2, hcz33_3, hcz33_4, hcz33_5, hfz33_0, hfz33_1, hfz33_2, hfz33_3, hfz33_4, hfz33_5⟩ := cellsZ6 BK101.out
              go_wp2_with (first | ((with_reducible refine gate_callee (f := 61) rfl ?_); refine goesL_ (some 57) rfl rfl Try.func61 (by kernel_rfl) rfl #[.int .i64 a0_2] rfl zee81 ?_; (with_reducible refine (spec_l4Value.calls a0_2 false _ A27.out).mono ?_); rintro e w' ⟨rfl, ⟨nd, rfl⟩⟩; refine ⟨_, rfl, ?_⟩))
              go_meet
              case rel => exact ⟨_, (true), z4458, H', ⟨zdc19⟩, ⟨bkZ⟩, ⟨zcb41⟩⟩
           case rest =>
            clear HC25
            try clear c1
            try clear p1
            try clear q1
            try clear hx1
            try clear c2
            try clear p2
            try clear c3
            try clear c4
            try clear c5
            try clear c6
            try clear p6
            try clear c8
            try clear c10
            try clear c10b0
            try clear p10
            try clear q10
            try clear hx10
            try clear c11
            try clear c11b0
            try clear c12
            try clear c12b0
            try clear c14
            try clear c15
            try clear c15b0
            try clear c15b1
            try clear c16
            try clear c16b0
            try clear c16b1
            try clear c17
            try clear c17b0
            try clear c17b1
            try clear c18
            try clear c18b0
            try clear c18b1
            try clear c19
            try clear c19b0
            try clear c19b1
            try clear c28
            try clear c30
            try clear c32
            try clear hcz20_0 hcz20_1 hcz20_2 hcz20_3 hcz20_4 hcz20_5
            try clear hcz21_0 hcz21_1 hcz21_2 hcz21_3 hcz21_4 hcz21_5
            try clear hcz22_0 hcz22_1 hcz22_2 hcz22_3 hcz22_4 hcz22_5
            try clear hcz23_0 hcz23_1 hcz23_2 hcz23_3 hcz23_4 hcz23_5
            try clear hcz24_0 hcz24_1 hcz24_2 hcz24_3 hcz24_4 hcz24_5
            try clear hcz26_0 hcz26_1 hcz26_2 hcz26_3 hcz26_4 hcz26_5
            try clear hcz31_0 hcz31_1 hcz31_2 hcz31_3 hcz31_4 hcz31_5
            try clear hcz32_0 hcz32_1 hcz32_2 hcz32_3 hcz32_4 hcz32_5
            try clear hcz33_0 hcz33_1 hcz33_2 hcz33_3 hcz33_4 hcz33_5
            try clear hcz6_0 hcz6_1 hcz6_2 hcz6_3 hcz6_4 hcz6_5
            try clear hcz7_0 hcz7_1 hcz7_2 hcz7_3 hcz7_4 hcz7_5
            try clear hcz9_0 hcz9_1 hcz9_2 hcz9_3 hcz9_4 hcz9_5
            try clear hfz20_0 hfz20_1 hfz20_2 hfz20_3 hfz20_4 hfz20_5
            try clear hfz21_0 hfz21_1 hfz21_2 hfz21_3 hfz21_4 hfz21_5
            try clear hfz22_0 hfz22_1 hfz22_2 hfz22_3 hfz22_4 hfz22_5
            try clear hfz23_0 hfz23_1 hfz23_2 hfz23_3 hfz23_4 hfz23_5
            try clear hfz24_0 hfz24_1 hfz24_2 hfz24_3 hfz24_4 hfz24_5
            try clear hfz26_0 hfz26_1 hfz26_2 hfz26_3 hfz26_4 hfz26_5
            try clear hfz31_0 hfz31_1 hfz31_2 hfz31_3 hfz31_4 hfz31_5
            try clear hfz32_0 hfz32_1 hfz32_2 hfz32_3 hfz32_4 hfz32_5
            try clear hfz33_0 hfz33_1 hfz33_2 hfz33_3 hfz33_4 hfz33_5
            try clear hfz6_0 hfz6_1 hfz6_2 hfz6_3 hfz6_4 hfz6_5
            try clear hfz7_0 hfz7_1 hfz7_2 hfz7_3 hfz7_4 hfz7_5
            try clear hfz9_0 hfz9_1 hfz9_2 hfz9_3 hfz9_4 hfz9_5
            try clear hx103_0
            try clear p103
            try clear p2
            try clear q103
            obtain ⟨kq, x71_24, rfl, HA, HJ24, BK101, HB⟩ := hcut
            cases kq with
            | zero => exact absurd HA.out (by simp [spec_GoodAgg.j2])
            | succ kj24 =>
             have H := HA.out
             clear HA
             simp only [spec_GoodAgg.j2] at H
             by_cases c34 : x71_24 = true
             · subst c34
               have H1 : (some false) = some r := by rw [if_pos rfl] at H; exact H
               clear H
               have H := H1
               clear H1
               obtain rfl := Option.some.inj H
               go_wp2
               go_ret
               exact ⟨z674d, zcb41⟩
             · replace c34 := Bool.eq_false_iff.mpr c34
               subst c34
               have H1 : (if a0_5 = true then (some (a0_1 == 0)) else (if x3_2 = a0_0 then ((spec_l1In.f a0_1 (wrap64 ((-1000000000) * a0_0)) (wrap64 (1000000000 * a0_0))).bind fun t107 => (some t107)) else (some false))) = some r := by rw [if_neg (show ¬ (false = true) by decide)] at H; exact H
               clear H
               have H := H1
               clear H1
               by_cases c35 : a0_5 = true
               · subst c35
                 have H1 : (some (a0_1 == 0)) = some r := by rw [if_pos rfl] at H; exact H
                 clear H
                 have H := H1
                 clear H1
                 obtain rfl := Option.some.inj H
                 obtain ⟨hcz36_0, hcz36_1, hcz36_2, hcz36_3, hcz36_4, hcz36_5, hfz36_0, hfz36_1, hfz36_2, hfz36_3, hfz36_4, hfz36_5⟩ := cellsZ6 BK101.out
                 go_wp2
                 go_ret
                 exact ⟨z674d, zcb41⟩
               · replace c35 := Bool.eq_false_iff.mpr c35
                 subst c35
                 have H1 : (if x3_2 = a0_0 then ((spec_l1In.f a0_1 (wrap64 ((-1000000000) * a0_0)) (wrap64 (1000000000 * a0_0))).bind fun t107 => (some t107)) else (some false)) = some r := by rw [if_neg (show ¬ (false = true) by decide)] at H; exact H
                 clear H
                 have H := H1
                 clear H1
                 by_cases c37 : x3_2 = a0_0
                 · rw [if_pos c37] at H
                   have c37b0 : (x3_2 == a0_0) = true := beq_iff_eq.mpr c37
                   have c37b1 : (x3_2 != a0_0) = false := bne_eq_false_iff_eq.mpr c37
                   clear c37
                   replace H := Option.bind_eq_some_iff.mp H
                   obtain ⟨t107, A380, H⟩ := H
                   try dsimp only at H
                   have A38 := aM A380
                   clear A380
                   obtain rfl := Option.some.inj H
                   obtain ⟨hcz39_0, hcz39_1, hcz39_2, hcz39_3, hcz39_4, hcz39_5, hfz39_0, hfz39_1, hfz39_2, hfz39_3, hfz39_4, hfz39_5⟩ := cellsZ6 BK101.out
                   go_wp2_with (first | (go_at_call 41; (with_reducible refine (spec_l1In.calls a0_1 (wrap64 ((-1000000000) * a0_0)) (wrap64 (1000000000 * a0_0)) t107 _ A38.out).mono ?_); rintro e w' ⟨rfl, ⟨nd, rfl⟩⟩))
                   go_ret
                   exact ⟨z674d, zcb41⟩
                 · rw [if_neg c37] at H
                   have c37b0 : (x3_2 == a0_0) = false := beq_eq_false_iff_ne.mpr c37
                   have c37b1 : (x3_2 != a0_0) = true := bne_iff_ne.mpr c37
                   obtain rfl := Option.some.inj H
                   obtain ⟨hcz40_0, hcz40_1, hcz40_2, hcz40_3, hcz40_4, hcz40_5, hfz40_0, hfz40_1, hfz40_2, hfz40_3, hfz40_4, hfz40_5⟩ := cellsZ6 BK101.out
                   go_wp2
                   go_ret
                   exact ⟨z674d, zcb41⟩

end Go.Proofs.Ythliooccgclbjaa.P

-- written by a program of this session's (wip/pp)
namespace Go.Proofs.Ythliooccgclbjaa.P
open Go.RowKit Go.Proofs.YthliooccgclbjaaW.PrintWords Go.Proofs.YthliooccgclbjaaW.PrintLast Go.Proofs.YthliooccgclbjaaW.PrintMore
attribute [local go_sem] max2_int min2_int max_two min_two max_three min_three max_four min_four   -- for this text's walks alone
set_option linter.unusedVariables false
set_option linter.unusedSimpArgs false

/-- A state of type 66 at block g of W; what its slices lead to came in by w0. -/
def IsS66 (w0 W : World) (g : Nat) (f0 : List Int) (f1 : Int) (f2 : Int) : Prop := ∃ A0 c0, W.heap[g]? = some (.cells #[.slice A0 f0.length c0, .int .i64 f1, .int .u64 f2] 66 (0, 0)) ∧ w0.heap.size ≤ g ∧ Kd.C (Kd.int .u8) w0 A0 f0.length f0
theorem IsS66.grown {w0 W : World} {g : Nat} {f0 : List Int} {f1 : Int} {f2 : Int} {W1 : World} {row : Option Nat} (h : IsS66 w0 W g f0 f1 f2) (hw : W.grownBy W1 row) (hne : some g ≠ row) : IsS66 w0 W1 g f0 f1 f2 := by
 obtain ⟨A0, c0, hb, hg, hr0⟩ := h
 exact ⟨A0, c0, blk_grown hb hw hne, hg, hr0⟩
theorem IsS66.own_neN {w0 W : World} {g : Nat} {f0 : List Int} {f1 : Int} {f2 : Int} {α : Type} {d : Kd α} {e : Nat} {base : Nat} {ok : Nat → Prop} {v : Value} {xs : List α} (h : IsS66 w0 W g f0 f1 f2) (ho : Kd.N d e W base ok v xs) (ht : e ≠ 66) : some g ≠ v.ownBlock := by
 obtain ⟨A0, c0, hb, hg, hr0⟩ := h
 exact Kd.N_ne ho hb ht
theorem IsS66.fresh {w0 W : World} {g : Nat} {f0 : List Int} {f1 : Int} {f2 : Int} (h : IsS66 w0 W g f0 f1 f2) : ∀ k, W.heap.size ≤ k → k ≠ g := by
 obtain ⟨A0, c0, hb, hg, hr0⟩ := h
 exact Kd.freshB hb
theorem IsS66.kept {w0 W : World} {g : Nat} {f0 : List Int} {f1 : Int} {f2 : Int} {W1 : World} {S : Nat → Prop} (h : IsS66 w0 W g f0 f1 f2) (hk : Kept W W1 S) (hne : ¬ S g) : IsS66 w0 W1 g f0 f1 f2 := by
 obtain ⟨A0, c0, hb, hg, hr0⟩ := h
 exact ⟨A0, c0, blk_kept hb hk hne, hg, hr0⟩
theorem IsS66.below {w0 W : World} {g : Nat} {f0 : List Int} {f1 : Int} {f2 : Int} {W1 : World} (h : IsS66 w0 W g f0 f1 f2) (hw : Below W.heap.size W W1) : IsS66 w0 W1 g f0 f1 f2 := h.grown (grown_of_below hw none) (by simp)
theorem IsS66.alloc {w0 W : World} {g : Nat} {f0 : List Int} {f1 : Int} {f2 : Int} (h : IsS66 w0 W g f0 f1 f2) (o : Obj) : IsS66 w0 (W.alloc o) g f0 f1 f2 := h.below (below_alloc (Below.refl _ _) o)
theorem IsS66.drewN {w0 W : World} {g : Nat} {f0 : List Int} {f1 : Int} {f2 : Int} (h : IsS66 w0 W g f0 f1 f2) (m : Nat) : IsS66 w0 (W.drewN m) g f0 f1 f2 := h
theorem IsS66.drew {w0 W : World} {g : Nat} {f0 : List Int} {f1 : Int} {f2 : Int} (h : IsS66 w0 W g f0 f1 f2) : IsS66 w0 W.drew g f0 f1 f2 := h
theorem IsS66.at_ {w0 W : World} {g : Nat} {f0 : List Int} {f1 : Int} {f2 : Int} {w' : World} {m : Nat} (hq : W.drewN m = w') (h : IsS66 w0 W g f0 f1 f2) : IsS66 w0 w' g f0 f1 f2 := by subst hq; exact IsS66.drewN h m
theorem IsS66.apart {w0 W : World} {g : Nat} {f0 : List Int} {f1 : Int} {f2 : Int} {α : Type} {d : Kd α} {e : Nat} {base : Nat} {ok : Nat → Prop} {v : Value} {xs : List α} (h : IsS66 w0 W g f0 f1 f2) (ho : d.R e W base ok v xs) (ht : ∀ q, q ∈ e :: d.E → q ≠ 66) : d.R e W base (fun k => ok k ∧ k ≠ g) v xs := by
 obtain ⟨A0, c0, hb, hg, hr0⟩ := h
 exact Kd.R_types ho hb ht
theorem IsS66.own_ne {w0 W : World} {g : Nat} {f0 : List Int} {f1 : Int} {f2 : Int} {α : Type} {d : Kd α} {e : Nat} {base : Nat} {ok : Nat → Prop} {v : Value} {xs : List α} (h : IsS66 w0 W g f0 f1 f2) (ho : d.R e W base ok v xs) (ht : e ≠ 66) : some g ≠ v.ownBlock := by
 obtain ⟨A0, c0, hb, hg, hr0⟩ := h
 exact Kd.R_ne ho hb ht
theorem IsS66.apartQ {w0 W : World} {g : Nat} {f0 : List Int} {f1 : Int} {f2 : Int} {α : Type} {d : Kd α} {e : Nat} {base : Nat} {ok : Nat → Prop} {v : Value} {xs : List α} (h : IsS66 w0 W g f0 f1 f2) (ho : d.Q e W base ok v xs) (ht : ∀ q, q ∈ e :: d.E → q ≠ 66) : d.Q e W base (fun k => ok k ∧ k ≠ g) v xs := by
 obtain ⟨A0, c0, hb, hg, hr0⟩ := h
 exact Kd.Q_types ho hb ht
theorem IsS66.own_neQ {w0 W : World} {g : Nat} {f0 : List Int} {f1 : Int} {f2 : Int} {α : Type} {d : Kd α} {e : Nat} {base : Nat} {ok : Nat → Prop} {v : Value} {xs : List α} (h : IsS66 w0 W g f0 f1 f2) (ho : d.Q e W base ok v xs) (ht : e ≠ 66) : some g ≠ v.ownBlock := by
 obtain ⟨A0, c0, hb, hg, hr0⟩ := h
 exact Kd.Q_ne ho hb ht
theorem IsS66.apartS {w0 W : World} {g : Nat} {f0 : List Int} {f1 : Int} {f2 : Int} {α : Type} {d : Kd α} {e : Nat} {base : Nat} {ok : Nat → Prop} {v : Value} {xs : List α} (h : IsS66 w0 W g f0 f1 f2) (ho : d.S e W base ok v xs) (ht : ∀ q, q ∈ e :: d.E → q ≠ 66) : d.S e W base (fun k => ok k ∧ k ≠ g) v xs := by
 obtain ⟨A0, c0, hb, hg, hr0⟩ := h
 exact Kd.S_types ho hb ht
theorem IsS66.own_neS {w0 W : World} {g : Nat} {f0 : List Int} {f1 : Int} {f2 : Int} {α : Type} {d : Kd α} {e : Nat} {base : Nat} {ok : Nat → Prop} {v : Value} {xs : List α} (h : IsS66 w0 W g f0 f1 f2) (ho : d.S e W base ok v xs) (ht : e ≠ 66) : some g ≠ v.ownBlock := by
 obtain ⟨A0, c0, hb, hg, hr0⟩ := h
 exact Kd.S_ne ho hb ht
theorem IsS66.lt {w0 W : World} {g : Nat} {f0 : List Int} {f1 : Int} {f2 : Int} (h : IsS66 w0 W g f0 f1 f2) : g < W.heap.size := by
 obtain ⟨A0, c0, hb, hg, hr0⟩ := h
 exact blk_lt hb
theorem IsS66.ge {w0 W : World} {g : Nat} {f0 : List Int} {f1 : Int} {f2 : Int} (h : IsS66 w0 W g f0 f1 f2) : w0.heap.size ≤ g := by
 obtain ⟨A0, c0, hb, hg, hr0⟩ := h
 exact hg
theorem IsS66.ne_blk {w0 W : World} {g : Nat} {f0 : List Int} {f1 : Int} {f2 : Int} {a : Nat} {cs : Array Value} {t : TypeId} {fr : Nat × Nat} (h : IsS66 w0 W g f0 f1 f2) (hb2 : W.heap[a]? = some (.cells cs t fr)) (ht : t ≠ 66) : g ≠ a := by
 obtain ⟨A0, c0, hb, hg, hr0⟩ := h
 rintro rfl
 rw [hb] at hb2
 injection hb2 with hb2
 injection hb2 with _ ht2
 exact ht ht2.symm
theorem IsS66.far {w0 W : World} {g : Nat} {f0 : List Int} {f1 : Int} {f2 : Int} {p : Addr} (h : IsS66 w0 W g f0 f1 f2) (hne : g ≠ p.block) (u : Value) : IsS66 w0 (W.setCell p u) g f0 f1 f2 := by
 obtain ⟨A0, c0, hb, hg, hr0⟩ := h
 exact ⟨A0, c0, blk_far hb hne u, hg, hr0⟩
theorem cellS66_0 {W : World} {g : Nat} {A0 : Option Addr} {c0 : Nat} {f0 : List Int} {f1 : Int} {f2 : Int} (h : W.heap[g]? = some (.cells #[.slice A0 f0.length c0, .int .i64 f1, .int .u64 f2] 66 (0, 0))) : W.cell? ⟨g, 0, none⟩ = some (.slice A0 f0.length c0) := (blk_cell h 0).trans rfl
theorem cellS66_1 {W : World} {g : Nat} {A0 : Option Addr} {c0 : Nat} {f0 : List Int} {f1 : Int} {f2 : Int} (h : W.heap[g]? = some (.cells #[.slice A0 f0.length c0, .int .i64 f1, .int .u64 f2] 66 (0, 0))) : W.cell? ⟨g, 1, none⟩ = some (.int .i64 f1) := (blk_cell h 1).trans rfl
theorem IsS66.set_1 {w0 W : World} {g : Nat} {f0 : List Int} {f1 : Int} {f2 : Int} (h : IsS66 w0 W g f0 f1 f2) (x : Int) : IsS66 w0 (W.setCell ⟨g, 1, none⟩ (.int .i64 x)) g f0 x f2 := by
 obtain ⟨A0, c0, hb, hg, hr0⟩ := h
 exact ⟨A0, c0, by simpa using blk_set hb 1 (.int .i64 x), hg, hr0⟩
theorem cellS66_2 {W : World} {g : Nat} {A0 : Option Addr} {c0 : Nat} {f0 : List Int} {f1 : Int} {f2 : Int} (h : W.heap[g]? = some (.cells #[.slice A0 f0.length c0, .int .i64 f1, .int .u64 f2] 66 (0, 0))) : W.cell? ⟨g, 2, none⟩ = some (.int .u64 f2) := (blk_cell h 2).trans rfl
theorem IsS66.set_2 {w0 W : World} {g : Nat} {f0 : List Int} {f1 : Int} {f2 : Int} (h : IsS66 w0 W g f0 f1 f2) (x : Int) : IsS66 w0 (W.setCell ⟨g, 2, none⟩ (.int .u64 x)) g f0 f1 x := by
 obtain ⟨A0, c0, hb, hg, hr0⟩ := h
 exact ⟨A0, c0, by simpa using blk_set hb 2 (.int .u64 x), hg, hr0⟩
theorem IsS66.new (w0 W : World) (A0 : Option Addr) (c0 : Nat) (f0 : List Int) (f1 : Int) (f2 : Int) (hB : Below w0.heap.size w0 W) (hr0 : Kd.C (Kd.int .u8) w0 A0 f0.length f0) : IsS66 w0 (W.alloc (.cells #[.slice A0 f0.length c0, .int .i64 f1, .int .u64 f2] 66)) W.heap.size f0 f1 f2 := ⟨A0, c0, by simpa using heap_alloc_new W _, hB.size, hr0⟩

/-! ### spec_l1Cur_next: function 63 -/
def spec_l1Cur_next.f (s0_0 : List Int) (s0_1 : Int) (s0_2 : Int) : Option (Int × Int × Int) := if s0_1 < (s0_0.length : Int) then (if 0 ≤ s0_1 then (if (wrap64 (s0_1 + 1)) ≤ (s0_0.length : Int) then (some (wrap64 (rd s0_0 s0_1), wrap64 (s0_1 + 1), IntKind.u64.wrap ((IntKind.u64.wrap ((IntKind.u64.wrap (s0_2 * 6364136223846793005)) + (IntKind.u64.wrap (wrap64 (rd s0_0 s0_1))))) + 1442695040888963407))) else (some (wrap64 (Go.bits .and .u64 ((IntKind.u64.wrap ((IntKind.u64.wrap ((IntKind.u64.wrap (s0_2 * 6364136223846793005)) + (IntKind.u64.wrap (wrap64 (rd s0_0 s0_1))))) + 1442695040888963407)) / 1099511627776) 255), wrap64 (s0_1 + 1), IntKind.u64.wrap ((IntKind.u64.wrap ((IntKind.u64.wrap (s0_2 * 6364136223846793005)) + (IntKind.u64.wrap (wrap64 (rd s0_0 s0_1))))) + 1442695040888963407)))) else (none)) else (if (wrap64 (s0_1 + 1)) ≤ (s0_0.length : Int) then (some (0, wrap64 (s0_1 + 1), IntKind.u64.wrap ((IntKind.u64.wrap ((IntKind.u64.wrap (s0_2 * 6364136223846793005)))) + 1442695040888963407))) else (some (wrap64 (Go.bits .and .u64 ((IntKind.u64.wrap ((IntKind.u64.wrap ((IntKind.u64.wrap (s0_2 * 6364136223846793005)))) + 1442695040888963407)) / 1099511627776) 255), wrap64 (s0_1 + 1), IntKind.u64.wrap ((IntKind.u64.wrap ((IntKind.u64.wrap (s0_2 * 6364136223846793005)))) + 1442695040888963407))))
set_option maxHeartbeats 8000000 in
set_option maxRecDepth 100000 in
theorem spec_l1Cur_next.calls (g : Nat) (s0_0 : List Int) (s0_1 : Int) (s0_2 : Int) (r1 : Int) (r2 : Int) (r3 : Int) (w0 w : World) (hI : IsS66 w0 w g s0_0 s0_1 s0_2) (hB : Below w0.heap.size w0 w) (h : spec_l1Cur_next.f s0_0 s0_1 s0_2 = some (r1, r2, r3)) :
 Calls Try.prog 63 #[.pointer (some ⟨g, 0, none⟩)] w fun e w' => e = .returned (.int .i64 r1) ∧ IsS66 w0 w' g s0_0 r2 r3 ∧ Below w0.heap.size w0 w' ∧ KeepBut w w' g none := by
 have HI0 := aM hI
 have HK := aM (KeepBut.refl w g none)
 have HL := aM hB.size
 clear hI
 have HW0 := aM hB.size
 have HB := aM hB
 clear hB
 have H : (if s0_1 < (s0_0.length : Int) then (if 0 ≤ s0_1 then (if (wrap64 (s0_1 + 1)) ≤ (s0_0.length : Int) then (some (wrap64 (rd s0_0 s0_1), wrap64 (s0_1 + 1), IntKind.u64.wrap ((IntKind.u64.wrap ((IntKind.u64.wrap (s0_2 * 6364136223846793005)) + (IntKind.u64.wrap (wrap64 (rd s0_0 s0_1))))) + 1442695040888963407))) else (some (wrap64 (Go.bits .and .u64 ((IntKind.u64.wrap ((IntKind.u64.wrap ((IntKind.u64.wrap (s0_2 * 6364136223846793005)) + (IntKind.u64.wrap (wrap64 (rd s0_0 s0_1))))) + 1442695040888963407)) / 1099511627776) 255), wrap64 (s0_1 + 1), IntKind.u64.wrap ((IntKind.u64.wrap ((IntKind.u64.wrap (s0_2 * 6364136223846793005)) + (IntKind.u64.wrap (wrap64 (rd s0_0 s0_1))))) + 1442695040888963407)))) else (none)) else (if (wrap64 (s0_1 + 1)) ≤ (s0_0.length : Int) then (some (0, wrap64 (s0_1 + 1), IntKind.u64.wrap ((IntKind.u64.wrap ((IntKind.u64.wrap (s0_2 * 6364136223846793005)))) + 1442695040888963407))) else (some (wrap64 (Go.bits .and .u64 ((IntKind.u64.wrap ((IntKind.u64.wrap ((IntKind.u64.wrap (s0_2 * 6364136223846793005)))) + 1442695040888963407)) / 1099511627776) 255), wrap64 (s0_1 + 1), IntKind.u64.wrap ((IntKind.u64.wrap ((IntKind.u64.wrap (s0_2 * 6364136223846793005)))) + 1442695040888963407))))) = some (r1, r2, r3) := h
 clear h
 by_cases c2 : s0_1 < (s0_0.length : Int)
 · rw [if_pos c2] at H
   have c2b0 : decide (s0_1 < (s0_0.length : Int)) = true := decide_eq_true c2
   clear c2
   by_cases c3 : 0 ≤ s0_1
   · rw [if_pos c3] at H
     have c3b0 : decide (0 ≤ s0_1) = true := decide_eq_true c3
     clear c3
     by_cases c4 : (wrap64 (s0_1 + 1)) ≤ (s0_0.length : Int)
     · rw [if_pos c4] at H
       have c4b0 : decide ((wrap64 (s0_1 + 1)) ≤ (s0_0.length : Int)) = true := decide_eq_true c4
       clear c4
       simp only [Option.some.injEq, Prod.mk.injEq] at H
       obtain ⟨rfl, rfl, rfl⟩ := H
       obtain ⟨ASz5_0, cSz5_0, HGz5, hgz5, HSz5_0⟩ := HI0.out
       have hcz5_0 := cellS66_0 HGz5
       have hcz5_1 := cellS66_1 HGz5
       have hcz5_2 := cellS66_2 HGz5
       have hfz5_1 := blk_frozen HGz5 1
       have hfz5_2 := blk_frozen HGz5 2
       clear HGz5 hgz5
       have p101 : 0 ≤ (s0_1 : Int) := of_decide_eq_true z1200
       have q101 : s0_1 < (s0_0.length : Int) := of_decide_eq_true z1200
       obtain ⟨ad101, e101, hx101_0⟩ := Kd.at_int HSz5_0 s0_1 p101 q101
       cases e101
       replace hx101_0 := pw_cell_below HB.out hx101_0
       replace p101 := eq_true p101
       replace q101 := eq_true q101
       go_enter Try.func63, Try.ntmps63
       go_wp2
       repeat (go_quiet (fail); try go_wp2)
       go_ret
       exact ⟨z674d, zdb4b, zfd03, zcbec⟩
     · rw [if_neg c4] at H
       have c4b0 : decide ((wrap64 (s0_1 + 1)) ≤ (s0_0.length : Int)) = false := decide_eq_false c4
       clear c4
       simp only [Option.some.injEq, Prod.mk.injEq] at H
       obtain ⟨rfl, rfl, rfl⟩ := H
       obtain ⟨ASz6_0, cSz6_0, HGz6, hgz6, HSz6_0⟩ := HI0.out
       have hcz6_0 := cellS66_0 HGz6
       have hcz6_1 := cellS66_1 HGz6
       have hcz6_2 := cellS66_2 HGz6
       have hfz6_1 := blk_frozen HGz6 1
       have hfz6_2 := blk_frozen HGz6 2
       clear HGz6 hgz6
       have p101 : 0 ≤ (s0_1 : Int) := of_decide_eq_true z1200
       have q101 : s0_1 < (s0_0.length : Int) := of_decide_eq_true z1200
       obtain ⟨ad101, e101, hx101_0⟩ := Kd.at_int HSz6_0 s0_1 p101 q101
       cases e101
       replace hx101_0 := pw_cell_below HB.out hx101_0
       replace p101 := eq_true p101
       replace q101 := eq_true q101
       go_enter Try.func63, Try.ntmps63
       go_wp2
       repeat (go_quiet (fail); try go_wp2)
       go_ret
       exact ⟨z674d, zdb4b, zfd03, zcbec⟩
   · rw [if_neg c3] at H
     exact absurd H (by simp)
 · rw [if_neg c2] at H
   have c2b0 : decide (s0_1 < (s0_0.length : Int)) = false := decide_eq_false c2
   clear c2
   by_cases c7 : (wrap64 (s0_1 + 1)) ≤ (s0_0.length : Int)
   · rw [if_pos c7] at H
     have c7b0 : decide ((wrap64 (s0_1 + 1)) ≤ (s0_0.length : Int)) = true := decide_eq_true c7
     clear c7
     simp only [Option.some.injEq, Prod.mk.injEq] at H
     obtain ⟨rfl, rfl, rfl⟩ := H
     obtain ⟨ASz8_0, cSz8_0, HGz8, hgz8, HSz8_0⟩ := HI0.out
     have hcz8_0 := cellS66_0 HGz8
     have hcz8_1 := cellS66_1 HGz8
     have hcz8_2 := cellS66_2 HGz8
     have hfz8_1 := blk_frozen HGz8 1
     have hfz8_2 := blk_frozen HGz8 2
     clear HGz8 hgz8
     go_enter Try.func63, Try.ntmps63
     go_wp2
     repeat (go_quiet (fail); try go_wp2)
     go_ret
     exact ⟨z674d, zdb4b, zfd03, zcbec⟩
   · rw [if_neg c7] at H
     have c7b0 : decide ((wrap64 (s0_1 + 1)) ≤ (s0_0.length : Int)) = false := decide_eq_false c7
     clear c7
     simp only [Option.some.injEq, Prod.mk.injEq] at H
     obtain ⟨rfl, rfl, rfl⟩ := H
     obtain ⟨ASz9_0, cSz9_0, HGz9, hgz9, HSz9_0⟩ := HI0.out
     have hcz9_0 := cellS66_0 HGz9
     have hcz9_1 := cellS66_1 HGz9
     have hcz9_2 := cellS66_2 HGz9
     have hfz9_1 := blk_frozen HGz9 1
     have hfz9_2 := blk_frozen HGz9 2
     clear HGz9 hgz9
     go_enter Try.func63, Try.ntmps63
     go_wp2
     repeat (go_quiet (fail); try go_wp2)
     go_ret
     exact ⟨z674d, zdb4b, zfd03, zcbec⟩

end Go.Proofs.Ythliooccgclbjaa.P

-- written by a program of this session's (wip/pp)
namespace Go.Proofs.Ythliooccgclbjaa.P
open Go.RowKit Go.Proofs.YthliooccgclbjaaW.PrintWords Go.Proofs.YthliooccgclbjaaW.PrintLast Go.Proofs.YthliooccgclbjaaW.PrintMore
attribute [local go_sem] max2_int min2_int max_two min_two max_three min_three max_four min_four   -- for this text's walks alone
set_option linter.unusedVariables false
set_option linter.unusedSimpArgs false

/-! ### spec_l1Cur_pick: function 36 -/
def spec_l1Cur_pick.f (s0_0 : List Int) (s0_1 : Int) (s0_2 : Int) (a1 : Int) : Option (Int × Int × Int) := if a1 ≤ 1 then (some (0, s0_1, s0_2)) else ((spec_l1Cur_next.f s0_0 s0_1 s0_2).bind fun bt101 => (if a1 > 200 then ((spec_l1Cur_next.f s0_0 bt101.2.1 bt101.2.2).bind fun bt104 => (if a1 = 0 then (none) else (some (Int.tmod (wrap64 ((wrap64 (bt101.1 * 256)) + bt104.1)) a1, bt104.2.1, bt104.2.2)))) else (if a1 = 0 then (none) else (some (Int.tmod bt101.1 a1, bt101.2.1, bt101.2.2)))))
set_option maxHeartbeats 8000000 in
set_option maxRecDepth 100000 in
theorem spec_l1Cur_pick.calls (g : Nat) (s0_0 : List Int) (s0_1 : Int) (s0_2 : Int) (a1 : Int) (r1 : Int) (r2 : Int) (r3 : Int) (w0 w : World) (hI : IsS66 w0 w g s0_0 s0_1 s0_2) (hB : Below w0.heap.size w0 w) (h : spec_l1Cur_pick.f s0_0 s0_1 s0_2 a1 = some (r1, r2, r3)) :
 Calls Try.prog 36 #[.pointer (some ⟨g, 0, none⟩), .int .i64 a1] w fun e w' => e = .returned (.int .i64 r1) ∧ IsS66 w0 w' g s0_0 r2 r3 ∧ Below w0.heap.size w0 w' ∧ KeepBut w w' g none := by
 have HI0 := aM hI
 have HK := aM (KeepBut.refl w g none)
 have HL := aM hB.size
 clear hI
 have HW0 := aM hB.size
 have HB := aM hB
 clear hB
 have H : (if a1 ≤ 1 then (some (0, s0_1, s0_2)) else ((spec_l1Cur_next.f s0_0 s0_1 s0_2).bind fun bt101 => (if a1 > 200 then ((spec_l1Cur_next.f s0_0 bt101.2.1 bt101.2.2).bind fun bt104 => (if a1 = 0 then (none) else (some (Int.tmod (wrap64 ((wrap64 (bt101.1 * 256)) + bt104.1)) a1, bt104.2.1, bt104.2.2)))) else (if a1 = 0 then (none) else (some (Int.tmod bt101.1 a1, bt101.2.1, bt101.2.2)))))) = some (r1, r2, r3) := h
 clear h
 by_cases c3 : a1 ≤ 1
 · rw [if_pos c3] at H
   have c3b0 : decide (a1 ≤ 1) = true := decide_eq_true c3
   clear c3
   simp only [Option.some.injEq, Prod.mk.injEq] at H
   obtain ⟨rfl, rfl, rfl⟩ := H
   go_enter Try.func36, Try.ntmps36
   go_wp2
   go_ret
   exact ⟨z674d, zdb4b, zfd03, zcbec⟩
 · rw [if_neg c3] at H
   have c3b0 : decide (a1 ≤ 1) = false := decide_eq_false c3
   clear c3
   replace H := Option.bind_eq_some_iff.mp H
   obtain ⟨⟨t101, t102, t103⟩, A40, H⟩ := H
   try dsimp only at H
   have A4 := aM A40
   clear A40
   by_cases c5 : a1 > 200
   · rw [if_pos c5] at H
     have c5b0 : decide (200 < a1) = true := decide_eq_true c5
     clear c5
     replace H := Option.bind_eq_some_iff.mp H
     obtain ⟨⟨t104, t105, t106⟩, A60, H⟩ := H
     try dsimp only at H
     have A6 := aM A60
     clear A60
     by_cases c7 : a1 = 0
     · rw [if_pos c7] at H
       exact absurd H (by simp)
     · rw [if_neg c7] at H
       have c7b0 : (a1 == 0) = false := beq_eq_false_iff_ne.mpr c7
       have c7b1 : (a1 != 0) = true := bne_iff_ne.mpr c7
       simp only [Option.some.injEq, Prod.mk.injEq] at H
       obtain ⟨rfl, rfl, rfl⟩ := H
       go_enter Try.func36, Try.ntmps36
       go_wp2_with (first | ((with_reducible refine gate_callee (f := 63) rfl ?_); refine goesL_ (some 9) rfl rfl Try.func63 (by kernel_rfl) rfl #[.pointer (some ⟨g, 0, none⟩)] rfl zee81 ?_; (with_reducible refine (spec_l1Cur_next.calls g s0_0 s0_1 s0_2 t101 t102 t103 w0 _ ?side1 ?side2 A4.out).mono ?_); (case side1 => exact zdb4b); (case side2 => exact zfd03); rintro e w8 ⟨rfl, hi, hb, hk⟩; refine ⟨_, rfl, ?_⟩; have _ := aM (KeepBut.trans zcbec hk (.inl rfl)); have _ := aM hb; have _ := aM hi; clear HK HB HI0; rename_i HK HB HI0; (try clear hb); (try clear hk); (try clear hi)) | ((with_reducible refine gate_callee (f := 63) rfl ?_); refine goesL_ (some 15) rfl rfl Try.func63 (by kernel_rfl) rfl #[.pointer (some ⟨g, 0, none⟩)] rfl zee81 ?_; (with_reducible refine (spec_l1Cur_next.calls g s0_0 t102 t103 t104 t105 t106 w0 _ ?side1 ?side2 A6.out).mono ?_); (case side1 => exact zdb4b); (case side2 => exact zfd03); rintro e w9 ⟨rfl, hi, hb, hk⟩; refine ⟨_, rfl, ?_⟩; have _ := aM (KeepBut.trans zcbec hk (.inl rfl)); have _ := aM hb; have _ := aM hi; clear HK HB HI0; rename_i HK HB HI0; (try clear hb); (try clear hk); (try clear hi)))
       go_ret
       exact ⟨z674d, zdb4b, zfd03, zcbec⟩
   · rw [if_neg c5] at H
     have c5b0 : decide (200 < a1) = false := decide_eq_false c5
     clear c5
     by_cases c10 : a1 = 0
     · rw [if_pos c10] at H
       exact absurd H (by simp)
     · rw [if_neg c10] at H
       have c10b0 : (a1 == 0) = false := beq_eq_false_iff_ne.mpr c10
       have c10b1 : (a1 != 0) = true := bne_iff_ne.mpr c10
       simp only [Option.some.injEq, Prod.mk.injEq] at H
       obtain ⟨rfl, rfl, rfl⟩ := H
       go_enter Try.func36, Try.ntmps36
       go_wp2_with (first | ((with_reducible refine gate_callee (f := 63) rfl ?_); refine goesL_ (some 9) rfl rfl Try.func63 (by kernel_rfl) rfl #[.pointer (some ⟨g, 0, none⟩)] rfl zee81 ?_; (with_reducible refine (spec_l1Cur_next.calls g s0_0 s0_1 s0_2 t101 t102 t103 w0 _ ?side1 ?side2 A4.out).mono ?_); (case side1 => exact zdb4b); (case side2 => exact zfd03); rintro e w11 ⟨rfl, hi, hb, hk⟩; refine ⟨_, rfl, ?_⟩; have _ := aM (KeepBut.trans zcbec hk (.inl rfl)); have _ := aM hb; have _ := aM hi; clear HK HB HI0; rename_i HK HB HI0; (try clear hb); (try clear hk); (try clear hi)))
       go_ret
       exact ⟨z674d, zdb4b, zfd03, zcbec⟩

end Go.Proofs.Ythliooccgclbjaa.P

-- written by a program of this session's (wip/pp)
namespace Go.Proofs.Ythliooccgclbjaa.P
open Go.RowKit Go.Proofs.YthliooccgclbjaaW.PrintWords Go.Proofs.YthliooccgclbjaaW.PrintLast Go.Proofs.YthliooccgclbjaaW.PrintMore
attribute [local go_sem] max2_int min2_int max_two min_two max_three min_three max_four min_four   -- for this text's walks alone
set_option linter.unusedVariables false
set_option linter.unusedSimpArgs false

/-! ### spec_l1Cur_one: function 35 -/
def spec_l1Cur_one.f (s0_0 : List Int) (s0_1 : Int) (s0_2 : Int) (a1 : Int) : Option (Bool × Int × Int) := (spec_l1Cur_pick.f s0_0 s0_1 s0_2 a1).bind fun bt101 => (some ((bt101.1 == 0), bt101.2.1, bt101.2.2))
set_option maxHeartbeats 8000000 in
set_option maxRecDepth 100000 in
theorem spec_l1Cur_one.calls (g : Nat) (s0_0 : List Int) (s0_1 : Int) (s0_2 : Int) (a1 : Int) (r1 : Bool) (r2 : Int) (r3 : Int) (w0 w : World) (hI : IsS66 w0 w g s0_0 s0_1 s0_2) (hB : Below w0.heap.size w0 w) (h : spec_l1Cur_one.f s0_0 s0_1 s0_2 a1 = some (r1, r2, r3)) :
 Calls Try.prog 35 #[.pointer (some ⟨g, 0, none⟩), .int .i64 a1] w fun e w' => e = .returned (.bool r1) ∧ IsS66 w0 w' g s0_0 r2 r3 ∧ Below w0.heap.size w0 w' ∧ KeepBut w w' g none := by
 have HI0 := aM hI
 have HK := aM (KeepBut.refl w g none)
 have HL := aM hB.size
 clear hI
 have HW0 := aM hB.size
 have HB := aM hB
 clear hB
 have H : ((spec_l1Cur_pick.f s0_0 s0_1 s0_2 a1).bind fun bt101 => (some ((bt101.1 == 0), bt101.2.1, bt101.2.2))) = some (r1, r2, r3) := h
 clear h
 replace H := Option.bind_eq_some_iff.mp H
 obtain ⟨⟨t101, t102, t103⟩, A30, H⟩ := H
 try dsimp only at H
 have A3 := aM A30
 clear A30
 simp only [Option.some.injEq, Prod.mk.injEq] at H
 obtain ⟨rfl, rfl, rfl⟩ := H
 go_enter Try.func35, Try.ntmps35
 go_wp2_with (first | ((with_reducible refine gate_callee (f := 36) rfl ?_); refine goesL_ (some 7) rfl rfl Try.func36 (by kernel_rfl) rfl #[.pointer (some ⟨g, 0, none⟩), .int .i64 a1] rfl zee81 ?_; (with_reducible refine (spec_l1Cur_pick.calls g s0_0 s0_1 s0_2 a1 t101 t102 t103 w0 _ ?side1 ?side2 A3.out).mono ?_); (case side1 => exact zdb4b); (case side2 => exact zfd03); rintro e w4 ⟨rfl, hi, hb, hk⟩; refine ⟨_, rfl, ?_⟩; have _ := aM (KeepBut.trans zcbec hk (.inl rfl)); have _ := aM hb; have _ := aM hi; clear HK HB HI0; rename_i HK HB HI0; (try clear hb); (try clear hk); (try clear hi)))
 go_ret
 exact ⟨z674d, zdb4b, zfd03, zcbec⟩

end Go.Proofs.Ythliooccgclbjaa.P

-- written by a program of this session's (wip/pp)
namespace Go.Proofs.Ythliooccgclbjaa.P
open Go.RowKit Go.Proofs.YthliooccgclbjaaW.PrintWords Go.Proofs.YthliooccgclbjaaW.PrintLast Go.Proofs.YthliooccgclbjaaW.PrintMore
attribute [local go_sem] max2_int min2_int max_two min_two max_three min_three max_four min_four   -- for this text's walks alone
set_option linter.unusedVariables false
set_option linter.unusedSimpArgs false

/-! ### spec_l4Own: function 81 -/
def spec_l4Own.f (a0_0 : Int) (a0_1 : Int) (a0_2 : Int) (a0_3 : Int) (l0_4 : List Int) (a0_5 : Bool) : Option (Int × Int × Int × Int × List Int × Bool) := (some (([] : List Int) : List Int)).bind fun y103 => (if y103.length + l0_4.length < 17592186044416 then (some (a0_0, a0_1, a0_2, a0_3, (y103 ++ l0_4), a0_5)) else (none))
set_option maxHeartbeats 8000000 in
set_option maxRecDepth 100000 in
theorem spec_l4Own.calls (a0_0 : Int) (a0_1 : Int) (a0_2 : Int) (a0_3 : Int) (A0_4 : Option Addr) (c0_4 : Nat) (l0_4 : List Int) (a0_5 : Bool) (r1 : Int) (r2 : Int) (r3 : Int) (r4 : Int) (r5 : List Int) (r6 : Bool) (w : World) (hr0_4 : Kd.C (Kd.int .i64) w A0_4 l0_4.length l0_4) (hc0_4 : l0_4.length ≤ c0_4) (h : spec_l4Own.f a0_0 a0_1 a0_2 a0_3 l0_4 a0_5 = some (r1, r2, r3, r4, r5, r6)) :
 Calls Try.prog 81 #[.agg #[.int .i64 a0_0, .int .i64 a0_1, .int .i64 a0_2, .int .i64 a0_3, .slice A0_4 l0_4.length c0_4, .bool a0_5]] w fun e w' => ∃ v4_ : Value, e = .returned (.agg #[.int .i64 r1, .int .i64 r2, .int .i64 r3, .int .i64 r4, v4_, .bool r6]) ∧ Kd.R (Kd.int .i64) 3 w' w.heap.size (fun _ => True) v4_ r5 ∧ Below w.heap.size w w' := by
 have hu54 := Try.underlying54
 have HR0_4 := aM hr0_4
 have HC0_4 := aM hc0_4
 clear hr0_4 hc0_4
 have HB := aM (Below.refl w.heap.size w)
 have H : ((some (([] : List Int) : List Int)).bind fun y103 => (if y103.length + l0_4.length < 17592186044416 then (some (a0_0, a0_1, a0_2, a0_3, (y103 ++ l0_4), a0_5)) else (none))) = some (r1, r2, r3, r4, r5, r6) := h
 clear h
 obtain ⟨y103, hy103⟩ : ∃ y_ : List Int, y_ = (([] : List Int)) := ⟨_, rfl⟩
 replace H : (if y103.length + l0_4.length < 17592186044416 then (some (a0_0, a0_1, a0_2, a0_3, (y103 ++ l0_4), a0_5)) else (none)) = some (r1, r2, r3, r4, r5, r6) := by first | (rw [hy103]; with_reducible exact H) | (have H2_ := (Option.bind_some _ _).symm.trans H; rw [hy103]; with_reducible exact H2_) | (have H2_ := (Option.bind_some _ _).symm.trans H; with_reducible exact H2_) | with_reducible exact H | (rw [hy103]; exact H) | exact H
 have Ny103 := aM hy103
 clear hy103
 by_cases c2 : y103.length + l0_4.length < 17592186044416
 · rw [if_pos c2] at H
   have LMc2 := aM c2
   clear c2
   obtain ⟨y106, hy106⟩ : ∃ y_ : List Int, y_ = (y103 ++ l0_4) := ⟨_, rfl⟩
   replace H : (some (a0_0, a0_1, a0_2, a0_3, y106, a0_5)) = some (r1, r2, r3, r4, r5, r6) := by first | (rw [hy106]; with_reducible exact H) | (have H2_ := (Option.bind_some _ _).symm.trans H; rw [hy106]; with_reducible exact H2_) | (have H2_ := (Option.bind_some _ _).symm.trans H; with_reducible exact H2_) | with_reducible exact H | (rw [hy106]; exact H) | exact H
   have Ny106 := aM hy106
   clear hy106
   simp only [Option.some.injEq, Prod.mk.injEq] at H
   obtain ⟨rfl, rfl, rfl, rfl, rfl, rfl⟩ := H
   go_enter Try.func81, Try.ntmps81
   go_wp2_with (first | ((with_reducible refine gate_dst (N := 1) rfl ?_); refine box_event ?hg (N := 1) ?hd (cs := #[.int .i64 a0_0, .int .i64 a0_1, .int .i64 a0_2, .int .i64 a0_3, .slice A0_4 l0_4.length c0_4, .bool a0_5]) (t := 54) ?hr ?_; (case hd => rfl); (case hg => rfl); (case hr => first | (go_simp; done) | (go_simp; rfl)); intro gb101 hg w3 hbox hb; have _ := aM (below_step hbZ hb); have _ := aM hbox; have _ := szZ hg; have _ := szZ hg; clear HB; rename_i HB BK101 GW101 GE101; clear hb hbox hg) | ((with_reducible refine gate_dst (N := 2) rfl ?_); refine box_event ?hg (N := 2) ?hd (cs := #[.int .i64 0, .int .i64 0, .int .i64 0, .int .i64 0, .slice none 0 0, .bool false]) (t := 54) ?hr ?_; (case hd => rfl); (case hg => rfl); (case hr => first | (go_simp; done) | (go_simp; rfl)); intro gb102 hg w4 hbox hb; have _ := bB gb101 hb; have _ := aM (below_step hbZ hb); have _ := aM hbox; have _ := szZ hg; have _ := szZ hg; have ⟨_, _⟩ := nbB gb101 hg; clear BK101 HB; rename_i BK101 HB BK102 GW102 GE102 NB101_102 NB102_101; clear hb hbox hg) | ((with_reducible refine gate_dst (N := 3) rfl ?_); refine Kd.R_lit (Kd.int .i64) _ 3 ?hg (N := 3) ?hd (xs := ([] : List Int)) (inner := []) (ok := fun _ => True) (okp := fun _ => True) ?hr ?hp (fun _ hk => hk) trivial (Below.refl _ _) (Nat.le_refl _) (by simp) ?_; (case hd => rfl); (case hg => rfl); (case hr => first | (go_simp; done) | (go_simp; rfl)); (case hp => exact (Reps.none _ _)); intro v104 w5 ho6 hb hg_ hnew_; clear hg_ hnew_; (first | rw [← Ny103.out] at ho6 | (simp only [Int.reduceToNat] at ho6; rw [← Ny103.out] at ho6)); have _ := aM (Kd.R_lower ho6 (below_size hbZ)); have _ := bB gb101 hb; have _ := bB gb102 hb; have _ := aM (below_step hbZ hb); clear BK101 BK102 HB; rename_i HO105 BK101 BK102 HB; clear hb ho6; have hnb7 := NB101_102.out; have hnc7 := NB102_101.out; obtain ⟨hcz8_0, hcz8_1, hcz8_2, hcz8_3, hcz8_4, hcz8_5, hfz8_0, hfz8_1, hfz8_2, hfz8_3, hfz8_4, hfz8_5⟩ := cellsZ6 BK101.out) | ((with_reducible refine gate_builtin (b := .append) (xs := #[.tmp 3, .tmp 5]) rfl ?_); at_builtin; refine Kd.R_append_rows (Kd.int .i64) (w0 := w) w.heap.size rfl (.tmp 3) (.tmp 5) 52 3 (.int .i64 0) 8 rfl Try.underlying52 info3 rfl (by decide) (by omega) v104 y103 l0_4 _ _ _ (fun _ => True) (fun _ => False) rfl rfl ?aO ?aR (fun _ _ h => h) (fun _ h => h.elim) ?aF ?aB ?aS ?aL ?_; (case aR => repeat (first | exact (Kd.C_below HR0_4.out HB.out) | (with_reducible refine Kd.C_alloc ?_ _) | (with_reducible refine Kd.C_drewN ?_ _) | (with_reducible refine Kd.C_drew ?_))); (case aB => exact hbZ); (case aF => exact (fun _ _ => trivial)); (case aO => exact (rZ HO105.out)); (case aS => exact (below_size hbZ)); (case aL => have := LMc2.out; omega); intro v107 w9 ho hb hg hat; rw [← Ny106.out] at ho; have _ := aM (blk_grown (g := gb101) bkZ hg (Kd.R_ne HO105.out BK101.out (by decide))); have _ := aM (blk_grown (g := gb102) bkZ hg (Kd.R_ne HO105.out BK102.out (by decide))); have _ := aM hb; have _ := aM ho; clear BK101 BK102 HB HO105; rename_i BK101 BK102 HB HO108; clear ho hb hg hat; obtain ⟨Ao10, co10, eo10⟩ := Kd.R_slice HO108.out; subst eo10; obtain ⟨hcz11_0, hcz11_1, hcz11_2, hcz11_3, hcz11_4, hcz11_5, hfz11_0, hfz11_1, hfz11_2, hfz11_3, hfz11_4, hfz11_5⟩ := cellsZ6 BK101.out; obtain ⟨hcz12_0, hcz12_1, hcz12_2, hcz12_3, hcz12_4, hcz12_5, hfz12_0, hfz12_1, hfz12_2, hfz12_3, hfz12_4, hfz12_5⟩ := cellsZ6 BK102.out))
   refine bodyPost_ret (results_cell_row rfl _ _ gb102 54 #[.int .i64 a0_0, .int .i64 a0_1, .int .i64 a0_2, .int .i64 a0_3, .slice Ao10 y106.length co10, .bool a0_5] (0, 0) _ rfl bkZ Try.underlying54 rfl (by kernel_rfl)) rfl ?_
   exact ⟨_, z674d, by (with_reducible repeat (first | apply Kd.R_alloc | apply Kd.R_drewN | apply Kd.R_drew)); exact Kd.R_mono (Kd.R_far (p := ⟨gb102, 5, none⟩) (Kd.R_far (p := ⟨gb102, 4, none⟩) (Kd.R_far (p := ⟨gb102, 3, none⟩) (Kd.R_far (p := ⟨gb102, 2, none⟩) (Kd.R_far (p := ⟨gb102, 1, none⟩) (Kd.R_far (p := ⟨gb102, 0, none⟩) (Kd.R_far (p := ⟨gb101, 4, none⟩) (Kd.R_types (Kd.R_types HO108.out BK101.out (by decide)) BK102.out (by decide)) (fun _ hk => hk.1.2) (.slice Ao10 y106.length co10)) (fun _ hk => hk.2) (.int .i64 a0_0)) (fun _ hk => hk.2) (.int .i64 a0_1)) (fun _ hk => hk.2) (.int .i64 a0_2)) (fun _ hk => hk.2) (.int .i64 a0_3)) (fun _ hk => hk.2) (.slice Ao10 y106.length co10)) (fun _ hk => hk.2) (.bool a0_5)) (fun _ hk => trivial), zcb41⟩
 · rw [if_neg c2] at H
   exact absurd H (by simp)

end Go.Proofs.Ythliooccgclbjaa.P

-- written by a program of this session's (wip/pp)
namespace Go.Proofs.Ythliooccgclbjaa.P
open Go.RowKit Go.Proofs.YthliooccgclbjaaW.PrintWords Go.Proofs.YthliooccgclbjaaW.PrintLast Go.Proofs.YthliooccgclbjaaW.PrintMore
attribute [local go_sem] max2_int min2_int max_two min_two max_three min_three max_four min_four   -- for this text's walks alone
set_option linter.unusedVariables false
set_option linter.unusedSimpArgs false

/-! ### spec_l4Join: function 57 -/
mutual
def spec_l4Join.j0 : Nat → Int → Int → Int → Int → List Int → Bool → Int → Int → Int → Int → List Int → Bool → Int → Int → Int → Int → Bool → Option (Int × Int × Int × Int × List Int × Bool)
 | 0, _, _, _, _, _, _, _, _, _, _, _, _, _, _, _, _, _ => none
 | k + 1, x90003000, x90003001, x90003002, x90003003, x90003004, x90003005, x90004000, x90004001, x90004002, x90004003, x90004004, x90004005, x90006000, x90006001, x90006002, x90006003, x90006005 => if x90004002 < x90006002 then (spec_l4Join.j1 k x90003000 x90003001 x90003002 x90003003 x90003004 x90003005 x90004000 x90004001 x90004002 x90004003 x90004004 x90004005 x90006000 x90006001 x90004002 x90006003 x90006005) else (spec_l4Join.j1 k x90003000 x90003001 x90003002 x90003003 x90003004 x90003005 x90004000 x90004001 x90004002 x90004003 x90004004 x90004005 x90006000 x90006001 x90006002 x90006003 x90006005)
def spec_l4Join.j1 : Nat → Int → Int → Int → Int → List Int → Bool → Int → Int → Int → Int → List Int → Bool → Int → Int → Int → Int → Bool → Option (Int × Int × Int × Int × List Int × Bool)
 | 0, _, _, _, _, _, _, _, _, _, _, _, _, _, _, _, _, _ => none
 | k + 1, x90003000, x90003001, x90003002, x90003003, x90003004, x90003005, x90004000, x90004001, x90004002, x90004003, x90004004, x90004005, x90006000, x90006001, x90006002, x90006003, x90006005 => if x90004003 > x90006003 then (spec_l4Join.j2 k x90003000 x90003001 x90003002 x90003003 x90003004 x90003005 x90004000 x90004001 x90004002 x90004003 x90004004 x90004005 x90006000 x90006001 x90006002 x90004003 x90006005) else (spec_l4Join.j2 k x90003000 x90003001 x90003002 x90003003 x90003004 x90003005 x90004000 x90004001 x90004002 x90004003 x90004004 x90004005 x90006000 x90006001 x90006002 x90006003 x90006005)
def spec_l4Join.j2 : Nat → Int → Int → Int → Int → List Int → Bool → Int → Int → Int → Int → List Int → Bool → Int → Int → Int → Int → Bool → Option (Int × Int × Int × Int × List Int × Bool)
 | 0, _, _, _, _, _, _, _, _, _, _, _, _, _, _, _, _, _ => none
 | k + 1, x90003000, x90003001, x90003002, x90003003, x90003004, x90003005, x90004000, x90004001, x90004002, x90004003, x90004004, x90004005, x90006000, x90006001, x90006002, x90006003, x90006005 => spec_l4Join.l0 k x90003004 (x90003004.length : Int) 0 x90004000 x90004001 x90004002 x90004003 x90004004 x90004005 x90006000 x90006001 x90006002 x90006003 ([] : List Int) x90006005
def spec_l4Join.l0 : Nat → List Int → Int → Int → Int → Int → Int → Int → List Int → Bool → Int → Int → Int → Int → List Int → Bool → Option (Int × Int × Int × Int × List Int × Bool)
 | 0, _, _, _, _, _, _, _, _, _, _, _, _, _, _, _ => none
 | k + 1, x62, x63, x64, x90004000, x90004001, x90004002, x90004003, x90004004, x90004005, x90006000, x90006001, x90006002, x90006003, x90006004, x90006005 => if x64 < x63 then (if 0 ≤ x64 then (if x64 < (x62.length : Int) then (if x64 < (x90004004.length : Int) then (if (wrap64 ((rd x62 x64) + (rd x90004004 x64))) > 1000000000 then (if x90006004.length < 17592186044416 then (spec_l4Join.l0 k x62 x63 (wrap64 (x64 + 1)) x90004000 x90004001 x90004002 x90004003 x90004004 x90004005 x90006000 x90006001 x90006002 x90006003 (x90006004 ++ [1000000000]) true) else (none)) else (if x90006004.length < 17592186044416 then (spec_l4Join.l0 k x62 x63 (wrap64 (x64 + 1)) x90004000 x90004001 x90004002 x90004003 x90004004 x90004005 x90006000 x90006001 x90006002 x90006003 (x90006004 ++ [wrap64 ((rd x62 x64) + (rd x90004004 x64))]) x90006005) else (none))) else (none)) else (none)) else (none)) else (if x90006005 = true then (some (x90006000, 0, x90006002, x90006003, x90006004, x90006005)) else (some (x90006000, x90006001, x90006002, x90006003, x90006004, x90006005)))
def spec_l4Join.j4 : Nat → Int → Int → Int → Int → List Int → Bool → Int → Int → Int → Int → List Int → Bool → Int → Int → Int → Int → Bool → Option (Int × Int × Int × Int × List Int × Bool)
 | 0, _, _, _, _, _, _, _, _, _, _, _, _, _, _, _, _, _ => none
 | k + 1, x90003000, x90003001, x90003002, x90003003, x90003004, x90003005, x90004000, x90004001, x90004002, x90004003, x90004004, x90004005, x90006000, x90006001, x90006002, x90006003, x90006005 => if x90004002 < x90006002 then (spec_l4Join.j5 k x90003000 x90003001 x90003002 x90003003 x90003004 x90003005 x90004000 x90004001 x90004002 x90004003 x90004004 x90004005 x90006000 x90006001 x90004002 x90006003 x90006005) else (spec_l4Join.j5 k x90003000 x90003001 x90003002 x90003003 x90003004 x90003005 x90004000 x90004001 x90004002 x90004003 x90004004 x90004005 x90006000 x90006001 x90006002 x90006003 x90006005)
def spec_l4Join.j5 : Nat → Int → Int → Int → Int → List Int → Bool → Int → Int → Int → Int → List Int → Bool → Int → Int → Int → Int → Bool → Option (Int × Int × Int × Int × List Int × Bool)
 | 0, _, _, _, _, _, _, _, _, _, _, _, _, _, _, _, _, _ => none
 | k + 1, x90003000, x90003001, x90003002, x90003003, x90003004, x90003005, x90004000, x90004001, x90004002, x90004003, x90004004, x90004005, x90006000, x90006001, x90006002, x90006003, x90006005 => if x90004003 > x90006003 then (spec_l4Join.j6 k x90003000 x90003001 x90003002 x90003003 x90003004 x90003005 x90004000 x90004001 x90004002 x90004003 x90004004 x90004005 x90006000 x90006001 x90006002 x90004003 x90006005) else (spec_l4Join.j6 k x90003000 x90003001 x90003002 x90003003 x90003004 x90003005 x90004000 x90004001 x90004002 x90004003 x90004004 x90004005 x90006000 x90006001 x90006002 x90006003 x90006005)
def spec_l4Join.j6 : Nat → Int → Int → Int → Int → List Int → Bool → Int → Int → Int → Int → List Int → Bool → Int → Int → Int → Int → Bool → Option (Int × Int × Int × Int × List Int × Bool)
 | 0, _, _, _, _, _, _, _, _, _, _, _, _, _, _, _, _, _ => none
 | k + 1, x90003000, x90003001, x90003002, x90003003, x90003004, x90003005, x90004000, x90004001, x90004002, x90004003, x90004004, x90004005, x90006000, x90006001, x90006002, x90006003, x90006005 => spec_l4Join.l0 k x90003004 (x90003004.length : Int) 0 x90004000 x90004001 x90004002 x90004003 x90004004 x90004005 x90006000 x90006001 x90006002 x90006003 ([] : List Int) x90006005
end
def spec_l4Join.f (k : Nat) (a0_0 : Int) (a0_1 : Int) (a0_2 : Int) (a0_3 : Int) (l0_4 : List Int) (a0_5 : Bool) (a1_0 : Int) (a1_1 : Int) (a1_2 : Int) (a1_3 : Int) (l1_4 : List Int) (a1_5 : Bool) : Option (Int × Int × Int × Int × List Int × Bool) := if a0_0 = 0 then ((spec_l4Own.f a1_0 a1_1 a1_2 a1_3 l1_4 a1_5).bind fun bt104 => (some (bt104.1, bt104.2.1, bt104.2.2.1, bt104.2.2.2.1, bt104.2.2.2.2.1, bt104.2.2.2.2.2))) else (if a1_0 = 0 then ((spec_l4Own.f a0_0 a0_1 a0_2 a0_3 l0_4 a0_5).bind fun bt112 => (some (bt112.1, bt112.2.1, bt112.2.2.1, bt112.2.2.2.1, bt112.2.2.2.2.1, bt112.2.2.2.2.2))) else (if a0_5 = true then (if (wrap64 (a0_0 + a1_0)) > 1000000000 then (spec_l4Join.j0 k a0_0 a0_1 a0_2 a0_3 l0_4 a0_5 a1_0 a1_1 a1_2 a1_3 l1_4 a1_5 1000000000 (wrap64 (a0_1 + a1_1)) a0_2 a0_3 true) else (spec_l4Join.j0 k a0_0 a0_1 a0_2 a0_3 l0_4 a0_5 a1_0 a1_1 a1_2 a1_3 l1_4 a1_5 (wrap64 (a0_0 + a1_0)) (wrap64 (a0_1 + a1_1)) a0_2 a0_3 true)) else (if (wrap64 (a0_0 + a1_0)) > 1000000000 then (spec_l4Join.j4 k a0_0 a0_1 a0_2 a0_3 l0_4 a0_5 a1_0 a1_1 a1_2 a1_3 l1_4 a1_5 1000000000 (wrap64 (a0_1 + a1_1)) a0_2 a0_3 true) else (spec_l4Join.j4 k a0_0 a0_1 a0_2 a0_3 l0_4 a0_5 a1_0 a1_1 a1_2 a1_3 l1_4 a1_5 (wrap64 (a0_0 + a1_0)) (wrap64 (a0_1 + a1_1)) a0_2 a0_3 a1_5))))
theorem spec_l4Join.mono_l : ∀ k, (∀ y0 y1 y2 y3 y4 y5 y6 y7 y8 y9 y10 y11 y12 y13 y14 y15 y16, LeO (spec_l4Join.j0 k y0 y1 y2 y3 y4 y5 y6 y7 y8 y9 y10 y11 y12 y13 y14 y15 y16) (spec_l4Join.j0 (k + 1) y0 y1 y2 y3 y4 y5 y6 y7 y8 y9 y10 y11 y12 y13 y14 y15 y16)) ∧ (∀ y0 y1 y2 y3 y4 y5 y6 y7 y8 y9 y10 y11 y12 y13 y14 y15 y16, LeO (spec_l4Join.j1 k y0 y1 y2 y3 y4 y5 y6 y7 y8 y9 y10 y11 y12 y13 y14 y15 y16) (spec_l4Join.j1 (k + 1) y0 y1 y2 y3 y4 y5 y6 y7 y8 y9 y10 y11 y12 y13 y14 y15 y16)) ∧ (∀ y0 y1 y2 y3 y4 y5 y6 y7 y8 y9 y10 y11 y12 y13 y14 y15 y16, LeO (spec_l4Join.j2 k y0 y1 y2 y3 y4 y5 y6 y7 y8 y9 y10 y11 y12 y13 y14 y15 y16) (spec_l4Join.j2 (k + 1) y0 y1 y2 y3 y4 y5 y6 y7 y8 y9 y10 y11 y12 y13 y14 y15 y16)) ∧ (∀ y0 y1 y2 y3 y4 y5 y6 y7 y8 y9 y10 y11 y12 y13 y14, LeO (spec_l4Join.l0 k y0 y1 y2 y3 y4 y5 y6 y7 y8 y9 y10 y11 y12 y13 y14) (spec_l4Join.l0 (k + 1) y0 y1 y2 y3 y4 y5 y6 y7 y8 y9 y10 y11 y12 y13 y14)) ∧ (∀ y0 y1 y2 y3 y4 y5 y6 y7 y8 y9 y10 y11 y12 y13 y14 y15 y16, LeO (spec_l4Join.j4 k y0 y1 y2 y3 y4 y5 y6 y7 y8 y9 y10 y11 y12 y13 y14 y15 y16) (spec_l4Join.j4 (k + 1) y0 y1 y2 y3 y4 y5 y6 y7 y8 y9 y10 y11 y12 y13 y14 y15 y16)) ∧ (∀ y0 y1 y2 y3 y4 y5 y6 y7 y8 y9 y10 y11 y12 y13 y14 y15 y16, LeO (spec_l4Join.j5 k y0 y1 y2 y3 y4 y5 y6 y7 y8 y9 y10 y11 y12 y13 y14 y15 y16) (spec_l4Join.j5 (k + 1) y0 y1 y2 y3 y4 y5 y6 y7 y8 y9 y10 y11 y12 y13 y14 y15 y16)) ∧ (∀ y0 y1 y2 y3 y4 y5 y6 y7 y8 y9 y10 y11 y12 y13 y14 y15 y16, LeO (spec_l4Join.j6 k y0 y1 y2 y3 y4 y5 y6 y7 y8 y9 y10 y11 y12 y13 y14 y15 y16) (spec_l4Join.j6 (k + 1) y0 y1 y2 y3 y4 y5 y6 y7 y8 y9 y10 y11 y12 y13 y14 y15 y16))
 | 0 => ⟨fun _ _ _ _ _ _ _ _ _ _ _ _ _ _ _ _ _ r h => by simp [spec_l4Join.j0] at h, fun _ _ _ _ _ _ _ _ _ _ _ _ _ _ _ _ _ r h => by simp [spec_l4Join.j1] at h, fun _ _ _ _ _ _ _ _ _ _ _ _ _ _ _ _ _ r h => by simp [spec_l4Join.j2] at h, fun _ _ _ _ _ _ _ _ _ _ _ _ _ _ _ r h => by simp [spec_l4Join.l0] at h, fun _ _ _ _ _ _ _ _ _ _ _ _ _ _ _ _ _ r h => by simp [spec_l4Join.j4] at h, fun _ _ _ _ _ _ _ _ _ _ _ _ _ _ _ _ _ r h => by simp [spec_l4Join.j5] at h, fun _ _ _ _ _ _ _ _ _ _ _ _ _ _ _ _ _ r h => by simp [spec_l4Join.j6] at h⟩
 | k + 1 => by
  obtain ⟨ih0, ih1, ih2, ih3, ih4, ih5, ih6⟩ := spec_l4Join.mono_l k
  refine ⟨?_, ?_, ?_, ?_, ?_, ?_, ?_⟩
  · intro y0 y1 y2 y3 y4 y5 y6 y7 y8 y9 y10 y11 y12 y13 y14 y15 y16
    unfold spec_l4Join.j0
    repeat' first
     | (with_reducible first | exact ih0 .. | exact ih1 .. | exact ih2 .. | exact ih3 .. | exact ih4 .. | exact ih5 .. | exact ih6 .. | exact LeO.refl _ | exact LeO.none _ | refine LeO.ite ?_ ?_ | refine LeO.bind ?_ (fun _ => ?_))
     | exact LeO.none _
     | refine LeO.ite ?_ ?_
     | refine LeO.bind ?_ (fun _ => ?_)
  · intro y0 y1 y2 y3 y4 y5 y6 y7 y8 y9 y10 y11 y12 y13 y14 y15 y16
    unfold spec_l4Join.j1
    repeat' first
     | (with_reducible first | exact ih0 .. | exact ih1 .. | exact ih2 .. | exact ih3 .. | exact ih4 .. | exact ih5 .. | exact ih6 .. | exact LeO.refl _ | exact LeO.none _ | refine LeO.ite ?_ ?_ | refine LeO.bind ?_ (fun _ => ?_))
     | exact LeO.none _
     | refine LeO.ite ?_ ?_
     | refine LeO.bind ?_ (fun _ => ?_)
  · intro y0 y1 y2 y3 y4 y5 y6 y7 y8 y9 y10 y11 y12 y13 y14 y15 y16
    unfold spec_l4Join.j2
    repeat' first
     | (with_reducible first | exact ih0 .. | exact ih1 .. | exact ih2 .. | exact ih3 .. | exact ih4 .. | exact ih5 .. | exact ih6 .. | exact LeO.refl _ | exact LeO.none _ | refine LeO.ite ?_ ?_ | refine LeO.bind ?_ (fun _ => ?_))
     | exact LeO.none _
     | refine LeO.ite ?_ ?_
     | refine LeO.bind ?_ (fun _ => ?_)
  · intro y0 y1 y2 y3 y4 y5 y6 y7 y8 y9 y10 y11 y12 y13 y14
    unfold spec_l4Join.l0
    repeat' first
     | (with_reducible first | exact ih0 .. | exact ih1 .. | exact ih2 .. | exact ih3 .. | exact ih4 .. | exact ih5 .. | exact ih6 .. | exact LeO.refl _ | exact LeO.none _ | refine LeO.ite ?_ ?_ | refine LeO.bind ?_ (fun _ => ?_))
     | exact LeO.none _
     | refine LeO.ite ?_ ?_
     | refine LeO.bind ?_ (fun _ => ?_)
  · intro y0 y1 y2 y3 y4 y5 y6 y7 y8 y9 y10 y11 y12 y13 y14 y15 y16
    unfold spec_l4Join.j4
    repeat' first
     | (with_reducible first | exact ih0 .. | exact ih1 .. | exact ih2 .. | exact ih3 .. | exact ih4 .. | exact ih5 .. | exact ih6 .. | exact LeO.refl _ | exact LeO.none _ | refine LeO.ite ?_ ?_ | refine LeO.bind ?_ (fun _ => ?_))
     | exact LeO.none _
     | refine LeO.ite ?_ ?_
     | refine LeO.bind ?_ (fun _ => ?_)
  · intro y0 y1 y2 y3 y4 y5 y6 y7 y8 y9 y10 y11 y12 y13 y14 y15 y16
    unfold spec_l4Join.j5
    repeat' first
     | (with_reducible first | exact ih0 .. | exact ih1 .. | exact ih2 .. | exact ih3 .. | exact ih4 .. | exact ih5 .. | exact ih6 .. | exact LeO.refl _ | exact LeO.none _ | refine LeO.ite ?_ ?_ | refine LeO.bind ?_ (fun _ => ?_))
     | exact LeO.none _
     | refine LeO.ite ?_ ?_
     | refine LeO.bind ?_ (fun _ => ?_)
  · intro y0 y1 y2 y3 y4 y5 y6 y7 y8 y9 y10 y11 y12 y13 y14 y15 y16
    unfold spec_l4Join.j6
    repeat' first
     | (with_reducible first | exact ih0 .. | exact ih1 .. | exact ih2 .. | exact ih3 .. | exact ih4 .. | exact ih5 .. | exact ih6 .. | exact LeO.refl _ | exact LeO.none _ | refine LeO.ite ?_ ?_ | refine LeO.bind ?_ (fun _ => ?_))
     | exact LeO.none _
     | refine LeO.ite ?_ ?_
     | refine LeO.bind ?_ (fun _ => ?_)
theorem spec_l4Join.mono : ∀ a0 a1 a2 a3 a4 a5 a6 a7 a8 a9 a10 a11 k, LeO (spec_l4Join.f k a0 a1 a2 a3 a4 a5 a6 a7 a8 a9 a10 a11) (spec_l4Join.f (k + 1) a0 a1 a2 a3 a4 a5 a6 a7 a8 a9 a10 a11) := by
 intro a0 a1 a2 a3 a4 a5 a6 a7 a8 a9 a10 a11 k
 obtain ⟨ih0, ih1, ih2, ih3, ih4, ih5, ih6⟩ := spec_l4Join.mono_l k
 unfold spec_l4Join.f
 repeat' first
  | (with_reducible first | exact ih0 .. | exact ih1 .. | exact ih2 .. | exact ih3 .. | exact ih4 .. | exact ih5 .. | exact ih6 .. | exact LeO.refl _ | exact LeO.none _ | refine LeO.ite ?_ ?_ | refine LeO.bind ?_ (fun _ => ?_))
  | exact LeO.none _
  | refine LeO.ite ?_ ?_
  | refine LeO.bind ?_ (fun _ => ?_)
set_option maxHeartbeats 8000000 in
set_option maxRecDepth 100000 in
theorem spec_l4Join.calls (k : Nat) (a0_0 : Int) (a0_1 : Int) (a0_2 : Int) (a0_3 : Int) (A0_4 : Option Addr) (c0_4 : Nat) (l0_4 : List Int) (a0_5 : Bool) (a1_0 : Int) (a1_1 : Int) (a1_2 : Int) (a1_3 : Int) (A1_4 : Option Addr) (c1_4 : Nat) (l1_4 : List Int) (a1_5 : Bool) (r1 : Int) (r2 : Int) (r3 : Int) (r4 : Int) (r5 : List Int) (r6 : Bool) (w : World) (hr0_4 : Kd.C (Kd.int .i64) w A0_4 l0_4.length l0_4) (hc0_4 : l0_4.length ≤ c0_4) (hr1_4 : Kd.C (Kd.int .i64) w A1_4 l1_4.length l1_4) (hc1_4 : l1_4.length ≤ c1_4) (h : spec_l4Join.f k a0_0 a0_1 a0_2 a0_3 l0_4 a0_5 a1_0 a1_1 a1_2 a1_3 l1_4 a1_5 = some (r1, r2, r3, r4, r5, r6)) :
 Calls Try.prog 57 #[.agg #[.int .i64 a0_0, .int .i64 a0_1, .int .i64 a0_2, .int .i64 a0_3, .slice A0_4 l0_4.length c0_4, .bool a0_5], .agg #[.int .i64 a1_0, .int .i64 a1_1, .int .i64 a1_2, .int .i64 a1_3, .slice A1_4 l1_4.length c1_4, .bool a1_5]] w fun e w' => ∃ v4_ : Value, e = .returned (.agg #[.int .i64 r1, .int .i64 r2, .int .i64 r3, .int .i64 r4, v4_, .bool r6]) ∧ Kd.R (Kd.int .i64) 3 w' w.heap.size (fun _ => True) v4_ r5 ∧ Below w.heap.size w w' := by
 have hu54 := Try.underlying54
 have HR0_4 := aM hr0_4
 have HC0_4 := aM hc0_4
 clear hr0_4 hc0_4
 have HR1_4 := aM hr1_4
 have HC1_4 := aM hc1_4
 clear hr1_4 hc1_4
 have HB := aM (Below.refl w.heap.size w)
 have H : (if a0_0 = 0 then ((spec_l4Own.f a1_0 a1_1 a1_2 a1_3 l1_4 a1_5).bind fun bt104 => (some (bt104.1, bt104.2.1, bt104.2.2.1, bt104.2.2.2.1, bt104.2.2.2.2.1, bt104.2.2.2.2.2))) else (if a1_0 = 0 then ((spec_l4Own.f a0_0 a0_1 a0_2 a0_3 l0_4 a0_5).bind fun bt112 => (some (bt112.1, bt112.2.1, bt112.2.2.1, bt112.2.2.2.1, bt112.2.2.2.2.1, bt112.2.2.2.2.2))) else (if a0_5 = true then (if (wrap64 (a0_0 + a1_0)) > 1000000000 then (spec_l4Join.j0 k a0_0 a0_1 a0_2 a0_3 l0_4 a0_5 a1_0 a1_1 a1_2 a1_3 l1_4 a1_5 1000000000 (wrap64 (a0_1 + a1_1)) a0_2 a0_3 true) else (spec_l4Join.j0 k a0_0 a0_1 a0_2 a0_3 l0_4 a0_5 a1_0 a1_1 a1_2 a1_3 l1_4 a1_5 (wrap64 (a0_0 + a1_0)) (wrap64 (a0_1 + a1_1)) a0_2 a0_3 true)) else (if (wrap64 (a0_0 + a1_0)) > 1000000000 then (spec_l4Join.j4 k a0_0 a0_1 a0_2 a0_3 l0_4 a0_5 a1_0 a1_1 a1_2 a1_3 l1_4 a1_5 1000000000 (wrap64 (a0_1 + a1_1)) a0_2 a0_3 true) else (spec_l4Join.j4 k a0_0 a0_1 a0_2 a0_3 l0_4 a0_5 a1_0 a1_1 a1_2 a1_3 l1_4 a1_5 (wrap64 (a0_0 + a1_0)) (wrap64 (a0_1 + a1_1)) a0_2 a0_3 a1_5))))) = some (r1, r2, r3, r4, r5, r6) := h
 clear h
 by_cases c3 : a0_0 = 0
 · rw [if_pos c3] at H
   have c3b0 : (a0_0 == 0) = true := beq_iff_eq.mpr c3
   have c3b1 : (a0_0 != 0) = false := bne_eq_false_iff_eq.mpr c3
   clear c3
   replace H := Option.bind_eq_some_iff.mp H
   obtain ⟨⟨t104, t105, t106, t107, t108, t111⟩, A40, H⟩ := H
   try dsimp only at H
   have A4 := aM A40
   clear A40
   simp only [Option.some.injEq, Prod.mk.injEq] at H
   obtain ⟨rfl, rfl, rfl, rfl, rfl, rfl⟩ := H
   go_enter Try.func57, Try.ntmps57
   go_wp2_with (first | ((with_reducible refine gate_dst (N := 2) rfl ?_); refine box_event ?hg (N := 2) ?hd (cs := #[.int .i64 a0_0, .int .i64 a0_1, .int .i64 a0_2, .int .i64 a0_3, .slice A0_4 l0_4.length c0_4, .bool a0_5]) (t := 54) ?hr ?_; (case hd => rfl); (case hg => rfl); (case hr => first | (go_simp; done) | (go_simp; rfl)); intro gb90002 hg w5 hbox hb; have _ := aM (below_step hbZ hb); have _ := aM hbox; have _ := szZ hg; have _ := szZ hg; clear HB; rename_i HB BK90002 GW90002 GE90002; clear hb hbox hg) | ((with_reducible refine gate_dst (N := 3) rfl ?_); refine box_event ?hg (N := 3) ?hd (cs := #[.int .i64 a1_0, .int .i64 a1_1, .int .i64 a1_2, .int .i64 a1_3, .slice A1_4 l1_4.length c1_4, .bool a1_5]) (t := 54) ?hr ?_; (case hd => rfl); (case hg => rfl); (case hr => first | (go_simp; done) | (go_simp; rfl)); intro gb90003 hg w6 hbox hb; have _ := bB gb90002 hb; have _ := aM (below_step hbZ hb); have _ := aM hbox; have _ := szZ hg; have _ := szZ hg; have ⟨_, _⟩ := nbB gb90002 hg; clear BK90002 HB; rename_i BK90002 HB BK90003 GW90003 GE90003 NB90002_90003 NB90003_90002; clear hb hbox hg) | ((with_reducible refine gate_dst (N := 4) rfl ?_); refine box_event ?hg (N := 4) ?hd (cs := #[.int .i64 0, .int .i64 0, .int .i64 0, .int .i64 0, .slice none 0 0, .bool false]) (t := 54) ?hr ?_; (case hd => rfl); (case hg => rfl); (case hr => first | (go_simp; done) | (go_simp; rfl)); intro gb90004 hg w7 hbox hb; have _ := bB gb90002 hb; have _ := bB gb90003 hb; have _ := aM (below_step hbZ hb); have _ := aM hbox; have _ := szZ hg; have _ := szZ hg; have ⟨_, _⟩ := nbB gb90002 hg; have ⟨_, _⟩ := nbB gb90003 hg; clear BK90002 BK90003 HB; rename_i BK90002 BK90003 HB BK90004 GW90004 GE90004 NB90002_90004 NB90004_90002 NB90003_90004 NB90004_90003; clear hb hbox hg; have hnb8 := NB90002_90003.out; have hnc8 := NB90003_90002.out; have hnb9 := NB90002_90004.out; have hnc9 := NB90004_90002.out; obtain ⟨hcz10_0, hcz10_1, hcz10_2, hcz10_3, hcz10_4, hcz10_5, hfz10_0, hfz10_1, hfz10_2, hfz10_3, hfz10_4, hfz10_5⟩ := cellsZ6 BK90002.out; have hnb11 := NB90003_90004.out; have hnc11 := NB90004_90003.out; obtain ⟨hcz12_0, hcz12_1, hcz12_2, hcz12_3, hcz12_4, hcz12_5, hfz12_0, hfz12_1, hfz12_2, hfz12_3, hfz12_4, hfz12_5⟩ := cellsZ6 BK90003.out) | ((with_reducible refine gate_callee (f := 81) rfl ?_); refine goesL_ (some 13) rfl rfl Try.func81 (by kernel_rfl) rfl #[.agg #[.int .i64 a1_0, .int .i64 a1_1, .int .i64 a1_2, .int .i64 a1_3, .slice A1_4 l1_4.length c1_4, .bool a1_5]] rfl zee81 ?_; (with_reducible refine (spec_l4Own.calls a1_0 a1_1 a1_2 a1_3 _ _ l1_4 a1_5 t104 t105 t106 t107 t108 t111 _ ?side1 ?side2 A4.out).mono ?_); (case side1 => exact (cZ (Kd.C_below HR1_4.out HB.out))); (case side2 => exact HC1_4.out); rintro e w13 ⟨v109, rfl, ho0, hb⟩; refine ⟨_, rfl, ?_⟩; have _ := aM (Kd.R_lower ho0 (below_size hbZ)); have _ := bB gb90002 hb; have _ := bB gb90003 hb; have _ := bB gb90004 hb; have _ := aM (below_step hbZ hb); clear BK90002 BK90003 BK90004 HB; rename_i HO110 BK90002 BK90003 BK90004 HB; (try clear hb); (try clear ho0); obtain ⟨hcz14_0, hcz14_1, hcz14_2, hcz14_3, hcz14_4, hcz14_5, hfz14_0, hfz14_1, hfz14_2, hfz14_3, hfz14_4, hfz14_5⟩ := cellsZ6 BK90004.out; obtain ⟨Ao15, co15, eo15⟩ := Kd.R_slice HO110.out; subst eo15))
   refine bodyPost_ret (results_cell_row rfl _ _ gb90004 54 #[.int .i64 t104, .int .i64 t105, .int .i64 t106, .int .i64 t107, .slice Ao15 t108.length co15, .bool t111] (0, 0) _ rfl bkZ Try.underlying54 rfl (by kernel_rfl)) rfl ?_
   exact ⟨_, z674d, by (with_reducible repeat (first | apply Kd.R_alloc | apply Kd.R_drewN | apply Kd.R_drew)); exact Kd.R_mono (Kd.R_far (p := ⟨gb90004, 5, none⟩) (Kd.R_far (p := ⟨gb90004, 4, none⟩) (Kd.R_far (p := ⟨gb90004, 3, none⟩) (Kd.R_far (p := ⟨gb90004, 2, none⟩) (Kd.R_far (p := ⟨gb90004, 1, none⟩) (Kd.R_far (p := ⟨gb90004, 0, none⟩) (Kd.R_types HO110.out BK90004.out (by decide)) (fun _ hk => hk.2) (.int .i64 t104)) (fun _ hk => hk.2) (.int .i64 t105)) (fun _ hk => hk.2) (.int .i64 t106)) (fun _ hk => hk.2) (.int .i64 t107)) (fun _ hk => hk.2) (.slice Ao15 t108.length co15)) (fun _ hk => hk.2) (.bool t111)) (fun _ hk => trivial), zcb41⟩
 · rw [if_neg c3] at H
   have c3b0 : (a0_0 == 0) = false := beq_eq_false_iff_ne.mpr c3
   have c3b1 : (a0_0 != 0) = true := bne_iff_ne.mpr c3
   by_cases c16 : a1_0 = 0
   · rw [if_pos c16] at H
     have c16b0 : (a1_0 == 0) = true := beq_iff_eq.mpr c16
     have c16b1 : (a1_0 != 0) = false := bne_eq_false_iff_eq.mpr c16
     clear c16
     replace H := Option.bind_eq_some_iff.mp H
     obtain ⟨⟨t112, t113, t114, t115, t116, t119⟩, A170, H⟩ := H
     try dsimp only at H
     have A17 := aM A170
     clear A170
     simp only [Option.some.injEq, Prod.mk.injEq] at H
     obtain ⟨rfl, rfl, rfl, rfl, rfl, rfl⟩ := H
     go_enter Try.func57, Try.ntmps57
     go_wp2_with (first | ((with_reducible refine gate_dst (N := 2) rfl ?_); refine box_event ?hg (N := 2) ?hd (cs := #[.int .i64 a0_0, .int .i64 a0_1, .int .i64 a0_2, .int .i64 a0_3, .slice A0_4 l0_4.length c0_4, .bool a0_5]) (t := 54) ?hr ?_; (case hd => rfl); (case hg => rfl); (case hr => first | (go_simp; done) | (go_simp; rfl)); intro gb90002 hg w18 hbox hb; have _ := aM (below_step hbZ hb); have _ := aM hbox; have _ := szZ hg; have _ := szZ hg; clear HB; rename_i HB BK90002 GW90002 GE90002; clear hb hbox hg) | ((with_reducible refine gate_dst (N := 3) rfl ?_); refine box_event ?hg (N := 3) ?hd (cs := #[.int .i64 a1_0, .int .i64 a1_1, .int .i64 a1_2, .int .i64 a1_3, .slice A1_4 l1_4.length c1_4, .bool a1_5]) (t := 54) ?hr ?_; (case hd => rfl); (case hg => rfl); (case hr => first | (go_simp; done) | (go_simp; rfl)); intro gb90003 hg w19 hbox hb; have _ := bB gb90002 hb; have _ := aM (below_step hbZ hb); have _ := aM hbox; have _ := szZ hg; have _ := szZ hg; have ⟨_, _⟩ := nbB gb90002 hg; clear BK90002 HB; rename_i BK90002 HB BK90003 GW90003 GE90003 NB90002_90003 NB90003_90002; clear hb hbox hg) | ((with_reducible refine gate_dst (N := 4) rfl ?_); refine box_event ?hg (N := 4) ?hd (cs := #[.int .i64 0, .int .i64 0, .int .i64 0, .int .i64 0, .slice none 0 0, .bool false]) (t := 54) ?hr ?_; (case hd => rfl); (case hg => rfl); (case hr => first | (go_simp; done) | (go_simp; rfl)); intro gb90004 hg w20 hbox hb; have _ := bB gb90002 hb; have _ := bB gb90003 hb; have _ := aM (below_step hbZ hb); have _ := aM hbox; have _ := szZ hg; have _ := szZ hg; have ⟨_, _⟩ := nbB gb90002 hg; have ⟨_, _⟩ := nbB gb90003 hg; clear BK90002 BK90003 HB; rename_i BK90002 BK90003 HB BK90004 GW90004 GE90004 NB90002_90004 NB90004_90002 NB90003_90004 NB90004_90003; clear hb hbox hg; have hnb21 := NB90002_90003.out; have hnc21 := NB90003_90002.out; have hnb22 := NB90002_90004.out; have hnc22 := NB90004_90002.out; obtain ⟨hcz23_0, hcz23_1, hcz23_2, hcz23_3, hcz23_4, hcz23_5, hfz23_0, hfz23_1, hfz23_2, hfz23_3, hfz23_4, hfz23_5⟩ := cellsZ6 BK90002.out; have hnb24 := NB90003_90004.out; have hnc24 := NB90004_90003.out; obtain ⟨hcz25_0, hcz25_1, hcz25_2, hcz25_3, hcz25_4, hcz25_5, hfz25_0, hfz25_1, hfz25_2, hfz25_3, hfz25_4, hfz25_5⟩ := cellsZ6 BK90003.out) | ((with_reducible refine gate_callee (f := 81) rfl ?_); refine goesL_ (some 18) rfl rfl Try.func81 (by kernel_rfl) rfl #[.agg #[.int .i64 a0_0, .int .i64 a0_1, .int .i64 a0_2, .int .i64 a0_3, .slice A0_4 l0_4.length c0_4, .bool a0_5]] rfl zee81 ?_; (with_reducible refine (spec_l4Own.calls a0_0 a0_1 a0_2 a0_3 _ _ l0_4 a0_5 t112 t113 t114 t115 t116 t119 _ ?side1 ?side2 A17.out).mono ?_); (case side1 => exact (cZ (Kd.C_below HR0_4.out HB.out))); (case side2 => exact HC0_4.out); rintro e w26 ⟨v117, rfl, ho0, hb⟩; refine ⟨_, rfl, ?_⟩; have _ := aM (Kd.R_lower ho0 (below_size hbZ)); have _ := bB gb90002 hb; have _ := bB gb90003 hb; have _ := bB gb90004 hb; have _ := aM (below_step hbZ hb); clear BK90002 BK90003 BK90004 HB; rename_i HO118 BK90002 BK90003 BK90004 HB; (try clear hb); (try clear ho0); obtain ⟨hcz27_0, hcz27_1, hcz27_2, hcz27_3, hcz27_4, hcz27_5, hfz27_0, hfz27_1, hfz27_2, hfz27_3, hfz27_4, hfz27_5⟩ := cellsZ6 BK90004.out; obtain ⟨Ao28, co28, eo28⟩ := Kd.R_slice HO118.out; subst eo28))
     refine bodyPost_ret (results_cell_row rfl _ _ gb90004 54 #[.int .i64 t112, .int .i64 t113, .int .i64 t114, .int .i64 t115, .slice Ao28 t116.length co28, .bool t119] (0, 0) _ rfl bkZ Try.underlying54 rfl (by kernel_rfl)) rfl ?_
     exact ⟨_, z674d, by (with_reducible repeat (first | apply Kd.R_alloc | apply Kd.R_drewN | apply Kd.R_drew)); exact Kd.R_mono (Kd.R_far (p := ⟨gb90004, 5, none⟩) (Kd.R_far (p := ⟨gb90004, 4, none⟩) (Kd.R_far (p := ⟨gb90004, 3, none⟩) (Kd.R_far (p := ⟨gb90004, 2, none⟩) (Kd.R_far (p := ⟨gb90004, 1, none⟩) (Kd.R_far (p := ⟨gb90004, 0, none⟩) (Kd.R_types HO118.out BK90004.out (by decide)) (fun _ hk => hk.2) (.int .i64 t112)) (fun _ hk => hk.2) (.int .i64 t113)) (fun _ hk => hk.2) (.int .i64 t114)) (fun _ hk => hk.2) (.int .i64 t115)) (fun _ hk => hk.2) (.slice Ao28 t116.length co28)) (fun _ hk => hk.2) (.bool t119)) (fun _ hk => trivial), zcb41⟩
   · rw [if_neg c16] at H
     have c16b0 : (a1_0 == 0) = false := beq_eq_false_iff_ne.mpr c16
     have c16b1 : (a1_0 != 0) = true := bne_iff_ne.mpr c16
     by_cases c29 : a0_5 = true
     · subst c29
       have H1 : (if (wrap64 (a0_0 + a1_0)) > 1000000000 then (spec_l4Join.j0 k a0_0 a0_1 a0_2 a0_3 l0_4 true a1_0 a1_1 a1_2 a1_3 l1_4 a1_5 1000000000 (wrap64 (a0_1 + a1_1)) a0_2 a0_3 true) else (spec_l4Join.j0 k a0_0 a0_1 a0_2 a0_3 l0_4 true a1_0 a1_1 a1_2 a1_3 l1_4 a1_5 (wrap64 (a0_0 + a1_0)) (wrap64 (a0_1 + a1_1)) a0_2 a0_3 true)) = some (r1, r2, r3, r4, r5, r6) := by rw [if_pos rfl] at H; exact H
       clear H
       have H := H1
       clear H1
       have HC30 := aM H
       clear H
       go_enter Try.func57, Try.ntmps57
       go_upto_if 42 with (first | ((with_reducible refine gate_dst (N := 2) rfl ?_); refine box_event ?hg (N := 2) ?hd (cs := #[.int .i64 a0_0, .int .i64 a0_1, .int .i64 a0_2, .int .i64 a0_3, .slice A0_4 l0_4.length c0_4, .bool true]) (t := 54) ?hr ?_; (case hd => rfl); (case hg => rfl); (case hr => first | (go_simp; done) | (go_simp; rfl)); intro gb90002 hg w31 hbox hb; have _ := aM (below_step hbZ hb); have _ := aM hbox; have _ := szZ hg; have _ := szZ hg; clear HB; rename_i HB BK90002 GW90002 GE90002; clear hb hbox hg) | ((with_reducible refine gate_dst (N := 3) rfl ?_); refine box_event ?hg (N := 3) ?hd (cs := #[.int .i64 a1_0, .int .i64 a1_1, .int .i64 a1_2, .int .i64 a1_3, .slice A1_4 l1_4.length c1_4, .bool a1_5]) (t := 54) ?hr ?_; (case hd => rfl); (case hg => rfl); (case hr => first | (go_simp; done) | (go_simp; rfl)); intro gb90003 hg w32 hbox hb; have _ := bB gb90002 hb; have _ := aM (below_step hbZ hb); have _ := aM hbox; have _ := szZ hg; have _ := szZ hg; have ⟨_, _⟩ := nbB gb90002 hg; clear BK90002 HB; rename_i BK90002 HB BK90003 GW90003 GE90003 NB90002_90003 NB90003_90002; clear hb hbox hg) | ((with_reducible refine gate_dst (N := 4) rfl ?_); refine box_event ?hg (N := 4) ?hd (cs := #[.int .i64 0, .int .i64 0, .int .i64 0, .int .i64 0, .slice none 0 0, .bool false]) (t := 54) ?hr ?_; (case hd => rfl); (case hg => rfl); (case hr => first | (go_simp; done) | (go_simp; rfl)); intro gb90004 hg w33 hbox hb; have _ := bB gb90002 hb; have _ := bB gb90003 hb; have _ := aM (below_step hbZ hb); have _ := aM hbox; have _ := szZ hg; have _ := szZ hg; have ⟨_, _⟩ := nbB gb90002 hg; have ⟨_, _⟩ := nbB gb90003 hg; clear BK90002 BK90003 HB; rename_i BK90002 BK90003 HB BK90004 GW90004 GE90004 NB90002_90004 NB90004_90002 NB90003_90004 NB90004_90003; clear hb hbox hg; have hnb34 := NB90002_90003.out; have hnc34 := NB90003_90002.out; have hnb35 := NB90002_90004.out; have hnc35 := NB90004_90002.out; obtain ⟨hcz36_0, hcz36_1, hcz36_2, hcz36_3, hcz36_4, hcz36_5, hfz36_0, hfz36_1, hfz36_2, hfz36_3, hfz36_4, hfz36_5⟩ := cellsZ6 BK90002.out; have hnb37 := NB90003_90004.out; have hnc37 := NB90004_90003.out; obtain ⟨hcz38_0, hcz38_1, hcz38_2, hcz38_3, hcz38_4, hcz38_5, hfz38_0, hfz38_1, hfz38_2, hfz38_3, hfz38_4, hfz38_5⟩ := cellsZ6 BK90003.out) | ((with_reducible refine gate_dst (N := 5) rfl ?_); refine box_event ?hg (N := 5) ?hd (cs := #[.int .i64 0, .int .i64 0, .int .i64 0, .int .i64 0, .slice none 0 0, .bool false]) (t := 54) ?hr ?_; (case hd => rfl); (case hg => rfl); (case hr => first | (go_simp; done) | (go_simp; rfl)); intro gb90005 hg w39 hbox hb; have _ := bB gb90002 hb; have _ := bB gb90003 hb; have _ := bB gb90004 hb; have _ := aM (below_step hbZ hb); have _ := aM hbox; have _ := szZ hg; have _ := szZ hg; have ⟨_, _⟩ := nbB gb90002 hg; have ⟨_, _⟩ := nbB gb90003 hg; have ⟨_, _⟩ := nbB gb90004 hg; clear BK90002 BK90003 BK90004 HB; rename_i BK90002 BK90003 BK90004 HB BK90005 GW90005 GE90005 NB90002_90005 NB90005_90002 NB90003_90005 NB90005_90003 NB90004_90005 NB90005_90004; clear hb hbox hg; have hnb40 := NB90005_90002.out; have hnc40 := NB90002_90005.out; have hnb41 := NB90005_90003.out; have hnc41 := NB90003_90005.out; have hnb42 := NB90005_90004.out; have hnc42 := NB90004_90005.out; obtain ⟨hcz43_0, hcz43_1, hcz43_2, hcz43_3, hcz43_4, hcz43_5, hfz43_0, hfz43_1, hfz43_2, hfz43_3, hfz43_4, hfz43_5⟩ := cellsZ6 BK90005.out))
       (try simp only [Act.put, List.setIfInBounds_toArray, List.set_cons_zero, List.set_cons_succ])
       go_cut [] (fun wc => ∃ (kq : Nat) (x90006000_29 : Int) (x90006005_29 : Bool), Aside0 (spec_l4Join.j0 kq a0_0 a0_1 a0_2 a0_3 l0_4 true a1_0 a1_1 a1_2 a1_3 l1_4 a1_5 x90006000_29 (wrap64 (a0_1 + a1_1)) a0_2 a0_3 x90006005_29 = some (r1, r2, r3, r4, r5, r6)) ∧ Aside0 (kq ≤ k) ∧ Aside0 (wc.heap[gb90002]? = some (.cells #[.int .i64 a0_0, .int .i64 a0_1, .int .i64 a0_2, .int .i64 a0_3, (.slice A0_4 l0_4.length c0_4), .bool true] 54 (0, 0))) ∧ Aside0 (wc.heap[gb90003]? = some (.cells #[.int .i64 a1_0, .int .i64 a1_1, .int .i64 a1_2, .int .i64 a1_3, (.slice A1_4 l1_4.length c1_4), .bool a1_5] 54 (0, 0))) ∧ Aside0 (wc.heap[gb90004]? = some (.cells #[.int .i64 0, .int .i64 0, .int .i64 0, .int .i64 0, (.slice none 0 0), .bool false] 54 (0, 0))) ∧ Aside0 (wc.heap[gb90005]? = some (.cells #[.int .i64 x90006000_29, .int .i64 (wrap64 (a0_1 + a1_1)), .int .i64 a0_2, .int .i64 a0_3, (.slice none 0 0), .bool x90006005_29] 54 (0, 0))) ∧ Aside0 (Below w.heap.size w wc))
       case first =>
        have H := HC30.out
        clear HC30
        by_cases c44 : (wrap64 (a0_0 + a1_0)) > 1000000000
        · rw [if_pos c44] at H
          have c44b0 : decide (1000000000 < (wrap64 (a0_0 + a1_0))) = true := decide_eq_true c44
          clear c44
          (first | rw [c44b0] | (simp only [i64_w, i32_w]; rw [c44b0]) | skip)
          have H' := aM H
          clear H
          have hnb45 := NB90005_90002.out
          have hnc45 := NB90002_90005.out
          have hnb46 := NB90005_90003.out
          have hnc46 := NB90003_90005.out
          have hnb47 := NB90005_90004.out
          have hnc47 := NB90004_90005.out
          obtain ⟨hcz48_0, hcz48_1, hcz48_2, hcz48_3, hcz48_4, hcz48_5, hfz48_0, hfz48_1, hfz48_2, hfz48_3, hfz48_4, hfz48_5⟩ := cellsZ6 BK90005.out
          go_wp2
          go_meet
          case rel => exact ⟨_, (1000000000), (true), H', ⟨zb79b⟩, ⟨bkZ⟩, ⟨bkZ⟩, ⟨bkZ⟩, ⟨bkZ⟩, ⟨zcb41⟩⟩
        · rw [if_neg c44] at H
          have c44b0 : decide (1000000000 < (wrap64 (a0_0 + a1_0))) = false := decide_eq_false c44
          clear c44
          (first | rw [c44b0] | (simp only [i64_w, i32_w]; rw [c44b0]) | skip)
          have H' := aM H
          clear H
          go_wp2
          go_meet
          case rel => exact ⟨_, (wrap64 (a0_0 + a1_0)), (true), H', ⟨zb79b⟩, ⟨bkZ⟩, ⟨bkZ⟩, ⟨bkZ⟩, ⟨bkZ⟩, ⟨zcb41⟩⟩
       case rest =>
        clear HC30
        try clear c1
        try clear c2
        try clear p2
        try clear c3
        try clear c3b0
        try clear c3b1
        try clear c4
        try clear c5
        try clear p6
        try clear c8
        try clear c9
        try clear c11
        try clear c16
        try clear c16b0
        try clear c16b1
        try clear c21
        try clear c22
        try clear c24
        try clear c29
        try clear c34
        try clear c35
        try clear c37
        try clear c40
        try clear c41
        try clear c42
        try clear c44
        try clear c44b0
        try clear c45
        try clear c46
        try clear c47
        try clear hcz10_0 hcz10_1 hcz10_2 hcz10_3 hcz10_4 hcz10_5
        try clear hcz12_0 hcz12_1 hcz12_2 hcz12_3 hcz12_4 hcz12_5
        try clear hcz14_0 hcz14_1 hcz14_2 hcz14_3 hcz14_4 hcz14_5
        try clear hcz23_0 hcz23_1 hcz23_2 hcz23_3 hcz23_4 hcz23_5
        try clear hcz25_0 hcz25_1 hcz25_2 hcz25_3 hcz25_4 hcz25_5
        try clear hcz27_0 hcz27_1 hcz27_2 hcz27_3 hcz27_4 hcz27_5
        try clear hcz36_0 hcz36_1 hcz36_2 hcz36_3 hcz36_4 hcz36_5
        try clear hcz38_0 hcz38_1 hcz38_2 hcz38_3 hcz38_4 hcz38_5
        try clear hcz43_0 hcz43_1 hcz43_2 hcz43_3 hcz43_4 hcz43_5
        try clear hcz48_0 hcz48_1 hcz48_2 hcz48_3 hcz48_4 hcz48_5
        try clear hfz10_0 hfz10_1 hfz10_2 hfz10_3 hfz10_4 hfz10_5
        try clear hfz12_0 hfz12_1 hfz12_2 hfz12_3 hfz12_4 hfz12_5
        try clear hfz14_0 hfz14_1 hfz14_2 hfz14_3 hfz14_4 hfz14_5
        try clear hfz23_0 hfz23_1 hfz23_2 hfz23_3 hfz23_4 hfz23_5
        try clear hfz25_0 hfz25_1 hfz25_2 hfz25_3 hfz25_4 hfz25_5
        try clear hfz27_0 hfz27_1 hfz27_2 hfz27_3 hfz27_4 hfz27_5
        try clear hfz36_0 hfz36_1 hfz36_2 hfz36_3 hfz36_4 hfz36_5
        try clear hfz38_0 hfz38_1 hfz38_2 hfz38_3 hfz38_4 hfz38_5
        try clear hfz43_0 hfz43_1 hfz43_2 hfz43_3 hfz43_4 hfz43_5
        try clear hfz48_0 hfz48_1 hfz48_2 hfz48_3 hfz48_4 hfz48_5
        obtain ⟨kq, x90006000_29, x90006005_29, HA, HJ29, BK90002, BK90003, BK90004, BK90005, HB⟩ := hcut
        cases kq with
        | zero => exact absurd HA.out (by simp [spec_l4Join.j0])
        | succ kj29 =>
         have H := HA.out
         clear HA
         simp only [spec_l4Join.j0] at H
         have HC49 := aM H
         clear H
         have hnb50 := NB90003_90002.out
         have hnc50 := NB90002_90003.out
         have hnb51 := NB90003_90004.out
         have hnc51 := NB90004_90003.out
         have hnb52 := NB90003_90005.out
         have hnc52 := NB90005_90003.out
         obtain ⟨hcz53_0, hcz53_1, hcz53_2, hcz53_3, hcz53_4, hcz53_5, hfz53_0, hfz53_1, hfz53_2, hfz53_3, hfz53_4, hfz53_5⟩ := cellsZ6 BK90003.out
         have hnb54 := NB90005_90002.out
         have hnc54 := NB90002_90005.out
         have hnb55 := NB90005_90004.out
         have hnc55 := NB90004_90005.out
         obtain ⟨hcz56_0, hcz56_1, hcz56_2, hcz56_3, hcz56_4, hcz56_5, hfz56_0, hfz56_1, hfz56_2, hfz56_3, hfz56_4, hfz56_5⟩ := cellsZ6 BK90005.out
         go_upto_if 49 with (fail)
         go_cut [] (fun wc => ∃ (kq : Nat) (x90006002_48 : Int), Aside0 (spec_l4Join.j1 kq a0_0 a0_1 a0_2 a0_3 l0_4 true a1_0 a1_1 a1_2 a1_3 l1_4 a1_5 x90006000_29 (wrap64 (a0_1 + a1_1)) x90006002_48 a0_3 x90006005_29 = some (r1, r2, r3, r4, r5, r6)) ∧ Aside0 (kq ≤ kj29) ∧ Aside0 (wc.heap[gb90002]? = some (.cells #[.int .i64 a0_0, .int .i64 a0_1, .int .i64 a0_2, .int .i64 a0_3, (.slice A0_4 l0_4.length c0_4), .bool true] 54 (0, 0))) ∧ Aside0 (wc.heap[gb90003]? = some (.cells #[.int .i64 a1_0, .int .i64 a1_1, .int .i64 a1_2, .int .i64 a1_3, (.slice A1_4 l1_4.length c1_4), .bool a1_5] 54 (0, 0))) ∧ Aside0 (wc.heap[gb90004]? = some (.cells #[.int .i64 0, .int .i64 0, .int .i64 0, .int .i64 0, (.slice none 0 0), .bool false] 54 (0, 0))) ∧ Aside0 (wc.heap[gb90005]? = some (.cells #[.int .i64 x90006000_29, .int .i64 (wrap64 (a0_1 + a1_1)), .int .i64 x90006002_48, .int .i64 a0_3, (.slice none 0 0), .bool x90006005_29] 54 (0, 0))) ∧ Aside0 (Below w.heap.size w wc))
         case first =>
          have H := HC49.out
          clear HC49
          by_cases c57 : a1_2 < a0_2
          · rw [if_pos c57] at H
            have c57b0 : decide (a1_2 < a0_2) = true := decide_eq_true c57
            clear c57
            (first | rw [c57b0] | (simp only [i64_w, i32_w]; rw [c57b0]) | skip)
            have H' := aM H
            clear H
            have hnb58 := NB90003_90002.out
            have hnc58 := NB90002_90003.out
            have hnb59 := NB90003_90004.out
            have hnc59 := NB90004_90003.out
            have hnb60 := NB90003_90005.out
            have hnc60 := NB90005_90003.out
            obtain ⟨hcz61_0, hcz61_1, hcz61_2, hcz61_3, hcz61_4, hcz61_5, hfz61_0, hfz61_1, hfz61_2, hfz61_3, hfz61_4, hfz61_5⟩ := cellsZ6 BK90003.out
            have hnb62 := NB90005_90002.out
            have hnc62 := NB90002_90005.out
            have hnb63 := NB90005_90004.out
            have hnc63 := NB90004_90005.out
            obtain ⟨hcz64_0, hcz64_1, hcz64_2, hcz64_3, hcz64_4, hcz64_5, hfz64_0, hfz64_1, hfz64_2, hfz64_3, hfz64_4, hfz64_5⟩ := cellsZ6 BK90005.out
            go_wp2
            go_meet
            case rel => exact ⟨_, (a1_2), H', ⟨by have := HJ29.out; first | omega | exact Nat.le_refl _⟩, ⟨bkZ⟩, ⟨bkZ⟩, ⟨bkZ⟩, ⟨bkZ⟩, ⟨zcb41⟩⟩
          · rw [if_neg c57] at H
            have c57b0 : decide (a1_2 < a0_2) = false := decide_eq_false c57
            clear c57
            (first | rw [c57b0] | (simp only [i64_w, i32_w]; rw [c57b0]) | skip)
            have H' := aM H
            clear H
            go_wp2
            go_meet
            case rel => exact ⟨_, (a0_2), H', ⟨by have := HJ29.out; first | omega | exact Nat.le_refl _⟩, ⟨bkZ⟩, ⟨bkZ⟩, ⟨bkZ⟩, ⟨bkZ⟩, ⟨zcb41⟩⟩
         case rest =>
          clear HC49
          try clear c1
          try clear c2
          try clear p2
          try clear c3
          try clear c3b0
          try clear c3b1
          try clear c4
          try clear c5
          try clear c6
          try clear p6
          try clear c8
          try clear c9
          try clear c11
          try clear c16
          try clear c16b0
          try clear c16b1
          try clear c21
          try clear c22
          try clear c24
          try clear c29
          try clear c34
          try clear c35
          try clear c37
          try clear c40
          try clear c41
          try clear c42
          try clear c44
          try clear c44b0
          try clear c45
          try clear c46
          try clear c47
          try clear c50
          try clear c51
          try clear c52
          try clear c54
          try clear c55
          try clear c57
          try clear c57b0
          try clear c58
          try clear c59
          try clear c60
          try clear c62
          try clear c63
          try clear p64
          try clear hcz10_0 hcz10_1 hcz10_2 hcz10_3 hcz10_4 hcz10_5
          try clear hcz12_0 hcz12_1 hcz12_2 hcz12_3 hcz12_4 hcz12_5
          try clear hcz14_0 hcz14_1 hcz14_2 hcz14_3 hcz14_4 hcz14_5
          try clear hcz23_0 hcz23_1 hcz23_2 hcz23_3 hcz23_4 hcz23_5
          try clear hcz25_0 hcz25_1 hcz25_2 hcz25_3 hcz25_4 hcz25_5
          try clear hcz27_0 hcz27_1 hcz27_2 hcz27_3 hcz27_4 hcz27_5
          try clear hcz36_0 hcz36_1 hcz36_2 hcz36_3 hcz36_4 hcz36_5
          try clear hcz38_0 hcz38_1 hcz38_2 hcz38_3 hcz38_4 hcz38_5
          try clear hcz43_0 hcz43_1 hcz43_2 hcz43_3 hcz43_4 hcz43_5
          try clear hcz48_0 hcz48_1 hcz48_2 hcz48_3 hcz48_4 hcz48_5
          try clear hcz53_0 hcz53_1 hcz53_2 hcz53_3 hcz53_4 hcz53_5
          try clear hcz56_0 hcz56_1 hcz56_2 hcz56_3 hcz56_4 hcz56_5
          try clear hcz61_0 hcz61_1 hcz61_2 hcz61_3 hcz61_4 hcz61_5
          try clear hcz64_0 hcz64_1 hcz64_2 hcz64_3 hcz64_4 hcz64_5
          try clear hfz10_0 hfz10_1 hfz10_2 hfz10_3 hfz10_4 hfz10_5
          try clear hfz12_0 hfz12_1 hfz12_2 hfz12_3 hfz12_4 hfz12_5
          try clear hfz14_0 hfz14_1 hfz14_2 hfz14_3 hfz14_4 hfz14_5
          try clear hfz23_0 hfz23_1 hfz23_2 hfz23_3 hfz23_4 hfz23_5
          try clear hfz25_0 hfz25_1 hfz25_2 hfz25_3 hfz25_4 hfz25_5
          try clear hfz27_0 hfz27_1 hfz27_2 hfz27_3 hfz27_4 hfz27_5
          try clear hfz36_0 hfz36_1 hfz36_2 hfz36_3 hfz36_4 hfz36_5
          try clear hfz38_0 hfz38_1 hfz38_2 hfz38_3 hfz38_4 hfz38_5
          try clear hfz43_0 hfz43_1 hfz43_2 hfz43_3 hfz43_4 hfz43_5
          try clear hfz48_0 hfz48_1 hfz48_2 hfz48_3 hfz48_4 hfz48_5
          try clear hfz53_0 hfz53_1 hfz53_2 hfz53_3 hfz53_4 hfz53_5
          try clear hfz56_0 hfz56_1 hfz56_2 hfz56_3 hfz56_4 hfz56_5
          try clear hfz61_0 hfz61_1 hfz61_2 hfz61_3 hfz61_4 hfz61_5
          try clear hfz64_0 hfz64_1 hfz64_2 hfz64_3 hfz64_4 hfz64_5
          try clear p2
          try clear p6
          obtain ⟨kq, x90006002_48, HA, HJ48, BK90002, BK90003, BK90004, BK90005, HB⟩ := hcut
          cases kq with
          | zero => exact absurd HA.out (by simp [spec_l4Join.j1])
          | succ kj48 =>
           have H := HA.out
           clear HA
           simp only [spec_l4Join.j1] at H
           have HC65 := aM H
           clear H
           have hnb66 := NB90003_90002.out
           have hnc66 := NB90002_90003.out
           have hnb67 := NB90003_90004.out
           have hnc67 := NB90004_90003.out
           have hnb68 := NB90003_90005.out
           have hnc68 := NB90005_90003.out
           obtain ⟨hcz69_0, hcz69_1, hcz69_2, hcz69_3, hcz69_4, hcz69_5, hfz69_0, hfz69_1, hfz69_2, hfz69_3, hfz69_4, hfz69_5⟩ := cellsZ6 BK90003.out
           have hnb70 := NB90005_90002.out
           have hnc70 := NB90002_90005.out
           have hnb71 := NB90005_90004.out
           have hnc71 := NB90004_90005.out
           obtain ⟨hcz72_0, hcz72_1, hcz72_2, hcz72_3, hcz72_4, hcz72_5, hfz72_0, hfz72_1, hfz72_2, hfz72_3, hfz72_4, hfz72_5⟩ := cellsZ6 BK90005.out
           go_upto_if 57 with (fail)
           go_cut [] (fun wc => ∃ (kq : Nat) (x90006003_64 : Int), Aside0 (spec_l4Join.j2 kq a0_0 a0_1 a0_2 a0_3 l0_4 true a1_0 a1_1 a1_2 a1_3 l1_4 a1_5 x90006000_29 (wrap64 (a0_1 + a1_1)) x90006002_48 x90006003_64 x90006005_29 = some (r1, r2, r3, r4, r5, r6)) ∧ Aside0 (kq ≤ kj48) ∧ Aside0 (wc.heap[gb90002]? = some (.cells #[.int .i64 a0_0, .int .i64 a0_1, .int .i64 a0_2, .int .i64 a0_3, (.slice A0_4 l0_4.length c0_4), .bool true] 54 (0, 0))) ∧ Aside0 (wc.heap[gb90003]? = some (.cells #[.int .i64 a1_0, .int .i64 a1_1, .int .i64 a1_2, .int .i64 a1_3, (.slice A1_4 l1_4.length c1_4), .bool a1_5] 54 (0, 0))) ∧ Aside0 (wc.heap[gb90004]? = some (.cells #[.int .i64 0, .int .i64 0, .int .i64 0, .int .i64 0, (.slice none 0 0), .bool false] 54 (0, 0))) ∧ Aside0 (wc.heap[gb90005]? = some (.cells #[.int .i64 x90006000_29, .int .i64 (wrap64 (a0_1 + a1_1)), .int .i64 x90006002_48, .int .i64 x90006003_64, (.slice none 0 0), .bool x90006005_29] 54 (0, 0))) ∧ Aside0 (Below w.heap.size w wc))
           case first =>
            have H := HC65.out
            clear HC65
            by_cases c73 : a1_3 > a0_3
            · rw [if_pos c73] at H
              have c73b0 : decide (a0_3 < a1_3) = true := decide_eq_true c73
              clear c73
              (first | rw [c73b0] | (simp only [i64_w, i32_w]; rw [c73b0]) | skip)
              have H' := aM H
              clear H
              have hnb74 := NB90003_90002.out
              have hnc74 := NB90002_90003.out
              have hnb75 := NB90003_90004.out
              have hnc75 := NB90004_90003.out
              have hnb76 := NB90003_90005.out
              have hnc76 := NB90005_90003.out
              obtain ⟨hcz77_0, hcz77_1, hcz77_2, hcz77_3, hcz77_4, hcz77_5, hfz77_0, hfz77_1, hfz77_2, hfz77_3, hfz77_4, hfz77_5⟩ := cellsZ6 BK90003.out
              have hnb78 := NB90005_90002.out
              have hnc78 := NB90002_90005.out
              have hnb79 := NB90005_90004.out
              have hnc79 := NB90004_90005.out
              obtain ⟨hcz80_0, hcz80_1, hcz80_2, hcz80_3, hcz80_4, hcz80_5, hfz80_0, hfz80_1, hfz80_2, hfz80_3, hfz80_4, hfz80_5⟩ := cellsZ6 BK90005.out
              go_wp2
              go_meet
              case rel => exact ⟨_, (a1_3), H', ⟨by have := HJ29.out; have := HJ48.out; first | omega | exact Nat.le_refl _⟩, ⟨bkZ⟩, ⟨bkZ⟩, ⟨bkZ⟩, ⟨bkZ⟩, ⟨zcb41⟩⟩
            · rw [if_neg c73] at H
              have c73b0 : decide (a0_3 < a1_3) = false := decide_eq_false c73
              clear c73
              (first | rw [c73b0] | (simp only [i64_w, i32_w]; rw [c73b0]) | skip)
              have H' := aM H
              clear H
              go_wp2
              go_meet
              case rel => exact ⟨_, (a0_3), H', ⟨by have := HJ29.out; have := HJ48.out; first | omega | exact Nat.le_refl _⟩, ⟨bkZ⟩, ⟨bkZ⟩, ⟨bkZ⟩, ⟨bkZ⟩, ⟨zcb41⟩⟩
           case rest =>
            clear HC65
            try clear c1
            try clear c2
            try clear p2
            try clear c3
            try clear c3b0
            try clear c3b1
            try clear c4
            try clear c5
            try clear c6
            try clear p6
            try clear c7
            try clear c8
            try clear c9
            try clear c11
            try clear c16
            try clear c16b0
            try clear c16b1
            try clear c21
            try clear c22
            try clear c24
            try clear c29
            try clear c34
            try clear c35
            try clear c37
            try clear c40
            try clear c41
            try clear c42
            try clear c44
            try clear c44b0
            try clear c45
            try clear c46
            try clear c47
            try clear c50
            try clear c51
            try clear c52
            try clear c54
            try clear c55
            try clear c57
            try clear c57b0
            try clear c58
            try clear c59
            try clear c60
            try clear c62
            try clear c63
            try clear p64
            try clear c66
            try clear c67
            try clear c68
            try clear c70
            try clear c71
            try clear c73
            try clear c73b0
            try clear c74
            try clear c75
            try clear c76
            try clear c78
            try clear c79
            try clear hcz10_0 hcz10_1 hcz10_2 hcz10_3 hcz10_4 hcz10_5
            try clear hcz12_0 hcz12_1 hcz12_2 hcz12_3 hcz12_4 hcz12_5
            try clear hcz14_0 hcz14_1 hcz14_2 hcz14_3 hcz14_4 hcz14_5
            try clear hcz23_0 hcz23_1 hcz23_2 hcz23_3 hcz23_4 hcz23_5
            try clear hcz25_0 hcz25_1 hcz25_2 hcz25_3 hcz25_4 hcz25_5
            try clear hcz27_0 hcz27_1 hcz27_2 hcz27_3 hcz27_4 hcz27_5
            try clear hcz36_0 hcz36_1 hcz36_2 hcz36_3 hcz36_4 hcz36_5
            try clear hcz38_0 hcz38_1 hcz38_2 hcz38_3 hcz38_4 hcz38_5
            try clear hcz43_0 hcz43_1 hcz43_2 hcz43_3 hcz43_4 hcz43_5
            try clear hcz48_0 hcz48_1 hcz48_2 hcz48_3 hcz48_4 hcz48_5
            try clear hcz53_0 hcz53_1 hcz53_2 hcz53_3 hcz53_4 hcz53_5
            try clear hcz56_0 hcz56_1 hcz56_2 hcz56_3 hcz56_4 hcz56_5
            try clear hcz61_0 hcz61_1 hcz61_2 hcz61_3 hcz61_4 hcz61_5
            try clear hcz64_0 hcz64_1 hcz64_2 hcz64_3 hcz64_4 hcz64_5
            try clear hcz69_0 hcz69_1 hcz69_2 hcz69_3 hcz69_4 hcz69_5
            try clear hcz72_0 hcz72_1 hcz72_2 hcz72_3 hcz72_4 hcz72_5
            try clear hcz77_0 hcz77_1 hcz77_2 hcz77_3 hcz77_4 hcz77_5
            try clear hcz80_0 hcz80_1 hcz80_2 hcz80_3 hcz80_4 hcz80_5
            try clear hfz10_0 hfz10_1 hfz10_2 hfz10_3 hfz10_4 hfz10_5
            try clear hfz12_0 hfz12_1 hfz12_2 hfz12_3 hfz12_4 hfz12_5
            try clear hfz14_0 hfz14_1 hfz14_2 hfz14_3 hfz14_4 hfz14_5
            try clear hfz23_0 hfz23_1 hfz23_2 hfz23_3 hfz23_4 hfz23_5
            try clear hfz25_0 hfz25_1 hfz25_2 hfz25_3 hfz25_4 hfz25_5
            try clear hfz27_0 hfz27_1 hfz27_2 hfz27_3 hfz27_4 hfz27_5
            try clear hfz36_0 hfz36_1 hfz36_2 hfz36_3 hfz36_4 hfz36_5
            try clear hfz38_0 hfz38_1 hfz38_2 hfz38_3 hfz38_4 hfz38_5
            try clear hfz43_0 hfz43_1 hfz43_2 hfz43_3 hfz43_4 hfz43_5
            try clear hfz48_0 hfz48_1 hfz48_2 hfz48_3 hfz48_4 hfz48_5
            try clear hfz53_0 hfz53_1 hfz53_2 hfz53_3 hfz53_4 hfz53_5
            try clear hfz56_0 hfz56_1 hfz56_2 hfz56_3 hfz56_4 hfz56_5
            try clear hfz61_0 hfz61_1 hfz61_2 hfz61_3 hfz61_4 hfz61_5
            try clear hfz64_0 hfz64_1 hfz64_2 hfz64_3 hfz64_4 hfz64_5
            try clear hfz69_0 hfz69_1 hfz69_2 hfz69_3 hfz69_4 hfz69_5
            try clear hfz72_0 hfz72_1 hfz72_2 hfz72_3 hfz72_4 hfz72_5
            try clear hfz77_0 hfz77_1 hfz77_2 hfz77_3 hfz77_4 hfz77_5
            try clear hfz80_0 hfz80_1 hfz80_2 hfz80_3 hfz80_4 hfz80_5
            try clear p2
            try clear p6
            try clear p64
            obtain ⟨kq, x90006003_64, HA, HJ64, BK90002, BK90003, BK90004, BK90005, HB⟩ := hcut
            cases kq with
            | zero => exact absurd HA.out (by simp [spec_l4Join.j2])
            | succ kj64 =>
             have H := HA.out
             clear HA
             simp only [spec_l4Join.j2] at H
             have H' := aM H
             clear H
             have hnb81 := NB90002_90003.out
             have hnc81 := NB90003_90002.out
             have hnb82 := NB90002_90004.out
             have hnc82 := NB90004_90002.out
             have hnb83 := NB90002_90005.out
             have hnc83 := NB90005_90002.out
             obtain ⟨hcz84_0, hcz84_1, hcz84_2, hcz84_3, hcz84_4, hcz84_5, hfz84_0, hfz84_1, hfz84_2, hfz84_3, hfz84_4, hfz84_5⟩ := cellsZ6 BK90002.out
             go_wp2
             go_loopg [64] kj64 (fun kq v64 w' => ∃ (x64_4 : Int) (x90006004_4 : List Int) (x90006005_4 : Bool) (u90006004 : Value), v64 = .int .i64 x64_4 ∧ Aside0 (spec_l4Join.l0 kq l0_4 (l0_4.length : Int) x64_4 a1_0 a1_1 a1_2 a1_3 l1_4 a1_5 x90006000_29 (wrap64 (a0_1 + a1_1)) x90006002_48 x90006003_64 x90006004_4 x90006005_4 = some (r1, r2, r3, r4, r5, r6)) ∧ Aside0 (kq ≤ kj64) ∧ Aside0 (Kd.R (Kd.int .i64) 3 w' w.heap.size (fun _ => True) u90006004 x90006004_4) ∧ Aside0 (w'.heap[gb90002]? = some (.cells #[.int .i64 a0_0, .int .i64 a0_1, .int .i64 a0_2, .int .i64 a0_3, (.slice A0_4 l0_4.length c0_4), .bool true] 54 (0, 0))) ∧ Aside0 (w'.heap[gb90003]? = some (.cells #[.int .i64 a1_0, .int .i64 a1_1, .int .i64 a1_2, .int .i64 a1_3, (.slice A1_4 l1_4.length c1_4), .bool a1_5] 54 (0, 0))) ∧ Aside0 (w'.heap[gb90004]? = some (.cells #[.int .i64 0, .int .i64 0, .int .i64 0, .int .i64 0, (.slice none 0 0), .bool false] 54 (0, 0))) ∧ Aside0 (w'.heap[gb90005]? = some (.cells #[.int .i64 x90006000_29, .int .i64 (wrap64 (a0_1 + a1_1)), .int .i64 x90006002_48, .int .i64 x90006003_64, u90006004, .bool x90006005_4] 54 (0, 0))) ∧ Aside0 (Below w.heap.size w w'))
             case atStart => exact ⟨(0), (([] : List Int)), (x90006005_29), (.slice none 0 0), z4458, H', ⟨Nat.le_refl _⟩, ⟨z02fa⟩, ⟨bkZ⟩, ⟨bkZ⟩, ⟨bkZ⟩, ⟨bkZ⟩, ⟨zcb41⟩⟩
             case round =>
              clear H'
              try clear c1
              try clear c2
              try clear p2
              try clear c3
              try clear c3b0
              try clear c3b1
              try clear c4
              try clear c5
              try clear c6
              try clear p6
              try clear c7
              try clear c8
              try clear c9
              try clear c11
              try clear c16
              try clear c16b0
              try clear c16b1
              try clear c21
              try clear c22
              try clear c24
              try clear c29
              try clear c34
              try clear c35
              try clear c37
              try clear c40
              try clear c41
              try clear c42
              try clear c44
              try clear c44b0
              try clear c45
              try clear c46
              try clear c47
              try clear c50
              try clear c51
              try clear c52
              try clear c54
              try clear c55
              try clear c57
              try clear c57b0
              try clear c58
              try clear c59
              try clear c60
              try clear c62
              try clear c63
              try clear p64
              try clear c66
              try clear c67
              try clear c68
              try clear c70
              try clear c71
              try clear c73
              try clear c73b0
              try clear c74
              try clear c75
              try clear c76
              try clear c78
              try clear c79
              try clear c81
              try clear c82
              try clear c83
              try clear hcz10_0 hcz10_1 hcz10_2 hcz10_3 hcz10_4 hcz10_5
              try clear hcz12_0 hcz12_1 hcz12_2 hcz12_3 hcz12_4 hcz12_5
              try clear hcz14_0 hcz14_1 hcz14_2 hcz14_3 hcz14_4 hcz14_5
              try clear hcz23_0 hcz23_1 hcz23_2 hcz23_3 hcz23_4 hcz23_5
              try clear hcz25_0 hcz25_1 hcz25_2 hcz25_3 hcz25_4 hcz25_5
              try clear hcz27_0 hcz27_1 hcz27_2 hcz27_3 hcz27_4 hcz27_5
              try clear hcz36_0 hcz36_1 hcz36_2 hcz36_3 hcz36_4 hcz36_5
              try clear hcz38_0 hcz38_1 hcz38_2 hcz38_3 hcz38_4 hcz38_5
              try clear hcz43_0 hcz43_1 hcz43_2 hcz43_3 hcz43_4 hcz43_5
              try clear hcz48_0 hcz48_1 hcz48_2 hcz48_3 hcz48_4 hcz48_5
              try clear hcz53_0 hcz53_1 hcz53_2 hcz53_3 hcz53_4 hcz53_5
              try clear hcz56_0 hcz56_1 hcz56_2 hcz56_3 hcz56_4 hcz56_5
              try clear hcz61_0 hcz61_1 hcz61_2 hcz61_3 hcz61_4 hcz61_5
              try clear hcz64_0 hcz64_1 hcz64_2 hcz64_3 hcz64_4 hcz64_5
              try clear hcz69_0 hcz69_1 hcz69_2 hcz69_3 hcz69_4 hcz69_5
              try clear hcz72_0 hcz72_1 hcz72_2 hcz72_3 hcz72_4 hcz72_5
              try clear hcz77_0 hcz77_1 hcz77_2 hcz77_3 hcz77_4 hcz77_5
              try clear hcz80_0 hcz80_1 hcz80_2 hcz80_3 hcz80_4 hcz80_5
              try clear hcz84_0 hcz84_1 hcz84_2 hcz84_3 hcz84_4 hcz84_5
              try clear hfz10_0 hfz10_1 hfz10_2 hfz10_3 hfz10_4 hfz10_5
              try clear hfz12_0 hfz12_1 hfz12_2 hfz12_3 hfz12_4 hfz12_5
              try clear hfz14_0 hfz14_1 hfz14_2 hfz14_3 hfz14_4 hfz14_5
              try clear hfz23_0 hfz23_1 hfz23_2 hfz23_3 hfz23_4 hfz23_5
              try clear hfz25_0 hfz25_1 hfz25_2 hfz25_3 hfz25_4 hfz25_5
              try clear hfz27_0 hfz27_1 hfz27_2 hfz27_3 hfz27_4 hfz27_5
              try clear hfz36_0 hfz36_1 hfz36_2 hfz36_3 hfz36_4 hfz36_5
              try clear hfz38_0 hfz38_1 hfz38_2 hfz38_3 hfz38_4 hfz38_5
              try clear hfz43_0 hfz43_1 hfz43_2 hfz43_3 hfz43_4 hfz43_5
              try clear hfz48_0 hfz48_1 hfz48_2 hfz48_3 hfz48_4 hfz48_5
              try clear hfz53_0 hfz53_1 hfz53_2 hfz53_3 hfz53_4 hfz53_5
              try clear hfz56_0 hfz56_1 hfz56_2 hfz56_3 hfz56_4 hfz56_5
              try clear hfz61_0 hfz61_1 hfz61_2 hfz61_3 hfz61_4 hfz61_5
              try clear hfz64_0 hfz64_1 hfz64_2 hfz64_3 hfz64_4 hfz64_5
              try clear hfz69_0 hfz69_1 hfz69_2 hfz69_3 hfz69_4 hfz69_5
              try clear hfz72_0 hfz72_1 hfz72_2 hfz72_3 hfz72_4 hfz72_5
              try clear hfz77_0 hfz77_1 hfz77_2 hfz77_3 hfz77_4 hfz77_5
              try clear hfz80_0 hfz80_1 hfz80_2 hfz80_3 hfz80_4 hfz80_5
              try clear hfz84_0 hfz84_1 hfz84_2 hfz84_3 hfz84_4 hfz84_5
              try clear p2
              try clear p6
              try clear p64
              obtain ⟨x64_4, x90006004_4, x90006005_4, u90006004, rfl, HA, HK4, HO_90006004, BK90002, BK90003, BK90004, BK90005, HB⟩ := hrel
              cases gk with
              | zero => exact absurd HA.out (by simp [spec_l4Join.l0])
              | succ k4 =>
               have H := HA.out
               clear HA
               simp only [spec_l4Join.l0] at H
               by_cases c85 : x64_4 < (l0_4.length : Int)
               · rw [if_pos c85] at H
                 have c85b0 : decide (x64_4 < (l0_4.length : Int)) = true := decide_eq_true c85
                 clear c85
                 by_cases c86 : 0 ≤ x64_4
                 · rw [if_pos c86] at H
                   have c86b0 : decide (0 ≤ x64_4) = true := decide_eq_true c86
                   clear c86
                   by_cases c87 : x64_4 < (l0_4.length : Int)
                   · rw [if_pos c87] at H
                     have c87b0 : decide (x64_4 < (l0_4.length : Int)) = true := decide_eq_true c87
                     clear c87
                     by_cases c88 : x64_4 < (l1_4.length : Int)
                     · rw [if_pos c88] at H
                       have c88b0 : decide (x64_4 < (l1_4.length : Int)) = true := decide_eq_true c88
                       clear c88
                       by_cases c89 : (wrap64 ((rd l0_4 x64_4) + (rd l1_4 x64_4))) > 1000000000
                       · rw [if_pos c89] at H
                         have c89b0 : decide (1000000000 < (wrap64 ((rd l0_4 x64_4) + (rd l1_4 x64_4)))) = true := decide_eq_true c89
                         clear c89
                         by_cases c90 : x90006004_4.length < 17592186044416
                         · rw [if_pos c90] at H
                           have LMc90 := aM c90
                           clear c90
                           obtain ⟨y123, hy123⟩ : ∃ y_ : List Int, y_ = (x90006004_4 ++ [1000000000]) := ⟨_, rfl⟩
                           replace H : (spec_l4Join.l0 k4 l0_4 (l0_4.length : Int) (wrap64 (x64_4 + 1)) a1_0 a1_1 a1_2 a1_3 l1_4 a1_5 x90006000_29 (wrap64 (a0_1 + a1_1)) x90006002_48 x90006003_64 y123 true) = some (r1, r2, r3, r4, r5, r6) := by first | (rw [hy123]; with_reducible exact H) | (have H2_ := (Option.bind_some _ _).symm.trans H; rw [hy123]; with_reducible exact H2_) | (have H2_ := (Option.bind_some _ _).symm.trans H; with_reducible exact H2_) | with_reducible exact H | (rw [hy123]; exact H) | exact H
                           have Ny123 := aM hy123
                           clear hy123
                           have H' := aM H
                           clear H
                           have p121 : 0 ≤ (x64_4 : Int) := of_decide_eq_true z1200
                           have q121 : x64_4 < (l0_4.length : Int) := of_decide_eq_true z1200
                           obtain ⟨ad121, e121, hx121_0⟩ := Kd.at_int HR0_4.out x64_4 p121 q121
                           cases e121
                           replace hx121_0 := (HB.out.cell (World.block_lt_of_cell? w _ hx121_0)).trans hx121_0
                           replace p121 := eq_true p121
                           replace q121 := eq_true q121
                           have hnb91 := NB90003_90002.out
                           have hnc91 := NB90002_90003.out
                           have hnb92 := NB90003_90004.out
                           have hnc92 := NB90004_90003.out
                           have hnb93 := NB90003_90005.out
                           have hnc93 := NB90005_90003.out
                           obtain ⟨hcz94_0, hcz94_1, hcz94_2, hcz94_3, hcz94_4, hcz94_5, hfz94_0, hfz94_1, hfz94_2, hfz94_3, hfz94_4, hfz94_5⟩ := cellsZ6 BK90003.out
                           have p122 : 0 ≤ (x64_4 : Int) := of_decide_eq_true z1200
                           have q122 : x64_4 < (l1_4.length : Int) := of_decide_eq_true z1200
                           obtain ⟨ad122, e122, hx122_0⟩ := Kd.at_int HR1_4.out x64_4 p122 q122
                           cases e122
                           replace hx122_0 := (HB.out.cell (World.block_lt_of_cell? w _ hx122_0)).trans hx122_0
                           replace p122 := eq_true p122
                           replace q122 := eq_true q122
                           have hnb95 := NB90005_90002.out
                           have hnc95 := NB90002_90005.out
                           have hnb96 := NB90005_90004.out
                           have hnc96 := NB90004_90005.out
                           obtain ⟨hcz97_0, hcz97_1, hcz97_2, hcz97_3, hcz97_4, hcz97_5, hfz97_0, hfz97_1, hfz97_2, hfz97_3, hfz97_4, hfz97_5⟩ := cellsZ6 BK90005.out
                           go_wp2_with (first | ((with_reducible refine gate_builtin (b := .append) (xs := #[.tmp 80, .tmp 82]) rfl ?_); at_builtin; refine Kd.R_append (Kd.int .i64) (w0 := w) w.heap.size rfl (.tmp 80) (.tmp 82) 52 3 (.int .i64 0) 8 rfl Try.underlying52 info3 rfl (by decide) (by omega) u90006004 x90006004_4 1000000000 [.int .i64 1000000000] (fun _ => True) (fun _ => False) rfl (by first | (go_simp; done) | (go_simp; rfl)) ?aP (fun _ hk => hk.elim) ?aF ?aO ?aB ?aS ?aL ?_; (case aP => exact rfl); (case aB => exact hbZ); (case aF => exact (fun _ _ => trivial)); (case aO => exact (by (with_reducible repeat (first | apply Kd.R_alloc | apply Kd.R_drewN | apply Kd.R_drew)); exact Kd.R_mono (Kd.R_far (p := ⟨gb90005, 5, none⟩) (Kd.R_types HO_90006004.out BK90005.out (by decide)) (fun _ hk => hk.2) (.bool true)) (fun _ hk => trivial))); (case aS => exact (below_size hbZ)); (case aL => have := LMc90.out; omega); intro v124 w98 ho hb hg hat; rw [← Ny123.out] at ho; have _ := aM (blk_grown (g := gb90002) bkZ hg (Kd.R_ne HO_90006004.out BK90002.out (by decide))); have _ := aM (blk_grown (g := gb90003) bkZ hg (Kd.R_ne HO_90006004.out BK90003.out (by decide))); have _ := aM (blk_grown (g := gb90004) bkZ hg (Kd.R_ne HO_90006004.out BK90004.out (by decide))); have _ := aM (blk_grown (g := gb90005) (o := .cells #[.int .i64 x90006000_29, .int .i64 (wrap64 (a0_1 + a1_1)), .int .i64 x90006002_48, .int .i64 x90006003_64, u90006004, .bool true] 54 (0, 0)) bkZ hg (Kd.R_ne HO_90006004.out BK90005.out (by decide))); have _ := aM hb; have _ := aM ho; clear BK90002 BK90003 BK90004 BK90005 HB HO_90006004; rename_i BK90002 BK90003 BK90004 BK90005 HB HO125; clear ho hb hg hat; obtain ⟨Ao99, co99, eo99⟩ := Kd.R_slice HO125.out; subst eo99; obtain ⟨hcz100_0, hcz100_1, hcz100_2, hcz100_3, hcz100_4, hcz100_5, hfz100_0, hfz100_1, hfz100_2, hfz100_3, hfz100_4, hfz100_5⟩ := cellsZ6 BK90005.out))
                           go_roundg k4
                           case measure => have := HJ29.out; have := HJ48.out; have := HJ64.out; have := HK4.out; omega
                           case rel => exact ⟨(wrap64 (x64_4 + 1)), (y123), (true), (.slice Ao99 y123.length co99), z4458, H', ⟨by have := HJ29.out; have := HJ48.out; have := HJ64.out; have := HK4.out; omega⟩, ⟨by (with_reducible repeat (first | apply Kd.R_alloc | apply Kd.R_drewN | apply Kd.R_drew)); exact Kd.R_mono (Kd.R_far (p := ⟨gb90005, 4, none⟩) (Kd.R_types HO125.out BK90005.out (by decide)) (fun _ hk => hk.2) (.slice Ao99 y123.length co99)) (fun _ hk => trivial)⟩, ⟨bkZ⟩, ⟨bkZ⟩, ⟨bkZ⟩, ⟨bkZ⟩, ⟨zcb41⟩⟩
                         · rw [if_neg c90] at H
                           exact absurd H (by simp)
                       · rw [if_neg c89] at H
                         have c89b0 : decide (1000000000 < (wrap64 ((rd l0_4 x64_4) + (rd l1_4 x64_4)))) = false := decide_eq_false c89
                         clear c89
                         by_cases c101 : x90006004_4.length < 17592186044416
                         · rw [if_pos c101] at H
                           have LMc101 := aM c101
                           clear c101
                           obtain ⟨y126, hy126⟩ : ∃ y_ : List Int, y_ = (x90006004_4 ++ [wrap64 ((rd l0_4 x64_4) + (rd l1_4 x64_4))]) := ⟨_, rfl⟩
                           replace H : (spec_l4Join.l0 k4 l0_4 (l0_4.length : Int) (wrap64 (x64_4 + 1)) a1_0 a1_1 a1_2 a1_3 l1_4 a1_5 x90006000_29 (wrap64 (a0_1 + a1_1)) x90006002_48 x90006003_64 y126 x90006005_4) = some (r1, r2, r3, r4, r5, r6) := by first | (rw [hy126]; with_reducible exact H) | (have H2_ := (Option.bind_some _ _).symm.trans H; rw [hy126]; with_reducible exact H2_) | (have H2_ := (Option.bind_some _ _).symm.trans H; with_reducible exact H2_) | with_reducible exact H | (rw [hy126]; exact H) | exact H
                           have Ny126 := aM hy126
                           clear hy126
                           have H' := aM H
                           clear H
                           have p121 : 0 ≤ (x64_4 : Int) := of_decide_eq_true z1200
                           have q121 : x64_4 < (l0_4.length : Int) := of_decide_eq_true z1200
                           obtain ⟨ad121, e121, hx121_0⟩ := Kd.at_int HR0_4.out x64_4 p121 q121
                           cases e121
                           replace hx121_0 := (HB.out.cell (World.block_lt_of_cell? w _ hx121_0)).trans hx121_0
                           replace p121 := eq_true p121
                           replace q121 := eq_true q121
                           have hnb102 := NB90003_90002.out
                           have hnc102 := NB90002_90003.out
                           have hnb103 := NB90003_90004.out
                           have hnc103 := NB90004_90003.out
                           have hnb104 := NB90003_90005.out
                           have hnc104 := NB90005_90003.out
                           obtain ⟨hcz105_0, hcz105_1, hcz105_2, hcz105_3, hcz105_4, hcz105_5, hfz105_0, hfz105_1, hfz105_2, hfz105_3, hfz105_4, hfz105_5⟩ := cellsZ6 BK90003.out
                           have p122 : 0 ≤ (x64_4 : Int) := of_decide_eq_true z1200
                           have q122 : x64_4 < (l1_4.length : Int) := of_decide_eq_true z1200
                           obtain ⟨ad122, e122, hx122_0⟩ := Kd.at_int HR1_4.out x64_4 p122 q122
                           cases e122
                           replace hx122_0 := (HB.out.cell (World.block_lt_of_cell? w _ hx122_0)).trans hx122_0
                           replace p122 := eq_true p122
                           replace q122 := eq_true q122
                           have hnb106 := NB90005_90002.out
                           have hnc106 := NB90002_90005.out
                           have hnb107 := NB90005_90004.out
                           have hnc107 := NB90004_90005.out
                           obtain ⟨hcz108_0, hcz108_1, hcz108_2, hcz108_3, hcz108_4, hcz108_5, hfz108_0, hfz108_1, hfz108_2, hfz108_3, hfz108_4, hfz108_5⟩ := cellsZ6 BK90005.out
                           go_wp2_with (first | ((with_reducible refine gate_builtin (b := .append) (xs := #[.tmp 80, .tmp 82]) rfl ?_); at_builtin; refine Kd.R_append (Kd.int .i64) (w0 := w) w.heap.size rfl (.tmp 80) (.tmp 82) 52 3 (.int .i64 0) 8 rfl Try.underlying52 info3 rfl (by decide) (by omega) u90006004 x90006004_4 (wrap64 ((rd l0_4 x64_4) + (rd l1_4 x64_4))) [.int .i64 (wrap64 ((rd l0_4 x64_4) + (rd l1_4 x64_4)))] (fun _ => True) (fun _ => False) rfl rfl ?aP (fun _ hk => hk.elim) ?aF ?aO ?aB ?aS ?aL ?_; (case aP => exact rfl); (case aB => exact hbZ); (case aF => exact (fun _ _ => trivial)); (case aO => exact (rZ HO_90006004.out)); (case aS => exact (below_size hbZ)); (case aL => have := LMc101.out; omega); intro v127 w109 ho hb hg hat; rw [← Ny126.out] at ho; have _ := aM (blk_grown (g := gb90002) bkZ hg (Kd.R_ne HO_90006004.out BK90002.out (by decide))); have _ := aM (blk_grown (g := gb90003) bkZ hg (Kd.R_ne HO_90006004.out BK90003.out (by decide))); have _ := aM (blk_grown (g := gb90004) bkZ hg (Kd.R_ne HO_90006004.out BK90004.out (by decide))); have _ := aM (blk_grown (g := gb90005) bkZ hg (Kd.R_ne HO_90006004.out BK90005.out (by decide))); have _ := aM hb; have _ := aM ho; clear BK90002 BK90003 BK90004 BK90005 HB HO_90006004; rename_i BK90002 BK90003 BK90004 BK90005 HB HO128; clear ho hb hg hat; obtain ⟨Ao110, co110, eo110⟩ := Kd.R_slice HO128.out; subst eo110; obtain ⟨hcz111_0, hcz111_1, hcz111_2, hcz111_3, hcz111_4, hcz111_5, hfz111_0, hfz111_1, hfz111_2, hfz111_3, hfz111_4, hfz111_5⟩ := cellsZ6 BK90005.out))
                           go_roundg k4
                           case measure => have := HJ29.out; have := HJ48.out; have := HJ64.out; have := HK4.out; omega
                           case rel => exact ⟨(wrap64 (x64_4 + 1)), (y126), (x90006005_4), (.slice Ao110 y126.length co110), z4458, H', ⟨by have := HJ29.out; have := HJ48.out; have := HJ64.out; have := HK4.out; omega⟩, ⟨by (with_reducible repeat (first | apply Kd.R_alloc | apply Kd.R_drewN | apply Kd.R_drew)); exact Kd.R_mono (Kd.R_far (p := ⟨gb90005, 4, none⟩) (Kd.R_types HO128.out BK90005.out (by decide)) (fun _ hk => hk.2) (.slice Ao110 y126.length co110)) (fun _ hk => trivial)⟩, ⟨bkZ⟩, ⟨bkZ⟩, ⟨bkZ⟩, ⟨bkZ⟩, ⟨zcb41⟩⟩
                         · rw [if_neg c101] at H
                           exact absurd H (by simp)
                     · rw [if_neg c88] at H
                       exact absurd H (by simp)
                   · rw [if_neg c87] at H
                     exact absurd H (by simp)
                 · rw [if_neg c86] at H
                   exact absurd H (by simp)
               · rw [if_neg c85] at H
                 have c85b0 : decide (x64_4 < (l0_4.length : Int)) = false := decide_eq_false c85
                 clear c85
                 by_cases c112 : x90006005_4 = true
                 · subst c112
                   have H1 : (some (x90006000_29, 0, x90006002_48, x90006003_64, x90006004_4, true)) = some (r1, r2, r3, r4, r5, r6) := by rw [if_pos rfl] at H; exact H
                   clear H
                   have H := H1
                   clear H1
                   simp only [Option.some.injEq, Prod.mk.injEq] at H
                   obtain ⟨rfl, rfl, rfl, rfl, rfl, rfl⟩ := H
                   have hnb113 := NB90005_90002.out
                   have hnc113 := NB90002_90005.out
                   have hnb114 := NB90005_90003.out
                   have hnc114 := NB90003_90005.out
                   have hnb115 := NB90005_90004.out
                   have hnc115 := NB90004_90005.out
                   obtain ⟨hcz116_0, hcz116_1, hcz116_2, hcz116_3, hcz116_4, hcz116_5, hfz116_0, hfz116_1, hfz116_2, hfz116_3, hfz116_4, hfz116_5⟩ := cellsZ6 BK90005.out
                   have hnb117 := NB90004_90002.out
                   have hnc117 := NB90002_90004.out
                   have hnb118 := NB90004_90003.out
                   have hnc118 := NB90003_90004.out
                   obtain ⟨hcz119_0, hcz119_1, hcz119_2, hcz119_3, hcz119_4, hcz119_5, hfz119_0, hfz119_1, hfz119_2, hfz119_3, hfz119_4, hfz119_5⟩ := cellsZ6 BK90004.out
                   obtain ⟨Ao120, co120, eo120⟩ := Kd.R_slice HO_90006004.out
                   subst eo120
                   go_wp2
                   refine bodyPost_ret (results_cell_row rfl _ _ gb90004 54 #[.int .i64 x90006000_29, .int .i64 0, .int .i64 x90006002_48, .int .i64 x90006003_64, .slice Ao120 x90006004_4.length co120, .bool true] (0, 0) _ rfl bkZ Try.underlying54 rfl (by kernel_rfl)) rfl ?_
                   exact ⟨_, z674d, by (with_reducible repeat (first | apply Kd.R_alloc | apply Kd.R_drewN | apply Kd.R_drew)); exact Kd.R_mono (Kd.R_far (p := ⟨gb90004, 5, none⟩) (Kd.R_far (p := ⟨gb90004, 4, none⟩) (Kd.R_far (p := ⟨gb90004, 3, none⟩) (Kd.R_far (p := ⟨gb90004, 2, none⟩) (Kd.R_far (p := ⟨gb90004, 1, none⟩) (Kd.R_far (p := ⟨gb90004, 0, none⟩) (Kd.R_far (p := ⟨gb90005, 1, none⟩) (Kd.R_types (Kd.R_types HO_90006004.out BK90005.out (by decide)) BK90004.out (by decide)) (fun _ hk => hk.1.2) (.int .i64 0)) (fun _ hk => hk.2) (.int .i64 x90006000_29)) (fun _ hk => hk.2) (.int .i64 0)) (fun _ hk => hk.2) (.int .i64 x90006002_48)) (fun _ hk => hk.2) (.int .i64 x90006003_64)) (fun _ hk => hk.2) (.slice Ao120 x90006004_4.length co120)) (fun _ hk => hk.2) (.bool true)) (fun _ hk => trivial), zcb41⟩
                 · replace c112 := Bool.eq_false_iff.mpr c112
                   subst c112
                   have H1 : (some (x90006000_29, (wrap64 (a0_1 + a1_1)), x90006002_48, x90006003_64, x90006004_4, false)) = some (r1, r2, r3, r4, r5, r6) := by rw [if_neg (show ¬ (false = true) by decide)] at H; exact H
                   clear H
                   have H := H1
                   clear H1
                   simp only [Option.some.injEq, Prod.mk.injEq] at H
                   obtain ⟨rfl, rfl, rfl, rfl, rfl, rfl⟩ := H
                   have hnb121 := NB90005_90002.out
                   have hnc121 := NB90002_90005.out
                   have hnb122 := NB90005_90003.out
                   have hnc122 := NB90003_90005.out
                   have hnb123 := NB90005_90004.out
                   have hnc123 := NB90004_90005.out
                   obtain ⟨hcz124_0, hcz124_1, hcz124_2, hcz124_3, hcz124_4, hcz124_5, hfz124_0, hfz124_1, hfz124_2, hfz124_3, hfz124_4, hfz124_5⟩ := cellsZ6 BK90005.out
                   have hnb125 := NB90004_90002.out
                   have hnc125 := NB90002_90004.out
                   have hnb126 := NB90004_90003.out
                   have hnc126 := NB90003_90004.out
                   obtain ⟨hcz127_0, hcz127_1, hcz127_2, hcz127_3, hcz127_4, hcz127_5, hfz127_0, hfz127_1, hfz127_2, hfz127_3, hfz127_4, hfz127_5⟩ := cellsZ6 BK90004.out
                   obtain ⟨Ao128, co128, eo128⟩ := Kd.R_slice HO_90006004.out
                   subst eo128
                   go_wp2
                   refine bodyPost_ret (results_cell_row rfl _ _ gb90004 54 #[.int .i64 x90006000_29, .int .i64 (wrap64 (a0_1 + a1_1)), .int .i64 x90006002_48, .int .i64 x90006003_64, .slice Ao128 x90006004_4.length co128, .bool false] (0, 0) _ rfl bkZ Try.underlying54 rfl (by kernel_rfl)) rfl ?_
                   exact ⟨_, z674d, by (with_reducible repeat (first | apply Kd.R_alloc | apply Kd.R_drewN | apply Kd.R_drew)); exact Kd.R_mono (Kd.R_far (p := ⟨gb90004, 5, none⟩) (Kd.R_far (p := ⟨gb90004, 4, none⟩) (Kd.R_far (p := ⟨gb90004, 3, none⟩) (Kd.R_far (p := ⟨gb90004, 2, none⟩) (Kd.R_far (p := ⟨gb90004, 1, none⟩) (Kd.R_far (p := ⟨gb90004, 0, none⟩) (Kd.R_types HO_90006004.out BK90004.out (by decide)) (fun _ hk => hk.2) (.int .i64 x90006000_29)) (fun _ hk => hk.2) (.int .i64 (wrap64 (a0_1 + a1_1)))) (fun _ hk => hk.2) (.int .i64 x90006002_48)) (fun _ hk => hk.2) (.int .i64 x90006003_64)) (fun _ hk => hk.2) (.slice Ao128 x90006004_4.length co128)) (fun _ hk => hk.2) (.bool false)) (fun _ hk => trivial), zcb41⟩
     · replace c29 := Bool.eq_false_iff.mpr c29
       subst c29
       have H1 : (if (wrap64 (a0_0 + a1_0)) > 1000000000 then (spec_l4Join.j4 k a0_0 a0_1 a0_2 a0_3 l0_4 false a1_0 a1_1 a1_2 a1_3 l1_4 a1_5 1000000000 (wrap64 (a0_1 + a1_1)) a0_2 a0_3 true) else (spec_l4Join.j4 k a0_0 a0_1 a0_2 a0_3 l0_4 false a1_0 a1_1 a1_2 a1_3 l1_4 a1_5 (wrap64 (a0_0 + a1_0)) (wrap64 (a0_1 + a1_1)) a0_2 a0_3 a1_5)) = some (r1, r2, r3, r4, r5, r6) := by rw [if_neg (show ¬ (false = true) by decide)] at H; exact H
       clear H
       have H := H1
       clear H1
       have HC129 := aM H
       clear H
       go_enter Try.func57, Try.ntmps57
       go_upto_if 42 with (first | ((with_reducible refine gate_dst (N := 2) rfl ?_); refine box_event ?hg (N := 2) ?hd (cs := #[.int .i64 a0_0, .int .i64 a0_1, .int .i64 a0_2, .int .i64 a0_3, .slice A0_4 l0_4.length c0_4, .bool false]) (t := 54) ?hr ?_; (case hd => rfl); (case hg => rfl); (case hr => first | (go_simp; done) | (go_simp; rfl)); intro gb90002 hg w130 hbox hb; have _ := aM (below_step hbZ hb); have _ := aM hbox; have _ := szZ hg; have _ := szZ hg; clear HB; rename_i HB BK90002 GW90002 GE90002; clear hb hbox hg) | ((with_reducible refine gate_dst (N := 3) rfl ?_); refine box_event ?hg (N := 3) ?hd (cs := #[.int .i64 a1_0, .int .i64 a1_1, .int .i64 a1_2, .int .i64 a1_3, .slice A1_4 l1_4.length c1_4, .bool a1_5]) (t := 54) ?hr ?_; (case hd => rfl); (case hg => rfl); (case hr => first | (go_simp; done) | (go_simp; rfl)); intro gb90003 hg w131 hbox hb; have _ := bB gb90002 hb; have _ := aM (below_step hbZ hb); have _ := aM hbox; have _ := szZ hg; have _ := szZ hg; have ⟨_, _⟩ := nbB gb90002 hg; clear BK90002 HB; rename_i BK90002 HB BK90003 GW90003 GE90003 NB90002_90003 NB90003_90002; clear hb hbox hg) | ((with_reducible refine gate_dst (N := 4) rfl ?_); refine box_event ?hg (N := 4) ?hd (cs := #[.int .i64 0, .int .i64 0, .int .i64 0, .int .i64 0, .slice none 0 0, .bool false]) (t := 54) ?hr ?_; (case hd => rfl); (case hg => rfl); (case hr => first | (go_simp; done) | (go_simp; rfl)); intro gb90004 hg w132 hbox hb; have _ := bB gb90002 hb; have _ := bB gb90003 hb; have _ := aM (below_step hbZ hb); have _ := aM hbox; have _ := szZ hg; have _ := szZ hg; have ⟨_, _⟩ := nbB gb90002 hg; have ⟨_, _⟩ := nbB gb90003 hg; clear BK90002 BK90003 HB; rename_i BK90002 BK90003 HB BK90004 GW90004 GE90004 NB90002_90004 NB90004_90002 NB90003_90004 NB90004_90003; clear hb hbox hg; have hnb133 := NB90002_90003.out; have hnc133 := NB90003_90002.out; have hnb134 := NB90002_90004.out; have hnc134 := NB90004_90002.out; obtain ⟨hcz135_0, hcz135_1, hcz135_2, hcz135_3, hcz135_4, hcz135_5, hfz135_0, hfz135_1, hfz135_2, hfz135_3, hfz135_4, hfz135_5⟩ := cellsZ6 BK90002.out; have hnb136 := NB90003_90004.out; have hnc136 := NB90004_90003.out; obtain ⟨hcz137_0, hcz137_1, hcz137_2, hcz137_3, hcz137_4, hcz137_5, hfz137_0, hfz137_1, hfz137_2, hfz137_3, hfz137_4, hfz137_5⟩ := cellsZ6 BK90003.out) | ((with_reducible refine gate_dst (N := 5) rfl ?_); refine box_event ?hg (N := 5) ?hd (cs := #[.int .i64 0, .int .i64 0, .int .i64 0, .int .i64 0, .slice none 0 0, .bool false]) (t := 54) ?hr ?_; (case hd => rfl); (case hg => rfl); (case hr => first | (go_simp; done) | (go_simp; rfl)); intro gb90005 hg w138 hbox hb; have _ := bB gb90002 hb; have _ := bB gb90003 hb; have _ := bB gb90004 hb; have _ := aM (below_step hbZ hb); have _ := aM hbox; have _ := szZ hg; have _ := szZ hg; have ⟨_, _⟩ := nbB gb90002 hg; have ⟨_, _⟩ := nbB gb90003 hg; have ⟨_, _⟩ := nbB gb90004 hg; clear BK90002 BK90003 BK90004 HB; rename_i BK90002 BK90003 BK90004 HB BK90005 GW90005 GE90005 NB90002_90005 NB90005_90002 NB90003_90005 NB90005_90003 NB90004_90005 NB90005_90004; clear hb hbox hg; have hnb139 := NB90005_90002.out; have hnc139 := NB90002_90005.out; have hnb140 := NB90005_90003.out; have hnc140 := NB90003_90005.out; have hnb141 := NB90005_90004.out; have hnc141 := NB90004_90005.out; obtain ⟨hcz142_0, hcz142_1, hcz142_2, hcz142_3, hcz142_4, hcz142_5, hfz142_0, hfz142_1, hfz142_2, hfz142_3, hfz142_4, hfz142_5⟩ := cellsZ6 BK90005.out))
       (try simp only [Act.put, List.setIfInBounds_toArray, List.set_cons_zero, List.set_cons_succ])
       go_cut [] (fun wc => ∃ (kq : Nat) (x90006000_128 : Int) (x90006005_128 : Bool), Aside0 (spec_l4Join.j4 kq a0_0 a0_1 a0_2 a0_3 l0_4 false a1_0 a1_1 a1_2 a1_3 l1_4 a1_5 x90006000_128 (wrap64 (a0_1 + a1_1)) a0_2 a0_3 x90006005_128 = some (r1, r2, r3, r4, r5, r6)) ∧ Aside0 (kq ≤ k) ∧ Aside0 (wc.heap[gb90002]? = some (.cells #[.int .i64 a0_0, .int .i64 a0_1, .int .i64 a0_2, .int .i64 a0_3, (.slice A0_4 l0_4.length c0_4), .bool false] 54 (0, 0))) ∧ Aside0 (wc.heap[gb90003]? = some (.cells #[.int .i64 a1_0, .int .i64 a1_1, .int .i64 a1_2, .int .i64 a1_3, (.slice A1_4 l1_4.length c1_4), .bool a1_5] 54 (0, 0))) ∧ Aside0 (wc.heap[gb90004]? = some (.cells #[.int .i64 0, .int .i64 0, .int .i64 0, .int .i64 0, (.slice none 0 0), .bool false] 54 (0, 0))) ∧ Aside0 (wc.heap[gb90005]? = some (.cells #[.int .i64 x90006000_128, .int .i64 (wrap64 (a0_1 + a1_1)), .int .i64 a0_2, .int .i64 a0_3, (.slice none 0 0), .bool x90006005_128] 54 (0, 0))) ∧ Aside0 (Below w.heap.size w wc))
       case first =>
        have H := HC129.out
        clear HC129
        by_cases c143 : (wrap64 (a0_0 + a1_0)) > 1000000000
        · rw [if_pos c143] at H
          have c143b0 : decide (1000000000 < (wrap64 (a0_0 + a1_0))) = true := decide_eq_true c143
          clear c143
          (first | rw [c143b0] | (simp only [i64_w, i32_w]; rw [c143b0]) | skip)
          have H' := aM H
          clear H
          have hnb144 := NB90005_90002.out
          have hnc144 := NB90002_90005.out
          have hnb145 := NB90005_90003.out
          have hnc145 := NB90003_90005.out
          have hnb146 := NB90005_90004.out
          have hnc146 := NB90004_90005.out
          obtain ⟨hcz147_0, hcz147_1, hcz147_2, hcz147_3, hcz147_4, hcz147_5, hfz147_0, hfz147_1, hfz147_2, hfz147_3, hfz147_4, hfz147_5⟩ := cellsZ6 BK90005.out
          go_wp2
          go_meet
          case rel => exact ⟨_, (1000000000), (true), H', ⟨zb79b⟩, ⟨bkZ⟩, ⟨bkZ⟩, ⟨bkZ⟩, ⟨bkZ⟩, ⟨zcb41⟩⟩
        · rw [if_neg c143] at H
          have c143b0 : decide (1000000000 < (wrap64 (a0_0 + a1_0))) = false := decide_eq_false c143
          clear c143
          (first | rw [c143b0] | (simp only [i64_w, i32_w]; rw [c143b0]) | skip)
          have H' := aM H
          clear H
          go_wp2
          go_meet
          case rel => exact ⟨_, (wrap64 (a0_0 + a1_0)), (a1_5), H', ⟨zb79b⟩, ⟨bkZ⟩, ⟨bkZ⟩, ⟨bkZ⟩, ⟨bkZ⟩, ⟨zcb41⟩⟩
       case rest =>
        clear HC129
        try clear c1
        try clear p1
        try clear q1
        try clear hx1
        try clear c2
        try clear p2
        try clear c3
        try clear c4
        try clear c5
        try clear c6
        try clear p6
        try clear c7
        try clear c8
        try clear c9
        try clear c10
        try clear c11
        try clear c12
        try clear p12
        try clear q12
        try clear hx12
        try clear c13
        try clear c14
        try clear c16
        try clear c16b0
        try clear c16b1
        try clear c21
        try clear c22
        try clear c24
        try clear c29
        try clear c34
        try clear c35
        try clear c37
        try clear c40
        try clear c41
        try clear c42
        try clear c44
        try clear c44b0
        try clear c45
        try clear c46
        try clear c47
        try clear c50
        try clear c51
        try clear c52
        try clear c54
        try clear c55
        try clear c57
        try clear c57b0
        try clear c58
        try clear c59
        try clear c60
        try clear c62
        try clear c63
        try clear p64
        try clear c66
        try clear c67
        try clear c68
        try clear c70
        try clear c71
        try clear c73
        try clear c73b0
        try clear c74
        try clear c75
        try clear c76
        try clear c78
        try clear c79
        try clear c81
        try clear c82
        try clear c83
        try clear c85
        try clear c85b0
        try clear c86
        try clear c86b0
        try clear c87
        try clear c87b0
        try clear c88
        try clear c88b0
        try clear c89
        try clear c89b0
        try clear c90
        try clear c91
        try clear c92
        try clear c93
        try clear c95
        try clear c96
        try clear c101
        try clear c102
        try clear c103
        try clear c104
        try clear c106
        try clear c107
        try clear c112
        try clear c113
        try clear c114
        try clear c115
        try clear c117
        try clear c118
        try clear c121
        try clear p121
        try clear q121
        try clear hx121
        try clear c122
        try clear p122
        try clear q122
        try clear hx122
        try clear c123
        try clear c125
        try clear c126
        try clear c133
        try clear c134
        try clear c136
        try clear c139
        try clear c140
        try clear c141
        try clear c143
        try clear c143b0
        try clear c144
        try clear c145
        try clear c146
        try clear hcz100_0 hcz100_1 hcz100_2 hcz100_3 hcz100_4 hcz100_5
        try clear hcz105_0 hcz105_1 hcz105_2 hcz105_3 hcz105_4 hcz105_5
        try clear hcz108_0 hcz108_1 hcz108_2 hcz108_3 hcz108_4 hcz108_5
        try clear hcz10_0 hcz10_1 hcz10_2 hcz10_3 hcz10_4 hcz10_5
        try clear hcz111_0 hcz111_1 hcz111_2 hcz111_3 hcz111_4 hcz111_5
        try clear hcz116_0 hcz116_1 hcz116_2 hcz116_3 hcz116_4 hcz116_5
        try clear hcz119_0 hcz119_1 hcz119_2 hcz119_3 hcz119_4 hcz119_5
        try clear hcz124_0 hcz124_1 hcz124_2 hcz124_3 hcz124_4 hcz124_5
        try clear hcz127_0 hcz127_1 hcz127_2 hcz127_3 hcz127_4 hcz127_5
        try clear hcz12_0 hcz12_1 hcz12_2 hcz12_3 hcz12_4 hcz12_5
        try clear hcz135_0 hcz135_1 hcz135_2 hcz135_3 hcz135_4 hcz135_5
        try clear hcz137_0 hcz137_1 hcz137_2 hcz137_3 hcz137_4 hcz137_5
        try clear hcz142_0 hcz142_1 hcz142_2 hcz142_3 hcz142_4 hcz142_5
        try clear hcz147_0 hcz147_1 hcz147_2 hcz147_3 hcz147_4 hcz147_5
        try clear hcz14_0 hcz14_1 hcz14_2 hcz14_3 hcz14_4 hcz14_5
        try clear hcz23_0 hcz23_1 hcz23_2 hcz23_3 hcz23_4 hcz23_5
        try clear hcz25_0 hcz25_1 hcz25_2 hcz25_3 hcz25_4 hcz25_5
        try clear hcz27_0 hcz27_1 hcz27_2 hcz27_3 hcz27_4 hcz27_5
        try clear hcz36_0 hcz36_1 hcz36_2 hcz36_3 hcz36_4 hcz36_5
        try clear hcz38_0 hcz38_1 hcz38_2 hcz38_3 hcz38_4 hcz38_5
        try clear hcz43_0 hcz43_1 hcz43_2 hcz43_3 hcz43_4 hcz43_5
        try clear hcz48_0 hcz48_1 hcz48_2 hcz48_3 hcz48_4 hcz48_5
        try clear hcz53_0 hcz53_1 hcz53_2 hcz53_3 hcz53_4 hcz53_5
        try clear hcz56_0 hcz56_1 hcz56_2 hcz56_3 hcz56_4 hcz56_5
        try clear hcz61_0 hcz61_1 hcz61_2 hcz61_3 hcz61_4 hcz61_5
        try clear hcz64_0 hcz64_1 hcz64_2 hcz64_3 hcz64_4 hcz64_5
        try clear hcz69_0 hcz69_1 hcz69_2 hcz69_3 hcz69_4 hcz69_5
        try clear hcz72_0 hcz72_1 hcz72_2 hcz72_3 hcz72_4 hcz72_5
        try clear hcz77_0 hcz77_1 hcz77_2 hcz77_3 hcz77_4 hcz77_5
        try clear hcz80_0 hcz80_1 hcz80_2 hcz80_3 hcz80_4 hcz80_5
        try clear hcz84_0 hcz84_1 hcz84_2 hcz84_3 hcz84_4 hcz84_5
        try clear hcz94_0 hcz94_1 hcz94_2 hcz94_3 hcz94_4 hcz94_5
        try clear hcz97_0 hcz97_1 hcz97_2 hcz97_3 hcz97_4 hcz97_5
        try clear hfz100_0 hfz100_1 hfz100_2 hfz100_3 hfz100_4 hfz100_5
        try clear hfz105_0 hfz105_1 hfz105_2 hfz105_3 hfz105_4 hfz105_5
        try clear hfz108_0 hfz108_1 hfz108_2 hfz108_3 hfz108_4 hfz108_5
        try clear hfz10_0 hfz10_1 hfz10_2 hfz10_3 hfz10_4 hfz10_5
        try clear hfz111_0 hfz111_1 hfz111_2 hfz111_3 hfz111_4 hfz111_5
        try clear hfz116_0 hfz116_1 hfz116_2 hfz116_3 hfz116_4 hfz116_5
        try clear hfz119_0 hfz119_1 hfz119_2 hfz119_3 hfz119_4 hfz119_5
        try clear hfz124_0 hfz124_1 hfz124_2 hfz124_3 hfz124_4 hfz124_5
        try clear hfz127_0 hfz127_1 hfz127_2 hfz127_3 hfz127_4 hfz127_5
        try clear hfz12_0 hfz12_1 hfz12_2 hfz12_3 hfz12_4 hfz12_5
        try clear hfz135_0 hfz135_1 hfz135_2 hfz135_3 hfz135_4 hfz135_5
        try clear hfz137_0 hfz137_1 hfz137_2 hfz137_3 hfz137_4 hfz137_5
        try clear hfz142_0 hfz142_1 hfz142_2 hfz142_3 hfz142_4 hfz142_5
        try clear hfz147_0 hfz147_1 hfz147_2 hfz147_3 hfz147_4 hfz147_5
        try clear hfz14_0 hfz14_1 hfz14_2 hfz14_3 hfz14_4 hfz14_5
        try clear hfz23_0 hfz23_1 hfz23_2 hfz23_3 hfz23_4 hfz23_5
        try clear hfz25_0 hfz25_1 hfz25_2 hfz25_3 hfz25_4 hfz25_5
        try clear hfz27_0 hfz27_1 hfz27_2 hfz27_3 hfz27_4 hfz27_5
        try clear hfz36_0 hfz36_1 hfz36_2 hfz36_3 hfz36_4 hfz36_5
        try clear hfz38_0 hfz38_1 hfz38_2 hfz38_3 hfz38_4 hfz38_5
        try clear hfz43_0 hfz43_1 hfz43_2 hfz43_3 hfz43_4 hfz43_5
        try clear hfz48_0 hfz48_1 hfz48_2 hfz48_3 hfz48_4 hfz48_5
        try clear hfz53_0 hfz53_1 hfz53_2 hfz53_3 hfz53_4 hfz53_5
        try clear hfz56_0 hfz56_1 hfz56_2 hfz56_3 hfz56_4 hfz56_5
        try clear hfz61_0 hfz61_1 hfz61_2 hfz61_3 hfz61_4 hfz61_5
        try clear hfz64_0 hfz64_1 hfz64_2 hfz64_3 hfz64_4 hfz64_5
        try clear hfz69_0 hfz69_1 hfz69_2 hfz69_3 hfz69_4 hfz69_5
        try clear hfz72_0 hfz72_1 hfz72_2 hfz72_3 hfz72_4 hfz72_5
        try clear hfz77_0 hfz77_1 hfz77_2 hfz77_3 hfz77_4 hfz77_5
        try clear hfz80_0 hfz80_1 hfz80_2 hfz80_3 hfz80_4 hfz80_5
        try clear hfz84_0 hfz84_1 hfz84_2 hfz84_3 hfz84_4 hfz84_5
        try clear hfz94_0 hfz94_1 hfz94_2 hfz94_3 hfz94_4 hfz94_5
        try clear hfz97_0 hfz97_1 hfz97_2 hfz97_3 hfz97_4 hfz97_5
        try clear hx121_0
        try clear hx122_0
        try clear p121
        try clear p122
        try clear p2
        try clear p6
        try clear p64
        try clear q121
        try clear q122
        obtain ⟨kq, x90006000_128, x90006005_128, HA, HJ128, BK90002, BK90003, BK90004, BK90005, HB⟩ := hcut
        cases kq with
        | zero => exact absurd HA.out (by simp [spec_l4Join.j4])
        | succ kj128 =>
         have H := HA.out
         clear HA
         simp only [spec_l4Join.j4] at H
         have HC148 := aM H
         clear H
         have hnb149 := NB90003_90002.out
         have hnc149 := NB90002_90003.out
         have hnb150 := NB90003_90004.out
         have hnc150 := NB90004_90003.out
         have hnb151 := NB90003_90005.out
         have hnc151 := NB90005_90003.out
         obtain ⟨hcz152_0, hcz152_1, hcz152_2, hcz152_3, hcz152_4, hcz152_5, hfz152_0, hfz152_1, hfz152_2, hfz152_3, hfz152_4, hfz152_5⟩ := cellsZ6 BK90003.out
         have hnb153 := NB90005_90002.out
         have hnc153 := NB90002_90005.out
         have hnb154 := NB90005_90004.out
         have hnc154 := NB90004_90005.out
         obtain ⟨hcz155_0, hcz155_1, hcz155_2, hcz155_3, hcz155_4, hcz155_5, hfz155_0, hfz155_1, hfz155_2, hfz155_3, hfz155_4, hfz155_5⟩ := cellsZ6 BK90005.out
         go_upto_if 49 with (fail)
         go_cut [] (fun wc => ∃ (kq : Nat) (x90006002_147 : Int), Aside0 (spec_l4Join.j5 kq a0_0 a0_1 a0_2 a0_3 l0_4 false a1_0 a1_1 a1_2 a1_3 l1_4 a1_5 x90006000_128 (wrap64 (a0_1 + a1_1)) x90006002_147 a0_3 x90006005_128 = some (r1, r2, r3, r4, r5, r6)) ∧ Aside0 (kq ≤ kj128) ∧ Aside0 (wc.heap[gb90002]? = some (.cells #[.int .i64 a0_0, .int .i64 a0_1, .int .i64 a0_2, .int .i64 a0_3, (.slice A0_4 l0_4.length c0_4), .bool false] 54 (0, 0))) ∧ Aside0 (wc.heap[gb90003]? = some (.cells #[.int .i64 a1_0, .int .i64 a1_1, .int .i64 a1_2, .int .i64 a1_3, (.slice A1_4 l1_4.length c1_4), .bool a1_5] 54 (0, 0))) ∧ Aside0 (wc.heap[gb90004]? = some (.cells #[.int .i64 0, .int .i64 0, .int .i64 0, .int .i64 0, (.slice none 0 0), .bool false] 54 (0, 0))) ∧ Aside0 (wc.heap[gb90005]? = some (.cells #[.int .i64 x90006000_128, .int .i64 (wrap64 (a0_1 + a1_1)), .int .i64 x90006002_147, .int .i64 a0_3, (.slice none 0 0), .bool x90006005_128] 54 (0, 0))) ∧ Aside0 (Below w.heap.size w wc))
         case first =>
          have H := HC148.out
          clear HC148
          by_cases c156 : a1_2 < a0_2
          · rw [if_pos c156] at H
            have c156b0 : decide (a1_2 < a0_2) = true := decide_eq_true c156
            clear c156
            (first | rw [c156b0] | (simp only [i64_w, i32_w]; rw [c156b0]) | skip)
            have H' := aM H
            clear H
            have hnb157 := NB90003_90002.out
            have hnc157 := NB90002_90003.out
            have hnb158 := NB90003_90004.out
            have hnc158 := NB90004_90003.out
            have hnb159 := NB90003_90005.out
            have hnc159 := NB90005_90003.out
            obtain ⟨hcz160_0, hcz160_1, hcz160_2, hcz160_3, hcz160_4, hcz160_5, hfz160_0, hfz160_1, hfz160_2, hfz160_3, hfz160_4, hfz160_5⟩ := cellsZ6 BK90003.out
            have hnb161 := NB90005_90002.out
            have hnc161 := NB90002_90005.out
            have hnb162 := NB90005_90004.out
            have hnc162 := NB90004_90005.out
            obtain ⟨hcz163_0, hcz163_1, hcz163_2, hcz163_3, hcz163_4, hcz163_5, hfz163_0, hfz163_1, hfz163_2, hfz163_3, hfz163_4, hfz163_5⟩ := cellsZ6 BK90005.out
            go_wp2
            go_meet
            case rel => exact ⟨_, (a1_2), H', ⟨by have := HJ128.out; first | omega | exact Nat.le_refl _⟩, ⟨bkZ⟩, ⟨bkZ⟩, ⟨bkZ⟩, ⟨bkZ⟩, ⟨zcb41⟩⟩
          · rw [if_neg c156] at H
            have c156b0 : decide (a1_2 < a0_2) = false := decide_eq_false c156
            clear c156
            (first | rw [c156b0] | (simp only [i64_w, i32_w]; rw [c156b0]) | skip)
            have H' := aM H
            clear H
            go_wp2
            go_meet
            case rel => exact ⟨_, (a0_2), H', ⟨by have := HJ128.out; first | omega | exact Nat.le_refl _⟩, ⟨bkZ⟩, ⟨bkZ⟩, ⟨bkZ⟩, ⟨bkZ⟩, ⟨zcb41⟩⟩
         case rest =>
          clear HC148
          try clear c1
          try clear p1
          try clear q1
          try clear hx1
          try clear c2
          try clear p2
          try clear c3
          try clear c4
          try clear c5
          try clear c6
          try clear p6
          try clear c7
          try clear c8
          try clear c9
          try clear c10
          try clear c11
          try clear c12
          try clear p12
          try clear q12
          try clear hx12
          try clear c13
          try clear c14
          try clear c15
          try clear c16
          try clear c22
          try clear c24
          try clear c29
          try clear c34
          try clear c35
          try clear c37
          try clear c40
          try clear c41
          try clear c42
          try clear c44
          try clear c44b0
          try clear c45
          try clear c46
          try clear c47
          try clear c50
          try clear c51
          try clear c52
          try clear c54
          try clear c55
          try clear c57
          try clear c57b0
          try clear c58
          try clear c59
          try clear c60
          try clear c62
          try clear c63
          try clear p64
          try clear c66
          try clear c67
          try clear c68
          try clear c70
          try clear c71
          try clear c73
          try clear c73b0
          try clear c74
          try clear c75
          try clear c76
          try clear c78
          try clear c79
          try clear c81
          try clear c82
          try clear c83
          try clear c85
          try clear c85b0
          try clear c86
          try clear c86b0
          try clear c87
          try clear c87b0
          try clear c88
          try clear c88b0
          try clear c89
          try clear c89b0
          try clear c90
          try clear c91
          try clear c92
          try clear c93
          try clear c95
          try clear c96
          try clear c101
          try clear c102
          try clear c103
          try clear c104
          try clear c106
          try clear c107
          try clear c112
          try clear c113
          try clear c114
          try clear c115
          try clear c117
          try clear c118
          try clear c121
          try clear p121
          try clear q121
          try clear hx121
          try clear c122
          try clear p122
          try clear q122
          try clear hx122
          try clear c123
          try clear c125
          try clear c126
          try clear c133
          try clear c134
          try clear c136
          try clear c139
          try clear c140
          try clear c141
          try clear c143
          try clear c143b0
          try clear c144
          try clear c145
          try clear c146
          try clear c149
          try clear c150
          try clear c151
          try clear c153
          try clear c154
          try clear c156
          try clear c156b0
          try clear c157
          try clear c158
          try clear c159
          try clear c161
          try clear c162
          try clear hcz100_0 hcz100_1 hcz100_2 hcz100_3 hcz100_4 hcz100_5
          try clear hcz105_0 hcz105_1 hcz105_2 hcz105_3 hcz105_4 hcz105_5
          try clear hcz108_0 hcz108_1 hcz108_2 hcz108_3 hcz108_4 hcz108_5
          try clear hcz10_0 hcz10_1 hcz10_2 hcz10_3 hcz10_4 hcz10_5
          try clear hcz111_0 hcz111_1 hcz111_2 hcz111_3 hcz111_4 hcz111_5
          try clear hcz116_0 hcz116_1 hcz116_2 hcz116_3 hcz116_4 hcz116_5
          try clear hcz119_0 hcz119_1 hcz119_2 hcz119_3 hcz119_4 hcz119_5
          try clear hcz124_0 hcz124_1 hcz124_2 hcz124_3 hcz124_4 hcz124_5
          try clear hcz127_0 hcz127_1 hcz127_2 hcz127_3 hcz127_4 hcz127_5
          try clear hcz12_0 hcz12_1 hcz12_2 hcz12_3 hcz12_4 hcz12_5
          try clear hcz135_0 hcz135_1 hcz135_2 hcz135_3 hcz135_4 hcz135_5
          try clear hcz137_0 hcz137_1 hcz137_2 hcz137_3 hcz137_4 hcz137_5
          try clear hcz142_0 hcz142_1 hcz142_2 hcz142_3 hcz142_4 hcz142_5
          try clear hcz147_0 hcz147_1 hcz147_2 hcz147_3 hcz147_4 hcz147_5
          try clear hcz14_0 hcz14_1 hcz14_2 hcz14_3 hcz14_4 hcz14_5
          try clear hcz152_0 hcz152_1 hcz152_2 hcz152_3 hcz152_4 hcz152_5
          try clear hcz155_0 hcz155_1 hcz155_2 hcz155_3 hcz155_4 hcz155_5
          try clear hcz160_0 hcz160_1 hcz160_2 hcz160_3 hcz160_4 hcz160_5
          try clear hcz163_0 hcz163_1 hcz163_2 hcz163_3 hcz163_4 hcz163_5
          try clear hcz23_0 hcz23_1 hcz23_2 hcz23_3 hcz23_4 hcz23_5
          try clear hcz25_0 hcz25_1 hcz25_2 hcz25_3 hcz25_4 hcz25_5
          try clear hcz27_0 hcz27_1 hcz27_2 hcz27_3 hcz27_4 hcz27_5
          try clear hcz36_0 hcz36_1 hcz36_2 hcz36_3 hcz36_4 hcz36_5
          try clear hcz38_0 hcz38_1 hcz38_2 hcz38_3 hcz38_4 hcz38_5
          try clear hcz43_0 hcz43_1 hcz43_2 hcz43_3 hcz43_4 hcz43_5
          try clear hcz48_0 hcz48_1 hcz48_2 hcz48_3 hcz48_4 hcz48_5
          try clear hcz53_0 hcz53_1 hcz53_2 hcz53_3 hcz53_4 hcz53_5
          try clear hcz56_0 hcz56_1 hcz56_2 hcz56_3 hcz56_4 hcz56_5
          try clear hcz61_0 hcz61_1 hcz61_2 hcz61_3 hcz61_4 hcz61_5
          try clear hcz64_0 hcz64_1 hcz64_2 hcz64_3 hcz64_4 hcz64_5
          try clear hcz69_0 hcz69_1 hcz69_2 hcz69_3 hcz69_4 hcz69_5
          try clear hcz72_0 hcz72_1 hcz72_2 hcz72_3 hcz72_4 hcz72_5
          try clear hcz77_0 hcz77_1 hcz77_2 hcz77_3 hcz77_4 hcz77_5
          try clear hcz80_0 hcz80_1 hcz80_2 hcz80_3 hcz80_4 hcz80_5
          try clear hcz84_0 hcz84_1 hcz84_2 hcz84_3 hcz84_4 hcz84_5
          try clear hcz94_0 hcz94_1 hcz94_2 hcz94_3 hcz94_4 hcz94_5
          try clear hcz97_0 hcz97_1 hcz97_2 hcz97_3 hcz97_4 hcz97_5
          try clear hfz100_0 hfz100_1 hfz100_2 hfz100_3 hfz100_4 hfz100_5
          try clear hfz105_0 hfz105_1 hfz105_2 hfz105_3 hfz105_4 hfz105_5
          try clear hfz108_0 hfz108_1 hfz108_2 hfz108_3 hfz108_4 hfz108_5
          try clear hfz10_0 hfz10_1 hfz10_2 hfz10_3 hfz10_4 hfz10_5
          try clear hfz111_0 hfz111_1 hfz111_2 hfz111_3 hfz111_4 hfz111_5
          try clear hfz116_0 hfz116_1 hfz116_2 hfz116_3 hfz116_4 hfz116_5
          try clear hfz119_0 hfz119_1 hfz119_2 hfz119_3 hfz119_4 hfz119_5
          try clear hfz124_0 hfz124_1 hfz124_2 hfz124_3 hfz124_4 hfz124_5
          try clear hfz127_0 hfz127_1 hfz127_2 hfz127_3 hfz127_4 hfz127_5
          try clear hfz12_0 hfz12_1 hfz12_2 hfz12_3 hfz12_4 hfz12_5
          try clear hfz135_0 hfz135_1 hfz135_2 hfz135_3 hfz135_4 hfz135_5
          try clear hfz137_0 hfz137_1 hfz137_2 hfz137_3 hfz137_4 hfz137_5
          try clear hfz142_0 hfz142_1 hfz142_2 hfz142_3 hfz142_4 hfz142_5
          try clear hfz147_0 hfz147_1 hfz147_2 hfz147_3 hfz147_4 hfz147_5
          try clear hfz14_0 hfz14_1 hfz14_2 hfz14_3 hfz14_4 hfz14_5
          try clear hfz152_0 hfz152_1 hfz152_2 hfz152_3 hfz152_4 hfz152_5
          try clear hfz155_0 hfz155_1 hfz155_2 hfz155_3 hfz155_4 hfz155_5
          try clear hfz160_0 hfz160_1 hfz160_2 hfz160_3 hfz160_4 hfz160_5
          try clear hfz163_0 hfz163_1 hfz163_2 hfz163_3 hfz163_4 hfz163_5
          try clear hfz23_0 hfz23_1 hfz23_2 hfz23_3 hfz23_4 hfz23_5
          try clear hfz25_0 hfz25_1 hfz25_2 hfz25_3 hfz25_4 hfz25_5
          try clear hfz27_0 hfz27_1 hfz27_2 hfz27_3 hfz27_4 hfz27_5
          try clear hfz36_0 hfz36_1 hfz36_2 hfz36_3 hfz36_4 hfz36_5
          try clear hfz38_0 hfz38_1 hfz38_2 hfz38_3 hfz38_4 hfz38_5
          try clear hfz43_0 hfz43_1 hfz43_2 hfz43_3 hfz43_4 hfz43_5
          try clear hfz48_0 hfz48_1 hfz48_2 hfz48_3 hfz48_4 hfz48_5
          try clear hfz53_0 hfz53_1 hfz53_2 hfz53_3 hfz53_4 hfz53_5
          try clear hfz56_0 hfz56_1 hfz56_2 hfz56_3 hfz56_4 hfz56_5
          try clear hfz61_0 hfz61_1 hfz61_2 hfz61_3 hfz61_4 hfz61_5
          try clear hfz64_0 hfz64_1 hfz64_2 hfz64_3 hfz64_4 hfz64_5
          try clear hfz69_0 hfz69_1 hfz69_2 hfz69_3 hfz69_4 hfz69_5
          try clear hfz72_0 hfz72_1 hfz72_2 hfz72_3 hfz72_4 hfz72_5
          try clear hfz77_0 hfz77_1 hfz77_2 hfz77_3 hfz77_4 hfz77_5
          try clear hfz80_0 hfz80_1 hfz80_2 hfz80_3 hfz80_4 hfz80_5
          try clear hfz84_0 hfz84_1 hfz84_2 hfz84_3 hfz84_4 hfz84_5
          try clear hfz94_0 hfz94_1 hfz94_2 hfz94_3 hfz94_4 hfz94_5
          try clear hfz97_0 hfz97_1 hfz97_2 hfz97_3 hfz97_4 hfz97_5
          try clear hx121_0
          try clear hx122_0
          try clear p121
          try clear p122
          try clear p2
          try clear p6
          try clear p64
          try clear q121
          try clear q122
          obtain ⟨kq, x90006002_147, HA, HJ147, BK90002, BK90003, BK90004, BK90005, HB⟩ := hcut
          cases kq with
          | zero => exact absurd HA.out (by simp [spec_l4Join.j5])
          | succ kj147 =>
           have H := HA.out
           clear HA
           simp only [spec_l4Join.j5] at H
           have HC164 := aM H
           clear H
           have hnb165 := NB90003_90002.out
           have hnc165 := NB90002_90003.out
           have hnb166 := NB90003_90004.out
           have hnc166 := NB90004_90003.out
           have hnb167 := NB90003_90005.out
           have hnc167 := NB90005_90003.out
           obtain ⟨hcz168_0, hcz168_1, hcz168_2, hcz168_3, hcz168_4, hcz168_5, hfz168_0, hfz168_1, hfz168_2, hfz168_3, hfz168_4, hfz168_5⟩ := cellsZ6 BK90003.out
           have hnb169 := NB90005_90002.out
           have hnc169 := NB90002_90005.out
           have hnb170 := NB90005_90004.out
           have hnc170 := NB90004_90005.out
           obtain ⟨hcz171_0, hcz171_1, hcz171_2, hcz171_3, hcz171_4, hcz171_5, hfz171_0, hfz171_1, hfz171_2, hfz171_3, hfz171_4, hfz171_5⟩ := cellsZ6 BK90005.out
           go_upto_if 57 with (fail)
           go_cut [] (fun wc => ∃ (kq : Nat) (x90006003_163 : Int), Aside0 (spec_l4Join.j6 kq a0_0 a0_1 a0_2 a0_3 l0_4 false a1_0 a1_1 a1_2 a1_3 l1_4 a1_5 x90006000_128 (wrap64 (a0_1 + a1_1)) x90006002_147 x90006003_163 x90006005_128 = some (r1, r2, r3, r4, r5, r6)) ∧ Aside0 (kq ≤ kj147) ∧ Aside0 (wc.heap[gb90002]? = some (.cells #[.int .i64 a0_0, .int .i64 a0_1, .int .i64 a0_2, .int .i64 a0_3, (.slice A0_4 l0_4.length c0_4), .bool false] 54 (0, 0))) ∧ Aside0 (wc.heap[gb90003]? = some (.cells #[.int .i64 a1_0, .int .i64 a1_1, .int .i64 a1_2, .int .i64 a1_3, (.slice A1_4 l1_4.length c1_4), .bool a1_5] 54 (0, 0))) ∧ Aside0 (wc.heap[gb90004]? = some (.cells #[.int .i64 0, .int .i64 0, .int .i64 0, .int .i64 0, (.slice none 0 0), .bool false] 54 (0, 0))) ∧ Aside0 (wc.heap[gb90005]? = some (.cells #[.int .i64 x90006000_128, .int .i64 (wrap64 (a0_1 + a1_1)), .int .i64 x90006002_147, .int .i64 x90006003_163, (.slice none 0 0), .bool x90006005_128] 54 (0, 0))) ∧ Aside0 (Below w.heap.size w wc))
           case first =>
            have H := HC164.out
            clear HC164
            by_cases c172 : a1_3 > a0_3
            · rw [if_pos c172] at H
              have c172b0 : decide (a0_3 < a1_3) = true := decide_eq_true c172
              clear c172
              (first | rw [c172b0] | (simp only [i64_w, i32_w]; rw [c172b0]) | skip)
              have H' := aM H
              clear H
              have hnb173 := NB90003_90002.out
              have hnc173 := NB90002_90003.out
              have hnb174 := NB90003_90004.out
              have hnc174 := NB90004_90003.out
              have hnb175 := NB90003_90005.out
              have hnc175 := NB90005_90003.out
              obtain ⟨hcz176_0, hcz176_1, hcz176_2, hcz176_3, hcz176_4, hcz176_5, hfz176_0, hfz176_1, hfz176_2, hfz176_3, hfz176_4, hfz176_5⟩ := cellsZ6 BK90003.out
              have hnb177 := NB90005_90002.out
              have hnc177 := NB90002_90005.out
              have hnb178 := NB90005_90004.out
              have hnc178 := NB90004_90005.out
              obtain ⟨hcz179_0, hcz179_1, hcz179_2, hcz179_3, hcz179_4, hcz179_5, hfz179_0, hfz179_1, hfz179_2, hfz179_3, hfz179_4, hfz179_5⟩ := cellsZ6 BK90005.out
              go_wp2
              go_meet
              case rel => exact ⟨_, (a1_3), H', ⟨by have := HJ128.out; have := HJ147.out; first | omega | exact Nat.le_refl _⟩, ⟨bkZ⟩, ⟨bkZ⟩, ⟨bkZ⟩, ⟨bkZ⟩, ⟨zcb41⟩⟩
            · rw [if_neg c172] at H
              have c172b0 : decide (a0_3 < a1_3) = false := decide_eq_false c172
              clear c172
              (first | rw [c172b0] | (simp only [i64_w, i32_w]; rw [c172b0]) | skip)
              have H' := aM H
              clear H
              go_wp2
              go_meet
              case rel => exact ⟨_, (a0_3), H', ⟨by have := HJ128.out; have := HJ147.out; first | omega | exact Nat.le_refl _⟩, ⟨bkZ⟩, ⟨bkZ⟩, ⟨bkZ⟩, ⟨bkZ⟩, ⟨zcb41⟩⟩
           case rest =>
            clear HC164
            try clear c1
            try clear p1
            try clear q1
            try clear hx1
            try clear p2
            try clear p6
            try clear c10
            try clear c11
            try clear c12
            try clear p12
            try clear q12
            try clear hx12
            try clear c13
            try clear c14
            try clear c15
            try clear c16
            try clear c17
            try clear p64
            try clear c103
            try clear c104
            try clear c106
            try clear c107
            try clear c112
            try clear c113
            try clear c114
            try clear c115
            try clear c117
            try clear c118
            try clear c121
            try clear p121
            try clear q121
            try clear hx121
            try clear c122
            try clear p122
            try clear q122
            try clear hx122
            try clear c123
            try clear c125
            try clear c126
            try clear c133
            try clear c134
            try clear c136
            try clear c139
            try clear c140
            try clear c141
            try clear c143
            try clear c143b0
            try clear c144
            try clear c145
            try clear c146
            try clear c149
            try clear c150
            try clear c151
            try clear c153
            try clear c154
            try clear c156
            try clear c156b0
            try clear c157
            try clear c158
            try clear c159
            try clear c161
            try clear c162
            try clear c165
            try clear c166
            try clear c167
            try clear c169
            try clear c170
            try clear c172
            try clear c172b0
            try clear c173
            try clear c174
            try clear c175
            try clear c177
            try clear c178
            try clear hcz100_0 hcz100_1 hcz100_2 hcz100_3 hcz100_4 hcz100_5
            try clear hcz105_0 hcz105_1 hcz105_2 hcz105_3 hcz105_4 hcz105_5
            try clear hcz108_0 hcz108_1 hcz108_2 hcz108_3 hcz108_4 hcz108_5
            try clear hcz10_0 hcz10_1 hcz10_2 hcz10_3 hcz10_4 hcz10_5
            try clear hcz111_0 hcz111_1 hcz111_2 hcz111_3 hcz111_4 hcz111_5
            try clear hcz116_0 hcz116_1 hcz116_2 hcz116_3 hcz116_4 hcz116_5
            try clear hcz119_0 hcz119_1 hcz119_2 hcz119_3 hcz119_4 hcz119_5
            try clear hcz124_0 hcz124_1 hcz124_2 hcz124_3 hcz124_4 hcz124_5
            try clear hcz127_0 hcz127_1 hcz127_2 hcz127_3 hcz127_4 hcz127_5
            try clear hcz12_0 hcz12_1 hcz12_2 hcz12_3 hcz12_4 hcz12_5
            try clear hcz135_0 hcz135_1 hcz135_2 hcz135_3 hcz135_4 hcz135_5
            try clear hcz137_0 hcz137_1 hcz137_2 hcz137_3 hcz137_4 hcz137_5
            try clear hcz142_0 hcz142_1 hcz142_2 hcz142_3 hcz142_4 hcz142_5
            try clear hcz147_0 hcz147_1 hcz147_2 hcz147_3 hcz147_4 hcz147_5
            try clear hcz14_0 hcz14_1 hcz14_2 hcz14_3 hcz14_4 hcz14_5
            try clear hcz152_0 hcz152_1 hcz152_2 hcz152_3 hcz152_4 hcz152_5
            try clear hcz155_0 hcz155_1 hcz155_2 hcz155_3 hcz155_4 hcz155_5
            try clear hcz160_0 hcz160_1 hcz160_2 hcz160_3 hcz160_4 hcz160_5
            try clear hcz163_0 hcz163_1 hcz163_2 hcz163_3 hcz163_4 hcz163_5
            try clear hcz168_0 hcz168_1 hcz168_2 hcz168_3 hcz168_4 hcz168_5
            try clear hcz171_0 hcz171_1 hcz171_2 hcz171_3 hcz171_4 hcz171_5
            try clear hcz176_0 hcz176_1 hcz176_2 hcz176_3 hcz176_4 hcz176_5
            try clear hcz179_0 hcz179_1 hcz179_2 hcz179_3 hcz179_4 hcz179_5
            try clear hcz23_0 hcz23_1 hcz23_2 hcz23_3 hcz23_4 hcz23_5
            try clear hcz25_0 hcz25_1 hcz25_2 hcz25_3 hcz25_4 hcz25_5
            try clear hcz27_0 hcz27_1 hcz27_2 hcz27_3 hcz27_4 hcz27_5
            try clear hcz36_0 hcz36_1 hcz36_2 hcz36_3 hcz36_4 hcz36_5
            try clear hcz38_0 hcz38_1 hcz38_2 hcz38_3 hcz38_4 hcz38_5
            try clear hcz43_0 hcz43_1 hcz43_2 hcz43_3 hcz43_4 hcz43_5
            try clear hcz48_0 hcz48_1 hcz48_2 hcz48_3 hcz48_4 hcz48_5
            try clear hcz53_0 hcz53_1 hcz53_2 hcz53_3 hcz53_4 hcz53_5
            try clear hcz56_0 hcz56_1 hcz56_2 hcz56_3 hcz56_4 hcz56_5
            try clear hcz61_0 hcz61_1 hcz61_2 hcz61_3 hcz61_4 hcz61_5
            try clear hcz64_0 hcz64_1 hcz64_2 hcz64_3 hcz64_4 hcz64_5
            try clear hcz69_0 hcz69_1 hcz69_2 hcz69_3 hcz69_4 hcz69_5
            try clear hcz72_0 hcz72_1 hcz72_2 hcz72_3 hcz72_4 hcz72_5
            try clear hcz77_0 hcz77_1 hcz77_2 hcz77_3 hcz77_4 hcz77_5
            try clear hcz80_0 hcz80_1 hcz80_2 hcz80_3 hcz80_4 hcz80_5
            try clear hcz84_0 hcz84_1 hcz84_2 hcz84_3 hcz84_4 hcz84_5
            try clear hcz94_0 hcz94_1 hcz94_2 hcz94_3 hcz94_4 hcz94_5
            try clear hcz97_0 hcz97_1 hcz97_2 hcz97_3 hcz97_4 hcz97_5
            try clear hfz100_0 hfz100_1 hfz100_2 hfz100_3 hfz100_4 hfz100_5
            try clear hfz105_0 hfz105_1 hfz105_2 hfz105_3 hfz105_4 hfz105_5
            try clear hfz108_0 hfz108_1 hfz108_2 hfz108_3 hfz108_4 hfz108_5
            try clear hfz10_0 hfz10_1 hfz10_2 hfz10_3 hfz10_4 hfz10_5
            try clear hfz111_0 hfz111_1 hfz111_2 hfz111_3 hfz111_4 hfz111_5
            try clear hfz116_0 hfz116_1 hfz116_2 hfz116_3 hfz116_4 hfz116_5
            try clear hfz119_0 hfz119_1 hfz119_2 hfz119_3 hfz119_4 hfz119_5
            try clear hfz124_0 hfz124_1 hfz124_2 hfz124_3 hfz124_4 hfz124_5
            try clear hfz127_0 hfz127_1 hfz127_2 hfz127_3 hfz127_4 hfz127_5
            try clear hfz12_0 hfz12_1 hfz12_2 hfz12_3 hfz12_4 hfz12_5
            try clear hfz135_0 hfz135_1 hfz135_2 hfz135_3 hfz135_4 hfz135_5
            try clear hfz137_0 hfz137_1 hfz137_2 hfz137_3 hfz137_4 hfz137_5
            try clear hfz142_0 hfz142_1 hfz142_2 hfz142_3 hfz142_4 hfz142_5
            try clear hfz147_0 hfz147_1 hfz147_2 hfz147_3 hfz147_4 hfz147_5
            try clear hfz14_0 hfz14_1 hfz14_2 hfz14_3 hfz14_4 hfz14_5
            try clear hfz152_0 hfz152_1 hfz152_2 hfz152_3 hfz152_4 hfz152_5
            try clear hfz155_0 hfz155_1 hfz155_2 hfz155_3 hfz155_4 hfz155_5
            try clear hfz160_0 hfz160_1 hfz160_2 hfz160_3 hfz160_4 hfz160_5
            try clear hfz163_0 hfz163_1 hfz163_2 hfz163_3 hfz163_4 hfz163_5
            try clear hfz168_0 hfz168_1 hfz168_2 hfz168_3 hfz168_4 hfz168_5
            try clear hfz171_0 hfz171_1 hfz171_2 hfz171_3 hfz171_4 hfz171_5
            try clear hfz176_0 hfz176_1 hfz176_2 hfz176_3 hfz176_4 hfz176_5
            try clear hfz179_0 hfz179_1 hfz179_2 hfz179_3 hfz179_4 hfz179_5
            try clear hfz23_0 hfz23_1 hfz23_2 hfz23_3 hfz23_4 hfz23_5
            try clear hfz25_0 hfz25_1 hfz25_2 hfz25_3 hfz25_4 hfz25_5
            try clear hfz27_0 hfz27_1 hfz27_2 hfz27_3 hfz27_4 hfz27_5
            try clear hfz36_0 hfz36_1 hfz36_2 hfz36_3 hfz36_4 hfz36_5
            try clear hfz38_0 hfz38_1 hfz38_2 hfz38_3 hfz38_4 hfz38_5
            try clear hfz43_0 hfz43_1 hfz43_2 hfz43_3 hfz43_4 hfz43_5
            try clear hfz48_0 hfz48_1 hfz48_2 hfz48_3 hfz48_4 hfz48_5
            try clear hfz53_0 hfz53_1 hfz53_2 hfz53_3 hfz53_4 hfz53_5
            try clear hfz56_0 hfz56_1 hfz56_2 hfz56_3 hfz56_4 hfz56_5
            try clear hfz61_0 hfz61_1 hfz61_2 hfz61_3 hfz61_4 hfz61_5
            try clear hfz64_0 hfz64_1 hfz64_2 hfz64_3 hfz64_4 hfz64_5
            try clear hfz69_0 hfz69_1 hfz69_2 hfz69_3 hfz69_4 hfz69_5
            try clear hfz72_0 hfz72_1 hfz72_2 hfz72_3 hfz72_4 hfz72_5
            try clear hfz77_0 hfz77_1 hfz77_2 hfz77_3 hfz77_4 hfz77_5
            try clear hfz80_0 hfz80_1 hfz80_2 hfz80_3 hfz80_4 hfz80_5
            try clear hfz84_0 hfz84_1 hfz84_2 hfz84_3 hfz84_4 hfz84_5
            try clear hfz94_0 hfz94_1 hfz94_2 hfz94_3 hfz94_4 hfz94_5
            try clear hfz97_0 hfz97_1 hfz97_2 hfz97_3 hfz97_4 hfz97_5
            try clear hx121_0
            try clear hx122_0
            try clear p121
            try clear p122
            try clear p2
            try clear p6
            try clear p64
            try clear q121
            try clear q122
            obtain ⟨kq, x90006003_163, HA, HJ163, BK90002, BK90003, BK90004, BK90005, HB⟩ := hcut
            cases kq with
            | zero => exact absurd HA.out (by simp [spec_l4Join.j6])
            | succ kj163 =>
             have H := HA.out
             clear HA
             simp only [spec_l4Join.j6] at H
             have H' := aM H
             clear H
             have hnb180 := NB90002_90003.out
             have hnc180 := NB90003_90002.out
             have hnb181 := NB90002_90004.out
             have hnc181 := NB90004_90002.out
             have hnb182 := NB90002_90005.out
             have hnc182 := NB90005_90002.out
             obtain ⟨hcz183_0, hcz183_1, hcz183_2, hcz183_3, hcz183_4, hcz183_5, hfz183_0, hfz183_1, hfz183_2, hfz183_3, hfz183_4, hfz183_5⟩ := cellsZ6 BK90002.out
             go_wp2
             go_loopg [64] kj163 (fun kq v64 w' => ∃ (x64_4 : Int) (x90006004_4 : List Int) (x90006005_4 : Bool) (u90006004 : Value), v64 = .int .i64 x64_4 ∧ Aside0 (spec_l4Join.l0 kq l0_4 (l0_4.length : Int) x64_4 a1_0 a1_1 a1_2 a1_3 l1_4 a1_5 x90006000_128 (wrap64 (a0_1 + a1_1)) x90006002_147 x90006003_163 x90006004_4 x90006005_4 = some (r1, r2, r3, r4, r5, r6)) ∧ Aside0 (kq ≤ kj163) ∧ Aside0 (Kd.R (Kd.int .i64) 3 w' w.heap.size (fun _ => True) u90006004 x90006004_4) ∧ Aside0 (w'.heap[gb90002]? = some (.cells #[.int .i64 a0_0, .int .i64 a0_1, .int .i64 a0_2, .int .i64 a0_3, (.slice A0_4 l0_4.length c0_4), .bool false] 54 (0, 0))) ∧ Aside0 (w'.heap[gb90003]? = some (.cells #[.int .i64 a1_0, .int .i64 a1_1, .int .i64 a1_2, .int .i64 a1_3, (.slice A1_4 l1_4.length c1_4), .bool a1_5] 54 (0, 0))) ∧ Aside0 (w'.heap[gb90004]? = some (.cells #[.int .i64 0, .int .i64 0, .int .i64 0, .int .i64 0, (.slice none 0 0), .bool false] 54 (0, 0))) ∧ Aside0 (w'.heap[gb90005]? = some (.cells #[.int .i64 x90006000_128, .int .i64 (wrap64 (a0_1 + a1_1)), .int .i64 x90006002_147, .int .i64 x90006003_163, u90006004, .bool x90006005_4] 54 (0, 0))) ∧ Aside0 (Below w.heap.size w w'))
             case atStart => exact ⟨(0), (([] : List Int)), (x90006005_128), (.slice none 0 0), z4458, H', ⟨Nat.le_refl _⟩, ⟨z02fa⟩, ⟨bkZ⟩, ⟨bkZ⟩, ⟨bkZ⟩, ⟨bkZ⟩, ⟨zcb41⟩⟩
             case round =>
              clear H'
              try clear c1
              try clear p1
              try clear q1
              try clear hx1
              try clear p2
              try clear p6
              try clear c10
              try clear c11
              try clear c12
              try clear p12
              try clear q12
              try clear hx12
              try clear c13
              try clear c14
              try clear c15
              try clear c16
              try clear c17
              try clear c18
              try clear p64
              try clear c103
              try clear c104
              try clear c106
              try clear c107
              try clear c112
              try clear c113
              try clear c114
              try clear c115
              try clear c117
              try clear c118
              try clear c121
              try clear p121
              try clear q121
              try clear hx121
              try clear c122
              try clear p122
              try clear q122
              try clear hx122
              try clear c123
              try clear c125
              try clear c126
              try clear c133
              try clear c134
              try clear c136
              try clear c139
              try clear c140
              try clear c141
              try clear c143
              try clear c143b0
              try clear c144
              try clear c145
              try clear c146
              try clear c149
              try clear c150
              try clear c151
              try clear c153
              try clear c154
              try clear c156
              try clear c156b0
              try clear c157
              try clear c158
              try clear c159
              try clear c161
              try clear c162
              try clear c165
              try clear c166
              try clear c167
              try clear c169
              try clear c170
              try clear c172
              try clear c172b0
              try clear c173
              try clear c174
              try clear c175
              try clear c177
              try clear c178
              try clear c180
              try clear c181
              try clear c182
              try clear hcz100_0 hcz100_1 hcz100_2 hcz100_3 hcz100_4 hcz100_5
              try clear hcz105_0 hcz105_1 hcz105_2 hcz105_3 hcz105_4 hcz105_5
              try clear hcz108_0 hcz108_1 hcz108_2 hcz108_3 hcz108_4 hcz108_5
              try clear hcz10_0 hcz10_1 hcz10_2 hcz10_3 hcz10_4 hcz10_5
              try clear hcz111_0 hcz111_1 hcz111_2 hcz111_3 hcz111_4 hcz111_5
              try clear hcz116_0 hcz116_1 hcz116_2 hcz116_3 hcz116_4 hcz116_5
              try clear hcz119_0 hcz119_1 hcz119_2 hcz119_3 hcz119_4 hcz119_5
              try clear hcz124_0 hcz124_1 hcz124_2 hcz124_3 hcz124_4 hcz124_5
              try clear hcz127_0 hcz127_1 hcz127_2 hcz127_3 hcz127_4 hcz127_5
              try clear hcz12_0 hcz12_1 hcz12_2 hcz12_3 hcz12_4 hcz12_5
              try clear hcz135_0 hcz135_1 hcz135_2 hcz135_3 hcz135_4 hcz135_5
              try clear hcz137_0 hcz137_1 hcz137_2 hcz137_3 hcz137_4 hcz137_5
              try clear hcz142_0 hcz142_1 hcz142_2 hcz142_3 hcz142_4 hcz142_5
              try clear hcz147_0 hcz147_1 hcz147_2 hcz147_3 hcz147_4 hcz147_5
              try clear hcz14_0 hcz14_1 hcz14_2 hcz14_3 hcz14_4 hcz14_5
              try clear hcz152_0 hcz152_1 hcz152_2 hcz152_3 hcz152_4 hcz152_5
              try clear hcz155_0 hcz155_1 hcz155_2 hcz155_3 hcz155_4 hcz155_5
              try clear hcz160_0 hcz160_1 hcz160_2 hcz160_3 hcz160_4 hcz160_5
              try clear hcz163_0 hcz163_1 hcz163_2 hcz163_3 hcz163_4 hcz163_5
              try clear hcz168_0 hcz168_1 hcz168_2 hcz168_3 hcz168_4 hcz168_5
              try clear hcz171_0 hcz171_1 hcz171_2 hcz171_3 hcz171_4 hcz171_5
              try clear hcz176_0 hcz176_1 hcz176_2 hcz176_3 hcz176_4 hcz176_5
              try clear hcz179_0 hcz179_1 hcz179_2 hcz179_3 hcz179_4 hcz179_5
              try clear hcz183_0 hcz183_1 hcz183_2 hcz183_3 hcz183_4 hcz183_5
              try clear hcz23_0 hcz23_1 hcz23_2 hcz23_3 hcz23_4 hcz23_5
              try clear hcz25_0 hcz25_1 hcz25_2 hcz25_3 hcz25_4 hcz25_5
              try clear hcz27_0 hcz27_1 hcz27_2 hcz27_3 hcz27_4 hcz27_5
              try clear hcz36_0 hcz36_1 hcz36_2 hcz36_3 hcz36_4 hcz36_5
              try clear hcz38_0 hcz38_1 hcz38_2 hcz38_3 hcz38_4 hcz38_5
              try clear hcz43_0 hcz43_1 hcz43_2 hcz43_3 hcz43_4 hcz43_5
              try clear hcz48_0 hcz48_1 hcz48_2 hcz48_3 hcz48_4 hcz48_5
              try clear hcz53_0 hcz53_1 hcz53_2 hcz53_3 hcz53_4 hcz53_5
              try clear hcz56_0 hcz56_1 hcz56_2 hcz56_3 hcz56_4 hcz56_5
              try clear hcz61_0 hcz61_1 hcz61_2 hcz61_3 hcz61_4 hcz61_5
              try clear hcz64_0 hcz64_1 hcz64_2 hcz64_3 hcz64_4 hcz64_5
              try clear hcz69_0 hcz69_1 hcz69_2 hcz69_3 hcz69_4 hcz69_5
              try clear hcz72_0 hcz72_1 hcz72_2 hcz72_3 hcz72_4 hcz72_5
              try clear hcz77_0 hcz77_1 hcz77_2 hcz77_3 hcz77_4 hcz77_5
              try clear hcz80_0 hcz80_1 hcz80_2 hcz80_3 hcz80_4 hcz80_5
              try clear hcz84_0 hcz84_1 hcz84_2 hcz84_3 hcz84_4 hcz84_5
              try clear hcz94_0 hcz94_1 hcz94_2 hcz94_3 hcz94_4 hcz94_5
              try clear hcz97_0 hcz97_1 hcz97_2 hcz97_3 hcz97_4 hcz97_5
              try clear hfz100_0 hfz100_1 hfz100_2 hfz100_3 hfz100_4 hfz100_5
              try clear hfz105_0 hfz105_1 hfz105_2 hfz105_3 hfz105_4 hfz105_5
              try clear hfz108_0 hfz108_1 hfz108_2 hfz108_3 hfz108_4 hfz108_5
              try clear hfz10_0 hfz10_1 hfz10_2 hfz10_3 hfz10_4 hfz10_5
              try clear hfz111_0 hfz111_1 hfz111_2 hfz111_3 hfz111_4 hfz111_5
              try clear hfz116_0 hfz116_1 hfz116_2 hfz116_3 hfz116_4 hfz116_5
              try clear hfz119_0 hfz119_1 hfz119_2 hfz119_3 hfz119_4 hfz119_5
              try clear hfz124_0 hfz124_1 hfz124_2 hfz124_3 hfz124_4 hfz124_5
              try clear hfz127_0 hfz127_1 hfz127_2 hfz127_3 hfz127_4 hfz127_5
              try clear hfz12_0 hfz12_1 hfz12_2 hfz12_3 hfz12_4 hfz12_5
              try clear hfz135_0 hfz135_1 hfz135_2 hfz135_3 hfz135_4 hfz135_5
              try clear hfz137_0 hfz137_1 hfz137_2 hfz137_3 hfz137_4 hfz137_5
              try clear hfz142_0 hfz142_1 hfz142_2 hfz142_3 hfz142_4 hfz142_5
              try clear hfz147_0 hfz147_1 hfz147_2 hfz147_3 hfz147_4 hfz147_5
              try clear hfz14_0 hfz14_1 hfz14_2 hfz14_3 hfz14_4 hfz14_5
              try clear hfz152_0 hfz152_1 hfz152_2 hfz152_3 hfz152_4 hfz152_5
              try clear hfz155_0 hfz155_1 hfz155_2 hfz155_3 hfz155_4 hfz155_5
              try clear hfz160_0 hfz160_1 hfz160_2 hfz160_3 hfz160_4 hfz160_5
              try clear hfz163_0 hfz163_1 hfz163_2 hfz163_3 hfz163_4 hfz163_5
              try clear hfz168_0 hfz168_1 hfz168_2 hfz168_3 hfz168_4 hfz168_5
              try clear hfz171_0 hfz171_1 hfz171_2 hfz171_3 hfz171_4 hfz171_5
              try clear hfz176_0 hfz176_1 hfz176_2 hfz176_3 hfz176_4 hfz176_5
              try clear hfz179_0 hfz179_1 hfz179_2 hfz179_3 hfz179_4 hfz179_5
              try clear hfz183_0 hfz183_1 hfz183_2 hfz183_3 hfz183_4 hfz183_5
              try clear hfz23_0 hfz23_1 hfz23_2 hfz23_3 hfz23_4 hfz23_5
              try clear hfz25_0 hfz25_1 hfz25_2 hfz25_3 hfz25_4 hfz25_5
              try clear hfz27_0 hfz27_1 hfz27_2 hfz27_3 hfz27_4 hfz27_5
              try clear hfz36_0 hfz36_1 hfz36_2 hfz36_3 hfz36_4 hfz36_5
              try clear hfz38_0 hfz38_1 hfz38_2 hfz38_3 hfz38_4 hfz38_5
              try clear hfz43_0 hfz43_1 hfz43_2 hfz43_3 hfz43_4 hfz43_5
              try clear hfz48_0 hfz48_1 hfz48_2 hfz48_3 hfz48_4 hfz48_5
              try clear hfz53_0 hfz53_1 hfz53_2 hfz53_3 hfz53_4 hfz53_5
              try clear hfz56_0 hfz56_1 hfz56_2 hfz56_3 hfz56_4 hfz56_5
              try clear hfz61_0 hfz61_1 hfz61_2 hfz61_3 hfz61_4 hfz61_5
              try clear hfz64_0 hfz64_1 hfz64_2 hfz64_3 hfz64_4 hfz64_5
              try clear hfz69_0 hfz69_1 hfz69_2 hfz69_3 hfz69_4 hfz69_5
              try clear hfz72_0 hfz72_1 hfz72_2 hfz72_3 hfz72_4 hfz72_5
              try clear hfz77_0 hfz77_1 hfz77_2 hfz77_3 hfz77_4 hfz77_5
              try clear hfz80_0 hfz80_1 hfz80_2 hfz80_3 hfz80_4 hfz80_5
              try clear hfz84_0 hfz84_1 hfz84_2 hfz84_3 hfz84_4 hfz84_5
              try clear hfz94_0 hfz94_1 hfz94_2 hfz94_3 hfz94_4 hfz94_5
              try clear hfz97_0 hfz97_1 hfz97_2 hfz97_3 hfz97_4 hfz97_5
              try clear hx121_0
              try clear hx122_0
              try clear p12
              try clear p121
              try clear p122
              try clear p2
              try clear p6
              try clear p64
              try clear q12
              try clear q121
              try clear q122
              obtain ⟨x64_4, x90006004_4, x90006005_4, u90006004, rfl, HA, HK4, HO_90006004, BK90002, BK90003, BK90004, BK90005, HB⟩ := hrel
              cases gk with
              | zero => exact absurd HA.out (by simp [spec_l4Join.l0])
              | succ k4 =>
               have H := HA.out
               clear HA
               simp only [spec_l4Join.l0] at H
               by_cases c184 : x64_4 < (l0_4.length : Int)
               · rw [if_pos c184] at H
                 have c184b0 : decide (x64_4 < (l0_4.length : Int)) = true := decide_eq_true c184
                 clear c184
                 by_cases c185 : 0 ≤ x64_4
                 · rw [if_pos c185] at H
                   have c185b0 : decide (0 ≤ x64_4) = true := decide_eq_true c185
                   clear c185
                   by_cases c186 : x64_4 < (l0_4.length : Int)
                   · rw [if_pos c186] at H
                     have c186b0 : decide (x64_4 < (l0_4.length : Int)) = true := decide_eq_true c186
                     clear c186
                     by_cases c187 : x64_4 < (l1_4.length : Int)
                     · rw [if_pos c187] at H
                       have c187b0 : decide (x64_4 < (l1_4.length : Int)) = true := decide_eq_true c187
                       clear c187
                       by_cases c188 : (wrap64 ((rd l0_4 x64_4) + (rd l1_4 x64_4))) > 1000000000
                       · rw [if_pos c188] at H
                         have c188b0 : decide (1000000000 < (wrap64 ((rd l0_4 x64_4) + (rd l1_4 x64_4)))) = true := decide_eq_true c188
                         clear c188
                         by_cases c189 : x90006004_4.length < 17592186044416
                         · rw [if_pos c189] at H
                           have LMc189 := aM c189
                           clear c189
                           obtain ⟨y123, hy123⟩ : ∃ y_ : List Int, y_ = (x90006004_4 ++ [1000000000]) := ⟨_, rfl⟩
                           replace H : (spec_l4Join.l0 k4 l0_4 (l0_4.length : Int) (wrap64 (x64_4 + 1)) a1_0 a1_1 a1_2 a1_3 l1_4 a1_5 x90006000_128 (wrap64 (a0_1 + a1_1)) x90006002_147 x90006003_163 y123 true) = some (r1, r2, r3, r4, r5, r6) := by first | (rw [hy123]; with_reducible exact H) | (have H2_ := (Option.bind_some _ _).symm.trans H; rw [hy123]; with_reducible exact H2_) | (have H2_ := (Option.bind_some _ _).symm.trans H; with_reducible exact H2_) | with_reducible exact H | (rw [hy123]; exact H) | exact H
                           have Ny123 := aM hy123
                           clear hy123
                           have H' := aM H
                           clear H
                           have p121 : 0 ≤ (x64_4 : Int) := of_decide_eq_true z1200
                           have q121 : x64_4 < (l0_4.length : Int) := of_decide_eq_true z1200
                           obtain ⟨ad121, e121, hx121_0⟩ := Kd.at_int HR0_4.out x64_4 p121 q121
                           cases e121
                           replace hx121_0 := (HB.out.cell (World.block_lt_of_cell? w _ hx121_0)).trans hx121_0
                           replace p121 := eq_true p121
                           replace q121 := eq_true q121
                           have hnb190 := NB90003_90002.out
                           have hnc190 := NB90002_90003.out
                           have hnb191 := NB90003_90004.out
                           have hnc191 := NB90004_90003.out
                           have hnb192 := NB90003_90005.out
                           have hnc192 := NB90005_90003.out
                           obtain ⟨hcz193_0, hcz193_1, hcz193_2, hcz193_3, hcz193_4, hcz193_5, hfz193_0, hfz193_1, hfz193_2, hfz193_3, hfz193_4, hfz193_5⟩ := cellsZ6 BK90003.out
                           have p122 : 0 ≤ (x64_4 : Int) := of_decide_eq_true z1200
                           have q122 : x64_4 < (l1_4.length : Int) := of_decide_eq_true z1200
                           obtain ⟨ad122, e122, hx122_0⟩ := Kd.at_int HR1_4.out x64_4 p122 q122
                           cases e122
                           replace hx122_0 := (HB.out.cell (World.block_lt_of_cell? w _ hx122_0)).trans hx122_0
                           replace p122 := eq_true p122
                           replace q122 := eq_true q122
                           have hnb194 := NB90005_90002.out
                           have hnc194 := NB90002_90005.out
                           have hnb195 := NB90005_90004.out
                           have hnc195 := NB90004_90005.out
                           obtain ⟨hcz196_0, hcz196_1, hcz196_2, hcz196_3, hcz196_4, hcz196_5, hfz196_0, hfz196_1, hfz196_2, hfz196_3, hfz196_4, hfz196_5⟩ := cellsZ6 BK90005.out
                           go_wp2_with (first | ((with_reducible refine gate_builtin (b := .append) (xs := #[.tmp 80, .tmp 82]) rfl ?_); at_builtin; refine Kd.R_append (Kd.int .i64) (w0 := w) w.heap.size rfl (.tmp 80) (.tmp 82) 52 3 (.int .i64 0) 8 rfl Try.underlying52 info3 rfl (by decide) (by omega) u90006004 x90006004_4 1000000000 [.int .i64 1000000000] (fun _ => True) (fun _ => False) rfl (by first | (go_simp; done) | (go_simp; rfl)) ?aP (fun _ hk => hk.elim) ?aF ?aO ?aB ?aS ?aL ?_; (case aP => exact rfl); (case aB => exact hbZ); (case aF => exact (fun _ _ => trivial)); (case aO => exact (by (with_reducible repeat (first | apply Kd.R_alloc | apply Kd.R_drewN | apply Kd.R_drew)); exact Kd.R_mono (Kd.R_far (p := ⟨gb90005, 5, none⟩) (Kd.R_types HO_90006004.out BK90005.out (by decide)) (fun _ hk => hk.2) (.bool true)) (fun _ hk => trivial))); (case aS => exact (below_size hbZ)); (case aL => have := LMc189.out; omega); intro v124 w197 ho hb hg hat; rw [← Ny123.out] at ho; have _ := aM (blk_grown (g := gb90002) bkZ hg (Kd.R_ne HO_90006004.out BK90002.out (by decide))); have _ := aM (blk_grown (g := gb90003) bkZ hg (Kd.R_ne HO_90006004.out BK90003.out (by decide))); have _ := aM (blk_grown (g := gb90004) bkZ hg (Kd.R_ne HO_90006004.out BK90004.out (by decide))); have _ := aM (blk_grown (g := gb90005) (o := .cells #[.int .i64 x90006000_128, .int .i64 (wrap64 (a0_1 + a1_1)), .int .i64 x90006002_147, .int .i64 x90006003_163, u90006004, .bool true] 54 (0, 0)) bkZ hg (Kd.R_ne HO_90006004.out BK90005.out (by decide))); have _ := aM hb; have _ := aM ho; clear BK90002 BK90003 BK90004 BK90005 HB HO_90006004; rename_i BK90002 BK90003 BK90004 BK90005 HB HO125; clear ho hb hg hat; obtain ⟨Ao198, co198, eo198⟩ := Kd.R_slice HO125.out; subst eo198; obtain ⟨hcz199_0, hcz199_1, hcz199_2, hcz199_3, hcz199_4, hcz199_5, hfz199_0, hfz199_1, hfz199_2, hfz199_3, hfz199_4, hfz199_5⟩ := cellsZ6 BK90005.out))
                           go_roundg k4
                           case measure => have := HJ128.out; have := HJ147.out; have := HJ163.out; have := HK4.out; omega
                           case rel => exact ⟨(wrap64 (x64_4 + 1)), (y123), (true), (.slice Ao198 y123.length co198), z4458, H', ⟨by have := HJ128.out; have := HJ147.out; have := HJ163.out; have := HK4.out; omega⟩, ⟨by (with_reducible repeat (first | apply Kd.R_alloc | apply Kd.R_drewN | apply Kd.R_drew)); exact Kd.R_mono (Kd.R_far (p := ⟨gb90005, 4, none⟩) (Kd.R_types HO125.out BK90005.out (by decide)) (fun _ hk => hk.2) (.slice Ao198 y123.length co198)) (fun _ hk => trivial)⟩, ⟨bkZ⟩, ⟨bkZ⟩, ⟨bkZ⟩, ⟨bkZ⟩, ⟨zcb41⟩⟩
                         · rw [if_neg c189] at H
                           exact absurd H (by simp)
                       · rw [if_neg c188] at H
                         have c188b0 : decide (1000000000 < (wrap64 ((rd l0_4 x64_4) + (rd l1_4 x64_4)))) = false := decide_eq_false c188
                         clear c188
                         by_cases c200 : x90006004_4.length < 17592186044416
                         · rw [if_pos c200] at H
                           have LMc200 := aM c200
                           clear c200
                           obtain ⟨y126, hy126⟩ : ∃ y_ : List Int, y_ = (x90006004_4 ++ [wrap64 ((rd l0_4 x64_4) + (rd l1_4 x64_4))]) := ⟨_, rfl⟩
                           replace H : (spec_l4Join.l0 k4 l0_4 (l0_4.length : Int) (wrap64 (x64_4 + 1)) a1_0 a1_1 a1_2 a1_3 l1_4 a1_5 x90006000_128 (wrap64 (a0_1 + a1_1)) x90006002_147 x90006003_163 y126 x90006005_4) = some (r1, r2, r3, r4, r5, r6) := by first | (rw [hy126]; with_reducible exact H) | (have H2_ := (Option.bind_some _ _).symm.trans H; rw [hy126]; with_reducible exact H2_) | (have H2_ := (Option.bind_some _ _).symm.trans H; with_reducible exact H2_) | with_reducible exact H | (rw [hy126]; exact H) | exact H
                           have Ny126 := aM hy126
                           clear hy126
                           have H' := aM H
                           clear H
                           have p121 : 0 ≤ (x64_4 : Int) := of_decide_eq_true z1200
                           have q121 : x64_4 < (l0_4.length : Int) := of_decide_eq_true z1200
                           obtain ⟨ad121, e121, hx121_0⟩ := Kd.at_int HR0_4.out x64_4 p121 q121
                           cases e121
                           replace hx121_0 := (HB.out.cell (World.block_lt_of_cell? w _ hx121_0)).trans hx121_0
                           replace p121 := eq_true p121
                           replace q121 := eq_true q121
                           have hnb201 := NB90003_90002.out
                           have hnc201 := NB90002_90003.out
                           have hnb202 := NB90003_90004.out
                           have hnc202 := NB90004_90003.out
                           have hnb203 := NB90003_90005.out
                           have hnc203 := NB90005_90003.out
                           obtain ⟨hcz204_0, hcz204_1, hcz204_2, hcz204_3, hcz204_4, hcz204_5, hfz204_0, hfz204_1, hfz204_2, hfz204_3, hfz204_4, hfz204_5⟩ := cellsZ6 BK90003.out
                           have p122 : 0 ≤ (x64_4 : Int) := of_decide_eq_true z1200
                           have q122 : x64_4 < (l1_4.length : Int) := of_decide_eq_true z1200
                           obtain ⟨ad122, e122, hx122_0⟩ := Kd.at_int HR1_4.out x64_4 p122 q122
                           cases e122
                           replace hx122_0 := (HB.out.cell (World.block_lt_of_cell? w _ hx122_0)).trans hx122_0
                           replace p122 := eq_true p122
                           replace q122 := eq_true q122
                           have hnb205 := NB90005_90002.out
                           have hnc205 := NB90002_90005.out
                           have hnb206 := NB90005_90004.out
                           have hnc206 := NB90004_90005.out
                           obtain ⟨hcz207_0, hcz207_1, hcz207_2, hcz207_3, hcz207_4, hcz207_5, hfz207_0, hfz207_1, hfz207_2, hfz207_3, hfz207_4, hfz207_5⟩ := cellsZ6 BK90005.out
                           go_wp2_with (first | ((with_reducible refine gate_builtin (b := .append) (xs := #[.tmp 80, .tmp 82]) rfl ?_); at_builtin; refine Kd.R_append (Kd.int .i64) (w0 := w) w.heap.size rfl (.tmp 80) (.tmp 82) 52 3 (.int .i64 0) 8 rfl Try.underlying52 info3 rfl (by decide) (by omega) u90006004 x90006004_4 (wrap64 ((rd l0_4 x64_4) + (rd l1_4 x64_4))) [.int .i64 (wrap64 ((rd l0_4 x64_4) + (rd l1_4 x64_4)))] (fun _ => True) (fun _ => False) rfl rfl ?aP (fun _ hk => hk.elim) ?aF ?aO ?aB ?aS ?aL ?_; (case aP => exact rfl); (case aB => exact hbZ); (case aF => exact (fun _ _ => trivial)); (case aO => exact (rZ HO_90006004.out)); (case aS => exact (below_size hbZ)); (case aL => have := LMc200.out; omega); intro v127 w208 ho hb hg hat; rw [← Ny126.out] at ho; have _ := aM (blk_grown (g := gb90002) bkZ hg (Kd.R_ne HO_90006004.out BK90002.out (by decide))); have _ := aM (blk_grown (g := gb90003) bkZ hg (Kd.R_ne HO_90006004.out BK90003.out (by decide))); have _ := aM (blk_grown (g := gb90004) bkZ hg (Kd.R_ne HO_90006004.out BK90004.out (by decide))); have _ := aM (blk_grown (g := gb90005) bkZ hg (Kd.R_ne HO_90006004.out BK90005.out (by decide))); have _ := aM hb; have _ := aM ho; clear BK90002 BK90003 BK90004 BK90005 HB HO_90006004; rename_i BK90002 BK90003 BK90004 BK90005 HB HO128; clear ho hb hg hat; obtain ⟨Ao209, co209, eo209⟩ := Kd.R_slice HO128.out; subst eo209; obtain ⟨hcz210_0, hcz210_1, hcz210_2, hcz210_3, hcz210_4, hcz210_5, hfz210_0, hfz210_1, hfz210_2, hfz210_3, hfz210_4, hfz210_5⟩ := cellsZ6 BK90005.out))
                           go_roundg k4
                           case measure => have := HJ128.out; have := HJ147.out; have := HJ163.out; have := HK4.out; omega
                           case rel => exact ⟨(wrap64 (x64_4 + 1)), (y126), (x90006005_4), (.slice Ao209 y126.length co209), z4458, H', ⟨by have := HJ128.out; have := HJ147.out; have := HJ163.out; have := HK4.out; omega⟩, ⟨by (with_reducible repeat (first | apply Kd.R_alloc | apply Kd.R_drewN | apply Kd.R_drew)); exact Kd.R_mono (Kd.R_far (p := ⟨gb90005, 4, none⟩) (Kd.R_types HO128.out BK90005.out (by decide)) (fun _ hk => hk.2) (.slice Ao209 y126.length co209)) (fun _ hk => trivial)⟩, ⟨bkZ⟩, ⟨bkZ⟩, ⟨bkZ⟩, ⟨bkZ⟩, ⟨zcb41⟩⟩
                         · rw [if_neg c200] at H
                           exact absurd H (by simp)
                     · rw [if_neg c187] at H
                       exact absurd H (by simp)
                   · rw [if_neg c186] at H
                     exact absurd H (by simp)
                 · rw [if_neg c185] at H
                   exact absurd H (by simp)
               · rw [if_neg c184] at H
                 have c184b0 : decide (x64_4 < (l0_4.length : Int)) = false := decide_eq_false c184
                 clear c184
                 by_cases c211 : x90006005_4 = true
                 · subst c211
                   have H1 : (some (x90006000_128, 0, x90006002_147, x90006003_163, x90006004_4, true)) = some (r1, r2, r3, r4, r5, r6) := by rw [if_pos rfl] at H; exact H
                   clear H
                   have H := H1
                   clear H1
                   simp only [Option.some.injEq, Prod.mk.injEq] at H
                   obtain ⟨rfl, rfl, rfl, rfl, rfl, rfl⟩ := H
                   have hnb212 := NB90005_90002.out
                   have hnc212 := NB90002_90005.out
                   have hnb213 := NB90005_90003.out
                   have hnc213 := NB90003_90005.out
                   have hnb214 := NB90005_90004.out
                   have hnc214 := NB90004_90005.out
                   obtain ⟨hcz215_0, hcz215_1, hcz215_2, hcz215_3, hcz215_4, hcz215_5, hfz215_0, hfz215_1, hfz215_2, hfz215_3, hfz215_4, hfz215_5⟩ := cellsZ6 BK90005.out
                   have hnb216 := NB90004_90002.out
                   have hnc216 := NB90002_90004.out
                   have hnb217 := NB90004_90003.out
                   have hnc217 := NB90003_90004.out
                   obtain ⟨hcz218_0, hcz218_1, hcz218_2, hcz218_3, hcz218_4, hcz218_5, hfz218_0, hfz218_1, hfz218_2, hfz218_3, hfz218_4, hfz218_5⟩ := cellsZ6 BK90004.out
                   obtain ⟨Ao219, co219, eo219⟩ := Kd.R_slice HO_90006004.out
                   subst eo219
                   go_wp2
                   refine bodyPost_ret (results_cell_row rfl _ _ gb90004 54 #[.int .i64 x90006000_128, .int .i64 0, .int .i64 x90006002_147, .int .i64 x90006003_163, .slice Ao219 x90006004_4.length co219, .bool true] (0, 0) _ rfl bkZ Try.underlying54 rfl (by kernel_rfl)) rfl ?_
                   exact ⟨_, z674d, by (with_reducible repeat (first | apply Kd.R_alloc | apply Kd.R_drewN | apply Kd.R_drew)); exact Kd.R_mono (Kd.R_far (p := ⟨gb90004, 5, none⟩) (Kd.R_far (p := ⟨gb90004, 4, none⟩) (Kd.R_far (p := ⟨gb90004, 3, none⟩) (Kd.R_far (p := ⟨gb90004, 2, none⟩) (Kd.R_far (p := ⟨gb90004, 1, none⟩) (Kd.R_far (p := ⟨gb90004, 0, none⟩) (Kd.R_far (p := ⟨gb90005, 1, none⟩) (Kd.R_types (Kd.R_types HO_90006004.out BK90005.out (by decide)) BK90004.out (by decide)) (fun _ hk => hk.1.2) (.int .i64 0)) (fun _ hk => hk.2) (.int .i64 x90006000_128)) (fun _ hk => hk.2) (.int .i64 0)) (fun _ hk => hk.2) (.int .i64 x90006002_147)) (fun _ hk => hk.2) (.int .i64 x90006003_163)) (fun _ hk => hk.2) (.slice Ao219 x90006004_4.length co219)) (fun _ hk => hk.2) (.bool true)) (fun _ hk => trivial), zcb41⟩
                 · replace c211 := Bool.eq_false_iff.mpr c211
                   subst c211
                   have H1 : (some (x90006000_128, (wrap64 (a0_1 + a1_1)), x90006002_147, x90006003_163, x90006004_4, false)) = some (r1, r2, r3, r4, r5, r6) := by rw [if_neg (show ¬ (false = true) by decide)] at H; exact H
                   clear H
                   have H := H1
                   clear H1
                   simp only [Option.some.injEq, Prod.mk.injEq] at H
                   obtain ⟨rfl, rfl, rfl, rfl, rfl, rfl⟩ := H
                   have hnb220 := NB90005_90002.out
                   have hnc220 := NB90002_90005.out
                   have hnb221 := NB90005_90003.out
                   have hnc221 := NB90003_90005.out
                   have hnb222 := NB90005_90004.out
                   have hnc222 := NB90004_90005.out
                   obtain ⟨hcz223_0, hcz223_1, hcz223_2, hcz223_3, hcz223_4, hcz223_5, hfz223_0, hfz223_1, hfz223_2, hfz223_3, hfz223_4, hfz223_5⟩ := cellsZ6 BK90005.out
                   have hnb224 := NB90004_90002.out
                   have hnc224 := NB90002_90004.out
                   have hnb225 := NB90004_90003.out
                   have hnc225 := NB90003_90004.out
                   obtain ⟨hcz226_0, hcz226_1, hcz226_2, hcz226_3, hcz226_4, hcz226_5, hfz226_0, hfz226_1, hfz226_2, hfz226_3, hfz226_4, hfz226_5⟩ := cellsZ6 BK90004.out
                   obtain ⟨Ao227, co227, eo227⟩ := Kd.R_slice HO_90006004.out
                   subst eo227
                   go_wp2
                   refine bodyPost_ret (results_cell_row rfl _ _ gb90004 54 #[.int .i64 x90006000_128, .int .i64 (wrap64 (a0_1 + a1_1)), .int .i64 x90006002_147, .int .i64 x90006003_163, .slice Ao227 x90006004_4.length co227, .bool false] (0, 0) _ rfl bkZ Try.underlying54 rfl (by kernel_rfl)) rfl ?_
                   exact ⟨_, z674d, by (with_reducible repeat (first | apply Kd.R_alloc | apply Kd.R_drewN | apply Kd.R_drew)); exact Kd.R_mono (Kd.R_far (p := ⟨gb90004, 5, none⟩) (Kd.R_far (p := ⟨gb90004, 4, none⟩) (Kd.R_far (p := ⟨gb90004, 3, none⟩) (Kd.R_far (p := ⟨gb90004, 2, none⟩) (Kd.R_far (p := ⟨gb90004, 1, none⟩) (Kd.R_far (p := ⟨gb90004, 0, none⟩) (Kd.R_types HO_90006004.out BK90004.out (by decide)) (fun _ hk => hk.2) (.int .i64 x90006000_128)) (fun _ hk => hk.2) (.int .i64 (wrap64 (a0_1 + a1_1)))) (fun _ hk => hk.2) (.int .i64 x90006002_147)) (fun _ hk => hk.2) (.int .i64 x90006003_163)) (fun _ hk => hk.2) (.slice Ao227 x90006004_4.length co227)) (fun _ hk => hk.2) (.bool false)) (fun _ hk => trivial), zcb41⟩

end Go.Proofs.Ythliooccgclbjaa.P

-- written by a program of this session's (wip/pp)
namespace Go.Proofs.Ythliooccgclbjaa.P
open Go.RowKit Go.Proofs.YthliooccgclbjaaW.PrintWords Go.Proofs.YthliooccgclbjaaW.PrintLast Go.Proofs.YthliooccgclbjaaW.PrintMore
attribute [local go_sem] max2_int min2_int max_two min_two max_three min_three max_four min_four   -- for this text's walks alone
set_option linter.unusedVariables false
set_option linter.unusedSimpArgs false

/-! ### spec_l4Zero: function 76 -/
def spec_l4Zero.f  : Option (Int × Int × Int × Int × List Int × Bool) := if 8 ≤ 35184372088832 then (some (0, 0, 0, 0, (List.replicate 8 0), false)) else (none)
set_option maxHeartbeats 8000000 in
set_option maxRecDepth 100000 in
theorem spec_l4Zero.calls  (r1 : Int) (r2 : Int) (r3 : Int) (r4 : Int) (r5 : List Int) (r6 : Bool) (w : World) (h : spec_l4Zero.f  = some (r1, r2, r3, r4, r5, r6)) :
 Calls Try.prog 76 #[] w fun e w' => ∃ v4_ : Value, e = .returned (.agg #[.int .i64 r1, .int .i64 r2, .int .i64 r3, .int .i64 r4, v4_, .bool r6]) ∧ Kd.R (Kd.int .i64) 3 w' w.heap.size (fun _ => True) v4_ r5 ∧ Below w.heap.size w w' := by
 have hu54 := Try.underlying54
 have HB := aM (Below.refl w.heap.size w)
 have H : (if 8 ≤ 35184372088832 then (some (0, 0, 0, 0, (List.replicate 8 0), false)) else (none)) = some (r1, r2, r3, r4, r5, r6) := h
 clear h
 by_cases c1 : 8 ≤ 35184372088832
 · rw [if_pos c1] at H
   have c1b0 := eq_true c1
   have c1b1 : decide (8 ≤ 35184372088832) = true := decide_eq_true c1
   clear c1
   obtain ⟨y102, hy102⟩ : ∃ y_ : List Int, y_ = (List.replicate 8 0) := ⟨_, rfl⟩
   replace H : (some (0, 0, 0, 0, y102, false)) = some (r1, r2, r3, r4, r5, r6) := by first | (rw [hy102]; with_reducible exact H) | (have H2_ := (Option.bind_some _ _).symm.trans H; rw [hy102]; with_reducible exact H2_) | (have H2_ := (Option.bind_some _ _).symm.trans H; with_reducible exact H2_) | with_reducible exact H | (rw [hy102]; exact H) | exact H
   have Ny102 := aM hy102
   clear hy102
   simp only [Option.some.injEq, Prod.mk.injEq] at H
   obtain ⟨rfl, rfl, rfl, rfl, rfl, rfl⟩ := H
   go_enter Try.func76, Try.ntmps76
   go_wp2_with (first | ((with_reducible refine gate_dst (N := 0) rfl ?_); refine box_event ?hg (N := 0) ?hd (cs := #[.int .i64 0, .int .i64 0, .int .i64 0, .int .i64 0, .slice none 0 0, .bool false]) (t := 54) ?hr ?_; (case hd => rfl); (case hg => rfl); (case hr => first | (go_simp; done) | (go_simp; rfl)); intro gb101 hg w2 hbox hb; have _ := aM (below_step hbZ hb); have _ := aM hbox; have _ := szZ hg; have _ := szZ hg; clear HB; rename_i HB BK101 GW101 GE101; clear hb hbox hg) | ((with_reducible refine gate_dst (N := 1) rfl ?_); refine Kd.R_make (Kd.int .i64) _ 3 rfl (N := 1) rfl 52 _ _ rfl 8 rfl rfl Try.underlying52 (.int .i64 0) 8 info3 rfl (by decide) (by omega) 0 (ok := fun _ => True) (okp := fun _ => True) rfl (fun _ hk => hk) trivial (by omega) (by omega) (Below.refl _ _) (Nat.le_refl _) ?_; intro v103 w3 ho4 hb hg_ hnew_; clear hg_ hnew_; (first | rw [← Ny102.out] at ho4 | (simp only [Int.reduceToNat] at ho4; rw [← Ny102.out] at ho4)); have _ := aM (Kd.R_lower ho4 (below_size hbZ)); have _ := bB gb101 hb; have _ := aM (below_step hbZ hb); clear BK101 HB; rename_i HO104 BK101 HB; clear hb ho4; obtain ⟨Ao5, co5, eo5⟩ := Kd.R_slice HO104.out; subst eo5; obtain ⟨hcz6_0, hcz6_1, hcz6_2, hcz6_3, hcz6_4, hcz6_5, hfz6_0, hfz6_1, hfz6_2, hfz6_3, hfz6_4, hfz6_5⟩ := cellsZ6 BK101.out))
   refine bodyPost_ret (results_cell_row rfl _ _ gb101 54 #[.int .i64 0, .int .i64 0, .int .i64 0, .int .i64 0, .slice Ao5 y102.length co5, .bool false] (0, 0) _ rfl bkZ Try.underlying54 rfl (by kernel_rfl)) rfl ?_
   exact ⟨_, z674d, by (with_reducible repeat (first | apply Kd.R_alloc | apply Kd.R_drewN | apply Kd.R_drew)); exact Kd.R_mono (Kd.R_far (p := ⟨gb101, 5, none⟩) (Kd.R_far (p := ⟨gb101, 4, none⟩) (Kd.R_far (p := ⟨gb101, 3, none⟩) (Kd.R_far (p := ⟨gb101, 2, none⟩) (Kd.R_far (p := ⟨gb101, 1, none⟩) (Kd.R_far (p := ⟨gb101, 0, none⟩) (Kd.R_types HO104.out BK101.out (by decide)) (fun _ hk => hk.2) (.int .i64 0)) (fun _ hk => hk.2) (.int .i64 0)) (fun _ hk => hk.2) (.int .i64 0)) (fun _ hk => hk.2) (.int .i64 0)) (fun _ hk => hk.2) (.slice Ao5 y102.length co5)) (fun _ hk => hk.2) (.bool false)) (fun _ hk => trivial), zcb41⟩
 · rw [if_neg c1] at H
   exact absurd H (by simp)

end Go.Proofs.Ythliooccgclbjaa.P

-- written by a program of this session's (wip/pp)
namespace Go.Proofs.Ythliooccgclbjaa.P
open Go.RowKit Go.Proofs.YthliooccgclbjaaW.PrintWords Go.Proofs.YthliooccgclbjaaW.PrintLast Go.Proofs.YthliooccgclbjaaW.PrintMore
attribute [local go_sem] max2_int min2_int max_two min_two max_three min_three max_four min_four   -- for this text's walks alone
set_option linter.unusedVariables false
set_option linter.unusedSimpArgs false

/-! ### spec_l4Bucket: function 87 -/
def spec_l4Bucket.l0 : Nat → Int → Int → Int → Option (Int)
 | 0, _, _, _ => none
 | k + 1, x0, x3, x4 => if x3 < 7 then (if x0 ≥ x4 then (spec_l4Bucket.l0 k x0 (wrap64 (x3 + 1)) (wrap64 (x4 * 10))) else (some x3)) else (some x3)
def spec_l4Bucket.f (k : Nat) (a0 : Int) : Option (Int) := if a0 < 0 then (some 0) else (spec_l4Bucket.l0 k a0 1 1)
theorem spec_l4Bucket.mono_l : ∀ k, (∀ y0 y1 y2, LeO (spec_l4Bucket.l0 k y0 y1 y2) (spec_l4Bucket.l0 (k + 1) y0 y1 y2))
 | 0 => fun _ _ _ r h => by simp [spec_l4Bucket.l0] at h
 | k + 1 => by
  have ih0 := spec_l4Bucket.mono_l k
  · intro y0 y1 y2
    unfold spec_l4Bucket.l0
    repeat' first
     | (with_reducible first | exact ih0 .. | exact LeO.refl _ | exact LeO.none _ | refine LeO.ite ?_ ?_ | refine LeO.bind ?_ (fun _ => ?_))
     | exact LeO.none _
     | refine LeO.ite ?_ ?_
     | refine LeO.bind ?_ (fun _ => ?_)
theorem spec_l4Bucket.mono : ∀ a0 k, LeO (spec_l4Bucket.f k a0) (spec_l4Bucket.f (k + 1) a0) := by
 intro a0 k
 have ih0 := spec_l4Bucket.mono_l k
 unfold spec_l4Bucket.f
 repeat' first
  | (with_reducible first | exact ih0 .. | exact LeO.refl _ | exact LeO.none _ | refine LeO.ite ?_ ?_ | refine LeO.bind ?_ (fun _ => ?_))
  | exact LeO.none _
  | refine LeO.ite ?_ ?_
  | refine LeO.bind ?_ (fun _ => ?_)
set_option maxHeartbeats 8000000 in
set_option maxRecDepth 100000 in
theorem spec_l4Bucket.calls (k : Nat) (a0 : Int) (r : Int) (w : World) (h : spec_l4Bucket.f k a0 = some r) :
 Calls Try.prog 87 #[.int .i64 a0] w fun e w' => e = .returned (.int .i64 r) ∧ Drawn0 w w' := by
 have H : (if a0 < 0 then (some 0) else (spec_l4Bucket.l0 k a0 1 1)) = some r := h
 clear h
 by_cases c2 : a0 < 0
 · rw [if_pos c2] at H
   have c2b0 : decide (a0 < 0) = true := decide_eq_true c2
   clear c2
   obtain rfl := Option.some.inj H
   go_enter Try.func87, Try.ntmps87
   go_wp2
   go_ret
   exact ⟨z4458, za9de⟩
 · rw [if_neg c2] at H
   have c2b0 : decide (a0 < 0) = false := decide_eq_false c2
   clear c2
   have H' := aM H
   clear H
   go_enter Try.func87, Try.ntmps87
   go_wp2
   go_loopg [3, 4] k (fun kq v3 v4 w' => ∃ (x3_1 : Int) (x4_1 : Int), v3 = .int .i64 x3_1 ∧ v4 = .int .i64 x4_1 ∧ Aside0 (spec_l4Bucket.l0 kq a0 x3_1 x4_1 = some r) ∧ Aside0 (kq ≤ k) ∧ Drawn0 w w')
   case atStart => exact ⟨(1), (1), z4458, z4458, H', ⟨Nat.le_refl _⟩, za9de⟩
   case round =>
    clear H'
    try clear c2
    try clear c2b0
    try clear p2
    obtain ⟨x3_1, x4_1, rfl, rfl, HA, HK1, ⟨m1, rfl⟩⟩ := hrel
    cases gk with
    | zero => exact absurd HA.out (by simp [spec_l4Bucket.l0])
    | succ k1 =>
     have H := HA.out
     clear HA
     simp only [spec_l4Bucket.l0] at H
     by_cases c3 : x3_1 < 7
     · rw [if_pos c3] at H
       have c3b0 : decide (x3_1 < 7) = true := decide_eq_true c3
       clear c3
       by_cases c4 : a0 ≥ x4_1
       · rw [if_pos c4] at H
         have c4b0 : decide (x4_1 ≤ a0) = true := decide_eq_true c4
         clear c4
         have H' := aM H
         clear H
         go_wp2
         go_roundg k1
         case measure => have := HK1.out; omega
         case rel => exact ⟨(wrap64 (x3_1 + 1)), (wrap64 (x4_1 * 10)), z4458, z4458, H', ⟨zfb39⟩, za9de⟩
       · rw [if_neg c4] at H
         have c4b0 : decide (x4_1 ≤ a0) = false := decide_eq_false c4
         clear c4
         obtain rfl := Option.some.inj H
         go_wp2
         go_ret
         exact ⟨z4458, za9de⟩
     · rw [if_neg c3] at H
       have c3b0 : decide (x3_1 < 7) = false := decide_eq_false c3
       clear c3
       obtain rfl := Option.some.inj H
       go_wp2
       go_ret
       exact ⟨z4458, za9de⟩

end Go.Proofs.Ythliooccgclbjaa.P

-- written by a program of this session's (wip/pp)
namespace Go.Proofs.Ythliooccgclbjaa.P
open Go.RowKit Go.Proofs.YthliooccgclbjaaW.PrintWords Go.Proofs.YthliooccgclbjaaW.PrintLast Go.Proofs.YthliooccgclbjaaW.PrintMore
attribute [local go_sem] max2_int min2_int max_two min_two max_three min_three max_four min_four   -- for this text's walks alone
set_option linter.unusedVariables false
set_option linter.unusedSimpArgs false

/-! ### spec_l4Of: function 77 -/
def spec_l4Of.f (k : Nat) (a0 : Int) : Option (Int × Int × Int × Int × List Int × Bool) := if 8 ≤ 35184372088832 then ((some (List.replicate 8 0 : List Int)).bind fun y102 => ((spec_l4Bucket.f k a0).bind fun t106 => (if 0 ≤ t106 then (if t106 < (y102.length : Int) then (some (1, a0, a0, a0, (y102.set (t106 : Int).toNat 1), false)) else (none)) else (none)))) else (none)
theorem spec_l4Of.mono : ∀ a0 k, LeO (spec_l4Of.f k a0) (spec_l4Of.f (k + 1) a0) := by
 intro a0 k
 unfold spec_l4Of.f
 repeat' first
  | (with_reducible first | exact spec_l4Bucket.mono .. | exact LeO.refl _ | exact LeO.none _ | refine LeO.ite ?_ ?_ | refine LeO.bind ?_ (fun _ => ?_))
  | exact LeO.none _
  | refine LeO.ite ?_ ?_
  | refine LeO.bind ?_ (fun _ => ?_)
set_option maxHeartbeats 8000000 in
set_option maxRecDepth 100000 in
theorem spec_l4Of.calls (k : Nat) (a0 : Int) (r1 : Int) (r2 : Int) (r3 : Int) (r4 : Int) (r5 : List Int) (r6 : Bool) (w : World) (h : spec_l4Of.f k a0 = some (r1, r2, r3, r4, r5, r6)) :
 Calls Try.prog 77 #[.int .i64 a0] w fun e w' => ∃ v4_ : Value, e = .returned (.agg #[.int .i64 r1, .int .i64 r2, .int .i64 r3, .int .i64 r4, v4_, .bool r6]) ∧ Kd.R (Kd.int .i64) 3 w' w.heap.size (fun _ => True) v4_ r5 ∧ Below w.heap.size w w' := by
 have hu54 := Try.underlying54
 have HB := aM (Below.refl w.heap.size w)
 have H : (if 8 ≤ 35184372088832 then ((some (List.replicate 8 0 : List Int)).bind fun y102 => ((spec_l4Bucket.f k a0).bind fun t106 => (if 0 ≤ t106 then (if t106 < (y102.length : Int) then (some (1, a0, a0, a0, (y102.set (t106 : Int).toNat 1), false)) else (none)) else (none)))) else (none)) = some (r1, r2, r3, r4, r5, r6) := h
 clear h
 by_cases c2 : 8 ≤ 35184372088832
 · rw [if_pos c2] at H
   have c2b0 := eq_true c2
   have c2b1 : decide (8 ≤ 35184372088832) = true := decide_eq_true c2
   clear c2
   obtain ⟨y102, hy102⟩ : ∃ y_ : List Int, y_ = (List.replicate 8 0) := ⟨_, rfl⟩
   replace H : ((spec_l4Bucket.f k a0).bind fun t106 => (if 0 ≤ t106 then (if t106 < (y102.length : Int) then (some (1, a0, a0, a0, (y102.set (t106 : Int).toNat 1), false)) else (none)) else (none))) = some (r1, r2, r3, r4, r5, r6) := by first | (rw [hy102]; with_reducible exact H) | (have H2_ := (Option.bind_some _ _).symm.trans H; rw [hy102]; with_reducible exact H2_) | (have H2_ := (Option.bind_some _ _).symm.trans H; with_reducible exact H2_) | with_reducible exact H | (rw [hy102]; exact H) | exact H
   have Ny102 := aM hy102
   clear hy102
   replace H := Option.bind_eq_some_iff.mp H
   obtain ⟨t106, A30, H⟩ := H
   try dsimp only at H
   have A3 := aM A30
   clear A30
   by_cases c4 : 0 ≤ t106
   · rw [if_pos c4] at H
     have c4b0 : decide (0 ≤ t106) = true := decide_eq_true c4
     clear c4
     by_cases c5 : t106 < (y102.length : Int)
     · rw [if_pos c5] at H
       have c5b0 : decide (t106 < (y102.length : Int)) = true := decide_eq_true c5
       clear c5
       obtain ⟨y107, hy107⟩ : ∃ y_ : List Int, y_ = (y102.set (t106 : Int).toNat 1) := ⟨_, rfl⟩
       replace H : (some (1, a0, a0, a0, y107, false)) = some (r1, r2, r3, r4, r5, r6) := by first | (rw [hy107]; with_reducible exact H) | (have H2_ := (Option.bind_some _ _).symm.trans H; rw [hy107]; with_reducible exact H2_) | (have H2_ := (Option.bind_some _ _).symm.trans H; with_reducible exact H2_) | with_reducible exact H | (rw [hy107]; exact H) | exact H
       have Ny107 := aM hy107
       clear hy107
       simp only [Option.some.injEq, Prod.mk.injEq] at H
       obtain ⟨rfl, rfl, rfl, rfl, rfl, rfl⟩ := H
       go_enter Try.func77, Try.ntmps77
       try go_wp2_with (first | ((with_reducible refine gate_dst (N := 2) rfl ?_); refine box_event ?hg (N := 2) ?hd (cs := #[.int .i64 0, .int .i64 0, .int .i64 0, .int .i64 0, .slice none 0 0, .bool false]) (t := 54) ?hr ?_; (case hd => rfl); (case hg => rfl); (case hr => first | (go_simp; done) | (go_simp; rfl)); intro gb101 hg w7 hbox hb; have _ := aM (below_step hbZ hb); have _ := aM hbox; have _ := szZ hg; have _ := szZ hg; clear HB; rename_i HB BK101 GW101 GE101; clear hb hbox hg) | ((with_reducible refine gate_dst (N := 7) rfl ?_); refine Kd.R_make (Kd.int .i64) _ 3 rfl (N := 7) rfl 52 _ _ rfl 8 rfl rfl Try.underlying52 (.int .i64 0) 8 info3 rfl (by decide) (by omega) 0 (ok := fun _ => True) (okp := fun _ => True) rfl (fun _ hk => hk) trivial (by omega) (by omega) (Below.refl _ _) (Nat.le_refl _) ?_; intro v103 w8 ho9 hb hg_ hnew_; clear hg_ hnew_; (first | rw [← Ny102.out] at ho9 | (simp only [Int.reduceToNat] at ho9; rw [← Ny102.out] at ho9)); have _ := aM (Kd.R_lower ho9 (below_size hbZ)); have _ := bB gb101 hb; have _ := aM (below_step hbZ hb); clear BK101 HB; rename_i HO104 BK101 HB; clear hb ho9; obtain ⟨Ao10, co10, eo10⟩ := Kd.R_slice HO104.out; subst eo10) | ((with_reducible refine gate_dst (N := 3) rfl ?_); refine box_event ?hg (N := 3) ?hd (cs := #[.int .i64 0, .int .i64 0, .int .i64 0, .int .i64 0, .slice none 0 0, .bool false]) (t := 54) ?hr ?_; (case hd => rfl); (case hg => rfl); (case hr => first | (go_simp; done) | (go_simp; rfl)); intro gb105 hg w11 hbox hb; have _ := aM (Kd.R_below (rZ HO104.out) hb); have _ := bB gb101 hb; have _ := aM (below_step hbZ hb); have _ := aM hbox; have _ := szZ hg; have _ := szZ hg; have ⟨_, _⟩ := nbB gb101 hg; clear HO104 BK101 HB; rename_i HO104 BK101 HB BK105 GW105 GE105 NB101_105 NB105_101; clear hb hbox hg; have hnb12 := NB105_101.out; have hnc12 := NB101_105.out; obtain ⟨hcz13_0, hcz13_1, hcz13_2, hcz13_3, hcz13_4, hcz13_5, hfz13_0, hfz13_1, hfz13_2, hfz13_3, hfz13_4, hfz13_5⟩ := cellsZ6 BK105.out))
       have n0_ : Aside0 (Kd.R (Kd.int .i64) 3 ((((((w11.setCell ⟨gb105, 0, none⟩ (.int .i64 1)).setCell ⟨gb105, 1, none⟩ (.int .i64 a0)).setCell ⟨gb105, 2, none⟩ (.int .i64 a0)).setCell ⟨gb105, 3, none⟩ (.int .i64 a0)).setCell ⟨gb105, 4, none⟩ (.slice Ao10 y102.length co10)).setCell ⟨gb105, 5, none⟩ (.bool false)) w.heap.size (fun _ => True) (.slice Ao10 y102.length co10) y102) := ⟨by (with_reducible repeat (first | apply Kd.R_alloc | apply Kd.R_drewN | apply Kd.R_drew)); exact Kd.R_mono (Kd.R_far (p := ⟨gb105, 5, none⟩) (Kd.R_far (p := ⟨gb105, 4, none⟩) (Kd.R_far (p := ⟨gb105, 3, none⟩) (Kd.R_far (p := ⟨gb105, 2, none⟩) (Kd.R_far (p := ⟨gb105, 1, none⟩) (Kd.R_far (p := ⟨gb105, 0, none⟩) (Kd.R_types HO104.out BK105.out (by decide)) (fun _ hk => hk.2) (.int .i64 1)) (fun _ hk => hk.2) (.int .i64 a0)) (fun _ hk => hk.2) (.int .i64 a0)) (fun _ hk => hk.2) (.int .i64 a0)) (fun _ hk => hk.2) (.slice Ao10 y102.length co10)) (fun _ hk => hk.2) (.bool false)) (fun _ hk => trivial)⟩
       have n1_ : Aside0 (((((((w11.setCell ⟨gb105, 0, none⟩ (.int .i64 1)).setCell ⟨gb105, 1, none⟩ (.int .i64 a0)).setCell ⟨gb105, 2, none⟩ (.int .i64 a0)).setCell ⟨gb105, 3, none⟩ (.int .i64 a0)).setCell ⟨gb105, 4, none⟩ (.slice Ao10 y102.length co10)).setCell ⟨gb105, 5, none⟩ (.bool false)).heap[gb101]? = some (.cells #[.int .i64 0, .int .i64 0, .int .i64 0, .int .i64 0, .slice none 0 0, .bool false] 54 (0, 0))) := ⟨bkZ⟩
       have n2_ : Aside0 (((((((w11.setCell ⟨gb105, 0, none⟩ (.int .i64 1)).setCell ⟨gb105, 1, none⟩ (.int .i64 a0)).setCell ⟨gb105, 2, none⟩ (.int .i64 a0)).setCell ⟨gb105, 3, none⟩ (.int .i64 a0)).setCell ⟨gb105, 4, none⟩ (.slice Ao10 y102.length co10)).setCell ⟨gb105, 5, none⟩ (.bool false)).heap[gb105]? = some (.cells #[.int .i64 1, .int .i64 a0, .int .i64 a0, .int .i64 a0, .slice Ao10 y102.length co10, .bool false] 54 (0, 0))) := ⟨bkZ⟩
       have n3_ : Aside0 (Below w.heap.size w ((((((w11.setCell ⟨gb105, 0, none⟩ (.int .i64 1)).setCell ⟨gb105, 1, none⟩ (.int .i64 a0)).setCell ⟨gb105, 2, none⟩ (.int .i64 a0)).setCell ⟨gb105, 3, none⟩ (.int .i64 a0)).setCell ⟨gb105, 4, none⟩ (.slice Ao10 y102.length co10)).setCell ⟨gb105, 5, none⟩ (.bool false))) := ⟨zcb41⟩
       (try clear HO104)
       (try clear BK101)
       (try clear BK105)
       (try clear HB)
       generalize ((((((w11.setCell ⟨gb105, 0, none⟩ (.int .i64 1)).setCell ⟨gb105, 1, none⟩ (.int .i64 a0)).setCell ⟨gb105, 2, none⟩ (.int .i64 a0)).setCell ⟨gb105, 3, none⟩ (.int .i64 a0)).setCell ⟨gb105, 4, none⟩ (.slice Ao10 y102.length co10)).setCell ⟨gb105, 5, none⟩ (.bool false)) = w14 at n0_ n1_ n2_ n3_ ⊢
       have HO104 := n0_
       have BK101 := n1_
       have BK105 := n2_
       have HB := n3_
       clear n0_ n1_ n2_ n3_
       have _ := aM (Kd.R_drew HO104.out)
       have _ := aM (blk_drew BK101.out)
       have _ := aM (blk_drew BK105.out)
       have _ := aM (below_drew1 HB.out)
       clear HO104
       clear BK101
       clear BK105
       clear HB
       rename_i HO104 BK101 BK105 HB
       refine start_ (n := 6) (S := fun w' => w'.cell? ⟨gb105, 0, none⟩ = some (.int .i64 1) ∧ w'.cell? ⟨gb105, 1, none⟩ = some (.int .i64 a0) ∧ w'.cell? ⟨gb105, 2, none⟩ = some (.int .i64 a0) ∧ w'.cell? ⟨gb105, 3, none⟩ = some (.int .i64 a0) ∧ w'.cell? ⟨gb105, 4, none⟩ = some (.slice Ao10 y102.length co10) ∧ w'.cell? ⟨gb105, 5, none⟩ = some (.bool false)) (ds := [5]) #[false, false, false, false, false, false] (by kernel_rfl) rfl rfl ⟨(blk_cell BK105.out 0).trans rfl, (blk_cell BK105.out 1).trans rfl, (blk_cell BK105.out 2).trans rfl, (blk_cell BK105.out 3).trans rfl, (blk_cell BK105.out 4).trans rfl, (blk_cell BK105.out 5).trans rfl⟩ (fun hHeld => ?_)
       generalize w14.drew = w15 at HO104 BK101 BK105 HB hHeld ⊢
       refine pure_ (i := 0) (N := some 9) (v := ?_) (a' := ?_) #[true, false, false, false, false, false] rfl rfl (by kernel_rfl) (fun _ _ _ h => h) (Or.inl ⟨by rfl, ?_⟩) ?_ ?_
       rotate_left
       · intro w'
         go_simp
         with_reducible rfl
       rotate_left
       · simp only [Act.put, List.setIfInBounds_toArray, List.set_cons_zero, List.set_cons_succ, i64_w, i32_w]
         rfl
       refine pure_ (i := 2) (N := some 11) (v := ?_) (a' := ?_) #[true, false, true, false, false, false] rfl rfl (by kernel_rfl) (fun _ _ _ h => h) (Or.inl ⟨by rfl, ?_⟩) ?_ ?_
       rotate_left
       · intro w'
         go_simp
         with_reducible rfl
       rotate_left
       · simp only [Act.put, List.setIfInBounds_toArray, List.set_cons_zero, List.set_cons_succ, i64_w, i32_w]
         rfl
       refine take_ (i := 1) (N := some 10) (v := ?_) (a' := ?_) #[true, true, true, false, false, false] rfl rfl (by kernel_rfl) (fun _ _ _ h => h) (Or.inl ⟨by rfl, ?_⟩) hHeld ?_ ?_
       rotate_left
       · rintro w' ⟨s0, s1, s2, s3, s4, s5⟩
         go_simp
         with_reducible rfl
       rotate_left
       · simp only [Act.put, List.setIfInBounds_toArray, List.set_cons_zero, List.set_cons_succ, i64_w, i32_w]
         rfl
       refine one_ (i := 3) (N := some 12) #[true, true, true, true, false, false] rfl rfl (by kernel_rfl) (by decide) (fun K hK => ?_)
       refine goes_ Try.func87 (by kernel_rfl) rfl #[.int .i64 a0] (by rfl) rfl rfl zee81 ?_
       with_reducible refine (spec_l4Bucket.calls k a0 t106 _ A3.out).mono ?_
       rintro e w' ⟨rfl, ⟨nd, rfl⟩⟩
       refine ⟨_, rfl, ?_⟩
       have p6 : 0 ≤ (t106 : Int) := of_decide_eq_true z1200
       have q6 : (t106 : Int) < ((y102.length : Int) : Int) := of_decide_eq_true z1200
       obtain ⟨go6, co6, eo6, gb6, gl6, cl6, HG6⟩ := Kd.R_form HO104.out (by omega)
       (first | cases eo6 | (injection eo6 with ea_ en_ ec_; (first | subst ea_ | (injection ea_ with ea_; subst ea_)); subst ec_; clear en_))
       have GB6 := aM gb6
       have GG6 := aM HG6
       clear gb6 gl6 HG6
       obtain ⟨hx6_0, hf6_0⟩ := Kd.R_celln 0 HO104.out (t106 : Int) p6 q6
       replace p6 := eq_true p6
       replace q6 := eq_true q6
       have HP16 := Kd.R_putn HO104.out (t106 : Int) 1
       rw [← Ny107.out] at HP16
       have HQ16 := aM HP16
       clear HP16
       refine hK.out _ _ ⟨(blk_cell BK105.out 0).trans rfl, (blk_cell BK105.out 1).trans rfl, (blk_cell BK105.out 2).trans rfl, (blk_cell BK105.out 3).trans rfl, (blk_cell BK105.out 4).trans rfl, (blk_cell BK105.out 5).trans rfl⟩ (fun hHeld => ?_)
       clear hK K
       refine norm_ (a' := ?_) ?_ ?_
       rotate_left
       · show Act.put _ (some 12) _ = _
         simp only [Act.put, List.setIfInBounds_toArray, List.set_cons_zero, List.set_cons_succ, i64_w, i32_w]
         rfl
       refine pure_ (i := 4) (N := some 13) (v := ?_) (a' := ?_) #[true, true, true, true, true, false] rfl rfl (by kernel_rfl) (fun _ _ _ h => h) (Or.inl ⟨by rfl, ?_⟩) ?_ ?_
       rotate_left
       · intro w'
         go_simp
         with_reducible rfl
       rotate_left
       · simp only [Act.put, List.setIfInBounds_toArray, List.set_cons_zero, List.set_cons_succ, i64_w, i32_w]
         rfl
       refine last_ (i := 5) (N := none) #[true, true, true, true, true, true] rfl rfl (by kernel_rfl) (by decide) (fun K hK => ?_)
       refine skip_ (w1 := ?_) (by rfl) rfl ?_ ?_
       rotate_left
       · go_simp
         rfl
       refine hK.out _ _ ?_
       clear hK K
       refine done_ (by kernel_rfl) ?_
       have n0_ : Aside0 (Kd.R (Kd.int .i64) 3 ((w15.drewN nd).setCell ⟨go6, (t106 : Int).toNat, none⟩ (.int .i64 1)) w.heap.size (fun _ => True) (.slice (some ⟨go6, 0, none⟩) y102.length co10) y107) := ⟨rZ HQ16.out⟩
       have n1_ : Aside0 (((w15.drewN nd).setCell ⟨go6, (t106 : Int).toNat, none⟩ (.int .i64 1)).heap[gb101]? = some (.cells #[.int .i64 0, .int .i64 0, .int .i64 0, .int .i64 0, .slice none 0 0, .bool false] 54 (0, 0))) := ⟨by (with_reducible repeat (first | refine blk_drewN ?_ _ | refine blk_drew ?_ | refine blk_alloc ?_ _)); refine blk_far ?_ (by have h_ := Kd.R_ne HO104.out BK101.out (by decide); intro e_; exact h_ (by rw [e_]; rfl)) _; (with_reducible repeat (first | refine blk_drewN ?_ _ | refine blk_drew ?_ | refine blk_alloc ?_ _)); exact BK101.out⟩
       have n2_ : Aside0 (((w15.drewN nd).setCell ⟨go6, (t106 : Int).toNat, none⟩ (.int .i64 1)).heap[gb105]? = some (.cells #[.int .i64 1, .int .i64 a0, .int .i64 a0, .int .i64 a0, .slice (some ⟨go6, 0, none⟩) y102.length co10, .bool false] 54 (0, 0))) := ⟨by (with_reducible repeat (first | refine blk_drewN ?_ _ | refine blk_drew ?_ | refine blk_alloc ?_ _)); refine blk_far ?_ (by have h_ := Kd.R_ne HO104.out BK105.out (by decide); intro e_; exact h_ (by rw [e_]; rfl)) _; (with_reducible repeat (first | refine blk_drewN ?_ _ | refine blk_drew ?_ | refine blk_alloc ?_ _)); exact BK105.out⟩
       have n3_ : Aside0 (Below w.heap.size w ((w15.drewN nd).setCell ⟨go6, (t106 : Int).toNat, none⟩ (.int .i64 1))) := ⟨by repeat (first | (with_reducible first | exact HB.out | apply below_alloc | apply pw_below_drewN | apply below_drew1 | refine below_set ?_ GB6.out | refine below_set ?_ (Aside0.out (by assumption))) | exact HB.out)⟩
       (try clear HO104)
       (try clear BK101)
       (try clear BK105)
       (try clear HB)
       generalize ((w15.drewN nd).setCell ⟨go6, (t106 : Int).toNat, none⟩ (.int .i64 1)) = w17 at n0_ n1_ n2_ n3_ ⊢
       have HO104 := n0_
       have BK101 := n1_
       have BK105 := n2_
       have HB := n3_
       clear n0_ n1_ n2_ n3_
       obtain ⟨hcz18_0, hcz18_1, hcz18_2, hcz18_3, hcz18_4, hcz18_5, hfz18_0, hfz18_1, hfz18_2, hfz18_3, hfz18_4, hfz18_5⟩ := cellsZ6 BK105.out
       obtain ⟨hcz19_0, hcz19_1, hcz19_2, hcz19_3, hcz19_4, hcz19_5, hfz19_0, hfz19_1, hfz19_2, hfz19_3, hfz19_4, hfz19_5⟩ := cellsZ6 BK101.out
       try go_wp2
       refine bodyPost_ret (results_cell_row rfl _ _ gb101 54 #[.int .i64 1, .int .i64 a0, .int .i64 a0, .int .i64 a0, .slice (some ⟨go6, 0, none⟩) y102.length co10, .bool false] (0, 0) _ rfl bkZ Try.underlying54 rfl (by kernel_rfl)) rfl ?_
       exact ⟨_, z674d, by (with_reducible repeat (first | apply Kd.R_alloc | apply Kd.R_drewN | apply Kd.R_drew)); exact Kd.R_mono (Kd.R_far (p := ⟨gb101, 5, none⟩) (Kd.R_far (p := ⟨gb101, 4, none⟩) (Kd.R_far (p := ⟨gb101, 3, none⟩) (Kd.R_far (p := ⟨gb101, 2, none⟩) (Kd.R_far (p := ⟨gb101, 1, none⟩) (Kd.R_far (p := ⟨gb101, 0, none⟩) (Kd.R_types HO104.out BK101.out (by decide)) (fun _ hk => hk.2) (.int .i64 1)) (fun _ hk => hk.2) (.int .i64 a0)) (fun _ hk => hk.2) (.int .i64 a0)) (fun _ hk => hk.2) (.int .i64 a0)) (fun _ hk => hk.2) (.slice (some ⟨go6, 0, none⟩) y102.length co10)) (fun _ hk => hk.2) (.bool false)) (fun _ hk => trivial), zcb41⟩
     · rw [if_neg c5] at H
       exact absurd H (by simp)
   · rw [if_neg c4] at H
     exact absurd H (by simp)
 · rw [if_neg c2] at H
   exact absurd H (by simp)

end Go.Proofs.Ythliooccgclbjaa.P

-- written by a program of this session's (wip/pp)
namespace Go.Proofs.Ythliooccgclbjaa.P
open Go.RowKit Go.Proofs.YthliooccgclbjaaW.PrintWords Go.Proofs.YthliooccgclbjaaW.PrintLast Go.Proofs.YthliooccgclbjaaW.PrintMore
attribute [local go_sem] max2_int min2_int max_two min_two max_three min_three max_four min_four   -- for this text's walks alone
set_option linter.unusedVariables false
set_option linter.unusedSimpArgs false

/-! ### spec_l1Cur_among: function 43 -/
def spec_l1Cur_among.f (s0_0 : List Int) (s0_1 : Int) (s0_2 : Int) (l1 : List Int) : Option (Int × Int × Int) := (spec_l1Cur_pick.f s0_0 s0_1 s0_2 (l1.length : Int)).bind fun bt101 => (if 0 ≤ bt101.1 then (if bt101.1 < (l1.length : Int) then (some (rd l1 bt101.1, bt101.2.1, bt101.2.2)) else (none)) else (none))
set_option maxHeartbeats 8000000 in
set_option maxRecDepth 100000 in
theorem spec_l1Cur_among.calls (g : Nat) (s0_0 : List Int) (s0_1 : Int) (s0_2 : Int) (A1 : Option Addr) (c1 : Nat) (l1 : List Int) (r1 : Int) (r2 : Int) (r3 : Int) (w0 w : World) (hI : IsS66 w0 w g s0_0 s0_1 s0_2) (hB : Below w0.heap.size w0 w) (hr1 : Kd.C (Kd.int .i64) w A1 l1.length l1) (hc1 : l1.length ≤ c1) (hf1 : ∀ ad, A1 = some ad → 0 < l1.length → ad.block ≠ g) (h : spec_l1Cur_among.f s0_0 s0_1 s0_2 l1 = some (r1, r2, r3)) :
 Calls Try.prog 43 #[.pointer (some ⟨g, 0, none⟩), .slice A1 l1.length c1] w fun e w' => e = .returned (.int .i64 r1) ∧ IsS66 w0 w' g s0_0 r2 r3 ∧ Below w0.heap.size w0 w' ∧ KeepBut w w' g none := by
 have HR1 := aM hr1
 have HC1 := aM hc1
 clear hr1 hc1
 have HI0 := aM hI
 have HK := aM (KeepBut.refl w g none)
 have HL := aM hB.size
 clear hI
 have HW0 := aM hB.size
 have HB := aM hB
 clear hB
 have H : ((spec_l1Cur_pick.f s0_0 s0_1 s0_2 (l1.length : Int)).bind fun bt101 => (if 0 ≤ bt101.1 then (if bt101.1 < (l1.length : Int) then (some (rd l1 bt101.1, bt101.2.1, bt101.2.2)) else (none)) else (none))) = some (r1, r2, r3) := h
 clear h
 replace H := Option.bind_eq_some_iff.mp H
 obtain ⟨⟨t101, t102, t103⟩, A30, H⟩ := H
 try dsimp only at H
 have A3 := aM A30
 clear A30
 by_cases c4 : 0 ≤ t101
 · rw [if_pos c4] at H
   have c4b0 : decide (0 ≤ t101) = true := decide_eq_true c4
   clear c4
   by_cases c5 : t101 < (l1.length : Int)
   · rw [if_pos c5] at H
     have c5b0 : decide (t101 < (l1.length : Int)) = true := decide_eq_true c5
     clear c5
     simp only [Option.some.injEq, Prod.mk.injEq] at H
     obtain ⟨rfl, rfl, rfl⟩ := H
     go_enter Try.func43, Try.ntmps43
     go_wp2_with (first | ((with_reducible refine gate_callee (f := 36) rfl ?_); refine goesL_ (some 9) rfl rfl Try.func36 (by kernel_rfl) rfl #[.pointer (some ⟨g, 0, none⟩), .int .i64 (l1.length : Int)] rfl zee81 ?_; (with_reducible refine (spec_l1Cur_pick.calls g s0_0 s0_1 s0_2 (l1.length : Int) t101 t102 t103 w0 _ ?side1 ?side2 A3.out).mono ?_); (case side1 => exact zdb4b); (case side2 => exact zfd03); rintro e w6 ⟨rfl, hi, hb, hk⟩; refine ⟨_, rfl, ?_⟩; have _ := aM (KeepBut.trans zcbec hk (.inl rfl)); have _ := aM hb; have _ := aM hi; clear HK HB HI0; rename_i HK HB HI0; (try clear hb); (try clear hk); (try clear hi); have p104 : 0 ≤ (t101 : Int) := of_decide_eq_true z1200; have q104 : t101 < (l1.length : Int) := of_decide_eq_true z1200; obtain ⟨ad104, e104, hx104_0⟩ := Kd.at_int HR1.out t101 p104 q104; cases e104; replace hx104_0 := keep_cell HK.out hx104_0 (by first | (rw [add_block]; exact hf1 _ rfl (by omega)) | exact hf1 _ rfl (by omega) | exact hf1 ad104 rfl (by omega)); replace p104 := eq_true p104; replace q104 := eq_true q104))
     go_ret
     exact ⟨z674d, zdb4b, zfd03, zcbec⟩
   · rw [if_neg c5] at H
     exact absurd H (by simp)
 · rw [if_neg c4] at H
   exact absurd H (by simp)

end Go.Proofs.Ythliooccgclbjaa.P

-- written by a program of this session's (wip/pp)
namespace Go.Proofs.Ythliooccgclbjaa.P
open Go.RowKit Go.Proofs.YthliooccgclbjaaW.PrintWords Go.Proofs.YthliooccgclbjaaW.PrintLast Go.Proofs.YthliooccgclbjaaW.PrintMore
attribute [local go_sem] max2_int min2_int max_two min_two max_three min_three max_four min_four   -- for this text's walks alone
set_option linter.unusedVariables false
set_option linter.unusedSimpArgs false

/-! ### spec_l1Cur_value: function 78 -/
def spec_l1Cur_value.f (s0_0 : List Int) (s0_1 : Int) (s0_2 : Int) : Option (Int × Int × Int) := (spec_l1Cur_one.f s0_0 s0_1 s0_2 16).bind fun bt101 => (if bt101.1 = true then ((spec_l1Cur_among.f s0_0 bt101.2.1 bt101.2.2 (([1000000000, (-1000000000), 999999999] : List Int))).bind fun bt107 => (some (bt107.1, bt107.2.1, bt107.2.2))) else ((spec_l1Cur_among.f s0_0 bt101.2.1 bt101.2.2 (([0, 1, 9, 10, 99, 100, 1000, 99999, 100000, (-1), (-50), 7] : List Int))).bind fun bt113 => (some (bt113.1, bt113.2.1, bt113.2.2))))
set_option maxHeartbeats 8000000 in
set_option maxRecDepth 100000 in
theorem spec_l1Cur_value.calls (g : Nat) (s0_0 : List Int) (s0_1 : Int) (s0_2 : Int) (r1 : Int) (r2 : Int) (r3 : Int) (w0 w : World) (hI : IsS66 w0 w g s0_0 s0_1 s0_2) (hB : Below w0.heap.size w0 w) (h : spec_l1Cur_value.f s0_0 s0_1 s0_2 = some (r1, r2, r3)) :
 Calls Try.prog 78 #[.pointer (some ⟨g, 0, none⟩)] w fun e w' => e = .returned (.int .i64 r1) ∧ IsS66 w0 w' g s0_0 r2 r3 ∧ Below w0.heap.size w0 w' ∧ KeepBut w w' g none := by
 have HI0 := aM hI
 have HK := aM (KeepBut.refl w g none)
 have HL := aM hB.size
 clear hI
 have HW0 := aM hB.size
 have HB := aM hB
 clear hB
 have H : ((spec_l1Cur_one.f s0_0 s0_1 s0_2 16).bind fun bt101 => (if bt101.1 = true then ((spec_l1Cur_among.f s0_0 bt101.2.1 bt101.2.2 (([1000000000, (-1000000000), 999999999] : List Int))).bind fun bt107 => (some (bt107.1, bt107.2.1, bt107.2.2))) else ((spec_l1Cur_among.f s0_0 bt101.2.1 bt101.2.2 (([0, 1, 9, 10, 99, 100, 1000, 99999, 100000, (-1), (-50), 7] : List Int))).bind fun bt113 => (some (bt113.1, bt113.2.1, bt113.2.2))))) = some (r1, r2, r3) := h
 clear h
 replace H := Option.bind_eq_some_iff.mp H
 obtain ⟨⟨t101, t102, t103⟩, A20, H⟩ := H
 try dsimp only at H
 have A2 := aM A20
 clear A20
 by_cases c3 : t101 = true
 · subst c3
   have H1 : ((spec_l1Cur_among.f s0_0 t102 t103 (([1000000000, (-1000000000), 999999999] : List Int))).bind fun bt107 => (some (bt107.1, bt107.2.1, bt107.2.2))) = some (r1, r2, r3) := by rw [if_pos rfl] at H; exact H
   clear H
   have H := H1
   clear H1
   obtain ⟨y104, hy104⟩ : ∃ y_ : List Int, y_ = (([1000000000, (-1000000000), 999999999] : List Int)) := ⟨_, rfl⟩
   replace H : ((spec_l1Cur_among.f s0_0 t102 t103 y104).bind fun bt107 => (some (bt107.1, bt107.2.1, bt107.2.2))) = some (r1, r2, r3) := by first | (rw [hy104]; with_reducible exact H) | (have H2_ := (Option.bind_some _ _).symm.trans H; rw [hy104]; with_reducible exact H2_) | (have H2_ := (Option.bind_some _ _).symm.trans H; with_reducible exact H2_) | with_reducible exact H | (rw [hy104]; exact H) | exact H
   have Ny104 := aM hy104
   clear hy104
   replace H := Option.bind_eq_some_iff.mp H
   obtain ⟨⟨t107, t108, t109⟩, A40, H⟩ := H
   try dsimp only at H
   have A4 := aM A40
   clear A40
   simp only [Option.some.injEq, Prod.mk.injEq] at H
   obtain ⟨rfl, rfl, rfl⟩ := H
   go_enter Try.func78, Try.ntmps78
   go_wp2_with (first | ((with_reducible refine gate_callee (f := 35) rfl ?_); refine goesL_ (some 4) rfl rfl Try.func35 (by kernel_rfl) rfl #[.pointer (some ⟨g, 0, none⟩), .int .i64 16] rfl zee81 ?_; (with_reducible refine (spec_l1Cur_one.calls g s0_0 s0_1 s0_2 16 true t102 t103 w0 _ ?side1 ?side2 A2.out).mono ?_); (case side1 => exact zdb4b); (case side2 => exact zfd03); rintro e w5 ⟨rfl, hi, hb, hk⟩; refine ⟨_, rfl, ?_⟩; have _ := aM (KeepBut.trans zcbec hk (.inl rfl)); have _ := aM hb; have _ := aM hi; clear HK HB HI0; rename_i HK HB HI0; (try clear hb); (try clear hk); (try clear hi)) | ((with_reducible refine gate_dst (N := 6) rfl ?_); refine Kd.R_lit (Kd.int .i64) _ 3 ?hg (N := 6) ?hd (xs := ([1000000000, (-1000000000), 999999999] : List Int)) (inner := [.int .i64 1000000000, .int .i64 (-1000000000), .int .i64 999999999]) (ok := fun _ => True) (okp := fun _ => True) ?hr ?hp (fun _ hk => hk) trivial (Below.refl _ _) (Nat.le_refl _) (by simp) ?_; (case hd => rfl); (case hg => rfl); (case hr => first | (go_simp; done) | (go_simp; rfl)); (case hp => exact (Reps.one (show Kd.M (Kd.int .i64) _ _ _ 1000000000 [.int .i64 1000000000] from rfl) (Reps.one (show Kd.M (Kd.int .i64) _ _ _ (-1000000000) [.int .i64 (-1000000000)] from rfl) (Reps.one (show Kd.M (Kd.int .i64) _ _ _ 999999999 [.int .i64 999999999] from rfl) (Reps.none _ _))))); intro v105 w6 ho7 hb hg_ hnew_; clear hg_ hnew_; (first | rw [← Ny104.out] at ho7 | (simp only [Int.reduceToNat] at ho7; rw [← Ny104.out] at ho7)); have _ := aM (Kd.R_lower ho7 (keep_size (w := w) (g := g) (row := none) zcbec)); have _ := aM (IsS66.below zdb4b hb); have _ := aM (KeepBut.trans zcbec (KeepBut.of_below hb g none) (.inl rfl)); have _ := aM (below_step zfd03 hb); clear HI0 HK HB; rename_i HO106 HI0 HK HB; clear hb ho7; obtain ⟨Ao8, co8, eo8⟩ := Kd.R_slice HO106.out; subst eo8) | ((with_reducible refine gate_callee (f := 43) rfl ?_); refine goesL_ (some 7) rfl rfl Try.func43 (by kernel_rfl) rfl #[.pointer (some ⟨g, 0, none⟩), .slice Ao8 y104.length co8] rfl zee81 ?_; (with_reducible refine (spec_l1Cur_among.calls g s0_0 t102 t103 _ _ y104 t107 t108 t109 w0 _ ?side1 ?side2 ?side3 ?side4 ?side5 A4.out).mono ?_); (case side1 => exact zdb4b); (case side2 => exact zfd03); (case side3 => exact z3fd5); (case side4 => exact (Kd.R_reads' HO106.out).2.1); (case side5 => exact far_slice (IsS66.own_ne HI0.out HO106.out (by decide))); rintro e w9 ⟨rfl, hi, hb, hk⟩; refine ⟨_, rfl, ?_⟩; have _ := aM (Kd.R_mono (Kd.R_keep (IsS66.apart (show IsS66 w0 _ g s0_0 t102 t103 from by repeat (first | (with_reducible first | exact HI0.out | apply IsS66.alloc | apply IsS66.drewN | apply IsS66.drew | apply IsS66.set_1 | apply IsS66.set_2) | exact HI0.out)) (rZ HO106.out) (by decide)) hk (fun _ h => h.2)) (fun _ h => h.1)); have _ := aM (KeepBut.trans zcbec hk (.inl rfl)); have _ := aM hb; have _ := aM hi; clear HO106 HK HB HI0; rename_i HO106 HK HB HI0; (try clear hb); (try clear hk); (try clear hi)))
   go_ret
   exact ⟨z674d, zdb4b, zfd03, zcbec⟩
 · replace c3 := Bool.eq_false_iff.mpr c3
   subst c3
   have H1 : ((spec_l1Cur_among.f s0_0 t102 t103 (([0, 1, 9, 10, 99, 100, 1000, 99999, 100000, (-1), (-50), 7] : List Int))).bind fun bt113 => (some (bt113.1, bt113.2.1, bt113.2.2))) = some (r1, r2, r3) := by rw [if_neg (show ¬ (false = true) by decide)] at H; exact H
   clear H
   have H := H1
   clear H1
   obtain ⟨y110, hy110⟩ : ∃ y_ : List Int, y_ = (([0, 1, 9, 10, 99, 100, 1000, 99999, 100000, (-1), (-50), 7] : List Int)) := ⟨_, rfl⟩
   replace H : ((spec_l1Cur_among.f s0_0 t102 t103 y110).bind fun bt113 => (some (bt113.1, bt113.2.1, bt113.2.2))) = some (r1, r2, r3) := by first | (rw [hy110]; with_reducible exact H) | (have H2_ := (Option.bind_some _ _).symm.trans H; rw [hy110]; with_reducible exact H2_) | (have H2_ := (Option.bind_some _ _).symm.trans H; with_reducible exact H2_) | with_reducible exact H | (rw [hy110]; exact H) | exact H
   have Ny110 := aM hy110
   clear hy110
   replace H := Option.bind_eq_some_iff.mp H
   obtain ⟨⟨t113, t114, t115⟩, A100, H⟩ := H
   try dsimp only at H
   have A10 := aM A100
   clear A100
   simp only [Option.some.injEq, Prod.mk.injEq] at H
   obtain ⟨rfl, rfl, rfl⟩ := H
   go_enter Try.func78, Try.ntmps78
   go_wp2_with (first | ((with_reducible refine gate_callee (f := 35) rfl ?_); refine goesL_ (some 4) rfl rfl Try.func35 (by kernel_rfl) rfl #[.pointer (some ⟨g, 0, none⟩), .int .i64 16] rfl zee81 ?_; (with_reducible refine (spec_l1Cur_one.calls g s0_0 s0_1 s0_2 16 false t102 t103 w0 _ ?side1 ?side2 A2.out).mono ?_); (case side1 => exact zdb4b); (case side2 => exact zfd03); rintro e w11 ⟨rfl, hi, hb, hk⟩; refine ⟨_, rfl, ?_⟩; have _ := aM (KeepBut.trans zcbec hk (.inl rfl)); have _ := aM hb; have _ := aM hi; clear HK HB HI0; rename_i HK HB HI0; (try clear hb); (try clear hk); (try clear hi)) | ((with_reducible refine gate_dst (N := 9) rfl ?_); refine Kd.R_lit (Kd.int .i64) _ 3 ?hg (N := 9) ?hd (xs := ([0, 1, 9, 10, 99, 100, 1000, 99999, 100000, (-1), (-50), 7] : List Int)) (inner := [.int .i64 0, .int .i64 1, .int .i64 9, .int .i64 10, .int .i64 99, .int .i64 100, .int .i64 1000, .int .i64 99999, .int .i64 100000, .int .i64 (-1), .int .i64 (-50), .int .i64 7]) (ok := fun _ => True) (okp := fun _ => True) ?hr ?hp (fun _ hk => hk) trivial (Below.refl _ _) (Nat.le_refl _) (by simp) ?_; (case hd => rfl); (case hg => rfl); (case hr => first | (go_simp; done) | (go_simp; rfl)); (case hp => exact (Reps.one (show Kd.M (Kd.int .i64) _ _ _ 0 [.int .i64 0] from rfl) (Reps.one (show Kd.M (Kd.int .i64) _ _ _ 1 [.int .i64 1] from rfl) (Reps.one (show Kd.M (Kd.int .i64) _ _ _ 9 [.int .i64 9] from rfl) (Reps.one (show Kd.M (Kd.int .i64) _ _ _ 10 [.int .i64 10] from rfl) (Reps.one (show Kd.M (Kd.int .i64) _ _ _ 99 [.int .i64 99] from rfl) (Reps.one (show Kd.M (Kd.int .i64) _ _ _ 100 [.int .i64 100] from rfl) (Reps.one (show Kd.M (Kd.int .i64) _ _ _ 1000 [.int .i64 1000] from rfl) (Reps.one (show Kd.M (Kd.int .i64) _ _ _ 99999 [.int .i64 99999] from rfl) (Reps.one (show Kd.M (Kd.int .i64) _ _ _ 100000 [.int .i64 100000] from rfl) (Reps.one (show Kd.M (Kd.int .i64) _ _ _ (-1) [.int .i64 (-1)] from rfl) (Reps.one (show Kd.M (Kd.int .i64) _ _ _ (-50) [.int .i64 (-50)] from rfl) (Reps.one (show Kd.M (Kd.int .i64) _ _ _ 7 [.int .i64 7] from rfl) (Reps.none _ _)))))))))))))); intro v111 w12 ho13 hb hg_ hnew_; clear hg_ hnew_; (first | rw [← Ny110.out] at ho13 | (simp only [Int.reduceToNat] at ho13; rw [← Ny110.out] at ho13)); have _ := aM (Kd.R_lower ho13 (keep_size (w := w) (g := g) (row := none) zcbec)); have _ := aM (IsS66.below zdb4b hb); have _ := aM (KeepBut.trans zcbec (KeepBut.of_below hb g none) (.inl rfl)); have _ := aM (below_step zfd03 hb); clear HI0 HK HB; rename_i HO112 HI0 HK HB; clear hb ho13; obtain ⟨Ao14, co14, eo14⟩ := Kd.R_slice HO112.out; subst eo14) | ((with_reducible refine gate_callee (f := 43) rfl ?_); refine goesL_ (some 10) rfl rfl Try.func43 (by kernel_rfl) rfl #[.pointer (some ⟨g, 0, none⟩), .slice Ao14 y110.length co14] rfl zee81 ?_; (with_reducible refine (spec_l1Cur_among.calls g s0_0 t102 t103 _ _ y110 t113 t114 t115 w0 _ ?side1 ?side2 ?side3 ?side4 ?side5 A10.out).mono ?_); (case side1 => exact zdb4b); (case side2 => exact zfd03); (case side3 => exact (by repeat (first | exact (Kd.R_reads' HO112.out).2.2 | (with_reducible refine Kd.C_alloc ?_ _) | (with_reducible refine Kd.C_drewN ?_ _) | (with_reducible refine Kd.C_drew ?_)))); (case side4 => exact (Kd.R_reads' HO112.out).2.1); (case side5 => exact far_slice (IsS66.own_ne HI0.out HO112.out (by decide))); rintro e w15 ⟨rfl, hi, hb, hk⟩; refine ⟨_, rfl, ?_⟩; have _ := aM (Kd.R_mono (Kd.R_keep (IsS66.apart (show IsS66 w0 _ g s0_0 t102 t103 from by repeat (first | (with_reducible first | exact HI0.out | apply IsS66.alloc | apply IsS66.drewN | apply IsS66.drew | apply IsS66.set_1 | apply IsS66.set_2) | exact HI0.out)) (rZ HO112.out) (by decide)) hk (fun _ h => h.2)) (fun _ h => h.1)); have _ := aM (KeepBut.trans zcbec hk (.inl rfl)); have _ := aM hb; have _ := aM hi; clear HO112 HK HB HI0; rename_i HO112 HK HB HI0; (try clear hb); (try clear hk); (try clear hi)))
   go_ret
   exact ⟨z674d, zdb4b, zfd03, zcbec⟩

end Go.Proofs.Ythliooccgclbjaa.P
