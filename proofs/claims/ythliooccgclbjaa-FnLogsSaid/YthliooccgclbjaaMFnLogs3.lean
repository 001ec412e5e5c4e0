/- Part 3 of the walks and words that FnLogs uses. No conditions of its own. -/
import Derived.Test.YthliooccgclbjaaProg
import Derived.Below
import Derived.Deep.Draws
import Derived.Deep.AppendLies
import Derived.Maps.AppendAt
import Derived.OwnWalk
import Derived.Laws.BytesArg
import Derived.Laws.MakeOwn
import Derived.Laws.OwnMore
import Derived.Deep.OwnRows
import Derived.Tactics
import Derived.Lib.ConvBytes
import Derived.Laws.Slices
import Derived.WalkKit
import Derived.KernelRfl
import Derived.RowKit3
import Derived.Deep.LoopGhost
import Derived.Deep.QuietTactic
import Derived.BigQuiet
import Derived.WideLaws
import Derived.Deep.DeepCutAuto
import Derived.Deep.CutBlock
import Derived.Deep.RegionHeld3
import Derived.Laws.Rows
import Derived.Lib.AppendStr
import Derived.ArgAppend
import Derived.Laws.IdiomCopy
import Derived.OrdersHeld
import Derived.Laws.BitsLemmas
import Derived.RowKit
import Derived.Lib.SliceRun
import Derived.Test.YthliooccgclbjaaMFnLogs2

/- Short words for the walks: each is a proof of its statement, found where it is used. No conditions. -/
namespace Go.Proofs.Ythliooccgclbjaa.P
open Go.RowKit Go.Proofs.YthliooccgclbjaaW.PrintWords Go.Proofs.YthliooccgclbjaaW.PrintLast Go.Proofs.YthliooccgclbjaaW.PrintMore
theorem hbZ {p : Prop} (h : p := by repeat (first | (with_reducible first | exact HB.out | apply below_alloc | apply pw_below_drewN | apply below_drew1 | refine below_set ?_ (Aside0.out (by assumption))) | exact HB.out)) : p := h
theorem putR {cs cs' : Array Value} {i : Nat} {u : Value} (h : cs.setIfInBounds i u = cs') : cs.setIfInBounds i u = cs' := h
theorem neZ {a b : Nat} (h : a ≠ b) : a ≠ b := h
theorem blk_farZ {w : World} {g gp i : Nat} {t : TypeId} {cs : Array Value} {u : Value} (h : w.heap[g]? = some (.cells cs t (0, 0))) (hp : g ≠ gp) : (w.setCell ⟨gp, i, none⟩ u).heap[g]? = some (.cells cs t (0, 0)) := blk_far h hp u
theorem bkZ {p : Prop} (h : p := by repeat (first | (with_reducible first | refine blk_drewN ?_ _ | refine blk_drew ?_ | refine blk_alloc ?_ _ | exact (Aside0.out (by assumption)) | apply blk_put | apply blk_farZ) | exact putR rfl | exact neZ (Aside0.out (by assumption)) | with_reducible apply blk_far)) : p := h
theorem rZ {p q : Prop} (h0 : p) (h : p → q := by intro h_; (with_reducible repeat (first | apply Kd.R_alloc | apply Kd.R_drewN | apply Kd.R_drew)); exact h_) : q := h h0
theorem vZ {p q : Prop} (h0 : p) (h : p → q := by intro h_; (with_reducible repeat (first | apply Kd.V_alloc | apply Kd.V_drewN | apply Kd.V_drew)); exact h_) : q := h h0
theorem kZ {p q : Prop} (h0 : p) (h : p → q := by intro h_; (with_reducible repeat (first | apply Kd.Q_alloc | apply Kd.Q_drewN | apply Kd.Q_drew)); exact h_) : q := h h0
theorem cellsZ1 {w : World} {g : Nat} {t : TypeId} {a0 : Value} (h : w.heap[g]? = some (.cells #[a0] t (0, 0))) : w.cell? ⟨g, 0, none⟩ = some a0 ∧ w.frozen? ⟨g, 0, none⟩ = false := ⟨(blk_cell h 0).trans rfl, blk_frozen h 0⟩
theorem cellsZ2 {w : World} {g : Nat} {t : TypeId} {a0 a1 : Value} (h : w.heap[g]? = some (.cells #[a0, a1] t (0, 0))) : w.cell? ⟨g, 0, none⟩ = some a0 ∧ w.cell? ⟨g, 1, none⟩ = some a1 ∧ w.frozen? ⟨g, 0, none⟩ = false ∧ w.frozen? ⟨g, 1, none⟩ = false := ⟨(blk_cell h 0).trans rfl, (blk_cell h 1).trans rfl, blk_frozen h 0, blk_frozen h 1⟩
theorem cellsZ3 {w : World} {g : Nat} {t : TypeId} {a0 a1 a2 : Value} (h : w.heap[g]? = some (.cells #[a0, a1, a2] t (0, 0))) : w.cell? ⟨g, 0, none⟩ = some a0 ∧ w.cell? ⟨g, 1, none⟩ = some a1 ∧ w.cell? ⟨g, 2, none⟩ = some a2 ∧ w.frozen? ⟨g, 0, none⟩ = false ∧ w.frozen? ⟨g, 1, none⟩ = false ∧ w.frozen? ⟨g, 2, none⟩ = false := ⟨(blk_cell h 0).trans rfl, (blk_cell h 1).trans rfl, (blk_cell h 2).trans rfl, blk_frozen h 0, blk_frozen h 1, blk_frozen h 2⟩
theorem cellsZ4 {w : World} {g : Nat} {t : TypeId} {a0 a1 a2 a3 : Value} (h : w.heap[g]? = some (.cells #[a0, a1, a2, a3] t (0, 0))) : w.cell? ⟨g, 0, none⟩ = some a0 ∧ w.cell? ⟨g, 1, none⟩ = some a1 ∧ w.cell? ⟨g, 2, none⟩ = some a2 ∧ w.cell? ⟨g, 3, none⟩ = some a3 ∧ w.frozen? ⟨g, 0, none⟩ = false ∧ w.frozen? ⟨g, 1, none⟩ = false ∧ w.frozen? ⟨g, 2, none⟩ = false ∧ w.frozen? ⟨g, 3, none⟩ = false := ⟨(blk_cell h 0).trans rfl, (blk_cell h 1).trans rfl, (blk_cell h 2).trans rfl, (blk_cell h 3).trans rfl, blk_frozen h 0, blk_frozen h 1, blk_frozen h 2, blk_frozen h 3⟩
theorem cellsZ5 {w : World} {g : Nat} {t : TypeId} {a0 a1 a2 a3 a4 : Value} (h : w.heap[g]? = some (.cells #[a0, a1, a2, a3, a4] t (0, 0))) : w.cell? ⟨g, 0, none⟩ = some a0 ∧ w.cell? ⟨g, 1, none⟩ = some a1 ∧ w.cell? ⟨g, 2, none⟩ = some a2 ∧ w.cell? ⟨g, 3, none⟩ = some a3 ∧ w.cell? ⟨g, 4, none⟩ = some a4 ∧ w.frozen? ⟨g, 0, none⟩ = false ∧ w.frozen? ⟨g, 1, none⟩ = false ∧ w.frozen? ⟨g, 2, none⟩ = false ∧ w.frozen? ⟨g, 3, none⟩ = false ∧ w.frozen? ⟨g, 4, none⟩ = false := ⟨(blk_cell h 0).trans rfl, (blk_cell h 1).trans rfl, (blk_cell h 2).trans rfl, (blk_cell h 3).trans rfl, (blk_cell h 4).trans rfl, blk_frozen h 0, blk_frozen h 1, blk_frozen h 2, blk_frozen h 3, blk_frozen h 4⟩
theorem cellsZ6 {w : World} {g : Nat} {t : TypeId} {a0 a1 a2 a3 a4 a5 : Value} (h : w.heap[g]? = some (.cells #[a0, a1, a2, a3, a4, a5] t (0, 0))) : w.cell? ⟨g, 0, none⟩ = some a0 ∧ w.cell? ⟨g, 1, none⟩ = some a1 ∧ w.cell? ⟨g, 2, none⟩ = some a2 ∧ w.cell? ⟨g, 3, none⟩ = some a3 ∧ w.cell? ⟨g, 4, none⟩ = some a4 ∧ w.cell? ⟨g, 5, none⟩ = some a5 ∧ w.frozen? ⟨g, 0, none⟩ = false ∧ w.frozen? ⟨g, 1, none⟩ = false ∧ w.frozen? ⟨g, 2, none⟩ = false ∧ w.frozen? ⟨g, 3, none⟩ = false ∧ w.frozen? ⟨g, 4, none⟩ = false ∧ w.frozen? ⟨g, 5, none⟩ = false := ⟨(blk_cell h 0).trans rfl, (blk_cell h 1).trans rfl, (blk_cell h 2).trans rfl, (blk_cell h 3).trans rfl, (blk_cell h 4).trans rfl, (blk_cell h 5).trans rfl, blk_frozen h 0, blk_frozen h 1, blk_frozen h 2, blk_frozen h 3, blk_frozen h 4, blk_frozen h 5⟩
theorem cellsZ7 {w : World} {g : Nat} {t : TypeId} {a0 a1 a2 a3 a4 a5 a6 : Value} (h : w.heap[g]? = some (.cells #[a0, a1, a2, a3, a4, a5, a6] t (0, 0))) : w.cell? ⟨g, 0, none⟩ = some a0 ∧ w.cell? ⟨g, 1, none⟩ = some a1 ∧ w.cell? ⟨g, 2, none⟩ = some a2 ∧ w.cell? ⟨g, 3, none⟩ = some a3 ∧ w.cell? ⟨g, 4, none⟩ = some a4 ∧ w.cell? ⟨g, 5, none⟩ = some a5 ∧ w.cell? ⟨g, 6, none⟩ = some a6 ∧ w.frozen? ⟨g, 0, none⟩ = false ∧ w.frozen? ⟨g, 1, none⟩ = false ∧ w.frozen? ⟨g, 2, none⟩ = false ∧ w.frozen? ⟨g, 3, none⟩ = false ∧ w.frozen? ⟨g, 4, none⟩ = false ∧ w.frozen? ⟨g, 5, none⟩ = false ∧ w.frozen? ⟨g, 6, none⟩ = false := ⟨(blk_cell h 0).trans rfl, (blk_cell h 1).trans rfl, (blk_cell h 2).trans rfl, (blk_cell h 3).trans rfl, (blk_cell h 4).trans rfl, (blk_cell h 5).trans rfl, (blk_cell h 6).trans rfl, blk_frozen h 0, blk_frozen h 1, blk_frozen h 2, blk_frozen h 3, blk_frozen h 4, blk_frozen h 5, blk_frozen h 6⟩
theorem cellsZ8 {w : World} {g : Nat} {t : TypeId} {a0 a1 a2 a3 a4 a5 a6 a7 : Value} (h : w.heap[g]? = some (.cells #[a0, a1, a2, a3, a4, a5, a6, a7] t (0, 0))) : w.cell? ⟨g, 0, none⟩ = some a0 ∧ w.cell? ⟨g, 1, none⟩ = some a1 ∧ w.cell? ⟨g, 2, none⟩ = some a2 ∧ w.cell? ⟨g, 3, none⟩ = some a3 ∧ w.cell? ⟨g, 4, none⟩ = some a4 ∧ w.cell? ⟨g, 5, none⟩ = some a5 ∧ w.cell? ⟨g, 6, none⟩ = some a6 ∧ w.cell? ⟨g, 7, none⟩ = some a7 ∧ w.frozen? ⟨g, 0, none⟩ = false ∧ w.frozen? ⟨g, 1, none⟩ = false ∧ w.frozen? ⟨g, 2, none⟩ = false ∧ w.frozen? ⟨g, 3, none⟩ = false ∧ w.frozen? ⟨g, 4, none⟩ = false ∧ w.frozen? ⟨g, 5, none⟩ = false ∧ w.frozen? ⟨g, 6, none⟩ = false ∧ w.frozen? ⟨g, 7, none⟩ = false := ⟨(blk_cell h 0).trans rfl, (blk_cell h 1).trans rfl, (blk_cell h 2).trans rfl, (blk_cell h 3).trans rfl, (blk_cell h 4).trans rfl, (blk_cell h 5).trans rfl, (blk_cell h 6).trans rfl, (blk_cell h 7).trans rfl, blk_frozen h 0, blk_frozen h 1, blk_frozen h 2, blk_frozen h 3, blk_frozen h 4, blk_frozen h 5, blk_frozen h 6, blk_frozen h 7⟩
theorem cellsZ9 {w : World} {g : Nat} {t : TypeId} {a0 a1 a2 a3 a4 a5 a6 a7 a8 : Value} (h : w.heap[g]? = some (.cells #[a0, a1, a2, a3, a4, a5, a6, a7, a8] t (0, 0))) : w.cell? ⟨g, 0, none⟩ = some a0 ∧ w.cell? ⟨g, 1, none⟩ = some a1 ∧ w.cell? ⟨g, 2, none⟩ = some a2 ∧ w.cell? ⟨g, 3, none⟩ = some a3 ∧ w.cell? ⟨g, 4, none⟩ = some a4 ∧ w.cell? ⟨g, 5, none⟩ = some a5 ∧ w.cell? ⟨g, 6, none⟩ = some a6 ∧ w.cell? ⟨g, 7, none⟩ = some a7 ∧ w.cell? ⟨g, 8, none⟩ = some a8 ∧ w.frozen? ⟨g, 0, none⟩ = false ∧ w.frozen? ⟨g, 1, none⟩ = false ∧ w.frozen? ⟨g, 2, none⟩ = false ∧ w.frozen? ⟨g, 3, none⟩ = false ∧ w.frozen? ⟨g, 4, none⟩ = false ∧ w.frozen? ⟨g, 5, none⟩ = false ∧ w.frozen? ⟨g, 6, none⟩ = false ∧ w.frozen? ⟨g, 7, none⟩ = false ∧ w.frozen? ⟨g, 8, none⟩ = false := ⟨(blk_cell h 0).trans rfl, (blk_cell h 1).trans rfl, (blk_cell h 2).trans rfl, (blk_cell h 3).trans rfl, (blk_cell h 4).trans rfl, (blk_cell h 5).trans rfl, (blk_cell h 6).trans rfl, (blk_cell h 7).trans rfl, (blk_cell h 8).trans rfl, blk_frozen h 0, blk_frozen h 1, blk_frozen h 2, blk_frozen h 3, blk_frozen h 4, blk_frozen h 5, blk_frozen h 6, blk_frozen h 7, blk_frozen h 8⟩
theorem z02fa {p : Prop} (h : p := by first | exact Kd.R_nil _ _ _ _ _ | exact Kd.N_nil _ _ _ _ _ | exact Kd.V_nil _ _ _ _ _ | exact Kd.Q_nil _ _ _ _ _ | exact Kd.S_nil _ _ _ _ _) : p := h
theorem z0857 {p : Prop} (h : p := by (try simp only [List.map_toArray, List.map_cons, List.map_nil]); first | done | (rw [show (l0.drop 1).length = (l0.length - 1) from List.length_drop] <;> rfl) | rfl | (simp only [List.length_drop, List.length_take]; rfl)) : p := h
theorem z1200 {p : Prop} (h : p := by first | (with_reducible assumption) | assumption) : p := h
theorem z14e2 {p : Prop} (h : p := by repeat (first | exact (Kd.C_below HR0_4.out HB.out) | (with_reducible refine Kd.C_alloc ?_ _) | (with_reducible refine Kd.C_drewN ?_ _) | (with_reducible refine Kd.C_drew ?_))) : p := h
theorem z175e {p : Prop} (h : p := by (with_reducible repeat (first | apply Kd.Q_alloc | apply Kd.Q_drewN | apply Kd.Q_drew)); exact (Kd.Q_mono (Kd.Q_far (p := ⟨gb110, 0, none⟩) (Kd.Q_types HO_111004.out BK110.out (by decide)) (fun _ hk => hk.2) (.int .i64 1000000000)) (fun _ h_ => h_.1))) : p := h
theorem z1bd3 {p : Prop} (h : p := by (with_reducible repeat (first | apply Kd.S_alloc | apply Kd.S_drewN | apply Kd.S_drew)); exact HO103.out) : p := h
theorem z1cbf {p : Prop} (h : p := by repeat (first | (with_reducible first | exact HI101.out | apply IsS66.alloc | apply IsS66.drewN | apply IsS66.drew | apply IsS66.set_1 | apply IsS66.set_2) | exact HI101.out)) : p := h
theorem z2541 {p : Prop} (h : p := by (with_reducible repeat (first | apply Kd.V_alloc | apply Kd.V_drewN | apply Kd.V_drew)); exact Kd.V_mono HO_1.out (fun _ hk => ⟨⟨hk.1.1, hk.2⟩, hk.1.2⟩)) : p := h
theorem z2bfb {p : Prop} (h : p := by first | exact Kd.S_nil _ _ _ _ _ | exact Kd.N_nil _ _ _ _ _ | exact Kd.V_nil _ _ _ _ _ | exact Kd.Q_nil _ _ _ _ _ | exact Kd.R_nil _ _ _ _ _) : p := h
theorem z2f66 {p : Prop} (h : p := by have := HK1.out; have := HJ8.out; have := HJ13.out; first | omega | exact Nat.le_refl _) : p := h
theorem z318d {p : Prop} (h : p := by repeat (first | exact (Kd.R_reads' HO_111001.out).2.2 | (with_reducible refine Kd.C_alloc ?_ _) | (with_reducible refine Kd.C_drewN ?_ _) | (with_reducible refine Kd.C_drew ?_))) : p := h
theorem z395e {p : Prop} (h : p := by repeat (first | exact (Kd.S_reads' HO103.out).2.2 | (with_reducible refine Kd.C_alloc ?_ _) | (with_reducible refine Kd.C_drewN ?_ _) | (with_reducible refine Kd.C_drew ?_))) : p := h
theorem z3fd5 {p : Prop} (h : p := by repeat (first | exact (Kd.R_reads' HO106.out).2.2 | (with_reducible refine Kd.C_alloc ?_ _) | (with_reducible refine Kd.C_drewN ?_ _) | (with_reducible refine Kd.C_drew ?_))) : p := h
theorem z4195 {p : Prop} (h : p := by repeat (first | exact HR0.out | (with_reducible refine Kd.C_alloc ?_ _) | (with_reducible refine Kd.C_drewN ?_ _) | (with_reducible refine Kd.C_drew ?_))) : p := h
theorem z419f {p : Prop} (h : p := by repeat (first | exact (by repeat (first | (with_reducible exact HR123.out) | (with_reducible refine Kd.C_alloc ?_ _) | (with_reducible refine Kd.C_drewN ?_ _) | (with_reducible refine Kd.C_drew ?_) | exact HR123.out)) | (with_reducible refine Kd.C_alloc ?_ _) | (with_reducible refine Kd.C_drewN ?_ _) | (with_reducible refine Kd.C_drew ?_))) : p := h
theorem z423e {p : Prop} (h : p := by (with_reducible repeat (first | apply Kd.S_alloc | apply Kd.S_drewN | apply Kd.S_drew)); exact HO_5.out) : p := h
theorem z4458 {p : Prop} (h : p := by first | rfl | (simp; done) | (simp [*]; done)) : p := h
theorem z4485 {p : Prop} (h : p := by (with_reducible repeat (first | apply Kd.V_alloc | apply Kd.V_drewN | apply Kd.V_drew)); exact Kd.V_mono HO_1.out (fun _ hk => ⟨⟨hk.1.1.1, ⟨hk.1.1.2, hk.2⟩⟩, hk.1.2⟩)) : p := h
theorem z455b {p : Prop} (h : p := by first | rfl | (simp [errW_none, errW_some] <;> rfl) | (simp only [← hji38]; first | rfl | (simp [errW_none, errW_some] <;> rfl)) | (simp [*, errW_none, errW_some] <;> rfl)) : p := h
theorem z45f8 {p : Prop} (h : p := by repeat (first | exact (Kd.C_below HR0_1.out HB.out) | (with_reducible refine Kd.C_alloc ?_ _) | (with_reducible refine Kd.C_drewN ?_ _) | (with_reducible refine Kd.C_drew ?_))) : p := h
theorem z53e9 {p : Prop} (h : p := by (with_reducible repeat (first | apply Kd.R_alloc | apply Kd.R_drewN | apply Kd.R_drew)); exact Kd.R_mono (Kd.R_far (p := ⟨gb116, 1, none⟩) (Kd.R_far (p := ⟨gb116, 0, none⟩) (Kd.R_types HO108.out BK116.out (by decide)) (fun _ hk => hk.2) (.int .i64 t111)) (fun _ hk => hk.2) (.slice Ao17 t112.length co17)) (fun _ hk => hk.1.2)) : p := h
theorem z5618 {p : Prop} (h : p := by repeat (first | (with_reducible exact HR123.out) | (with_reducible refine Kd.C_alloc ?_ _) | (with_reducible refine Kd.C_drewN ?_ _) | (with_reducible refine Kd.C_drew ?_) | exact HR123.out)) : p := h
theorem z5acd {p : Prop} (h : p := by repeat (first | (with_reducible first | exact HB.out | apply below_alloc | apply pw_below_drewN | apply below_drew1) | exact HB.out)) : p := h
theorem z5d5d {p : Prop} (h : p := by repeat (first | exact (Kd.C_below HR1.out HB.out) | (with_reducible refine Kd.C_alloc ?_ _) | (with_reducible refine Kd.C_drewN ?_ _) | (with_reducible refine Kd.C_drew ?_))) : p := h
theorem z674d {p : Prop} (h : p := by first | rfl | (simp [errW_none, errW_some] <;> rfl) | (simp [*, errW_none, errW_some] <;> rfl)) : p := h
theorem z6f3b {p : Prop} (h : p := by (with_reducible repeat (first | apply Kd.R_alloc | apply Kd.R_drewN | apply Kd.R_drew)); exact Kd.R_mono (Kd.R_far (p := ⟨gb116, 1, none⟩) (Kd.R_far (p := ⟨gb116, 0, none⟩) (Kd.R_types HO104.out BK116.out (by decide)) (fun _ hk => hk.2) (.int .i64 t111)) (fun _ hk => hk.2) (.slice Ao17 t112.length co17)) (fun _ hk => trivial)) : p := h
theorem z7234 {p : Prop} (h : p := by (with_reducible repeat (first | apply Kd.S_alloc | apply Kd.S_drewN | apply Kd.S_drew)); exact Kd.S_mono HO128.out (fun _ hk => hk.1.1.2)) : p := h
theorem z7793 {p : Prop} (h : p := by repeat (first | exact (Kd.R_reads' HO_6.out).2.2 | (with_reducible refine Kd.C_alloc ?_ _) | (with_reducible refine Kd.C_drewN ?_ _) | (with_reducible refine Kd.C_drew ?_))) : p := h
theorem z87ef {p : Prop} (h : p := by simp only [putAll, Act.put, List.setIfInBounds_toArray, List.set_cons_zero, List.set_cons_succ]) : p := h
theorem z8f43 {p : Prop} (h : p := by (with_reducible repeat (first | apply Kd.S_alloc | apply Kd.S_drewN | apply Kd.S_drew)); exact Kd.S_mono HO_4.out (fun _ hk => ⟨trivial, hk⟩)) : p := h
theorem z951f {p : Prop} (h : p := by (with_reducible repeat (first | apply Kd.S_alloc | apply Kd.S_drewN | apply Kd.S_drew)); exact Kd.S_mono HO116.out (fun _ hk => ⟨hk.1.2, hk.2⟩)) : p := h
theorem za9de {p : Prop} (h : p := by repeat (first | exact Drawn0.refl _ | apply Drawn0.step)) : p := h
theorem zaf5a {p : Prop} (h : p := by repeat (first | exact (Kd.C_below HR1_4.out HB.out) | (with_reducible refine Kd.C_alloc ?_ _) | (with_reducible refine Kd.C_drewN ?_ _) | (with_reducible refine Kd.C_drew ?_))) : p := h
theorem zb79b {p : Prop} (h : p := by first | omega | exact Nat.le_refl _) : p := h
theorem zbca6 {p : Prop} (h : p := by repeat (first | exact (Kd.R_reads' HO121.out).2.2 | (with_reducible refine Kd.C_alloc ?_ _) | (with_reducible refine Kd.C_drewN ?_ _) | (with_reducible refine Kd.C_drew ?_))) : p := h
theorem zc1cf {p : Prop} (h : p := by repeat (first | (with_reducible first | exact HI0.out | apply IsS66.alloc | apply IsS66.drewN | apply IsS66.drew | apply IsS66.set_1 | apply IsS66.set_2 | refine IsS66.far ?_ (Aside0.out (by assumption)) _) | exact HI0.out)) : p := h
theorem zc2be {p : Prop} (h : p := by have := HK1.out; have := HK2.out; omega) : p := h
theorem zc64e {p : Prop} (h : p := by repeat (first | (with_reducible first | exact HB.out | apply below_alloc | apply pw_below_drewN | apply below_drew1 | refine below_set ?_ (IsS66.ge (Aside0.out (by assumption))) | refine below_set ?_ (Aside0.out (by assumption))) | exact HB.out)) : p := h
theorem zc669 {p : Prop} (h : p := by (with_reducible repeat (first | apply Kd.R_alloc | apply Kd.R_drewN | apply Kd.R_drew)); exact Kd.R_mono (Kd.R_far (p := ⟨gb116, 1, none⟩) (Kd.R_far (p := ⟨gb116, 0, none⟩) (Kd.R_types HO114.out BK116.out (by decide)) (fun _ hk => hk.2) (.int .i64 t111)) (fun _ hk => hk.2) (.slice Ao17 t112.length co17)) (fun _ hk => hk.1.2)) : p := h
theorem zc776 {p : Prop} (h : p := by repeat (first | exact (Kd.C_below HR103.out HB.out) | (with_reducible refine Kd.C_alloc ?_ _) | (with_reducible refine Kd.C_drewN ?_ _) | (with_reducible refine Kd.C_drew ?_))) : p := h
theorem zcb41 {p : Prop} (h : p := by repeat (first | (with_reducible first | exact HB.out | apply below_alloc | apply pw_below_drewN | apply below_drew1 | refine below_set ?_ (Aside0.out (by assumption))) | exact HB.out)) : p := h
theorem zcbec {p : Prop} (h : p := by repeat (first | (with_reducible first | exact HK.out | apply KeepBut.set_ | apply keep_drewN | apply keep_drew | apply keep_alloc) | exact HK.out)) : p := h
theorem zd4eb {p : Prop} (h : p := by (with_reducible repeat (first | apply Kd.S_alloc | apply Kd.S_drewN | apply Kd.S_drew)); exact HO_4.out) : p := h
theorem zd8ff {p : Prop} (h : p := by (with_reducible repeat (first | apply Kd.S_alloc | apply Kd.S_drewN | apply Kd.S_drew)); exact HO_10.out) : p := h
theorem zdb4b {p : Prop} (h : p := by repeat (first | (with_reducible first | exact HI0.out | apply IsS66.alloc | apply IsS66.drewN | apply IsS66.drew | apply IsS66.set_1 | apply IsS66.set_2) | exact HI0.out)) : p := h
theorem zdc19 {p : Prop} (h : p := by have := HJ1.out; have := HK2.out; first | omega | exact Nat.le_refl _) : p := h
theorem ze3d8 {p : Prop} (h : p := by repeat (first | exact HR1_1.out | (with_reducible refine Kd.C_alloc ?_ _) | (with_reducible refine Kd.C_drewN ?_ _) | (with_reducible refine Kd.C_drew ?_))) : p := h
theorem ze505 {p : Prop} (h : p := by first | rfl | (simp; done) | (simp only [← hji12] <;> (first | rfl | (simp; done))) | (simp [*]; done)) : p := h
theorem ze59a {p : Prop} (h : p := by have := HK1.out; first | omega | exact Nat.le_refl _) : p := h
theorem zea21 {p : Prop} (h : p := by repeat (first | (with_reducible first | exact HK.out | apply KeepBut.set_ | apply keep_drewN | apply keep_drew | apply keep_alloc | refine keep_far ?_ (Aside0.out (by assumption)) _) | exact HK.out)) : p := h
theorem zee81 {p : Prop} (h : p := by (try simp only [List.map_toArray, List.map_cons, List.map_nil]); first | done | rfl | (simp only [List.length_drop, List.length_take]; rfl)) : p := h
theorem zf72a {p : Prop} (h : p := by (with_reducible repeat (first | apply Kd.R_alloc | apply Kd.R_drewN | apply Kd.R_drew)); exact Kd.R_mono HO107.out (fun _ hk => trivial)) : p := h
theorem zfb39 {p : Prop} (h : p := by have := HK1.out; omega) : p := h
theorem zfd03 {p : Prop} (h : p := by repeat (first | (with_reducible first | exact HB.out | apply below_alloc | apply pw_below_drewN | apply below_drew1 | refine below_set ?_ (IsS66.ge (Aside0.out (by assumption)))) | exact HB.out)) : p := h
end Go.Proofs.Ythliooccgclbjaa.P

-- written by a program of this session's (wip/pp)
namespace Go.Proofs.Ythliooccgclbjaa.P
open Go.RowKit Go.Proofs.YthliooccgclbjaaW.PrintWords Go.Proofs.YthliooccgclbjaaW.PrintLast Go.Proofs.YthliooccgclbjaaW.PrintMore
attribute [local go_sem] max2_int min2_int max_two min_two max_three min_three max_four min_four   -- for this text's walks alone
set_option linter.unusedVariables false
set_option linter.unusedSimpArgs false



def errW : Option Int → Value
  | none => .nilIface
  | some c => .iface 0 (.int .i64 c)
theorem errW_none : errW none = .nilIface := rfl
theorem errW_some (c : Int) : errW (some c) = .iface 0 (.int .i64 c) := rfl

theorem info3 : (Try.prog.info? 3).map (fun i => (i.zero, i.size, i.bytes)) = some (some (.int .i64 0), 1, 8) := by kernel_rfl
theorem info5 : (Try.prog.info? 5).map (fun i => (i.zero, i.size, i.bytes)) = some (some (.int .u8 0), 1, 1) := by kernel_rfl
theorem info9 : (Try.prog.info? 9).map (fun i => (i.zero, i.size, i.bytes)) = some (some (.string ⟨#[]⟩), 1, 16) := by kernel_rfl
theorem info22 : (Try.prog.info? 22).map (fun i => (i.zero, i.size, i.bytes)) = some (some (.slice none 0 0), 1, 24) := by kernel_rfl
-- the values' own types
def rd_L4 (xs : List (List Int)) (i : Int) : (List Int) := xs.getD i.toNat ([] : List Int)
theorem at_L4 {w : World} {A : Option Addr} {n : Nat} {xs : List (List Int)} (h : Kd.C (Kd.slice 5 (Kd.int .u8)) w A n xs) (i : Int) (h0 : 0 ≤ i) (h1 : i < n) : ∃ ad A0 c0, A = some ad ∧ w.cell? (ad.add i.toNat) = some (.slice A0 (rd_L4 xs i).length c0) ∧ (rd_L4 xs i).length ≤ c0 ∧ (Kd.int .u8).C w A0 (rd_L4 xs i).length (rd_L4 xs i) := by
  obtain ⟨ad, c, e, _, hK, hc0⟩ := Kd.C_get h ([] : List Int) i h0 h1
  have hc : ∀ j u, c[j]? = some u → w.cell? (ad.add (i.toNat * 1 + j)) = some u := hc0
  obtain ⟨A0, c0, rfl, l0, g0⟩ := hK
  exact ⟨ad, A0, c0, e, by have hq := hc 0 _ rfl; rwa [Nat.mul_one, Nat.add_zero] at hq, l0, g0⟩

end Go.Proofs.Ythliooccgclbjaa.P

-- written by a program of this session's (wip/pp)
namespace Go.Proofs.Ythliooccgclbjaa.P
open Go.RowKit Go.Proofs.YthliooccgclbjaaW.PrintWords Go.Proofs.YthliooccgclbjaaW.PrintLast Go.Proofs.YthliooccgclbjaaW.PrintMore
attribute [local go_sem] max2_int min2_int max_two min_two max_three min_three max_four min_four   -- for this text's walks alone
set_option linter.unusedVariables false
set_option linter.unusedSimpArgs false

/-- A state of type 66 at block g of W; what its slices lead to came in by w0. -/
def IsS66 (w0 W : World) (g : Nat) (f0 : List Int) (f1 : Int) (f2 : Int) : Prop := ∃ A0 c0, W.heap[g]? = some (.cells #[.slice A0 f0.length c0, .int .i64 f1, .int .u64 f2] 66 (0, 0)) ∧ w0.heap.size ≤ g ∧ Kd.C (Kd.int .u8) w0 A0 f0.length f0
theorem IsS66.grown {w0 W : World} {g : Nat} {f0 : List Int} {f1 : Int} {f2 : Int} {W1 : World} {row : Option Nat} (h : IsS66 w0 W g f0 f1 f2) (hw : W.grownBy W1 row) (hne : some g ≠ row) : IsS66 w0 W1 g f0 f1 f2 := by
 obtain ⟨A0, c0, hb, hg, hr0⟩ := h
 exact ⟨A0, c0, blk_grown hb hw hne, hg, hr0⟩
theorem IsS66.own_neN {w0 W : World} {g : Nat} {f0 : List Int} {f1 : Int} {f2 : Int} {α : Type} {d : Kd α} {e : Nat} {base : Nat} {ok : Nat → Prop} {v : Value} {xs : List α} (h : IsS66 w0 W g f0 f1 f2) (ho : Kd.N d e W base ok v xs) (ht : e ≠ 66) : some g ≠ v.ownBlock := by
 obtain ⟨A0, c0, hb, hg, hr0⟩ := h
 exact Kd.N_ne ho hb ht
theorem IsS66.fresh {w0 W : World} {g : Nat} {f0 : List Int} {f1 : Int} {f2 : Int} (h : IsS66 w0 W g f0 f1 f2) : ∀ k, W.heap.size ≤ k → k ≠ g := by
 obtain ⟨A0, c0, hb, hg, hr0⟩ := h
 exact Kd.freshB hb
theorem IsS66.kept {w0 W : World} {g : Nat} {f0 : List Int} {f1 : Int} {f2 : Int} {W1 : World} {S : Nat → Prop} (h : IsS66 w0 W g f0 f1 f2) (hk : Kept W W1 S) (hne : ¬ S g) : IsS66 w0 W1 g f0 f1 f2 := by
 obtain ⟨A0, c0, hb, hg, hr0⟩ := h
 exact ⟨A0, c0, blk_kept hb hk hne, hg, hr0⟩
theorem IsS66.below {w0 W : World} {g : Nat} {f0 : List Int} {f1 : Int} {f2 : Int} {W1 : World} (h : IsS66 w0 W g f0 f1 f2) (hw : Below W.heap.size W W1) : IsS66 w0 W1 g f0 f1 f2 := h.grown (grown_of_below hw none) (by simp)
theorem IsS66.alloc {w0 W : World} {g : Nat} {f0 : List Int} {f1 : Int} {f2 : Int} (h : IsS66 w0 W g f0 f1 f2) (o : Obj) : IsS66 w0 (W.alloc o) g f0 f1 f2 := h.below (below_alloc (Below.refl _ _) o)
theorem IsS66.drewN {w0 W : World} {g : Nat} {f0 : List Int} {f1 : Int} {f2 : Int} (h : IsS66 w0 W g f0 f1 f2) (m : Nat) : IsS66 w0 (W.drewN m) g f0 f1 f2 := h
theorem IsS66.drew {w0 W : World} {g : Nat} {f0 : List Int} {f1 : Int} {f2 : Int} (h : IsS66 w0 W g f0 f1 f2) : IsS66 w0 W.drew g f0 f1 f2 := h
theorem IsS66.at_ {w0 W : World} {g : Nat} {f0 : List Int} {f1 : Int} {f2 : Int} {w' : World} {m : Nat} (hq : W.drewN m = w') (h : IsS66 w0 W g f0 f1 f2) : IsS66 w0 w' g f0 f1 f2 := by subst hq; exact IsS66.drewN h m
theorem IsS66.apart {w0 W : World} {g : Nat} {f0 : List Int} {f1 : Int} {f2 : Int} {α : Type} {d : Kd α} {e : Nat} {base : Nat} {ok : Nat → Prop} {v : Value} {xs : List α} (h : IsS66 w0 W g f0 f1 f2) (ho : d.R e W base ok v xs) (ht : ∀ q, q ∈ e :: d.E → q ≠ 66) : d.R e W base (fun k => ok k ∧ k ≠ g) v xs := by
 obtain ⟨A0, c0, hb, hg, hr0⟩ := h
 exact Kd.R_types ho hb ht
theorem IsS66.own_ne {w0 W : World} {g : Nat} {f0 : List Int} {f1 : Int} {f2 : Int} {α : Type} {d : Kd α} {e : Nat} {base : Nat} {ok : Nat → Prop} {v : Value} {xs : List α} (h : IsS66 w0 W g f0 f1 f2) (ho : d.R e W base ok v xs) (ht : e ≠ 66) : some g ≠ v.ownBlock := by
 obtain ⟨A0, c0, hb, hg, hr0⟩ := h
 exact Kd.R_ne ho hb ht
theorem IsS66.apartQ {w0 W : World} {g : Nat} {f0 : List Int} {f1 : Int} {f2 : Int} {α : Type} {d : Kd α} {e : Nat} {base : Nat} {ok : Nat → Prop} {v : Value} {xs : List α} (h : IsS66 w0 W g f0 f1 f2) (ho : d.Q e W base ok v xs) (ht : ∀ q, q ∈ e :: d.E → q ≠ 66) : d.Q e W base (fun k => ok k ∧ k ≠ g) v xs := by
 obtain ⟨A0, c0, hb, hg, hr0⟩ := h
 exact Kd.Q_types ho hb ht
theorem IsS66.own_neQ {w0 W : World} {g : Nat} {f0 : List Int} {f1 : Int} {f2 : Int} {α : Type} {d : Kd α} {e : Nat} {base : Nat} {ok : Nat → Prop} {v : Value} {xs : List α} (h : IsS66 w0 W g f0 f1 f2) (ho : d.Q e W base ok v xs) (ht : e ≠ 66) : some g ≠ v.ownBlock := by
 obtain ⟨A0, c0, hb, hg, hr0⟩ := h
 exact Kd.Q_ne ho hb ht
theorem IsS66.apartS {w0 W : World} {g : Nat} {f0 : List Int} {f1 : Int} {f2 : Int} {α : Type} {d : Kd α} {e : Nat} {base : Nat} {ok : Nat → Prop} {v : Value} {xs : List α} (h : IsS66 w0 W g f0 f1 f2) (ho : d.S e W base ok v xs) (ht : ∀ q, q ∈ e :: d.E → q ≠ 66) : d.S e W base (fun k => ok k ∧ k ≠ g) v xs := by
 obtain ⟨A0, c0, hb, hg, hr0⟩ := h
 exact Kd.S_types ho hb ht
theorem IsS66.own_neS {w0 W : World} {g : Nat} {f0 : List Int} {f1 : Int} {f2 : Int} {α : Type} {d : Kd α} {e : Nat} {base : Nat} {ok : Nat → Prop} {v : Value} {xs : List α} (h : IsS66 w0 W g f0 f1 f2) (ho : d.S e W base ok v xs) (ht : e ≠ 66) : some g ≠ v.ownBlock := by
 obtain ⟨A0, c0, hb, hg, hr0⟩ := h
 exact Kd.S_ne ho hb ht
theorem IsS66.lt {w0 W : World} {g : Nat} {f0 : List Int} {f1 : Int} {f2 : Int} (h : IsS66 w0 W g f0 f1 f2) : g < W.heap.size := by
 obtain ⟨A0, c0, hb, hg, hr0⟩ := h
 exact blk_lt hb
theorem IsS66.ge {w0 W : World} {g : Nat} {f0 : List Int} {f1 : Int} {f2 : Int} (h : IsS66 w0 W g f0 f1 f2) : w0.heap.size ≤ g := by
 obtain ⟨A0, c0, hb, hg, hr0⟩ := h
 exact hg
theorem IsS66.ne_blk {w0 W : World} {g : Nat} {f0 : List Int} {f1 : Int} {f2 : Int} {a : Nat} {cs : Array Value} {t : TypeId} {fr : Nat × Nat} (h : IsS66 w0 W g f0 f1 f2) (hb2 : W.heap[a]? = some (.cells cs t fr)) (ht : t ≠ 66) : g ≠ a := by
 obtain ⟨A0, c0, hb, hg, hr0⟩ := h
 rintro rfl
 rw [hb] at hb2
 injection hb2 with hb2
 injection hb2 with _ ht2
 exact ht ht2.symm
theorem IsS66.far {w0 W : World} {g : Nat} {f0 : List Int} {f1 : Int} {f2 : Int} {p : Addr} (h : IsS66 w0 W g f0 f1 f2) (hne : g ≠ p.block) (u : Value) : IsS66 w0 (W.setCell p u) g f0 f1 f2 := by
 obtain ⟨A0, c0, hb, hg, hr0⟩ := h
 exact ⟨A0, c0, blk_far hb hne u, hg, hr0⟩
theorem cellS66_0 {W : World} {g : Nat} {A0 : Option Addr} {c0 : Nat} {f0 : List Int} {f1 : Int} {f2 : Int} (h : W.heap[g]? = some (.cells #[.slice A0 f0.length c0, .int .i64 f1, .int .u64 f2] 66 (0, 0))) : W.cell? ⟨g, 0, none⟩ = some (.slice A0 f0.length c0) := (blk_cell h 0).trans rfl
theorem cellS66_1 {W : World} {g : Nat} {A0 : Option Addr} {c0 : Nat} {f0 : List Int} {f1 : Int} {f2 : Int} (h : W.heap[g]? = some (.cells #[.slice A0 f0.length c0, .int .i64 f1, .int .u64 f2] 66 (0, 0))) : W.cell? ⟨g, 1, none⟩ = some (.int .i64 f1) := (blk_cell h 1).trans rfl
theorem IsS66.set_1 {w0 W : World} {g : Nat} {f0 : List Int} {f1 : Int} {f2 : Int} (h : IsS66 w0 W g f0 f1 f2) (x : Int) : IsS66 w0 (W.setCell ⟨g, 1, none⟩ (.int .i64 x)) g f0 x f2 := by
 obtain ⟨A0, c0, hb, hg, hr0⟩ := h
 exact ⟨A0, c0, by simpa using blk_set hb 1 (.int .i64 x), hg, hr0⟩
theorem cellS66_2 {W : World} {g : Nat} {A0 : Option Addr} {c0 : Nat} {f0 : List Int} {f1 : Int} {f2 : Int} (h : W.heap[g]? = some (.cells #[.slice A0 f0.length c0, .int .i64 f1, .int .u64 f2] 66 (0, 0))) : W.cell? ⟨g, 2, none⟩ = some (.int .u64 f2) := (blk_cell h 2).trans rfl
theorem IsS66.set_2 {w0 W : World} {g : Nat} {f0 : List Int} {f1 : Int} {f2 : Int} (h : IsS66 w0 W g f0 f1 f2) (x : Int) : IsS66 w0 (W.setCell ⟨g, 2, none⟩ (.int .u64 x)) g f0 f1 x := by
 obtain ⟨A0, c0, hb, hg, hr0⟩ := h
 exact ⟨A0, c0, by simpa using blk_set hb 2 (.int .u64 x), hg, hr0⟩
theorem IsS66.new (w0 W : World) (A0 : Option Addr) (c0 : Nat) (f0 : List Int) (f1 : Int) (f2 : Int) (hB : Below w0.heap.size w0 W) (hr0 : Kd.C (Kd.int .u8) w0 A0 f0.length f0) : IsS66 w0 (W.alloc (.cells #[.slice A0 f0.length c0, .int .i64 f1, .int .u64 f2] 66)) W.heap.size f0 f1 f2 := ⟨A0, c0, by simpa using heap_alloc_new W _, hB.size, hr0⟩

/-! ### spec_l1Cur_next: function 63 -/
def spec_l1Cur_next.f (s0_0 : List Int) (s0_1 : Int) (s0_2 : Int) : Option (Int × Int × Int) := if s0_1 < (s0_0.length : Int) then (if 0 ≤ s0_1 then (if (wrap64 (s0_1 + 1)) ≤ (s0_0.length : Int) then (some (wrap64 (rd s0_0 s0_1), wrap64 (s0_1 + 1), IntKind.u64.wrap ((IntKind.u64.wrap ((IntKind.u64.wrap (s0_2 * 6364136223846793005)) + (IntKind.u64.wrap (wrap64 (rd s0_0 s0_1))))) + 1442695040888963407))) else (some (wrap64 (Go.bits .and .u64 ((IntKind.u64.wrap ((IntKind.u64.wrap ((IntKind.u64.wrap (s0_2 * 6364136223846793005)) + (IntKind.u64.wrap (wrap64 (rd s0_0 s0_1))))) + 1442695040888963407)) / 1099511627776) 255), wrap64 (s0_1 + 1), IntKind.u64.wrap ((IntKind.u64.wrap ((IntKind.u64.wrap (s0_2 * 6364136223846793005)) + (IntKind.u64.wrap (wrap64 (rd s0_0 s0_1))))) + 1442695040888963407)))) else (none)) else (if (wrap64 (s0_1 + 1)) ≤ (s0_0.length : Int) then (some (0, wrap64 (s0_1 + 1), IntKind.u64.wrap ((IntKind.u64.wrap ((IntKind.u64.wrap (s0_2 * 6364136223846793005)))) + 1442695040888963407))) else (some (wrap64 (Go.bits .and .u64 ((IntKind.u64.wrap ((IntKind.u64.wrap ((IntKind.u64.wrap (s0_2 * 6364136223846793005)))) + 1442695040888963407)) / 1099511627776) 255), wrap64 (s0_1 + 1), IntKind.u64.wrap ((IntKind.u64.wrap ((IntKind.u64.wrap (s0_2 * 6364136223846793005)))) + 1442695040888963407))))
set_option maxHeartbeats 8000000 in
set_option maxRecDepth 100000 in
theorem spec_l1Cur_next.calls (g : Nat) (s0_0 : List Int) (s0_1 : Int) (s0_2 : Int) (r1 : Int) (r2 : Int) (r3 : Int) (w0 w : World) (hI : IsS66 w0 w g s0_0 s0_1 s0_2) (hB : Below w0.heap.size w0 w) (h : spec_l1Cur_next.f s0_0 s0_1 s0_2 = some (r1, r2, r3)) :
 Calls Try.prog 63 #[.pointer (some ⟨g, 0, none⟩)] w fun e w' => e = .returned (.int .i64 r1) ∧ IsS66 w0 w' g s0_0 r2 r3 ∧ Below w0.heap.size w0 w' ∧ KeepBut w w' g none := by
 have HI0 := Aside0.mk hI
 have HK := Aside0.mk (KeepBut.refl w g none)
 have HL := Aside0.mk hB.size
 clear hI
 have HW0 := Aside0.mk hB.size
 have HB := Aside0.mk hB
 clear hB
 have H : (if s0_1 < (s0_0.length : Int) then (if 0 ≤ s0_1 then (if (wrap64 (s0_1 + 1)) ≤ (s0_0.length : Int) then (some (wrap64 (rd s0_0 s0_1), wrap64 (s0_1 + 1), IntKind.u64.wrap ((IntKind.u64.wrap ((IntKind.u64.wrap (s0_2 * 6364136223846793005)) + (IntKind.u64.wrap (wrap64 (rd s0_0 s0_1))))) + 1442695040888963407))) else (some (wrap64 (Go.bits .and .u64 ((IntKind.u64.wrap ((IntKind.u64.wrap ((IntKind.u64.wrap (s0_2 * 6364136223846793005)) + (IntKind.u64.wrap (wrap64 (rd s0_0 s0_1))))) + 1442695040888963407)) / 1099511627776) 255), wrap64 (s0_1 + 1), IntKind.u64.wrap ((IntKind.u64.wrap ((IntKind.u64.wrap (s0_2 * 6364136223846793005)) + (IntKind.u64.wrap (wrap64 (rd s0_0 s0_1))))) + 1442695040888963407)))) else (none)) else (if (wrap64 (s0_1 + 1)) ≤ (s0_0.length : Int) then (some (0, wrap64 (s0_1 + 1), IntKind.u64.wrap ((IntKind.u64.wrap ((IntKind.u64.wrap (s0_2 * 6364136223846793005)))) + 1442695040888963407))) else (some (wrap64 (Go.bits .and .u64 ((IntKind.u64.wrap ((IntKind.u64.wrap ((IntKind.u64.wrap (s0_2 * 6364136223846793005)))) + 1442695040888963407)) / 1099511627776) 255), wrap64 (s0_1 + 1), IntKind.u64.wrap ((IntKind.u64.wrap ((IntKind.u64.wrap (s0_2 * 6364136223846793005)))) + 1442695040888963407))))) = some (r1, r2, r3) := h
 clear h
 by_cases c2 : s0_1 < (s0_0.length : Int)
 · rw [if_pos c2] at H
   have c2b0 : decide (s0_1 < (s0_0.length : Int)) = true := decide_eq_true c2
   clear c2
   by_cases c3 : 0 ≤ s0_1
   · rw [if_pos c3] at H
     have c3b0 : decide (0 ≤ s0_1) = true := decide_eq_true c3
     clear c3
     by_cases c4 : (wrap64 (s0_1 + 1)) ≤ (s0_0.length : Int)
     · rw [if_pos c4] at H
       have c4b0 : decide ((wrap64 (s0_1 + 1)) ≤ (s0_0.length : Int)) = true := decide_eq_true c4
       clear c4
       simp only [Option.some.injEq, Prod.mk.injEq] at H
       obtain ⟨rfl, rfl, rfl⟩ := H
       obtain ⟨ASz5_0, cSz5_0, HGz5, hgz5, HSz5_0⟩ := HI0.out
       have hcz5_0 := cellS66_0 HGz5
       have hcz5_1 := cellS66_1 HGz5
       have hcz5_2 := cellS66_2 HGz5
       have hfz5_1 := blk_frozen HGz5 1
       have hfz5_2 := blk_frozen HGz5 2
       clear HGz5 hgz5
       have p101 : 0 ≤ (s0_1 : Int) := of_decide_eq_true z1200
       have q101 : s0_1 < (s0_0.length : Int) := of_decide_eq_true z1200
       obtain ⟨ad101, e101, hx101_0⟩ := Kd.at_int HSz5_0 s0_1 p101 q101
       cases e101
       replace hx101_0 := pw_cell_below HB.out hx101_0
       replace p101 := eq_true p101
       replace q101 := eq_true q101
       go_enter Try.func63, Try.ntmps63
       go_wp2
       repeat (go_quiet (fail); try go_wp2)
       go_ret
       exact ⟨z674d, zdb4b, zfd03, zcbec⟩
     · rw [if_neg c4] at H
       have c4b0 : decide ((wrap64 (s0_1 + 1)) ≤ (s0_0.length : Int)) = false := decide_eq_false c4
       clear c4
       simp only [Option.some.injEq, Prod.mk.injEq] at H
       obtain ⟨rfl, rfl, rfl⟩ := H
       obtain ⟨ASz6_0, cSz6_0, HGz6, hgz6, HSz6_0⟩ := HI0.out
       have hcz6_0 := cellS66_0 HGz6
       have hcz6_1 := cellS66_1 HGz6
       have hcz6_2 := cellS66_2 HGz6
       have hfz6_1 := blk_frozen HGz6 1
       have hfz6_2 := blk_frozen HGz6 2
       clear HGz6 hgz6
       have p101 : 0 ≤ (s0_1 : Int) := of_decide_eq_true z1200
       have q101 : s0_1 < (s0_0.length : Int) := of_decide_eq_true z1200
       obtain ⟨ad101, e101, hx101_0⟩ := Kd.at_int HSz6_0 s0_1 p101 q101
       cases e101
       replace hx101_0 := pw_cell_below HB.out hx101_0
       replace p101 := eq_true p101
       replace q101 := eq_true q101
       go_enter Try.func63, Try.ntmps63
       go_wp2
       repeat (go_quiet (fail); try go_wp2)
       go_ret
       exact ⟨z674d, zdb4b, zfd03, zcbec⟩
   · rw [if_neg c3] at H
     exact absurd H (by simp)
 · rw [if_neg c2] at H
   have c2b0 : decide (s0_1 < (s0_0.length : Int)) = false := decide_eq_false c2
   clear c2
   by_cases c7 : (wrap64 (s0_1 + 1)) ≤ (s0_0.length : Int)
   · rw [if_pos c7] at H
     have c7b0 : decide ((wrap64 (s0_1 + 1)) ≤ (s0_0.length : Int)) = true := decide_eq_true c7
     clear c7
     simp only [Option.some.injEq, Prod.mk.injEq] at H
     obtain ⟨rfl, rfl, rfl⟩ := H
     obtain ⟨ASz8_0, cSz8_0, HGz8, hgz8, HSz8_0⟩ := HI0.out
     have hcz8_0 := cellS66_0 HGz8
     have hcz8_1 := cellS66_1 HGz8
     have hcz8_2 := cellS66_2 HGz8
     have hfz8_1 := blk_frozen HGz8 1
     have hfz8_2 := blk_frozen HGz8 2
     clear HGz8 hgz8
     go_enter Try.func63, Try.ntmps63
     go_wp2
     repeat (go_quiet (fail); try go_wp2)
     go_ret
     exact ⟨z674d, zdb4b, zfd03, zcbec⟩
   · rw [if_neg c7] at H
     have c7b0 : decide ((wrap64 (s0_1 + 1)) ≤ (s0_0.length : Int)) = false := decide_eq_false c7
     clear c7
     simp only [Option.some.injEq, Prod.mk.injEq] at H
     obtain ⟨rfl, rfl, rfl⟩ := H
     obtain ⟨ASz9_0, cSz9_0, HGz9, hgz9, HSz9_0⟩ := HI0.out
     have hcz9_0 := cellS66_0 HGz9
     have hcz9_1 := cellS66_1 HGz9
     have hcz9_2 := cellS66_2 HGz9
     have hfz9_1 := blk_frozen HGz9 1
     have hfz9_2 := blk_frozen HGz9 2
     clear HGz9 hgz9
     go_enter Try.func63, Try.ntmps63
     go_wp2
     repeat (go_quiet (fail); try go_wp2)
     go_ret
     exact ⟨z674d, zdb4b, zfd03, zcbec⟩

end Go.Proofs.Ythliooccgclbjaa.P

-- written by a program of this session's (wip/pp)
namespace Go.Proofs.Ythliooccgclbjaa.P
open Go.RowKit Go.Proofs.YthliooccgclbjaaW.PrintWords Go.Proofs.YthliooccgclbjaaW.PrintLast Go.Proofs.YthliooccgclbjaaW.PrintMore
attribute [local go_sem] max2_int min2_int max_two min_two max_three min_three max_four min_four   -- for this text's walks alone
set_option linter.unusedVariables false
set_option linter.unusedSimpArgs false

/-! ### spec_l1Cur_pick: function 36 -/
def spec_l1Cur_pick.f (s0_0 : List Int) (s0_1 : Int) (s0_2 : Int) (a1 : Int) : Option (Int × Int × Int) := if a1 ≤ 1 then (some (0, s0_1, s0_2)) else ((spec_l1Cur_next.f s0_0 s0_1 s0_2).bind fun bt101 => (if a1 > 200 then ((spec_l1Cur_next.f s0_0 bt101.2.1 bt101.2.2).bind fun bt104 => (if a1 = 0 then (none) else (some (Int.tmod (wrap64 ((wrap64 (bt101.1 * 256)) + bt104.1)) a1, bt104.2.1, bt104.2.2)))) else (if a1 = 0 then (none) else (some (Int.tmod bt101.1 a1, bt101.2.1, bt101.2.2)))))
set_option maxHeartbeats 8000000 in
set_option maxRecDepth 100000 in
theorem spec_l1Cur_pick.calls (g : Nat) (s0_0 : List Int) (s0_1 : Int) (s0_2 : Int) (a1 : Int) (r1 : Int) (r2 : Int) (r3 : Int) (w0 w : World) (hI : IsS66 w0 w g s0_0 s0_1 s0_2) (hB : Below w0.heap.size w0 w) (h : spec_l1Cur_pick.f s0_0 s0_1 s0_2 a1 = some (r1, r2, r3)) :
 Calls Try.prog 36 #[.pointer (some ⟨g, 0, none⟩), .int .i64 a1] w fun e w' => e = .returned (.int .i64 r1) ∧ IsS66 w0 w' g s0_0 r2 r3 ∧ Below w0.heap.size w0 w' ∧ KeepBut w w' g none := by
 have HI0 := Aside0.mk hI
 have HK := Aside0.mk (KeepBut.refl w g none)
 have HL := Aside0.mk hB.size
 clear hI
 have HW0 := Aside0.mk hB.size
 have HB := Aside0.mk hB
 clear hB
 have H : (if a1 ≤ 1 then (some (0, s0_1, s0_2)) else ((spec_l1Cur_next.f s0_0 s0_1 s0_2).bind fun bt101 => (if a1 > 200 then ((spec_l1Cur_next.f s0_0 bt101.2.1 bt101.2.2).bind fun bt104 => (if a1 = 0 then (none) else (some (Int.tmod (wrap64 ((wrap64 (bt101.1 * 256)) + bt104.1)) a1, bt104.2.1, bt104.2.2)))) else (if a1 = 0 then (none) else (some (Int.tmod bt101.1 a1, bt101.2.1, bt101.2.2)))))) = some (r1, r2, r3) := h
 clear h
 by_cases c3 : a1 ≤ 1
 · rw [if_pos c3] at H
   have c3b0 : decide (a1 ≤ 1) = true := decide_eq_true c3
   clear c3
   simp only [Option.some.injEq, Prod.mk.injEq] at H
   obtain ⟨rfl, rfl, rfl⟩ := H
   go_enter Try.func36, Try.ntmps36
   go_wp2
   go_ret
   exact ⟨z674d, zdb4b, zfd03, zcbec⟩
 · rw [if_neg c3] at H
   have c3b0 : decide (a1 ≤ 1) = false := decide_eq_false c3
   clear c3
   replace H := Option.bind_eq_some_iff.mp H
   obtain ⟨⟨t101, t102, t103⟩, A40, H⟩ := H
   try dsimp only at H
   have A4 := Aside0.mk A40
   clear A40
   by_cases c5 : a1 > 200
   · rw [if_pos c5] at H
     have c5b0 : decide (200 < a1) = true := decide_eq_true c5
     clear c5
     replace H := Option.bind_eq_some_iff.mp H
     obtain ⟨⟨t104, t105, t106⟩, A60, H⟩ := H
     try dsimp only at H
     have A6 := Aside0.mk A60
     clear A60
     by_cases c7 : a1 = 0
     · rw [if_pos c7] at H
       exact absurd H (by simp)
     · rw [if_neg c7] at H
       have c7b0 : (a1 == 0) = false := beq_eq_false_iff_ne.mpr c7
       have c7b1 : (a1 != 0) = true := bne_iff_ne.mpr c7
       simp only [Option.some.injEq, Prod.mk.injEq] at H
       obtain ⟨rfl, rfl, rfl⟩ := H
       go_enter Try.func36, Try.ntmps36
       go_wp2_with (first | ((with_reducible refine gate_callee (f := 63) rfl ?_); refine goesL_ (some 9) rfl rfl Try.func63 (by kernel_rfl) rfl #[.pointer (some ⟨g, 0, none⟩)] rfl zee81 ?_; (with_reducible refine (spec_l1Cur_next.calls g s0_0 s0_1 s0_2 t101 t102 t103 w0 _ ?side1 ?side2 A4.out).mono ?_); (case side1 => exact zdb4b); (case side2 => exact zfd03); rintro e w8 ⟨rfl, hi, hb, hk⟩; refine ⟨_, rfl, ?_⟩; have n0_ := Aside0.mk (KeepBut.trans zcbec hk (.inl rfl)); have n1_ := Aside0.mk hb; have n2_ := Aside0.mk hi; clear HK HB HI0; have HK := n0_; have HB := n1_; have HI0 := n2_; clear n0_ n1_ n2_; (try clear hb); (try clear hb2); (try clear hk); (try clear hi)) | ((with_reducible refine gate_callee (f := 63) rfl ?_); refine goesL_ (some 15) rfl rfl Try.func63 (by kernel_rfl) rfl #[.pointer (some ⟨g, 0, none⟩)] rfl zee81 ?_; (with_reducible refine (spec_l1Cur_next.calls g s0_0 t102 t103 t104 t105 t106 w0 _ ?side1 ?side2 A6.out).mono ?_); (case side1 => exact zdb4b); (case side2 => exact zfd03); rintro e w9 ⟨rfl, hi, hb, hk⟩; refine ⟨_, rfl, ?_⟩; have n0_ := Aside0.mk (KeepBut.trans zcbec hk (.inl rfl)); have n1_ := Aside0.mk hb; have n2_ := Aside0.mk hi; clear HK HB HI0; have HK := n0_; have HB := n1_; have HI0 := n2_; clear n0_ n1_ n2_; (try clear hb); (try clear hb2); (try clear hk); (try clear hi)))
       go_ret
       exact ⟨z674d, zdb4b, zfd03, zcbec⟩
   · rw [if_neg c5] at H
     have c5b0 : decide (200 < a1) = false := decide_eq_false c5
     clear c5
     by_cases c10 : a1 = 0
     · rw [if_pos c10] at H
       exact absurd H (by simp)
     · rw [if_neg c10] at H
       have c10b0 : (a1 == 0) = false := beq_eq_false_iff_ne.mpr c10
       have c10b1 : (a1 != 0) = true := bne_iff_ne.mpr c10
       simp only [Option.some.injEq, Prod.mk.injEq] at H
       obtain ⟨rfl, rfl, rfl⟩ := H
       go_enter Try.func36, Try.ntmps36
       go_wp2_with (first | ((with_reducible refine gate_callee (f := 63) rfl ?_); refine goesL_ (some 9) rfl rfl Try.func63 (by kernel_rfl) rfl #[.pointer (some ⟨g, 0, none⟩)] rfl zee81 ?_; (with_reducible refine (spec_l1Cur_next.calls g s0_0 s0_1 s0_2 t101 t102 t103 w0 _ ?side1 ?side2 A4.out).mono ?_); (case side1 => exact zdb4b); (case side2 => exact zfd03); rintro e w11 ⟨rfl, hi, hb, hk⟩; refine ⟨_, rfl, ?_⟩; have n0_ := Aside0.mk (KeepBut.trans zcbec hk (.inl rfl)); have n1_ := Aside0.mk hb; have n2_ := Aside0.mk hi; clear HK HB HI0; have HK := n0_; have HB := n1_; have HI0 := n2_; clear n0_ n1_ n2_; (try clear hb); (try clear hb2); (try clear hk); (try clear hi)))
       go_ret
       exact ⟨z674d, zdb4b, zfd03, zcbec⟩

end Go.Proofs.Ythliooccgclbjaa.P

-- written by a program of this session's (wip/pp)
namespace Go.Proofs.Ythliooccgclbjaa.P
open Go.RowKit Go.Proofs.YthliooccgclbjaaW.PrintWords Go.Proofs.YthliooccgclbjaaW.PrintLast Go.Proofs.YthliooccgclbjaaW.PrintMore
attribute [local go_sem] max2_int min2_int max_two min_two max_three min_three max_four min_four   -- for this text's walks alone
set_option linter.unusedVariables false
set_option linter.unusedSimpArgs false

/-! ### spec_l1Cur_one: function 35 -/
def spec_l1Cur_one.f (s0_0 : List Int) (s0_1 : Int) (s0_2 : Int) (a1 : Int) : Option (Bool × Int × Int) := (spec_l1Cur_pick.f s0_0 s0_1 s0_2 a1).bind fun bt101 => (some ((bt101.1 == 0), bt101.2.1, bt101.2.2))
set_option maxHeartbeats 8000000 in
set_option maxRecDepth 100000 in
theorem spec_l1Cur_one.calls (g : Nat) (s0_0 : List Int) (s0_1 : Int) (s0_2 : Int) (a1 : Int) (r1 : Bool) (r2 : Int) (r3 : Int) (w0 w : World) (hI : IsS66 w0 w g s0_0 s0_1 s0_2) (hB : Below w0.heap.size w0 w) (h : spec_l1Cur_one.f s0_0 s0_1 s0_2 a1 = some (r1, r2, r3)) :
 Calls Try.prog 35 #[.pointer (some ⟨g, 0, none⟩), .int .i64 a1] w fun e w' => e = .returned (.bool r1) ∧ IsS66 w0 w' g s0_0 r2 r3 ∧ Below w0.heap.size w0 w' ∧ KeepBut w w' g none := by
 have HI0 := Aside0.mk hI
 have HK := Aside0.mk (KeepBut.refl w g none)
 have HL := Aside0.mk hB.size
 clear hI
 have HW0 := Aside0.mk hB.size
 have HB := Aside0.mk hB
 clear hB
 have H : ((spec_l1Cur_pick.f s0_0 s0_1 s0_2 a1).bind fun bt101 => (some ((bt101.1 == 0), bt101.2.1, bt101.2.2))) = some (r1, r2, r3) := h
 clear h
 replace H := Option.bind_eq_some_iff.mp H
 obtain ⟨⟨t101, t102, t103⟩, A30, H⟩ := H
 try dsimp only at H
 have A3 := Aside0.mk A30
 clear A30
 simp only [Option.some.injEq, Prod.mk.injEq] at H
 obtain ⟨rfl, rfl, rfl⟩ := H
 go_enter Try.func35, Try.ntmps35
 go_wp2_with (first | ((with_reducible refine gate_callee (f := 36) rfl ?_); refine goesL_ (some 7) rfl rfl Try.func36 (by kernel_rfl) rfl #[.pointer (some ⟨g, 0, none⟩), .int .i64 a1] rfl zee81 ?_; (with_reducible refine (spec_l1Cur_pick.calls g s0_0 s0_1 s0_2 a1 t101 t102 t103 w0 _ ?side1 ?side2 A3.out).mono ?_); (case side1 => exact zdb4b); (case side2 => exact zfd03); rintro e w4 ⟨rfl, hi, hb, hk⟩; refine ⟨_, rfl, ?_⟩; have n0_ := Aside0.mk (KeepBut.trans zcbec hk (.inl rfl)); have n1_ := Aside0.mk hb; have n2_ := Aside0.mk hi; clear HK HB HI0; have HK := n0_; have HB := n1_; have HI0 := n2_; clear n0_ n1_ n2_; (try clear hb); (try clear hb2); (try clear hk); (try clear hi)))
 go_ret
 exact ⟨z674d, zdb4b, zfd03, zcbec⟩

end Go.Proofs.Ythliooccgclbjaa.P

-- written by a program of this session's (wip/pp)
namespace Go.Proofs.Ythliooccgclbjaa.P
open Go.RowKit Go.Proofs.YthliooccgclbjaaW.PrintWords Go.Proofs.YthliooccgclbjaaW.PrintLast Go.Proofs.YthliooccgclbjaaW.PrintMore
attribute [local go_sem] max2_int min2_int max_two min_two max_three min_three max_four min_four   -- for this text's walks alone
set_option linter.unusedVariables false
set_option linter.unusedSimpArgs false

/-! ### spec_l1Cur_among: function 43 -/
def spec_l1Cur_among.f (s0_0 : List Int) (s0_1 : Int) (s0_2 : Int) (l1 : List Int) : Option (Int × Int × Int) := (spec_l1Cur_pick.f s0_0 s0_1 s0_2 (l1.length : Int)).bind fun bt101 => (if 0 ≤ bt101.1 then (if bt101.1 < (l1.length : Int) then (some (rd l1 bt101.1, bt101.2.1, bt101.2.2)) else (none)) else (none))
set_option maxHeartbeats 8000000 in
set_option maxRecDepth 100000 in
theorem spec_l1Cur_among.calls (g : Nat) (s0_0 : List Int) (s0_1 : Int) (s0_2 : Int) (A1 : Option Addr) (c1 : Nat) (l1 : List Int) (r1 : Int) (r2 : Int) (r3 : Int) (w0 w : World) (hI : IsS66 w0 w g s0_0 s0_1 s0_2) (hB : Below w0.heap.size w0 w) (hr1 : Kd.C (Kd.int .i64) w A1 l1.length l1) (hc1 : l1.length ≤ c1) (hf1 : ∀ ad, A1 = some ad → 0 < l1.length → ad.block ≠ g) (h : spec_l1Cur_among.f s0_0 s0_1 s0_2 l1 = some (r1, r2, r3)) :
 Calls Try.prog 43 #[.pointer (some ⟨g, 0, none⟩), .slice A1 l1.length c1] w fun e w' => e = .returned (.int .i64 r1) ∧ IsS66 w0 w' g s0_0 r2 r3 ∧ Below w0.heap.size w0 w' ∧ KeepBut w w' g none := by
 have HR1 := Aside0.mk hr1
 have HC1 := Aside0.mk hc1
 clear hr1 hc1
 have HI0 := Aside0.mk hI
 have HK := Aside0.mk (KeepBut.refl w g none)
 have HL := Aside0.mk hB.size
 clear hI
 have HW0 := Aside0.mk hB.size
 have HB := Aside0.mk hB
 clear hB
 have H : ((spec_l1Cur_pick.f s0_0 s0_1 s0_2 (l1.length : Int)).bind fun bt101 => (if 0 ≤ bt101.1 then (if bt101.1 < (l1.length : Int) then (some (rd l1 bt101.1, bt101.2.1, bt101.2.2)) else (none)) else (none))) = some (r1, r2, r3) := h
 clear h
 replace H := Option.bind_eq_some_iff.mp H
 obtain ⟨⟨t101, t102, t103⟩, A30, H⟩ := H
 try dsimp only at H
 have A3 := Aside0.mk A30
 clear A30
 by_cases c4 : 0 ≤ t101
 · rw [if_pos c4] at H
   have c4b0 : decide (0 ≤ t101) = true := decide_eq_true c4
   clear c4
   by_cases c5 : t101 < (l1.length : Int)
   · rw [if_pos c5] at H
     have c5b0 : decide (t101 < (l1.length : Int)) = true := decide_eq_true c5
     clear c5
     simp only [Option.some.injEq, Prod.mk.injEq] at H
     obtain ⟨rfl, rfl, rfl⟩ := H
     go_enter Try.func43, Try.ntmps43
     go_wp2_with (first | ((with_reducible refine gate_callee (f := 36) rfl ?_); refine goesL_ (some 9) rfl rfl Try.func36 (by kernel_rfl) rfl #[.pointer (some ⟨g, 0, none⟩), .int .i64 (l1.length : Int)] rfl zee81 ?_; (with_reducible refine (spec_l1Cur_pick.calls g s0_0 s0_1 s0_2 (l1.length : Int) t101 t102 t103 w0 _ ?side1 ?side2 A3.out).mono ?_); (case side1 => exact zdb4b); (case side2 => exact zfd03); rintro e w6 ⟨rfl, hi, hb, hk⟩; refine ⟨_, rfl, ?_⟩; have n0_ := Aside0.mk (KeepBut.trans zcbec hk (.inl rfl)); have n1_ := Aside0.mk hb; have n2_ := Aside0.mk hi; clear HK HB HI0; have HK := n0_; have HB := n1_; have HI0 := n2_; clear n0_ n1_ n2_; (try clear hb); (try clear hb2); (try clear hk); (try clear hi); have p104 : 0 ≤ (t101 : Int) := of_decide_eq_true z1200; have q104 : t101 < (l1.length : Int) := of_decide_eq_true z1200; obtain ⟨ad104, e104, hx104_0⟩ := Kd.at_int HR1.out t101 p104 q104; cases e104; replace hx104_0 := keep_cell HK.out hx104_0 (by first | (rw [add_block]; exact hf1 _ rfl (by omega)) | exact hf1 _ rfl (by omega) | exact hf1 ad104 rfl (by omega)); replace p104 := eq_true p104; replace q104 := eq_true q104))
     go_ret
     exact ⟨z674d, zdb4b, zfd03, zcbec⟩
   · rw [if_neg c5] at H
     exact absurd H (by simp)
 · rw [if_neg c4] at H
   exact absurd H (by simp)

end Go.Proofs.Ythliooccgclbjaa.P

-- written by a program of this session's (wip/pp)
namespace Go.Proofs.Ythliooccgclbjaa.P
open Go.RowKit Go.Proofs.YthliooccgclbjaaW.PrintWords Go.Proofs.YthliooccgclbjaaW.PrintLast Go.Proofs.YthliooccgclbjaaW.PrintMore
attribute [local go_sem] max2_int min2_int max_two min_two max_three min_three max_four min_four   -- for this text's walks alone
set_option linter.unusedVariables false
set_option linter.unusedSimpArgs false

/-! ### spec_l1Cur_record: function 69 -/
mutual
def spec_l1Cur_record.j0 : Nat → Int → List Int → Int → Int → Option (List Int × Int × Int)
 | 0, _, _, _, _ => none
 | k + 1, x3, x1000, x1001, x1002 => if 0 ≤ x3 then (if (x3 : Int).toNat ≤ 281474976710656 then ((some (List.replicate (x3 : Int).toNat 0 : List Int)).bind fun y116 => (spec_l1Cur_record.l0 k y116 (y116.length : Int) 0 x1000 x1001 x1002)) else (none)) else (none)
def spec_l1Cur_record.l0 : Nat → List Int → Int → Int → List Int → Int → Int → Option (List Int × Int × Int)
 | 0, _, _, _, _, _, _ => none
 | k + 1, x4, x17, x18, x1000, x1001, x1002 => if x18 < x17 then ((spec_l1Cur_pick.f x1000 x1001 x1002 9).bind fun bt119 => (if 0 ≤ x18 then (if x18 < (x4.length : Int) then (spec_l1Cur_record.l0 k (x4.set (x18 : Int).toNat ((bt119.1) % 256)) x17 (wrap64 (x18 + 1)) x1000 bt119.2.1 bt119.2.2) else (none)) else (none))) else (some (x4, x1001, x1002))
end
def spec_l1Cur_record.f (k : Nat) (s0_0 : List Int) (s0_1 : Int) (s0_2 : Int) : Option (List Int × Int × Int) := (spec_l1Cur_among.f s0_0 s0_1 s0_2 (([0, 3, 20, 58, 59, 64, 130] : List Int))).bind fun bt104 => ((spec_l1Cur_one.f s0_0 bt104.2.1 bt104.2.2 40).bind fun bt107 => (if bt107.1 = true then ((spec_l1Cur_among.f s0_0 bt107.2.1 bt107.2.2 (([2000, 2001] : List Int))).bind fun bt113 => (spec_l1Cur_record.j0 k bt113.1 s0_0 bt113.2.1 bt113.2.2)) else (spec_l1Cur_record.j0 k bt104.1 s0_0 bt107.2.1 bt107.2.2)))
theorem spec_l1Cur_record.mono_l : ∀ k, (∀ y0 y1 y2 y3, LeO (spec_l1Cur_record.j0 k y0 y1 y2 y3) (spec_l1Cur_record.j0 (k + 1) y0 y1 y2 y3)) ∧ (∀ y0 y1 y2 y3 y4 y5, LeO (spec_l1Cur_record.l0 k y0 y1 y2 y3 y4 y5) (spec_l1Cur_record.l0 (k + 1) y0 y1 y2 y3 y4 y5))
 | 0 => ⟨fun _ _ _ _ r h => by simp [spec_l1Cur_record.j0] at h, fun _ _ _ _ _ _ r h => by simp [spec_l1Cur_record.l0] at h⟩
 | k + 1 => by
  obtain ⟨ih0, ih1⟩ := spec_l1Cur_record.mono_l k
  refine ⟨?_, ?_⟩
  · intro y0 y1 y2 y3
    unfold spec_l1Cur_record.j0
    repeat' first
     | (with_reducible first | exact ih0 .. | exact ih1 .. | exact LeO.refl _ | exact LeO.none _ | refine LeO.ite ?_ ?_ | refine LeO.bind ?_ (fun _ => ?_))
     | exact LeO.none _
     | refine LeO.ite ?_ ?_
     | refine LeO.bind ?_ (fun _ => ?_)
  · intro y0 y1 y2 y3 y4 y5
    unfold spec_l1Cur_record.l0
    repeat' first
     | (with_reducible first | exact ih0 .. | exact ih1 .. | exact LeO.refl _ | exact LeO.none _ | refine LeO.ite ?_ ?_ | refine LeO.bind ?_ (fun _ => ?_))
     | exact LeO.none _
     | refine LeO.ite ?_ ?_
     | refine LeO.bind ?_ (fun _ => ?_)
theorem spec_l1Cur_record.mono : ∀ a0 a1 a2 k, LeO (spec_l1Cur_record.f k a0 a1 a2) (spec_l1Cur_record.f (k + 1) a0 a1 a2) := by
 intro a0 a1 a2 k
 obtain ⟨ih0, ih1⟩ := spec_l1Cur_record.mono_l k
 unfold spec_l1Cur_record.f
 repeat' first
  | (with_reducible first | exact ih0 .. | exact ih1 .. | exact LeO.refl _ | exact LeO.none _ | refine LeO.ite ?_ ?_ | refine LeO.bind ?_ (fun _ => ?_))
  | exact LeO.none _
  | refine LeO.ite ?_ ?_
  | refine LeO.bind ?_ (fun _ => ?_)
set_option maxHeartbeats 8000000 in
set_option maxRecDepth 100000 in
theorem spec_l1Cur_record.calls (k : Nat) (g : Nat) (s0_0 : List Int) (s0_1 : Int) (s0_2 : Int) (r1 : List Int) (r2 : Int) (r3 : Int) (w0 w : World) (hI : IsS66 w0 w g s0_0 s0_1 s0_2) (hB : Below w0.heap.size w0 w) (h : spec_l1Cur_record.f k s0_0 s0_1 s0_2 = some (r1, r2, r3)) :
 Calls Try.prog 69 #[.pointer (some ⟨g, 0, none⟩)] w fun e w' => ∃ v0_ : Value, e = .returned (v0_) ∧ Kd.R (Kd.int .u8) 5 w' w.heap.size (fun _ => True) v0_ r1 ∧ IsS66 w0 w' g s0_0 r2 r3 ∧ Below w0.heap.size w0 w' ∧ KeepBut w w' g none := by
 have HI0 := Aside0.mk hI
 have HK := Aside0.mk (KeepBut.refl w g none)
 have HL := Aside0.mk hB.size
 clear hI
 have HW0 := Aside0.mk hB.size
 have HB := Aside0.mk hB
 clear hB
 have H : ((spec_l1Cur_among.f s0_0 s0_1 s0_2 (([0, 3, 20, 58, 59, 64, 130] : List Int))).bind fun bt104 => ((spec_l1Cur_one.f s0_0 bt104.2.1 bt104.2.2 40).bind fun bt107 => (if bt107.1 = true then ((spec_l1Cur_among.f s0_0 bt107.2.1 bt107.2.2 (([2000, 2001] : List Int))).bind fun bt113 => (spec_l1Cur_record.j0 k bt113.1 s0_0 bt113.2.1 bt113.2.2)) else (spec_l1Cur_record.j0 k bt104.1 s0_0 bt107.2.1 bt107.2.2)))) = some (r1, r2, r3) := h
 clear h
 obtain ⟨y101, hy101⟩ : ∃ y_ : List Int, y_ = (([0, 3, 20, 58, 59, 64, 130] : List Int)) := ⟨_, rfl⟩
 replace H : ((spec_l1Cur_among.f s0_0 s0_1 s0_2 y101).bind fun bt104 => ((spec_l1Cur_one.f s0_0 bt104.2.1 bt104.2.2 40).bind fun bt107 => (if bt107.1 = true then ((spec_l1Cur_among.f s0_0 bt107.2.1 bt107.2.2 (([2000, 2001] : List Int))).bind fun bt113 => (spec_l1Cur_record.j0 k bt113.1 s0_0 bt113.2.1 bt113.2.2)) else (spec_l1Cur_record.j0 k bt104.1 s0_0 bt107.2.1 bt107.2.2)))) = some (r1, r2, r3) := by first | (rw [hy101]; with_reducible exact H) | (have H2_ := (Option.bind_some _ _).symm.trans H; rw [hy101]; with_reducible exact H2_) | (have H2_ := (Option.bind_some _ _).symm.trans H; with_reducible exact H2_) | with_reducible exact H | (rw [hy101]; exact H) | exact H
 have Ny101 := Aside0.mk hy101
 clear hy101
 replace H := Option.bind_eq_some_iff.mp H
 obtain ⟨⟨t104, t105, t106⟩, A20, H⟩ := H
 try dsimp only at H
 have A2 := Aside0.mk A20
 clear A20
 replace H := Option.bind_eq_some_iff.mp H
 obtain ⟨⟨t107, t108, t109⟩, A30, H⟩ := H
 try dsimp only at H
 have A3 := Aside0.mk A30
 clear A30
 have HC4 := Aside0.mk H
 clear H
 go_enter Try.func69, Try.ntmps69
 go_upto_if 10 with (first | ((with_reducible refine gate_dst (N := 7) rfl ?_); refine Kd.R_lit (Kd.int .i64) _ 3 ?hg (N := 7) ?hd (xs := ([0, 3, 20, 58, 59, 64, 130] : List Int)) (inner := [.int .i64 0, .int .i64 3, .int .i64 20, .int .i64 58, .int .i64 59, .int .i64 64, .int .i64 130]) (ok := fun _ => True) (okp := fun _ => True) ?hr ?hp (fun _ hk => hk) trivial (Below.refl _ _) (Nat.le_refl _) (by simp) ?_; (case hd => rfl); (case hg => rfl); (case hr => first | (go_simp; done) | (go_simp; rfl)); (case hp => exact (Reps.one (show Kd.M (Kd.int .i64) _ _ _ 0 [.int .i64 0] from rfl) (Reps.one (show Kd.M (Kd.int .i64) _ _ _ 3 [.int .i64 3] from rfl) (Reps.one (show Kd.M (Kd.int .i64) _ _ _ 20 [.int .i64 20] from rfl) (Reps.one (show Kd.M (Kd.int .i64) _ _ _ 58 [.int .i64 58] from rfl) (Reps.one (show Kd.M (Kd.int .i64) _ _ _ 59 [.int .i64 59] from rfl) (Reps.one (show Kd.M (Kd.int .i64) _ _ _ 64 [.int .i64 64] from rfl) (Reps.one (show Kd.M (Kd.int .i64) _ _ _ 130 [.int .i64 130] from rfl) (Reps.none _ _))))))))); intro v102 w5 ho6 hb hg_ hnew_; clear hg_ hnew_; (first | rw [← Ny101.out] at ho6 | (simp only [Int.reduceToNat] at ho6; rw [← Ny101.out] at ho6)); have n0_ := Aside0.mk (Kd.R_lower ho6 (keep_size (w := w) (g := g) (row := none) zcbec)); have n1_ := Aside0.mk (IsS66.below zdb4b hb); have n2_ := Aside0.mk (KeepBut.trans zcbec (KeepBut.of_below hb g none) (.inl rfl)); have n3_ := Aside0.mk (below_step zfd03 hb); clear HI0 HK HB; have HO103 := n0_; have HI0 := n1_; have HK := n2_; have HB := n3_; clear n0_ n1_ n2_ n3_; clear hb ho6; obtain ⟨Ao7, co7, eo7⟩ := Kd.R_slice HO103.out; subst eo7) | ((with_reducible refine gate_callee (f := 43) rfl ?_); refine goesL_ (some 8) rfl rfl Try.func43 (by kernel_rfl) rfl #[.pointer (some ⟨g, 0, none⟩), .slice Ao7 y101.length co7] rfl zee81 ?_; (with_reducible refine (spec_l1Cur_among.calls g s0_0 s0_1 s0_2 _ _ y101 t104 t105 t106 w0 _ ?side1 ?side2 ?side3 ?side4 ?side5 A2.out).mono ?_); (case side1 => exact zdb4b); (case side2 => exact zfd03); (case side3 => exact (by repeat (first | exact (Kd.R_reads' HO103.out).2.2 | (with_reducible refine Kd.C_alloc ?_ _) | (with_reducible refine Kd.C_drewN ?_ _) | (with_reducible refine Kd.C_drew ?_)))); (case side4 => exact (Kd.R_reads' HO103.out).2.1); (case side5 => exact far_slice (IsS66.own_ne HI0.out HO103.out (by decide))); rintro e w8 ⟨rfl, hi, hb, hk⟩; refine ⟨_, rfl, ?_⟩; have n0_ := Aside0.mk (Kd.R_mono (Kd.R_keep (IsS66.apart (show IsS66 w0 _ g s0_0 s0_1 s0_2 from by repeat (first | (with_reducible first | exact HI0.out | apply IsS66.alloc | apply IsS66.drewN | apply IsS66.drew | apply IsS66.set_1 | apply IsS66.set_2) | exact HI0.out)) (rZ HO103.out) (by decide)) hk (fun _ h => h.2)) (fun _ h => h.1)); have n1_ := Aside0.mk (KeepBut.trans zcbec hk (.inl rfl)); have n2_ := Aside0.mk hb; have n3_ := Aside0.mk hi; clear HO103 HK HB HI0; have HO103 := n0_; have HK := n1_; have HB := n2_; have HI0 := n3_; clear n0_ n1_ n2_ n3_; (try clear hb); (try clear hb2); (try clear hk); (try clear hi)) | ((with_reducible refine gate_callee (f := 35) rfl ?_); refine goesL_ (some 10) rfl rfl Try.func35 (by kernel_rfl) rfl #[.pointer (some ⟨g, 0, none⟩), .int .i64 40] rfl zee81 ?_; (with_reducible refine (spec_l1Cur_one.calls g s0_0 t105 t106 40 t107 t108 t109 w0 _ ?side1 ?side2 A3.out).mono ?_); (case side1 => exact zdb4b); (case side2 => exact zfd03); rintro e w9 ⟨rfl, hi, hb, hk⟩; refine ⟨_, rfl, ?_⟩; have n0_ := Aside0.mk (Kd.R_mono (Kd.R_keep (IsS66.apart (show IsS66 w0 _ g s0_0 t105 t106 from by repeat (first | (with_reducible first | exact HI0.out | apply IsS66.alloc | apply IsS66.drewN | apply IsS66.drew | apply IsS66.set_1 | apply IsS66.set_2) | exact HI0.out)) (rZ HO103.out) (by decide)) hk (fun _ h => h.2)) (fun _ h => h.1)); have n1_ := Aside0.mk (KeepBut.trans zcbec hk (.inl rfl)); have n2_ := Aside0.mk hb; have n3_ := Aside0.mk hi; clear HO103 HK HB HI0; have HO103 := n0_; have HK := n1_; have HB := n2_; have HI0 := n3_; clear n0_ n1_ n2_ n3_; (try clear hb); (try clear hb2); (try clear hk); (try clear hi)))
 (try simp only [Act.put, List.setIfInBounds_toArray, List.set_cons_zero, List.set_cons_succ])
 go_cut [3] (fun v3 wc => ∃ (kq : Nat) (x3_3 : Int) (x1001_3 : Int) (x1002_3 : Int), v3 = .int .i64 x3_3 ∧ Aside0 (spec_l1Cur_record.j0 kq x3_3 s0_0 x1001_3 x1002_3 = some (r1, r2, r3)) ∧ Aside0 (kq ≤ k) ∧ Aside0 (IsS66 w0 wc g s0_0 x1001_3 x1002_3) ∧ Aside0 (KeepBut w wc g none) ∧ Aside0 (Below w0.heap.size w0 wc))
 case first =>
  have H := HC4.out
  clear HC4
  by_cases c10 : t107 = true
  · subst c10
    have H1 : ((spec_l1Cur_among.f s0_0 t108 t109 (([2000, 2001] : List Int))).bind fun bt113 => (spec_l1Cur_record.j0 k bt113.1 s0_0 bt113.2.1 bt113.2.2)) = some (r1, r2, r3) := by rw [if_pos rfl] at H; exact H
    clear H
    have H := H1
    clear H1
    obtain ⟨y110, hy110⟩ : ∃ y_ : List Int, y_ = (([2000, 2001] : List Int)) := ⟨_, rfl⟩
    replace H : ((spec_l1Cur_among.f s0_0 t108 t109 y110).bind fun bt113 => (spec_l1Cur_record.j0 k bt113.1 s0_0 bt113.2.1 bt113.2.2)) = some (r1, r2, r3) := by first | (rw [hy110]; with_reducible exact H) | (have H2_ := (Option.bind_some _ _).symm.trans H; rw [hy110]; with_reducible exact H2_) | (have H2_ := (Option.bind_some _ _).symm.trans H; with_reducible exact H2_) | with_reducible exact H | (rw [hy110]; exact H) | exact H
    have Ny110 := Aside0.mk hy110
    clear hy110
    replace H := Option.bind_eq_some_iff.mp H
    obtain ⟨⟨t113, t114, t115⟩, A110, H⟩ := H
    try dsimp only at H
    have A11 := Aside0.mk A110
    clear A110
    have H' := Aside0.mk H
    clear H
    go_wp2_with (first | ((with_reducible refine gate_dst (N := 12) rfl ?_); refine Kd.R_lit (Kd.int .i64) _ 3 ?hg (N := 12) ?hd (xs := ([2000, 2001] : List Int)) (inner := [.int .i64 2000, .int .i64 2001]) (ok := fun _ => True) (okp := fun _ => True) ?hr ?hp (fun _ hk => hk) trivial (Below.refl _ _) (Nat.le_refl _) (by simp) ?_; (case hd => rfl); (case hg => rfl); (case hr => first | (go_simp; done) | (go_simp; rfl)); (case hp => exact (Reps.one (show Kd.M (Kd.int .i64) _ _ _ 2000 [.int .i64 2000] from rfl) (Reps.one (show Kd.M (Kd.int .i64) _ _ _ 2001 [.int .i64 2001] from rfl) (Reps.none _ _)))); intro v111 w12 ho13 hb hg_ hnew_; clear hg_ hnew_; (first | rw [← Ny110.out] at ho13 | (simp only [Int.reduceToNat] at ho13; rw [← Ny110.out] at ho13)); have n0_ := Aside0.mk (Kd.R_elder' (rZ HO103.out) (Kd.R_base ho13) hb); have n1_ := Aside0.mk (Kd.R_lower (Kd.R_new' ho13 (Kd.R_lt (rZ HO103.out))) (keep_size (w := w) (g := g) (row := none) zcbec)); have n2_ := Aside0.mk (IsS66.below zdb4b hb); have n3_ := Aside0.mk (KeepBut.trans zcbec (KeepBut.of_below hb g none) (.inl rfl)); have n4_ := Aside0.mk (below_step zfd03 hb); clear HO103 HI0 HK HB; have HO103 := n0_; have HO112 := n1_; have HI0 := n2_; have HK := n3_; have HB := n4_; clear n0_ n1_ n2_ n3_ n4_; clear hb ho13; obtain ⟨Ao14, co14, eo14⟩ := Kd.R_slice HO112.out; subst eo14) | ((with_reducible refine gate_callee (f := 43) rfl ?_); refine goesL_ (some 13) rfl rfl Try.func43 (by kernel_rfl) rfl #[.pointer (some ⟨g, 0, none⟩), .slice Ao14 y110.length co14] rfl zee81 ?_; (with_reducible refine (spec_l1Cur_among.calls g s0_0 t108 t109 _ _ y110 t113 t114 t115 w0 _ ?side1 ?side2 ?side3 ?side4 ?side5 A11.out).mono ?_); (case side1 => exact zdb4b); (case side2 => exact zfd03); (case side3 => exact (by repeat (first | exact (Kd.R_reads' HO112.out).2.2 | (with_reducible refine Kd.C_alloc ?_ _) | (with_reducible refine Kd.C_drewN ?_ _) | (with_reducible refine Kd.C_drew ?_)))); (case side4 => exact (Kd.R_reads' HO112.out).2.1); (case side5 => exact far_slice (IsS66.own_ne HI0.out HO112.out (by decide))); rintro e w15 ⟨rfl, hi, hb, hk⟩; refine ⟨_, rfl, ?_⟩; have n0_ := Aside0.mk (Kd.R_mono (Kd.R_keep (IsS66.apart (show IsS66 w0 _ g s0_0 t108 t109 from by repeat (first | (with_reducible first | exact HI0.out | apply IsS66.alloc | apply IsS66.drewN | apply IsS66.drew | apply IsS66.set_1 | apply IsS66.set_2) | exact HI0.out)) (rZ HO103.out) (by decide)) hk (fun _ h => h.2)) (fun _ h => h.1)); have n1_ := Aside0.mk (Kd.R_mono (Kd.R_keep (IsS66.apart (show IsS66 w0 _ g s0_0 t108 t109 from by repeat (first | (with_reducible first | exact HI0.out | apply IsS66.alloc | apply IsS66.drewN | apply IsS66.drew | apply IsS66.set_1 | apply IsS66.set_2) | exact HI0.out)) (rZ HO112.out) (by decide)) hk (fun _ h => h.2)) (fun _ h => h.1)); have n2_ := Aside0.mk (KeepBut.trans zcbec hk (.inl rfl)); have n3_ := Aside0.mk hb; have n4_ := Aside0.mk hi; clear HO103 HO112 HK HB HI0; have HO103 := n0_; have HO112 := n1_; have HK := n2_; have HB := n3_; have HI0 := n4_; clear n0_ n1_ n2_ n3_ n4_; (try clear hb); (try clear hb2); (try clear hk); (try clear hi)))
    go_meet
    case rel => exact ⟨_, (t113), (t114), (t115), z4458, H', ⟨zb79b⟩, ⟨zdb4b⟩, ⟨zcbec⟩, ⟨zfd03⟩⟩
  · replace c10 := Bool.eq_false_iff.mpr c10
    subst c10
    have H1 : (spec_l1Cur_record.j0 k t104 s0_0 t108 t109) = some (r1, r2, r3) := by rw [if_neg (show ¬ (false = true) by decide)] at H; exact H
    clear H
    have H := H1
    clear H1
    have H' := Aside0.mk H
    clear H
    go_wp2
    go_meet
    case rel => exact ⟨_, (t104), (t108), (t109), z4458, H', ⟨zb79b⟩, ⟨zdb4b⟩, ⟨zcbec⟩, ⟨zfd03⟩⟩
 case rest =>
  clear HC4
  try clear c1
  try clear p2
  try clear c3
  try clear c4
  try clear c6
  try clear c10
  obtain ⟨kq, x3_3, x1001_3, x1002_3, rfl, HA, HJ3, HI0, HK, HB⟩ := hcut
  cases kq with
  | zero => exact absurd HA.out (by simp [spec_l1Cur_record.j0])
  | succ kj3 =>
   have H := HA.out
   clear HA
   simp only [spec_l1Cur_record.j0] at H
   by_cases c16 : 0 ≤ x3_3
   · rw [if_pos c16] at H
     have c16b0 := eq_true c16
     have c16b1 : decide (0 ≤ x3_3) = true := decide_eq_true c16
     clear c16
     by_cases c17 : (x3_3 : Int).toNat ≤ 281474976710656
     · rw [if_pos c17] at H
       have c17b0 := eq_true c17
       have c17b1 : decide ((x3_3 : Int).toNat ≤ 281474976710656) = true := decide_eq_true c17
       clear c17
       obtain ⟨y116, hy116⟩ : ∃ y_ : List Int, y_ = (List.replicate (x3_3 : Int).toNat 0) := ⟨_, rfl⟩
       replace H : (spec_l1Cur_record.l0 kj3 y116 (y116.length : Int) 0 s0_0 x1001_3 x1002_3) = some (r1, r2, r3) := by first | (rw [hy116]; with_reducible exact H) | (have H2_ := (Option.bind_some _ _).symm.trans H; rw [hy116]; with_reducible exact H2_) | (have H2_ := (Option.bind_some _ _).symm.trans H; with_reducible exact H2_) | with_reducible exact H | (rw [hy116]; exact H) | exact H
       have Ny116 := Aside0.mk hy116
       clear hy116
       have H' := Aside0.mk H
       clear H
       go_wp2_with (first | ((with_reducible refine gate_dst (N := 15) rfl ?_); refine Kd.R_make (Kd.int .u8) _ 5 rfl (N := 15) rfl 22 _ _ rfl x3_3 rfl rfl Try.underlying22 (.int .u8 0) 1 info5 rfl (by decide) (by omega) 0 (ok := fun _ => True) (okp := fun _ => True) rfl (fun _ hk => hk) trivial (of_decide_eq_true z1200) (Nat.le_trans (Nat.mul_le_mul_right _ (of_decide_eq_true z1200 : x3_3.toNat ≤ 281474976710656)) (by omega)) (Below.refl _ _) (Nat.le_refl _) ?_; intro v117 w18 ho19 hb hg_ hnew_; clear hg_ hnew_; (first | rw [← Ny116.out] at ho19 | (simp only [Int.reduceToNat] at ho19; rw [← Ny116.out] at ho19)); have n0_ := Aside0.mk (Kd.R_lower ho19 (keep_size (w := w) (g := g) (row := none) zcbec)); have n1_ := Aside0.mk (IsS66.below zdb4b hb); have n2_ := Aside0.mk (KeepBut.trans zcbec (KeepBut.of_below hb g none) (.inl rfl)); have n3_ := Aside0.mk (below_step zfd03 hb); clear HI0 HK HB; have HO118 := n0_; have HI0 := n1_; have HK := n2_; have HB := n3_; clear n0_ n1_ n2_ n3_; clear hb ho19; obtain ⟨Ao20, co20, eo20⟩ := Kd.R_slice HO118.out; subst eo20))
       go_loopg [18] kj3 (fun kq v18 w' => ∃ (x4_2 : List Int) (x18_2 : Int) (x1001_2 : Int) (x1002_2 : Int), v18 = .int .i64 x18_2 ∧ Aside0 (spec_l1Cur_record.l0 kq x4_2 (y116.length : Int) x18_2 s0_0 x1001_2 x1002_2 = some (r1, r2, r3)) ∧ Aside0 (kq ≤ kj3) ∧ Aside0 (Kd.R (Kd.int .u8) 5 w' w.heap.size (fun _ => True) (.slice Ao20 y116.length co20) x4_2) ∧ Aside0 (IsS66 w0 w' g s0_0 x1001_2 x1002_2) ∧ Aside0 (KeepBut w w' g none) ∧ Aside0 (Below w0.heap.size w0 w'))
       case atStart => exact ⟨(y116), (0), (x1001_3), (x1002_3), z4458, H', ⟨Nat.le_refl _⟩, ⟨rZ HO118.out⟩, ⟨zdb4b⟩, ⟨zcbec⟩, ⟨zfd03⟩⟩
       case round =>
        clear H'
        try clear c1
        try clear p2
        try clear c3
        try clear c4
        try clear c6
        try clear c10
        try clear c16
        try clear c16b0
        try clear c16b1
        try clear c17
        try clear c17b0
        try clear c17b1
        try clear p2
        obtain ⟨x4_2, x18_2, x1001_2, x1002_2, rfl, HA, HK2, HO_4, HI0, HK, HB⟩ := hrel
        have hl4_2 := (Kd.R_reads' HO_4.out).1
        rw [hl4_2] at HO_4
        (try simp only [hl4_2])
        cases gk with
        | zero => exact absurd HA.out (by simp [spec_l1Cur_record.l0])
        | succ k2 =>
         have H := HA.out
         clear HA
         simp only [spec_l1Cur_record.l0] at H
         by_cases c21 : x18_2 < (y116.length : Int)
         · rw [if_pos c21] at H
           have c21b0 : decide (x18_2 < (y116.length : Int)) = true := decide_eq_true c21
           (try (have c21z0 := c21b0; simp only [hl4_2] at c21z0))
           clear c21
           replace H := Option.bind_eq_some_iff.mp H
           obtain ⟨⟨t119, t120, t121⟩, A220, H⟩ := H
           try dsimp only at H
           have A22 := Aside0.mk A220
           clear A220
           by_cases c23 : 0 ≤ x18_2
           · rw [if_pos c23] at H
             have c23b0 : decide (0 ≤ x18_2) = true := decide_eq_true c23
             clear c23
             by_cases c24 : x18_2 < (x4_2.length : Int)
             · rw [if_pos c24] at H
               have c24b0 : decide (x18_2 < (x4_2.length : Int)) = true := decide_eq_true c24
               (try (have c24z0 := c24b0; simp only [hl4_2] at c24z0))
               clear c24
               obtain ⟨y122, hy122⟩ : ∃ y_ : List Int, y_ = (x4_2.set (x18_2 : Int).toNat ((t119) % 256)) := ⟨_, rfl⟩
               replace H : (spec_l1Cur_record.l0 k2 y122 (y116.length : Int) (wrap64 (x18_2 + 1)) s0_0 t120 t121) = some (r1, r2, r3) := by first | (rw [hy122]; with_reducible exact H) | (have H2_ := (Option.bind_some _ _).symm.trans H; rw [hy122]; with_reducible exact H2_) | (have H2_ := (Option.bind_some _ _).symm.trans H; with_reducible exact H2_) | with_reducible exact H | (rw [hy122]; exact H) | exact H
               have Ny122 := Aside0.mk hy122
               clear hy122
               have H' := Aside0.mk H
               clear H
               go_wp2_with (first | ((with_reducible refine gate_callee (f := 36) rfl ?_); refine goesL_ (some 24) rfl rfl Try.func36 (by kernel_rfl) rfl #[.pointer (some ⟨g, 0, none⟩), .int .i64 9] rfl zee81 ?_; (with_reducible refine (spec_l1Cur_pick.calls g s0_0 x1001_2 x1002_2 9 t119 t120 t121 w0 _ ?side1 ?side2 A22.out).mono ?_); (case side1 => exact zdb4b); (case side2 => exact zfd03); rintro e w26 ⟨rfl, hi, hb, hk⟩; refine ⟨_, rfl, ?_⟩; have n0_ := Aside0.mk (Kd.R_mono (Kd.R_keep (IsS66.apart (show IsS66 w0 _ g s0_0 x1001_2 x1002_2 from by repeat (first | (with_reducible first | exact HI0.out | apply IsS66.alloc | apply IsS66.drewN | apply IsS66.drew | apply IsS66.set_1 | apply IsS66.set_2) | exact HI0.out)) (rZ HO_4.out) (by decide)) hk (fun _ h => h.2)) (fun _ h => h.1)); have n1_ := Aside0.mk (KeepBut.trans zcbec hk (.inl rfl)); have n2_ := Aside0.mk hb; have n3_ := Aside0.mk hi; clear HO_4 HK HB HI0; have HO_4 := n0_; have HK := n1_; have HB := n2_; have HI0 := n3_; clear n0_ n1_ n2_ n3_; (try clear hb); (try clear hb2); (try clear hk); (try clear hi); have p25 : 0 ≤ (x18_2 : Int) := of_decide_eq_true z1200; have q25 : (x18_2 : Int) < ((x4_2.length : Int) : Int) := of_decide_eq_true z1200; obtain ⟨go25, co25, eo25, gb25, gl25, cl25, HG25⟩ := Kd.R_form HO_4.out (by omega); (first | cases eo25 | (injection eo25 with ea_ en_ ec_; (first | subst ea_ | (injection ea_ with ea_; subst ea_)); subst ec_; clear en_)); have GB25 := Aside0.mk gb25; have GG25 := Aside0.mk HG25; clear gb25 gl25 HG25; obtain ⟨hx25_0, hf25_0⟩ := Kd.R_celln 0 HO_4.out (x18_2 : Int) p25 q25; replace p25 := eq_true p25; replace q25 := eq_true q25; obtain ⟨hy27_, hz27_⟩ := Kd.R_celln 0 HO_4.out (x18_2 : Int) (of_decide_eq_true z1200) (of_decide_eq_true z1200); have HP27 := Kd.R_putg HO_4.out (x18_2 : Int) ((t119) % 256)) | ((with_reducible refine gate_store (t := 5) (p := 26) rfl ?_); refine store_event (t := 5) (p := 26) (v := ?vo_w28) (w1 := (w26.setCell ⟨go25, (x18_2 : Int).toNat, none⟩ (.int .u8 ((t119) % 256)))) ?hg ?ho ?hn ?hr ?_; (case ho => rfl); (case hg => rfl); (case hn => rfl); (case hr => first | (go_simp; done) | (go_simp; rfl)); intro w28 hw; have hg : w26.grownBy w28 (some go25) := (by rw [hw]; exact HP27.2); have hp_ : Kd.R (Kd.int .u8) 5 w28 w.heap.size (fun _ => True) (.slice (some ⟨go25, 0, none⟩) x4_2.length co20) y122 := (by rw [hw, Ny122.out]; exact HP27.1); clear HP27; have n0_ := Aside0.mk hp_; have n1_ := Aside0.mk (IsS66.grown zdb4b hg (IsS66.own_ne HI0.out HO_4.out (by decide))); have n2_ := Aside0.mk ((by rw [hw]; exact below_set (HB.out) (Nat.le_trans HL.out GB25.out) : Below w0.heap.size w0 w28)); have n3_ := Aside0.mk (KeepBut.trans zcbec (KeepBut.of_grown hg g) (Kd.R_base2 HO_4.out)); clear HO_4 HI0 HB HK; have HO_4 := n0_; have HI0 := n1_; have HB := n2_; have HK := n3_; clear n0_ n1_ n2_ n3_; clear hg hw hp_))
               (try simp only [← hl4_2])
               go_roundg k2
               case measure => have := HJ3.out; have := HK2.out; omega
               case rel => exact ⟨(y122), (wrap64 (x18_2 + 1)), (t120), (t121), z4458, H', ⟨by have := HJ3.out; have := HK2.out; omega⟩, ⟨by (try simp only [hl4_2]); (with_reducible repeat (first | apply Kd.R_alloc | apply Kd.R_drewN | apply Kd.R_drew)); exact HO_4.out⟩, ⟨zdb4b⟩, ⟨zcbec⟩, ⟨zfd03⟩⟩
             · rw [if_neg c24] at H
               exact absurd H (by simp)
           · rw [if_neg c23] at H
             exact absurd H (by simp)
         · rw [if_neg c21] at H
           have c21b0 : decide (x18_2 < (y116.length : Int)) = false := decide_eq_false c21
           (try (have c21z0 := c21b0; simp only [hl4_2] at c21z0))
           clear c21
           simp only [Option.some.injEq, Prod.mk.injEq] at H
           obtain ⟨rfl, rfl, rfl⟩ := H
           go_wp2
           go_ret
           exact ⟨_, z674d, rZ HO_4.out, zdb4b, zfd03, zcbec⟩
     · rw [if_neg c17] at H
       exact absurd H (by simp)
   · rw [if_neg c16] at H
     exact absurd H (by simp)

end Go.Proofs.Ythliooccgclbjaa.P

-- written by a program of this session's (wip/pp)
namespace Go.Proofs.Ythliooccgclbjaa.P
open Go.RowKit Go.Proofs.YthliooccgclbjaaW.PrintWords Go.Proofs.YthliooccgclbjaaW.PrintLast Go.Proofs.YthliooccgclbjaaW.PrintMore
attribute [local go_sem] max2_int min2_int max_two min_two max_three min_three max_four min_four   -- for this text's walks alone
set_option linter.unusedVariables false
set_option linter.unusedSimpArgs false

/-! ### spec_l1Cur_records: function 51 -/
mutual
def spec_l1Cur_records.j0 : Nat → List (List Int) → Int → List Int → Int → Int → Option ((List (List Int)) × Int × Int)
 | 0, _, _, _, _, _ => none
 | k + 1, x3, x4, x1000, x1001, x1002 => spec_l1Cur_records.l0 k x3 x4 x1000 x1001 x1002
def spec_l1Cur_records.l0 : Nat → List (List Int) → Int → List Int → Int → Int → Option ((List (List Int)) × Int × Int)
 | 0, _, _, _, _, _ => none
 | k + 1, x3, x4, x1000, x1001, x1002 => if x4 > 0 then ((spec_l1Cur_record.f k x1000 x1001 x1002).bind fun bt110 => (if x3.length < 5864062014805 then (spec_l1Cur_records.l0 k (x3 ++ [bt110.1]) (wrap64 (x4 - 1)) x1000 bt110.2.1 bt110.2.2) else (none))) else (some (x3, x1001, x1002))
end
def spec_l1Cur_records.f (k : Nat) (s0_0 : List Int) (s0_1 : Int) (s0_2 : Int) : Option ((List (List Int)) × Int × Int) := (spec_l1Cur_pick.f s0_0 s0_1 s0_2 6).bind fun bt101 => ((spec_l1Cur_one.f s0_0 bt101.2.1 bt101.2.2 40).bind fun bt104 => (if bt104.1 = true then ((spec_l1Cur_pick.f s0_0 bt104.2.1 bt104.2.2 2).bind fun bt107 => (spec_l1Cur_records.j0 k ([] : List (List Int)) (wrap64 (60 + bt107.1)) s0_0 bt107.2.1 bt107.2.2)) else (spec_l1Cur_records.j0 k ([] : List (List Int)) bt101.1 s0_0 bt104.2.1 bt104.2.2)))
theorem spec_l1Cur_records.mono_l : ∀ k, (∀ y0 y1 y2 y3 y4, LeO (spec_l1Cur_records.j0 k y0 y1 y2 y3 y4) (spec_l1Cur_records.j0 (k + 1) y0 y1 y2 y3 y4)) ∧ (∀ y0 y1 y2 y3 y4, LeO (spec_l1Cur_records.l0 k y0 y1 y2 y3 y4) (spec_l1Cur_records.l0 (k + 1) y0 y1 y2 y3 y4))
 | 0 => ⟨fun _ _ _ _ _ r h => by simp [spec_l1Cur_records.j0] at h, fun _ _ _ _ _ r h => by simp [spec_l1Cur_records.l0] at h⟩
 | k + 1 => by
  obtain ⟨ih0, ih1⟩ := spec_l1Cur_records.mono_l k
  refine ⟨?_, ?_⟩
  · intro y0 y1 y2 y3 y4
    unfold spec_l1Cur_records.j0
    repeat' first
     | (with_reducible first | exact ih0 .. | exact ih1 .. | exact spec_l1Cur_record.mono .. | exact LeO.refl _ | exact LeO.none _ | refine LeO.ite ?_ ?_ | refine LeO.bind ?_ (fun _ => ?_))
     | exact LeO.none _
     | refine LeO.ite ?_ ?_
     | refine LeO.bind ?_ (fun _ => ?_)
  · intro y0 y1 y2 y3 y4
    unfold spec_l1Cur_records.l0
    repeat' first
     | (with_reducible first | exact ih0 .. | exact ih1 .. | exact spec_l1Cur_record.mono .. | exact LeO.refl _ | exact LeO.none _ | refine LeO.ite ?_ ?_ | refine LeO.bind ?_ (fun _ => ?_))
     | exact LeO.none _
     | refine LeO.ite ?_ ?_
     | refine LeO.bind ?_ (fun _ => ?_)
theorem spec_l1Cur_records.mono : ∀ a0 a1 a2 k, LeO (spec_l1Cur_records.f k a0 a1 a2) (spec_l1Cur_records.f (k + 1) a0 a1 a2) := by
 intro a0 a1 a2 k
 obtain ⟨ih0, ih1⟩ := spec_l1Cur_records.mono_l k
 unfold spec_l1Cur_records.f
 repeat' first
  | (with_reducible first | exact ih0 .. | exact ih1 .. | exact spec_l1Cur_record.mono .. | exact LeO.refl _ | exact LeO.none _ | refine LeO.ite ?_ ?_ | refine LeO.bind ?_ (fun _ => ?_))
  | exact LeO.none _
  | refine LeO.ite ?_ ?_
  | refine LeO.bind ?_ (fun _ => ?_)
set_option maxHeartbeats 8000000 in
set_option maxRecDepth 100000 in
theorem spec_l1Cur_records.calls (k : Nat) (g : Nat) (s0_0 : List Int) (s0_1 : Int) (s0_2 : Int) (r1 : List (List Int)) (r2 : Int) (r3 : Int) (w0 w : World) (hI : IsS66 w0 w g s0_0 s0_1 s0_2) (hB : Below w0.heap.size w0 w) (h : spec_l1Cur_records.f k s0_0 s0_1 s0_2 = some (r1, r2, r3)) :
 Calls Try.prog 51 #[.pointer (some ⟨g, 0, none⟩)] w fun e w' => ∃ v0_ : Value, e = .returned (v0_) ∧ Kd.S (Kd.slice 5 (Kd.int .u8)) 22 w' w.heap.size (fun _ => True) v0_ r1 ∧ IsS66 w0 w' g s0_0 r2 r3 ∧ Below w0.heap.size w0 w' ∧ KeepBut w w' g none := by
 have HI0 := Aside0.mk hI
 have HK := Aside0.mk (KeepBut.refl w g none)
 have HL := Aside0.mk hB.size
 clear hI
 have HW0 := Aside0.mk hB.size
 have HB := Aside0.mk hB
 clear hB
 have H : ((spec_l1Cur_pick.f s0_0 s0_1 s0_2 6).bind fun bt101 => ((spec_l1Cur_one.f s0_0 bt101.2.1 bt101.2.2 40).bind fun bt104 => (if bt104.1 = true then ((spec_l1Cur_pick.f s0_0 bt104.2.1 bt104.2.2 2).bind fun bt107 => (spec_l1Cur_records.j0 k ([] : List (List Int)) (wrap64 (60 + bt107.1)) s0_0 bt107.2.1 bt107.2.2)) else (spec_l1Cur_records.j0 k ([] : List (List Int)) bt101.1 s0_0 bt104.2.1 bt104.2.2)))) = some (r1, r2, r3) := h
 clear h
 replace H := Option.bind_eq_some_iff.mp H
 obtain ⟨⟨t101, t102, t103⟩, A20, H⟩ := H
 try dsimp only at H
 have A2 := Aside0.mk A20
 clear A20
 replace H := Option.bind_eq_some_iff.mp H
 obtain ⟨⟨t104, t105, t106⟩, A30, H⟩ := H
 try dsimp only at H
 have A3 := Aside0.mk A30
 clear A30
 have HC4 := Aside0.mk H
 clear H
 go_enter Try.func51, Try.ntmps51
 go_upto_if 8 with (first | ((with_reducible refine gate_callee (f := 36) rfl ?_); refine goesL_ (some 6) rfl rfl Try.func36 (by kernel_rfl) rfl #[.pointer (some ⟨g, 0, none⟩), .int .i64 6] rfl zee81 ?_; (with_reducible refine (spec_l1Cur_pick.calls g s0_0 s0_1 s0_2 6 t101 t102 t103 w0 _ ?side1 ?side2 A2.out).mono ?_); (case side1 => exact zdb4b); (case side2 => exact zfd03); rintro e w5 ⟨rfl, hi, hb, hk⟩; refine ⟨_, rfl, ?_⟩; have n0_ := Aside0.mk (KeepBut.trans zcbec hk (.inl rfl)); have n1_ := Aside0.mk hb; have n2_ := Aside0.mk hi; clear HK HB HI0; have HK := n0_; have HB := n1_; have HI0 := n2_; clear n0_ n1_ n2_; (try clear hb); (try clear hb2); (try clear hk); (try clear hi)) | ((with_reducible refine gate_callee (f := 35) rfl ?_); refine goesL_ (some 8) rfl rfl Try.func35 (by kernel_rfl) rfl #[.pointer (some ⟨g, 0, none⟩), .int .i64 40] rfl zee81 ?_; (with_reducible refine (spec_l1Cur_one.calls g s0_0 t102 t103 40 t104 t105 t106 w0 _ ?side1 ?side2 A3.out).mono ?_); (case side1 => exact zdb4b); (case side2 => exact zfd03); rintro e w6 ⟨rfl, hi, hb, hk⟩; refine ⟨_, rfl, ?_⟩; have n0_ := Aside0.mk (KeepBut.trans zcbec hk (.inl rfl)); have n1_ := Aside0.mk hb; have n2_ := Aside0.mk hi; clear HK HB HI0; have HK := n0_; have HB := n1_; have HI0 := n2_; clear n0_ n1_ n2_; (try clear hb); (try clear hb2); (try clear hk); (try clear hi)))
 (try simp only [Act.put, List.setIfInBounds_toArray, List.set_cons_zero, List.set_cons_succ])
 go_cut [4] (fun v4 wc => ∃ (kq : Nat) (x4_3 : Int) (x1001_3 : Int) (x1002_3 : Int), v4 = .int .i64 x4_3 ∧ Aside0 (spec_l1Cur_records.j0 kq ([] : List (List Int)) x4_3 s0_0 x1001_3 x1002_3 = some (r1, r2, r3)) ∧ Aside0 (kq ≤ k) ∧ Aside0 (Kd.S (Kd.slice 5 (Kd.int .u8)) 22 wc w.heap.size (fun _ => True) (.slice none 0 0) ([] : List (List Int))) ∧ Aside0 (IsS66 w0 wc g s0_0 x1001_3 x1002_3) ∧ Aside0 (KeepBut w wc g none) ∧ Aside0 (Below w0.heap.size w0 wc))
 case first =>
  have H := HC4.out
  clear HC4
  by_cases c7 : t104 = true
  · subst c7
    have H1 : ((spec_l1Cur_pick.f s0_0 t105 t106 2).bind fun bt107 => (spec_l1Cur_records.j0 k ([] : List (List Int)) (wrap64 (60 + bt107.1)) s0_0 bt107.2.1 bt107.2.2)) = some (r1, r2, r3) := by rw [if_pos rfl] at H; exact H
    clear H
    have H := H1
    clear H1
    replace H := Option.bind_eq_some_iff.mp H
    obtain ⟨⟨t107, t108, t109⟩, A80, H⟩ := H
    try dsimp only at H
    have A8 := Aside0.mk A80
    clear A80
    have H' := Aside0.mk H
    clear H
    go_wp2_with (first | ((with_reducible refine gate_callee (f := 36) rfl ?_); refine goesL_ (some 10) rfl rfl Try.func36 (by kernel_rfl) rfl #[.pointer (some ⟨g, 0, none⟩), .int .i64 2] rfl zee81 ?_; (with_reducible refine (spec_l1Cur_pick.calls g s0_0 t105 t106 2 t107 t108 t109 w0 _ ?side1 ?side2 A8.out).mono ?_); (case side1 => exact zdb4b); (case side2 => exact zfd03); rintro e w9 ⟨rfl, hi, hb, hk⟩; refine ⟨_, rfl, ?_⟩; have n0_ := Aside0.mk (KeepBut.trans zcbec hk (.inl rfl)); have n1_ := Aside0.mk hb; have n2_ := Aside0.mk hi; clear HK HB HI0; have HK := n0_; have HB := n1_; have HI0 := n2_; clear n0_ n1_ n2_; (try clear hb); (try clear hb2); (try clear hk); (try clear hi)))
    go_meet
    case rel => exact ⟨_, (wrap64 (60 + t107)), (t108), (t109), z4458, H', ⟨zb79b⟩, ⟨z2bfb⟩, ⟨zdb4b⟩, ⟨zcbec⟩, ⟨zfd03⟩⟩
  · replace c7 := Bool.eq_false_iff.mpr c7
    subst c7
    have H1 : (spec_l1Cur_records.j0 k ([] : List (List Int)) t101 s0_0 t105 t106) = some (r1, r2, r3) := by rw [if_neg (show ¬ (false = true) by decide)] at H; exact H
    clear H
    have H := H1
    clear H1
    have H' := Aside0.mk H
    clear H
    go_wp2
    go_meet
    case rel => exact ⟨_, (t101), (t105), (t106), z4458, H', ⟨zb79b⟩, ⟨z2bfb⟩, ⟨zdb4b⟩, ⟨zcbec⟩, ⟨zfd03⟩⟩
 case rest =>
  clear HC4
  try clear p2
  try clear c3
  try clear c5
  try clear p6
  try clear c7
  obtain ⟨kq, x4_3, x1001_3, x1002_3, rfl, HA, HJ3, HO_3, HI0, HK, HB⟩ := hcut
  cases kq with
  | zero => exact absurd HA.out (by simp [spec_l1Cur_records.j0])
  | succ kj3 =>
   have H := HA.out
   clear HA
   simp only [spec_l1Cur_records.j0] at H
   have H' := Aside0.mk H
   clear H
   go_wp2
   go_loopg [3, 4] kj3 (fun kq v3 v4 w' => ∃ (x3_2 : List (List Int)) (x4_2 : Int) (x1001_2 : Int) (x1002_2 : Int), v4 = .int .i64 x4_2 ∧ Aside0 (spec_l1Cur_records.l0 kq x3_2 x4_2 s0_0 x1001_2 x1002_2 = some (r1, r2, r3)) ∧ Aside0 (kq ≤ kj3) ∧ Aside0 (Kd.S (Kd.slice 5 (Kd.int .u8)) 22 w' w.heap.size (fun _ => True) v3 x3_2) ∧ Aside0 (IsS66 w0 w' g s0_0 x1001_2 x1002_2) ∧ Aside0 (KeepBut w w' g none) ∧ Aside0 (Below w0.heap.size w0 w'))
   case atStart => exact ⟨(([] : List (List Int))), (x4_3), (x1001_3), (x1002_3), z4458, H', ⟨Nat.le_refl _⟩, ⟨by (with_reducible repeat (first | apply Kd.S_alloc | apply Kd.S_drewN | apply Kd.S_drew)); exact HO_3.out⟩, ⟨zdb4b⟩, ⟨zcbec⟩, ⟨zfd03⟩⟩
   case round =>
    clear H'
    try clear p2
    try clear c3
    try clear c5
    try clear p6
    try clear c7
    try clear p2
    try clear p6
    obtain ⟨x3_2, x4_2, x1001_2, x1002_2, rfl, HA, HK2, HO_3, HI0, HK, HB⟩ := hrel
    cases gk with
    | zero => exact absurd HA.out (by simp [spec_l1Cur_records.l0])
    | succ k2 =>
     have H := HA.out
     clear HA
     simp only [spec_l1Cur_records.l0] at H
     by_cases c10 : x4_2 > 0
     · rw [if_pos c10] at H
       have c10b0 : decide (0 < x4_2) = true := decide_eq_true c10
       clear c10
       replace H := Option.bind_eq_some_iff.mp H
       obtain ⟨⟨t110, t113, t114⟩, A110, H⟩ := H
       try dsimp only at H
       have A11 := Aside0.mk A110
       clear A110
       by_cases c12 : x3_2.length < 5864062014805
       · rw [if_pos c12] at H
         have LMc12 := Aside0.mk c12
         clear c12
         obtain ⟨y115, hy115⟩ : ∃ y_ : List (List Int), y_ = (x3_2 ++ [t110]) := ⟨_, rfl⟩
         replace H : (spec_l1Cur_records.l0 k2 y115 (wrap64 (x4_2 - 1)) s0_0 t113 t114) = some (r1, r2, r3) := by first | (rw [hy115]; with_reducible exact H) | (have H2_ := (Option.bind_some _ _).symm.trans H; rw [hy115]; with_reducible exact H2_) | (have H2_ := (Option.bind_some _ _).symm.trans H; with_reducible exact H2_) | with_reducible exact H | (rw [hy115]; exact H) | exact H
         have Ny115 := Aside0.mk hy115
         clear hy115
         have H' := Aside0.mk H
         clear H
         go_wp2_with (first | ((with_reducible refine gate_callee (f := 69) rfl ?_); refine goesL_ (some 18) rfl rfl Try.func69 (by kernel_rfl) rfl #[.pointer (some ⟨g, 0, none⟩)] rfl zee81 ?_; (with_reducible refine (spec_l1Cur_record.calls k2 g s0_0 x1001_2 x1002_2 t110 t113 t114 w0 _ ?side1 ?side2 A11.out).mono ?_); (case side1 => exact zdb4b); (case side2 => exact zfd03); rintro e w13 ⟨v111, rfl, ho0, hi, hb, hk⟩; refine ⟨_, rfl, ?_⟩; have n0_ := Aside0.mk (Kd.S_mono (Kd.S_told (Kd.S_oldK (IsS66.apartS (show IsS66 w0 _ g s0_0 x1001_2 x1002_2 from by repeat (first | (with_reducible first | exact HI0.out | apply IsS66.alloc | apply IsS66.drewN | apply IsS66.drew | apply IsS66.set_1 | apply IsS66.set_2) | exact HI0.out)) (by (with_reducible repeat (first | apply Kd.S_alloc | apply Kd.S_drewN | apply Kd.S_drew)); exact HO_3.out) (by decide)) hk) (Kd.R_base ho0)) (fun _ h_ => h_.1)); have n1_ := Aside0.mk (Kd.R_lower ho0 (keep_size (w := w) (g := g) (row := none) zcbec)); have n2_ := Aside0.mk (KeepBut.trans zcbec hk (.inl rfl)); have n3_ := Aside0.mk hb; have n4_ := Aside0.mk hi; clear HO_3 HK HB HI0; have HO_3 := n0_; have HO112 := n1_; have HK := n2_; have HB := n3_; have HI0 := n4_; clear n0_ n1_ n2_ n3_ n4_; (try clear hb); (try clear hb2); (try clear hk); (try clear hi); (try clear ho0); obtain ⟨Ao15, co15, eo15⟩ := Kd.R_slice HO112.out; subst eo15) | ((with_reducible refine gate_builtin (b := .append) (xs := #[.tmp 16, .tmp 19]) rfl ?_); at_builtin; refine Kd.S_append (Kd.slice 5 (Kd.int .u8)) w.heap.size rfl (.tmp 16) (.tmp 19) 46 22 (.slice none 0 0) 24 rfl Try.underlying46 info22 rfl (by decide) (by omega) u3 x3_2 t110 [.slice Ao15 t110.length co15] (fun _ => True) (fun k_ => some k_ = (.slice Ao15 t110.length co15 : Value).ownBlock) rfl rfl ?aP (fun k_ hk_ => ((Kd.R_mono (ok' := fun k_ => ((fun _ => True)) k_ ∧ some k_ ≠ (u3 : Value).ownBlock) (Kd.R_apart' (HO112.out) (Kd.S_typed HO_3.out) (by decide)) (fun k_ hk => ⟨trivial, hk.2⟩))).1 k_ hk_.symm) ?aF ?aO (Below.refl _ _) ?aS ?aL ?_; (case aP => exact Kd.M_row (Kd.R_mono (Kd.R_tight rfl (Kd.R_mono (ok' := fun k_ => ((fun _ => True)) k_ ∧ some k_ ≠ (u3 : Value).ownBlock) (Kd.R_apart' (HO112.out) (Kd.S_typed HO_3.out) (by decide)) (fun k_ hk => ⟨trivial, hk.2⟩))) (fun _ h_ => h_))); (case aF => exact (fun _ _ => trivial)); (case aO => exact (by (with_reducible repeat (first | apply Kd.S_alloc | apply Kd.S_drewN | apply Kd.S_drew)); exact Kd.S_mono HO_3.out (fun k_ hk => ⟨trivial, fun e_ => hk.2 e_⟩))); (case aS => exact (keep_size (w := w) (g := g) (row := none) zcbec)); (case aL => have := LMc12.out; omega); intro v116 w14 ho hb hg hat; rw [← Ny115.out] at ho; have n0_ := Aside0.mk (IsS66.grown zdb4b hg (IsS66.own_neS HI0.out HO_3.out (by decide))); have n1_ := Aside0.mk (below_weaken zfd03 HL.out hb); have n2_ := Aside0.mk (KeepBut.trans zcbec (KeepBut.of_grown hg g) (Kd.S_base2 HO_3.out)); have n3_ := Aside0.mk ho; clear HI0 HB HK HO_3 HO112; have HI0 := n0_; have HB := n1_; have HK := n2_; have HO117 := n3_; clear n0_ n1_ n2_ n3_; clear ho hb hg hat))
         go_roundg k2
         case measure => have := HJ3.out; have := HK2.out; omega
         case rel => exact ⟨(y115), (wrap64 (x4_2 - 1)), (t113), (t114), z4458, H', ⟨by have := HJ3.out; have := HK2.out; omega⟩, ⟨by (with_reducible repeat (first | apply Kd.S_alloc | apply Kd.S_drewN | apply Kd.S_drew)); exact HO117.out⟩, ⟨zdb4b⟩, ⟨zcbec⟩, ⟨zfd03⟩⟩
       · rw [if_neg c12] at H
         exact absurd H (by simp)
     · rw [if_neg c10] at H
       have c10b0 : decide (0 < x4_2) = false := decide_eq_false c10
       clear c10
       simp only [Option.some.injEq, Prod.mk.injEq] at H
       obtain ⟨rfl, rfl, rfl⟩ := H
       go_wp2
       go_ret
       exact ⟨_, z674d, by (with_reducible repeat (first | apply Kd.S_alloc | apply Kd.S_drewN | apply Kd.S_drew)); exact HO_3.out, zdb4b, zfd03, zcbec⟩

end Go.Proofs.Ythliooccgclbjaa.P

-- written by a program of this session's (wip/pp)
namespace Go.Proofs.Ythliooccgclbjaa.P
open Go.RowKit Go.Proofs.YthliooccgclbjaaW.PrintWords Go.Proofs.YthliooccgclbjaaW.PrintLast Go.Proofs.YthliooccgclbjaaW.PrintMore
attribute [local go_sem] max2_int min2_int max_two min_two max_three min_three max_four min_four   -- for this text's walks alone
set_option linter.unusedVariables false
set_option linter.unusedSimpArgs false

/-! ### spec_DrawLogOf: function 21 -/
def spec_DrawLogOf.f (k : Nat) (l0 : List Int) : Option ((List (List Int))) := (spec_l1Cur_records.f k l0 0 0).bind fun bt102 => (some bt102.1)
theorem spec_DrawLogOf.mono : ∀ a0 k, LeO (spec_DrawLogOf.f k a0) (spec_DrawLogOf.f (k + 1) a0) := by
 intro a0 k
 unfold spec_DrawLogOf.f
 repeat' first
  | (with_reducible first | exact spec_l1Cur_records.mono .. | exact LeO.refl _ | exact LeO.none _ | refine LeO.ite ?_ ?_ | refine LeO.bind ?_ (fun _ => ?_))
  | exact LeO.none _
  | refine LeO.ite ?_ ?_
  | refine LeO.bind ?_ (fun _ => ?_)
set_option maxHeartbeats 8000000 in
set_option maxRecDepth 100000 in
theorem spec_DrawLogOf.calls (k : Nat) (A0 : Option Addr) (c0 : Nat) (l0 : List Int) (r : List (List Int)) (w : World) (hr0 : Kd.C (Kd.int .u8) w A0 l0.length l0) (hc0 : l0.length ≤ c0) (h : spec_DrawLogOf.f k l0 = some r) :
 Calls Try.prog 21 #[.slice A0 l0.length c0] w fun e w' => ∃ v0_ : Value, e = .returned (v0_) ∧ Kd.S (Kd.slice 5 (Kd.int .u8)) 22 w' w.heap.size (fun _ => True) v0_ r ∧ Below w.heap.size w w' := by
 have hu66 := Try.underlying66
 have HR0 := Aside0.mk hr0
 have HC0 := Aside0.mk hc0
 clear hr0 hc0
 have HB := Aside0.mk (Below.refl w.heap.size w)
 have H : ((spec_l1Cur_records.f k l0 0 0).bind fun bt102 => (some bt102.1)) = some r := h
 clear h
 replace H := Option.bind_eq_some_iff.mp H
 obtain ⟨⟨t102, t105, t106⟩, A20, H⟩ := H
 try dsimp only at H
 have A2 := Aside0.mk A20
 clear A20
 obtain rfl := Option.some.inj H
 go_enter Try.func21, Try.ntmps21
 go_wp2_with (first | ((with_reducible refine gate_dst (N := 6) rfl ?_); refine box_event ?hg (N := 6) ?hd (cs := #[.slice A0 l0.length c0, .int .i64 0, .int .u64 0]) (t := 66) ?hr ?_; (case hd => rfl); (case hg => rfl); (case hr => first | (go_simp; done) | (go_simp; rfl)); intro gb101 hg w3 hbox hb; have n0_ := Aside0.mk (below_step hbZ hb); have n1_ := Aside0.mk ((by rw [hg]; exact (below_size hbZ) : w.heap.size ≤ gb101)); have n2_ := Aside0.mk ((by rw [hg]; exact (below_size hbZ) : w.heap.size ≤ gb101)); have n3_ := Aside0.mk ((show IsS66 w w3 gb101 l0 0 0 from ⟨_, _, hbox, (by rw [hg]; exact (below_size hbZ) : w.heap.size ≤ gb101), HR0.out⟩)); clear HB; have HB := n0_; have GW101 := n1_; have GE101 := n2_; have HI101 := n3_; clear n0_ n1_ n2_ n3_; clear hb hbox hg) | ((with_reducible refine gate_callee (f := 51) rfl ?_); refine goesL_ (some 8) rfl rfl Try.func51 (by kernel_rfl) rfl #[.pointer (some ⟨gb101, 0, none⟩)] rfl zee81 ?_; (with_reducible refine (spec_l1Cur_records.calls k gb101 l0 0 0 t102 t105 t106 w _ ?side1 ?side2 A2.out).mono ?_); (case side1 => exact z1cbf); (case side2 => exact zfd03); rintro e w4 ⟨v103, rfl, ho0, hi, hb, hk⟩; refine ⟨_, rfl, ?_⟩; have n0_ := Aside0.mk (Kd.S_lower ho0 (below_size zfd03)); have n1_ := Aside0.mk hb; have n2_ := Aside0.mk hi; clear HB HI101; have HO104 := n0_; have HB := n1_; have HI101 := n2_; clear n0_ n1_ n2_; (try clear hb); (try clear hb2); (try clear hk); (try clear hi); (try clear ho0)))
 go_ret
 exact ⟨_, z674d, by (with_reducible repeat (first | apply Kd.S_alloc | apply Kd.S_drewN | apply Kd.S_drew)); exact HO104.out, zfd03⟩

end Go.Proofs.Ythliooccgclbjaa.P

-- written by a program of this session's (wip/pp)
namespace Go.Proofs.Ythliooccgclbjaa.P
open Go.RowKit Go.Proofs.YthliooccgclbjaaW.PrintWords Go.Proofs.YthliooccgclbjaaW.PrintLast Go.Proofs.YthliooccgclbjaaW.PrintMore
attribute [local go_sem] max2_int min2_int max_two min_two max_three min_three max_four min_four   -- for this text's walks alone
set_option linter.unusedVariables false
set_option linter.unusedSimpArgs false

/-! ### impl_padding: function 70 -/
def impl_padding.f (a0 : Int) : Option (Int) := if (wrap64 (64 - (Int.tmod a0 64))) < 6 then (some (wrap64 (64 - (Int.tmod a0 64)))) else (some 0)
set_option maxHeartbeats 8000000 in
set_option maxRecDepth 100000 in
theorem impl_padding.calls (a0 : Int) (r : Int) (w : World) (h : impl_padding.f a0 = some r) :
 Calls Try.prog 70 #[.int .i64 a0] w fun e w' => e = .returned (.int .i64 r) ∧ Drawn0 w w' := by
 have H : (if (wrap64 (64 - (Int.tmod a0 64))) < 6 then (some (wrap64 (64 - (Int.tmod a0 64)))) else (some 0)) = some r := h
 clear h
 by_cases c2 : (wrap64 (64 - (Int.tmod a0 64))) < 6
 · rw [if_pos c2] at H
   have c2b0 : decide ((wrap64 (64 - (Int.tmod a0 64))) < 6) = true := decide_eq_true c2
   clear c2
   obtain rfl := Option.some.inj H
   go_enter Try.func70, Try.ntmps70
   go_wp2
   go_ret
   exact ⟨z4458, za9de⟩
 · rw [if_neg c2] at H
   have c2b0 : decide ((wrap64 (64 - (Int.tmod a0 64))) < 6) = false := decide_eq_false c2
   clear c2
   obtain rfl := Option.some.inj H
   go_enter Try.func70, Try.ntmps70
   go_wp2
   go_ret
   exact ⟨z4458, za9de⟩

end Go.Proofs.Ythliooccgclbjaa.P

-- written by a program of this session's (wip/pp)
namespace Go.Proofs.Ythliooccgclbjaa.P
open Go.RowKit Go.Proofs.YthliooccgclbjaaW.PrintWords Go.Proofs.YthliooccgclbjaaW.PrintLast Go.Proofs.YthliooccgclbjaaW.PrintMore
attribute [local go_sem] max2_int min2_int max_two min_two max_three min_three max_four min_four   -- for this text's walks alone
set_option linter.unusedVariables false
set_option linter.unusedSimpArgs false

/-! ### impl_within: function 38 -/
def impl_within.f (a0 : Int) (a1 : Int) (a2 : Int) : Option (Bool) := if a0 ≥ a1 then (some (decide (a0 ≤ a2))) else (some false)
set_option maxHeartbeats 8000000 in
set_option maxRecDepth 100000 in
theorem impl_within.calls (a0 : Int) (a1 : Int) (a2 : Int) (r : Bool) (w : World) (h : impl_within.f a0 a1 a2 = some r) :
 Calls Try.prog 38 #[.int .i64 a0, .int .i64 a1, .int .i64 a2] w fun e w' => e = .returned (.bool r) ∧ Drawn0 w w' := by
 have H : (if a0 ≥ a1 then (some (decide (a0 ≤ a2))) else (some false)) = some r := h
 clear h
 by_cases c4 : a0 ≥ a1
 · rw [if_pos c4] at H
   have c4b0 : decide (a1 ≤ a0) = true := decide_eq_true c4
   clear c4
   obtain rfl := Option.some.inj H
   go_enter Try.func38, Try.ntmps38
   go_wp2
   go_ret
   exact ⟨z4458, za9de⟩
 · rw [if_neg c4] at H
   have c4b0 : decide (a1 ≤ a0) = false := decide_eq_false c4
   clear c4
   obtain rfl := Option.some.inj H
   go_enter Try.func38, Try.ntmps38
   go_wp2
   go_ret
   exact ⟨z4458, za9de⟩

end Go.Proofs.Ythliooccgclbjaa.P

-- written by a program of this session's (wip/pp)
namespace Go.Proofs.Ythliooccgclbjaa.P
open Go.RowKit Go.Proofs.YthliooccgclbjaaW.PrintWords Go.Proofs.YthliooccgclbjaaW.PrintLast Go.Proofs.YthliooccgclbjaaW.PrintMore
attribute [local go_sem] max2_int min2_int max_two min_two max_three min_three max_four min_four   -- for this text's walks alone
set_option linter.unusedVariables false
set_option linter.unusedSimpArgs false

/-! ### impl_PutFixed: function 12 -/
mutual
def impl_PutFixed.j0 : Nat → Int → Int → Bool → Option (List Int × Bool)
 | 0, _, _, _ => none
 | k + 1, x0, x1, x25 => if x25 = true then (some (([] : List Int), false)) else (if 0 ≤ x1 then (if (x1 : Int).toNat ≤ 281474976710656 then (impl_PutFixed.l0 k x0 (List.replicate (x1 : Int).toNat 0) (wrap64 (x1 - 1))) else (none)) else (none))
def impl_PutFixed.l0 : Nat → Int → List Int → Int → Option (List Int × Bool)
 | 0, _, _, _ => none
 | k + 1, x0, x6, x7 => if x7 ≥ 0 then (if 0 ≤ x7 then (if x7 < (x6.length : Int) then (impl_PutFixed.l0 k (x0 / 256) (x6.set (x7 : Int).toNat ((x0) % 256)) (wrap64 (x7 - 1))) else (none)) else (none)) else (some (x6, true))
end
def impl_PutFixed.f (k : Nat) (a0 : Int) (a1 : Int) : Option (List Int × Bool) := if a0 < 0 then (impl_PutFixed.j0 k a0 a1 true) else ((impl_within.f a1 1 8).bind fun t101 => (if t101 = true then (if a1 < 8 then (if 0 ≤ (wrap64 (8 * a1)) then (impl_PutFixed.j0 k a0 a1 ((shr .i64 a0 (wrap64 (8 * a1))) != 0)) else (none)) else (impl_PutFixed.j0 k a0 a1 false)) else (impl_PutFixed.j0 k a0 a1 true)))
theorem impl_PutFixed.mono_l : ∀ k, (∀ y0 y1 y2, LeO (impl_PutFixed.j0 k y0 y1 y2) (impl_PutFixed.j0 (k + 1) y0 y1 y2)) ∧ (∀ y0 y1 y2, LeO (impl_PutFixed.l0 k y0 y1 y2) (impl_PutFixed.l0 (k + 1) y0 y1 y2))
 | 0 => ⟨fun _ _ _ r h => by simp [impl_PutFixed.j0] at h, fun _ _ _ r h => by simp [impl_PutFixed.l0] at h⟩
 | k + 1 => by
  obtain ⟨ih0, ih1⟩ := impl_PutFixed.mono_l k
  refine ⟨?_, ?_⟩
  · intro y0 y1 y2
    unfold impl_PutFixed.j0
    repeat' first
     | (with_reducible first | exact ih0 .. | exact ih1 .. | exact LeO.refl _ | exact LeO.none _ | refine LeO.ite ?_ ?_ | refine LeO.bind ?_ (fun _ => ?_))
     | exact LeO.none _
     | refine LeO.ite ?_ ?_
     | refine LeO.bind ?_ (fun _ => ?_)
  · intro y0 y1 y2
    unfold impl_PutFixed.l0
    repeat' first
     | (with_reducible first | exact ih0 .. | exact ih1 .. | exact LeO.refl _ | exact LeO.none _ | refine LeO.ite ?_ ?_ | refine LeO.bind ?_ (fun _ => ?_))
     | exact LeO.none _
     | refine LeO.ite ?_ ?_
     | refine LeO.bind ?_ (fun _ => ?_)
theorem impl_PutFixed.mono : ∀ a0 a1 k, LeO (impl_PutFixed.f k a0 a1) (impl_PutFixed.f (k + 1) a0 a1) := by
 intro a0 a1 k
 obtain ⟨ih0, ih1⟩ := impl_PutFixed.mono_l k
 unfold impl_PutFixed.f
 repeat' first
  | (with_reducible first | exact ih0 .. | exact ih1 .. | exact LeO.refl _ | exact LeO.none _ | refine LeO.ite ?_ ?_ | refine LeO.bind ?_ (fun _ => ?_))
  | exact LeO.none _
  | refine LeO.ite ?_ ?_
  | refine LeO.bind ?_ (fun _ => ?_)
set_option maxHeartbeats 8000000 in
set_option maxRecDepth 100000 in
theorem impl_PutFixed.calls (k : Nat) (a0 : Int) (a1 : Int) (r1 : List Int) (r2 : Bool) (w : World) (h : impl_PutFixed.f k a0 a1 = some (r1, r2)) :
 Calls Try.prog 12 #[.int .i64 a0, .int .i64 a1] w fun e w' => ∃ v0_ : Value, e = .returned (.tuple #[v0_, .bool r2]) ∧ Kd.R (Kd.int .u8) 5 w' w.heap.size (fun _ => True) v0_ r1 ∧ Below w.heap.size w w' := by
 have HB := Aside0.mk (Below.refl w.heap.size w)
 have H : (if a0 < 0 then (impl_PutFixed.j0 k a0 a1 true) else ((impl_within.f a1 1 8).bind fun t101 => (if t101 = true then (if a1 < 8 then (if 0 ≤ (wrap64 (8 * a1)) then (impl_PutFixed.j0 k a0 a1 ((shr .i64 a0 (wrap64 (8 * a1))) != 0)) else (none)) else (impl_PutFixed.j0 k a0 a1 false)) else (impl_PutFixed.j0 k a0 a1 true)))) = some (r1, r2) := h
 clear h
 have HC3 := Aside0.mk H
 clear H
 go_enter Try.func12, Try.ntmps12
 go_upto_region 1 with (fail)
 go_cut [25] (fun v25 wc => ∃ (kq : Nat) (x25_2 : Bool), v25 = .bool x25_2 ∧ Aside0 (impl_PutFixed.j0 kq a0 a1 x25_2 = some (r1, r2)) ∧ Aside0 (kq ≤ k) ∧ Aside0 (Below w.heap.size w wc))
 case first =>
  have H := HC3.out
  clear HC3
  by_cases c4 : a0 < 0
  · rw [if_pos c4] at H
    have c4b0 : decide (a0 < 0) = true := decide_eq_true c4
    clear c4
    (first | rw [c4b0] | (simp only [i64_w, i32_w]; rw [c4b0]) | skip)
    have H' := Aside0.mk H
    clear H
    go_wp2
    go_meet
    case rel => exact ⟨_, (true), z4458, H', ⟨zb79b⟩, ⟨z5acd⟩⟩
  · rw [if_neg c4] at H
    have c4b0 : decide (a0 < 0) = false := decide_eq_false c4
    clear c4
    (first | rw [c4b0] | (simp only [i64_w, i32_w]; rw [c4b0]) | skip)
    replace H := Option.bind_eq_some_iff.mp H
    obtain ⟨t101, A50, H⟩ := H
    try dsimp only at H
    have A5 := Aside0.mk A50
    clear A50
    by_cases c6 : t101 = true
    · subst c6
      have H1 : (if a1 < 8 then (if 0 ≤ (wrap64 (8 * a1)) then (impl_PutFixed.j0 k a0 a1 ((shr .i64 a0 (wrap64 (8 * a1))) != 0)) else (none)) else (impl_PutFixed.j0 k a0 a1 false)) = some (r1, r2) := by rw [if_pos rfl] at H; exact H
      clear H
      have H := H1
      clear H1
      by_cases c7 : a1 < 8
      · rw [if_pos c7] at H
        have c7b0 : decide (a1 < 8) = true := decide_eq_true c7
        clear c7
        obtain ⟨ji8, hji8⟩ : ∃ j_ : Int, (wrap64 (8 * a1)) = j_ := ⟨_, rfl⟩
        replace H : (if 0 ≤ (ji8) then (impl_PutFixed.j0 k a0 a1 ((shr .i64 a0 (ji8)) != 0)) else (none)) = some (r1, r2) := by first | (rw [hji8] at H; exact H) | (simp only [hji8] at H ⊢; exact H)
        (try rw [hji8] at A5)
        have hji8w : (IntKind.i64.wrap (8 * a1)) = ji8 := (i64_w _).trans hji8
        by_cases c9 : 0 ≤ (ji8)
        · rw [if_pos c9] at H
          have c9b0 := eq_true c9
          have c9b1 : decide (0 ≤ (ji8)) = true := decide_eq_true c9
          clear c9
          obtain ⟨ji10, hji10⟩ : ∃ j_ : Int, (shr .i64 a0 (ji8)) = j_ := ⟨_, rfl⟩
          replace H : (impl_PutFixed.j0 k a0 a1 ((ji10) != 0)) = some (r1, r2) := by first | (rw [hji10] at H; exact H) | (simp only [hji10] at H ⊢; exact H)
          (try rw [hji10] at A5)
          have hji10_ : (a0 / 2 ^ min (ji8).toNat 64) = ji10 := hji10
          have hji10z : (ji8) ≤ 64 → (a0 / 2 ^ (ji8).toNat) = ji10 := shr_small hji10
          have H' := Aside0.mk H
          clear H
          go_wp2_with (first | (go_at_call 38; (with_reducible refine (impl_within.calls a1 1 8 true _ A5.out).mono ?_); rintro e w' ⟨rfl, ⟨nd, rfl⟩⟩))
          go_meet
          case rel => exact ⟨_, (((ji10) != 0)), (by first | rfl | (simp; done) | (simp only [← hji10] <;> (first | rfl | (simp; done))) | (simp [*]; done)), H', ⟨zb79b⟩, ⟨z5acd⟩⟩
        · rw [if_neg c9] at H
          exact absurd H (by simp)
      · rw [if_neg c7] at H
        have c7b0 : decide (a1 < 8) = false := decide_eq_false c7
        clear c7
        have H' := Aside0.mk H
        clear H
        go_wp2_with (first | (go_at_call 38; (with_reducible refine (impl_within.calls a1 1 8 true _ A5.out).mono ?_); rintro e w' ⟨rfl, ⟨nd, rfl⟩⟩))
        go_meet
        case rel => exact ⟨_, (false), z4458, H', ⟨zb79b⟩, ⟨z5acd⟩⟩
    · replace c6 := Bool.eq_false_iff.mpr c6
      subst c6
      have H1 : (impl_PutFixed.j0 k a0 a1 true) = some (r1, r2) := by rw [if_neg (show ¬ (false = true) by decide)] at H; exact H
      clear H
      have H := H1
      clear H1
      have H' := Aside0.mk H
      clear H
      go_wp2_with (first | (go_at_call 38; (with_reducible refine (impl_within.calls a1 1 8 false _ A5.out).mono ?_); rintro e w' ⟨rfl, ⟨nd, rfl⟩⟩))
      go_meet
      case rel => exact ⟨_, (true), z4458, H', ⟨zb79b⟩, ⟨z5acd⟩⟩
 case rest =>
  clear HC3
  try clear c1
  try clear p2
  try clear c4
  try clear c4b0
  try clear c6
  try clear p6
  try clear c7
  try clear c7b0
  try clear c9
  try clear c9b0
  try clear c9b1
  obtain ⟨kq, x25_2, rfl, HA, HJ2, HB⟩ := hcut
  cases kq with
  | zero => exact absurd HA.out (by simp [impl_PutFixed.j0])
  | succ kj2 =>
   have H := HA.out
   clear HA
   simp only [impl_PutFixed.j0] at H
   by_cases c11 : x25_2 = true
   · subst c11
     have H1 : (some (([] : List Int), false)) = some (r1, r2) := by rw [if_pos rfl] at H; exact H
     clear H
     have H := H1
     clear H1
     simp only [Option.some.injEq, Prod.mk.injEq] at H
     obtain ⟨rfl, rfl⟩ := H
     go_wp2
     go_ret2
     exact ⟨_, z674d, z02fa, z5acd⟩
   · replace c11 := Bool.eq_false_iff.mpr c11
     subst c11
     have H1 : (if 0 ≤ a1 then (if (a1 : Int).toNat ≤ 281474976710656 then (impl_PutFixed.l0 kj2 a0 (List.replicate (a1 : Int).toNat 0) (wrap64 (a1 - 1))) else (none)) else (none)) = some (r1, r2) := by rw [if_neg (show ¬ (false = true) by decide)] at H; exact H
     clear H
     have H := H1
     clear H1
     by_cases c12 : 0 ≤ a1
     · rw [if_pos c12] at H
       have c12b0 := eq_true c12
       have c12b1 : decide (0 ≤ a1) = true := decide_eq_true c12
       clear c12
       by_cases c13 : (a1 : Int).toNat ≤ 281474976710656
       · rw [if_pos c13] at H
         have c13b0 := eq_true c13
         have c13b1 : decide ((a1 : Int).toNat ≤ 281474976710656) = true := decide_eq_true c13
         clear c13
         obtain ⟨y102, hy102⟩ : ∃ y_ : List Int, y_ = (List.replicate (a1 : Int).toNat 0) := ⟨_, rfl⟩
         replace H : (impl_PutFixed.l0 kj2 a0 y102 (wrap64 (a1 - 1))) = some (r1, r2) := by first | (rw [hy102]; with_reducible exact H) | (have H2_ := (Option.bind_some _ _).symm.trans H; rw [hy102]; with_reducible exact H2_) | (have H2_ := (Option.bind_some _ _).symm.trans H; with_reducible exact H2_) | with_reducible exact H | (rw [hy102]; exact H) | exact H
         have Ny102 := Aside0.mk hy102
         clear hy102
         have H' := Aside0.mk H
         clear H
         go_wp2_with (first | ((with_reducible refine gate_dst (N := 27) rfl ?_); refine Kd.R_make (Kd.int .u8) _ 5 rfl (N := 27) rfl 22 _ _ rfl a1 rfl rfl Try.underlying22 (.int .u8 0) 1 info5 rfl (by decide) (by omega) 0 (ok := fun _ => True) (okp := fun _ => True) rfl (fun _ hk => hk) trivial (of_decide_eq_true z1200) (Nat.le_trans (Nat.mul_le_mul_right _ (of_decide_eq_true z1200 : a1.toNat ≤ 281474976710656)) (by omega)) (Below.refl _ _) (Nat.le_refl _) ?_; intro v103 w14 ho15 hb hg_ hnew_; clear hg_ hnew_; (first | rw [← Ny102.out] at ho15 | (simp only [Int.reduceToNat] at ho15; rw [← Ny102.out] at ho15)); have n0_ := Aside0.mk (Kd.R_lower ho15 (below_size hbZ)); have n1_ := Aside0.mk (below_step hbZ hb); clear HB; have HO104 := n0_; have HB := n1_; clear n0_ n1_; clear hb ho15))
         go_loopg [0, 7] kj2 (fun kq v0 v7 w' => ∃ (x0_2 : Int) (x6_2 : List Int) (x7_2 : Int), v0 = .int .i64 x0_2 ∧ v7 = .int .i64 x7_2 ∧ Aside0 (impl_PutFixed.l0 kq x0_2 x6_2 x7_2 = some (r1, r2)) ∧ Aside0 (kq ≤ kj2) ∧ Aside0 (Kd.R (Kd.int .u8) 5 w' w.heap.size (fun _ => True) v103 x6_2) ∧ Aside0 (Below w.heap.size w w'))
         case atStart => exact ⟨(a0), (y102), (wrap64 (a1 - 1)), z4458, z4458, H', ⟨Nat.le_refl _⟩, ⟨rZ HO104.out⟩, ⟨z5acd⟩⟩
         case round =>
          clear H'
          try clear c1
          try clear p2
          try clear c4
          try clear c4b0
          try clear c6
          try clear p6
          try clear c7
          try clear c7b0
          try clear c9
          try clear c9b0
          try clear c9b1
          try clear c11
          try clear c12
          try clear c12b0
          try clear c12b1
          try clear c13
          try clear c13b0
          try clear c13b1
          try clear p2
          try clear p6
          obtain ⟨x0_2, x6_2, x7_2, rfl, rfl, HA, HK2, HO_6, HB⟩ := hrel
          cases gk with
          | zero => exact absurd HA.out (by simp [impl_PutFixed.l0])
          | succ k2 =>
           have H := HA.out
           clear HA
           simp only [impl_PutFixed.l0] at H
           by_cases c16 : x7_2 ≥ 0
           · rw [if_pos c16] at H
             have c16b0 : decide (0 ≤ x7_2) = true := decide_eq_true c16
             clear c16
             by_cases c17 : 0 ≤ x7_2
             · rw [if_pos c17] at H
               have c17b0 : decide (0 ≤ x7_2) = true := decide_eq_true c17
               clear c17
               by_cases c18 : x7_2 < (x6_2.length : Int)
               · rw [if_pos c18] at H
                 have c18b0 : decide (x7_2 < (x6_2.length : Int)) = true := decide_eq_true c18
                 clear c18
                 obtain ⟨y105, hy105⟩ : ∃ y_ : List Int, y_ = (x6_2.set (x7_2 : Int).toNat ((x0_2) % 256)) := ⟨_, rfl⟩
                 replace H : (impl_PutFixed.l0 k2 (x0_2 / 256) y105 (wrap64 (x7_2 - 1))) = some (r1, r2) := by first | (rw [hy105]; with_reducible exact H) | (have H2_ := (Option.bind_some _ _).symm.trans H; rw [hy105]; with_reducible exact H2_) | (have H2_ := (Option.bind_some _ _).symm.trans H; with_reducible exact H2_) | with_reducible exact H | (rw [hy105]; exact H) | exact H
                 have Ny105 := Aside0.mk hy105
                 clear hy105
                 have H' := Aside0.mk H
                 clear H
                 have p19 : 0 ≤ (x7_2 : Int) := of_decide_eq_true z1200
                 have q19 : (x7_2 : Int) < ((x6_2.length : Int) : Int) := of_decide_eq_true z1200
                 obtain ⟨go19, co19, eo19, gb19, gl19, cl19, HG19⟩ := Kd.R_form HO_6.out (by omega)
                 (first | cases eo19 | (injection eo19 with ea_ en_ ec_; (first | subst ea_ | (injection ea_ with ea_; subst ea_)); subst ec_; clear en_))
                 have GB19 := Aside0.mk gb19
                 have GG19 := Aside0.mk HG19
                 clear gb19 gl19 HG19
                 obtain ⟨hx19_0, hf19_0⟩ := Kd.R_celln 0 HO_6.out (x7_2 : Int) p19 q19
                 replace p19 := eq_true p19
                 replace q19 := eq_true q19
                 have HP20 := Kd.R_putg HO_6.out (x7_2 : Int) ((x0_2) % 256)
                 go_wp2_with (first | ((with_reducible refine gate_store (t := 5) (p := 38) rfl ?_); refine store_event (t := 5) (p := 38) (v := ?vo_w21) (w1 := (wr.setCell ⟨go19, (x7_2 : Int).toNat, none⟩ (.int .u8 ((x0_2) % 256)))) ?hg ?ho ?hn ?hr ?_; (case ho => rfl); (case hg => rfl); (case hn => rfl); (case hr => first | (go_simp; done) | (go_simp; rfl)); intro w21 hw; have hg : wr.grownBy w21 (some go19) := (by rw [hw]; exact HP20.2); have hp_ : Kd.R (Kd.int .u8) 5 w21 w.heap.size (fun _ => True) (.slice (some ⟨go19, 0, none⟩) x6_2.length co19) y105 := (by rw [hw, Ny105.out]; exact HP20.1); clear HP20; have n0_ := Aside0.mk hp_; have n1_ := Aside0.mk ((by rw [hw]; exact below_set (HB.out) GB19.out : Below w.heap.size w w21)); clear HO_6 HB; have HO_6 := n0_; have HB := n1_; clear n0_ n1_; clear hg hw hp_))
                 go_roundg k2
                 case measure => have := HJ2.out; have := HK2.out; omega
                 case rel => exact ⟨(x0_2 / 256), (y105), (wrap64 (x7_2 - 1)), z4458, z4458, H', ⟨by have := HJ2.out; have := HK2.out; omega⟩, ⟨rZ HO_6.out⟩, ⟨z5acd⟩⟩
               · rw [if_neg c18] at H
                 exact absurd H (by simp)
             · rw [if_neg c17] at H
               exact absurd H (by simp)
           · rw [if_neg c16] at H
             have c16b0 : decide (0 ≤ x7_2) = false := decide_eq_false c16
             clear c16
             simp only [Option.some.injEq, Prod.mk.injEq] at H
             obtain ⟨rfl, rfl⟩ := H
             go_wp2
             go_ret2
             exact ⟨_, z674d, rZ HO_6.out, z5acd⟩
       · rw [if_neg c13] at H
         exact absurd H (by simp)
     · rw [if_neg c12] at H
       exact absurd H (by simp)

end Go.Proofs.Ythliooccgclbjaa.P

-- written by a program of this session's (wip/pp)
namespace Go.Proofs.Ythliooccgclbjaa.P
open Go.RowKit Go.Proofs.YthliooccgclbjaaW.PrintWords Go.Proofs.YthliooccgclbjaaW.PrintLast Go.Proofs.YthliooccgclbjaaW.PrintMore
attribute [local go_sem] max2_int min2_int max_two min_two max_three min_three max_four min_four   -- for this text's walks alone
set_option linter.unusedVariables false
set_option linter.unusedSimpArgs false

/-! ### impl_Crc32c: function 84 -/
mutual
def impl_Crc32c.l0 : Nat → Int → List Int → Int → Int → Option (Int)
 | 0, _, _, _, _ => none
 | k + 1, x3, x7, x8, x9 => if x9 < x8 then (if 0 ≤ x9 then (if x9 < (x7.length : Int) then (impl_Crc32c.l1 k (Go.bits .xor .u32 x3 ((rd x7 x9) % 4294967296)) x7 x8 x9 0) else (none)) else (none)) else (some (Go.bits .xor .u32 4294967295 x3))
def impl_Crc32c.l1 : Nat → Int → List Int → Int → Int → Int → Option (Int)
 | 0, _, _, _, _, _ => none
 | k + 1, x3, x7, x8, x9, x17 => if x17 < 8 then (if (Go.bits .and .u32 x3 1) = 1 then (impl_Crc32c.l1 k (Go.bits .xor .u32 (x3 / 2) 2197175160) x7 x8 x9 (wrap64 (x17 + 1))) else (impl_Crc32c.l1 k (x3 / 2) x7 x8 x9 (wrap64 (x17 + 1)))) else (impl_Crc32c.l0 k x3 x7 x8 (wrap64 (x9 + 1)))
end
def impl_Crc32c.f (k : Nat) (l0 : List Int) : Option (Int) := impl_Crc32c.l0 k 4294967295 l0 (l0.length : Int) 0
theorem impl_Crc32c.mono_l : ∀ k, (∀ y0 y1 y2 y3, LeO (impl_Crc32c.l0 k y0 y1 y2 y3) (impl_Crc32c.l0 (k + 1) y0 y1 y2 y3)) ∧ (∀ y0 y1 y2 y3 y4, LeO (impl_Crc32c.l1 k y0 y1 y2 y3 y4) (impl_Crc32c.l1 (k + 1) y0 y1 y2 y3 y4))
 | 0 => ⟨fun _ _ _ _ r h => by simp [impl_Crc32c.l0] at h, fun _ _ _ _ _ r h => by simp [impl_Crc32c.l1] at h⟩
 | k + 1 => by
  obtain ⟨ih0, ih1⟩ := impl_Crc32c.mono_l k
  refine ⟨?_, ?_⟩
  · intro y0 y1 y2 y3
    unfold impl_Crc32c.l0
    repeat' first
     | (with_reducible first | exact ih0 .. | exact ih1 .. | exact LeO.refl _ | exact LeO.none _ | refine LeO.ite ?_ ?_ | refine LeO.bind ?_ (fun _ => ?_))
     | exact LeO.none _
     | refine LeO.ite ?_ ?_
     | refine LeO.bind ?_ (fun _ => ?_)
  · intro y0 y1 y2 y3 y4
    unfold impl_Crc32c.l1
    repeat' first
     | (with_reducible first | exact ih0 .. | exact ih1 .. | exact LeO.refl _ | exact LeO.none _ | refine LeO.ite ?_ ?_ | refine LeO.bind ?_ (fun _ => ?_))
     | exact LeO.none _
     | refine LeO.ite ?_ ?_
     | refine LeO.bind ?_ (fun _ => ?_)
theorem impl_Crc32c.mono : ∀ a0 k, LeO (impl_Crc32c.f k a0) (impl_Crc32c.f (k + 1) a0) := by
 intro a0 k
 obtain ⟨ih0, ih1⟩ := impl_Crc32c.mono_l k
 unfold impl_Crc32c.f
 repeat' first
  | (with_reducible first | exact ih0 .. | exact ih1 .. | exact LeO.refl _ | exact LeO.none _ | refine LeO.ite ?_ ?_ | refine LeO.bind ?_ (fun _ => ?_))
  | exact LeO.none _
  | refine LeO.ite ?_ ?_
  | refine LeO.bind ?_ (fun _ => ?_)
set_option maxHeartbeats 8000000 in
set_option maxRecDepth 100000 in
theorem impl_Crc32c.calls (k : Nat) (A0 : Option Addr) (c0 : Nat) (l0 : List Int) (r : Int) (w : World) (hr0 : Kd.C (Kd.int .u8) w A0 l0.length l0) (hc0 : l0.length ≤ c0) (h : impl_Crc32c.f k l0 = some r) :
 Calls Try.prog 84 #[.slice A0 l0.length c0] w fun e w' => e = .returned (.int .u32 r) ∧ Drawn0 w w' := by
 have HR0 := Aside0.mk hr0
 have HC0 := Aside0.mk hc0
 clear hr0 hc0
 have H : (impl_Crc32c.l0 k 4294967295 l0 (l0.length : Int) 0) = some r := h
 clear h
 have H' := Aside0.mk H
 clear H
 go_enter Try.func84, Try.ntmps84
 go_wp2
 go_loopg [3, 9] k (fun kq v3 v9 w' => ∃ (x3_1 : Int) (x9_1 : Int), v3 = .int .u32 x3_1 ∧ v9 = .int .i64 x9_1 ∧ Aside0 (impl_Crc32c.l0 kq x3_1 l0 (l0.length : Int) x9_1 = some r) ∧ Aside0 (kq ≤ k) ∧ Drawn0 w w')
 case atStart => exact ⟨(4294967295), (0), z4458, z4458, H', ⟨Nat.le_refl _⟩, za9de⟩
 case round =>
  clear H'
  obtain ⟨x3_1, x9_1, rfl, rfl, HA, HK1, ⟨m1, rfl⟩⟩ := hrel
  cases gk with
  | zero => exact absurd HA.out (by simp [impl_Crc32c.l0])
  | succ k1 =>
   have H := HA.out
   clear HA
   simp only [impl_Crc32c.l0] at H
   by_cases c2 : x9_1 < (l0.length : Int)
   · rw [if_pos c2] at H
     have c2b0 : decide (x9_1 < (l0.length : Int)) = true := decide_eq_true c2
     clear c2
     by_cases c3 : 0 ≤ x9_1
     · rw [if_pos c3] at H
       have c3b0 : decide (0 ≤ x9_1) = true := decide_eq_true c3
       clear c3
       by_cases c4 : x9_1 < (l0.length : Int)
       · rw [if_pos c4] at H
         have c4b0 : decide (x9_1 < (l0.length : Int)) = true := decide_eq_true c4
         clear c4
         have H' := Aside0.mk H
         clear H
         have p101 : 0 ≤ (x9_1 : Int) := of_decide_eq_true z1200
         have q101 : x9_1 < (l0.length : Int) := of_decide_eq_true z1200
         obtain ⟨ad101, e101, hx101_0⟩ := Kd.at_int HR0.out x9_1 p101 q101
         cases e101
         replace p101 := eq_true p101
         replace q101 := eq_true q101
         go_wp2
         go_loopg [3, 17] k1 (fun kq v3 v17 w' => ∃ (x3_2 : Int) (x17_2 : Int), v3 = .int .u32 x3_2 ∧ v17 = .int .i64 x17_2 ∧ Aside0 (impl_Crc32c.l1 kq x3_2 l0 (l0.length : Int) x9_1 x17_2 = some r) ∧ Aside0 (kq ≤ k1) ∧ Drawn0 w w')
         case atStart => exact ⟨(Go.bits .xor .u32 x3_1 ((rd l0 x9_1) % 4294967296)), (0), z4458, z4458, H', ⟨Nat.le_refl _⟩, za9de⟩
         case round =>
          clear H'
          try clear p1
          try clear q1
          try clear hx1
          try clear c2
          try clear c2b0
          try clear p2
          try clear c3
          try clear c3b0
          try clear c4
          try clear c4b0
          try clear hx101_0
          try clear p101
          try clear q101
          obtain ⟨x3_2, x17_2, rfl, rfl, HA, HK2, ⟨m2, rfl⟩⟩ := hrel
          cases gk with
          | zero => exact absurd HA.out (by simp [impl_Crc32c.l1])
          | succ k2 =>
           have H := HA.out
           clear HA
           simp only [impl_Crc32c.l1] at H
           by_cases c5 : x17_2 < 8
           · rw [if_pos c5] at H
             have c5b0 : decide (x17_2 < 8) = true := decide_eq_true c5
             clear c5
             by_cases c6 : (Go.bits .and .u32 x3_2 1) = 1
             · rw [if_pos c6] at H
               have c6b0 : ((Go.bits .and .u32 x3_2 1) == 1) = true := beq_iff_eq.mpr c6
               have c6b1 : ((Go.bits .and .u32 x3_2 1) != 1) = false := bne_eq_false_iff_eq.mpr c6
               clear c6
               have H' := Aside0.mk H
               clear H
               go_wp2
               go_roundg k2
               case measure => have := HK1.out; have := HK2.out; omega
               case rel => exact ⟨(Go.bits .xor .u32 (x3_2 / 2) 2197175160), (wrap64 (x17_2 + 1)), z4458, z4458, H', ⟨zc2be⟩, za9de⟩
             · rw [if_neg c6] at H
               have c6b0 : ((Go.bits .and .u32 x3_2 1) == 1) = false := beq_eq_false_iff_ne.mpr c6
               have c6b1 : ((Go.bits .and .u32 x3_2 1) != 1) = true := bne_iff_ne.mpr c6
               have H' := Aside0.mk H
               clear H
               go_wp2
               go_roundg k2
               case measure => have := HK1.out; have := HK2.out; omega
               case rel => exact ⟨(x3_2 / 2), (wrap64 (x17_2 + 1)), z4458, z4458, H', ⟨zc2be⟩, za9de⟩
           · rw [if_neg c5] at H
             have c5b0 : decide (x17_2 < 8) = false := decide_eq_false c5
             clear c5
             have H' := Aside0.mk H
             clear H
             go_wp2
             go_roundg k2
             case measure => have := HK1.out; have := HK2.out; omega
             case rel => exact ⟨(x3_2), (wrap64 (x9_1 + 1)), z4458, z4458, H', ⟨zc2be⟩, za9de⟩
       · rw [if_neg c4] at H
         exact absurd H (by simp)
     · rw [if_neg c3] at H
       exact absurd H (by simp)
   · rw [if_neg c2] at H
     have c2b0 : decide (x9_1 < (l0.length : Int)) = false := decide_eq_false c2
     clear c2
     obtain rfl := Option.some.inj H
     go_wp2
     go_ret
     exact ⟨z4458, za9de⟩

end Go.Proofs.Ythliooccgclbjaa.P

-- written by a program of this session's (wip/pp)
namespace Go.Proofs.Ythliooccgclbjaa.P
open Go.RowKit Go.Proofs.YthliooccgclbjaaW.PrintWords Go.Proofs.YthliooccgclbjaaW.PrintLast Go.Proofs.YthliooccgclbjaaW.PrintMore
attribute [local go_sem] max2_int min2_int max_two min_two max_three min_three max_four min_four   -- for this text's walks alone
set_option linter.unusedVariables false
set_option linter.unusedSimpArgs false

/-! ### impl_check: function 71 -/
def impl_check.f (k : Nat) (a0 : Int) (l1 : List Int) : Option (List Int) := (some (([a0] : List Int) : List Int)).bind fun y101 => (if y101.length + l1.length < 140737488355328 then ((impl_Crc32c.f k (y101 ++ l1)).bind fun t107 => ((impl_PutFixed.f k (wrap64 (t107)) 4).bind fun bt108 => (some bt108.1))) else (none))
theorem impl_check.mono : ∀ a0 a1 k, LeO (impl_check.f k a0 a1) (impl_check.f (k + 1) a0 a1) := by
 intro a0 a1 k
 unfold impl_check.f
 repeat' first
  | (with_reducible first | exact impl_Crc32c.mono .. | exact impl_PutFixed.mono .. | exact LeO.refl _ | exact LeO.none _ | refine LeO.ite ?_ ?_ | refine LeO.bind ?_ (fun _ => ?_))
  | exact LeO.none _
  | refine LeO.ite ?_ ?_
  | refine LeO.bind ?_ (fun _ => ?_)
set_option maxHeartbeats 8000000 in
set_option maxRecDepth 100000 in
theorem impl_check.calls (k : Nat) (a0 : Int) (A1 : Option Addr) (c1 : Nat) (l1 : List Int) (r : List Int) (w : World) (hr1 : Kd.C (Kd.int .u8) w A1 l1.length l1) (hc1 : l1.length ≤ c1) (h : impl_check.f k a0 l1 = some r) :
 Calls Try.prog 71 #[.int .u8 a0, .slice A1 l1.length c1] w fun e w' => ∃ v0_ : Value, e = .returned (v0_) ∧ Kd.R (Kd.int .u8) 5 w' w.heap.size (fun _ => True) v0_ r ∧ Below w.heap.size w w' := by
 have HR1 := Aside0.mk hr1
 have HC1 := Aside0.mk hc1
 clear hr1 hc1
 have HB := Aside0.mk (Below.refl w.heap.size w)
 have H : ((some (([a0] : List Int) : List Int)).bind fun y101 => (if y101.length + l1.length < 140737488355328 then ((impl_Crc32c.f k (y101 ++ l1)).bind fun t107 => ((impl_PutFixed.f k (wrap64 (t107)) 4).bind fun bt108 => (some bt108.1))) else (none))) = some r := h
 clear h
 obtain ⟨y101, hy101⟩ : ∃ y_ : List Int, y_ = (([a0] : List Int)) := ⟨_, rfl⟩
 replace H : (if y101.length + l1.length < 140737488355328 then ((impl_Crc32c.f k (y101 ++ l1)).bind fun t107 => ((impl_PutFixed.f k (wrap64 (t107)) 4).bind fun bt108 => (some bt108.1))) else (none)) = some r := by first | (rw [hy101]; with_reducible exact H) | (have H2_ := (Option.bind_some _ _).symm.trans H; rw [hy101]; with_reducible exact H2_) | (have H2_ := (Option.bind_some _ _).symm.trans H; with_reducible exact H2_) | with_reducible exact H | (rw [hy101]; exact H) | exact H
 have Ny101 := Aside0.mk hy101
 clear hy101
 by_cases c3 : y101.length + l1.length < 140737488355328
 · rw [if_pos c3] at H
   have LMc3 := Aside0.mk c3
   clear c3
   obtain ⟨y104, hy104⟩ : ∃ y_ : List Int, y_ = (y101 ++ l1) := ⟨_, rfl⟩
   replace H : ((impl_Crc32c.f k y104).bind fun t107 => ((impl_PutFixed.f k (wrap64 (t107)) 4).bind fun bt108 => (some bt108.1))) = some r := by first | (rw [hy104]; with_reducible exact H) | (have H2_ := (Option.bind_some _ _).symm.trans H; rw [hy104]; with_reducible exact H2_) | (have H2_ := (Option.bind_some _ _).symm.trans H; with_reducible exact H2_) | with_reducible exact H | (rw [hy104]; exact H) | exact H
   have Ny104 := Aside0.mk hy104
   clear hy104
   replace H := Option.bind_eq_some_iff.mp H
   obtain ⟨t107, A40, H⟩ := H
   try dsimp only at H
   have A4 := Aside0.mk A40
   clear A40
   replace H := Option.bind_eq_some_iff.mp H
   obtain ⟨⟨t108, t109⟩, A50, H⟩ := H
   try dsimp only at H
   have A5 := Aside0.mk A50
   clear A50
   obtain rfl := Option.some.inj H
   go_enter Try.func71, Try.ntmps71
   go_wp2_with (first | ((with_reducible refine gate_dst (N := 9) rfl ?_); refine Kd.R_lit (Kd.int .u8) _ 5 ?hg (N := 9) ?hd (xs := ([a0] : List Int)) (inner := [.int .u8 a0]) (ok := fun _ => True) (okp := fun _ => True) ?hr ?hp (fun _ hk => hk) trivial (Below.refl _ _) (Nat.le_refl _) (by simp) ?_; (case hd => rfl); (case hg => rfl); (case hr => first | (go_simp; done) | (go_simp; rfl)); (case hp => exact (Reps.one (show Kd.M (Kd.int .u8) _ _ _ a0 [.int .u8 a0] from rfl) (Reps.none _ _))); intro v102 w6 ho7 hb hg_ hnew_; clear hg_ hnew_; (first | rw [← Ny101.out] at ho7 | (simp only [Int.reduceToNat] at ho7; rw [← Ny101.out] at ho7)); have n0_ := Aside0.mk (Kd.R_lower ho7 (below_size hbZ)); have n1_ := Aside0.mk (below_step hbZ hb); clear HB; have HO103 := n0_; have HB := n1_; clear n0_ n1_; clear hb ho7) | ((with_reducible refine gate_builtin (b := .append) (xs := #[.tmp 9, .tmp 10]) rfl ?_); at_builtin; refine Kd.R_append_rows (Kd.int .u8) (w0 := w) w.heap.size rfl (.tmp 9) (.tmp 10) 22 5 (.int .u8 0) 1 rfl Try.underlying22 info5 rfl (by decide) (by omega) v102 y101 l1 _ _ _ (fun _ => True) (fun _ => False) rfl rfl ?aO ?aR (fun _ _ h => h) (fun _ h => h.elim) ?aF ?aB ?aS ?aL ?_; (case aR => repeat (first | exact (Kd.C_below HR1.out HB.out) | (with_reducible refine Kd.C_alloc ?_ _) | (with_reducible refine Kd.C_drewN ?_ _) | (with_reducible refine Kd.C_drew ?_))); (case aB => exact hbZ); (case aF => exact (fun _ _ => trivial)); (case aO => exact (rZ HO103.out)); (case aS => exact (below_size hbZ)); (case aL => have := LMc3.out; omega); intro v105 w8 ho hb hg hat; rw [← Ny104.out] at ho; have n0_ := Aside0.mk hb; have n1_ := Aside0.mk ho; clear HB HO103; have HB := n0_; have HO106 := n1_; clear n0_ n1_; clear ho hb hg hat; obtain ⟨Ao9, co9, eo9⟩ := Kd.R_slice HO106.out; subst eo9) | ((with_reducible refine gate_callee (f := 84) rfl ?_); refine goesL_ (some 12) rfl rfl Try.func84 (by kernel_rfl) rfl #[.slice Ao9 y104.length co9] rfl zee81 ?_; (with_reducible refine (impl_Crc32c.calls k _ _ y104 t107 _ ?side1 ?side2 A4.out).mono ?_); (case side1 => exact z3fd5); (case side2 => exact (Kd.R_reads' HO106.out).2.1); rintro e w' ⟨rfl, ⟨nd, rfl⟩⟩; refine ⟨_, rfl, ?_⟩) | ((with_reducible refine gate_callee (f := 12) rfl ?_); refine goesL_ (some 14) rfl rfl Try.func12 (by kernel_rfl) rfl #[.int .i64 (wrap64 (t107)), .int .i64 4] rfl zee81 ?_; (with_reducible refine (impl_PutFixed.calls k (wrap64 (t107)) 4 t108 t109 _ A5.out).mono ?_); rintro e w10 ⟨v110, rfl, ho0, hb⟩; refine ⟨_, rfl, ?_⟩; have n0_ := Aside0.mk (Kd.R_elder' (rZ HO106.out) (Kd.R_base ho0) hb); have n1_ := Aside0.mk (Kd.R_lower (Kd.R_new' ho0 (Kd.R_lt (rZ HO106.out))) (below_size hbZ)); have n2_ := Aside0.mk (below_step hbZ hb); clear HO106 HB; have HO106 := n0_; have HO111 := n1_; have HB := n2_; clear n0_ n1_ n2_; (try clear hb); (try clear hb2); (try clear hk); (try clear hi); (try clear ho0)))
   go_ret
   exact ⟨_, z674d, by (with_reducible repeat (first | apply Kd.R_alloc | apply Kd.R_drewN | apply Kd.R_drew)); exact Kd.R_mono HO111.out (fun _ hk => trivial), z5acd⟩
 · rw [if_neg c3] at H
   exact absurd H (by simp)

end Go.Proofs.Ythliooccgclbjaa.P

-- written by a program of this session's (wip/pp)
namespace Go.Proofs.Ythliooccgclbjaa.P
open Go.RowKit Go.Proofs.YthliooccgclbjaaW.PrintWords Go.Proofs.YthliooccgclbjaaW.PrintLast Go.Proofs.YthliooccgclbjaaW.PrintMore
attribute [local go_sem] max2_int min2_int max_two min_two max_three min_three max_four min_four   -- for this text's walks alone
set_option linter.unusedVariables false
set_option linter.unusedSimpArgs false

/-! ### impl_logPieces: function 52 -/
mutual
def impl_logPieces.l0 : Nat → Int → List Int → List Int → Bool → Bool → Option (List Int)
 | 0, _, _, _, _, _ => none
 | k + 1, x0, x1, x5, x6, x7 => if x6 = true then (some x5) else ((impl_padding.f (wrap64 (x0 + (x5.length : Int)))).bind fun t105 => (if 0 ≤ t105 then (if x5.length + (t105 : Int).toNat < 140737488355328 then ((some (x5 ++ List.replicate (t105 : Int).toNat 0 : List Int)).bind fun y106 => (if x7 = true then (impl_logPieces.j1 k x0 x1 y106 ((mn (wrap64 ((wrap64 (64 - (Int.tmod (wrap64 (x0 + (y106.length : Int))) 64))) - 6)) (x1.length : Int)) == (x1.length : Int)) x7 (mn (wrap64 ((wrap64 (64 - (Int.tmod (wrap64 (x0 + (y106.length : Int))) 64))) - 6)) (x1.length : Int)) 3 false) else (impl_logPieces.j1 k x0 x1 y106 ((mn (wrap64 ((wrap64 (64 - (Int.tmod (wrap64 (x0 + (y106.length : Int))) 64))) - 6)) (x1.length : Int)) == (x1.length : Int)) x7 (mn (wrap64 ((wrap64 (64 - (Int.tmod (wrap64 (x0 + (y106.length : Int))) 64))) - 6)) (x1.length : Int)) 3 ((mn (wrap64 ((wrap64 (64 - (Int.tmod (wrap64 (x0 + (y106.length : Int))) 64))) - 6)) (x1.length : Int)) == (x1.length : Int))))) else (none)) else (none)))
def impl_logPieces.j1 : Nat → Int → List Int → List Int → Bool → Bool → Int → Int → Bool → Option (List Int)
 | 0, _, _, _, _, _, _, _, _ => none
 | k + 1, x0, x1, x5, x6, x7, x9, x10, x38 => if x38 = true then (if 0 ≤ x9 then (if x9 ≤ (x1.length : Int) then ((impl_check.f k 1 (x1.take (x9 : Int).toNat)).bind fun t114 => (if x5.length + t114.length < 140737488355328 then ((some (x5 ++ t114 : List Int)).bind fun y117 => ((some (([(x9) % 256, 1] : List Int) : List Int)).bind fun y120 => (if y117.length + y120.length < 140737488355328 then ((some (y117 ++ y120 : List Int)).bind fun y123 => ((some (x1.take (x9 : Int).toNat : List Int)).bind fun y126 => (if y123.length + y126.length < 140737488355328 then (impl_logPieces.l0 k x0 (x1.drop (x9 : Int).toNat) (y123 ++ y126) x6 true) else (none)))) else (none)))) else (none))) else (none)) else (none)) else (if x7 = true then (if x6 = true then (if 0 ≤ x9 then (if x9 ≤ (x1.length : Int) then ((impl_check.f k 4 (x1.take (x9 : Int).toNat)).bind fun t144 => (if x5.length + t144.length < 140737488355328 then ((some (x5 ++ t144 : List Int)).bind fun y147 => ((some (([(x9) % 256, 4] : List Int) : List Int)).bind fun y150 => (if y147.length + y150.length < 140737488355328 then ((some (y147 ++ y150 : List Int)).bind fun y153 => ((some (x1.take (x9 : Int).toNat : List Int)).bind fun y156 => (if y153.length + y156.length < 140737488355328 then (impl_logPieces.l0 k x0 (x1.drop (x9 : Int).toNat) (y153 ++ y156) x6 true) else (none)))) else (none)))) else (none))) else (none)) else (none)) else (if 0 ≤ x9 then (if x9 ≤ (x1.length : Int) then ((impl_check.f k x10 (x1.take (x9 : Int).toNat)).bind fun t174 => (if x5.length + t174.length < 140737488355328 then ((some (x5 ++ t174 : List Int)).bind fun y177 => ((some (([(x9) % 256, x10] : List Int) : List Int)).bind fun y180 => (if y177.length + y180.length < 140737488355328 then ((some (y177 ++ y180 : List Int)).bind fun y183 => ((some (x1.take (x9 : Int).toNat : List Int)).bind fun y186 => (if y183.length + y186.length < 140737488355328 then (impl_logPieces.l0 k x0 (x1.drop (x9 : Int).toNat) (y183 ++ y186) x6 true) else (none)))) else (none)))) else (none))) else (none)) else (none))) else (if 0 ≤ x9 then (if x9 ≤ (x1.length : Int) then ((impl_check.f k 2 (x1.take (x9 : Int).toNat)).bind fun t204 => (if x5.length + t204.length < 140737488355328 then ((some (x5 ++ t204 : List Int)).bind fun y207 => ((some (([(x9) % 256, 2] : List Int) : List Int)).bind fun y210 => (if y207.length + y210.length < 140737488355328 then ((some (y207 ++ y210 : List Int)).bind fun y213 => ((some (x1.take (x9 : Int).toNat : List Int)).bind fun y216 => (if y213.length + y216.length < 140737488355328 then (impl_logPieces.l0 k x0 (x1.drop (x9 : Int).toNat) (y213 ++ y216) x6 true) else (none)))) else (none)))) else (none))) else (none)) else (none)))
end
def impl_logPieces.f (k : Nat) (a0 : Int) (l1 : List Int) : Option (List Int) := (impl_padding.f a0).bind fun t101 => (if 0 ≤ t101 then (if (t101 : Int).toNat ≤ 281474976710656 then (impl_logPieces.l0 k a0 l1 (List.replicate (t101 : Int).toNat 0) false false) else (none)) else (none))
theorem impl_logPieces.mono_l : ∀ k, (∀ y0 y1 y2 y3 y4, LeO (impl_logPieces.l0 k y0 y1 y2 y3 y4) (impl_logPieces.l0 (k + 1) y0 y1 y2 y3 y4)) ∧ (∀ y0 y1 y2 y3 y4 y5 y6 y7, LeO (impl_logPieces.j1 k y0 y1 y2 y3 y4 y5 y6 y7) (impl_logPieces.j1 (k + 1) y0 y1 y2 y3 y4 y5 y6 y7))
 | 0 => ⟨fun _ _ _ _ _ r h => by simp [impl_logPieces.l0] at h, fun _ _ _ _ _ _ _ _ r h => by simp [impl_logPieces.j1] at h⟩
 | k + 1 => by
  obtain ⟨ih0, ih1⟩ := impl_logPieces.mono_l k
  refine ⟨?_, ?_⟩
  · intro y0 y1 y2 y3 y4
    unfold impl_logPieces.l0
    repeat' first
     | (with_reducible first | exact ih0 .. | exact ih1 .. | exact impl_check.mono .. | exact LeO.refl _ | exact LeO.none _ | refine LeO.ite ?_ ?_ | refine LeO.bind ?_ (fun _ => ?_))
     | exact LeO.none _
     | refine LeO.ite ?_ ?_
     | refine LeO.bind ?_ (fun _ => ?_)
  · intro y0 y1 y2 y3 y4 y5 y6 y7
    unfold impl_logPieces.j1
    repeat' first
     | (with_reducible first | exact ih0 .. | exact ih1 .. | exact impl_check.mono .. | exact LeO.refl _ | exact LeO.none _ | refine LeO.ite ?_ ?_ | refine LeO.bind ?_ (fun _ => ?_))
     | exact LeO.none _
     | refine LeO.ite ?_ ?_
     | refine LeO.bind ?_ (fun _ => ?_)
theorem impl_logPieces.mono : ∀ a0 a1 k, LeO (impl_logPieces.f k a0 a1) (impl_logPieces.f (k + 1) a0 a1) := by
 intro a0 a1 k
 obtain ⟨ih0, ih1⟩ := impl_logPieces.mono_l k
 unfold impl_logPieces.f
 repeat' first
  | (with_reducible first | exact ih0 .. | exact ih1 .. | exact impl_check.mono .. | exact LeO.refl _ | exact LeO.none _ | refine LeO.ite ?_ ?_ | refine LeO.bind ?_ (fun _ => ?_))
  | exact LeO.none _
  | refine LeO.ite ?_ ?_
  | refine LeO.bind ?_ (fun _ => ?_)
set_option maxHeartbeats 8000000 in
set_option maxRecDepth 100000 in
theorem impl_logPieces.calls (k : Nat) (a0 : Int) (P1_ : Nat → Prop) (A1 : Option Addr) (c1 : Nat) (l1 : List Int) (r : List Int) (w : World) (hs1 : Kd.V (Kd.int .u8) 5 w w.heap.size (fun k_ => P1_ k_) (.slice A1 l1.length c1) l1) (h : impl_logPieces.f k a0 l1 = some r) :
 Calls Try.prog 52 #[.int .i64 a0, .slice A1 l1.length c1] w fun e w' => ∃ v0_ : Value, e = .returned (v0_) ∧ Kd.R (Kd.int .u8) 5 w' w.heap.size (fun k_ => (w.heap.size ≤ k_)) v0_ r ∧ Below w.heap.size w w' := by
 have HO1 := Aside0.mk (show Kd.V (Kd.int .u8) 5 w w.heap.size (fun k_ => (P1_ k_ ∨ w.heap.size ≤ k_)) (.slice A1 l1.length c1) l1 from Kd.V_mono hs1 (fun k_ hk => .inl hk))
 have HB := Aside0.mk (Below.refl w.heap.size w)
 have H : ((impl_padding.f a0).bind fun t101 => (if 0 ≤ t101 then (if (t101 : Int).toNat ≤ 281474976710656 then (impl_logPieces.l0 k a0 l1 (List.replicate (t101 : Int).toNat 0) false false) else (none)) else (none))) = some r := h
 clear h
 replace H := Option.bind_eq_some_iff.mp H
 obtain ⟨t101, A30, H⟩ := H
 try dsimp only at H
 have A3 := Aside0.mk A30
 clear A30
 by_cases c4 : 0 ≤ t101
 · rw [if_pos c4] at H
   have c4b0 := eq_true c4
   have c4b1 : decide (0 ≤ t101) = true := decide_eq_true c4
   clear c4
   by_cases c5 : (t101 : Int).toNat ≤ 281474976710656
   · rw [if_pos c5] at H
     have c5b0 := eq_true c5
     have c5b1 : decide ((t101 : Int).toNat ≤ 281474976710656) = true := decide_eq_true c5
     clear c5
     obtain ⟨y102, hy102⟩ : ∃ y_ : List Int, y_ = (List.replicate (t101 : Int).toNat 0) := ⟨_, rfl⟩
     replace H : (impl_logPieces.l0 k a0 l1 y102 false false) = some r := by first | (rw [hy102]; with_reducible exact H) | (have H2_ := (Option.bind_some _ _).symm.trans H; rw [hy102]; with_reducible exact H2_) | (have H2_ := (Option.bind_some _ _).symm.trans H; with_reducible exact H2_) | with_reducible exact H | (rw [hy102]; exact H) | exact H
     have Ny102 := Aside0.mk hy102
     clear hy102
     have H' := Aside0.mk H
     clear H
     go_enter Try.func52, Try.ntmps52
     go_wp2_with (first | ((with_reducible refine gate_callee (f := 70) rfl ?_); refine goesL_ (some 12) rfl rfl Try.func70 (by kernel_rfl) rfl #[.int .i64 a0] rfl zee81 ?_; (with_reducible refine (impl_padding.calls a0 t101 _ A3.out).mono ?_); rintro e w' ⟨rfl, ⟨nd, rfl⟩⟩; refine ⟨_, rfl, ?_⟩) | ((with_reducible refine gate_dst (N := 13) rfl ?_); refine Kd.R_make (Kd.int .u8) _ 5 rfl (N := 13) rfl 22 _ _ rfl t101 rfl rfl Try.underlying22 (.int .u8 0) 1 info5 rfl (by decide) (by omega) 0 (ok := fun _ => True) (okp := fun _ => True) rfl (fun _ hk => hk) trivial (of_decide_eq_true z1200) (Nat.le_trans (Nat.mul_le_mul_right _ (of_decide_eq_true z1200 : t101.toNat ≤ 281474976710656)) (by omega)) (Below.refl _ _) (Nat.le_refl _) ?_; intro v103 w6 ho7 hb hg_ hnew_; clear hg_ hnew_; (first | rw [← Ny102.out] at ho7 | (simp only [Int.reduceToNat] at ho7; rw [← Ny102.out] at ho7)); have n0_ := Aside0.mk (Kd.V_elder' (vZ HO1.out) (Kd.R_base ho7) hb); have n1_ := Aside0.mk (Kd.R_lower (Kd.R_newM (M := fun k_ => (w.heap.size ≤ k_)) ho7 (below_size hbZ) (fun k_ h_ => h_)) (below_size hbZ)); have n2_ := Aside0.mk (below_step hbZ hb); clear HO1 HB; have HO1 := n0_; have HO104 := n1_; have HB := n2_; clear n0_ n1_ n2_; clear hb ho7))
     go_loopg [1, 5, 6, 7] k (fun kq v1 v5 v6 v7 w' => ∃ (x1_1 : List Int) (x5_1 : List Int) (x6_1 : Bool) (x7_1 : Bool), v6 = .bool x6_1 ∧ v7 = .bool x7_1 ∧ Aside0 (impl_logPieces.l0 kq a0 x1_1 x5_1 x6_1 x7_1 = some r) ∧ Aside0 (kq ≤ k) ∧ Aside0 (Kd.V (Kd.int .u8) 5 w' w.heap.size (fun k_ => (P1_ k_ ∨ w.heap.size ≤ k_) ∧ some k_ ≠ (v5 : Value).ownBlock) v1 x1_1) ∧ Aside0 (Kd.R (Kd.int .u8) 5 w' w.heap.size (fun k_ => (w.heap.size ≤ k_)) v5 x5_1) ∧ Aside0 (Below w.heap.size w w'))
     case atStart => exact ⟨(l1), (y102), (false), (false), z4458, z4458, H', ⟨Nat.le_refl _⟩, ⟨vZ HO1.out⟩, ⟨by (with_reducible repeat (first | apply Kd.R_alloc | apply Kd.R_drewN | apply Kd.R_drew)); exact Kd.R_mono HO104.out (fun _ hk => hk.1)⟩, ⟨z5acd⟩⟩
     case round =>
      clear H'
      try clear c1
      try clear p2
      try clear c4
      try clear c4b0
      try clear c4b1
      try clear c5
      try clear c5b0
      try clear c5b1
      try clear c7
      obtain ⟨x1_1, x5_1, x6_1, x7_1, rfl, rfl, HA, HK1, HO_1, HO_5, HB⟩ := hrel
      cases gk with
      | zero => exact absurd HA.out (by simp [impl_logPieces.l0])
      | succ k1 =>
       have H := HA.out
       clear HA
       simp only [impl_logPieces.l0] at H
       by_cases c8 : x6_1 = true
       · subst c8
         have H1 : (some x5_1) = some r := by rw [if_pos rfl] at H; exact H
         clear H
         have H := H1
         clear H1
         obtain rfl := Option.some.inj H
         go_wp2
         go_ret
         exact ⟨_, z674d, rZ HO_5.out, z5acd⟩
       · replace c8 := Bool.eq_false_iff.mpr c8
         subst c8
         have H1 : ((impl_padding.f (wrap64 (a0 + (x5_1.length : Int)))).bind fun t105 => (if 0 ≤ t105 then (if x5_1.length + (t105 : Int).toNat < 140737488355328 then ((some (x5_1 ++ List.replicate (t105 : Int).toNat 0 : List Int)).bind fun y106 => (if x7_1 = true then (impl_logPieces.j1 k1 a0 x1_1 y106 ((mn (wrap64 ((wrap64 (64 - (Int.tmod (wrap64 (a0 + (y106.length : Int))) 64))) - 6)) (x1_1.length : Int)) == (x1_1.length : Int)) x7_1 (mn (wrap64 ((wrap64 (64 - (Int.tmod (wrap64 (a0 + (y106.length : Int))) 64))) - 6)) (x1_1.length : Int)) 3 false) else (impl_logPieces.j1 k1 a0 x1_1 y106 ((mn (wrap64 ((wrap64 (64 - (Int.tmod (wrap64 (a0 + (y106.length : Int))) 64))) - 6)) (x1_1.length : Int)) == (x1_1.length : Int)) x7_1 (mn (wrap64 ((wrap64 (64 - (Int.tmod (wrap64 (a0 + (y106.length : Int))) 64))) - 6)) (x1_1.length : Int)) 3 ((mn (wrap64 ((wrap64 (64 - (Int.tmod (wrap64 (a0 + (y106.length : Int))) 64))) - 6)) (x1_1.length : Int)) == (x1_1.length : Int))))) else (none)) else (none))) = some r := by rw [if_neg (show ¬ (false = true) by decide)] at H; exact H
         clear H
         have H := H1
         clear H1
         replace H := Option.bind_eq_some_iff.mp H
         obtain ⟨t105, A90, H⟩ := H
         try dsimp only at H
         have A9 := Aside0.mk A90
         clear A90
         by_cases c10 : 0 ≤ t105
         · rw [if_pos c10] at H
           have c10b0 := eq_true c10
           have c10b1 : decide (0 ≤ t105) = true := decide_eq_true c10
           clear c10
           by_cases c11 : x5_1.length + (t105 : Int).toNat < 140737488355328
           · rw [if_pos c11] at H
             have LMc11 := Aside0.mk c11
             clear c11
             obtain ⟨y106, hy106⟩ : ∃ y_ : List Int, y_ = (x5_1 ++ List.replicate (t105 : Int).toNat 0) := ⟨_, rfl⟩
             replace H : (if x7_1 = true then (impl_logPieces.j1 k1 a0 x1_1 y106 ((mn (wrap64 ((wrap64 (64 - (Int.tmod (wrap64 (a0 + (y106.length : Int))) 64))) - 6)) (x1_1.length : Int)) == (x1_1.length : Int)) x7_1 (mn (wrap64 ((wrap64 (64 - (Int.tmod (wrap64 (a0 + (y106.length : Int))) 64))) - 6)) (x1_1.length : Int)) 3 false) else (impl_logPieces.j1 k1 a0 x1_1 y106 ((mn (wrap64 ((wrap64 (64 - (Int.tmod (wrap64 (a0 + (y106.length : Int))) 64))) - 6)) (x1_1.length : Int)) == (x1_1.length : Int)) x7_1 (mn (wrap64 ((wrap64 (64 - (Int.tmod (wrap64 (a0 + (y106.length : Int))) 64))) - 6)) (x1_1.length : Int)) 3 ((mn (wrap64 ((wrap64 (64 - (Int.tmod (wrap64 (a0 + (y106.length : Int))) 64))) - 6)) (x1_1.length : Int)) == (x1_1.length : Int)))) = some r := by first | (rw [hy106]; with_reducible exact H) | (have H2_ := (Option.bind_some _ _).symm.trans H; rw [hy106]; with_reducible exact H2_) | (have H2_ := (Option.bind_some _ _).symm.trans H; with_reducible exact H2_) | with_reducible exact H | (rw [hy106]; exact H) | exact H
             have Ny106 := Aside0.mk hy106
             clear hy106
             obtain ⟨ji12, hji12⟩ : ∃ j_ : Int, (mn (wrap64 ((wrap64 (64 - (Int.tmod (wrap64 (a0 + (y106.length : Int))) 64))) - 6)) (x1_1.length : Int)) = j_ := ⟨_, rfl⟩
             replace H : (if x7_1 = true then (impl_logPieces.j1 k1 a0 x1_1 y106 ((ji12) == (x1_1.length : Int)) x7_1 ji12 3 false) else (impl_logPieces.j1 k1 a0 x1_1 y106 ((ji12) == (x1_1.length : Int)) x7_1 ji12 3 ((ji12) == (x1_1.length : Int)))) = some r := by first | (rw [hji12] at H; exact H) | (simp only [hji12] at H ⊢; exact H)
             (try rw [hji12] at A9)
             have hji12_ : (if (x1_1.length : Int) < (wrap64 ((wrap64 (64 - (Int.tmod (wrap64 (a0 + (y106.length : Int))) 64))) - 6)) then (x1_1.length : Int) else (wrap64 ((wrap64 (64 - (Int.tmod (wrap64 (a0 + (y106.length : Int))) 64))) - 6))) = ji12 := hji12
             have HC13 := Aside0.mk H
             clear H
             obtain ⟨Ao14, co14, eo14⟩ := Kd.R_slice HO_5.out
             subst eo14
             go_upto_region 10 with (first | ((with_reducible refine gate_callee (f := 70) rfl ?_); refine goesL_ (some 21) rfl rfl Try.func70 (by kernel_rfl) rfl #[.int .i64 (wrap64 (a0 + (x5_1.length : Int)))] rfl zee81 ?_; (with_reducible refine (impl_padding.calls (wrap64 (a0 + (x5_1.length : Int))) t105 _ A9.out).mono ?_); rintro e w' ⟨rfl, ⟨nd, rfl⟩⟩; refine ⟨_, rfl, ?_⟩) | (at_builtin; refine Kd.R_append_zeros (Kd.int .u8) (w0 := w) w.heap.size rfl (.tmp 16) (.tmp 21) 22 3 5 (.int .u8 0) 1 rfl Try.underlying22 Try.underlying3 info5 rfl (by decide) (by omega) (.slice Ao14 x5_1.length co14) x5_1 0 (t105 : Int) (fun k_ => (w.heap.size ≤ k_)) rfl rfl rfl ?aF ?aO (of_decide_eq_true z1200) ?aB ?aS ?aL ?_; (case aB => exact hbZ); (case aF => exact (fun k_ hk => (Nat.le_trans (below_size hbZ) hk))); (case aO => exact (rZ HO_5.out)); (case aS => exact (below_size hbZ)); (case aL => have := LMc11.out; omega); intro v107 w15 ho hb hg hat; rw [← Ny106.out] at ho; have n0_ := Aside0.mk (Kd.V_afterv (ok := (fun k_ => (P1_ k_ ∨ w.heap.size ≤ k_))) (vZ HO_1.out) hg hat); have n1_ := Aside0.mk hb; have n2_ := Aside0.mk ho; clear HO_1 HB HO_5; have HO_1 := n0_; have HB := n1_; have HO108 := n2_; clear n0_ n1_ n2_; clear ho hb hg hat; obtain ⟨Ao16, co16, eo16⟩ := Kd.R_slice HO108.out; subst eo16; obtain ⟨Ao17, co17, eo17⟩ := Kd.V_slice HO_1.out; subst eo17))
             (try simp only [Act.put, List.setIfInBounds_toArray, List.set_cons_zero, List.set_cons_succ])
             go_cut [38] (fun v38 wc => ∃ (kq : Nat) (x38_12 : Bool), v38 = .bool x38_12 ∧ Aside0 (impl_logPieces.j1 kq a0 x1_1 y106 ((ji12) == (x1_1.length : Int)) x7_1 ji12 3 x38_12 = some r) ∧ Aside0 (kq ≤ k1) ∧ Aside0 (Kd.V (Kd.int .u8) 5 wc w.heap.size (fun k_ => (P1_ k_ ∨ w.heap.size ≤ k_) ∧ some k_ ≠ ((.slice Ao16 y106.length co16) : Value).ownBlock) (.slice Ao17 x1_1.length co17) x1_1) ∧ Aside0 (Kd.R (Kd.int .u8) 5 wc w.heap.size (fun k_ => (w.heap.size ≤ k_)) (.slice Ao16 y106.length co16) y106) ∧ Aside0 (Below w.heap.size w wc))
             case first =>
              have H := HC13.out
              clear HC13
              by_cases c18 : x7_1 = true
              · subst c18
                have H1 : (impl_logPieces.j1 k1 a0 x1_1 y106 ((ji12) == (x1_1.length : Int)) true ji12 3 false) = some r := by rw [if_pos rfl] at H; exact H
                clear H
                have H := H1
                clear H1
                have H' := Aside0.mk H
                clear H
                go_wp2
                go_meet
                case rel => exact ⟨_, (false), z4458, H', ⟨ze59a⟩, ⟨vZ HO_1.out⟩, ⟨rZ HO108.out⟩, ⟨z5acd⟩⟩
              · replace c18 := Bool.eq_false_iff.mpr c18
                subst c18
                have H1 : (impl_logPieces.j1 k1 a0 x1_1 y106 ((ji12) == (x1_1.length : Int)) false ji12 3 ((ji12) == (x1_1.length : Int))) = some r := by rw [if_neg (show ¬ (false = true) by decide)] at H; exact H
                clear H
                have H := H1
                clear H1
                have H' := Aside0.mk H
                clear H
                go_wp2
                go_meet
                case rel => exact ⟨_, (((ji12) == (x1_1.length : Int))), ze505, H', ⟨ze59a⟩, ⟨vZ HO_1.out⟩, ⟨rZ HO108.out⟩, ⟨z5acd⟩⟩
             case rest =>
              clear HC13
              try clear c1
              try clear p2
              try clear c4
              try clear c4b0
              try clear c4b1
              try clear c5
              try clear c5b0
              try clear c5b1
              try clear p6
              try clear c7
              try clear c8
              try clear c10
              try clear c10b0
              try clear c10b1
              try clear c11
              try clear c18
              try clear p2
              obtain ⟨kq, x38_12, rfl, HA, HJ12, HO_1, HO_5, HB⟩ := hcut
              cases kq with
              | zero => exact absurd HA.out (by simp [impl_logPieces.j1])
              | succ kj12 =>
               have H := HA.out
               clear HA
               simp only [impl_logPieces.j1] at H
               by_cases c19 : x38_12 = true
               · subst c19
                 have H1 : (if 0 ≤ ji12 then (if ji12 ≤ (x1_1.length : Int) then ((impl_check.f kj12 1 (x1_1.take (ji12 : Int).toNat)).bind fun t114 => (if y106.length + t114.length < 140737488355328 then ((some (y106 ++ t114 : List Int)).bind fun y117 => ((some (([(ji12) % 256, 1] : List Int) : List Int)).bind fun y120 => (if y117.length + y120.length < 140737488355328 then ((some (y117 ++ y120 : List Int)).bind fun y123 => ((some (x1_1.take (ji12 : Int).toNat : List Int)).bind fun y126 => (if y123.length + y126.length < 140737488355328 then (impl_logPieces.l0 kj12 a0 (x1_1.drop (ji12 : Int).toNat) (y123 ++ y126) ((ji12) == (x1_1.length : Int)) true) else (none)))) else (none)))) else (none))) else (none)) else (none)) = some r := by rw [if_pos rfl] at H; exact H
                 clear H
                 have H := H1
                 clear H1
                 by_cases c20 : 0 ≤ ji12
                 · rw [if_pos c20] at H
                   have c20b0 := eq_true c20
                   have c20b1 : decide (0 ≤ ji12) = true := decide_eq_true c20
                   clear c20
                   by_cases c21 : ji12 ≤ (x1_1.length : Int)
                   · rw [if_pos c21] at H
                     have c21b0 := eq_true c21
                     have c21b1 : decide (ji12 ≤ (x1_1.length : Int)) = true := decide_eq_true c21
                     clear c21
                     obtain ⟨y109, hy109⟩ : ∃ y_ : List Int, y_ = (x1_1.take (ji12 : Int).toNat) := ⟨_, rfl⟩
                     replace H : ((impl_check.f kj12 1 y109).bind fun t114 => (if y106.length + t114.length < 140737488355328 then ((some (y106 ++ t114 : List Int)).bind fun y117 => ((some (([(ji12) % 256, 1] : List Int) : List Int)).bind fun y120 => (if y117.length + y120.length < 140737488355328 then ((some (y117 ++ y120 : List Int)).bind fun y123 => ((some (x1_1.take (ji12 : Int).toNat : List Int)).bind fun y126 => (if y123.length + y126.length < 140737488355328 then (impl_logPieces.l0 kj12 a0 (x1_1.drop (ji12 : Int).toNat) (y123 ++ y126) ((ji12) == (x1_1.length : Int)) true) else (none)))) else (none)))) else (none))) = some r := by first | (rw [hy109]; with_reducible exact H) | (have H2_ := (Option.bind_some _ _).symm.trans H; rw [hy109]; with_reducible exact H2_) | (have H2_ := (Option.bind_some _ _).symm.trans H; with_reducible exact H2_) | with_reducible exact H | (rw [hy109]; exact H) | exact H
                     have Ny109 := Aside0.mk hy109
                     clear hy109
                     replace H := Option.bind_eq_some_iff.mp H
                     obtain ⟨t114, A220, H⟩ := H
                     try dsimp only at H
                     have A22 := Aside0.mk A220
                     clear A220
                     by_cases c23 : y106.length + t114.length < 140737488355328
                     · rw [if_pos c23] at H
                       have LMc23 := Aside0.mk c23
                       clear c23
                       obtain ⟨y117, hy117⟩ : ∃ y_ : List Int, y_ = (y106 ++ t114) := ⟨_, rfl⟩
                       replace H : ((some (([(ji12) % 256, 1] : List Int) : List Int)).bind fun y120 => (if y117.length + y120.length < 140737488355328 then ((some (y117 ++ y120 : List Int)).bind fun y123 => ((some (x1_1.take (ji12 : Int).toNat : List Int)).bind fun y126 => (if y123.length + y126.length < 140737488355328 then (impl_logPieces.l0 kj12 a0 (x1_1.drop (ji12 : Int).toNat) (y123 ++ y126) ((ji12) == (x1_1.length : Int)) true) else (none)))) else (none))) = some r := by first | (rw [hy117]; with_reducible exact H) | (have H2_ := (Option.bind_some _ _).symm.trans H; rw [hy117]; with_reducible exact H2_) | (have H2_ := (Option.bind_some _ _).symm.trans H; with_reducible exact H2_) | with_reducible exact H | (rw [hy117]; exact H) | exact H
                       have Ny117 := Aside0.mk hy117
                       clear hy117
                       obtain ⟨y120, hy120⟩ : ∃ y_ : List Int, y_ = (([(ji12) % 256, 1] : List Int)) := ⟨_, rfl⟩
                       replace H : (if y117.length + y120.length < 140737488355328 then ((some (y117 ++ y120 : List Int)).bind fun y123 => ((some (x1_1.take (ji12 : Int).toNat : List Int)).bind fun y126 => (if y123.length + y126.length < 140737488355328 then (impl_logPieces.l0 kj12 a0 (x1_1.drop (ji12 : Int).toNat) (y123 ++ y126) ((ji12) == (x1_1.length : Int)) true) else (none)))) else (none)) = some r := by first | (rw [hy120]; with_reducible exact H) | (have H2_ := (Option.bind_some _ _).symm.trans H; rw [hy120]; with_reducible exact H2_) | (have H2_ := (Option.bind_some _ _).symm.trans H; with_reducible exact H2_) | with_reducible exact H | (rw [hy120]; exact H) | exact H
                       have Ny120 := Aside0.mk hy120
                       clear hy120
                       by_cases c24 : y117.length + y120.length < 140737488355328
                       · rw [if_pos c24] at H
                         have LMc24 := Aside0.mk c24
                         clear c24
                         obtain ⟨y123, hy123⟩ : ∃ y_ : List Int, y_ = (y117 ++ y120) := ⟨_, rfl⟩
                         replace H : ((some (x1_1.take (ji12 : Int).toNat : List Int)).bind fun y126 => (if y123.length + y126.length < 140737488355328 then (impl_logPieces.l0 kj12 a0 (x1_1.drop (ji12 : Int).toNat) (y123 ++ y126) ((ji12) == (x1_1.length : Int)) true) else (none))) = some r := by first | (rw [hy123]; with_reducible exact H) | (have H2_ := (Option.bind_some _ _).symm.trans H; rw [hy123]; with_reducible exact H2_) | (have H2_ := (Option.bind_some _ _).symm.trans H; with_reducible exact H2_) | with_reducible exact H | (rw [hy123]; exact H) | exact H
                         have Ny123 := Aside0.mk hy123
                         clear hy123
                         have c25b0 := eq_true (of_decide_eq_true z1200 : 0 ≤ ji12)
                         have c26b0 := eq_true (of_decide_eq_true z1200 : ji12 ≤ (x1_1.length : Int))
                         obtain ⟨y126, hy126⟩ : ∃ y_ : List Int, y_ = (x1_1.take (ji12 : Int).toNat) := ⟨_, rfl⟩
                         replace H : (if y123.length + y126.length < 140737488355328 then (impl_logPieces.l0 kj12 a0 (x1_1.drop (ji12 : Int).toNat) (y123 ++ y126) ((ji12) == (x1_1.length : Int)) true) else (none)) = some r := by first | (rw [hy126]; with_reducible exact H) | (have H2_ := (Option.bind_some _ _).symm.trans H; rw [hy126]; with_reducible exact H2_) | (have H2_ := (Option.bind_some _ _).symm.trans H; with_reducible exact H2_) | with_reducible exact H | (rw [hy126]; exact H) | exact H
                         have Ny126 := Aside0.mk hy126
                         clear hy126
                         by_cases c27 : y123.length + y126.length < 140737488355328
                         · rw [if_pos c27] at H
                           have LMc27 := Aside0.mk c27
                           clear c27
                           obtain ⟨y131, hy131⟩ : ∃ y_ : List Int, y_ = (y123 ++ y126) := ⟨_, rfl⟩
                           replace H : (impl_logPieces.l0 kj12 a0 (x1_1.drop (ji12 : Int).toNat) y131 ((ji12) == (x1_1.length : Int)) true) = some r := by first | (rw [hy131]; with_reducible exact H) | (have H2_ := (Option.bind_some _ _).symm.trans H; rw [hy131]; with_reducible exact H2_) | (have H2_ := (Option.bind_some _ _).symm.trans H; with_reducible exact H2_) | with_reducible exact H | (rw [hy131]; exact H) | exact H
                           have Ny131 := Aside0.mk hy131
                           clear hy131
                           have c28b0 := eq_true (of_decide_eq_true z1200 : 0 ≤ ji12)
                           have c29b0 := eq_true (of_decide_eq_true z1200 : ji12 ≤ (x1_1.length : Int))
                           obtain ⟨y134, hy134⟩ : ∃ y_ : List Int, y_ = (x1_1.drop (ji12 : Int).toNat) := ⟨_, rfl⟩
                           replace H : (impl_logPieces.l0 kj12 a0 y134 y131 ((ji12) == (x1_1.length : Int)) true) = some r := by first | (rw [hy134]; with_reducible exact H) | (have H2_ := (Option.bind_some _ _).symm.trans H; rw [hy134]; with_reducible exact H2_) | (have H2_ := (Option.bind_some _ _).symm.trans H; with_reducible exact H2_) | with_reducible exact H | (rw [hy134]; exact H) | exact H
                           have Ny134 := Aside0.mk hy134
                           clear hy134
                           have H' := Aside0.mk H
                           clear H
                           have q30 : (ji12 : Int) ≤ ((x1_1.length : Int) : Int) := of_decide_eq_true z1200
                           obtain ⟨i030, hi030, _, hsz30, _⟩ := info_parts info5
                           have hroom30 : x1_1.length ≤ co17 := (Kd.V_reads' HO_1.out).2.1
                           have hC30 : Kd.F (Kd.int .u8) _ _ Ao17 x1_1.length x1_1 := (Kd.V_at (base := w.heap.size) HO_1.out).2.2
                           have hcut30 := cut_to (P := Try.prog) 22 5 .i64 Try.underlying22 hi030 Ao17 x1_1.length co17 ji12 (of_decide_eq_true z1200) q30 hroom30
                           have hr30 := Kd.F_take (m := (ji12 : Int).toNat) hC30 (by omega)
                           have hy30 : y109.length = (ji12 : Int).toNat := (by rw [Ny109.out, List.length_take]; omega)
                           rw [← Ny109.out] at hr30
                           rw [← hy30] at hcut30
                           have HO113 := Aside0.mk (show Kd.V (Kd.int .u8) 5 _ w.heap.size _ (.slice Ao17 y109.length co17) y109 from Kd.V_mk (by omega) hr30)
                           have HC113 := Aside0.mk (show y109.length ≤ co17 from by omega)
                           clear hr30 hC30 hroom30 hi030 hsz30
                           have KY30 := Aside0.mk hy30
                           clear hy30
                           replace q30 := eq_true q30
                           go_wp2_with (first | ((with_reducible refine gate_callee (f := 71) rfl ?_); refine goesL_ (some 54) rfl rfl Try.func71 (by kernel_rfl) rfl #[.int .u8 1, .slice Ao17 y109.length co17] rfl zee81 ?_; (with_reducible refine (impl_check.calls kj12 1 _ _ y109 t114 _ ?side1 ?side2 A22.out).mono ?_); (case side1 => exact (by repeat (first | exact (Kd.V_reads' HO113.out).2.2 | (with_reducible refine Kd.C_alloc ?_ _) | (with_reducible refine Kd.C_drewN ?_ _) | (with_reducible refine Kd.C_drew ?_)))); (case side2 => exact (Kd.V_reads' HO113.out).2.1); rintro e w31 ⟨v115, rfl, ho0, hb⟩; refine ⟨_, rfl, ?_⟩; have n0_ := Aside0.mk (Kd.V_elder' (vZ HO_1.out) (Kd.R_base ho0) hb); have n1_ := Aside0.mk (Kd.R_elder' (rZ HO_5.out) (Kd.R_base ho0) hb); have n2_ := Aside0.mk (Kd.V_elder' (vZ HO113.out) (Kd.R_base ho0) hb); have n3_ := Aside0.mk (Kd.R_lower (Kd.R_new' (Kd.R_newM (M := fun k_ => (w.heap.size ≤ k_)) ho0 (below_size hbZ) (fun k_ h_ => h_)) (Kd.R_lt (rZ HO_5.out))) (below_size hbZ)); have n4_ := Aside0.mk (below_step hbZ hb); clear HO_1 HO_5 HO113 HB; have HO_1 := n0_; have HO_5 := n1_; have HO113 := n2_; have HO116 := n3_; have HB := n4_; clear n0_ n1_ n2_ n3_ n4_; (try clear hb); (try clear hb2); (try clear hk); (try clear hi); (try clear ho0); obtain ⟨Ao33, co33, eo33⟩ := Kd.R_slice HO116.out; subst eo33) | ((with_reducible refine gate_builtin (b := .append) (xs := #[.tmp 49, .tmp 54]) rfl ?_); at_builtin; refine Kd.R_append_rows (Kd.int .u8) (w0 := w) w.heap.size rfl (.tmp 49) (.tmp 54) 22 5 (.int .u8 0) 1 rfl Try.underlying22 info5 rfl (by decide) (by omega) (.slice Ao16 y106.length co16) y106 t114 _ _ _ (fun k_ => (w.heap.size ≤ k_) ∧ some k_ ≠ (.slice Ao33 t114.length co33 : Value).ownBlock) (fun _ => False) rfl rfl ?aO ?aR (fun _ _ h => h) (fun _ h => h.elim) ?aF ?aB ?aS ?aL ?_; (case aR => repeat (first | exact (Kd.R_reads' HO116.out).2.2 | (with_reducible refine Kd.C_alloc ?_ _) | (with_reducible refine Kd.C_drewN ?_ _) | (with_reducible refine Kd.C_drew ?_))); (case aB => exact hbZ); (case aF => exact (fun k_ hk => ⟨(Nat.le_trans (below_size hbZ) hk), Kd.fresh' (Kd.R_lt (rZ HO116.out)) k_ hk⟩)); (case aO => exact (rZ HO_5.out)); (case aS => exact (below_size hbZ)); (case aL => have := LMc23.out; omega); intro v118 w32 ho hb hg hat; rw [← Ny117.out] at ho; have n0_ := Aside0.mk (Kd.V_afterv (ok := (fun k_ => (P1_ k_ ∨ w.heap.size ≤ k_) ∧ some k_ ≠ (.slice Ao33 t114.length co33 : Value).ownBlock)) z2541 hg hat); have n1_ := Aside0.mk (Kd.V_afterv (ok := (fun k_ => (P1_ k_ ∨ w.heap.size ≤ k_) ∧ some k_ ≠ (.slice Ao33 t114.length co33 : Value).ownBlock)) (by (with_reducible repeat (first | apply Kd.V_alloc | apply Kd.V_drewN | apply Kd.V_drew)); exact Kd.V_mono HO113.out (fun _ hk => ⟨⟨hk.1.1, hk.2⟩, hk.1.2⟩)) hg hat); have n2_ := Aside0.mk (Kd.R_after (ok := (fun k_ => (w.heap.size ≤ k_))) (by (with_reducible repeat (first | apply Kd.R_alloc | apply Kd.R_drewN | apply Kd.R_drew)); exact Kd.R_mono HO116.out (fun _ hk => ⟨hk.1.1, hk.2⟩)) hg hat); have n3_ := Aside0.mk hb; have n4_ := Aside0.mk ho; clear HO_1 HO113 HO116 HB HO_5; have HO_1 := n0_; have HO113 := n1_; have HO116 := n2_; have HB := n3_; have HO119 := n4_; clear n0_ n1_ n2_ n3_ n4_; clear ho hb hg hat) | ((with_reducible refine gate_dst (N := 59) rfl ?_); refine Kd.R_lit (Kd.int .u8) _ 5 ?hg (N := 59) ?hd (xs := ([(ji12) % 256, 1] : List Int)) (inner := [.int .u8 ((ji12) % 256), .int .u8 1]) (ok := fun _ => True) (okp := fun _ => True) ?hr ?hp (fun _ hk => hk) trivial (Below.refl _ _) (Nat.le_refl _) (by simp) ?_; (case hd => rfl); (case hg => rfl); (case hr => first | (go_simp; done) | (go_simp; rfl)); (case hp => exact (Reps.one (show Kd.M (Kd.int .u8) _ _ _ ((ji12) % 256) [.int .u8 ((ji12) % 256)] from rfl) (Reps.one (show Kd.M (Kd.int .u8) _ _ _ 1 [.int .u8 1] from rfl) (Reps.none _ _)))); intro v121 w34 ho35 hb hg_ hnew_; clear hg_ hnew_; (first | rw [← Ny120.out] at ho35 | (simp only [Int.reduceToNat] at ho35; rw [← Ny120.out] at ho35)); have n0_ := Aside0.mk (Kd.V_elder' (vZ HO_1.out) (Kd.R_base ho35) hb); have n1_ := Aside0.mk (Kd.V_elder' (vZ HO113.out) (Kd.R_base ho35) hb); have n2_ := Aside0.mk (Kd.R_elder' (rZ HO116.out) (Kd.R_base ho35) hb); have n3_ := Aside0.mk (Kd.R_elder' (rZ HO119.out) (Kd.R_base ho35) hb); have n4_ := Aside0.mk (Kd.R_lower (Kd.R_new' (Kd.R_new' (Kd.R_newM (M := fun k_ => (w.heap.size ≤ k_)) ho35 (below_size hbZ) (fun k_ h_ => h_)) (Kd.R_lt (rZ HO116.out))) (Kd.R_lt (rZ HO119.out))) (below_size hbZ)); have n5_ := Aside0.mk (below_step hbZ hb); clear HO_1 HO113 HO116 HO119 HB; have HO_1 := n0_; have HO113 := n1_; have HO116 := n2_; have HO119 := n3_; have HO122 := n4_; have HB := n5_; clear n0_ n1_ n2_ n3_ n4_ n5_; clear hb ho35; obtain ⟨Ao37, co37, eo37⟩ := Kd.R_slice HO122.out; subst eo37) | ((with_reducible refine gate_builtin (b := .append) (xs := #[.tmp 55, .tmp 59]) rfl ?_); at_builtin; refine Kd.R_append_rows (Kd.int .u8) (w0 := w) w.heap.size rfl (.tmp 55) (.tmp 59) 22 5 (.int .u8 0) 1 rfl Try.underlying22 info5 rfl (by decide) (by omega) v118 y117 y120 _ _ _ (fun k_ => (w.heap.size ≤ k_) ∧ some k_ ≠ (.slice Ao33 t114.length co33 : Value).ownBlock ∧ some k_ ≠ (.slice Ao37 y120.length co37 : Value).ownBlock) (fun _ => False) rfl rfl ?aO ?aR (fun _ _ h => h) (fun _ h => h.elim) ?aF ?aB ?aS ?aL ?_; (case aR => repeat (first | exact (Kd.R_reads' HO122.out).2.2 | (with_reducible refine Kd.C_alloc ?_ _) | (with_reducible refine Kd.C_drewN ?_ _) | (with_reducible refine Kd.C_drew ?_))); (case aB => exact hbZ); (case aF => exact (fun k_ hk => ⟨(Nat.le_trans (below_size hbZ) hk), Kd.fresh' (Kd.R_lt (rZ HO116.out)) k_ hk, Kd.fresh' (Kd.R_lt (rZ HO122.out)) k_ hk⟩)); (case aO => exact (by (with_reducible repeat (first | apply Kd.R_alloc | apply Kd.R_drewN | apply Kd.R_drew)); exact Kd.R_mono HO119.out (fun _ hk => ⟨hk.1.1, ⟨hk.1.2, hk.2⟩⟩))); (case aS => exact (below_size hbZ)); (case aL => have := LMc24.out; omega); intro v124 w36 ho hb hg hat; rw [← Ny123.out] at ho; have n0_ := Aside0.mk (Kd.V_afterv (ok := (fun k_ => (P1_ k_ ∨ w.heap.size ≤ k_) ∧ some k_ ≠ (.slice Ao33 t114.length co33 : Value).ownBlock ∧ some k_ ≠ (.slice Ao37 y120.length co37 : Value).ownBlock)) z4485 hg hat); have n1_ := Aside0.mk (Kd.V_afterv (ok := (fun k_ => (P1_ k_ ∨ w.heap.size ≤ k_) ∧ some k_ ≠ (.slice Ao33 t114.length co33 : Value).ownBlock ∧ some k_ ≠ (.slice Ao37 y120.length co37 : Value).ownBlock)) (by (with_reducible repeat (first | apply Kd.V_alloc | apply Kd.V_drewN | apply Kd.V_drew)); exact Kd.V_mono HO113.out (fun _ hk => ⟨⟨hk.1.1.1, ⟨hk.1.1.2, hk.2⟩⟩, hk.1.2⟩)) hg hat); have n2_ := Aside0.mk (Kd.R_after (ok := (fun k_ => (w.heap.size ≤ k_) ∧ some k_ ≠ (.slice Ao37 y120.length co37 : Value).ownBlock)) (by (with_reducible repeat (first | apply Kd.R_alloc | apply Kd.R_drewN | apply Kd.R_drew)); exact Kd.R_mono HO116.out (fun _ hk => ⟨⟨hk.1.1, hk.2⟩, hk.1.2⟩)) hg hat); have n3_ := Aside0.mk (Kd.R_after (ok := (fun k_ => (w.heap.size ≤ k_) ∧ some k_ ≠ (.slice Ao33 t114.length co33 : Value).ownBlock)) (by (with_reducible repeat (first | apply Kd.R_alloc | apply Kd.R_drewN | apply Kd.R_drew)); exact Kd.R_mono HO122.out (fun _ hk => ⟨⟨hk.1.1.1, hk.1.2⟩, hk.2⟩)) hg hat); have n4_ := Aside0.mk hb; have n5_ := Aside0.mk ho; clear HO_1 HO113 HO116 HO122 HB HO119; have HO_1 := n0_; have HO113 := n1_; have HO116 := n2_; have HO122 := n3_; have HB := n4_; have HO125 := n5_; clear n0_ n1_ n2_ n3_ n4_ n5_; clear ho hb hg hat; have q38 : (ji12 : Int) ≤ ((x1_1.length : Int) : Int) := of_decide_eq_true z1200; obtain ⟨i038, hi038, _, hsz38, _⟩ := info_parts info5; have hroom38 : x1_1.length ≤ co17 := (Kd.V_reads' HO_1.out).2.1; have hC38 : Kd.F (Kd.int .u8) _ _ Ao17 x1_1.length x1_1 := (Kd.V_at (base := w.heap.size) HO_1.out).2.2; (try clear hcut30); (try clear hcut38); have hcut38 := cut_to (P := Try.prog) 22 5 .i64 Try.underlying22 hi038 Ao17 x1_1.length co17 ji12 (of_decide_eq_true z1200) q38 hroom38; have hr38 := Kd.F_take (m := (ji12 : Int).toNat) hC38 (by omega); have hy38 : y126.length = (ji12 : Int).toNat := (by rw [Ny126.out, List.length_take]; omega); rw [← Ny126.out] at hr38; rw [← hy38] at hcut38; have HO130 := Aside0.mk (show Kd.V (Kd.int .u8) 5 _ w.heap.size _ (.slice Ao17 y126.length co17) y126 from Kd.V_mk (by omega) hr38); have HC130 := Aside0.mk (show y126.length ≤ co17 from by omega); clear hr38 hC38 hroom38 hi038 hsz38; have KY38 := Aside0.mk hy38; clear hy38; replace q38 := eq_true q38) | ((with_reducible refine gate_builtin (b := .append) (xs := #[.tmp 61, .tmp 64]) rfl ?_); at_builtin; refine Kd.R_append_rows (Kd.int .u8) (w0 := w) w.heap.size rfl (.tmp 61) (.tmp 64) 22 5 (.int .u8 0) 1 rfl Try.underlying22 info5 rfl (by decide) (by omega) v124 y123 y126 _ _ _ (fun k_ => (w.heap.size ≤ k_) ∧ some k_ ≠ (.slice Ao33 t114.length co33 : Value).ownBlock ∧ some k_ ≠ (.slice Ao37 y120.length co37 : Value).ownBlock) (fun _ => False) rfl rfl ?aO ?aR (fun _ _ h => h) (fun _ h => h.elim) ?aF ?aB ?aS ?aL ?_; (case aR => repeat (first | exact (Kd.V_reads' HO130.out).2.2 | (with_reducible refine Kd.C_alloc ?_ _) | (with_reducible refine Kd.C_drewN ?_ _) | (with_reducible refine Kd.C_drew ?_))); (case aB => exact hbZ); (case aF => exact (fun k_ hk => ⟨(Nat.le_trans (below_size hbZ) hk), Kd.fresh' (Kd.R_lt (rZ HO116.out)) k_ hk, Kd.fresh' (Kd.R_lt (rZ HO122.out)) k_ hk⟩)); (case aO => exact (rZ HO125.out)); (case aS => exact (below_size hbZ)); (case aL => have := LMc27.out; omega); intro v132 w39 ho hb hg hat; rw [← Ny131.out] at ho; have n0_ := Aside0.mk (Kd.V_afterv (ok := (fun k_ => (P1_ k_ ∨ w.heap.size ≤ k_) ∧ some k_ ≠ (.slice Ao33 t114.length co33 : Value).ownBlock ∧ some k_ ≠ (.slice Ao37 y120.length co37 : Value).ownBlock)) (vZ HO_1.out) hg hat); have n1_ := Aside0.mk (Kd.V_afterv (ok := (fun k_ => (P1_ k_ ∨ w.heap.size ≤ k_) ∧ some k_ ≠ (.slice Ao33 t114.length co33 : Value).ownBlock ∧ some k_ ≠ (.slice Ao37 y120.length co37 : Value).ownBlock)) (vZ HO113.out) hg hat); have n2_ := Aside0.mk (Kd.R_after (ok := (fun k_ => (w.heap.size ≤ k_) ∧ some k_ ≠ (.slice Ao37 y120.length co37 : Value).ownBlock)) (rZ HO116.out) hg hat); have n3_ := Aside0.mk (Kd.R_after (ok := (fun k_ => (w.heap.size ≤ k_) ∧ some k_ ≠ (.slice Ao33 t114.length co33 : Value).ownBlock)) (rZ HO122.out) hg hat); have n4_ := Aside0.mk (Kd.V_afterv (ok := (fun k_ => (P1_ k_ ∨ w.heap.size ≤ k_) ∧ some k_ ≠ (.slice Ao33 t114.length co33 : Value).ownBlock ∧ some k_ ≠ (.slice Ao37 y120.length co37 : Value).ownBlock)) (vZ HO130.out) hg hat); have n5_ := Aside0.mk hb; have n6_ := Aside0.mk ho; clear HO_1 HO113 HO116 HO122 HO130 HB HO125; have HO_1 := n0_; have HO113 := n1_; have HO116 := n2_; have HO122 := n3_; have HO130 := n4_; have HB := n5_; have HO133 := n6_; clear n0_ n1_ n2_ n3_ n4_ n5_ n6_; clear ho hb hg hat; have q40 : (ji12 : Int) ≤ ((x1_1.length : Int) : Int) := of_decide_eq_true z1200; obtain ⟨i040, hi040, _, hsz40, _⟩ := info_parts info5; have hroom40 : x1_1.length ≤ co17 := (Kd.V_reads' HO_1.out).2.1; have hC40 : Kd.F (Kd.int .u8) _ _ Ao17 x1_1.length x1_1 := (Kd.V_at (base := w.heap.size) HO_1.out).2.2; have q040 : (0 : Int) ≤ (ji12 : Int) := of_decide_eq_true z1200; have hcut40 := cut_from (P := Try.prog) 22 5 .i64 Try.underlying22 hi040 1 hsz40 Ao17 x1_1.length co17 ji12 q040 q40; have hr40 := Kd.F_cut (m := (ji12 : Int).toNat) (c := co17) hC40 (by omega) hroom40; obtain ⟨A40, hA40⟩ : ∃ A1, A1 = (if co17 = (ji12 : Int).toNat then Ao17 else (Ao17 : Option Addr).map (·.add ((ji12 : Int).toNat * 1))) := ⟨_, rfl⟩; obtain ⟨c40, hc40⟩ : ∃ c1, c1 = co17 - (ji12 : Int).toNat := ⟨_, rfl⟩; have hy40 : y134.length = x1_1.length - (ji12 : Int).toNat := (by rw [Ny134.out, List.length_drop] <;> omega); rw [show (x1_1).drop (ji12 : Int).toNat = y134 from Ny134.out.symm] at hr40; replace hr40 : Kd.F (Kd.int .u8) _ _ A40 y134.length y134 := (by rw [hA40]; exact hr40); rw [← hy40, ← hA40, ← hc40] at hcut40; have HO138 := Aside0.mk (show Kd.V (Kd.int .u8) 5 _ w.heap.size _ (.slice A40 y134.length c40) y134 from Kd.V_mk (by rw [hy40, hc40]; exact Nat.sub_le_sub_right hroom40 _) hr40); have HC138 := Aside0.mk (show y134.length ≤ c40 from by rw [hy40, hc40]; exact Nat.sub_le_sub_right hroom40 _); clear hr40 hC40 hroom40 hi040 hsz40 hc40; have KY40 := Aside0.mk hy40; have KA40 := Aside0.mk hA40; clear hy40 hA40; replace q40 := eq_true q40))
                           go_roundg kj12
                           case measure => have := HK1.out; have := HJ12.out; omega
                           case rel => exact ⟨(y134), (y131), (((ji12) == (x1_1.length : Int))), (true), ze505, z4458, H', ⟨by have := HK1.out; have := HJ12.out; omega⟩, ⟨by (with_reducible repeat (first | apply Kd.V_alloc | apply Kd.V_drewN | apply Kd.V_drew)); exact Kd.V_mono HO138.out (fun _ hk => ⟨hk.1.1, hk.2⟩)⟩, ⟨by (with_reducible repeat (first | apply Kd.R_alloc | apply Kd.R_drewN | apply Kd.R_drew)); exact Kd.R_mono HO133.out (fun _ hk => hk.1)⟩, ⟨z5acd⟩⟩
                         · rw [if_neg c27] at H
                           exact absurd H (by simp)
                       · rw [if_neg c24] at H
                         exact absurd H (by simp)
                     · rw [if_neg c23] at H
                       exact absurd H (by simp)
                   · rw [if_neg c21] at H
                     exact absurd H (by simp)
                 · rw [if_neg c20] at H
                   exact absurd H (by simp)
               · replace c19 := Bool.eq_false_iff.mpr c19
                 subst c19
                 have H1 : (if x7_1 = true then (if ((ji12) == (x1_1.length : Int)) = true then (if 0 ≤ ji12 then (if ji12 ≤ (x1_1.length : Int) then ((impl_check.f kj12 4 (x1_1.take (ji12 : Int).toNat)).bind fun t144 => (if y106.length + t144.length < 140737488355328 then ((some (y106 ++ t144 : List Int)).bind fun y147 => ((some (([(ji12) % 256, 4] : List Int) : List Int)).bind fun y150 => (if y147.length + y150.length < 140737488355328 then ((some (y147 ++ y150 : List Int)).bind fun y153 => ((some (x1_1.take (ji12 : Int).toNat : List Int)).bind fun y156 => (if y153.length + y156.length < 140737488355328 then (impl_logPieces.l0 kj12 a0 (x1_1.drop (ji12 : Int).toNat) (y153 ++ y156) ((ji12) == (x1_1.length : Int)) true) else (none)))) else (none)))) else (none))) else (none)) else (none)) else (if 0 ≤ ji12 then (if ji12 ≤ (x1_1.length : Int) then ((impl_check.f kj12 3 (x1_1.take (ji12 : Int).toNat)).bind fun t174 => (if y106.length + t174.length < 140737488355328 then ((some (y106 ++ t174 : List Int)).bind fun y177 => ((some (([(ji12) % 256, 3] : List Int) : List Int)).bind fun y180 => (if y177.length + y180.length < 140737488355328 then ((some (y177 ++ y180 : List Int)).bind fun y183 => ((some (x1_1.take (ji12 : Int).toNat : List Int)).bind fun y186 => (if y183.length + y186.length < 140737488355328 then (impl_logPieces.l0 kj12 a0 (x1_1.drop (ji12 : Int).toNat) (y183 ++ y186) ((ji12) == (x1_1.length : Int)) true) else (none)))) else (none)))) else (none))) else (none)) else (none))) else (if 0 ≤ ji12 then (if ji12 ≤ (x1_1.length : Int) then ((impl_check.f kj12 2 (x1_1.take (ji12 : Int).toNat)).bind fun t204 => (if y106.length + t204.length < 140737488355328 then ((some (y106 ++ t204 : List Int)).bind fun y207 => ((some (([(ji12) % 256, 2] : List Int) : List Int)).bind fun y210 => (if y207.length + y210.length < 140737488355328 then ((some (y207 ++ y210 : List Int)).bind fun y213 => ((some (x1_1.take (ji12 : Int).toNat : List Int)).bind fun y216 => (if y213.length + y216.length < 140737488355328 then (impl_logPieces.l0 kj12 a0 (x1_1.drop (ji12 : Int).toNat) (y213 ++ y216) ((ji12) == (x1_1.length : Int)) true) else (none)))) else (none)))) else (none))) else (none)) else (none))) = some r := by rw [if_neg (show ¬ (false = true) by decide)] at H; exact H
                 clear H
                 have H := H1
                 clear H1
                 by_cases c41 : x7_1 = true
                 · subst c41
                   have H1 : (if ((ji12) == (x1_1.length : Int)) = true then (if 0 ≤ ji12 then (if ji12 ≤ (x1_1.length : Int) then ((impl_check.f kj12 4 (x1_1.take (ji12 : Int).toNat)).bind fun t144 => (if y106.length + t144.length < 140737488355328 then ((some (y106 ++ t144 : List Int)).bind fun y147 => ((some (([(ji12) % 256, 4] : List Int) : List Int)).bind fun y150 => (if y147.length + y150.length < 140737488355328 then ((some (y147 ++ y150 : List Int)).bind fun y153 => ((some (x1_1.take (ji12 : Int).toNat : List Int)).bind fun y156 => (if y153.length + y156.length < 140737488355328 then (impl_logPieces.l0 kj12 a0 (x1_1.drop (ji12 : Int).toNat) (y153 ++ y156) ((ji12) == (x1_1.length : Int)) true) else (none)))) else (none)))) else (none))) else (none)) else (none)) else (if 0 ≤ ji12 then (if ji12 ≤ (x1_1.length : Int) then ((impl_check.f kj12 3 (x1_1.take (ji12 : Int).toNat)).bind fun t174 => (if y106.length + t174.length < 140737488355328 then ((some (y106 ++ t174 : List Int)).bind fun y177 => ((some (([(ji12) % 256, 3] : List Int) : List Int)).bind fun y180 => (if y177.length + y180.length < 140737488355328 then ((some (y177 ++ y180 : List Int)).bind fun y183 => ((some (x1_1.take (ji12 : Int).toNat : List Int)).bind fun y186 => (if y183.length + y186.length < 140737488355328 then (impl_logPieces.l0 kj12 a0 (x1_1.drop (ji12 : Int).toNat) (y183 ++ y186) ((ji12) == (x1_1.length : Int)) true) else (none)))) else (none)))) else (none))) else (none)) else (none))) = some r := by rw [if_pos rfl] at H; exact H
                   clear H
                   have H := H1
                   clear H1
                   by_cases c42 : ((ji12) == (x1_1.length : Int)) = true
                   · rw [if_pos c42] at H
                     have c42b0 : ((ji12) == (x1_1.length : Int)) = true := c42
                     (try (have c42b1 : decide ((ji12) = (x1_1.length : Int)) = true := by simpa using c42))
                     (try (have c42b2 : ((ji12) == (x1_1.length : Int)) = true := by simpa using c42))
                     clear c42
                     by_cases c43 : 0 ≤ ji12
                     · rw [if_pos c43] at H
                       have c43b0 := eq_true c43
                       have c43b1 : decide (0 ≤ ji12) = true := decide_eq_true c43
                       clear c43
                       by_cases c44 : ji12 ≤ (x1_1.length : Int)
                       · rw [if_pos c44] at H
                         have c44b0 := eq_true c44
                         have c44b1 : decide (ji12 ≤ (x1_1.length : Int)) = true := decide_eq_true c44
                         clear c44
                         obtain ⟨y139, hy139⟩ : ∃ y_ : List Int, y_ = (x1_1.take (ji12 : Int).toNat) := ⟨_, rfl⟩
                         replace H : ((impl_check.f kj12 4 y139).bind fun t144 => (if y106.length + t144.length < 140737488355328 then ((some (y106 ++ t144 : List Int)).bind fun y147 => ((some (([(ji12) % 256, 4] : List Int) : List Int)).bind fun y150 => (if y147.length + y150.length < 140737488355328 then ((some (y147 ++ y150 : List Int)).bind fun y153 => ((some (x1_1.take (ji12 : Int).toNat : List Int)).bind fun y156 => (if y153.length + y156.length < 140737488355328 then (impl_logPieces.l0 kj12 a0 (x1_1.drop (ji12 : Int).toNat) (y153 ++ y156) ((ji12) == (x1_1.length : Int)) true) else (none)))) else (none)))) else (none))) = some r := by first | (rw [hy139]; with_reducible exact H) | (have H2_ := (Option.bind_some _ _).symm.trans H; rw [hy139]; with_reducible exact H2_) | (have H2_ := (Option.bind_some _ _).symm.trans H; with_reducible exact H2_) | with_reducible exact H | (rw [hy139]; exact H) | exact H
                         have Ny139 := Aside0.mk hy139
                         clear hy139
                         replace H := Option.bind_eq_some_iff.mp H
                         obtain ⟨t144, A450, H⟩ := H
                         try dsimp only at H
                         have A45 := Aside0.mk A450
                         clear A450
                         by_cases c46 : y106.length + t144.length < 140737488355328
                         · rw [if_pos c46] at H
                           have LMc46 := Aside0.mk c46
                           clear c46
                           obtain ⟨y147, hy147⟩ : ∃ y_ : List Int, y_ = (y106 ++ t144) := ⟨_, rfl⟩
                           replace H : ((some (([(ji12) % 256, 4] : List Int) : List Int)).bind fun y150 => (if y147.length + y150.length < 140737488355328 then ((some (y147 ++ y150 : List Int)).bind fun y153 => ((some (x1_1.take (ji12 : Int).toNat : List Int)).bind fun y156 => (if y153.length + y156.length < 140737488355328 then (impl_logPieces.l0 kj12 a0 (x1_1.drop (ji12 : Int).toNat) (y153 ++ y156) ((ji12) == (x1_1.length : Int)) true) else (none)))) else (none))) = some r := by first | (rw [hy147]; with_reducible exact H) | (have H2_ := (Option.bind_some _ _).symm.trans H; rw [hy147]; with_reducible exact H2_) | (have H2_ := (Option.bind_some _ _).symm.trans H; with_reducible exact H2_) | with_reducible exact H | (rw [hy147]; exact H) | exact H
                           have Ny147 := Aside0.mk hy147
                           clear hy147
                           obtain ⟨y150, hy150⟩ : ∃ y_ : List Int, y_ = (([(ji12) % 256, 4] : List Int)) := ⟨_, rfl⟩
                           replace H : (if y147.length + y150.length < 140737488355328 then ((some (y147 ++ y150 : List Int)).bind fun y153 => ((some (x1_1.take (ji12 : Int).toNat : List Int)).bind fun y156 => (if y153.length + y156.length < 140737488355328 then (impl_logPieces.l0 kj12 a0 (x1_1.drop (ji12 : Int).toNat) (y153 ++ y156) ((ji12) == (x1_1.length : Int)) true) else (none)))) else (none)) = some r := by first | (rw [hy150]; with_reducible exact H) | (have H2_ := (Option.bind_some _ _).symm.trans H; rw [hy150]; with_reducible exact H2_) | (have H2_ := (Option.bind_some _ _).symm.trans H; with_reducible exact H2_) | with_reducible exact H | (rw [hy150]; exact H) | exact H
                           have Ny150 := Aside0.mk hy150
                           clear hy150
                           by_cases c47 : y147.length + y150.length < 140737488355328
                           · rw [if_pos c47] at H
                             have LMc47 := Aside0.mk c47
                             clear c47
                             obtain ⟨y153, hy153⟩ : ∃ y_ : List Int, y_ = (y147 ++ y150) := ⟨_, rfl⟩
                             replace H : ((some (x1_1.take (ji12 : Int).toNat : List Int)).bind fun y156 => (if y153.length + y156.length < 140737488355328 then (impl_logPieces.l0 kj12 a0 (x1_1.drop (ji12 : Int).toNat) (y153 ++ y156) ((ji12) == (x1_1.length : Int)) true) else (none))) = some r := by first | (rw [hy153]; with_reducible exact H) | (have H2_ := (Option.bind_some _ _).symm.trans H; rw [hy153]; with_reducible exact H2_) | (have H2_ := (Option.bind_some _ _).symm.trans H; with_reducible exact H2_) | with_reducible exact H | (rw [hy153]; exact H) | exact H
                             have Ny153 := Aside0.mk hy153
                             clear hy153
                             have c48b0 := eq_true (of_decide_eq_true z1200 : 0 ≤ ji12)
                             have c49b0 := eq_true (of_decide_eq_true z1200 : ji12 ≤ (x1_1.length : Int))
                             obtain ⟨y156, hy156⟩ : ∃ y_ : List Int, y_ = (x1_1.take (ji12 : Int).toNat) := ⟨_, rfl⟩
                             replace H : (if y153.length + y156.length < 140737488355328 then (impl_logPieces.l0 kj12 a0 (x1_1.drop (ji12 : Int).toNat) (y153 ++ y156) ((ji12) == (x1_1.length : Int)) true) else (none)) = some r := by first | (rw [hy156]; with_reducible exact H) | (have H2_ := (Option.bind_some _ _).symm.trans H; rw [hy156]; with_reducible exact H2_) | (have H2_ := (Option.bind_some _ _).symm.trans H; with_reducible exact H2_) | with_reducible exact H | (rw [hy156]; exact H) | exact H
                             have Ny156 := Aside0.mk hy156
                             clear hy156
                             by_cases c50 : y153.length + y156.length < 140737488355328
                             · rw [if_pos c50] at H
                               have LMc50 := Aside0.mk c50
                               clear c50
                               obtain ⟨y161, hy161⟩ : ∃ y_ : List Int, y_ = (y153 ++ y156) := ⟨_, rfl⟩
                               replace H : (impl_logPieces.l0 kj12 a0 (x1_1.drop (ji12 : Int).toNat) y161 ((ji12) == (x1_1.length : Int)) true) = some r := by first | (rw [hy161]; with_reducible exact H) | (have H2_ := (Option.bind_some _ _).symm.trans H; rw [hy161]; with_reducible exact H2_) | (have H2_ := (Option.bind_some _ _).symm.trans H; with_reducible exact H2_) | with_reducible exact H | (rw [hy161]; exact H) | exact H
                               have Ny161 := Aside0.mk hy161
                               clear hy161
                               have c51b0 := eq_true (of_decide_eq_true z1200 : 0 ≤ ji12)
                               have c52b0 := eq_true (of_decide_eq_true z1200 : ji12 ≤ (x1_1.length : Int))
                               obtain ⟨y164, hy164⟩ : ∃ y_ : List Int, y_ = (x1_1.drop (ji12 : Int).toNat) := ⟨_, rfl⟩
                               replace H : (impl_logPieces.l0 kj12 a0 y164 y161 ((ji12) == (x1_1.length : Int)) true) = some r := by first | (rw [hy164]; with_reducible exact H) | (have H2_ := (Option.bind_some _ _).symm.trans H; rw [hy164]; with_reducible exact H2_) | (have H2_ := (Option.bind_some _ _).symm.trans H; with_reducible exact H2_) | with_reducible exact H | (rw [hy164]; exact H) | exact H
                               have Ny164 := Aside0.mk hy164
                               clear hy164
                               have H' := Aside0.mk H
                               clear H
                               have q53 : (ji12 : Int) ≤ ((x1_1.length : Int) : Int) := of_decide_eq_true z1200
                               obtain ⟨i053, hi053, _, hsz53, _⟩ := info_parts info5
                               have hroom53 : x1_1.length ≤ co17 := (Kd.V_reads' HO_1.out).2.1
                               have hC53 : Kd.F (Kd.int .u8) _ _ Ao17 x1_1.length x1_1 := (Kd.V_at (base := w.heap.size) HO_1.out).2.2
                               (try clear hcut30)
                               (try clear hcut38)
                               (try clear hcut53)
                               have hcut53 := cut_to (P := Try.prog) 22 5 .i64 Try.underlying22 hi053 Ao17 x1_1.length co17 ji12 (of_decide_eq_true z1200) q53 hroom53
                               have hr53 := Kd.F_take (m := (ji12 : Int).toNat) hC53 (by omega)
                               have hy53 : y139.length = (ji12 : Int).toNat := (by rw [Ny139.out, List.length_take]; omega)
                               rw [← Ny139.out] at hr53
                               rw [← hy53] at hcut53
                               have HO143 := Aside0.mk (show Kd.V (Kd.int .u8) 5 _ w.heap.size _ (.slice Ao17 y139.length co17) y139 from Kd.V_mk (by omega) hr53)
                               have HC143 := Aside0.mk (show y139.length ≤ co17 from by omega)
                               clear hr53 hC53 hroom53 hi053 hsz53
                               have KY53 := Aside0.mk hy53
                               clear hy53
                               replace q53 := eq_true q53
                               go_wp2_with (first | ((with_reducible refine gate_callee (f := 71) rfl ?_); refine goesL_ (some 54) rfl rfl Try.func71 (by kernel_rfl) rfl #[.int .u8 4, .slice Ao17 y139.length co17] rfl zee81 ?_; (with_reducible refine (impl_check.calls kj12 4 _ _ y139 t144 _ ?side1 ?side2 A45.out).mono ?_); (case side1 => exact (by repeat (first | exact (Kd.V_reads' HO143.out).2.2 | (with_reducible refine Kd.C_alloc ?_ _) | (with_reducible refine Kd.C_drewN ?_ _) | (with_reducible refine Kd.C_drew ?_)))); (case side2 => exact (Kd.V_reads' HO143.out).2.1); rintro e w54 ⟨v145, rfl, ho0, hb⟩; refine ⟨_, rfl, ?_⟩; have n0_ := Aside0.mk (Kd.V_elder' (vZ HO_1.out) (Kd.R_base ho0) hb); have n1_ := Aside0.mk (Kd.R_elder' (rZ HO_5.out) (Kd.R_base ho0) hb); have n2_ := Aside0.mk (Kd.V_elder' (vZ HO143.out) (Kd.R_base ho0) hb); have n3_ := Aside0.mk (Kd.R_lower (Kd.R_new' (Kd.R_newM (M := fun k_ => (w.heap.size ≤ k_)) ho0 (below_size hbZ) (fun k_ h_ => h_)) (Kd.R_lt (rZ HO_5.out))) (below_size hbZ)); have n4_ := Aside0.mk (below_step hbZ hb); clear HO_1 HO_5 HO143 HB; have HO_1 := n0_; have HO_5 := n1_; have HO143 := n2_; have HO146 := n3_; have HB := n4_; clear n0_ n1_ n2_ n3_ n4_; (try clear hb); (try clear hb2); (try clear hk); (try clear hi); (try clear ho0); obtain ⟨Ao56, co56, eo56⟩ := Kd.R_slice HO146.out; subst eo56) | ((with_reducible refine gate_builtin (b := .append) (xs := #[.tmp 49, .tmp 54]) rfl ?_); at_builtin; refine Kd.R_append_rows (Kd.int .u8) (w0 := w) w.heap.size rfl (.tmp 49) (.tmp 54) 22 5 (.int .u8 0) 1 rfl Try.underlying22 info5 rfl (by decide) (by omega) (.slice Ao16 y106.length co16) y106 t144 _ _ _ (fun k_ => (w.heap.size ≤ k_) ∧ some k_ ≠ (.slice Ao56 t144.length co56 : Value).ownBlock) (fun _ => False) rfl rfl ?aO ?aR (fun _ _ h => h) (fun _ h => h.elim) ?aF ?aB ?aS ?aL ?_; (case aR => repeat (first | exact (Kd.R_reads' HO146.out).2.2 | (with_reducible refine Kd.C_alloc ?_ _) | (with_reducible refine Kd.C_drewN ?_ _) | (with_reducible refine Kd.C_drew ?_))); (case aB => exact hbZ); (case aF => exact (fun k_ hk => ⟨(Nat.le_trans (below_size hbZ) hk), Kd.fresh' (Kd.R_lt (rZ HO146.out)) k_ hk⟩)); (case aO => exact (rZ HO_5.out)); (case aS => exact (below_size hbZ)); (case aL => have := LMc46.out; omega); intro v148 w55 ho hb hg hat; rw [← Ny147.out] at ho; have n0_ := Aside0.mk (Kd.V_afterv (ok := (fun k_ => (P1_ k_ ∨ w.heap.size ≤ k_) ∧ some k_ ≠ (.slice Ao56 t144.length co56 : Value).ownBlock)) z2541 hg hat); have n1_ := Aside0.mk (Kd.V_afterv (ok := (fun k_ => (P1_ k_ ∨ w.heap.size ≤ k_) ∧ some k_ ≠ (.slice Ao56 t144.length co56 : Value).ownBlock)) (by (with_reducible repeat (first | apply Kd.V_alloc | apply Kd.V_drewN | apply Kd.V_drew)); exact Kd.V_mono HO143.out (fun _ hk => ⟨⟨hk.1.1, hk.2⟩, hk.1.2⟩)) hg hat); have n2_ := Aside0.mk (Kd.R_after (ok := (fun k_ => (w.heap.size ≤ k_))) (by (with_reducible repeat (first | apply Kd.R_alloc | apply Kd.R_drewN | apply Kd.R_drew)); exact Kd.R_mono HO146.out (fun _ hk => ⟨hk.1.1, hk.2⟩)) hg hat); have n3_ := Aside0.mk hb; have n4_ := Aside0.mk ho; clear HO_1 HO143 HO146 HB HO_5; have HO_1 := n0_; have HO143 := n1_; have HO146 := n2_; have HB := n3_; have HO149 := n4_; clear n0_ n1_ n2_ n3_ n4_; clear ho hb hg hat) | ((with_reducible refine gate_dst (N := 59) rfl ?_); refine Kd.R_lit (Kd.int .u8) _ 5 ?hg (N := 59) ?hd (xs := ([(ji12) % 256, 4] : List Int)) (inner := [.int .u8 ((ji12) % 256), .int .u8 4]) (ok := fun _ => True) (okp := fun _ => True) ?hr ?hp (fun _ hk => hk) trivial (Below.refl _ _) (Nat.le_refl _) (by simp) ?_; (case hd => rfl); (case hg => rfl); (case hr => first | (go_simp; done) | (go_simp; rfl)); (case hp => exact (Reps.one (show Kd.M (Kd.int .u8) _ _ _ ((ji12) % 256) [.int .u8 ((ji12) % 256)] from rfl) (Reps.one (show Kd.M (Kd.int .u8) _ _ _ 4 [.int .u8 4] from rfl) (Reps.none _ _)))); intro v151 w57 ho58 hb hg_ hnew_; clear hg_ hnew_; (first | rw [← Ny150.out] at ho58 | (simp only [Int.reduceToNat] at ho58; rw [← Ny150.out] at ho58)); have n0_ := Aside0.mk (Kd.V_elder' (vZ HO_1.out) (Kd.R_base ho58) hb); have n1_ := Aside0.mk (Kd.V_elder' (vZ HO143.out) (Kd.R_base ho58) hb); have n2_ := Aside0.mk (Kd.R_elder' (rZ HO146.out) (Kd.R_base ho58) hb); have n3_ := Aside0.mk (Kd.R_elder' (rZ HO149.out) (Kd.R_base ho58) hb); have n4_ := Aside0.mk (Kd.R_lower (Kd.R_new' (Kd.R_new' (Kd.R_newM (M := fun k_ => (w.heap.size ≤ k_)) ho58 (below_size hbZ) (fun k_ h_ => h_)) (Kd.R_lt (rZ HO146.out))) (Kd.R_lt (rZ HO149.out))) (below_size hbZ)); have n5_ := Aside0.mk (below_step hbZ hb); clear HO_1 HO143 HO146 HO149 HB; have HO_1 := n0_; have HO143 := n1_; have HO146 := n2_; have HO149 := n3_; have HO152 := n4_; have HB := n5_; clear n0_ n1_ n2_ n3_ n4_ n5_; clear hb ho58; obtain ⟨Ao60, co60, eo60⟩ := Kd.R_slice HO152.out; subst eo60) | ((with_reducible refine gate_builtin (b := .append) (xs := #[.tmp 55, .tmp 59]) rfl ?_); at_builtin; refine Kd.R_append_rows (Kd.int .u8) (w0 := w) w.heap.size rfl (.tmp 55) (.tmp 59) 22 5 (.int .u8 0) 1 rfl Try.underlying22 info5 rfl (by decide) (by omega) v148 y147 y150 _ _ _ (fun k_ => (w.heap.size ≤ k_) ∧ some k_ ≠ (.slice Ao56 t144.length co56 : Value).ownBlock ∧ some k_ ≠ (.slice Ao60 y150.length co60 : Value).ownBlock) (fun _ => False) rfl rfl ?aO ?aR (fun _ _ h => h) (fun _ h => h.elim) ?aF ?aB ?aS ?aL ?_; (case aR => repeat (first | exact (Kd.R_reads' HO152.out).2.2 | (with_reducible refine Kd.C_alloc ?_ _) | (with_reducible refine Kd.C_drewN ?_ _) | (with_reducible refine Kd.C_drew ?_))); (case aB => exact hbZ); (case aF => exact (fun k_ hk => ⟨(Nat.le_trans (below_size hbZ) hk), Kd.fresh' (Kd.R_lt (rZ HO146.out)) k_ hk, Kd.fresh' (Kd.R_lt (rZ HO152.out)) k_ hk⟩)); (case aO => exact (by (with_reducible repeat (first | apply Kd.R_alloc | apply Kd.R_drewN | apply Kd.R_drew)); exact Kd.R_mono HO149.out (fun _ hk => ⟨hk.1.1, ⟨hk.1.2, hk.2⟩⟩))); (case aS => exact (below_size hbZ)); (case aL => have := LMc47.out; omega); intro v154 w59 ho hb hg hat; rw [← Ny153.out] at ho; have n0_ := Aside0.mk (Kd.V_afterv (ok := (fun k_ => (P1_ k_ ∨ w.heap.size ≤ k_) ∧ some k_ ≠ (.slice Ao56 t144.length co56 : Value).ownBlock ∧ some k_ ≠ (.slice Ao60 y150.length co60 : Value).ownBlock)) z4485 hg hat); have n1_ := Aside0.mk (Kd.V_afterv (ok := (fun k_ => (P1_ k_ ∨ w.heap.size ≤ k_) ∧ some k_ ≠ (.slice Ao56 t144.length co56 : Value).ownBlock ∧ some k_ ≠ (.slice Ao60 y150.length co60 : Value).ownBlock)) (by (with_reducible repeat (first | apply Kd.V_alloc | apply Kd.V_drewN | apply Kd.V_drew)); exact Kd.V_mono HO143.out (fun _ hk => ⟨⟨hk.1.1.1, ⟨hk.1.1.2, hk.2⟩⟩, hk.1.2⟩)) hg hat); have n2_ := Aside0.mk (Kd.R_after (ok := (fun k_ => (w.heap.size ≤ k_) ∧ some k_ ≠ (.slice Ao60 y150.length co60 : Value).ownBlock)) (by (with_reducible repeat (first | apply Kd.R_alloc | apply Kd.R_drewN | apply Kd.R_drew)); exact Kd.R_mono HO146.out (fun _ hk => ⟨⟨hk.1.1, hk.2⟩, hk.1.2⟩)) hg hat); have n3_ := Aside0.mk (Kd.R_after (ok := (fun k_ => (w.heap.size ≤ k_) ∧ some k_ ≠ (.slice Ao56 t144.length co56 : Value).ownBlock)) (by (with_reducible repeat (first | apply Kd.R_alloc | apply Kd.R_drewN | apply Kd.R_drew)); exact Kd.R_mono HO152.out (fun _ hk => ⟨⟨hk.1.1.1, hk.1.2⟩, hk.2⟩)) hg hat); have n4_ := Aside0.mk hb; have n5_ := Aside0.mk ho; clear HO_1 HO143 HO146 HO152 HB HO149; have HO_1 := n0_; have HO143 := n1_; have HO146 := n2_; have HO152 := n3_; have HB := n4_; have HO155 := n5_; clear n0_ n1_ n2_ n3_ n4_ n5_; clear ho hb hg hat; have q61 : (ji12 : Int) ≤ ((x1_1.length : Int) : Int) := of_decide_eq_true z1200; obtain ⟨i061, hi061, _, hsz61, _⟩ := info_parts info5; have hroom61 : x1_1.length ≤ co17 := (Kd.V_reads' HO_1.out).2.1; have hC61 : Kd.F (Kd.int .u8) _ _ Ao17 x1_1.length x1_1 := (Kd.V_at (base := w.heap.size) HO_1.out).2.2; (try clear hcut38); (try clear hcut53); (try clear hcut61); have hcut61 := cut_to (P := Try.prog) 22 5 .i64 Try.underlying22 hi061 Ao17 x1_1.length co17 ji12 (of_decide_eq_true z1200) q61 hroom61; have hr61 := Kd.F_take (m := (ji12 : Int).toNat) hC61 (by omega); have hy61 : y156.length = (ji12 : Int).toNat := (by rw [Ny156.out, List.length_take]; omega); rw [← Ny156.out] at hr61; rw [← hy61] at hcut61; have HO160 := Aside0.mk (show Kd.V (Kd.int .u8) 5 _ w.heap.size _ (.slice Ao17 y156.length co17) y156 from Kd.V_mk (by omega) hr61); have HC160 := Aside0.mk (show y156.length ≤ co17 from by omega); clear hr61 hC61 hroom61 hi061 hsz61; have KY61 := Aside0.mk hy61; clear hy61; replace q61 := eq_true q61) | ((with_reducible refine gate_builtin (b := .append) (xs := #[.tmp 61, .tmp 64]) rfl ?_); at_builtin; refine Kd.R_append_rows (Kd.int .u8) (w0 := w) w.heap.size rfl (.tmp 61) (.tmp 64) 22 5 (.int .u8 0) 1 rfl Try.underlying22 info5 rfl (by decide) (by omega) v154 y153 y156 _ _ _ (fun k_ => (w.heap.size ≤ k_) ∧ some k_ ≠ (.slice Ao56 t144.length co56 : Value).ownBlock ∧ some k_ ≠ (.slice Ao60 y150.length co60 : Value).ownBlock) (fun _ => False) rfl rfl ?aO ?aR (fun _ _ h => h) (fun _ h => h.elim) ?aF ?aB ?aS ?aL ?_; (case aR => repeat (first | exact (Kd.V_reads' HO160.out).2.2 | (with_reducible refine Kd.C_alloc ?_ _) | (with_reducible refine Kd.C_drewN ?_ _) | (with_reducible refine Kd.C_drew ?_))); (case aB => exact hbZ); (case aF => exact (fun k_ hk => ⟨(Nat.le_trans (below_size hbZ) hk), Kd.fresh' (Kd.R_lt (rZ HO146.out)) k_ hk, Kd.fresh' (Kd.R_lt (rZ HO152.out)) k_ hk⟩)); (case aO => exact (rZ HO155.out)); (case aS => exact (below_size hbZ)); (case aL => have := LMc50.out; omega); intro v162 w62 ho hb hg hat; rw [← Ny161.out] at ho; have n0_ := Aside0.mk (Kd.V_afterv (ok := (fun k_ => (P1_ k_ ∨ w.heap.size ≤ k_) ∧ some k_ ≠ (.slice Ao56 t144.length co56 : Value).ownBlock ∧ some k_ ≠ (.slice Ao60 y150.length co60 : Value).ownBlock)) (vZ HO_1.out) hg hat); have n1_ := Aside0.mk (Kd.V_afterv (ok := (fun k_ => (P1_ k_ ∨ w.heap.size ≤ k_) ∧ some k_ ≠ (.slice Ao56 t144.length co56 : Value).ownBlock ∧ some k_ ≠ (.slice Ao60 y150.length co60 : Value).ownBlock)) (vZ HO143.out) hg hat); have n2_ := Aside0.mk (Kd.R_after (ok := (fun k_ => (w.heap.size ≤ k_) ∧ some k_ ≠ (.slice Ao60 y150.length co60 : Value).ownBlock)) (rZ HO146.out) hg hat); have n3_ := Aside0.mk (Kd.R_after (ok := (fun k_ => (w.heap.size ≤ k_) ∧ some k_ ≠ (.slice Ao56 t144.length co56 : Value).ownBlock)) (rZ HO152.out) hg hat); have n4_ := Aside0.mk (Kd.V_afterv (ok := (fun k_ => (P1_ k_ ∨ w.heap.size ≤ k_) ∧ some k_ ≠ (.slice Ao56 t144.length co56 : Value).ownBlock ∧ some k_ ≠ (.slice Ao60 y150.length co60 : Value).ownBlock)) (vZ HO160.out) hg hat); have n5_ := Aside0.mk hb; have n6_ := Aside0.mk ho; clear HO_1 HO143 HO146 HO152 HO160 HB HO155; have HO_1 := n0_; have HO143 := n1_; have HO146 := n2_; have HO152 := n3_; have HO160 := n4_; have HB := n5_; have HO163 := n6_; clear n0_ n1_ n2_ n3_ n4_ n5_ n6_; clear ho hb hg hat; have q63 : (ji12 : Int) ≤ ((x1_1.length : Int) : Int) := of_decide_eq_true z1200; obtain ⟨i063, hi063, _, hsz63, _⟩ := info_parts info5; have hroom63 : x1_1.length ≤ co17 := (Kd.V_reads' HO_1.out).2.1; have hC63 : Kd.F (Kd.int .u8) _ _ Ao17 x1_1.length x1_1 := (Kd.V_at (base := w.heap.size) HO_1.out).2.2; have q063 : (0 : Int) ≤ (ji12 : Int) := of_decide_eq_true z1200; (try clear hcut40); (try clear hcut63); have hcut63 := cut_from (P := Try.prog) 22 5 .i64 Try.underlying22 hi063 1 hsz63 Ao17 x1_1.length co17 ji12 q063 q63; have hr63 := Kd.F_cut (m := (ji12 : Int).toNat) (c := co17) hC63 (by omega) hroom63; obtain ⟨A63, hA63⟩ : ∃ A1, A1 = (if co17 = (ji12 : Int).toNat then Ao17 else (Ao17 : Option Addr).map (·.add ((ji12 : Int).toNat * 1))) := ⟨_, rfl⟩; obtain ⟨c63, hc63⟩ : ∃ c1, c1 = co17 - (ji12 : Int).toNat := ⟨_, rfl⟩; have hy63 : y164.length = x1_1.length - (ji12 : Int).toNat := (by rw [Ny164.out, List.length_drop] <;> omega); rw [show (x1_1).drop (ji12 : Int).toNat = y164 from Ny164.out.symm] at hr63; replace hr63 : Kd.F (Kd.int .u8) _ _ A63 y164.length y164 := (by rw [hA63]; exact hr63); rw [← hy63, ← hA63, ← hc63] at hcut63; have HO168 := Aside0.mk (show Kd.V (Kd.int .u8) 5 _ w.heap.size _ (.slice A63 y164.length c63) y164 from Kd.V_mk (by rw [hy63, hc63]; exact Nat.sub_le_sub_right hroom63 _) hr63); have HC168 := Aside0.mk (show y164.length ≤ c63 from by rw [hy63, hc63]; exact Nat.sub_le_sub_right hroom63 _); clear hr63 hC63 hroom63 hi063 hsz63 hc63; have KY63 := Aside0.mk hy63; have KA63 := Aside0.mk hA63; clear hy63 hA63; replace q63 := eq_true q63))
                               go_roundg kj12
                               case measure => have := HK1.out; have := HJ12.out; omega
                               case rel => exact ⟨(y164), (y161), (((ji12) == (x1_1.length : Int))), (true), ze505, z4458, H', ⟨by have := HK1.out; have := HJ12.out; omega⟩, ⟨by (with_reducible repeat (first | apply Kd.V_alloc | apply Kd.V_drewN | apply Kd.V_drew)); exact Kd.V_mono HO168.out (fun _ hk => ⟨hk.1.1, hk.2⟩)⟩, ⟨by (with_reducible repeat (first | apply Kd.R_alloc | apply Kd.R_drewN | apply Kd.R_drew)); exact Kd.R_mono HO163.out (fun _ hk => hk.1)⟩, ⟨z5acd⟩⟩
                             · rw [if_neg c50] at H
                               exact absurd H (by simp)
                           · rw [if_neg c47] at H
                             exact absurd H (by simp)
                         · rw [if_neg c46] at H
                           exact absurd H (by simp)
                       · rw [if_neg c44] at H
                         exact absurd H (by simp)
                     · rw [if_neg c43] at H
                       exact absurd H (by simp)
                   · rw [if_neg c42] at H
                     have c42b0 : ((ji12) == (x1_1.length : Int)) = false := by simpa using c42
                     (try (have c42b1 : decide ((ji12) = (x1_1.length : Int)) = false := by simpa using c42))
                     (try (have c42b2 : ((ji12) == (x1_1.length : Int)) = false := by simpa using c42))
                     (try (have c42b3 : ¬ ((ji12) = (x1_1.length : Int)) := by simpa using c42))
                     clear c42
                     by_cases c64 : 0 ≤ ji12
                     · rw [if_pos c64] at H
                       have c64b0 := eq_true c64
                       have c64b1 : decide (0 ≤ ji12) = true := decide_eq_true c64
                       clear c64
                       by_cases c65 : ji12 ≤ (x1_1.length : Int)
                       · rw [if_pos c65] at H
                         have c65b0 := eq_true c65
                         have c65b1 : decide (ji12 ≤ (x1_1.length : Int)) = true := decide_eq_true c65
                         clear c65
                         obtain ⟨y169, hy169⟩ : ∃ y_ : List Int, y_ = (x1_1.take (ji12 : Int).toNat) := ⟨_, rfl⟩
                         replace H : ((impl_check.f kj12 3 y169).bind fun t174 => (if y106.length + t174.length < 140737488355328 then ((some (y106 ++ t174 : List Int)).bind fun y177 => ((some (([(ji12) % 256, 3] : List Int) : List Int)).bind fun y180 => (if y177.length + y180.length < 140737488355328 then ((some (y177 ++ y180 : List Int)).bind fun y183 => ((some (x1_1.take (ji12 : Int).toNat : List Int)).bind fun y186 => (if y183.length + y186.length < 140737488355328 then (impl_logPieces.l0 kj12 a0 (x1_1.drop (ji12 : Int).toNat) (y183 ++ y186) ((ji12) == (x1_1.length : Int)) true) else (none)))) else (none)))) else (none))) = some r := by first | (rw [hy169]; with_reducible exact H) | (have H2_ := (Option.bind_some _ _).symm.trans H; rw [hy169]; with_reducible exact H2_) | (have H2_ := (Option.bind_some _ _).symm.trans H; with_reducible exact H2_) | with_reducible exact H | (rw [hy169]; exact H) | exact H
                         have Ny169 := Aside0.mk hy169
                         clear hy169
                         replace H := Option.bind_eq_some_iff.mp H
                         obtain ⟨t174, A660, H⟩ := H
                         try dsimp only at H
                         have A66 := Aside0.mk A660
                         clear A660
                         by_cases c67 : y106.length + t174.length < 140737488355328
                         · rw [if_pos c67] at H
                           have LMc67 := Aside0.mk c67
                           clear c67
                           obtain ⟨y177, hy177⟩ : ∃ y_ : List Int, y_ = (y106 ++ t174) := ⟨_, rfl⟩
                           replace H : ((some (([(ji12) % 256, 3] : List Int) : List Int)).bind fun y180 => (if y177.length + y180.length < 140737488355328 then ((some (y177 ++ y180 : List Int)).bind fun y183 => ((some (x1_1.take (ji12 : Int).toNat : List Int)).bind fun y186 => (if y183.length + y186.length < 140737488355328 then (impl_logPieces.l0 kj12 a0 (x1_1.drop (ji12 : Int).toNat) (y183 ++ y186) ((ji12) == (x1_1.length : Int)) true) else (none)))) else (none))) = some r := by first | (rw [hy177]; with_reducible exact H) | (have H2_ := (Option.bind_some _ _).symm.trans H; rw [hy177]; with_reducible exact H2_) | (have H2_ := (Option.bind_some _ _).symm.trans H; with_reducible exact H2_) | with_reducible exact H | (rw [hy177]; exact H) | exact H
                           have Ny177 := Aside0.mk hy177
                           clear hy177
                           obtain ⟨y180, hy180⟩ : ∃ y_ : List Int, y_ = (([(ji12) % 256, 3] : List Int)) := ⟨_, rfl⟩
                           replace H : (if y177.length + y180.length < 140737488355328 then ((some (y177 ++ y180 : List Int)).bind fun y183 => ((some (x1_1.take (ji12 : Int).toNat : List Int)).bind fun y186 => (if y183.length + y186.length < 140737488355328 then (impl_logPieces.l0 kj12 a0 (x1_1.drop (ji12 : Int).toNat) (y183 ++ y186) ((ji12) == (x1_1.length : Int)) true) else (none)))) else (none)) = some r := by first | (rw [hy180]; with_reducible exact H) | (have H2_ := (Option.bind_some _ _).symm.trans H; rw [hy180]; with_reducible exact H2_) | (have H2_ := (Option.bind_some _ _).symm.trans H; with_reducible exact H2_) | with_reducible exact H | (rw [hy180]; exact H) | exact H
                           have Ny180 := Aside0.mk hy180
                           clear hy180
                           by_cases c68 : y177.length + y180.length < 140737488355328
                           · rw [if_pos c68] at H
                             have LMc68 := Aside0.mk c68
                             clear c68
                             obtain ⟨y183, hy183⟩ : ∃ y_ : List Int, y_ = (y177 ++ y180) := ⟨_, rfl⟩
                             replace H : ((some (x1_1.take (ji12 : Int).toNat : List Int)).bind fun y186 => (if y183.length + y186.length < 140737488355328 then (impl_logPieces.l0 kj12 a0 (x1_1.drop (ji12 : Int).toNat) (y183 ++ y186) ((ji12) == (x1_1.length : Int)) true) else (none))) = some r := by first | (rw [hy183]; with_reducible exact H) | (have H2_ := (Option.bind_some _ _).symm.trans H; rw [hy183]; with_reducible exact H2_) | (have H2_ := (Option.bind_some _ _).symm.trans H; with_reducible exact H2_) | with_reducible exact H | (rw [hy183]; exact H) | exact H
                             have Ny183 := Aside0.mk hy183
                             clear hy183
                             have c69b0 := eq_true (of_decide_eq_true z1200 : 0 ≤ ji12)
                             have c70b0 := eq_true (of_decide_eq_true z1200 : ji12 ≤ (x1_1.length : Int))
                             obtain ⟨y186, hy186⟩ : ∃ y_ : List Int, y_ = (x1_1.take (ji12 : Int).toNat) := ⟨_, rfl⟩
                             replace H : (if y183.length + y186.length < 140737488355328 then (impl_logPieces.l0 kj12 a0 (x1_1.drop (ji12 : Int).toNat) (y183 ++ y186) ((ji12) == (x1_1.length : Int)) true) else (none)) = some r := by first | (rw [hy186]; with_reducible exact H) | (have H2_ := (Option.bind_some _ _).symm.trans H; rw [hy186]; with_reducible exact H2_) | (have H2_ := (Option.bind_some _ _).symm.trans H; with_reducible exact H2_) | with_reducible exact H | (rw [hy186]; exact H) | exact H
                             have Ny186 := Aside0.mk hy186
                             clear hy186
                             by_cases c71 : y183.length + y186.length < 140737488355328
                             · rw [if_pos c71] at H
                               have LMc71 := Aside0.mk c71
                               clear c71
                               obtain ⟨y191, hy191⟩ : ∃ y_ : List Int, y_ = (y183 ++ y186) := ⟨_, rfl⟩
                               replace H : (impl_logPieces.l0 kj12 a0 (x1_1.drop (ji12 : Int).toNat) y191 ((ji12) == (x1_1.length : Int)) true) = some r := by first | (rw [hy191]; with_reducible exact H) | (have H2_ := (Option.bind_some _ _).symm.trans H; rw [hy191]; with_reducible exact H2_) | (have H2_ := (Option.bind_some _ _).symm.trans H; with_reducible exact H2_) | with_reducible exact H | (rw [hy191]; exact H) | exact H
                               have Ny191 := Aside0.mk hy191
                               clear hy191
                               have c72b0 := eq_true (of_decide_eq_true z1200 : 0 ≤ ji12)
                               have c73b0 := eq_true (of_decide_eq_true z1200 : ji12 ≤ (x1_1.length : Int))
                               obtain ⟨y194, hy194⟩ : ∃ y_ : List Int, y_ = (x1_1.drop (ji12 : Int).toNat) := ⟨_, rfl⟩
                               replace H : (impl_logPieces.l0 kj12 a0 y194 y191 ((ji12) == (x1_1.length : Int)) true) = some r := by first | (rw [hy194]; with_reducible exact H) | (have H2_ := (Option.bind_some _ _).symm.trans H; rw [hy194]; with_reducible exact H2_) | (have H2_ := (Option.bind_some _ _).symm.trans H; with_reducible exact H2_) | with_reducible exact H | (rw [hy194]; exact H) | exact H
                               have Ny194 := Aside0.mk hy194
                               clear hy194
                               have H' := Aside0.mk H
                               clear H
                               have q74 : (ji12 : Int) ≤ ((x1_1.length : Int) : Int) := of_decide_eq_true z1200
                               obtain ⟨i074, hi074, _, hsz74, _⟩ := info_parts info5
                               have hroom74 : x1_1.length ≤ co17 := (Kd.V_reads' HO_1.out).2.1
                               have hC74 : Kd.F (Kd.int .u8) _ _ Ao17 x1_1.length x1_1 := (Kd.V_at (base := w.heap.size) HO_1.out).2.2
                               (try clear hcut53)
                               (try clear hcut61)
                               (try clear hcut74)
                               have hcut74 := cut_to (P := Try.prog) 22 5 .i64 Try.underlying22 hi074 Ao17 x1_1.length co17 ji12 (of_decide_eq_true z1200) q74 hroom74
                               have hr74 := Kd.F_take (m := (ji12 : Int).toNat) hC74 (by omega)
                               have hy74 : y169.length = (ji12 : Int).toNat := (by rw [Ny169.out, List.length_take]; omega)
                               rw [← Ny169.out] at hr74
                               rw [← hy74] at hcut74
                               have HO173 := Aside0.mk (show Kd.V (Kd.int .u8) 5 _ w.heap.size _ (.slice Ao17 y169.length co17) y169 from Kd.V_mk (by omega) hr74)
                               have HC173 := Aside0.mk (show y169.length ≤ co17 from by omega)
                               clear hr74 hC74 hroom74 hi074 hsz74
                               have KY74 := Aside0.mk hy74
                               clear hy74
                               replace q74 := eq_true q74
                               go_wp2_with (first | ((with_reducible refine gate_callee (f := 71) rfl ?_); refine goesL_ (some 54) rfl rfl Try.func71 (by kernel_rfl) rfl #[.int .u8 3, .slice Ao17 y169.length co17] rfl zee81 ?_; (with_reducible refine (impl_check.calls kj12 3 _ _ y169 t174 _ ?side1 ?side2 A66.out).mono ?_); (case side1 => exact (by repeat (first | exact (Kd.V_reads' HO173.out).2.2 | (with_reducible refine Kd.C_alloc ?_ _) | (with_reducible refine Kd.C_drewN ?_ _) | (with_reducible refine Kd.C_drew ?_)))); (case side2 => exact (Kd.V_reads' HO173.out).2.1); rintro e w75 ⟨v175, rfl, ho0, hb⟩; refine ⟨_, rfl, ?_⟩; have n0_ := Aside0.mk (Kd.V_elder' (vZ HO_1.out) (Kd.R_base ho0) hb); have n1_ := Aside0.mk (Kd.R_elder' (rZ HO_5.out) (Kd.R_base ho0) hb); have n2_ := Aside0.mk (Kd.V_elder' (vZ HO173.out) (Kd.R_base ho0) hb); have n3_ := Aside0.mk (Kd.R_lower (Kd.R_new' (Kd.R_newM (M := fun k_ => (w.heap.size ≤ k_)) ho0 (below_size hbZ) (fun k_ h_ => h_)) (Kd.R_lt (rZ HO_5.out))) (below_size hbZ)); have n4_ := Aside0.mk (below_step hbZ hb); clear HO_1 HO_5 HO173 HB; have HO_1 := n0_; have HO_5 := n1_; have HO173 := n2_; have HO176 := n3_; have HB := n4_; clear n0_ n1_ n2_ n3_ n4_; (try clear hb); (try clear hb2); (try clear hk); (try clear hi); (try clear ho0); obtain ⟨Ao77, co77, eo77⟩ := Kd.R_slice HO176.out; subst eo77) | ((with_reducible refine gate_builtin (b := .append) (xs := #[.tmp 49, .tmp 54]) rfl ?_); at_builtin; refine Kd.R_append_rows (Kd.int .u8) (w0 := w) w.heap.size rfl (.tmp 49) (.tmp 54) 22 5 (.int .u8 0) 1 rfl Try.underlying22 info5 rfl (by decide) (by omega) (.slice Ao16 y106.length co16) y106 t174 _ _ _ (fun k_ => (w.heap.size ≤ k_) ∧ some k_ ≠ (.slice Ao77 t174.length co77 : Value).ownBlock) (fun _ => False) rfl rfl ?aO ?aR (fun _ _ h => h) (fun _ h => h.elim) ?aF ?aB ?aS ?aL ?_; (case aR => repeat (first | exact (Kd.R_reads' HO176.out).2.2 | (with_reducible refine Kd.C_alloc ?_ _) | (with_reducible refine Kd.C_drewN ?_ _) | (with_reducible refine Kd.C_drew ?_))); (case aB => exact hbZ); (case aF => exact (fun k_ hk => ⟨(Nat.le_trans (below_size hbZ) hk), Kd.fresh' (Kd.R_lt (rZ HO176.out)) k_ hk⟩)); (case aO => exact (rZ HO_5.out)); (case aS => exact (below_size hbZ)); (case aL => have := LMc67.out; omega); intro v178 w76 ho hb hg hat; rw [← Ny177.out] at ho; have n0_ := Aside0.mk (Kd.V_afterv (ok := (fun k_ => (P1_ k_ ∨ w.heap.size ≤ k_) ∧ some k_ ≠ (.slice Ao77 t174.length co77 : Value).ownBlock)) z2541 hg hat); have n1_ := Aside0.mk (Kd.V_afterv (ok := (fun k_ => (P1_ k_ ∨ w.heap.size ≤ k_) ∧ some k_ ≠ (.slice Ao77 t174.length co77 : Value).ownBlock)) (by (with_reducible repeat (first | apply Kd.V_alloc | apply Kd.V_drewN | apply Kd.V_drew)); exact Kd.V_mono HO173.out (fun _ hk => ⟨⟨hk.1.1, hk.2⟩, hk.1.2⟩)) hg hat); have n2_ := Aside0.mk (Kd.R_after (ok := (fun k_ => (w.heap.size ≤ k_))) (by (with_reducible repeat (first | apply Kd.R_alloc | apply Kd.R_drewN | apply Kd.R_drew)); exact Kd.R_mono HO176.out (fun _ hk => ⟨hk.1.1, hk.2⟩)) hg hat); have n3_ := Aside0.mk hb; have n4_ := Aside0.mk ho; clear HO_1 HO173 HO176 HB HO_5; have HO_1 := n0_; have HO173 := n1_; have HO176 := n2_; have HB := n3_; have HO179 := n4_; clear n0_ n1_ n2_ n3_ n4_; clear ho hb hg hat) | ((with_reducible refine gate_dst (N := 59) rfl ?_); refine Kd.R_lit (Kd.int .u8) _ 5 ?hg (N := 59) ?hd (xs := ([(ji12) % 256, 3] : List Int)) (inner := [.int .u8 ((ji12) % 256), .int .u8 3]) (ok := fun _ => True) (okp := fun _ => True) ?hr ?hp (fun _ hk => hk) trivial (Below.refl _ _) (Nat.le_refl _) (by simp) ?_; (case hd => rfl); (case hg => rfl); (case hr => first | (go_simp; done) | (go_simp; rfl)); (case hp => exact (Reps.one (show Kd.M (Kd.int .u8) _ _ _ ((ji12) % 256) [.int .u8 ((ji12) % 256)] from rfl) (Reps.one (show Kd.M (Kd.int .u8) _ _ _ 3 [.int .u8 3] from rfl) (Reps.none _ _)))); intro v181 w78 ho79 hb hg_ hnew_; clear hg_ hnew_; (first | rw [← Ny180.out] at ho79 | (simp only [Int.reduceToNat] at ho79; rw [← Ny180.out] at ho79)); have n0_ := Aside0.mk (Kd.V_elder' (vZ HO_1.out) (Kd.R_base ho79) hb); have n1_ := Aside0.mk (Kd.V_elder' (vZ HO173.out) (Kd.R_base ho79) hb); have n2_ := Aside0.mk (Kd.R_elder' (rZ HO176.out) (Kd.R_base ho79) hb); have n3_ := Aside0.mk (Kd.R_elder' (rZ HO179.out) (Kd.R_base ho79) hb); have n4_ := Aside0.mk (Kd.R_lower (Kd.R_new' (Kd.R_new' (Kd.R_newM (M := fun k_ => (w.heap.size ≤ k_)) ho79 (below_size hbZ) (fun k_ h_ => h_)) (Kd.R_lt (rZ HO176.out))) (Kd.R_lt (rZ HO179.out))) (below_size hbZ)); have n5_ := Aside0.mk (below_step hbZ hb); clear HO_1 HO173 HO176 HO179 HB; have HO_1 := n0_; have HO173 := n1_; have HO176 := n2_; have HO179 := n3_; have HO182 := n4_; have HB := n5_; clear n0_ n1_ n2_ n3_ n4_ n5_; clear hb ho79; obtain ⟨Ao81, co81, eo81⟩ := Kd.R_slice HO182.out; subst eo81) | ((with_reducible refine gate_builtin (b := .append) (xs := #[.tmp 55, .tmp 59]) rfl ?_); at_builtin; refine Kd.R_append_rows (Kd.int .u8) (w0 := w) w.heap.size rfl (.tmp 55) (.tmp 59) 22 5 (.int .u8 0) 1 rfl Try.underlying22 info5 rfl (by decide) (by omega) v178 y177 y180 _ _ _ (fun k_ => (w.heap.size ≤ k_) ∧ some k_ ≠ (.slice Ao77 t174.length co77 : Value).ownBlock ∧ some k_ ≠ (.slice Ao81 y180.length co81 : Value).ownBlock) (fun _ => False) rfl rfl ?aO ?aR (fun _ _ h => h) (fun _ h => h.elim) ?aF ?aB ?aS ?aL ?_; (case aR => repeat (first | exact (Kd.R_reads' HO182.out).2.2 | (with_reducible refine Kd.C_alloc ?_ _) | (with_reducible refine Kd.C_drewN ?_ _) | (with_reducible refine Kd.C_drew ?_))); (case aB => exact hbZ); (case aF => exact (fun k_ hk => ⟨(Nat.le_trans (below_size hbZ) hk), Kd.fresh' (Kd.R_lt (rZ HO176.out)) k_ hk, Kd.fresh' (Kd.R_lt (rZ HO182.out)) k_ hk⟩)); (case aO => exact (by (with_reducible repeat (first | apply Kd.R_alloc | apply Kd.R_drewN | apply Kd.R_drew)); exact Kd.R_mono HO179.out (fun _ hk => ⟨hk.1.1, ⟨hk.1.2, hk.2⟩⟩))); (case aS => exact (below_size hbZ)); (case aL => have := LMc68.out; omega); intro v184 w80 ho hb hg hat; rw [← Ny183.out] at ho; have n0_ := Aside0.mk (Kd.V_afterv (ok := (fun k_ => (P1_ k_ ∨ w.heap.size ≤ k_) ∧ some k_ ≠ (.slice Ao77 t174.length co77 : Value).ownBlock ∧ some k_ ≠ (.slice Ao81 y180.length co81 : Value).ownBlock)) z4485 hg hat); have n1_ := Aside0.mk (Kd.V_afterv (ok := (fun k_ => (P1_ k_ ∨ w.heap.size ≤ k_) ∧ some k_ ≠ (.slice Ao77 t174.length co77 : Value).ownBlock ∧ some k_ ≠ (.slice Ao81 y180.length co81 : Value).ownBlock)) (by (with_reducible repeat (first | apply Kd.V_alloc | apply Kd.V_drewN | apply Kd.V_drew)); exact Kd.V_mono HO173.out (fun _ hk => ⟨⟨hk.1.1.1, ⟨hk.1.1.2, hk.2⟩⟩, hk.1.2⟩)) hg hat); have n2_ := Aside0.mk (Kd.R_after (ok := (fun k_ => (w.heap.size ≤ k_) ∧ some k_ ≠ (.slice Ao81 y180.length co81 : Value).ownBlock)) (by (with_reducible repeat (first | apply Kd.R_alloc | apply Kd.R_drewN | apply Kd.R_drew)); exact Kd.R_mono HO176.out (fun _ hk => ⟨⟨hk.1.1, hk.2⟩, hk.1.2⟩)) hg hat); have n3_ := Aside0.mk (Kd.R_after (ok := (fun k_ => (w.heap.size ≤ k_) ∧ some k_ ≠ (.slice Ao77 t174.length co77 : Value).ownBlock)) (by (with_reducible repeat (first | apply Kd.R_alloc | apply Kd.R_drewN | apply Kd.R_drew)); exact Kd.R_mono HO182.out (fun _ hk => ⟨⟨hk.1.1.1, hk.1.2⟩, hk.2⟩)) hg hat); have n4_ := Aside0.mk hb; have n5_ := Aside0.mk ho; clear HO_1 HO173 HO176 HO182 HB HO179; have HO_1 := n0_; have HO173 := n1_; have HO176 := n2_; have HO182 := n3_; have HB := n4_; have HO185 := n5_; clear n0_ n1_ n2_ n3_ n4_ n5_; clear ho hb hg hat; have q82 : (ji12 : Int) ≤ ((x1_1.length : Int) : Int) := of_decide_eq_true z1200; obtain ⟨i082, hi082, _, hsz82, _⟩ := info_parts info5; have hroom82 : x1_1.length ≤ co17 := (Kd.V_reads' HO_1.out).2.1; have hC82 : Kd.F (Kd.int .u8) _ _ Ao17 x1_1.length x1_1 := (Kd.V_at (base := w.heap.size) HO_1.out).2.2; (try clear hcut61); (try clear hcut74); (try clear hcut82); have hcut82 := cut_to (P := Try.prog) 22 5 .i64 Try.underlying22 hi082 Ao17 x1_1.length co17 ji12 (of_decide_eq_true z1200) q82 hroom82; have hr82 := Kd.F_take (m := (ji12 : Int).toNat) hC82 (by omega); have hy82 : y186.length = (ji12 : Int).toNat := (by rw [Ny186.out, List.length_take]; omega); rw [← Ny186.out] at hr82; rw [← hy82] at hcut82; have HO190 := Aside0.mk (show Kd.V (Kd.int .u8) 5 _ w.heap.size _ (.slice Ao17 y186.length co17) y186 from Kd.V_mk (by omega) hr82); have HC190 := Aside0.mk (show y186.length ≤ co17 from by omega); clear hr82 hC82 hroom82 hi082 hsz82; have KY82 := Aside0.mk hy82; clear hy82; replace q82 := eq_true q82) | ((with_reducible refine gate_builtin (b := .append) (xs := #[.tmp 61, .tmp 64]) rfl ?_); at_builtin; refine Kd.R_append_rows (Kd.int .u8) (w0 := w) w.heap.size rfl (.tmp 61) (.tmp 64) 22 5 (.int .u8 0) 1 rfl Try.underlying22 info5 rfl (by decide) (by omega) v184 y183 y186 _ _ _ (fun k_ => (w.heap.size ≤ k_) ∧ some k_ ≠ (.slice Ao77 t174.length co77 : Value).ownBlock ∧ some k_ ≠ (.slice Ao81 y180.length co81 : Value).ownBlock) (fun _ => False) rfl rfl ?aO ?aR (fun _ _ h => h) (fun _ h => h.elim) ?aF ?aB ?aS ?aL ?_; (case aR => repeat (first | exact (Kd.V_reads' HO190.out).2.2 | (with_reducible refine Kd.C_alloc ?_ _) | (with_reducible refine Kd.C_drewN ?_ _) | (with_reducible refine Kd.C_drew ?_))); (case aB => exact hbZ); (case aF => exact (fun k_ hk => ⟨(Nat.le_trans (below_size hbZ) hk), Kd.fresh' (Kd.R_lt (rZ HO176.out)) k_ hk, Kd.fresh' (Kd.R_lt (rZ HO182.out)) k_ hk⟩)); (case aO => exact (rZ HO185.out)); (case aS => exact (below_size hbZ)); (case aL => have := LMc71.out; omega); intro v192 w83 ho hb hg hat; rw [← Ny191.out] at ho; have n0_ := Aside0.mk (Kd.V_afterv (ok := (fun k_ => (P1_ k_ ∨ w.heap.size ≤ k_) ∧ some k_ ≠ (.slice Ao77 t174.length co77 : Value).ownBlock ∧ some k_ ≠ (.slice Ao81 y180.length co81 : Value).ownBlock)) (vZ HO_1.out) hg hat); have n1_ := Aside0.mk (Kd.V_afterv (ok := (fun k_ => (P1_ k_ ∨ w.heap.size ≤ k_) ∧ some k_ ≠ (.slice Ao77 t174.length co77 : Value).ownBlock ∧ some k_ ≠ (.slice Ao81 y180.length co81 : Value).ownBlock)) (vZ HO173.out) hg hat); have n2_ := Aside0.mk (Kd.R_after (ok := (fun k_ => (w.heap.size ≤ k_) ∧ some k_ ≠ (.slice Ao81 y180.length co81 : Value).ownBlock)) (rZ HO176.out) hg hat); have n3_ := Aside0.mk (Kd.R_after (ok := (fun k_ => (w.heap.size ≤ k_) ∧ some k_ ≠ (.slice Ao77 t174.length co77 : Value).ownBlock)) (rZ HO182.out) hg hat); have n4_ := Aside0.mk (Kd.V_afterv (ok := (fun k_ => (P1_ k_ ∨ w.heap.size ≤ k_) ∧ some k_ ≠ (.slice Ao77 t174.length co77 : Value).ownBlock ∧ some k_ ≠ (.slice Ao81 y180.length co81 : Value).ownBlock)) (vZ HO190.out) hg hat); have n5_ := Aside0.mk hb; have n6_ := Aside0.mk ho; clear HO_1 HO173 HO176 HO182 HO190 HB HO185; have HO_1 := n0_; have HO173 := n1_; have HO176 := n2_; have HO182 := n3_; have HO190 := n4_; have HB := n5_; have HO193 := n6_; clear n0_ n1_ n2_ n3_ n4_ n5_ n6_; clear ho hb hg hat; have q84 : (ji12 : Int) ≤ ((x1_1.length : Int) : Int) := of_decide_eq_true z1200; obtain ⟨i084, hi084, _, hsz84, _⟩ := info_parts info5; have hroom84 : x1_1.length ≤ co17 := (Kd.V_reads' HO_1.out).2.1; have hC84 : Kd.F (Kd.int .u8) _ _ Ao17 x1_1.length x1_1 := (Kd.V_at (base := w.heap.size) HO_1.out).2.2; have q084 : (0 : Int) ≤ (ji12 : Int) := of_decide_eq_true z1200; (try clear hcut40); (try clear hcut63); (try clear hcut84); have hcut84 := cut_from (P := Try.prog) 22 5 .i64 Try.underlying22 hi084 1 hsz84 Ao17 x1_1.length co17 ji12 q084 q84; have hr84 := Kd.F_cut (m := (ji12 : Int).toNat) (c := co17) hC84 (by omega) hroom84; obtain ⟨A84, hA84⟩ : ∃ A1, A1 = (if co17 = (ji12 : Int).toNat then Ao17 else (Ao17 : Option Addr).map (·.add ((ji12 : Int).toNat * 1))) := ⟨_, rfl⟩; obtain ⟨c84, hc84⟩ : ∃ c1, c1 = co17 - (ji12 : Int).toNat := ⟨_, rfl⟩; have hy84 : y194.length = x1_1.length - (ji12 : Int).toNat := (by rw [Ny194.out, List.length_drop] <;> omega); rw [show (x1_1).drop (ji12 : Int).toNat = y194 from Ny194.out.symm] at hr84; replace hr84 : Kd.F (Kd.int .u8) _ _ A84 y194.length y194 := (by rw [hA84]; exact hr84); rw [← hy84, ← hA84, ← hc84] at hcut84; have HO198 := Aside0.mk (show Kd.V (Kd.int .u8) 5 _ w.heap.size _ (.slice A84 y194.length c84) y194 from Kd.V_mk (by rw [hy84, hc84]; exact Nat.sub_le_sub_right hroom84 _) hr84); have HC198 := Aside0.mk (show y194.length ≤ c84 from by rw [hy84, hc84]; exact Nat.sub_le_sub_right hroom84 _); clear hr84 hC84 hroom84 hi084 hsz84 hc84; have KY84 := Aside0.mk hy84; have KA84 := Aside0.mk hA84; clear hy84 hA84; replace q84 := eq_true q84))
                               go_roundg kj12
                               case measure => have := HK1.out; have := HJ12.out; omega
                               case rel => exact ⟨(y194), (y191), (((ji12) == (x1_1.length : Int))), (true), ze505, z4458, H', ⟨by have := HK1.out; have := HJ12.out; omega⟩, ⟨by (with_reducible repeat (first | apply Kd.V_alloc | apply Kd.V_drewN | apply Kd.V_drew)); exact Kd.V_mono HO198.out (fun _ hk => ⟨hk.1.1, hk.2⟩)⟩, ⟨by (with_reducible repeat (first | apply Kd.R_alloc | apply Kd.R_drewN | apply Kd.R_drew)); exact Kd.R_mono HO193.out (fun _ hk => hk.1)⟩, ⟨z5acd⟩⟩
                             · rw [if_neg c71] at H
                               exact absurd H (by simp)
                           · rw [if_neg c68] at H
                             exact absurd H (by simp)
                         · rw [if_neg c67] at H
                           exact absurd H (by simp)
                       · rw [if_neg c65] at H
                         exact absurd H (by simp)
                     · rw [if_neg c64] at H
                       exact absurd H (by simp)
                 · replace c41 := Bool.eq_false_iff.mpr c41
                   subst c41
                   have H1 : (if 0 ≤ ji12 then (if ji12 ≤ (x1_1.length : Int) then ((impl_check.f kj12 2 (x1_1.take (ji12 : Int).toNat)).bind fun t204 => (if y106.length + t204.length < 140737488355328 then ((some (y106 ++ t204 : List Int)).bind fun y207 => ((some (([(ji12) % 256, 2] : List Int) : List Int)).bind fun y210 => (if y207.length + y210.length < 140737488355328 then ((some (y207 ++ y210 : List Int)).bind fun y213 => ((some (x1_1.take (ji12 : Int).toNat : List Int)).bind fun y216 => (if y213.length + y216.length < 140737488355328 then (impl_logPieces.l0 kj12 a0 (x1_1.drop (ji12 : Int).toNat) (y213 ++ y216) ((ji12) == (x1_1.length : Int)) true) else (none)))) else (none)))) else (none))) else (none)) else (none)) = some r := by rw [if_neg (show ¬ (false = true) by decide)] at H; exact H
                   clear H
                   have H := H1
                   clear H1
                   by_cases c85 : 0 ≤ ji12
                   · rw [if_pos c85] at H
                     have c85b0 := eq_true c85
                     have c85b1 : decide (0 ≤ ji12) = true := decide_eq_true c85
                     clear c85
                     by_cases c86 : ji12 ≤ (x1_1.length : Int)
                     · rw [if_pos c86] at H
                       have c86b0 := eq_true c86
                       have c86b1 : decide (ji12 ≤ (x1_1.length : Int)) = true := decide_eq_true c86
                       clear c86
                       obtain ⟨y199, hy199⟩ : ∃ y_ : List Int, y_ = (x1_1.take (ji12 : Int).toNat) := ⟨_, rfl⟩
                       replace H : ((impl_check.f kj12 2 y199).bind fun t204 => (if y106.length + t204.length < 140737488355328 then ((some (y106 ++ t204 : List Int)).bind fun y207 => ((some (([(ji12) % 256, 2] : List Int) : List Int)).bind fun y210 => (if y207.length + y210.length < 140737488355328 then ((some (y207 ++ y210 : List Int)).bind fun y213 => ((some (x1_1.take (ji12 : Int).toNat : List Int)).bind fun y216 => (if y213.length + y216.length < 140737488355328 then (impl_logPieces.l0 kj12 a0 (x1_1.drop (ji12 : Int).toNat) (y213 ++ y216) ((ji12) == (x1_1.length : Int)) true) else (none)))) else (none)))) else (none))) = some r := by first | (rw [hy199]; with_reducible exact H) | (have H2_ := (Option.bind_some _ _).symm.trans H; rw [hy199]; with_reducible exact H2_) | (have H2_ := (Option.bind_some _ _).symm.trans H; with_reducible exact H2_) | with_reducible exact H | (rw [hy199]; exact H) | exact H
                       have Ny199 := Aside0.mk hy199
                       clear hy199
                       replace H := Option.bind_eq_some_iff.mp H
                       obtain ⟨t204, A870, H⟩ := H
                       try dsimp only at H
                       have A87 := Aside0.mk A870
                       clear A870
                       by_cases c88 : y106.length + t204.length < 140737488355328
                       · rw [if_pos c88] at H
                         have LMc88 := Aside0.mk c88
                         clear c88
                         obtain ⟨y207, hy207⟩ : ∃ y_ : List Int, y_ = (y106 ++ t204) := ⟨_, rfl⟩
                         replace H : ((some (([(ji12) % 256, 2] : List Int) : List Int)).bind fun y210 => (if y207.length + y210.length < 140737488355328 then ((some (y207 ++ y210 : List Int)).bind fun y213 => ((some (x1_1.take (ji12 : Int).toNat : List Int)).bind fun y216 => (if y213.length + y216.length < 140737488355328 then (impl_logPieces.l0 kj12 a0 (x1_1.drop (ji12 : Int).toNat) (y213 ++ y216) ((ji12) == (x1_1.length : Int)) true) else (none)))) else (none))) = some r := by first | (rw [hy207]; with_reducible exact H) | (have H2_ := (Option.bind_some _ _).symm.trans H; rw [hy207]; with_reducible exact H2_) | (have H2_ := (Option.bind_some _ _).symm.trans H; with_reducible exact H2_) | with_reducible exact H | (rw [hy207]; exact H) | exact H
                         have Ny207 := Aside0.mk hy207
                         clear hy207
                         obtain ⟨y210, hy210⟩ : ∃ y_ : List Int, y_ = (([(ji12) % 256, 2] : List Int)) := ⟨_, rfl⟩
                         replace H : (if y207.length + y210.length < 140737488355328 then ((some (y207 ++ y210 : List Int)).bind fun y213 => ((some (x1_1.take (ji12 : Int).toNat : List Int)).bind fun y216 => (if y213.length + y216.length < 140737488355328 then (impl_logPieces.l0 kj12 a0 (x1_1.drop (ji12 : Int).toNat) (y213 ++ y216) ((ji12) == (x1_1.length : Int)) true) else (none)))) else (none)) = some r := by first | (rw [hy210]; with_reducible exact H) | (have H2_ := (Option.bind_some _ _).symm.trans H; rw [hy210]; with_reducible exact H2_) | (have H2_ := (Option.bind_some _ _).symm.trans H; with_reducible exact H2_) | with_reducible exact H | (rw [hy210]; exact H) | exact H
                         have Ny210 := Aside0.mk hy210
                         clear hy210
                         by_cases c89 : y207.length + y210.length < 140737488355328
                         · rw [if_pos c89] at H
                           have LMc89 := Aside0.mk c89
                           clear c89
                           obtain ⟨y213, hy213⟩ : ∃ y_ : List Int, y_ = (y207 ++ y210) := ⟨_, rfl⟩
                           replace H : ((some (x1_1.take (ji12 : Int).toNat : List Int)).bind fun y216 => (if y213.length + y216.length < 140737488355328 then (impl_logPieces.l0 kj12 a0 (x1_1.drop (ji12 : Int).toNat) (y213 ++ y216) ((ji12) == (x1_1.length : Int)) true) else (none))) = some r := by first | (rw [hy213]; with_reducible exact H) | (have H2_ := (Option.bind_some _ _).symm.trans H; rw [hy213]; with_reducible exact H2_) | (have H2_ := (Option.bind_some _ _).symm.trans H; with_reducible exact H2_) | with_reducible exact H | (rw [hy213]; exact H) | exact H
                           have Ny213 := Aside0.mk hy213
                           clear hy213
                           have c90b0 := eq_true (of_decide_eq_true z1200 : 0 ≤ ji12)
                           have c91b0 := eq_true (of_decide_eq_true z1200 : ji12 ≤ (x1_1.length : Int))
                           obtain ⟨y216, hy216⟩ : ∃ y_ : List Int, y_ = (x1_1.take (ji12 : Int).toNat) := ⟨_, rfl⟩
                           replace H : (if y213.length + y216.length < 140737488355328 then (impl_logPieces.l0 kj12 a0 (x1_1.drop (ji12 : Int).toNat) (y213 ++ y216) ((ji12) == (x1_1.length : Int)) true) else (none)) = some r := by first | (rw [hy216]; with_reducible exact H) | (have H2_ := (Option.bind_some _ _).symm.trans H; rw [hy216]; with_reducible exact H2_) | (have H2_ := (Option.bind_some _ _).symm.trans H; with_reducible exact H2_) | with_reducible exact H | (rw [hy216]; exact H) | exact H
                           have Ny216 := Aside0.mk hy216
                           clear hy216
                           by_cases c92 : y213.length + y216.length < 140737488355328
                           · rw [if_pos c92] at H
                             have LMc92 := Aside0.mk c92
                             clear c92
                             obtain ⟨y221, hy221⟩ : ∃ y_ : List Int, y_ = (y213 ++ y216) := ⟨_, rfl⟩
                             replace H : (impl_logPieces.l0 kj12 a0 (x1_1.drop (ji12 : Int).toNat) y221 ((ji12) == (x1_1.length : Int)) true) = some r := by first | (rw [hy221]; with_reducible exact H) | (have H2_ := (Option.bind_some _ _).symm.trans H; rw [hy221]; with_reducible exact H2_) | (have H2_ := (Option.bind_some _ _).symm.trans H; with_reducible exact H2_) | with_reducible exact H | (rw [hy221]; exact H) | exact H
                             have Ny221 := Aside0.mk hy221
                             clear hy221
                             have c93b0 := eq_true (of_decide_eq_true z1200 : 0 ≤ ji12)
                             have c94b0 := eq_true (of_decide_eq_true z1200 : ji12 ≤ (x1_1.length : Int))
                             obtain ⟨y224, hy224⟩ : ∃ y_ : List Int, y_ = (x1_1.drop (ji12 : Int).toNat) := ⟨_, rfl⟩
                             replace H : (impl_logPieces.l0 kj12 a0 y224 y221 ((ji12) == (x1_1.length : Int)) true) = some r := by first | (rw [hy224]; with_reducible exact H) | (have H2_ := (Option.bind_some _ _).symm.trans H; rw [hy224]; with_reducible exact H2_) | (have H2_ := (Option.bind_some _ _).symm.trans H; with_reducible exact H2_) | with_reducible exact H | (rw [hy224]; exact H) | exact H
                             have Ny224 := Aside0.mk hy224
                             clear hy224
                             have H' := Aside0.mk H
                             clear H
                             have q95 : (ji12 : Int) ≤ ((x1_1.length : Int) : Int) := of_decide_eq_true z1200
                             obtain ⟨i095, hi095, _, hsz95, _⟩ := info_parts info5
                             have hroom95 : x1_1.length ≤ co17 := (Kd.V_reads' HO_1.out).2.1
                             have hC95 : Kd.F (Kd.int .u8) _ _ Ao17 x1_1.length x1_1 := (Kd.V_at (base := w.heap.size) HO_1.out).2.2
                             (try clear hcut74)
                             (try clear hcut82)
                             (try clear hcut95)
                             have hcut95 := cut_to (P := Try.prog) 22 5 .i64 Try.underlying22 hi095 Ao17 x1_1.length co17 ji12 (of_decide_eq_true z1200) q95 hroom95
                             have hr95 := Kd.F_take (m := (ji12 : Int).toNat) hC95 (by omega)
                             have hy95 : y199.length = (ji12 : Int).toNat := (by rw [Ny199.out, List.length_take]; omega)
                             rw [← Ny199.out] at hr95
                             rw [← hy95] at hcut95
                             have HO203 := Aside0.mk (show Kd.V (Kd.int .u8) 5 _ w.heap.size _ (.slice Ao17 y199.length co17) y199 from Kd.V_mk (by omega) hr95)
                             have HC203 := Aside0.mk (show y199.length ≤ co17 from by omega)
                             clear hr95 hC95 hroom95 hi095 hsz95
                             have KY95 := Aside0.mk hy95
                             clear hy95
                             replace q95 := eq_true q95
                             go_wp2_with (first | ((with_reducible refine gate_callee (f := 71) rfl ?_); refine goesL_ (some 54) rfl rfl Try.func71 (by kernel_rfl) rfl #[.int .u8 2, .slice Ao17 y199.length co17] rfl zee81 ?_; (with_reducible refine (impl_check.calls kj12 2 _ _ y199 t204 _ ?side1 ?side2 A87.out).mono ?_); (case side1 => exact (by repeat (first | exact (Kd.V_reads' HO203.out).2.2 | (with_reducible refine Kd.C_alloc ?_ _) | (with_reducible refine Kd.C_drewN ?_ _) | (with_reducible refine Kd.C_drew ?_)))); (case side2 => exact (Kd.V_reads' HO203.out).2.1); rintro e w96 ⟨v205, rfl, ho0, hb⟩; refine ⟨_, rfl, ?_⟩; have n0_ := Aside0.mk (Kd.V_elder' (vZ HO_1.out) (Kd.R_base ho0) hb); have n1_ := Aside0.mk (Kd.R_elder' (rZ HO_5.out) (Kd.R_base ho0) hb); have n2_ := Aside0.mk (Kd.V_elder' (vZ HO203.out) (Kd.R_base ho0) hb); have n3_ := Aside0.mk (Kd.R_lower (Kd.R_new' (Kd.R_newM (M := fun k_ => (w.heap.size ≤ k_)) ho0 (below_size hbZ) (fun k_ h_ => h_)) (Kd.R_lt (rZ HO_5.out))) (below_size hbZ)); have n4_ := Aside0.mk (below_step hbZ hb); clear HO_1 HO_5 HO203 HB; have HO_1 := n0_; have HO_5 := n1_; have HO203 := n2_; have HO206 := n3_; have HB := n4_; clear n0_ n1_ n2_ n3_ n4_; (try clear hb); (try clear hb2); (try clear hk); (try clear hi); (try clear ho0); obtain ⟨Ao98, co98, eo98⟩ := Kd.R_slice HO206.out; subst eo98) | ((with_reducible refine gate_builtin (b := .append) (xs := #[.tmp 49, .tmp 54]) rfl ?_); at_builtin; refine Kd.R_append_rows (Kd.int .u8) (w0 := w) w.heap.size rfl (.tmp 49) (.tmp 54) 22 5 (.int .u8 0) 1 rfl Try.underlying22 info5 rfl (by decide) (by omega) (.slice Ao16 y106.length co16) y106 t204 _ _ _ (fun k_ => (w.heap.size ≤ k_) ∧ some k_ ≠ (.slice Ao98 t204.length co98 : Value).ownBlock) (fun _ => False) rfl rfl ?aO ?aR (fun _ _ h => h) (fun _ h => h.elim) ?aF ?aB ?aS ?aL ?_; (case aR => repeat (first | exact (Kd.R_reads' HO206.out).2.2 | (with_reducible refine Kd.C_alloc ?_ _) | (with_reducible refine Kd.C_drewN ?_ _) | (with_reducible refine Kd.C_drew ?_))); (case aB => exact hbZ); (case aF => exact (fun k_ hk => ⟨(Nat.le_trans (below_size hbZ) hk), Kd.fresh' (Kd.R_lt (rZ HO206.out)) k_ hk⟩)); (case aO => exact (rZ HO_5.out)); (case aS => exact (below_size hbZ)); (case aL => have := LMc88.out; omega); intro v208 w97 ho hb hg hat; rw [← Ny207.out] at ho; have n0_ := Aside0.mk (Kd.V_afterv (ok := (fun k_ => (P1_ k_ ∨ w.heap.size ≤ k_) ∧ some k_ ≠ (.slice Ao98 t204.length co98 : Value).ownBlock)) z2541 hg hat); have n1_ := Aside0.mk (Kd.V_afterv (ok := (fun k_ => (P1_ k_ ∨ w.heap.size ≤ k_) ∧ some k_ ≠ (.slice Ao98 t204.length co98 : Value).ownBlock)) (by (with_reducible repeat (first | apply Kd.V_alloc | apply Kd.V_drewN | apply Kd.V_drew)); exact Kd.V_mono HO203.out (fun _ hk => ⟨⟨hk.1.1, hk.2⟩, hk.1.2⟩)) hg hat); have n2_ := Aside0.mk (Kd.R_after (ok := (fun k_ => (w.heap.size ≤ k_))) (by (with_reducible repeat (first | apply Kd.R_alloc | apply Kd.R_drewN | apply Kd.R_drew)); exact Kd.R_mono HO206.out (fun _ hk => ⟨hk.1.1, hk.2⟩)) hg hat); have n3_ := Aside0.mk hb; have n4_ := Aside0.mk ho; clear HO_1 HO203 HO206 HB HO_5; have HO_1 := n0_; have HO203 := n1_; have HO206 := n2_; have HB := n3_; have HO209 := n4_; clear n0_ n1_ n2_ n3_ n4_; clear ho hb hg hat) | ((with_reducible refine gate_dst (N := 59) rfl ?_); refine Kd.R_lit (Kd.int .u8) _ 5 ?hg (N := 59) ?hd (xs := ([(ji12) % 256, 2] : List Int)) (inner := [.int .u8 ((ji12) % 256), .int .u8 2]) (ok := fun _ => True) (okp := fun _ => True) ?hr ?hp (fun _ hk => hk) trivial (Below.refl _ _) (Nat.le_refl _) (by simp) ?_; (case hd => rfl); (case hg => rfl); (case hr => first | (go_simp; done) | (go_simp; rfl)); (case hp => exact (Reps.one (show Kd.M (Kd.int .u8) _ _ _ ((ji12) % 256) [.int .u8 ((ji12) % 256)] from rfl) (Reps.one (show Kd.M (Kd.int .u8) _ _ _ 2 [.int .u8 2] from rfl) (Reps.none _ _)))); intro v211 w99 ho100 hb hg_ hnew_; clear hg_ hnew_; (first | rw [← Ny210.out] at ho100 | (simp only [Int.reduceToNat] at ho100; rw [← Ny210.out] at ho100)); have n0_ := Aside0.mk (Kd.V_elder' (vZ HO_1.out) (Kd.R_base ho100) hb); have n1_ := Aside0.mk (Kd.V_elder' (vZ HO203.out) (Kd.R_base ho100) hb); have n2_ := Aside0.mk (Kd.R_elder' (rZ HO206.out) (Kd.R_base ho100) hb); have n3_ := Aside0.mk (Kd.R_elder' (rZ HO209.out) (Kd.R_base ho100) hb); have n4_ := Aside0.mk (Kd.R_lower (Kd.R_new' (Kd.R_new' (Kd.R_newM (M := fun k_ => (w.heap.size ≤ k_)) ho100 (below_size hbZ) (fun k_ h_ => h_)) (Kd.R_lt (rZ HO206.out))) (Kd.R_lt (rZ HO209.out))) (below_size hbZ)); have n5_ := Aside0.mk (below_step hbZ hb); clear HO_1 HO203 HO206 HO209 HB; have HO_1 := n0_; have HO203 := n1_; have HO206 := n2_; have HO209 := n3_; have HO212 := n4_; have HB := n5_; clear n0_ n1_ n2_ n3_ n4_ n5_; clear hb ho100; obtain ⟨Ao102, co102, eo102⟩ := Kd.R_slice HO212.out; subst eo102) | ((with_reducible refine gate_builtin (b := .append) (xs := #[.tmp 55, .tmp 59]) rfl ?_); at_builtin; refine Kd.R_append_rows (Kd.int .u8) (w0 := w) w.heap.size rfl (.tmp 55) (.tmp 59) 22 5 (.int .u8 0) 1 rfl Try.underlying22 info5 rfl (by decide) (by omega) v208 y207 y210 _ _ _ (fun k_ => (w.heap.size ≤ k_) ∧ some k_ ≠ (.slice Ao98 t204.length co98 : Value).ownBlock ∧ some k_ ≠ (.slice Ao102 y210.length co102 : Value).ownBlock) (fun _ => False) rfl rfl ?aO ?aR (fun _ _ h => h) (fun _ h => h.elim) ?aF ?aB ?aS ?aL ?_; (case aR => repeat (first | exact (Kd.R_reads' HO212.out).2.2 | (with_reducible refine Kd.C_alloc ?_ _) | (with_reducible refine Kd.C_drewN ?_ _) | (with_reducible refine Kd.C_drew ?_))); (case aB => exact hbZ); (case aF => exact (fun k_ hk => ⟨(Nat.le_trans (below_size hbZ) hk), Kd.fresh' (Kd.R_lt (rZ HO206.out)) k_ hk, Kd.fresh' (Kd.R_lt (rZ HO212.out)) k_ hk⟩)); (case aO => exact (by (with_reducible repeat (first | apply Kd.R_alloc | apply Kd.R_drewN | apply Kd.R_drew)); exact Kd.R_mono HO209.out (fun _ hk => ⟨hk.1.1, ⟨hk.1.2, hk.2⟩⟩))); (case aS => exact (below_size hbZ)); (case aL => have := LMc89.out; omega); intro v214 w101 ho hb hg hat; rw [← Ny213.out] at ho; have n0_ := Aside0.mk (Kd.V_afterv (ok := (fun k_ => (P1_ k_ ∨ w.heap.size ≤ k_) ∧ some k_ ≠ (.slice Ao98 t204.length co98 : Value).ownBlock ∧ some k_ ≠ (.slice Ao102 y210.length co102 : Value).ownBlock)) z4485 hg hat); have n1_ := Aside0.mk (Kd.V_afterv (ok := (fun k_ => (P1_ k_ ∨ w.heap.size ≤ k_) ∧ some k_ ≠ (.slice Ao98 t204.length co98 : Value).ownBlock ∧ some k_ ≠ (.slice Ao102 y210.length co102 : Value).ownBlock)) (by (with_reducible repeat (first | apply Kd.V_alloc | apply Kd.V_drewN | apply Kd.V_drew)); exact Kd.V_mono HO203.out (fun _ hk => ⟨⟨hk.1.1.1, ⟨hk.1.1.2, hk.2⟩⟩, hk.1.2⟩)) hg hat); have n2_ := Aside0.mk (Kd.R_after (ok := (fun k_ => (w.heap.size ≤ k_) ∧ some k_ ≠ (.slice Ao102 y210.length co102 : Value).ownBlock)) (by (with_reducible repeat (first | apply Kd.R_alloc | apply Kd.R_drewN | apply Kd.R_drew)); exact Kd.R_mono HO206.out (fun _ hk => ⟨⟨hk.1.1, hk.2⟩, hk.1.2⟩)) hg hat); have n3_ := Aside0.mk (Kd.R_after (ok := (fun k_ => (w.heap.size ≤ k_) ∧ some k_ ≠ (.slice Ao98 t204.length co98 : Value).ownBlock)) (by (with_reducible repeat (first | apply Kd.R_alloc | apply Kd.R_drewN | apply Kd.R_drew)); exact Kd.R_mono HO212.out (fun _ hk => ⟨⟨hk.1.1.1, hk.1.2⟩, hk.2⟩)) hg hat); have n4_ := Aside0.mk hb; have n5_ := Aside0.mk ho; clear HO_1 HO203 HO206 HO212 HB HO209; have HO_1 := n0_; have HO203 := n1_; have HO206 := n2_; have HO212 := n3_; have HB := n4_; have HO215 := n5_; clear n0_ n1_ n2_ n3_ n4_ n5_; clear ho hb hg hat; have q103 : (ji12 : Int) ≤ ((x1_1.length : Int) : Int) := of_decide_eq_true z1200; obtain ⟨i0103, hi0103, _, hsz103, _⟩ := info_parts info5; have hroom103 : x1_1.length ≤ co17 := (Kd.V_reads' HO_1.out).2.1; have hC103 : Kd.F (Kd.int .u8) _ _ Ao17 x1_1.length x1_1 := (Kd.V_at (base := w.heap.size) HO_1.out).2.2; (try clear hcut82); (try clear hcut95); (try clear hcut103); have hcut103 := cut_to (P := Try.prog) 22 5 .i64 Try.underlying22 hi0103 Ao17 x1_1.length co17 ji12 (of_decide_eq_true z1200) q103 hroom103; have hr103 := Kd.F_take (m := (ji12 : Int).toNat) hC103 (by omega); have hy103 : y216.length = (ji12 : Int).toNat := (by rw [Ny216.out, List.length_take]; omega); rw [← Ny216.out] at hr103; rw [← hy103] at hcut103; have HO220 := Aside0.mk (show Kd.V (Kd.int .u8) 5 _ w.heap.size _ (.slice Ao17 y216.length co17) y216 from Kd.V_mk (by omega) hr103); have HC220 := Aside0.mk (show y216.length ≤ co17 from by omega); clear hr103 hC103 hroom103 hi0103 hsz103; have KY103 := Aside0.mk hy103; clear hy103; replace q103 := eq_true q103) | ((with_reducible refine gate_builtin (b := .append) (xs := #[.tmp 61, .tmp 64]) rfl ?_); at_builtin; refine Kd.R_append_rows (Kd.int .u8) (w0 := w) w.heap.size rfl (.tmp 61) (.tmp 64) 22 5 (.int .u8 0) 1 rfl Try.underlying22 info5 rfl (by decide) (by omega) v214 y213 y216 _ _ _ (fun k_ => (w.heap.size ≤ k_) ∧ some k_ ≠ (.slice Ao98 t204.length co98 : Value).ownBlock ∧ some k_ ≠ (.slice Ao102 y210.length co102 : Value).ownBlock) (fun _ => False) rfl rfl ?aO ?aR (fun _ _ h => h) (fun _ h => h.elim) ?aF ?aB ?aS ?aL ?_; (case aR => repeat (first | exact (Kd.V_reads' HO220.out).2.2 | (with_reducible refine Kd.C_alloc ?_ _) | (with_reducible refine Kd.C_drewN ?_ _) | (with_reducible refine Kd.C_drew ?_))); (case aB => exact hbZ); (case aF => exact (fun k_ hk => ⟨(Nat.le_trans (below_size hbZ) hk), Kd.fresh' (Kd.R_lt (rZ HO206.out)) k_ hk, Kd.fresh' (Kd.R_lt (rZ HO212.out)) k_ hk⟩)); (case aO => exact (rZ HO215.out)); (case aS => exact (below_size hbZ)); (case aL => have := LMc92.out; omega); intro v222 w104 ho hb hg hat; rw [← Ny221.out] at ho; have n0_ := Aside0.mk (Kd.V_afterv (ok := (fun k_ => (P1_ k_ ∨ w.heap.size ≤ k_) ∧ some k_ ≠ (.slice Ao98 t204.length co98 : Value).ownBlock ∧ some k_ ≠ (.slice Ao102 y210.length co102 : Value).ownBlock)) (vZ HO_1.out) hg hat); have n1_ := Aside0.mk (Kd.V_afterv (ok := (fun k_ => (P1_ k_ ∨ w.heap.size ≤ k_) ∧ some k_ ≠ (.slice Ao98 t204.length co98 : Value).ownBlock ∧ some k_ ≠ (.slice Ao102 y210.length co102 : Value).ownBlock)) (vZ HO203.out) hg hat); have n2_ := Aside0.mk (Kd.R_after (ok := (fun k_ => (w.heap.size ≤ k_) ∧ some k_ ≠ (.slice Ao102 y210.length co102 : Value).ownBlock)) (rZ HO206.out) hg hat); have n3_ := Aside0.mk (Kd.R_after (ok := (fun k_ => (w.heap.size ≤ k_) ∧ some k_ ≠ (.slice Ao98 t204.length co98 : Value).ownBlock)) (rZ HO212.out) hg hat); have n4_ := Aside0.mk (Kd.V_afterv (ok := (fun k_ => (P1_ k_ ∨ w.heap.size ≤ k_) ∧ some k_ ≠ (.slice Ao98 t204.length co98 : Value).ownBlock ∧ some k_ ≠ (.slice Ao102 y210.length co102 : Value).ownBlock)) (vZ HO220.out) hg hat); have n5_ := Aside0.mk hb; have n6_ := Aside0.mk ho; clear HO_1 HO203 HO206 HO212 HO220 HB HO215; have HO_1 := n0_; have HO203 := n1_; have HO206 := n2_; have HO212 := n3_; have HO220 := n4_; have HB := n5_; have HO223 := n6_; clear n0_ n1_ n2_ n3_ n4_ n5_ n6_; clear ho hb hg hat; have q105 : (ji12 : Int) ≤ ((x1_1.length : Int) : Int) := of_decide_eq_true z1200; obtain ⟨i0105, hi0105, _, hsz105, _⟩ := info_parts info5; have hroom105 : x1_1.length ≤ co17 := (Kd.V_reads' HO_1.out).2.1; have hC105 : Kd.F (Kd.int .u8) _ _ Ao17 x1_1.length x1_1 := (Kd.V_at (base := w.heap.size) HO_1.out).2.2; have q0105 : (0 : Int) ≤ (ji12 : Int) := of_decide_eq_true z1200; (try clear hcut63); (try clear hcut84); (try clear hcut105); have hcut105 := cut_from (P := Try.prog) 22 5 .i64 Try.underlying22 hi0105 1 hsz105 Ao17 x1_1.length co17 ji12 q0105 q105; have hr105 := Kd.F_cut (m := (ji12 : Int).toNat) (c := co17) hC105 (by omega) hroom105; obtain ⟨A105, hA105⟩ : ∃ A1, A1 = (if co17 = (ji12 : Int).toNat then Ao17 else (Ao17 : Option Addr).map (·.add ((ji12 : Int).toNat * 1))) := ⟨_, rfl⟩; obtain ⟨c105, hc105⟩ : ∃ c1, c1 = co17 - (ji12 : Int).toNat := ⟨_, rfl⟩; have hy105 : y224.length = x1_1.length - (ji12 : Int).toNat := (by rw [Ny224.out, List.length_drop] <;> omega); rw [show (x1_1).drop (ji12 : Int).toNat = y224 from Ny224.out.symm] at hr105; replace hr105 : Kd.F (Kd.int .u8) _ _ A105 y224.length y224 := (by rw [hA105]; exact hr105); rw [← hy105, ← hA105, ← hc105] at hcut105; have HO228 := Aside0.mk (show Kd.V (Kd.int .u8) 5 _ w.heap.size _ (.slice A105 y224.length c105) y224 from Kd.V_mk (by rw [hy105, hc105]; exact Nat.sub_le_sub_right hroom105 _) hr105); have HC228 := Aside0.mk (show y224.length ≤ c105 from by rw [hy105, hc105]; exact Nat.sub_le_sub_right hroom105 _); clear hr105 hC105 hroom105 hi0105 hsz105 hc105; have KY105 := Aside0.mk hy105; have KA105 := Aside0.mk hA105; clear hy105 hA105; replace q105 := eq_true q105))
                             go_roundg kj12
                             case measure => have := HK1.out; have := HJ12.out; omega
                             case rel => exact ⟨(y224), (y221), (((ji12) == (x1_1.length : Int))), (true), ze505, z4458, H', ⟨by have := HK1.out; have := HJ12.out; omega⟩, ⟨by (with_reducible repeat (first | apply Kd.V_alloc | apply Kd.V_drewN | apply Kd.V_drew)); exact Kd.V_mono HO228.out (fun _ hk => ⟨hk.1.1, hk.2⟩)⟩, ⟨by (with_reducible repeat (first | apply Kd.R_alloc | apply Kd.R_drewN | apply Kd.R_drew)); exact Kd.R_mono HO223.out (fun _ hk => hk.1)⟩, ⟨z5acd⟩⟩
                           · rw [if_neg c92] at H
                             exact absurd H (by simp)
                         · rw [if_neg c89] at H
                           exact absurd H (by simp)
                       · rw [if_neg c88] at H
                         exact absurd H (by simp)
                     · rw [if_neg c86] at H
                       exact absurd H (by simp)
                   · rw [if_neg c85] at H
                     exact absurd H (by simp)
           · rw [if_neg c11] at H
             exact absurd H (by simp)
         · rw [if_neg c10] at H
           exact absurd H (by simp)
   · rw [if_neg c5] at H
     exact absurd H (by simp)
 · rw [if_neg c4] at H
   exact absurd H (by simp)

end Go.Proofs.Ythliooccgclbjaa.P

-- written by a program of this session's (wip/pp)
namespace Go.Proofs.Ythliooccgclbjaa.P
open Go.RowKit Go.Proofs.YthliooccgclbjaaW.PrintWords Go.Proofs.YthliooccgclbjaaW.PrintLast Go.Proofs.YthliooccgclbjaaW.PrintMore
attribute [local go_sem] max2_int min2_int max_two min_two max_three min_three max_four min_four   -- for this text's walks alone
set_option linter.unusedVariables false
set_option linter.unusedSimpArgs false

/-! ### impl_LogOf: function 22 -/
def impl_LogOf.l0 : Nat → List Int → List (List Int) → Int → Int → Option (List Int × Bool)
 | 0, _, _, _, _ => none
 | k + 1, x4, x11, x12, x13 => if x13 < x12 then (if 0 ≤ x13 then (if x13 < (x11.length : Int) then (if ((rd_L4 x11 x13).length : Int) > 2000 then (some (([] : List Int), false)) else ((impl_logPieces.f k (x4.length : Int) (rd_L4 x11 x13)).bind fun t105 => (if x4.length + t105.length < 140737488355328 then (impl_LogOf.l0 k (x4 ++ t105) x11 x12 (wrap64 (x13 + 1))) else (none)))) else (none)) else (none)) else (if (x4.length : Int) > 20000 then (some (([] : List Int), false)) else (some (x4, true)))
def impl_LogOf.f (k : Nat) (l0 : List (List Int)) : Option (List Int × Bool) := if (l0.length : Int) > 60 then (some (([] : List Int), false)) else (impl_LogOf.l0 k (([] : List Int)) l0 (l0.length : Int) 0)
theorem impl_LogOf.mono_l : ∀ k, (∀ y0 y1 y2 y3, LeO (impl_LogOf.l0 k y0 y1 y2 y3) (impl_LogOf.l0 (k + 1) y0 y1 y2 y3))
 | 0 => fun _ _ _ _ r h => by simp [impl_LogOf.l0] at h
 | k + 1 => by
  have ih0 := impl_LogOf.mono_l k
  · intro y0 y1 y2 y3
    unfold impl_LogOf.l0
    repeat' first
     | (with_reducible first | exact ih0 .. | exact impl_logPieces.mono .. | exact LeO.refl _ | exact LeO.none _ | refine LeO.ite ?_ ?_ | refine LeO.bind ?_ (fun _ => ?_))
     | exact LeO.none _
     | refine LeO.ite ?_ ?_
     | refine LeO.bind ?_ (fun _ => ?_)
theorem impl_LogOf.mono : ∀ a0 k, LeO (impl_LogOf.f k a0) (impl_LogOf.f (k + 1) a0) := by
 intro a0 k
 have ih0 := impl_LogOf.mono_l k
 unfold impl_LogOf.f
 repeat' first
  | (with_reducible first | exact ih0 .. | exact impl_logPieces.mono .. | exact LeO.refl _ | exact LeO.none _ | refine LeO.ite ?_ ?_ | refine LeO.bind ?_ (fun _ => ?_))
  | exact LeO.none _
  | refine LeO.ite ?_ ?_
  | refine LeO.bind ?_ (fun _ => ?_)
set_option maxHeartbeats 8000000 in
set_option maxRecDepth 100000 in
theorem impl_LogOf.calls (k : Nat) (A0 : Option Addr) (c0 : Nat) (l0 : List (List Int)) (r1 : List Int) (r2 : Bool) (w : World) (hr0 : Kd.C (Kd.slice 5 (Kd.int .u8)) w A0 l0.length l0) (hc0 : l0.length ≤ c0) (h : impl_LogOf.f k l0 = some (r1, r2)) :
 Calls Try.prog 22 #[.slice A0 l0.length c0] w fun e w' => ∃ v0_ : Value, e = .returned (.tuple #[v0_, .bool r2]) ∧ Kd.R (Kd.int .u8) 5 w' w.heap.size (fun _ => True) v0_ r1 ∧ Below w.heap.size w w' := by
 have HR0 := Aside0.mk hr0
 have HC0 := Aside0.mk hc0
 clear hr0 hc0
 have HB := Aside0.mk (Below.refl w.heap.size w)
 have H : (if (l0.length : Int) > 60 then (some (([] : List Int), false)) else (impl_LogOf.l0 k (([] : List Int)) l0 (l0.length : Int) 0)) = some (r1, r2) := h
 clear h
 by_cases c2 : (l0.length : Int) > 60
 · rw [if_pos c2] at H
   have c2b0 : decide (60 < (l0.length : Int)) = true := decide_eq_true c2
   have c2b1 : decide (60 < l0.length) = true := decide_eq_true (by omega)
   clear c2
   simp only [Option.some.injEq, Prod.mk.injEq] at H
   obtain ⟨rfl, rfl⟩ := H
   go_enter Try.func22, Try.ntmps22
   go_wp2
   go_ret2
   exact ⟨_, z674d, z02fa, z5acd⟩
 · rw [if_neg c2] at H
   have c2b0 : decide (60 < (l0.length : Int)) = false := decide_eq_false c2
   have c2b1 : decide (60 < l0.length) = false := decide_eq_false (by omega)
   clear c2
   obtain ⟨y101, hy101⟩ : ∃ y_ : List Int, y_ = (([] : List Int)) := ⟨_, rfl⟩
   replace H : (impl_LogOf.l0 k y101 l0 (l0.length : Int) 0) = some (r1, r2) := by first | (rw [hy101]; with_reducible exact H) | (have H2_ := (Option.bind_some _ _).symm.trans H; rw [hy101]; with_reducible exact H2_) | (have H2_ := (Option.bind_some _ _).symm.trans H; with_reducible exact H2_) | with_reducible exact H | (rw [hy101]; exact H) | exact H
   have Ny101 := Aside0.mk hy101
   clear hy101
   have H' := Aside0.mk H
   clear H
   go_enter Try.func22, Try.ntmps22
   go_wp2_with (first | ((with_reducible refine gate_dst (N := 10) rfl ?_); refine Kd.R_lit (Kd.int .u8) _ 5 ?hg (N := 10) ?hd (xs := ([] : List Int)) (inner := []) (ok := fun _ => True) (okp := fun _ => True) ?hr ?hp (fun _ hk => hk) trivial (Below.refl _ _) (Nat.le_refl _) (by simp) ?_; (case hd => rfl); (case hg => rfl); (case hr => first | (go_simp; done) | (go_simp; rfl)); (case hp => exact (Reps.none _ _)); intro v102 w3 ho4 hb hg_ hnew_; clear hg_ hnew_; (first | rw [← Ny101.out] at ho4 | (simp only [Int.reduceToNat] at ho4; rw [← Ny101.out] at ho4)); have n0_ := Aside0.mk (Kd.R_lower ho4 (below_size hbZ)); have n1_ := Aside0.mk (below_step hbZ hb); clear HB; have HO103 := n0_; have HB := n1_; clear n0_ n1_; clear hb ho4))
   go_loopg [4, 13] k (fun kq v4 v13 w' => ∃ (x4_1 : List Int) (x13_1 : Int), v13 = .int .i64 x13_1 ∧ Aside0 (impl_LogOf.l0 kq x4_1 l0 (l0.length : Int) x13_1 = some (r1, r2)) ∧ Aside0 (kq ≤ k) ∧ Aside0 (Kd.R (Kd.int .u8) 5 w' w.heap.size (fun _ => True) v4 x4_1) ∧ Aside0 (Below w.heap.size w w'))
   case atStart => exact ⟨(y101), (0), z4458, H', ⟨Nat.le_refl _⟩, ⟨rZ HO103.out⟩, ⟨z5acd⟩⟩
   case round =>
    clear H'
    try clear c2
    try clear c2b0
    try clear c2b1
    try clear p2
    obtain ⟨x4_1, x13_1, rfl, HA, HK1, HO_4, HB⟩ := hrel
    cases gk with
    | zero => exact absurd HA.out (by simp [impl_LogOf.l0])
    | succ k1 =>
     have H := HA.out
     clear HA
     simp only [impl_LogOf.l0] at H
     by_cases c5 : x13_1 < (l0.length : Int)
     · rw [if_pos c5] at H
       have c5b0 : decide (x13_1 < (l0.length : Int)) = true := decide_eq_true c5
       clear c5
       by_cases c6 : 0 ≤ x13_1
       · rw [if_pos c6] at H
         have c6b0 : decide (0 ≤ x13_1) = true := decide_eq_true c6
         clear c6
         by_cases c7 : x13_1 < (l0.length : Int)
         · rw [if_pos c7] at H
           have c7b0 : decide (x13_1 < (l0.length : Int)) = true := decide_eq_true c7
           clear c7
           by_cases c8 : ((rd_L4 l0 x13_1).length : Int) > 2000
           · rw [if_pos c8] at H
             have c8b0 : decide (2000 < ((rd_L4 l0 x13_1).length : Int)) = true := decide_eq_true c8
             have c8b1 : decide (2000 < (rd_L4 l0 x13_1).length) = true := decide_eq_true (by omega)
             clear c8
             simp only [Option.some.injEq, Prod.mk.injEq] at H
             obtain ⟨rfl, rfl⟩ := H
             have p104 : 0 ≤ (x13_1 : Int) := of_decide_eq_true z1200
             have q104 : x13_1 < (l0.length : Int) := of_decide_eq_true z1200
             obtain ⟨ad104, A104_0, c104_0, e104, hx104_0, hl104_0, hi104_0⟩ := at_L4 HR0.out x13_1 p104 q104
             cases e104
             replace hx104_0 := (HB.out.cell (World.block_lt_of_cell? w _ hx104_0)).trans hx104_0
             have HR104_0 := Aside0.mk hi104_0
             have HC104_0 := Aside0.mk hl104_0
             clear hi104_0 hl104_0
             replace p104 := eq_true p104
             replace q104 := eq_true q104
             go_wp2
             go_ret2
             exact ⟨_, z674d, z02fa, z5acd⟩
           · rw [if_neg c8] at H
             have c8b0 : decide (2000 < ((rd_L4 l0 x13_1).length : Int)) = false := decide_eq_false c8
             have c8b1 : decide (2000 < (rd_L4 l0 x13_1).length) = false := decide_eq_false (by omega)
             clear c8
             replace H := Option.bind_eq_some_iff.mp H
             obtain ⟨t105, A90, H⟩ := H
             try dsimp only at H
             have A9 := Aside0.mk A90
             clear A90
             by_cases c10 : x4_1.length + t105.length < 140737488355328
             · rw [if_pos c10] at H
               have LMc10 := Aside0.mk c10
               clear c10
               obtain ⟨y108, hy108⟩ : ∃ y_ : List Int, y_ = (x4_1 ++ t105) := ⟨_, rfl⟩
               replace H : (impl_LogOf.l0 k1 y108 l0 (l0.length : Int) (wrap64 (x13_1 + 1))) = some (r1, r2) := by first | (rw [hy108]; with_reducible exact H) | (have H2_ := (Option.bind_some _ _).symm.trans H; rw [hy108]; with_reducible exact H2_) | (have H2_ := (Option.bind_some _ _).symm.trans H; with_reducible exact H2_) | with_reducible exact H | (rw [hy108]; exact H) | exact H
               have Ny108 := Aside0.mk hy108
               clear hy108
               have H' := Aside0.mk H
               clear H
               have p104 : 0 ≤ (x13_1 : Int) := of_decide_eq_true z1200
               have q104 : x13_1 < (l0.length : Int) := of_decide_eq_true z1200
               obtain ⟨ad104, A104_0, c104_0, e104, hx104_0, hl104_0, hi104_0⟩ := at_L4 HR0.out x13_1 p104 q104
               cases e104
               replace hx104_0 := (HB.out.cell (World.block_lt_of_cell? w _ hx104_0)).trans hx104_0
               have HR104_0 := Aside0.mk hi104_0
               have HC104_0 := Aside0.mk hl104_0
               clear hi104_0 hl104_0
               replace p104 := eq_true p104
               replace q104 := eq_true q104
               obtain ⟨Ao11, co11, eo11⟩ := Kd.R_slice HO_4.out
               subst eo11
               go_wp2_with (first | ((with_reducible refine gate_callee (f := 52) rfl ?_); refine goesL_ (some 24) rfl rfl Try.func52 (by kernel_rfl) rfl #[.int .i64 (x4_1.length : Int), .slice A104_0 (rd_L4 l0 x13_1).length c104_0] rfl zee81 ?_; (with_reducible refine (impl_logPieces.calls k1 (x4_1.length : Int) (fun k_ => k_ < w.heap.size) _ _ (rd_L4 l0 x13_1) t105 _ ?side1 A9.out).mono ?_); (case side1 => exact Kd.V_mk HC104_0.out (Kd.F_below (Kd.C_F (Kd.heap_int .u8) HR104_0.out) hbZ)); rintro e w12 ⟨v106, rfl, ho0, hb⟩; refine ⟨_, rfl, ?_⟩; have n0_ := Aside0.mk (Kd.R_elder' (rZ HO_4.out) (Kd.R_base ho0) hb); have n1_ := Aside0.mk (Kd.R_lower (Kd.R_new' (Kd.R_mono (ok' := fun k_ => True) ho0 (fun _ hk_ => trivial)) (Kd.R_lt (rZ HO_4.out))) (below_size hbZ)); have n2_ := Aside0.mk (below_step hbZ hb); clear HO_4 HB; have HO_4 := n0_; have HO107 := n1_; have HB := n2_; clear n0_ n1_ n2_; (try clear hb); (try clear hb2); (try clear hk); (try clear hi); (try clear ho0); obtain ⟨Ao14, co14, eo14⟩ := Kd.R_slice HO107.out; subst eo14) | ((with_reducible refine gate_builtin (b := .append) (xs := #[.tmp 20, .tmp 24]) rfl ?_); at_builtin; refine Kd.R_append_rows (Kd.int .u8) (w0 := w) w.heap.size rfl (.tmp 20) (.tmp 24) 22 5 (.int .u8 0) 1 rfl Try.underlying22 info5 rfl (by decide) (by omega) (.slice Ao11 x4_1.length co11) x4_1 t105 _ _ _ (fun k_ => some k_ ≠ (.slice Ao14 t105.length co14 : Value).ownBlock) (fun _ => False) rfl rfl ?aO ?aR (fun _ _ h => h) (fun _ h => h.elim) ?aF ?aB ?aS ?aL ?_; (case aR => repeat (first | exact (Kd.R_reads' HO107.out).2.2 | (with_reducible refine Kd.C_alloc ?_ _) | (with_reducible refine Kd.C_drewN ?_ _) | (with_reducible refine Kd.C_drew ?_))); (case aB => exact hbZ); (case aF => exact (fun k_ hk => Kd.fresh' (Kd.R_lt (rZ HO107.out)) k_ hk)); (case aO => exact (by (with_reducible repeat (first | apply Kd.R_alloc | apply Kd.R_drewN | apply Kd.R_drew)); exact Kd.R_mono HO_4.out (fun _ hk => hk.2))); (case aS => exact (below_size hbZ)); (case aL => have := LMc10.out; omega); intro v109 w13 ho hb hg hat; rw [← Ny108.out] at ho; have n0_ := Aside0.mk (Kd.R_after (ok := (fun _ => True)) (rZ HO107.out) hg hat); have n1_ := Aside0.mk hb; have n2_ := Aside0.mk ho; clear HO107 HB HO_4; have HO107 := n0_; have HB := n1_; have HO110 := n2_; clear n0_ n1_ n2_; clear ho hb hg hat))
               go_roundg k1
               case measure => have := HK1.out; omega
               case rel => exact ⟨(y108), (wrap64 (x13_1 + 1)), z4458, H', ⟨zfb39⟩, ⟨by (with_reducible repeat (first | apply Kd.R_alloc | apply Kd.R_drewN | apply Kd.R_drew)); exact Kd.R_mono HO110.out (fun _ hk => trivial)⟩, ⟨z5acd⟩⟩
             · rw [if_neg c10] at H
               exact absurd H (by simp)
         · rw [if_neg c7] at H
           exact absurd H (by simp)
       · rw [if_neg c6] at H
         exact absurd H (by simp)
     · rw [if_neg c5] at H
       have c5b0 : decide (x13_1 < (l0.length : Int)) = false := decide_eq_false c5
       clear c5
       by_cases c15 : (x4_1.length : Int) > 20000
       · rw [if_pos c15] at H
         have c15b0 : decide (20000 < (x4_1.length : Int)) = true := decide_eq_true c15
         have c15b1 : decide (20000 < x4_1.length) = true := decide_eq_true (by omega)
         clear c15
         simp only [Option.some.injEq, Prod.mk.injEq] at H
         obtain ⟨rfl, rfl⟩ := H
         obtain ⟨Ao16, co16, eo16⟩ := Kd.R_slice HO_4.out
         subst eo16
         go_wp2
         go_ret2
         exact ⟨_, z674d, z02fa, z5acd⟩
       · rw [if_neg c15] at H
         have c15b0 : decide (20000 < (x4_1.length : Int)) = false := decide_eq_false c15
         have c15b1 : decide (20000 < x4_1.length) = false := decide_eq_false (by omega)
         clear c15
         simp only [Option.some.injEq, Prod.mk.injEq] at H
         obtain ⟨rfl, rfl⟩ := H
         obtain ⟨Ao17, co17, eo17⟩ := Kd.R_slice HO_4.out
         subst eo17
         go_wp2
         go_ret2
         exact ⟨_, z674d, rZ HO_4.out, z5acd⟩

end Go.Proofs.Ythliooccgclbjaa.P

-- written by a program of this session's (wip/pp)
namespace Go.Proofs.Ythliooccgclbjaa.P
open Go.RowKit Go.Proofs.YthliooccgclbjaaW.PrintWords Go.Proofs.YthliooccgclbjaaW.PrintLast Go.Proofs.YthliooccgclbjaaW.PrintMore
attribute [local go_sem] max2_int min2_int max_two min_two max_three min_three max_four min_four   -- for this text's walks alone
set_option linter.unusedVariables false
set_option linter.unusedSimpArgs false

/-! ### spec_l1Fixed: function 42 -/
def spec_l1Fixed.l0 : Nat → Int → List Int → Int → Option (List Int)
 | 0, _, _, _ => none
 | k + 1, x0, x5, x6 => if x6 ≥ 0 then (if 0 ≤ (IntKind.u64.wrap (wrap64 (8 * x6))) then (if x5.length < 140737488355328 then (spec_l1Fixed.l0 k x0 (x5 ++ [(shr .i64 x0 (IntKind.u64.wrap (wrap64 (8 * x6)))) % 256]) (wrap64 (x6 - 1))) else (none)) else (none)) else (some x5)
def spec_l1Fixed.f (k : Nat) (a0 : Int) (a1 : Int) : Option (List Int) := spec_l1Fixed.l0 k a0 ([] : List Int) (wrap64 (a1 - 1))
theorem spec_l1Fixed.mono_l : ∀ k, (∀ y0 y1 y2, LeO (spec_l1Fixed.l0 k y0 y1 y2) (spec_l1Fixed.l0 (k + 1) y0 y1 y2))
 | 0 => fun _ _ _ r h => by simp [spec_l1Fixed.l0] at h
 | k + 1 => by
  have ih0 := spec_l1Fixed.mono_l k
  · intro y0 y1 y2
    unfold spec_l1Fixed.l0
    repeat' first
     | (with_reducible first | exact ih0 .. | exact LeO.refl _ | exact LeO.none _ | refine LeO.ite ?_ ?_ | refine LeO.bind ?_ (fun _ => ?_))
     | exact LeO.none _
     | refine LeO.ite ?_ ?_
     | refine LeO.bind ?_ (fun _ => ?_)
theorem spec_l1Fixed.mono : ∀ a0 a1 k, LeO (spec_l1Fixed.f k a0 a1) (spec_l1Fixed.f (k + 1) a0 a1) := by
 intro a0 a1 k
 have ih0 := spec_l1Fixed.mono_l k
 unfold spec_l1Fixed.f
 repeat' first
  | (with_reducible first | exact ih0 .. | exact LeO.refl _ | exact LeO.none _ | refine LeO.ite ?_ ?_ | refine LeO.bind ?_ (fun _ => ?_))
  | exact LeO.none _
  | refine LeO.ite ?_ ?_
  | refine LeO.bind ?_ (fun _ => ?_)
set_option maxHeartbeats 8000000 in
set_option maxRecDepth 100000 in
theorem spec_l1Fixed.calls (k : Nat) (a0 : Int) (a1 : Int) (r : List Int) (w : World) (h : spec_l1Fixed.f k a0 a1 = some r) :
 Calls Try.prog 42 #[.int .i64 a0, .int .i64 a1] w fun e w' => ∃ v0_ : Value, e = .returned (v0_) ∧ Kd.R (Kd.int .u8) 5 w' w.heap.size (fun _ => True) v0_ r ∧ Below w.heap.size w w' := by
 have HB := Aside0.mk (Below.refl w.heap.size w)
 have H : (spec_l1Fixed.l0 k a0 ([] : List Int) (wrap64 (a1 - 1))) = some r := h
 clear h
 have H' := Aside0.mk H
 clear H
 go_enter Try.func42, Try.ntmps42
 go_wp2
 go_loopg [5, 6] k (fun kq v5 v6 w' => ∃ (x5_1 : List Int) (x6_1 : Int), v6 = .int .i64 x6_1 ∧ Aside0 (spec_l1Fixed.l0 kq a0 x5_1 x6_1 = some r) ∧ Aside0 (kq ≤ k) ∧ Aside0 (Kd.R (Kd.int .u8) 5 w' w.heap.size (fun _ => True) v5 x5_1) ∧ Aside0 (Below w.heap.size w w'))
 case atStart => exact ⟨(([] : List Int)), (wrap64 (a1 - 1)), z4458, H', ⟨Nat.le_refl _⟩, ⟨z02fa⟩, ⟨z5acd⟩⟩
 case round =>
  clear H'
  try clear p2
  obtain ⟨x5_1, x6_1, rfl, HA, HK1, HO_5, HB⟩ := hrel
  cases gk with
  | zero => exact absurd HA.out (by simp [spec_l1Fixed.l0])
  | succ k1 =>
   have H := HA.out
   clear HA
   simp only [spec_l1Fixed.l0] at H
   by_cases c3 : x6_1 ≥ 0
   · rw [if_pos c3] at H
     have c3b0 : decide (0 ≤ x6_1) = true := decide_eq_true c3
     clear c3
     obtain ⟨ji4, hji4⟩ : ∃ j_ : Int, (IntKind.u64.wrap (wrap64 (8 * x6_1))) = j_ := ⟨_, rfl⟩
     replace H : (if 0 ≤ (ji4) then (if x5_1.length < 140737488355328 then (spec_l1Fixed.l0 k1 a0 (x5_1 ++ [(shr .i64 a0 (ji4)) % 256]) (wrap64 (x6_1 - 1))) else (none)) else (none)) = some r := by first | (rw [hji4] at H; exact H) | (simp only [hji4] at H ⊢; exact H)
     by_cases c5 : 0 ≤ (ji4)
     · rw [if_pos c5] at H
       have c5b0 := eq_true c5
       have c5b1 : decide (0 ≤ (ji4)) = true := decide_eq_true c5
       clear c5
       obtain ⟨ji6, hji6⟩ : ∃ j_ : Int, (shr .i64 a0 (ji4)) = j_ := ⟨_, rfl⟩
       replace H : (if x5_1.length < 140737488355328 then (spec_l1Fixed.l0 k1 a0 (x5_1 ++ [(ji6) % 256]) (wrap64 (x6_1 - 1))) else (none)) = some r := by first | (rw [hji6] at H; exact H) | (simp only [hji6] at H ⊢; exact H)
       have hji6_ : (a0 / 2 ^ min (ji4).toNat 64) = ji6 := hji6
       have hji6z : (ji4) ≤ 64 → (a0 / 2 ^ (ji4).toNat) = ji6 := shr_small hji6
       by_cases c7 : x5_1.length < 140737488355328
       · rw [if_pos c7] at H
         have LMc7 := Aside0.mk c7
         clear c7
         obtain ⟨y101, hy101⟩ : ∃ y_ : List Int, y_ = (x5_1 ++ [(ji6) % 256]) := ⟨_, rfl⟩
         replace H : (spec_l1Fixed.l0 k1 a0 y101 (wrap64 (x6_1 - 1))) = some r := by first | (rw [hy101]; with_reducible exact H) | (have H2_ := (Option.bind_some _ _).symm.trans H; rw [hy101]; with_reducible exact H2_) | (have H2_ := (Option.bind_some _ _).symm.trans H; with_reducible exact H2_) | with_reducible exact H | (rw [hy101]; exact H) | exact H
         have Ny101 := Aside0.mk hy101
         clear hy101
         have H' := Aside0.mk H
         clear H
         go_wp2_with (first | ((with_reducible refine gate_builtin (b := .append) (xs := #[.tmp 13, .tmp 20]) rfl ?_); at_builtin; refine Kd.R_append (Kd.int .u8) (w0 := w) w.heap.size rfl (.tmp 13) (.tmp 20) 22 5 (.int .u8 0) 1 rfl Try.underlying22 info5 rfl (by decide) (by omega) u5 x5_1 ((ji6) % 256) [.int .u8 ((ji6) % 256)] (fun _ => True) (fun _ => False) rfl rfl ?aP (fun _ hk => hk.elim) ?aF ?aO ?aB ?aS ?aL ?_; (case aP => exact rfl); (case aB => exact hbZ); (case aF => exact (fun _ _ => trivial)); (case aO => exact (rZ HO_5.out)); (case aS => exact (below_size hbZ)); (case aL => have := LMc7.out; omega); intro v102 w8 ho hb hg hat; rw [← Ny101.out] at ho; have n0_ := Aside0.mk hb; have n1_ := Aside0.mk ho; clear HB HO_5; have HB := n0_; have HO103 := n1_; clear n0_ n1_; clear ho hb hg hat))
         go_roundg k1
         case measure => have := HK1.out; omega
         case rel => exact ⟨(y101), (wrap64 (x6_1 - 1)), z4458, H', ⟨zfb39⟩, ⟨rZ HO103.out⟩, ⟨z5acd⟩⟩
       · rw [if_neg c7] at H
         exact absurd H (by simp)
     · rw [if_neg c5] at H
       exact absurd H (by simp)
   · rw [if_neg c3] at H
     have c3b0 : decide (0 ≤ x6_1) = false := decide_eq_false c3
     clear c3
     obtain rfl := Option.some.inj H
     go_wp2
     go_ret
     exact ⟨_, z674d, rZ HO_5.out, z5acd⟩

end Go.Proofs.Ythliooccgclbjaa.P

-- written by a program of this session's (wip/pp)
namespace Go.Proofs.Ythliooccgclbjaa.P
open Go.RowKit Go.Proofs.YthliooccgclbjaaW.PrintWords Go.Proofs.YthliooccgclbjaaW.PrintLast Go.Proofs.YthliooccgclbjaaW.PrintMore
attribute [local go_sem] max2_int min2_int max_two min_two max_three min_three max_four min_four   -- for this text's walks alone
set_option linter.unusedVariables false
set_option linter.unusedSimpArgs false

/-! ### spec_l1Crc: function 72 -/
mutual
def spec_l1Crc.l0 : Nat → Int → List Int → Int → Int → Option (Int)
 | 0, _, _, _, _ => none
 | k + 1, x3, x7, x8, x9 => if x9 < x8 then (if 0 ≤ x9 then (if x9 < (x7.length : Int) then (spec_l1Crc.l1 k (Go.bits .xor .u32 x3 ((rd x7 x9) % 4294967296)) 0 x7 x8 x9) else (none)) else (none)) else (some (Go.bits .xor .u32 x3 4294967295))
def spec_l1Crc.l1 : Nat → Int → Int → List Int → Int → Int → Option (Int)
 | 0, _, _, _, _, _ => none
 | k + 1, x3, x6, x7, x8, x9 => if x6 < 8 then (if (Go.bits .and .u32 x3 1) = 1 then (spec_l1Crc.l1 k (Go.bits .xor .u32 (x3 / 2) 2197175160) (wrap64 (x6 + 1)) x7 x8 x9) else (spec_l1Crc.l1 k (x3 / 2) (wrap64 (x6 + 1)) x7 x8 x9)) else (spec_l1Crc.l0 k x3 x7 x8 (wrap64 (x9 + 1)))
end
def spec_l1Crc.f (k : Nat) (l0 : List Int) : Option (Int) := spec_l1Crc.l0 k 4294967295 l0 (l0.length : Int) 0
theorem spec_l1Crc.mono_l : ∀ k, (∀ y0 y1 y2 y3, LeO (spec_l1Crc.l0 k y0 y1 y2 y3) (spec_l1Crc.l0 (k + 1) y0 y1 y2 y3)) ∧ (∀ y0 y1 y2 y3 y4, LeO (spec_l1Crc.l1 k y0 y1 y2 y3 y4) (spec_l1Crc.l1 (k + 1) y0 y1 y2 y3 y4))
 | 0 => ⟨fun _ _ _ _ r h => by simp [spec_l1Crc.l0] at h, fun _ _ _ _ _ r h => by simp [spec_l1Crc.l1] at h⟩
 | k + 1 => by
  obtain ⟨ih0, ih1⟩ := spec_l1Crc.mono_l k
  refine ⟨?_, ?_⟩
  · intro y0 y1 y2 y3
    unfold spec_l1Crc.l0
    repeat' first
     | (with_reducible first | exact ih0 .. | exact ih1 .. | exact LeO.refl _ | exact LeO.none _ | refine LeO.ite ?_ ?_ | refine LeO.bind ?_ (fun _ => ?_))
     | exact LeO.none _
     | refine LeO.ite ?_ ?_
     | refine LeO.bind ?_ (fun _ => ?_)
  · intro y0 y1 y2 y3 y4
    unfold spec_l1Crc.l1
    repeat' first
     | (with_reducible first | exact ih0 .. | exact ih1 .. | exact LeO.refl _ | exact LeO.none _ | refine LeO.ite ?_ ?_ | refine LeO.bind ?_ (fun _ => ?_))
     | exact LeO.none _
     | refine LeO.ite ?_ ?_
     | refine LeO.bind ?_ (fun _ => ?_)
theorem spec_l1Crc.mono : ∀ a0 k, LeO (spec_l1Crc.f k a0) (spec_l1Crc.f (k + 1) a0) := by
 intro a0 k
 obtain ⟨ih0, ih1⟩ := spec_l1Crc.mono_l k
 unfold spec_l1Crc.f
 repeat' first
  | (with_reducible first | exact ih0 .. | exact ih1 .. | exact LeO.refl _ | exact LeO.none _ | refine LeO.ite ?_ ?_ | refine LeO.bind ?_ (fun _ => ?_))
  | exact LeO.none _
  | refine LeO.ite ?_ ?_
  | refine LeO.bind ?_ (fun _ => ?_)
set_option maxHeartbeats 8000000 in
set_option maxRecDepth 100000 in
theorem spec_l1Crc.calls (k : Nat) (A0 : Option Addr) (c0 : Nat) (l0 : List Int) (r : Int) (w : World) (hr0 : Kd.C (Kd.int .u8) w A0 l0.length l0) (hc0 : l0.length ≤ c0) (h : spec_l1Crc.f k l0 = some r) :
 Calls Try.prog 72 #[.slice A0 l0.length c0] w fun e w' => e = .returned (.int .u32 r) ∧ Drawn0 w w' := by
 have HR0 := Aside0.mk hr0
 have HC0 := Aside0.mk hc0
 clear hr0 hc0
 have H : (spec_l1Crc.l0 k 4294967295 l0 (l0.length : Int) 0) = some r := h
 clear h
 have H' := Aside0.mk H
 clear H
 go_enter Try.func72, Try.ntmps72
 go_wp2
 go_loopg [3, 9] k (fun kq v3 v9 w' => ∃ (x3_1 : Int) (x9_1 : Int), v3 = .int .u32 x3_1 ∧ v9 = .int .i64 x9_1 ∧ Aside0 (spec_l1Crc.l0 kq x3_1 l0 (l0.length : Int) x9_1 = some r) ∧ Aside0 (kq ≤ k) ∧ Drawn0 w w')
 case atStart => exact ⟨(4294967295), (0), z4458, z4458, H', ⟨Nat.le_refl _⟩, za9de⟩
 case round =>
  clear H'
  obtain ⟨x3_1, x9_1, rfl, rfl, HA, HK1, ⟨m1, rfl⟩⟩ := hrel
  cases gk with
  | zero => exact absurd HA.out (by simp [spec_l1Crc.l0])
  | succ k1 =>
   have H := HA.out
   clear HA
   simp only [spec_l1Crc.l0] at H
   by_cases c2 : x9_1 < (l0.length : Int)
   · rw [if_pos c2] at H
     have c2b0 : decide (x9_1 < (l0.length : Int)) = true := decide_eq_true c2
     clear c2
     by_cases c3 : 0 ≤ x9_1
     · rw [if_pos c3] at H
       have c3b0 : decide (0 ≤ x9_1) = true := decide_eq_true c3
       clear c3
       by_cases c4 : x9_1 < (l0.length : Int)
       · rw [if_pos c4] at H
         have c4b0 : decide (x9_1 < (l0.length : Int)) = true := decide_eq_true c4
         clear c4
         have H' := Aside0.mk H
         clear H
         have p101 : 0 ≤ (x9_1 : Int) := of_decide_eq_true z1200
         have q101 : x9_1 < (l0.length : Int) := of_decide_eq_true z1200
         obtain ⟨ad101, e101, hx101_0⟩ := Kd.at_int HR0.out x9_1 p101 q101
         cases e101
         replace p101 := eq_true p101
         replace q101 := eq_true q101
         go_wp2
         go_loopg [3, 6] k1 (fun kq v3 v6 w' => ∃ (x3_2 : Int) (x6_2 : Int), v3 = .int .u32 x3_2 ∧ v6 = .int .i64 x6_2 ∧ Aside0 (spec_l1Crc.l1 kq x3_2 x6_2 l0 (l0.length : Int) x9_1 = some r) ∧ Aside0 (kq ≤ k1) ∧ Drawn0 w w')
         case atStart => exact ⟨(Go.bits .xor .u32 x3_1 ((rd l0 x9_1) % 4294967296)), (0), z4458, z4458, H', ⟨Nat.le_refl _⟩, za9de⟩
         case round =>
          clear H'
          try clear p1
          try clear q1
          try clear hx1
          try clear c2
          try clear c2b0
          try clear p2
          try clear c3
          try clear c3b0
          try clear c4
          try clear c4b0
          try clear hx101_0
          try clear p101
          try clear q101
          obtain ⟨x3_2, x6_2, rfl, rfl, HA, HK2, ⟨m2, rfl⟩⟩ := hrel
          cases gk with
          | zero => exact absurd HA.out (by simp [spec_l1Crc.l1])
          | succ k2 =>
           have H := HA.out
           clear HA
           simp only [spec_l1Crc.l1] at H
           by_cases c5 : x6_2 < 8
           · rw [if_pos c5] at H
             have c5b0 : decide (x6_2 < 8) = true := decide_eq_true c5
             clear c5
             by_cases c6 : (Go.bits .and .u32 x3_2 1) = 1
             · rw [if_pos c6] at H
               have c6b0 : ((Go.bits .and .u32 x3_2 1) == 1) = true := beq_iff_eq.mpr c6
               have c6b1 : ((Go.bits .and .u32 x3_2 1) != 1) = false := bne_eq_false_iff_eq.mpr c6
               clear c6
               have H' := Aside0.mk H
               clear H
               go_wp2
               go_roundg k2
               case measure => have := HK1.out; have := HK2.out; omega
               case rel => exact ⟨(Go.bits .xor .u32 (x3_2 / 2) 2197175160), (wrap64 (x6_2 + 1)), z4458, z4458, H', ⟨zc2be⟩, za9de⟩
             · rw [if_neg c6] at H
               have c6b0 : ((Go.bits .and .u32 x3_2 1) == 1) = false := beq_eq_false_iff_ne.mpr c6
               have c6b1 : ((Go.bits .and .u32 x3_2 1) != 1) = true := bne_iff_ne.mpr c6
               have H' := Aside0.mk H
               clear H
               go_wp2
               go_roundg k2
               case measure => have := HK1.out; have := HK2.out; omega
               case rel => exact ⟨(x3_2 / 2), (wrap64 (x6_2 + 1)), z4458, z4458, H', ⟨zc2be⟩, za9de⟩
           · rw [if_neg c5] at H
             have c5b0 : decide (x6_2 < 8) = false := decide_eq_false c5
             clear c5
             have H' := Aside0.mk H
             clear H
             go_wp2
             go_roundg k2
             case measure => have := HK1.out; have := HK2.out; omega
             case rel => exact ⟨(x3_2), (wrap64 (x9_1 + 1)), z4458, z4458, H', ⟨zc2be⟩, za9de⟩
       · rw [if_neg c4] at H
         exact absurd H (by simp)
     · rw [if_neg c3] at H
       exact absurd H (by simp)
   · rw [if_neg c2] at H
     have c2b0 : decide (x9_1 < (l0.length : Int)) = false := decide_eq_false c2
     clear c2
     obtain rfl := Option.some.inj H
     go_wp2
     go_ret
     exact ⟨z4458, za9de⟩

end Go.Proofs.Ythliooccgclbjaa.P
