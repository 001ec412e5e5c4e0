/- The statement's own text and the last of the walks that it uses. -/
import Derived.Deep.RegionHeld3
import Derived.ChangeArms
import Derived.ChangeSlices
import Derived.DataReads
import Derived.Test.YtkgmoajdcibafaaDoorRows
import Derived.Test.YtkgmoajdcibafaaDoorTie
import Derived.Test.YtkgmoajdcibafaaDoorCards
import Derived.WalkKit
import Derived.ProofKit
import Derived.OpenShut
import Derived.ChangeOld
import Derived.Below
import Derived.Handed
import Derived.Lay
import Derived.MakeChecks
import Derived.LaidHandle
import Derived.Lib.LaidTab
import Derived.Stop.LaidErr
import Derived.JoinedOf
import Derived.SevenTiedAt
import Derived.RowKit
import Derived.Test.YtkgmoajdcibafaaDoorMTD5

/- laws.FnExactTellDirty: its walk, over what its callees answer. No conditions of its own. -/
namespace Go.Proofs.YtkgmoajdcibafaaDoor.P
open Go.RowKit Go.Proofs.YtkgmoajdcibafaaDoorW.PrintWords Go.Proofs.YtkgmoajdcibafaaDoorW.PrintLast Go.Proofs.YtkgmoajdcibafaaDoorW.PrintMore
set_option linter.unusedVariables false
set_option linter.unusedSimpArgs false
/-- What the callees answer. -/
def laws_FnExactTellDirty.Ok (k : Nat) (a0_0 : Int) (a0_1 : Int) (a0_2 : Int) (l0_3 : List S116) : Prop := ∃ q1 : Int, laws_szBoard.f k a0_0 a0_1 a0_2 l0_3 1048576 = some q1 ∧ (q1 < 0 ∨ (0 ≤ q1 ∧ ∃ (q2 : Int) (q3 : Int) (q4 : Int) (q5 : List (S37)) (q6 : Int) (q7 : Int) (q8 : Int) (q9 : List (S37)) (q10 : List (S96)) (q11 : Int) (q12 : Int) (q13 : List S37) (q14 : Int) (q15 : List S37) (q16 : Int) (q17 : List S96), laws_toBoard.f k a0_0 a0_1 a0_2 l0_3 = some (q2, q3, q4, q5) ∧ spec_TellDirty.f k q2 q3 q4 q5 = some (q6, q7, q8, q9, q10, q11) ∧ impl_TellDirty.f k q2 q3 q4 q5 = some (q6, q7, q8, q9, q10, q11) ∧ laws_eqBoard.f k q6 q7 q8 q9 q6 q7 q8 q9 = some true ∧ laws_eqToldS.f k q10 q10 = some true ∧ laws_eqBoard.f k q2 q3 q4 q5 q2 q3 q4 q5 = some true ∧ laws_markWinS.f k q5 1 = some (q12, q13) ∧ laws_markWinS.f k q9 1 = some (q14, q15) ∧ laws_markToldS.f k q10 q14 = some (q16, q17) ∧ laws_heldBoard.f k q6 q7 q8 q15 1 = some q14 ∧ laws_heldToldS.f k q17 q14 = some q16 ∧ 0 ≤ q12 ∧ 0 ≤ q14 ∧ 0 ≤ q16))
set_option maxHeartbeats 8000000 in
set_option maxRecDepth 100000 in
theorem laws_FnExactTellDirty.calls (k : Nat) (a0_0 : Int) (a0_1 : Int) (a0_2 : Int) (A0_3 : Option Addr) (c0_3 : Nat) (l0_3 : List S116) (w : World) (hr0_3 : Kd.C k116 w A0_3 l0_3.length l0_3) (hc0_3 : l0_3.length ≤ c0_3) (h : laws_FnExactTellDirty.Ok k a0_0 a0_1 a0_2 l0_3) :
 Calls Tryd.prog 7 #[.agg #[.int .i64 a0_0, .int .i64 a0_1, .int .i64 a0_2, .slice A0_3 l0_3.length c0_3]] w fun e w' => e = .returned (.bool true) ∧ Below w.heap.size w w' := by
 unfold laws_FnExactTellDirty.Ok at h
 have HB := aM (Below.refl w.heap.size w)
 have HR0_3 := aM hr0_3
 have HC0_3 := aM hc0_3
 clear hr0_3 hc0_3
 obtain ⟨q1, e0_, h⟩ := h
 have HE1 := aM e0_
 clear e0_
 rcases h with h | ⟨h0, h⟩
 · have c0_ : decide (q1 < 0) = true := decide_eq_true h
   clear h
   go_enter Tryd.func7, Tryd.ntmps7
   go_wp2_with (first | ((with_reducible refine gate_dst (N := 1) rfl ?_); refine box_event ?hg (N := 1) ?hd (cs := #[.int .i64 a0_0, .int .i64 a0_1, .int .i64 a0_2, .slice A0_3 l0_3.length c0_3]) (t := 24) ?hr ?_; (case hd => rfl); (case hg => rfl); (case hr => first | (go_simp; done) | (go_simp; rfl)); intro b1_ hg wv1 hbox hb; have LO1 := aM (Loc.box hbox); have el_ := hg; have ORLO1 := aM (show w.heap.size ≤ b1_ from (by first | (rw [el_]; exact HB.out.size))); have OQLO1 := aM (show b1_ ≤ (b1_ + 1) from Nat.le_succ _); have HWLO1 := aM (show w.heap.size ≤ b1_ from (by rw [hg]; exact HB.out.size)); replace HB := aM (below_after HB.out hb); clear hg hbox hb el_; obtain ⟨hcLO1_0, hcLO1_1, hcLO1_2, hcLO1_3, hfLO1_0, hfLO1_1, hfLO1_2, hfLO1_3⟩ := cellsZ4 LO1.out.now) | ((with_reducible refine gate_callee (f := 8) rfl ?_); refine goesL_ (some 19) rfl rfl Tryd.func8 (by kernel_rfl) rfl #[.agg #[.int .i64 a0_0, .int .i64 a0_1, .int .i64 a0_2, .slice A0_3 l0_3.length c0_3], .int .i64 1048576] rfl zee81 ?_; (with_reducible refine (laws_szBoard.calls k a0_0 a0_1 a0_2 _ _ l0_3 1048576 q1 _ ?s1 ?s2 HE1.out).mono ?_); (case s1 => exact Kd.C_below HR0_3.out HB.out); (case s2 => exact HC0_3.out); rintro e wv2 ⟨he_, hb⟩; subst he_; refine ⟨_, rfl, ?_⟩; (try clear hcLO1_0 hcLO1_1 hcLO1_2 hcLO1_3 hfLO1_0 hfLO1_1 hfLO1_2 hfLO1_3); replace LO1 := aM (LO1.out.below hb); replace HB := aM (below_after HB.out hb); clear hb))
   go_ret
   exact ⟨rfl, HB.out⟩
 have c0_ : decide (q1 < 0) = false := decide_eq_false (by omega)
 clear h0
 obtain ⟨q2, q3, q4, q5, q6, q7, q8, q9, q10, q11, q12, q13, q14, q15, q16, q17, e0_, e1_, e2_, e3_, e4_, e5_, e6_, e7_, e8_, e9_, e10_, f0_, f1_, f2_⟩ := h
 have HE2 := aM e0_
 have HE3 := aM e1_
 have HE4 := aM e2_
 have HE5 := aM e3_
 have HE6 := aM e4_
 have HE7 := aM e5_
 have HE8 := aM e6_
 have HE9 := aM e7_
 have HE10 := aM e8_
 have HE11 := aM e9_
 have HE12 := aM e10_
 clear e0_ e1_ e2_ e3_ e4_ e5_ e6_ e7_ e8_ e9_ e10_
 have g0_ : decide (q12 < 0) = false := decide_eq_false (by omega)
 clear f0_
 have g1_ : decide (q14 < 0) = false := decide_eq_false (by omega)
 clear f1_
 have g2_ : decide (q16 < 0) = false := decide_eq_false (by omega)
 clear f2_
 go_enter Tryd.func7, Tryd.ntmps7
 go_wp2_with (first | ((with_reducible refine gate_dst (N := 1) rfl ?_); refine box_event ?hg (N := 1) ?hd (cs := #[.int .i64 a0_0, .int .i64 a0_1, .int .i64 a0_2, .slice A0_3 l0_3.length c0_3]) (t := 24) ?hr ?_; (case hd => rfl); (case hg => rfl); (case hr => first | (go_simp; done) | (go_simp; rfl)); intro b1_ hg wv1 hbox hb; have LO1 := aM (Loc.box hbox); have el_ := hg; have ORLO1 := aM (show w.heap.size ≤ b1_ from (by first | (rw [el_]; exact HB.out.size))); have OQLO1 := aM (show b1_ ≤ (b1_ + 1) from Nat.le_succ _); have HWLO1 := aM (show w.heap.size ≤ b1_ from (by rw [hg]; exact HB.out.size)); replace HB := aM (below_after HB.out hb); clear hg hbox hb el_; obtain ⟨hcLO1_0, hcLO1_1, hcLO1_2, hcLO1_3, hfLO1_0, hfLO1_1, hfLO1_2, hfLO1_3⟩ := cellsZ4 LO1.out.now) | ((with_reducible refine gate_callee (f := 8) rfl ?_); refine goesL_ (some 19) rfl rfl Tryd.func8 (by kernel_rfl) rfl #[.agg #[.int .i64 a0_0, .int .i64 a0_1, .int .i64 a0_2, .slice A0_3 l0_3.length c0_3], .int .i64 1048576] rfl zee81 ?_; (with_reducible refine (laws_szBoard.calls k a0_0 a0_1 a0_2 _ _ l0_3 1048576 q1 _ ?s1 ?s2 HE1.out).mono ?_); (case s1 => exact Kd.C_below HR0_3.out HB.out); (case s2 => exact HC0_3.out); rintro e wv2 ⟨he_, hb⟩; subst he_; refine ⟨_, rfl, ?_⟩; (try clear hcLO1_0 hcLO1_1 hcLO1_2 hcLO1_3 hfLO1_0 hfLO1_1 hfLO1_2 hfLO1_3); replace LO1 := aM (LO1.out.below hb); replace HB := aM (below_after HB.out hb); clear hb; obtain ⟨hcLO1_0, hcLO1_1, hcLO1_2, hcLO1_3, hfLO1_0, hfLO1_1, hfLO1_2, hfLO1_3⟩ := cellsZ4 LO1.out.now) | ((with_reducible refine gate_callee (f := 11) rfl ?_); refine goesL_ (some 24) rfl rfl Tryd.func11 (by kernel_rfl) rfl #[.agg #[.int .i64 a0_0, .int .i64 a0_1, .int .i64 a0_2, .slice A0_3 l0_3.length c0_3]] rfl zee81 ?_; (with_reducible refine (laws_toBoard.calls k a0_0 a0_1 a0_2 _ _ l0_3 q2 q3 q4 q5 _ ?s1 ?s2 HE2.out).mono ?_); (case s1 => exact Kd.C_below HR0_3.out HB.out); (case s2 => exact HC0_3.out); rintro e wv3 ⟨v3_, he_, ho_v3_, hb⟩; subst he_; refine ⟨_, rfl, ?_⟩; (try clear hcLO1_0 hcLO1_1 hcLO1_2 hcLO1_3 hfLO1_0 hfLO1_1 hfLO1_2 hfLO1_3); obtain ⟨lo2_, hi2_, el_, hL_, eh_⟩ := Loc.newS (Kd.S_mono ho_v3_ (fun _ _ => trivial)) HB.out; have LO2 := aM hL_; have ORLO2 := aM (show (b1_ + 1) ≤ lo2_ from (by rw [el_]; exact LO1.out.size)); have OQLO2 := aM (show lo2_ ≤ hi2_ from (by rw [el_, eh_]; exact hb.size)); obtain ⟨ALO2, cLO2, ev_⟩ := Kd.S_slice ho_v3_; subst ev_; clear el_ hL_ eh_ ho_v3_; replace LO1 := aM (LO1.out.below hb); replace HB := aM (below_after HB.out hb); clear hb) | ((with_reducible refine gate_callee (f := 36) rfl ?_); refine goesL_ (some 25) rfl rfl Tryd.func36 (by kernel_rfl) rfl #[.agg #[.int .i64 q2, .int .i64 q3, .int .i64 q4, .slice ALO2 q5.length cLO2]] rfl zee81 ?_; (with_reducible refine (spec_TellDirty.calls k q2 q3 q4 _ _ q5 q6 q7 q8 q9 q10 q11 _ ?s1 ?s2 HE3.out).mono ?_); (case s1 => exact LO2.out.readsS.2.2); (case s2 => exact LO2.out.readsS.2.1); rintro e wv4 ⟨v3_, v4_, he_, ho2_, hb⟩; subst he_; refine ⟨_, rfl, ?_⟩; obtain ⟨lo3_, hi3_, el_, hL_, eh_⟩ := Loc.newTwo ho2_ HB.out; obtain ⟨_, _, _, ho_v3_, ho_v4_⟩ := ho2_; have LO3 := aM hL_; have ORLO3 := aM (show hi2_ ≤ lo3_ from (by rw [el_]; exact LO2.out.size)); have OQLO3 := aM (show lo3_ ≤ hi3_ from (by rw [el_, eh_]; exact hb.size)); obtain ⟨ALO3x, cLO3x, ev_⟩ := Kd.S_slice ho_v3_; subst ev_; obtain ⟨ALO3y, cLO3y, ev_⟩ := Kd.S_slice ho_v4_; subst ev_; clear el_ hL_ eh_ ho_v3_ ho_v4_; replace LO1 := aM (LO1.out.below hb); replace LO2 := aM (LO2.out.below hb); replace HB := aM (below_after HB.out hb); clear hb) | ((with_reducible refine gate_dst (N := 4) rfl ?_); refine box_event ?hg (N := 4) ?hd (cs := #[.int .i64 0, .int .i64 0, .int .i64 0, .slice none 0 0]) (t := 42) ?hr ?_; (case hd => rfl); (case hg => rfl); (case hr => first | (go_simp; done) | (go_simp; rfl)); intro b2_ hg wv5 hbox hb; have LO4 := aM (Loc.box hbox); have el_ := hg; have ORLO4 := aM (show hi3_ ≤ b2_ from (by rw [el_]; exact LO3.out.size)); have OQLO4 := aM (show b2_ ≤ (b2_ + 1) from Nat.le_succ _); have HWLO4 := aM (show w.heap.size ≤ b2_ from (by rw [hg]; exact HB.out.size)); replace LO1 := aM (LO1.out.below hb); replace LO2 := aM (LO2.out.below hb); replace LO3 := aM (LO3.out.below hb); replace HB := aM (below_after HB.out hb); clear hg hbox hb el_; obtain ⟨hcLO4_0, hcLO4_1, hcLO4_2, hcLO4_3, hfLO4_0, hfLO4_1, hfLO4_2, hfLO4_3⟩ := cellsZ4 LO4.out.now) | ((with_reducible refine gate_store (t := 42) (p := 4) rfl ?_); refine store_event (t := 42) (p := 4) (v := ?vo_wv6) (w1 := ((((wv5.setCell ⟨b2_, 0, none⟩ (.int .i64 q6)).setCell ⟨b2_, 1, none⟩ (.int .i64 q7)).setCell ⟨b2_, 2, none⟩ (.int .i64 q8)).setCell ⟨b2_, 3, none⟩ (.slice ALO3x q9.length cLO3x))) ?hg ?ho ?hn ?hr ?_; (case ho => rfl); (case hg => rfl); (case hn => rfl); (case hr => first | (go_simp; done) | (go_simp; rfl)); intro wv6 hw; (try clear hcLO4_0 hcLO4_1 hcLO4_2 hcLO4_3 hfLO4_0 hfLO4_1 hfLO4_2 hfLO4_3); have ho_ : Only wv5 wv6 b2_ := (by rw [hw]; repeat (first | (with_reducible apply Only.set) | exact Only.refl _ _)); have := ORLO1.out; have := OQLO1.out; have := ORLO2.out; have := OQLO2.out; have := ORLO3.out; have := OQLO3.out; have := ORLO4.out; have := OQLO4.out; replace LO1 := aM (LO1.out.only ho_ (by omega)); replace LO2 := aM (LO2.out.only ho_ (by omega)); replace LO3 := aM (LO3.out.only ho_ (by omega)); have hbx_ : wv6.heap[b2_]? = some (.cells #[.int .i64 q6, .int .i64 q7, .int .i64 q8, .slice ALO3x q9.length cLO3x] 42 (0, 0)) := (by have BK_ := LO4.out.now; rw [hw]; first | (with_reducible exact blk_put9 BK_) | (with_reducible exact blk_put6 BK_) | (with_reducible exact blk_put4 BK_) | (apply blk_eqZ; (repeat (first | (with_reducible apply blk_put0) | exact BK_)); first | (simp only [List.setIfInBounds_toArray, List.set_cons_zero, List.set_cons_succ] <;> rfl) | rfl)); replace LO4 := aM (Loc.box hbx_); replace HB := aM (below_only HB.out HWLO4.out ho_); clear ho_ hbx_ hw; obtain ⟨hcLO1_0, hcLO1_1, hcLO1_2, hcLO1_3, hfLO1_0, hfLO1_1, hfLO1_2, hfLO1_3⟩ := cellsZ4 LO1.out.now) | ((with_reducible refine gate_callee (f := 11) rfl ?_); refine goesL_ (some 30) rfl rfl Tryd.func11 (by kernel_rfl) rfl #[.agg #[.int .i64 a0_0, .int .i64 a0_1, .int .i64 a0_2, .slice A0_3 l0_3.length c0_3]] rfl zee81 ?_; (with_reducible refine (laws_toBoard.calls k a0_0 a0_1 a0_2 _ _ l0_3 q2 q3 q4 q5 _ ?s1 ?s2 HE2.out).mono ?_); (case s1 => exact Kd.C_below HR0_3.out HB.out); (case s2 => exact HC0_3.out); rintro e wv7 ⟨v3_, he_, ho_v3_, hb⟩; subst he_; refine ⟨_, rfl, ?_⟩; (try clear hcLO1_0 hcLO1_1 hcLO1_2 hcLO1_3 hfLO1_0 hfLO1_1 hfLO1_2 hfLO1_3); obtain ⟨lo5_, hi5_, el_, hL_, eh_⟩ := Loc.newS (Kd.S_mono ho_v3_ (fun _ _ => trivial)) HB.out; have LO5 := aM hL_; have ORLO5 := aM (show (b2_ + 1) ≤ lo5_ from (by rw [el_]; exact LO4.out.size)); have OQLO5 := aM (show lo5_ ≤ hi5_ from (by rw [el_, eh_]; exact hb.size)); obtain ⟨ALO5, cLO5, ev_⟩ := Kd.S_slice ho_v3_; subst ev_; clear el_ hL_ eh_ ho_v3_; replace LO1 := aM (LO1.out.below hb); replace LO2 := aM (LO2.out.below hb); replace LO3 := aM (LO3.out.below hb); replace LO4 := aM (LO4.out.below hb); replace HB := aM (below_after HB.out hb); clear hb) | ((with_reducible refine gate_dst (N := 7) rfl ?_); refine box_event ?hg (N := 7) ?hd (cs := #[.int .i64 0, .int .i64 0, .int .i64 0, .slice none 0 0]) (t := 42) ?hr ?_; (case hd => rfl); (case hg => rfl); (case hr => first | (go_simp; done) | (go_simp; rfl)); intro b3_ hg wv8 hbox hb; have LO6 := aM (Loc.box hbox); have el_ := hg; have ORLO6 := aM (show hi5_ ≤ b3_ from (by rw [el_]; exact LO5.out.size)); have OQLO6 := aM (show b3_ ≤ (b3_ + 1) from Nat.le_succ _); have HWLO6 := aM (show w.heap.size ≤ b3_ from (by rw [hg]; exact HB.out.size)); replace LO1 := aM (LO1.out.below hb); replace LO2 := aM (LO2.out.below hb); replace LO3 := aM (LO3.out.below hb); replace LO4 := aM (LO4.out.below hb); replace LO5 := aM (LO5.out.below hb); replace HB := aM (below_after HB.out hb); clear hg hbox hb el_; obtain ⟨hcLO6_0, hcLO6_1, hcLO6_2, hcLO6_3, hfLO6_0, hfLO6_1, hfLO6_2, hfLO6_3⟩ := cellsZ4 LO6.out.now) | ((with_reducible refine gate_store (t := 42) (p := 7) rfl ?_); refine store_event (t := 42) (p := 7) (v := ?vo_wv9) (w1 := ((((wv8.setCell ⟨b3_, 0, none⟩ (.int .i64 q2)).setCell ⟨b3_, 1, none⟩ (.int .i64 q3)).setCell ⟨b3_, 2, none⟩ (.int .i64 q4)).setCell ⟨b3_, 3, none⟩ (.slice ALO5 q5.length cLO5))) ?hg ?ho ?hn ?hr ?_; (case ho => rfl); (case hg => rfl); (case hn => rfl); (case hr => first | (go_simp; done) | (go_simp; rfl)); intro wv9 hw; (try clear hcLO6_0 hcLO6_1 hcLO6_2 hcLO6_3 hfLO6_0 hfLO6_1 hfLO6_2 hfLO6_3); have ho_ : Only wv8 wv9 b3_ := (by rw [hw]; repeat (first | (with_reducible apply Only.set) | exact Only.refl _ _)); have := ORLO1.out; have := OQLO1.out; have := ORLO2.out; have := OQLO2.out; have := ORLO3.out; have := OQLO3.out; have := ORLO4.out; have := OQLO4.out; have := ORLO5.out; have := OQLO5.out; have := ORLO6.out; have := OQLO6.out; replace LO1 := aM (LO1.out.only ho_ (by omega)); replace LO2 := aM (LO2.out.only ho_ (by omega)); replace LO3 := aM (LO3.out.only ho_ (by omega)); replace LO4 := aM (LO4.out.only ho_ (by omega)); replace LO5 := aM (LO5.out.only ho_ (by omega)); have hbx_ : wv9.heap[b3_]? = some (.cells #[.int .i64 q2, .int .i64 q3, .int .i64 q4, .slice ALO5 q5.length cLO5] 42 (0, 0)) := (by have BK_ := LO6.out.now; rw [hw]; first | (with_reducible exact blk_put9 BK_) | (with_reducible exact blk_put6 BK_) | (with_reducible exact blk_put4 BK_) | (apply blk_eqZ; (repeat (first | (with_reducible apply blk_put0) | exact BK_)); first | (simp only [List.setIfInBounds_toArray, List.set_cons_zero, List.set_cons_succ] <;> rfl) | rfl)); replace LO6 := aM (Loc.box hbx_); replace HB := aM (below_only HB.out HWLO6.out ho_); clear ho_ hbx_ hw; obtain ⟨hcLO6_0, hcLO6_1, hcLO6_2, hcLO6_3, hfLO6_0, hfLO6_1, hfLO6_2, hfLO6_3⟩ := cellsZ4 LO6.out.now) | ((with_reducible refine gate_callee (f := 37) rfl ?_); refine goesL_ (some 33) rfl rfl Tryd.func37 (by kernel_rfl) rfl #[.agg #[.int .i64 q2, .int .i64 q3, .int .i64 q4, .slice ALO5 q5.length cLO5]] rfl zee81 ?_; (with_reducible refine (impl_TellDirty.calls k q2 q3 q4 _ _ q5 q6 q7 q8 q9 q10 q11 _ ?s1 ?s2 HE4.out).mono ?_); (case s1 => exact LO5.out.readsS.2.2); (case s2 => exact LO5.out.readsS.2.1); rintro e wv10 ⟨v3_, v4_, he_, ho2_, hb⟩; subst he_; refine ⟨_, rfl, ?_⟩; (try clear hcLO6_0 hcLO6_1 hcLO6_2 hcLO6_3 hfLO6_0 hfLO6_1 hfLO6_2 hfLO6_3); obtain ⟨lo7_, hi7_, el_, hL_, eh_⟩ := Loc.newTwo ho2_ HB.out; obtain ⟨_, _, _, ho_v3_, ho_v4_⟩ := ho2_; have LO7 := aM hL_; have ORLO7 := aM (show (b3_ + 1) ≤ lo7_ from (by rw [el_]; exact LO6.out.size)); have OQLO7 := aM (show lo7_ ≤ hi7_ from (by rw [el_, eh_]; exact hb.size)); obtain ⟨ALO7x, cLO7x, ev_⟩ := Kd.S_slice ho_v3_; subst ev_; obtain ⟨ALO7y, cLO7y, ev_⟩ := Kd.S_slice ho_v4_; subst ev_; clear el_ hL_ eh_ ho_v3_ ho_v4_; replace LO1 := aM (LO1.out.below hb); replace LO2 := aM (LO2.out.below hb); replace LO3 := aM (LO3.out.below hb); replace LO4 := aM (LO4.out.below hb); replace LO5 := aM (LO5.out.below hb); replace LO6 := aM (LO6.out.below hb); replace HB := aM (below_after HB.out hb); clear hb) | ((with_reducible refine gate_dst (N := 8) rfl ?_); refine box_event ?hg (N := 8) ?hd (cs := #[.int .i64 0, .int .i64 0, .int .i64 0, .slice none 0 0]) (t := 42) ?hr ?_; (case hd => rfl); (case hg => rfl); (case hr => first | (go_simp; done) | (go_simp; rfl)); intro b4_ hg wv11 hbox hb; have LO8 := aM (Loc.box hbox); have el_ := hg; have ORLO8 := aM (show hi7_ ≤ b4_ from (by rw [el_]; exact LO7.out.size)); have OQLO8 := aM (show b4_ ≤ (b4_ + 1) from Nat.le_succ _); have HWLO8 := aM (show w.heap.size ≤ b4_ from (by rw [hg]; exact HB.out.size)); replace LO1 := aM (LO1.out.below hb); replace LO2 := aM (LO2.out.below hb); replace LO3 := aM (LO3.out.below hb); replace LO4 := aM (LO4.out.below hb); replace LO5 := aM (LO5.out.below hb); replace LO6 := aM (LO6.out.below hb); replace LO7 := aM (LO7.out.below hb); replace HB := aM (below_after HB.out hb); clear hg hbox hb el_; obtain ⟨hcLO8_0, hcLO8_1, hcLO8_2, hcLO8_3, hfLO8_0, hfLO8_1, hfLO8_2, hfLO8_3⟩ := cellsZ4 LO8.out.now) | ((with_reducible refine gate_store (t := 42) (p := 8) rfl ?_); refine store_event (t := 42) (p := 8) (v := ?vo_wv12) (w1 := ((((wv11.setCell ⟨b4_, 0, none⟩ (.int .i64 q6)).setCell ⟨b4_, 1, none⟩ (.int .i64 q7)).setCell ⟨b4_, 2, none⟩ (.int .i64 q8)).setCell ⟨b4_, 3, none⟩ (.slice ALO7x q9.length cLO7x))) ?hg ?ho ?hn ?hr ?_; (case ho => rfl); (case hg => rfl); (case hn => rfl); (case hr => first | (go_simp; done) | (go_simp; rfl)); intro wv12 hw; (try clear hcLO8_0 hcLO8_1 hcLO8_2 hcLO8_3 hfLO8_0 hfLO8_1 hfLO8_2 hfLO8_3); have ho_ : Only wv11 wv12 b4_ := (by rw [hw]; repeat (first | (with_reducible apply Only.set) | exact Only.refl _ _)); have := ORLO1.out; have := OQLO1.out; have := ORLO2.out; have := OQLO2.out; have := ORLO3.out; have := OQLO3.out; have := ORLO4.out; have := OQLO4.out; have := ORLO5.out; have := OQLO5.out; have := ORLO6.out; have := OQLO6.out; have := ORLO7.out; have := OQLO7.out; have := ORLO8.out; have := OQLO8.out; replace LO1 := aM (LO1.out.only ho_ (by omega)); replace LO2 := aM (LO2.out.only ho_ (by omega)); replace LO3 := aM (LO3.out.only ho_ (by omega)); replace LO4 := aM (LO4.out.only ho_ (by omega)); replace LO5 := aM (LO5.out.only ho_ (by omega)); replace LO6 := aM (LO6.out.only ho_ (by omega)); replace LO7 := aM (LO7.out.only ho_ (by omega)); have hbx_ : wv12.heap[b4_]? = some (.cells #[.int .i64 q6, .int .i64 q7, .int .i64 q8, .slice ALO7x q9.length cLO7x] 42 (0, 0)) := (by have BK_ := LO8.out.now; rw [hw]; first | (with_reducible exact blk_put9 BK_) | (with_reducible exact blk_put6 BK_) | (with_reducible exact blk_put4 BK_) | (apply blk_eqZ; (repeat (first | (with_reducible apply blk_put0) | exact BK_)); first | (simp only [List.setIfInBounds_toArray, List.set_cons_zero, List.set_cons_succ] <;> rfl) | rfl)); replace LO8 := aM (Loc.box hbx_); replace HB := aM (below_only HB.out HWLO8.out ho_); clear ho_ hbx_ hw; obtain ⟨hcLO8_0, hcLO8_1, hcLO8_2, hcLO8_3, hfLO8_0, hfLO8_1, hfLO8_2, hfLO8_3⟩ := cellsZ4 LO8.out.now; obtain ⟨hcLO4_0, hcLO4_1, hcLO4_2, hcLO4_3, hfLO4_0, hfLO4_1, hfLO4_2, hfLO4_3⟩ := cellsZ4 LO4.out.now) | ((with_reducible refine gate_callee (f := 15) rfl ?_); refine goesL_ (some 39) rfl rfl Tryd.func15 (by kernel_rfl) rfl #[.agg #[.int .i64 q6, .int .i64 q7, .int .i64 q8, .slice ALO7x q9.length cLO7x], .agg #[.int .i64 q6, .int .i64 q7, .int .i64 q8, .slice ALO3x q9.length cLO3x]] rfl zee81 ?_; (with_reducible refine (laws_eqBoard.calls k q6 q7 q8 _ _ q9 q6 q7 q8 _ _ q9 true _ ?s1 ?s2 ?s3 ?s4 HE5.out).mono ?_); (case s1 => exact LO7.out.readsTwo1.2.2); (case s2 => exact LO7.out.readsTwo1.2.1); (case s3 => exact LO3.out.readsTwo1.2.2); (case s4 => exact LO3.out.readsTwo1.2.1); rintro e wv13 ⟨he_, hb⟩; subst he_; refine ⟨_, rfl, ?_⟩; (try clear hcLO8_0 hcLO8_1 hcLO8_2 hcLO8_3 hfLO8_0 hfLO8_1 hfLO8_2 hfLO8_3 hcLO4_0 hcLO4_1 hcLO4_2 hcLO4_3 hfLO4_0 hfLO4_1 hfLO4_2 hfLO4_3); replace LO1 := aM (LO1.out.below hb); replace LO2 := aM (LO2.out.below hb); replace LO3 := aM (LO3.out.below hb); replace LO4 := aM (LO4.out.below hb); replace LO5 := aM (LO5.out.below hb); replace LO6 := aM (LO6.out.below hb); replace LO7 := aM (LO7.out.below hb); replace LO8 := aM (LO8.out.below hb); replace HB := aM (below_after HB.out hb); clear hb) | (go_at_call 28; (with_reducible refine (laws_eqToldS.calls k _ _ q10 _ _ q10 true _ ?s1 ?s2 ?s3 ?s4 HE6.out).mono ?_); (case s1 => exact LO7.out.readsTwo2.2.2); (case s2 => exact LO7.out.readsTwo2.2.1); (case s3 => exact LO3.out.readsTwo2.2.2); (case s4 => exact LO3.out.readsTwo2.2.1); rintro e wv14 ⟨he_, hb⟩; subst he_; replace LO1 := aM (LO1.out.below hb); replace LO2 := aM (LO2.out.below hb); replace LO3 := aM (LO3.out.below hb); replace LO4 := aM (LO4.out.below hb); replace LO5 := aM (LO5.out.below hb); replace LO6 := aM (LO6.out.below hb); replace LO7 := aM (LO7.out.below hb); replace LO8 := aM (LO8.out.below hb); replace HB := aM (below_after HB.out hb); clear hb))
 obtain ⟨hcLO6_0, hcLO6_1, hcLO6_2, hcLO6_3, hfLO6_0, hfLO6_1, hfLO6_2, hfLO6_3⟩ := cellsZ4 LO6.out.now
 obtain ⟨hcLO1_0, hcLO1_1, hcLO1_2, hcLO1_3, hfLO1_0, hfLO1_1, hfLO1_2, hfLO1_3⟩ := cellsZ4 LO1.out.now
 go_region_held3 (fun W_ => W_.cell? ⟨b3_, 0, none⟩ = some (.int .i64 q2) ∧ W_.cell? ⟨b3_, 1, none⟩ = some (.int .i64 q3) ∧ W_.cell? ⟨b3_, 2, none⟩ = some (.int .i64 q4) ∧ W_.cell? ⟨b3_, 3, none⟩ = some (.slice ALO5 q5.length cLO5) ∧ W_.cell? ⟨b1_, 0, none⟩ = some (.int .i64 a0_0) ∧ W_.cell? ⟨b1_, 1, none⟩ = some (.int .i64 a0_1) ∧ W_.cell? ⟨b1_, 2, none⟩ = some (.int .i64 a0_2) ∧ W_.cell? ⟨b1_, 3, none⟩ = some (.slice A0_3 l0_3.length c0_3)) (exact ⟨hcLO6_0, hcLO6_1, hcLO6_2, hcLO6_3, hcLO1_0, hcLO1_1, hcLO1_2, hcLO1_3⟩) (first | (go_at_call 11; have hb := (below_drew (Below.refl _ _) : Below wv14.heap.size wv14 wv14.drew); replace LO1 := aM (LO1.out.below hb); replace LO2 := aM (LO2.out.below hb); replace LO3 := aM (LO3.out.below hb); replace LO4 := aM (LO4.out.below hb); replace LO5 := aM (LO5.out.below hb); replace LO6 := aM (LO6.out.below hb); replace LO7 := aM (LO7.out.below hb); replace LO8 := aM (LO8.out.below hb); replace HB := aM (below_after HB.out hb); clear hb; (with_reducible refine (laws_toBoard.calls k a0_0 a0_1 a0_2 _ _ l0_3 q2 q3 q4 q5 _ ?s1 ?s2 HE2.out).mono ?_); (case s1 => exact Kd.C_below HR0_3.out HB.out); (case s2 => exact HC0_3.out); rintro e wv15 ⟨v3_, he_, ho_v3_, hb⟩; subst he_; clear hcLO6_0 hcLO6_1 hcLO6_2 hcLO6_3 hfLO6_0 hfLO6_1 hfLO6_2 hfLO6_3 hcLO1_0 hcLO1_1 hcLO1_2 hcLO1_3 hfLO1_0 hfLO1_1 hfLO1_2 hfLO1_3; obtain ⟨lo9_, hi9_, el_, hL_, eh_⟩ := Loc.newS (Kd.S_mono ho_v3_ (fun _ _ => trivial)) HB.out; have LO9 := aM hL_; have ORLO9 := aM (show (b4_ + 1) ≤ lo9_ from (by rw [el_]; exact LO8.out.size)); have OQLO9 := aM (show lo9_ ≤ hi9_ from (by rw [el_, eh_]; exact hb.size)); obtain ⟨ALO9, cLO9, ev_⟩ := Kd.S_slice ho_v3_; subst ev_; clear el_ hL_ eh_ ho_v3_; replace LO1 := aM (LO1.out.below hb); replace LO2 := aM (LO2.out.below hb); replace LO3 := aM (LO3.out.below hb); replace LO4 := aM (LO4.out.below hb); replace LO5 := aM (LO5.out.below hb); replace LO6 := aM (LO6.out.below hb); replace LO7 := aM (LO7.out.below hb); replace LO8 := aM (LO8.out.below hb); replace HB := aM (below_after HB.out hb); clear hb; obtain ⟨hcLO6_0, hcLO6_1, hcLO6_2, hcLO6_3, hfLO6_0, hfLO6_1, hfLO6_2, hfLO6_3⟩ := cellsZ4 LO6.out.now; obtain ⟨hcLO1_0, hcLO1_1, hcLO1_2, hcLO1_3, hfLO1_0, hfLO1_1, hfLO1_2, hfLO1_3⟩ := cellsZ4 LO1.out.now) | (go_at_call 15; (with_reducible refine (laws_eqBoard.calls k q2 q3 q4 _ _ q5 q2 q3 q4 _ _ q5 true _ ?s1 ?s2 ?s3 ?s4 HE7.out).mono ?_); (case s1 => exact LO5.out.readsS.2.2); (case s2 => exact LO5.out.readsS.2.1); (case s3 => exact LO9.out.readsS.2.2); (case s4 => exact LO9.out.readsS.2.1); rintro e wv16 ⟨he_, hb⟩; subst he_; clear hcLO6_0 hcLO6_1 hcLO6_2 hcLO6_3 hfLO6_0 hfLO6_1 hfLO6_2 hfLO6_3 hcLO1_0 hcLO1_1 hcLO1_2 hcLO1_3 hfLO1_0 hfLO1_1 hfLO1_2 hfLO1_3; replace LO1 := aM (LO1.out.below hb); replace LO2 := aM (LO2.out.below hb); replace LO3 := aM (LO3.out.below hb); replace LO4 := aM (LO4.out.below hb); replace LO5 := aM (LO5.out.below hb); replace LO6 := aM (LO6.out.below hb); replace LO7 := aM (LO7.out.below hb); replace LO8 := aM (LO8.out.below hb); replace LO9 := aM (LO9.out.below hb); replace HB := aM (below_after HB.out hb); clear hb; obtain ⟨hcLO6_0, hcLO6_1, hcLO6_2, hcLO6_3, hfLO6_0, hfLO6_1, hfLO6_2, hfLO6_3⟩ := cellsZ4 LO6.out.now; obtain ⟨hcLO1_0, hcLO1_1, hcLO1_2, hcLO1_3, hfLO1_0, hfLO1_1, hfLO1_2, hfLO1_3⟩ := cellsZ4 LO1.out.now))
 go_wp2_with (first | ((with_reducible refine gate_callee (f := 17) rfl ?_); refine goesL_ (some 59) rfl rfl Tryd.func17 (by kernel_rfl) rfl #[.agg #[.int .i64 q2, .int .i64 q3, .int .i64 q4, .slice ALO5 q5.length cLO5], .int .i64 1] rfl zee81 ?_; (with_reducible refine (laws_markBoard.calls k (fun k => lo5_ ≤ k ∧ k < hi5_) q2 q3 q4 (.slice ALO5 q5.length cLO5) q5 1 q12 q13 w _ ?s1 ?s2 HE8.out).mono ?_); (case s1 => exact HB.out); (case s2 => exact LO5.out.now); rintro e wv17 ⟨he_, hs, hB2, hk⟩; subst he_; refine ⟨_, rfl, ?_⟩; (try clear hcLO6_0 hcLO6_1 hcLO6_2 hcLO6_3 hfLO6_0 hfLO6_1 hfLO6_2 hfLO6_3 hcLO1_0 hcLO1_1 hcLO1_2 hcLO1_3 hfLO1_0 hfLO1_1 hfLO1_2 hfLO1_3); have hi_ := LO5.out.size; have := ORLO1.out; have := OQLO1.out; have := ORLO2.out; have := OQLO2.out; have := ORLO3.out; have := OQLO3.out; have := ORLO4.out; have := OQLO4.out; have := ORLO5.out; have := OQLO5.out; have := ORLO6.out; have := OQLO6.out; have := ORLO7.out; have := OQLO7.out; have := ORLO8.out; have := OQLO8.out; have := ORLO9.out; have := OQLO9.out; replace LO1 := aM (LO1.out.apart hk (by omega)); replace LO2 := aM (LO2.out.apart hk (by omega)); replace LO3 := aM (LO3.out.apart hk (by omega)); replace LO4 := aM (LO4.out.apart hk (by omega)); replace LO6 := aM (LO6.out.apart hk (by omega)); replace LO7 := aM (LO7.out.apart hk (by omega)); replace LO8 := aM (LO8.out.apart hk (by omega)); replace LO9 := aM (LO9.out.apart hk (by omega)); replace LO5 := aM (Loc.ofS (Nat.le_trans hi_ hk.1) hs); replace HB := aM hB2; have HN17 := aM ((LO5.out.readsS).1 : q5.length = q13.length); clear hs hB2 hk hi_; rw [HN17.out] at LO6; obtain ⟨hcLO8_0, hcLO8_1, hcLO8_2, hcLO8_3, hfLO8_0, hfLO8_1, hfLO8_2, hfLO8_3⟩ := cellsZ4 LO8.out.now; obtain ⟨hcLO4_0, hcLO4_1, hcLO4_2, hcLO4_3, hfLO4_0, hfLO4_1, hfLO4_2, hfLO4_3⟩ := cellsZ4 LO4.out.now) | (go_at_call 15; (with_reducible refine (laws_eqBoard.calls k q6 q7 q8 _ _ q9 q6 q7 q8 _ _ q9 true _ ?s1 ?s2 ?s3 ?s4 HE5.out).mono ?_); (case s1 => exact LO7.out.readsTwo1.2.2); (case s2 => exact LO7.out.readsTwo1.2.1); (case s3 => exact LO3.out.readsTwo1.2.2); (case s4 => exact LO3.out.readsTwo1.2.1); rintro e wv18 ⟨he_, hb⟩; subst he_; (try clear hcLO8_0 hcLO8_1 hcLO8_2 hcLO8_3 hfLO8_0 hfLO8_1 hfLO8_2 hfLO8_3 hcLO4_0 hcLO4_1 hcLO4_2 hcLO4_3 hfLO4_0 hfLO4_1 hfLO4_2 hfLO4_3); replace LO1 := aM (LO1.out.below hb); replace LO2 := aM (LO2.out.below hb); replace LO3 := aM (LO3.out.below hb); replace LO4 := aM (LO4.out.below hb); replace LO5 := aM (LO5.out.below hb); replace LO6 := aM (LO6.out.below hb); replace LO7 := aM (LO7.out.below hb); replace LO8 := aM (LO8.out.below hb); replace LO9 := aM (LO9.out.below hb); replace HB := aM (below_after HB.out hb); clear hb) | (go_at_call 28; (with_reducible refine (laws_eqToldS.calls k _ _ q10 _ _ q10 true _ ?s1 ?s2 ?s3 ?s4 HE6.out).mono ?_); (case s1 => exact LO7.out.readsTwo2.2.2); (case s2 => exact LO7.out.readsTwo2.2.1); (case s3 => exact LO3.out.readsTwo2.2.2); (case s4 => exact LO3.out.readsTwo2.2.1); rintro e wv19 ⟨he_, hb⟩; subst he_; replace LO1 := aM (LO1.out.below hb); replace LO2 := aM (LO2.out.below hb); replace LO3 := aM (LO3.out.below hb); replace LO4 := aM (LO4.out.below hb); replace LO5 := aM (LO5.out.below hb); replace LO6 := aM (LO6.out.below hb); replace LO7 := aM (LO7.out.below hb); replace LO8 := aM (LO8.out.below hb); replace LO9 := aM (LO9.out.below hb); replace HB := aM (below_after HB.out hb); clear hb; obtain ⟨hcLO8_0, hcLO8_1, hcLO8_2, hcLO8_3, hfLO8_0, hfLO8_1, hfLO8_2, hfLO8_3⟩ := cellsZ4 LO8.out.now) | ((with_reducible refine gate_callee (f := 17) rfl ?_); refine goesL_ (some 81) rfl rfl Tryd.func17 (by kernel_rfl) rfl #[.agg #[.int .i64 q6, .int .i64 q7, .int .i64 q8, .slice ALO7x q9.length cLO7x], .int .i64 1] rfl zee81 ?_; obtain ⟨PX_, QX_, hpq_, hin_, hs1_, hs2_⟩ := LO7.out.now; (with_reducible refine (laws_markBoard.calls k PX_ q6 q7 q8 (.slice ALO7x q9.length cLO7x) q9 1 q14 q15 w _ ?s1 ?s2 HE9.out).mono ?_); (case s1 => exact HB.out); (case s2 => exact hs1_); rintro e wv20 ⟨he_, hs, hB2, hk⟩; subst he_; refine ⟨_, rfl, ?_⟩; (try clear hcLO8_0 hcLO8_1 hcLO8_2 hcLO8_3 hfLO8_0 hfLO8_1 hfLO8_2 hfLO8_3); have hi_ := LO7.out.size; have := ORLO1.out; have := OQLO1.out; have := ORLO2.out; have := OQLO2.out; have := ORLO3.out; have := OQLO3.out; have := ORLO4.out; have := OQLO4.out; have := ORLO5.out; have := OQLO5.out; have := ORLO6.out; have := OQLO6.out; have := ORLO7.out; have := OQLO7.out; have := ORLO8.out; have := OQLO8.out; have := ORLO9.out; have := OQLO9.out; have hk3_ : Kept wv19 wv20 (fun k => lo7_ ≤ k ∧ k < hi7_) := Kept.wide hk (fun k h_ => hin_ k (.inl h_)); replace LO1 := aM (LO1.out.apart hk3_ (by omega)); replace LO2 := aM (LO2.out.apart hk3_ (by omega)); replace LO3 := aM (LO3.out.apart hk3_ (by omega)); replace LO4 := aM (LO4.out.apart hk3_ (by omega)); replace LO5 := aM (LO5.out.apart hk3_ (by omega)); replace LO6 := aM (LO6.out.apart hk3_ (by omega)); replace LO8 := aM (LO8.out.apart hk3_ (by omega)); replace LO9 := aM (LO9.out.apart hk3_ (by omega)); replace LO7 := aM (Loc.ofTwo (Nat.le_trans hi_ hk.1) ⟨PX_, QX_, hpq_, hin_, hs, Kd.S_step hs2_ (fun k h1_ hlt_ => hk.2 k hlt_ (fun h2_ => hpq_ k h2_ h1_))⟩); replace HB := aM hB2; have HN20 := aM ((LO7.out.readsTwo1).1 : q9.length = q15.length); clear hs hB2 hk hi_ hk3_ hpq_ hin_ hs1_ hs2_; rw [HN20.out] at LO8) | ((with_reducible refine gate_callee (f := 29) rfl ?_); refine goesL_ (some 84) rfl rfl Tryd.func29 (by kernel_rfl) rfl #[.slice ALO7y q10.length cLO7y, .int .i64 q14] rfl zee81 ?_; obtain ⟨PX_, QX_, hpq_, hin_, hs1_, hs2_⟩ := LO7.out.now; (with_reducible refine (laws_markToldS.calls k QX_ (.slice ALO7y q10.length cLO7y) q10 q14 q16 q17 w _ ?s1 ?s2 HE10.out).mono ?_); (case s1 => exact HB.out); (case s2 => exact hs2_); rintro e wv21 ⟨he_, hs, hB2, hk⟩; subst he_; refine ⟨_, rfl, ?_⟩; have hi_ := LO7.out.size; have := ORLO1.out; have := OQLO1.out; have := ORLO2.out; have := OQLO2.out; have := ORLO3.out; have := OQLO3.out; have := ORLO4.out; have := OQLO4.out; have := ORLO5.out; have := OQLO5.out; have := ORLO6.out; have := OQLO6.out; have := ORLO7.out; have := OQLO7.out; have := ORLO8.out; have := OQLO8.out; have := ORLO9.out; have := OQLO9.out; have hk3_ : Kept wv20 wv21 (fun k => lo7_ ≤ k ∧ k < hi7_) := Kept.wide hk (fun k h_ => hin_ k (.inr h_)); replace LO1 := aM (LO1.out.apart hk3_ (by omega)); replace LO2 := aM (LO2.out.apart hk3_ (by omega)); replace LO3 := aM (LO3.out.apart hk3_ (by omega)); replace LO4 := aM (LO4.out.apart hk3_ (by omega)); replace LO5 := aM (LO5.out.apart hk3_ (by omega)); replace LO6 := aM (LO6.out.apart hk3_ (by omega)); replace LO8 := aM (LO8.out.apart hk3_ (by omega)); replace LO9 := aM (LO9.out.apart hk3_ (by omega)); replace LO7 := aM (Loc.ofTwo (Nat.le_trans hi_ hk.1) ⟨PX_, QX_, hpq_, hin_, Kd.S_step hs1_ (fun k h1_ hlt_ => hk.2 k hlt_ (fun h2_ => hpq_ k h1_ h2_)), hs⟩); replace HB := aM hB2; have HN21 := aM ((LO7.out.readsTwo2).1 : q10.length = q17.length); clear hs hB2 hk hi_ hk3_ hpq_ hin_ hs1_ hs2_; obtain ⟨hcLO8_0, hcLO8_1, hcLO8_2, hcLO8_3, hfLO8_0, hfLO8_1, hfLO8_2, hfLO8_3⟩ := cellsZ4 LO8.out.now) | ((with_reducible refine gate_callee (f := 23) rfl ?_); refine goesL_ (some 87) rfl rfl Tryd.func23 (by kernel_rfl) rfl #[.agg #[.int .i64 q6, .int .i64 q7, .int .i64 q8, .slice ALO7x q15.length cLO7x], .int .i64 1] rfl zee81 ?_; (with_reducible refine (laws_heldBoard.calls k q6 q7 q8 _ _ q15 1 q14 _ ?s1 ?s2 HE11.out).mono ?_); (case s1 => exact LO7.out.readsTwo1.2.2); (case s2 => exact LO7.out.readsTwo1.2.1); rintro e wv22 ⟨he_, hb⟩; subst he_; refine ⟨_, rfl, ?_⟩; (try clear hcLO8_0 hcLO8_1 hcLO8_2 hcLO8_3 hfLO8_0 hfLO8_1 hfLO8_2 hfLO8_3); replace LO1 := aM (LO1.out.below hb); replace LO2 := aM (LO2.out.below hb); replace LO3 := aM (LO3.out.below hb); replace LO4 := aM (LO4.out.below hb); replace LO5 := aM (LO5.out.below hb); replace LO6 := aM (LO6.out.below hb); replace LO7 := aM (LO7.out.below hb); replace LO8 := aM (LO8.out.below hb); replace LO9 := aM (LO9.out.below hb); replace HB := aM (below_after HB.out hb); clear hb) | ((with_reducible refine gate_callee (f := 30) rfl ?_); refine goesL_ (some 92) rfl rfl Tryd.func30 (by kernel_rfl) rfl #[.slice ALO7y q10.length cLO7y, .int .i64 q14] rfl zee81 ?_; rw [show (#[.slice ALO7y q10.length cLO7y, .int .i64 q14] : Array Value) = #[.slice ALO7y q17.length cLO7y, .int .i64 q14] from congrArg (fun n_ : Nat => (#[.slice ALO7y n_ cLO7y, .int .i64 q14] : Array Value)) HN21.out]; (with_reducible refine (laws_heldToldS.calls k _ _ q17 q14 q16 _ ?s1 ?s2 HE12.out).mono ?_); (case s1 => exact LO7.out.readsTwo2.2.2); (case s2 => exact LO7.out.readsTwo2.2.1); rintro e wv23 ⟨he_, hb⟩; subst he_; refine ⟨_, rfl, ?_⟩; replace LO1 := aM (LO1.out.below hb); replace LO2 := aM (LO2.out.below hb); replace LO3 := aM (LO3.out.below hb); replace LO4 := aM (LO4.out.below hb); replace LO5 := aM (LO5.out.below hb); replace LO6 := aM (LO6.out.below hb); replace LO7 := aM (LO7.out.below hb); replace LO8 := aM (LO8.out.below hb); replace LO9 := aM (LO9.out.below hb); replace HB := aM (below_after HB.out hb); clear hb; obtain ⟨hcLO1_0, hcLO1_1, hcLO1_2, hcLO1_3, hfLO1_0, hfLO1_1, hfLO1_2, hfLO1_3⟩ := cellsZ4 LO1.out.now) | ((with_reducible refine gate_callee (f := 11) rfl ?_); refine goesL_ (some 100) rfl rfl Tryd.func11 (by kernel_rfl) rfl #[.agg #[.int .i64 a0_0, .int .i64 a0_1, .int .i64 a0_2, .slice A0_3 l0_3.length c0_3]] rfl zee81 ?_; (with_reducible refine (laws_toBoard.calls k a0_0 a0_1 a0_2 _ _ l0_3 q2 q3 q4 q5 _ ?s1 ?s2 HE2.out).mono ?_); (case s1 => exact Kd.C_below HR0_3.out HB.out); (case s2 => exact HC0_3.out); rintro e wv24 ⟨v3_, he_, ho_v3_, hb⟩; subst he_; refine ⟨_, rfl, ?_⟩; (try clear hcLO1_0 hcLO1_1 hcLO1_2 hcLO1_3 hfLO1_0 hfLO1_1 hfLO1_2 hfLO1_3); obtain ⟨lo10_, hi10_, el_, hL_, eh_⟩ := Loc.newS (Kd.S_mono ho_v3_ (fun _ _ => trivial)) HB.out; have LO10 := aM hL_; have ORLO10 := aM (show hi9_ ≤ lo10_ from (by rw [el_]; exact LO9.out.size)); have OQLO10 := aM (show lo10_ ≤ hi10_ from (by rw [el_, eh_]; exact hb.size)); obtain ⟨ALO10, cLO10, ev_⟩ := Kd.S_slice ho_v3_; subst ev_; clear el_ hL_ eh_ ho_v3_; replace LO1 := aM (LO1.out.below hb); replace LO2 := aM (LO2.out.below hb); replace LO3 := aM (LO3.out.below hb); replace LO4 := aM (LO4.out.below hb); replace LO5 := aM (LO5.out.below hb); replace LO6 := aM (LO6.out.below hb); replace LO7 := aM (LO7.out.below hb); replace LO8 := aM (LO8.out.below hb); replace LO9 := aM (LO9.out.below hb); replace HB := aM (below_after HB.out hb); clear hb) | ((with_reducible refine gate_callee (f := 37) rfl ?_); refine goesL_ (some 101) rfl rfl Tryd.func37 (by kernel_rfl) rfl #[.agg #[.int .i64 q2, .int .i64 q3, .int .i64 q4, .slice ALO10 q5.length cLO10]] rfl zee81 ?_; (with_reducible refine (impl_TellDirty.calls k q2 q3 q4 _ _ q5 q6 q7 q8 q9 q10 q11 _ ?s1 ?s2 HE4.out).mono ?_); (case s1 => exact LO10.out.readsS.2.2); (case s2 => exact LO10.out.readsS.2.1); rintro e wv25 ⟨v3_, v4_, he_, ho2_, hb⟩; subst he_; refine ⟨_, rfl, ?_⟩; obtain ⟨lo11_, hi11_, el_, hL_, eh_⟩ := Loc.newTwo ho2_ HB.out; obtain ⟨_, _, _, ho_v3_, ho_v4_⟩ := ho2_; have LO11 := aM hL_; have ORLO11 := aM (show hi10_ ≤ lo11_ from (by rw [el_]; exact LO10.out.size)); have OQLO11 := aM (show lo11_ ≤ hi11_ from (by rw [el_, eh_]; exact hb.size)); obtain ⟨ALO11x, cLO11x, ev_⟩ := Kd.S_slice ho_v3_; subst ev_; obtain ⟨ALO11y, cLO11y, ev_⟩ := Kd.S_slice ho_v4_; subst ev_; clear el_ hL_ eh_ ho_v3_ ho_v4_; replace LO1 := aM (LO1.out.below hb); replace LO2 := aM (LO2.out.below hb); replace LO3 := aM (LO3.out.below hb); replace LO4 := aM (LO4.out.below hb); replace LO5 := aM (LO5.out.below hb); replace LO6 := aM (LO6.out.below hb); replace LO7 := aM (LO7.out.below hb); replace LO8 := aM (LO8.out.below hb); replace LO9 := aM (LO9.out.below hb); replace LO10 := aM (LO10.out.below hb); replace HB := aM (below_after HB.out hb); clear hb) | ((with_reducible refine gate_dst (N := 14) rfl ?_); refine box_event ?hg (N := 14) ?hd (cs := #[.int .i64 0, .int .i64 0, .int .i64 0, .slice none 0 0]) (t := 42) ?hr ?_; (case hd => rfl); (case hg => rfl); (case hr => first | (go_simp; done) | (go_simp; rfl)); intro b5_ hg wv26 hbox hb; have LO12 := aM (Loc.box hbox); have el_ := hg; have ORLO12 := aM (show hi11_ ≤ b5_ from (by rw [el_]; exact LO11.out.size)); have OQLO12 := aM (show b5_ ≤ (b5_ + 1) from Nat.le_succ _); have HWLO12 := aM (show w.heap.size ≤ b5_ from (by rw [hg]; exact HB.out.size)); replace LO1 := aM (LO1.out.below hb); replace LO2 := aM (LO2.out.below hb); replace LO3 := aM (LO3.out.below hb); replace LO4 := aM (LO4.out.below hb); replace LO5 := aM (LO5.out.below hb); replace LO6 := aM (LO6.out.below hb); replace LO7 := aM (LO7.out.below hb); replace LO8 := aM (LO8.out.below hb); replace LO9 := aM (LO9.out.below hb); replace LO10 := aM (LO10.out.below hb); replace LO11 := aM (LO11.out.below hb); replace HB := aM (below_after HB.out hb); clear hg hbox hb el_; obtain ⟨hcLO12_0, hcLO12_1, hcLO12_2, hcLO12_3, hfLO12_0, hfLO12_1, hfLO12_2, hfLO12_3⟩ := cellsZ4 LO12.out.now) | ((with_reducible refine gate_store (t := 42) (p := 14) rfl ?_); refine store_event (t := 42) (p := 14) (v := ?vo_wv27) (w1 := ((((wv26.setCell ⟨b5_, 0, none⟩ (.int .i64 q6)).setCell ⟨b5_, 1, none⟩ (.int .i64 q7)).setCell ⟨b5_, 2, none⟩ (.int .i64 q8)).setCell ⟨b5_, 3, none⟩ (.slice ALO11x q9.length cLO11x))) ?hg ?ho ?hn ?hr ?_; (case ho => rfl); (case hg => rfl); (case hn => rfl); (case hr => first | (go_simp; done) | (go_simp; rfl)); intro wv27 hw; (try clear hcLO12_0 hcLO12_1 hcLO12_2 hcLO12_3 hfLO12_0 hfLO12_1 hfLO12_2 hfLO12_3); have ho_ : Only wv26 wv27 b5_ := (by rw [hw]; repeat (first | (with_reducible apply Only.set) | exact Only.refl _ _)); have := ORLO1.out; have := OQLO1.out; have := ORLO2.out; have := OQLO2.out; have := ORLO3.out; have := OQLO3.out; have := ORLO4.out; have := OQLO4.out; have := ORLO5.out; have := OQLO5.out; have := ORLO6.out; have := OQLO6.out; have := ORLO7.out; have := OQLO7.out; have := ORLO8.out; have := OQLO8.out; have := ORLO9.out; have := OQLO9.out; have := ORLO10.out; have := OQLO10.out; have := ORLO11.out; have := OQLO11.out; have := ORLO12.out; have := OQLO12.out; replace LO1 := aM (LO1.out.only ho_ (by omega)); replace LO2 := aM (LO2.out.only ho_ (by omega)); replace LO3 := aM (LO3.out.only ho_ (by omega)); replace LO4 := aM (LO4.out.only ho_ (by omega)); replace LO5 := aM (LO5.out.only ho_ (by omega)); replace LO6 := aM (LO6.out.only ho_ (by omega)); replace LO7 := aM (LO7.out.only ho_ (by omega)); replace LO8 := aM (LO8.out.only ho_ (by omega)); replace LO9 := aM (LO9.out.only ho_ (by omega)); replace LO10 := aM (LO10.out.only ho_ (by omega)); replace LO11 := aM (LO11.out.only ho_ (by omega)); have hbx_ : wv27.heap[b5_]? = some (.cells #[.int .i64 q6, .int .i64 q7, .int .i64 q8, .slice ALO11x q9.length cLO11x] 42 (0, 0)) := (by have BK_ := LO12.out.now; rw [hw]; first | (with_reducible exact blk_put9 BK_) | (with_reducible exact blk_put6 BK_) | (with_reducible exact blk_put4 BK_) | (apply blk_eqZ; (repeat (first | (with_reducible apply blk_put0) | exact BK_)); first | (simp only [List.setIfInBounds_toArray, List.set_cons_zero, List.set_cons_succ] <;> rfl) | rfl)); replace LO12 := aM (Loc.box hbx_); replace HB := aM (below_only HB.out HWLO12.out ho_); clear ho_ hbx_ hw; obtain ⟨hcLO12_0, hcLO12_1, hcLO12_2, hcLO12_3, hfLO12_0, hfLO12_1, hfLO12_2, hfLO12_3⟩ := cellsZ4 LO12.out.now; obtain ⟨hcLO4_0, hcLO4_1, hcLO4_2, hcLO4_3, hfLO4_0, hfLO4_1, hfLO4_2, hfLO4_3⟩ := cellsZ4 LO4.out.now) | ((with_reducible refine gate_callee (f := 15) rfl ?_); refine goesL_ (some 107) rfl rfl Tryd.func15 (by kernel_rfl) rfl #[.agg #[.int .i64 q6, .int .i64 q7, .int .i64 q8, .slice ALO11x q9.length cLO11x], .agg #[.int .i64 q6, .int .i64 q7, .int .i64 q8, .slice ALO3x q9.length cLO3x]] rfl zee81 ?_; (with_reducible refine (laws_eqBoard.calls k q6 q7 q8 _ _ q9 q6 q7 q8 _ _ q9 true _ ?s1 ?s2 ?s3 ?s4 HE5.out).mono ?_); (case s1 => exact LO11.out.readsTwo1.2.2); (case s2 => exact LO11.out.readsTwo1.2.1); (case s3 => exact LO3.out.readsTwo1.2.2); (case s4 => exact LO3.out.readsTwo1.2.1); rintro e wv28 ⟨he_, hb⟩; subst he_; refine ⟨_, rfl, ?_⟩; (try clear hcLO12_0 hcLO12_1 hcLO12_2 hcLO12_3 hfLO12_0 hfLO12_1 hfLO12_2 hfLO12_3 hcLO4_0 hcLO4_1 hcLO4_2 hcLO4_3 hfLO4_0 hfLO4_1 hfLO4_2 hfLO4_3); replace LO1 := aM (LO1.out.below hb); replace LO2 := aM (LO2.out.below hb); replace LO3 := aM (LO3.out.below hb); replace LO4 := aM (LO4.out.below hb); replace LO5 := aM (LO5.out.below hb); replace LO6 := aM (LO6.out.below hb); replace LO7 := aM (LO7.out.below hb); replace LO8 := aM (LO8.out.below hb); replace LO9 := aM (LO9.out.below hb); replace LO10 := aM (LO10.out.below hb); replace LO11 := aM (LO11.out.below hb); replace LO12 := aM (LO12.out.below hb); replace HB := aM (below_after HB.out hb); clear hb) | (go_at_call 28; (with_reducible refine (laws_eqToldS.calls k _ _ q10 _ _ q10 true _ ?s1 ?s2 ?s3 ?s4 HE6.out).mono ?_); (case s1 => exact LO11.out.readsTwo2.2.2); (case s2 => exact LO11.out.readsTwo2.2.1); (case s3 => exact LO3.out.readsTwo2.2.2); (case s4 => exact LO3.out.readsTwo2.2.1); rintro e wv29 ⟨he_, hb⟩; subst he_; replace LO1 := aM (LO1.out.below hb); replace LO2 := aM (LO2.out.below hb); replace LO3 := aM (LO3.out.below hb); replace LO4 := aM (LO4.out.below hb); replace LO5 := aM (LO5.out.below hb); replace LO6 := aM (LO6.out.below hb); replace LO7 := aM (LO7.out.below hb); replace LO8 := aM (LO8.out.below hb); replace LO9 := aM (LO9.out.below hb); replace LO10 := aM (LO10.out.below hb); replace LO11 := aM (LO11.out.below hb); replace LO12 := aM (LO12.out.below hb); replace HB := aM (below_after HB.out hb); clear hb; obtain ⟨hcLO8_0, hcLO8_1, hcLO8_2, hcLO8_3, hfLO8_0, hfLO8_1, hfLO8_2, hfLO8_3⟩ := cellsZ4 LO8.out.now) | ((with_reducible refine gate_callee (f := 23) rfl ?_); refine goesL_ (some 122) rfl rfl Tryd.func23 (by kernel_rfl) rfl #[.agg #[.int .i64 q6, .int .i64 q7, .int .i64 q8, .slice ALO7x q15.length cLO7x], .int .i64 1] rfl zee81 ?_; (with_reducible refine (laws_heldBoard.calls k q6 q7 q8 _ _ q15 1 q14 _ ?s1 ?s2 HE11.out).mono ?_); (case s1 => exact LO7.out.readsTwo1.2.2); (case s2 => exact LO7.out.readsTwo1.2.1); rintro e wv30 ⟨he_, hb⟩; subst he_; refine ⟨_, rfl, ?_⟩; (try clear hcLO8_0 hcLO8_1 hcLO8_2 hcLO8_3 hfLO8_0 hfLO8_1 hfLO8_2 hfLO8_3); replace LO1 := aM (LO1.out.below hb); replace LO2 := aM (LO2.out.below hb); replace LO3 := aM (LO3.out.below hb); replace LO4 := aM (LO4.out.below hb); replace LO5 := aM (LO5.out.below hb); replace LO6 := aM (LO6.out.below hb); replace LO7 := aM (LO7.out.below hb); replace LO8 := aM (LO8.out.below hb); replace LO9 := aM (LO9.out.below hb); replace LO10 := aM (LO10.out.below hb); replace LO11 := aM (LO11.out.below hb); replace LO12 := aM (LO12.out.below hb); replace HB := aM (below_after HB.out hb); clear hb) | ((with_reducible refine gate_callee (f := 30) rfl ?_); refine goesL_ (some 127) rfl rfl Tryd.func30 (by kernel_rfl) rfl #[.slice ALO7y q10.length cLO7y, .int .i64 q14] rfl zee81 ?_; rw [show (#[.slice ALO7y q10.length cLO7y, .int .i64 q14] : Array Value) = #[.slice ALO7y q17.length cLO7y, .int .i64 q14] from congrArg (fun n_ : Nat => (#[.slice ALO7y n_ cLO7y, .int .i64 q14] : Array Value)) HN21.out]; (with_reducible refine (laws_heldToldS.calls k _ _ q17 q14 q16 _ ?s1 ?s2 HE12.out).mono ?_); (case s1 => exact LO7.out.readsTwo2.2.2); (case s2 => exact LO7.out.readsTwo2.2.1); rintro e wv31 ⟨he_, hb⟩; subst he_; refine ⟨_, rfl, ?_⟩; replace LO1 := aM (LO1.out.below hb); replace LO2 := aM (LO2.out.below hb); replace LO3 := aM (LO3.out.below hb); replace LO4 := aM (LO4.out.below hb); replace LO5 := aM (LO5.out.below hb); replace LO6 := aM (LO6.out.below hb); replace LO7 := aM (LO7.out.below hb); replace LO8 := aM (LO8.out.below hb); replace LO9 := aM (LO9.out.below hb); replace LO10 := aM (LO10.out.below hb); replace LO11 := aM (LO11.out.below hb); replace LO12 := aM (LO12.out.below hb); replace HB := aM (below_after HB.out hb); clear hb))
 go_ret
 exact ⟨rfl, HB.out⟩
end Go.Proofs.YtkgmoajdcibafaaDoor.P

/- Keys that come in: their size, their copies, and that a copy equals itself. -/
namespace Go.Proofs.YtkgmoajdcibafaaDoor.Lem
open Go Go.RowKit Go.Proofs.YtkgmoajdcibafaaDoor.P Go.Proofs.YtkgmoajdcibafaaDoorW.PrintWords Go.Proofs.YtkgmoajdcibafaaDoorW.PrintLast Go.Proofs.YtkgmoajdcibafaaDoorW.PrintMore

abbrev Lt := S119
theorem rdL_get {l : List Lt} {i : Nat} (h : i < l.length) : rd_T119 l (i : Int) = l[i] := by
  unfold rd_T119
  rw [Int.toNat_natCast, List.getD_eq_getElem?_getD, List.getElem?_eq_getElem h]
  rfl
/-- Texts that Go can hold. -/
def Held (l : List Lt) : Prop := ∀ t ∈ l, t.f0.size ≤ 9223372036854775807 ∧ t.f1.size ≤ 9223372036854775807

theorem szTag_ok {a b : ByteArray} (ha : a.size ≤ 9223372036854775807) (hb : b.size ≤ 9223372036854775807) {x : Int} (h0 : 0 ≤ x) (h1 : x ≤ 1048576) : ∃ r, laws_szTag.f a b x = some r ∧ (r < 0 ∨ (0 ≤ r ∧ r ≤ x)) := by
  unfold laws_szTag.f
  rw [show wrap64 (x - (a.size : Int)) = x - (a.size : Int) from w64 (by omega) (by omega)]
  by_cases h : x - (a.size : Int) < 0
  · exact ⟨-1, by rw [if_pos h], .inl (by omega)⟩
  · rw [if_neg h, show wrap64 (x - (a.size : Int) - (b.size : Int)) = x - (a.size : Int) - (b.size : Int) from w64 (by omega) (by omega)]
    by_cases h2 : x - (a.size : Int) - (b.size : Int) < 0
    · exact ⟨-1, by rw [if_pos h2], .inl (by omega)⟩
    · exact ⟨_, by rw [if_neg h2], .inr ⟨by omega, by omega⟩⟩
theorem szTagS_l0 (l : List Lt) (hl : l.length ≤ 1048576) (hh : Held l) : ∀ (d i k : Nat) (x : Int), i + d = l.length → d < k → 0 ≤ x → x ≤ 1048576 → ∃ r, laws_szTagS.l0 k l x (i : Int) = some r ∧ (r < 0 ∨ (0 ≤ r ∧ r ≤ x)) := by
  intro d
  induction d with
  | zero =>
    intro i k x hi hk h0 h1
    obtain ⟨k, rfl⟩ : ∃ q, k = q + 1 := ⟨k - 1, by omega⟩
    exact ⟨x, by rw [laws_szTagS.l0, if_neg (by omega)], .inr ⟨h0, Int.le_refl _⟩⟩
  | succ d ih =>
    intro i k x hi hk h0 h1
    obtain ⟨k, rfl⟩ : ∃ q, k = q + 1 := ⟨k - 1, by omega⟩
    have hlt : i < l.length := by omega
    obtain ⟨ha, hb⟩ := hh l[i] (List.getElem_mem hlt)
    obtain ⟨r, hr, hr2⟩ := szTag_ok ha hb h0 h1
    rw [laws_szTagS.l0, if_pos (by omega), if_pos (by omega), rdL_get hlt, hr, Option.bind_some]
    by_cases hn : r < 0
    · exact ⟨-1, by rw [if_pos hn], .inl (by omega)⟩
    · rw [if_neg hn, show wrap64 ((i : Int) + 1) = ((i + 1 : Nat) : Int) from by rw [w64 (by omega) (by omega)]; omega]
      obtain ⟨r2, hq, hq2⟩ := ih (i + 1) k r (by omega) (by omega) (by omega) (by omega)
      exact ⟨r2, hq, by omega⟩
theorem szTagS_ok {l : List Lt} (hl : l.length ≤ 9223372036854775807) (hh : Held l) {x : Int} (h0 : 0 ≤ x) (h1 : x ≤ 1048576) {k : Nat} (hk : l.length < k ∨ 1048576 < k) : ∃ r, laws_szTagS.f k l x = some r ∧ (r < 0 ∨ (0 ≤ r ∧ r ≤ x ∧ l.length ≤ 1048576)) := by
  unfold laws_szTagS.f
  rw [show wrap64 (x - (l.length : Int)) = x - (l.length : Int) from w64 (by omega) (by omega)]
  by_cases h : x - (l.length : Int) < 0
  · exact ⟨-1, by rw [if_pos h], .inl (by omega)⟩
  · rw [if_neg h]
    obtain ⟨r, hr, hr2⟩ := szTagS_l0 l (by omega) hh l.length 0 k (x - (l.length : Int)) (by omega) (by omega) (by omega) (by omega)
    exact ⟨r, hr, by omega⟩
theorem szKey_ok {m : ByteArray} (hm : m.size ≤ 9223372036854775807) {l : List Lt} (hl : l.length ≤ 9223372036854775807) (hh : Held l) (st : Int) {x : Int} (h0 : 0 ≤ x) (h1 : x ≤ 1048576) {k : Nat} (hk : l.length < k ∨ 1048576 < k) : ∃ r, laws_szKey.f k m l st x = some r ∧ (r < 0 ∨ (0 ≤ r ∧ r ≤ x ∧ l.length ≤ 1048576)) := by
  unfold laws_szKey.f
  rw [show wrap64 (x - (m.size : Int)) = x - (m.size : Int) from w64 (by omega) (by omega)]
  by_cases h : x - (m.size : Int) < 0
  · exact ⟨-1, by rw [if_pos h], .inl (by omega)⟩
  · rw [if_neg h]
    obtain ⟨r, hr, hr2⟩ := szTagS_ok hl hh (x := x - (m.size : Int)) (by omega) (by omega) hk
    rw [hr, Option.bind_some]
    by_cases hn : r < 0
    · exact ⟨-1, by rw [if_pos hn], .inl (by omega)⟩
    · exact ⟨r, by rw [if_neg hn], by omega⟩

/-- The tag as the program has it. -/
def cvT (t : Lt) : Tg := ⟨t.f0, t.f1⟩
theorem toTagS_l0 {l : List Lt} (hl : l.length ≤ 1048576) : ∀ (d k i : Nat), i + d = l.length → d < k → laws_toTagS.l0 k l ((l.take i).map cvT ++ List.replicate d z123) (i : Int) = some (l.map cvT) := by
  intro d
  induction d with
  | zero =>
    intro k i hi hk
    obtain ⟨k, rfl⟩ : ∃ q, k = q + 1 := ⟨k - 1, by omega⟩
    rw [laws_toTagS.l0, if_neg (by omega), List.take_of_length_le (by omega), List.replicate_zero, List.append_nil]
  | succ d ih =>
    intro k i hi hk
    obtain ⟨k, rfl⟩ : ∃ q, k = q + 1 := ⟨k - 1, by omega⟩
    have hlt : i < l.length := by omega
    have hnext := ih k (i + 1) (by omega) (by omega)
    rw [laws_toTagS.l0, if_pos (by omega), if_pos (by omega), rdL_get hlt]
    unfold laws_toTag.f
    rw [Option.bind_some, if_pos (by rw [List.length_append, List.length_map, List.length_take, List.length_replicate]; omega), Int.toNat_natCast, show wrap64 ((i : Int) + 1) = ((i + 1 : Nat) : Int) from by rw [w64 (by omega) (by omega)]; omega]
    have e := set_copy cvT z123 (d := d) hlt
    show laws_toTagS.l0 k l (((l.take i).map cvT ++ List.replicate (d + 1) z123).set i (cvT l[i])) _ = _
    rw [e]
    exact hnext
theorem toTagS_ok {l : List Lt} (hl : l.length ≤ 1048576) {k : Nat} (hk : l.length < k) : laws_toTagS.f k l = some (l.map cvT) := by
  unfold laws_toTagS.f
  rw [if_pos (by omega), if_pos (by rw [Int.toNat_natCast]; omega), Int.toNat_natCast]
  have h := toTagS_l0 hl l.length k 0 (by omega) hk
  rw [List.take_zero, List.map_nil, List.nil_append] at h
  exact h
theorem toKey_ok (m : ByteArray) {l : List Lt} (hl : l.length ≤ 1048576) (st : Int) {k : Nat} (hk : l.length < k) : laws_toKey.f k m l st = some (m, l.map cvT, st) := by
  unfold laws_toKey.f
  rw [toTagS_ok hl hk, Option.bind_some]

theorem eqTagS_l0 (l : List Tg) (hl : l.length ≤ 1048576) : ∀ (d i k : Nat), i + d = l.length → d < k → laws_eqTagS.l0 k l l (i : Int) = some true := by
  intro d
  induction d with
  | zero =>
    intro i k hi hk
    obtain ⟨k, rfl⟩ : ∃ q, k = q + 1 := ⟨k - 1, by omega⟩
    rw [laws_eqTagS.l0, if_neg (by omega)]
  | succ d ih =>
    intro i k hi hk
    obtain ⟨k, rfl⟩ : ∃ q, k = q + 1 := ⟨k - 1, by omega⟩
    have hnext := ih (i + 1) k (by omega) (by omega)
    rw [laws_eqTagS.l0, if_pos (by omega), if_pos (by omega), if_pos (by omega)]
    unfold laws_eqTag.f
    rw [if_pos rfl, if_pos rfl, Option.bind_some, if_pos rfl, show wrap64 ((i : Int) + 1) = ((i + 1 : Nat) : Int) from by rw [w64 (by omega) (by omega)]; omega]
    exact hnext
theorem eqTagS_ok {l : List Tg} (hl : l.length ≤ 1048576) {k : Nat} (hk : l.length < k) : laws_eqTagS.f k l l = some true := by
  unfold laws_eqTagS.f
  rw [if_pos rfl]
  exact eqTagS_l0 l hl l.length 0 k (by omega) hk
theorem eqKey_ok (m : ByteArray) {l : List Tg} (hl : l.length ≤ 1048576) (st : Int) {k : Nat} (hk : l.length < k) : laws_eqKey.f k m l st m l st = some true := by
  unfold laws_eqKey.f
  rw [if_pos rfl, eqTagS_ok hl hk, Option.bind_some, if_pos rfl, if_pos rfl]
end Go.Proofs.YtkgmoajdcibafaaDoor.Lem

/- An argument of a row, opened by its type: what reads as a value of the type is of the printed kind, at whatever depth. -/
namespace Go.Proofs.YtkgmoajdcibafaaDoor.Lem
open Go Go.ChangeShapes Go.WideShapes Go.RowKit Go.Proofs.YtkgmoajdcibafaaDoor.P Go.Proofs.YtkgmoajdcibafaaDoorW.PrintWords Go.Proofs.YtkgmoajdcibafaaDoorW.PrintLast Go.Proofs.YtkgmoajdcibafaaDoorW.PrintMore

theorem list_of {α : Type} {p : Nat → α → Prop} : ∀ n, (∀ i, i < n → ∃ z, p i z) → ∃ l : List α, l.length = n ∧ ∀ i z, l[i]? = some z → p i z
  | 0, _ => ⟨[], rfl, fun i z h => by simp at h⟩
  | n + 1, h => by
    obtain ⟨l, hl, hp⟩ := list_of n (fun i hi => h i (by omega))
    obtain ⟨z, hz⟩ := h n (by omega)
    refine ⟨l ++ [z], by rw [List.length_append, hl]; rfl, fun i y hy => ?_⟩
    rcases Nat.lt_or_ge i l.length with hi | hi
    · rw [List.getElem?_append_left hi] at hy
      exact hp i y hy
    · have hi' : i = l.length := by
        have := (List.getElem?_eq_some_iff.1 hy).1
        rw [List.length_append, List.length_singleton] at this
        omega
      subst hi'
      have : z = y := by simpa using hy
      subst this
      rw [hl]
      exact hz

theorem addr_add2 (a : Addr) (x y : Nat) : (a.add x).add y = a.add (x + y) := by
  unfold Addr.add
  by_cases hx : x = 0
  · subst hx
    rw [if_pos rfl, Nat.zero_add]
  · by_cases hy : y = 0
    · subst hy
      rw [if_pos rfl, Nat.add_zero]
    · rw [if_neg hx, if_neg hy, if_neg (by omega)]
      simp only [Nat.add_assoc]
section
variable {H : Type} (enc : TypeId × Value → H) (P : Program) (w : World) (base : Nat) (spare : Nat → Bool) (held : Bool)
/-- What reads as a value of the type is of the kind, and good. -/
def Opens {α : Type} (d : Kd α) (t : TypeId) (g : α → Prop) : Prop :=
  ∀ (fuel : Nat) (cs : List Value) (x : DataW H × List MemPlace), DataW.trod enc P w base spare held fuel t cs = some x → ∃ a, d.K w a cs ∧ g a
/-- .. a struct's fields from a place on. -/
def OpensF {α : Type} (d : Kd α) (fs : List Field) (o : Nat) (g : α → Prop) : Prop :=
  ∀ (n : Nat) (cs : List Value) (xs : List (DataW H × List MemPlace)), xs.length = fs.length → cs.length = o + (fs.map fun f => P.cellsOf f.type).sum →
    (∀ (i : Nat) (f : Field), fs[i]? = some f → DataW.trod enc P w base spare held n f.type ((cs.drop f.offset).take (P.cellsOf f.type)) = xs[i]?) → ∃ a, d.K w a (cs.drop o) ∧ g a
variable {enc P w base spare held}
variable {α β : Type} {t e : TypeId}
theorem opens_int {k : IntKind} (ht : P.underlying t = some (.int k)) : Opens enc P w base spare held (Kd.int k) t (fun n => (Lit.int k n).wf = true) := fun fuel cs x h => by
  obtain ⟨n, rfl, _, hw⟩ := DataW.trod_int ht h
  exact ⟨n, rfl, hw⟩
theorem opens_bool (ht : P.underlying t = some .bool) : Opens enc P w base spare held Kd.bool t (fun _ => True) := fun fuel cs x h => by
  obtain ⟨b, rfl, _⟩ := DataW.trod_bool ht h
  exact ⟨b, rfl, trivial⟩
theorem opens_string (ht : P.underlying t = some .string) : Opens enc P w base spare held Kd.string t (fun s => s.size ≤ maxLen) := fun fuel cs x h => by
  obtain ⟨s, rfl, _, hs⟩ := DataW.trod_string ht h
  exact ⟨s, rfl, hs⟩
theorem opens_slice {d : Kd α} {g : α → Prop} (e' : Nat) (ht : P.underlying t = some (.slice e)) (hd : Opens enc P w base spare held d e g) (hc : P.cellsOf e = d.sz) :
    Opens enc P w base spare held (Kd.slice e' d) t (fun l => l.length ≤ maxLen ∧ ∀ a ∈ l, g a) := fun fuel cs x h => by
  rcases DataW.trod_slice ht h with ⟨rfl, _⟩ | ⟨a, len, cap, elems, rest, n, _, rfl, _, hb, hl, hm, hlen, hel, _, _⟩
  · exact ⟨[], ⟨none, 0, rfl, Nat.le_refl _, rfl, Nat.zero_le _, fun h => absurd h (Nat.lt_irrefl _)⟩, Nat.zero_le _, fun a h => by simp at h⟩
  · have each : ∀ i, i < len → ∃ z, (∃ c, c.length = d.sz ∧ d.K w z c ∧ ∀ j u, c[j]? = some u → w.cell? (a.add (i * d.sz + j)) = some u) ∧ g z := by
      intro i hi
      have h1 := hel i hi
      rw [List.getElem?_eq_getElem (by omega), Option.bind_eq_some_iff] at h1
      obtain ⟨cs', hcs, ht'⟩ := h1
      obtain ⟨z, hz, hg⟩ := hd _ _ _ ht'
      obtain ⟨_, hl', hcell⟩ := World.cells?_some hcs
      refine ⟨z, ⟨cs', by rw [← hc]; exact hl', hz, fun j u hj => ?_⟩, hg⟩
      have hj' : j < P.cellsOf e := by have := (List.getElem?_eq_some_iff.1 hj).1; omega
      have h2 := hcell j hj'
      rw [hj, hc] at h2
      have ea : (a.add (i * d.sz)).add j = a.add (i * d.sz + j) := addr_add2 a _ _
      rw [← ea]
      exact h2
    obtain ⟨l, hll, hp⟩ := list_of len each
    subst hll
    have hml : l.length ≤ maxLen := Nat.le_trans hl hm
    refine ⟨l, ⟨some a, cap, rfl, hl, rfl, Nat.le_trans hml (of_decide_eq_true (by kernel_rfl)), fun _ => ⟨a, rfl, fun j z hz => (hp j z hz).1⟩⟩, hml, fun z hz => ?_⟩
    obtain ⟨i, hi⟩ := List.getElem?_of_mem hz
    exact (hp i z hi).2
theorem opensF_one {d : Kd α} {g : α → Prop} {f : Field} {o : Nat} (ho : f.offset = o) (h : Opens enc P w base spare held d f.type g) : OpensF enc P w base spare held d [f] o g := fun n cs xs hx hl hf => by
  match xs, hx with
  | [y], _ =>
    obtain ⟨a, ha, hg⟩ := h _ _ _ (hf 0 f rfl)
    rw [List.map_cons, List.map_nil, List.sum_cons, List.sum_nil] at hl
    rw [ho, List.take_of_length_le (by rw [List.length_drop]; omega)] at ha
    exact ⟨a, ha, hg⟩
theorem opensF_cons {d : Kd α} {d2 : Kd β} {g : α → Prop} {g2 : β → Prop} {f : Field} {fs : List Field} {o : Nat} (ho : f.offset = o) (h : Opens enc P w base spare held d f.type g) (hr : OpensF enc P w base spare held d2 fs (o + P.cellsOf f.type) g2) :
    OpensF enc P w base spare held (Kd.pair d d2) (f :: fs) o (fun a => g a.1 ∧ g2 a.2) := fun n cs xs hx hl hf => by
  match xs, hx with
  | y :: ys, hx =>
    obtain ⟨a, ha, hg⟩ := h _ _ _ (hf 0 f rfl)
    rw [List.map_cons, List.sum_cons] at hl
    obtain ⟨b, hb, hg2⟩ := hr n cs ys (by simpa using hx) (by omega) (fun i f' hi => hf (i + 1) f' hi)
    rw [ho] at ha
    refine ⟨(a, b), ⟨_, _, ?_, ha, hb⟩, hg, hg2⟩
    rw [← List.drop_drop, List.take_append_drop]
theorem opens_struct {d : Kd α} {g : α → Prop} {fs : Array Field} (ht : P.underlying t = some (.struct fs)) (hc : P.cellsOf t = (fs.toList.map fun f => P.cellsOf f.type).sum) (h : OpensF enc P w base spare held d fs.toList 0 g) : Opens enc P w base spare held d t g := fun fuel cs x hx => by
  obtain ⟨xs, n, _, _, hl, hlen, hf⟩ := DataW.trod_struct ht hx
  have := h n cs xs (by rw [hlen]; simp) (by omega) (fun i f hi => hf i f (by simpa using hi))
  rw [List.drop_zero] at this
  exact this
theorem opens_iso {d : Kd α} {g : α → Prop} (f : β → α) (mk : α → β) (hmk : ∀ a, f (mk a) = a) (h : Opens enc P w base spare held d t g) : Opens enc P w base spare held (Kd.iso d f) t (fun b => g (f b)) := fun fuel cs x hx => by
  obtain ⟨a, ha, hg⟩ := h fuel cs x hx
  exact ⟨mk a, by show d.K w (f (mk a)) cs; rw [hmk]; exact ha, by show g (f (mk a)); rw [hmk]; exact hg⟩
end
end Go.Proofs.YtkgmoajdcibafaaDoor.Lem

/- No row is longer than memory. No conditions. -/
namespace Go.Proofs.YtkgmoajdcibafaaDoor.Lem
open Go Go.RowKit Go.Proofs.YtkgmoajdcibafaaDoor.P

theorem maxLen_le {n : Nat} (h : n ≤ maxLen) : n ≤ 9223372036854775807 := Nat.le_trans h (of_decide_eq_true (by kernel_rfl))
end Go.Proofs.YtkgmoajdcibafaaDoor.Lem

/- What is known of a key that comes in as an argument: its texts and rows are no longer than memory. No conditions. -/
namespace Go.Proofs.YtkgmoajdcibafaaDoor.Lem
open Go Go.RowKit Go.Proofs.YtkgmoajdcibafaaDoor.P
def GTag (t : S119) : Prop := t.f0.size ≤ maxLen ∧ t.f1.size ≤ maxLen
def GKey (k : S27) : Prop := k.f0.size ≤ maxLen ∧ (k.f1.length ≤ maxLen ∧ ∀ t ∈ k.f1, GTag t) ∧ (Lit.int .i64 k.f2).wf = true
end Go.Proofs.YtkgmoajdcibafaaDoor.Lem

/- What is known of an agg that comes in as an argument. No conditions. -/
namespace Go.Proofs.YtkgmoajdcibafaaDoor.Lem
open Go Go.RowKit Go.Proofs.YtkgmoajdcibafaaDoor.P
def GAgg (a : S92) : Prop := (Lit.int .i64 a.f0).wf = true ∧ (Lit.int .i64 a.f1).wf = true ∧ (Lit.int .i64 a.f2).wf = true ∧ (Lit.int .i64 a.f3).wf = true ∧ (a.f4.length ≤ maxLen ∧ ∀ n ∈ a.f4, (Lit.int .i64 n).wf = true) ∧ True
end Go.Proofs.YtkgmoajdcibafaaDoor.Lem

/- What is known of a window that comes in as an argument. No conditions. -/
namespace Go.Proofs.YtkgmoajdcibafaaDoor.Lem
open Go Go.RowKit Go.Proofs.YtkgmoajdcibafaaDoor.P
def GWin (w : S116) : Prop := GKey w.f0 ∧ GAgg w.f1 ∧ (Lit.int .i64 w.f2).wf = true ∧ True
end Go.Proofs.YtkgmoajdcibafaaDoor.Lem

/- Aggs that come in: their copies, and that a copy equals itself. -/
namespace Go.Proofs.YtkgmoajdcibafaaDoor.Lem
open Go Go.RowKit Go.Proofs.YtkgmoajdcibafaaDoor.P Go.Proofs.YtkgmoajdcibafaaDoorW.PrintWords Go.Proofs.YtkgmoajdcibafaaDoorW.PrintLast Go.Proofs.YtkgmoajdcibafaaDoorW.PrintMore

theorem rd_at1 {l : List Int} {i : Nat} (h : i < l.length) : l.drop i = rd l (i : Int) :: l.drop (i + 1) := by
  rw [List.drop_eq_getElem_cons h]
  unfold rd
  rw [Int.toNat_natCast, List.getD_eq_getElem?_getD, List.getElem?_eq_getElem h]
  rfl
/-! ### copies -/
theorem rd_set_copy {l : List Int} {i d : Nat} (hi : i + (d + 1) = l.length) : (l.take i ++ List.replicate (d + 1) 0).set i (rd l (i : Int)) = l.take (i + 1) ++ List.replicate d 0 := by
  have hl : (l.take i).length = i := by rw [List.length_take]; omega
  have hd := rd_at1 (l := l) (i := i) (by omega)
  have ht : l.take (i + 1) = l.take i ++ [rd l (i : Int)] := by
    have h1 := List.take_append_drop i l
    have h2 : l = (l.take i ++ [rd l (i : Int)]) ++ l.drop (i + 1) := by rw [List.append_assoc, List.singleton_append, ← hd, h1]
    have h3 : (l.take i ++ [rd l (i : Int)]).length = i + 1 := by rw [List.length_append, List.length_take, List.length_singleton]; omega
    have h4 := congrArg (List.take (i + 1)) h2
    rw [List.take_left' h3] at h4
    exact h4
  rw [ht, List.set_append_right _ _ (by omega), hl, Nat.sub_self, List.replicate_succ, List.set_cons_zero, List.append_assoc]
  rfl
theorem toInts_l0 {l : List Int} (hl : l.length ≤ 1048576) (d : Nat) : ∀ (k i : Nat), i + d = l.length → d < k → laws_toIntS.l0 k l (l.take i ++ List.replicate d 0) (i : Int) = some l := by
  induction d with
  | zero =>
    intro k i hi hk
    obtain ⟨k, rfl⟩ : ∃ m, k = m + 1 := ⟨k - 1, by omega⟩
    conv => lhs; unfold laws_toIntS.l0
    rw [if_neg (by omega), List.take_of_length_le (by omega), List.replicate_zero, List.append_nil]
  | succ d ih =>
    intro k i hi hk
    obtain ⟨k, rfl⟩ : ∃ m, k = m + 1 := ⟨k - 1, by omega⟩
    have hnext := ih k (i + 1) (by omega) (by omega)
    have ht : (l.take i).length = i := by rw [List.length_take]; omega
    conv => lhs; unfold laws_toIntS.l0
    rw [if_pos (by omega), if_pos (by omega), if_pos (by rw [List.length_append, List.length_replicate, ht]; omega), Int.toNat_natCast, rd_set_copy hi, show wrap64 ((i : Int) + 1) = ((i + 1 : Nat) : Int) from by rw [w64 (by omega) (by omega)]; omega]
    exact hnext
theorem toAgg_ok (c s mi ma : Int) {l : List Int} (hl : l.length ≤ 1048576) (f : Bool) {k : Nat} (hk : 1048576 < k) : laws_toAgg.f k c s mi ma l f = some (c, s, mi, ma, l, f) := by
  have h := toInts_l0 hl l.length k 0 (by omega) (by omega)
  rw [List.take_zero, List.nil_append] at h
  have h' : laws_toIntS.f k l = some l := by
    unfold laws_toIntS.f
    rw [if_pos (by omega), if_pos (by omega), Int.toNat_natCast]
    exact h
  unfold laws_toAgg.f
  rw [h', Option.bind_some]
theorem eqInts_l0 {l : List Int} (hl : l.length ≤ 1048576) (d : Nat) : ∀ (k i : Nat), i + d = l.length → d < k → laws_eqIntS.l0 k l l (i : Int) = some true := by
  induction d with
  | zero =>
    intro k i hi hk
    obtain ⟨k, rfl⟩ : ∃ m, k = m + 1 := ⟨k - 1, by omega⟩
    conv => lhs; unfold laws_eqIntS.l0
    rw [if_neg (by omega)]
  | succ d ih =>
    intro k i hi hk
    obtain ⟨k, rfl⟩ : ∃ m, k = m + 1 := ⟨k - 1, by omega⟩
    have hnext := ih k (i + 1) (by omega) (by omega)
    conv => lhs; unfold laws_eqIntS.l0
    rw [if_pos (by omega), if_pos (by omega), if_pos (by omega), if_pos rfl, show wrap64 ((i : Int) + 1) = ((i + 1 : Nat) : Int) from by rw [w64 (by omega) (by omega)]; omega]
    exact hnext
theorem eqAgg_ok (c s mi ma : Int) {l : List Int} (hl : l.length ≤ 1048576) (f : Bool) {k : Nat} (hk : 1048576 < k) : laws_eqAgg.f k c s mi ma l f c s mi ma l f = some true := by
  have h := eqInts_l0 hl l.length k 0 (by omega) (by omega)
  have h' : laws_eqIntS.f k l l = some true := by
    unfold laws_eqIntS.f
    rw [if_pos rfl]
    exact h
  unfold laws_eqAgg.f
  rw [if_pos rfl, if_pos rfl, if_pos rfl, if_pos rfl, h', Option.bind_some, if_pos rfl, if_neg (by cases f <;> decide)]


theorem szAgg_ok (c s mi ma : Int) {l : List Int} (hl : l.length ≤ 9223372036854775807) (f : Bool) {x : Int} (h0 : 0 ≤ x) (h1 : x ≤ 1048576) : ∃ r, laws_szAgg.f c s mi ma l f x = some r ∧ (r < 0 ∨ (0 ≤ r ∧ r ≤ x ∧ l.length ≤ 1048576)) := by
  unfold laws_szAgg.f laws_szIntS.f
  rw [show wrap64 (x - (l.length : Int)) = x - (l.length : Int) from w64 (by omega) (by omega)]
  by_cases h : x - (l.length : Int) < 0
  · exact ⟨-1, by rw [if_pos h, Option.bind_some, if_pos (by decide)], .inl (by omega)⟩
  · exact ⟨_, by rw [if_neg h, Option.bind_some, if_neg h], .inr ⟨by omega, by omega, by omega⟩⟩
end Go.Proofs.YtkgmoajdcibafaaDoor.Lem

/- Boards that are handed in: their measure, their copy, and that they are equal to themselves. -/
namespace Go.Proofs.YtkgmoajdcibafaaDoor.Lem
open Go Go.RowKit Go.Proofs.YtkgmoajdcibafaaDoor.P Go.Proofs.YtkgmoajdcibafaaDoorW.PrintWords Go.Proofs.YtkgmoajdcibafaaDoorW.PrintLast Go.Proofs.YtkgmoajdcibafaaDoorW.PrintMore

abbrev Lw := S116
theorem rdLw_get {l : List Lw} {i : Nat} (h : i < l.length) : rd_T116 l (i : Int) = l[i] := by
  unfold rd_T116
  rw [Int.toNat_natCast, List.getD_eq_getElem?_getD, List.getElem?_eq_getElem h]
  rfl
/-- A window that Go can hold. -/
def HeldW (w : Lw) : Prop := w.f0.f0.size ≤ 9223372036854775807 ∧ w.f0.f1.length ≤ 9223372036854775807 ∧ Held w.f0.f1 ∧ w.f1.f4.length ≤ 9223372036854775807
/-- A window that is no longer than the bound. -/
def Short (w : Lw) : Prop := w.f0.f1.length ≤ 1048576 ∧ w.f1.f4.length ≤ 1048576

theorem heldW {w : Lw} (h : GWin w) : HeldW w := ⟨maxLen_le h.1.1, maxLen_le h.1.2.1.1, fun t ht => ⟨maxLen_le (h.1.2.1.2 t ht).1, maxLen_le (h.1.2.1.2 t ht).2⟩, maxLen_le h.2.1.2.2.2.2.1.1⟩
theorem szWin_ok {w : Lw} (hw : HeldW w) {x : Int} (h0 : 0 ≤ x) (h1 : x ≤ 1048576) {k : Nat} (hk : 1048577 < k) : ∃ r, laws_szWin.f k w.f0.f0 w.f0.f1 w.f0.f2 w.f1.f0 w.f1.f1 w.f1.f2 w.f1.f3 w.f1.f4 w.f1.f5 w.f2 w.f3 x = some r ∧ (r < 0 ∨ (0 ≤ r ∧ r ≤ x ∧ Short w)) := by
  obtain ⟨hm, hl, hh, ha⟩ := hw
  unfold laws_szWin.f
  obtain ⟨r, hr, hr2⟩ := szKey_ok hm hl hh w.f0.f2 h0 h1 (k := k) (.inr (by omega))
  rw [hr, Option.bind_some]
  by_cases hn : r < 0
  · exact ⟨-1, by rw [if_pos hn], .inl (by omega)⟩
  · obtain ⟨r2, hq, hq2⟩ := szAgg_ok w.f1.f0 w.f1.f1 w.f1.f2 w.f1.f3 ha w.f1.f5 (x := r) (by omega) (by omega)
    rw [if_neg hn, hq, Option.bind_some]
    by_cases hn2 : r2 < 0
    · exact ⟨-1, by rw [if_pos hn2], .inl (by omega)⟩
    · exact ⟨r2, by rw [if_neg hn2], .inr ⟨by omega, by omega, by omega, by omega⟩⟩
theorem szWinS_l0 (l : List Lw) (hl : l.length ≤ 1048576) (hh : ∀ w ∈ l, HeldW w) : ∀ (d i k : Nat) (x : Int), i + d = l.length → d + 1048580 < k → 0 ≤ x → x ≤ 1048576 → ∃ r, laws_szWinS.l0 k l x (i : Int) = some r ∧ (r < 0 ∨ (0 ≤ r ∧ r ≤ x ∧ ∀ w ∈ l.drop i, Short w)) := by
  intro d
  induction d with
  | zero =>
    intro i k x hi hk h0 h1
    obtain ⟨k, rfl⟩ : ∃ q, k = q + 1 := ⟨k - 1, by omega⟩
    exact ⟨x, by rw [laws_szWinS.l0, if_neg (by omega)], .inr ⟨h0, Int.le_refl _, fun w hw => by rw [List.drop_of_length_le (by omega)] at hw; simp at hw⟩⟩
  | succ d ih =>
    intro i k x hi hk h0 h1
    obtain ⟨k, rfl⟩ : ∃ q, k = q + 1 := ⟨k - 1, by omega⟩
    have hlt : i < l.length := by omega
    obtain ⟨r, hr, hr2⟩ := szWin_ok (hh l[i] (List.getElem_mem hlt)) h0 h1 (k := k) (by omega)
    rw [laws_szWinS.l0, if_pos (by omega), if_pos (by omega), rdLw_get hlt, hr, Option.bind_some]
    by_cases hn : r < 0
    · exact ⟨-1, by rw [if_pos hn], .inl (by omega)⟩
    · rw [if_neg hn, show wrap64 ((i : Int) + 1) = ((i + 1 : Nat) : Int) from by rw [w64 (by omega) (by omega)]; omega]
      have hr3 : 0 ≤ r ∧ r ≤ x ∧ Short l[i] := by
        rcases hr2 with h | h
        · exact absurd h hn
        · exact h
      obtain ⟨r2, hq, hq2⟩ := ih (i + 1) k r (by omega) (by omega) (by omega) (by omega)
      refine ⟨r2, hq, ?_⟩
      rcases hq2 with h | ⟨h, h', h''⟩
      · exact .inl h
      · refine .inr ⟨h, by omega, fun w hw => ?_⟩
        rw [drop_get hlt] at hw
        rcases List.mem_cons.1 hw with rfl | hw
        · exact hr3.2.2
        · exact h'' w hw
theorem szBoard_ok (a b c : Int) {l : List Lw} (hl : l.length ≤ 9223372036854775807) (hh : ∀ w ∈ l, HeldW w) {k : Nat} (hk : 2097160 < k) : ∃ r, laws_szBoard.f k a b c l 1048576 = some r ∧ (r < 0 ∨ (0 ≤ r ∧ l.length ≤ 1048576 ∧ ∀ w ∈ l, Short w)) := by
  unfold laws_szBoard.f laws_szWinS.f
  rw [show wrap64 (1048576 - (l.length : Int)) = 1048576 - (l.length : Int) from w64 (by omega) (by omega)]
  by_cases h : 1048576 - (l.length : Int) < 0
  · exact ⟨-1, by rw [if_pos h, Option.bind_some, if_pos (by decide)], .inl (by omega)⟩
  · rw [if_neg h]
    obtain ⟨r, hr, hr2⟩ := szWinS_l0 l (by omega) hh l.length 0 k (1048576 - (l.length : Int)) (by omega) (by omega) (by omega) (by omega)
    rw [List.drop_zero] at hr2
    have hr' : laws_szWinS.l0 k l (1048576 - (l.length : Int)) 0 = some r := hr
    rw [hr', Option.bind_some]
    by_cases hn : r < 0
    · exact ⟨-1, by rw [if_pos hn], .inl (by omega)⟩
    · refine ⟨r, by rw [if_neg hn], ?_⟩
      rcases hr2 with h2 | ⟨h2, _, h3⟩
      · exact .inl h2
      · exact .inr ⟨h2, by omega, h3⟩

/-- The window as the program has it. -/
def cvW (w : Lw) : Wn := ⟨⟨w.f0.f0, w.f0.f1.map cvT, w.f0.f2⟩, ⟨w.f1.f0, w.f1.f1, w.f1.f2, w.f1.f3, w.f1.f4, w.f1.f5⟩, w.f2, w.f3⟩
theorem toWin_ok {w : Lw} (hw : Short w) {k : Nat} (hk : 1048577 < k) : laws_toWin.f k w.f0.f0 w.f0.f1 w.f0.f2 w.f1.f0 w.f1.f1 w.f1.f2 w.f1.f3 w.f1.f4 w.f1.f5 w.f2 w.f3 =
    some (w.f0.f0, w.f0.f1.map cvT, w.f0.f2, w.f1.f0, w.f1.f1, w.f1.f2, w.f1.f3, w.f1.f4, w.f1.f5, w.f2, w.f3) := by
  unfold laws_toWin.f
  rw [toKey_ok w.f0.f0 hw.1 w.f0.f2 (by have := hw.1; omega), Option.bind_some, toAgg_ok w.f1.f0 w.f1.f1 w.f1.f2 w.f1.f3 hw.2 w.f1.f5 (by omega), Option.bind_some]
theorem toWinS_l0 {l : List Lw} (hl : l.length ≤ 1048576) (hh : ∀ w ∈ l, Short w) : ∀ (d k i : Nat), i + d = l.length → d + 1048580 < k → laws_toWinS.l0 k l ((l.take i).map cvW ++ List.replicate d z37) (i : Int) = some (l.map cvW) := by
  intro d
  induction d with
  | zero =>
    intro k i hi hk
    obtain ⟨k, rfl⟩ : ∃ q, k = q + 1 := ⟨k - 1, by omega⟩
    rw [laws_toWinS.l0, if_neg (by omega), List.take_of_length_le (by omega), List.replicate_zero, List.append_nil]
  | succ d ih =>
    intro k i hi hk
    obtain ⟨k, rfl⟩ : ∃ q, k = q + 1 := ⟨k - 1, by omega⟩
    have hlt : i < l.length := by omega
    have hnext := ih k (i + 1) (by omega) (by omega)
    rw [laws_toWinS.l0, if_pos (by omega), if_pos (by omega), rdLw_get hlt, toWin_ok (hh _ (List.getElem_mem hlt)) (by omega)]
    rw [Option.bind_some, if_pos (by rw [List.length_append, List.length_map, List.length_take, List.length_replicate]; omega), Int.toNat_natCast, show wrap64 ((i : Int) + 1) = ((i + 1 : Nat) : Int) from by rw [w64 (by omega) (by omega)]; omega]
    have e := set_copy cvW z37 (d := d) hlt
    show laws_toWinS.l0 k l (((l.take i).map cvW ++ List.replicate (d + 1) z37).set i (cvW l[i])) _ = _
    rw [e]
    exact hnext
theorem toBoard_ok (a b c : Int) {l : List Lw} (hl : l.length ≤ 1048576) (hh : ∀ w ∈ l, Short w) {k : Nat} (hk : 2097160 < k) : laws_toBoard.f k a b c l = some (a, b, c, l.map cvW) := by
  unfold laws_toBoard.f laws_toWinS.f
  rw [if_pos (by omega), if_pos (by rw [Int.toNat_natCast]; omega), Int.toNat_natCast]
  have h := toWinS_l0 hl hh l.length k 0 (by omega) (by omega)
  rw [List.take_zero, List.map_nil, List.nil_append] at h
  have h' : laws_toWinS.l0 k l (List.replicate l.length z37) 0 = some (l.map cvW) := h
  rw [h', Option.bind_some]

theorem eqWin_ok {w : Wn} (h1 : w.f0.f1.length ≤ 1048576) (h2 : w.f1.f4.length ≤ 1048576) {k : Nat} (hk : 1048577 < k) :
    laws_eqWin.f k w.f0.f0 w.f0.f1 w.f0.f2 w.f1.f0 w.f1.f1 w.f1.f2 w.f1.f3 w.f1.f4 w.f1.f5 w.f2 w.f3 w.f0.f0 w.f0.f1 w.f0.f2 w.f1.f0 w.f1.f1 w.f1.f2 w.f1.f3 w.f1.f4 w.f1.f5 w.f2 w.f3 = some true := by
  unfold laws_eqWin.f
  rw [eqKey_ok w.f0.f0 h1 w.f0.f2 (by omega), Option.bind_some, if_pos rfl, eqAgg_ok w.f1.f0 w.f1.f1 w.f1.f2 w.f1.f3 h2 w.f1.f5 (by omega), Option.bind_some, if_pos rfl, if_pos rfl, if_neg (by cases w.f3 <;> decide)]
theorem eqWinS_l0 (l : List Wn) (hl : l.length ≤ 1048576) (hh : ∀ w ∈ l, w.f0.f1.length ≤ 1048576 ∧ w.f1.f4.length ≤ 1048576) : ∀ (d i k : Nat), i + d = l.length → d + 1048580 < k → laws_eqWinS.l0 k l l (i : Int) = some true := by
  intro d
  induction d with
  | zero =>
    intro i k hi hk
    obtain ⟨k, rfl⟩ : ∃ q, k = q + 1 := ⟨k - 1, by omega⟩
    rw [laws_eqWinS.l0, if_neg (by omega)]
  | succ d ih =>
    intro i k hi hk
    obtain ⟨k, rfl⟩ : ∃ q, k = q + 1 := ⟨k - 1, by omega⟩
    have hlt : i < l.length := by omega
    have hnext := ih (i + 1) k (by omega) (by omega)
    obtain ⟨q1, q2⟩ := hh l[i] (List.getElem_mem hlt)
    rw [laws_eqWinS.l0, if_pos (by omega), if_pos (by omega), if_pos (by omega), rdW_get hlt, eqWin_ok q1 q2 (by omega), Option.bind_some, if_pos rfl, show wrap64 ((i : Int) + 1) = ((i + 1 : Nat) : Int) from by rw [w64 (by omega) (by omega)]; omega]
    exact hnext
theorem eqBoard_ok (a b c : Int) {l : List Wn} (hl : l.length ≤ 1048576) (hh : ∀ w ∈ l, w.f0.f1.length ≤ 1048576 ∧ w.f1.f4.length ≤ 1048576) {k : Nat} (hk : 2097160 < k) : laws_eqBoard.f k a b c l a b c l = some true := by
  unfold laws_eqBoard.f laws_eqWinS.f
  have h : laws_eqWinS.l0 k l l 0 = some true := eqWinS_l0 l hl hh l.length 0 k (by omega) (by omega)
  rw [if_pos rfl, if_pos rfl, if_pos rfl, if_pos rfl, h, Option.bind_some, if_pos rfl]

end Go.Proofs.YtkgmoajdcibafaaDoor.Lem

/- Marks in rows of numbers, written and told again. No conditions. -/
namespace Go.Proofs.YtkgmoajdcibafaaDoor.Lem
open Go Go.RowKit Go.Proofs.YtkgmoajdcibafaaDoor.P Go.Proofs.YtkgmoajdcibafaaDoorW.PrintWords Go.Proofs.YtkgmoajdcibafaaDoorW.PrintLast Go.Proofs.YtkgmoajdcibafaaDoorW.PrintMore

def markInts : List Int → Int → List Int
  | [], _ => []
  | _ :: r, x => x :: markInts r (x + 1)
theorem markInts_length : ∀ (l : List Int) (x : Int), (markInts l x).length = l.length
  | [], _ => rfl
  | _ :: r, x => by rw [markInts, List.length_cons, List.length_cons, markInts_length r]
theorem markIntS_l0 : ∀ (rest pre : List Int) (k : Nat) (x : Int), 0 ≤ x → x + rest.length < 1000000000000000000 → pre.length + rest.length ≤ 1000000000 → rest.length < k →
    laws_markIntS.l0 k (pre ++ rest) x (pre.length : Int) = some (x + rest.length, pre ++ markInts rest x)
  | [], pre, k, x, h0, h1, h2, hk => by
    obtain ⟨k, rfl⟩ : ∃ q, k = q + 1 := ⟨k - 1, by omega⟩
    rw [laws_markIntS.l0, if_neg (by rw [List.append_nil]; omega), List.append_nil, markInts, List.append_nil]
    simp
  | a :: rest, pre, k, x, h0, h1, h2, hk => by
    obtain ⟨k, rfl⟩ : ∃ q, k = q + 1 := ⟨k - 1, by omega⟩
    rw [List.length_cons] at h1 h2 hk
    have ih := markIntS_l0 rest (pre ++ [x]) k (x + 1) (by omega) (by omega) (by rw [List.length_append, List.length_singleton]; omega) (by omega)
    rw [laws_markIntS.l0, if_pos (by rw [List.length_append, List.length_cons]; omega), if_pos (by omega), Int.toNat_natCast, set_mid _ _ _ _ rfl, w64 (by omega) (by omega),
      show wrap64 ((pre.length : Int) + 1) = ((pre ++ [x]).length : Int) from by rw [w64 (by omega) (by omega), List.length_append, List.length_singleton]; omega]
    rw [List.append_assoc, List.singleton_append] at ih
    rw [ih, markInts, List.length_cons, List.append_assoc, List.singleton_append]
    congr 2
    omega
theorem markIntS_ok (l : List Int) {k : Nat} {x : Int} (h0 : 0 ≤ x) (h1 : x + l.length < 1000000000000000000) (h2 : l.length ≤ 1000000000) (hk : l.length < k) : laws_markIntS.f k l x = some (x + l.length, markInts l x) := markIntS_l0 l [] k x h0 h1 (by simpa using h2) hk
theorem heldIntS_l0 : ∀ (rest pre : List Int) (k : Nat) (x : Int), 0 ≤ x → x + rest.length < 1000000000000000000 → pre.length + rest.length ≤ 1000000000 → rest.length < k →
    laws_heldIntS.l0 k (pre ++ markInts rest x) x (pre.length : Int) = some (x + rest.length)
  | [], pre, k, x, h0, h1, h2, hk => by
    obtain ⟨k, rfl⟩ : ∃ q, k = q + 1 := ⟨k - 1, by omega⟩
    rw [laws_heldIntS.l0, markInts, List.append_nil, if_neg (by omega)]
    simp
  | a :: rest, pre, k, x, h0, h1, h2, hk => by
    obtain ⟨k, rfl⟩ : ∃ q, k = q + 1 := ⟨k - 1, by omega⟩
    rw [List.length_cons] at h1 h2 hk
    have ih := heldIntS_l0 rest (pre ++ [x]) k (x + 1) (by omega) (by omega) (by rw [List.length_append, List.length_singleton]; omega) (by omega)
    rw [List.append_assoc, List.singleton_append] at ih
    rw [laws_heldIntS.l0, markInts, if_pos (by rw [List.length_append, List.length_cons]; omega), if_pos (by omega), show rd (pre ++ x :: markInts rest (x + 1)) (pre.length : Int) = x from getD_mid _ _ _ _ rfl, if_pos rfl, w64 (by omega) (by omega),
      show wrap64 ((pre.length : Int) + 1) = ((pre ++ [x]).length : Int) from by rw [w64 (by omega) (by omega), List.length_append, List.length_singleton]; omega, ih, List.length_cons]
    congr 1
    omega
theorem heldIntS_ok (l : List Int) {k : Nat} {x : Int} (h0 : 0 ≤ x) (h1 : x + l.length < 1000000000000000000) (h2 : l.length ≤ 1000000000) (hk : l.length < k) : laws_heldIntS.f k (markInts l x) x = some (x + l.length) := heldIntS_l0 l [] k x h0 h1 (by simpa using h2) hk
end Go.Proofs.YtkgmoajdcibafaaDoor.Lem

/- Marks as texts. No conditions. -/
namespace Go.Proofs.YtkgmoajdcibafaaDoor.Lem
open Go Go.RowKit Go.Proofs.YtkgmoajdcibafaaDoor.P Go.Proofs.YtkgmoajdcibafaaDoorW.PrintWords Go.Proofs.YtkgmoajdcibafaaDoorW.PrintLast Go.Proofs.YtkgmoajdcibafaaDoorW.PrintMore

def markTl : Nat → Int → ByteArray → ByteArray
  | 0, _, acc => (⟨#[109]⟩ : ByteArray) ++ acc
  | d + 1, x, acc => if x > 0 then markTl d (Int.tdiv x 10) ((strOfNums [(wrap64 (48 + (Int.tmod x 10))) % 256]) ++ acc) else (⟨#[109]⟩ : ByteArray) ++ acc
theorem markText_l0 : ∀ (d k : Nat) (x : Int) (acc : ByteArray), 0 ≤ x → x < 10 ^ d → x ≤ 9223372036854775807 → d < k → acc.size + d ≤ 1000 → laws_markText.l0 k x acc = some (markTl d x acc)
  | 0, k, x, acc, h0, h1, _, hk, ha => by
    obtain ⟨k, rfl⟩ : ∃ q, k = q + 1 := ⟨k - 1, by omega⟩
    have hx : ¬ x > 0 := by simp at h1; omega
    rw [laws_markText.l0, if_neg hx, if_pos (by omega)]
    rfl
  | d + 1, k, x, acc, h0, h1, hb, hk, ha => by
    obtain ⟨k, rfl⟩ : ∃ q, k = q + 1 := ⟨k - 1, by omega⟩
    rw [laws_markText.l0, markTl]
    by_cases hx : x > 0
    · have hz : (strOfNums [(wrap64 (48 + (Int.tmod x 10))) % 256]).size = 1 := rfl
      have e : Int.tdiv x 10 = x / 10 := Int.tdiv_eq_ediv_of_nonneg h0
      have hp : (10 : Int) ^ (d + 1) = 10 ^ d * 10 := Int.pow_succ 10 d
      have hlt : x / 10 < 10 ^ d := by omega
      have ih := markText_l0 d k (x / 10) ((strOfNums [(wrap64 (48 + (Int.tmod x 10))) % 256]) ++ acc) (by omega) hlt (by omega) (by omega) (by rw [ByteArray.size_append, hz]; omega)
      rw [if_pos hx, if_pos hx, Option.bind_some, hz, if_pos (by omega), e, w64 (by omega) (by omega)]
      exact ih
    · rw [if_neg hx, if_neg hx, if_pos (by omega)]
def markT (x : Int) : ByteArray := if x ≤ 0 then ⟨#[109, 48]⟩ else markTl 18 x ⟨#[]⟩
theorem markText_ok {x : Int} (h0 : 0 ≤ x) (h1 : x < 1000000000000000000) {k : Nat} (hk : 20 < k) : laws_markText.f k x = some (markT x) := by
  unfold laws_markText.f markT
  split
  · rfl
  · exact markText_l0 18 k x _ h0 (by simpa using h1) (by omega) (by omega) (by decide)
end Go.Proofs.YtkgmoajdcibafaaDoor.Lem

/- Marks that are written into rows, and told again: texts and tags. No conditions. -/
namespace Go.Proofs.YtkgmoajdcibafaaDoor.Lem
open Go Go.RowKit Go.Proofs.YtkgmoajdcibafaaDoor.P Go.Proofs.YtkgmoajdcibafaaDoorW.PrintWords Go.Proofs.YtkgmoajdcibafaaDoorW.PrintLast Go.Proofs.YtkgmoajdcibafaaDoorW.PrintMore

abbrev MTg := S123
def markTags : List MTg → Int → List MTg
  | [], _ => []
  | _ :: r, x => ⟨markT x, markT (x + 1)⟩ :: markTags r (x + 2)
theorem markTags_length : ∀ (l : List MTg) (x : Int), (markTags l x).length = l.length
  | [], _ => rfl
  | _ :: r, x => by rw [markTags, List.length_cons, List.length_cons, markTags_length r]
theorem rdTg_mid (pre : List MTg) (a : MTg) (rest : List MTg) : rd_T123 (pre ++ a :: rest) (pre.length : Int) = a := getD_mid _ _ _ _ rfl
theorem markTagS_l0 : ∀ (rest pre : List MTg) (k : Nat) (x : Int), 0 ≤ x → x + 2 * rest.length < 1000000000000000000 → pre.length + rest.length ≤ 1000000000 → rest.length + 21 < k →
    laws_markTagS.l0 k (pre ++ rest) x (pre.length : Int) = some (x + 2 * rest.length, pre ++ markTags rest x)
  | [], pre, k, x, h0, h1, h2, hk => by
    obtain ⟨k, rfl⟩ : ∃ q, k = q + 1 := ⟨k - 1, by omega⟩
    rw [laws_markTagS.l0, if_neg (by rw [List.append_nil]; omega), List.append_nil, markTags, List.append_nil]
    simp
  | a :: rest, pre, k, x, h0, h1, h2, hk => by
    obtain ⟨k, rfl⟩ : ∃ q, k = q + 1 := ⟨k - 1, by omega⟩
    rw [List.length_cons] at h1 h2 hk
    have ih := markTagS_l0 rest (pre ++ [⟨markT x, markT (x + 1)⟩]) k (x + 2) (by omega) (by omega) (by rw [List.length_append, List.length_singleton]; omega) (by omega)
    rw [laws_markTagS.l0, if_pos (by rw [List.length_append, List.length_cons]; omega), markText_ok h0 (by omega) (by omega), Option.bind_some, if_pos (by omega), Int.toNat_natCast, set_mid _ _ _ _ rfl, Option.bind_some,
      w64 (by omega) (by omega), markText_ok (by omega) (by omega) (by omega), Option.bind_some, set_mid _ _ _ _ rfl, rdTg_mid, rdTg_mid, w64 (x := x + 1 + 1) (by omega) (by omega), show wrap64 ((pre.length : Int) + 1) = ((pre ++ [(⟨markT x, markT (x + 1)⟩ : MTg)]).length : Int) from by rw [w64 (by omega) (by omega), List.length_append, List.length_singleton]; omega, show x + 1 + 1 = x + 2 from by omega]
    rw [List.append_assoc, List.singleton_append] at ih
    rw [ih, markTags, List.length_cons, List.append_assoc, List.singleton_append]
    congr 2
    omega
theorem markTagS_ok (l : List MTg) {k : Nat} {x : Int} (h0 : 0 ≤ x) (h1 : x + 2 * l.length < 1000000000000000000) (h2 : l.length ≤ 1000000000) (hk : l.length + 21 < k) : laws_markTagS.f k l x = some (x + 2 * l.length, markTags l x) := markTagS_l0 l [] k x h0 h1 (by simpa using h2) hk
theorem heldTagS_l0 : ∀ (rest pre : List MTg) (k : Nat) (x : Int), 0 ≤ x → x + 2 * rest.length < 1000000000000000000 → pre.length + rest.length ≤ 1000000000 → rest.length + 21 < k →
    laws_heldTagS.l0 k (pre ++ markTags rest x) x (pre.length : Int) = some (x + 2 * rest.length)
  | [], pre, k, x, h0, h1, h2, hk => by
    obtain ⟨k, rfl⟩ : ∃ q, k = q + 1 := ⟨k - 1, by omega⟩
    rw [laws_heldTagS.l0, markTags, List.append_nil, if_neg (by omega)]
    simp
  | a :: rest, pre, k, x, h0, h1, h2, hk => by
    obtain ⟨k, rfl⟩ : ∃ q, k = q + 1 := ⟨k - 1, by omega⟩
    rw [List.length_cons] at h1 h2 hk
    have ih := heldTagS_l0 rest (pre ++ [⟨markT x, markT (x + 1)⟩]) k (x + 2) (by omega) (by omega) (by rw [List.length_append, List.length_singleton]; omega) (by omega)
    rw [List.append_assoc, List.singleton_append] at ih
    rw [laws_heldTagS.l0, markTags, if_pos (by rw [List.length_append, List.length_cons]; omega), if_pos (by omega), markText_ok h0 (by omega) (by omega), Option.bind_some, rdTg_mid, if_pos rfl, w64 (by omega) (by omega), markText_ok (by omega) (by omega) (by omega), Option.bind_some, if_pos rfl,
      w64 (x := x + 1 + 1) (by omega) (by omega), show wrap64 ((pre.length : Int) + 1) = ((pre ++ [(⟨markT x, markT (x + 1)⟩ : MTg)]).length : Int) from by rw [w64 (by omega) (by omega), List.length_append, List.length_singleton]; omega, show x + 1 + 1 = x + 2 from by omega, ih, List.length_cons]
    congr 1
    omega
theorem heldTagS_ok (l : List MTg) {k : Nat} {x : Int} (h0 : 0 ≤ x) (h1 : x + 2 * l.length < 1000000000000000000) (h2 : l.length ≤ 1000000000) (hk : l.length + 21 < k) : laws_heldTagS.f k (markTags l x) x = some (x + 2 * l.length) := heldTagS_l0 l [] k x h0 h1 (by simpa using h2) hk
end Go.Proofs.YtkgmoajdcibafaaDoor.Lem

/- Marks that are written into windows, and told again. No conditions. -/
namespace Go.Proofs.YtkgmoajdcibafaaDoor.Lem
open Go Go.RowKit Go.Proofs.YtkgmoajdcibafaaDoor.P Go.Proofs.YtkgmoajdcibafaaDoorW.PrintWords Go.Proofs.YtkgmoajdcibafaaDoorW.PrintLast Go.Proofs.YtkgmoajdcibafaaDoorW.PrintMore

abbrev MWn := S37
def markWY (w : MWn) (x y z : Int) : MWn :=
  ⟨⟨markT x, markTags w.f0.f1 (x + 1), y⟩, ⟨y + 1, y + 1 + 1, y + 1 + 1 + 1, y + 1 + 1 + 1 + 1, markInts w.f1.f4 (y + 1 + 1 + 1 + 1 + 1), Int.tmod z 3 == 0⟩, z + 1, Int.tmod (z + 1 + 1) 3 == 0⟩
def yW (w : MWn) (x : Int) : Int := x + 1 + 2 * (w.f0.f1.length : Int)
def zW (w : MWn) (x : Int) : Int := yW w x + 1 + 1 + 1 + 1 + 1 + (w.f1.f4.length : Int)
def markW (w : MWn) (x : Int) : MWn := markWY w x (yW w x) (zW w x)
def markWs : List MWn → Int → List MWn
  | [], _ => []
  | w :: r, x => markW w x :: markWs r (zW w x + 1 + 1 + 1)
def endW : List MWn → Int → Int
  | [], x => x
  | w :: r, x => endW r (zW w x + 1 + 1 + 1)
theorem zW_eq (w : MWn) (x : Int) : zW w x = x + 6 + 2 * (w.f0.f1.length : Int) + (w.f1.f4.length : Int) := by unfold zW yW; omega
theorem markWs_length : ∀ (l : List MWn) (x : Int), (markWs l x).length = l.length
  | [], _ => rfl
  | _ :: r, x => by rw [markWs, List.length_cons, List.length_cons, markWs_length r]
/-- Windows with rows within the bound. -/
def Rows_ (l : List MWn) : Prop := ∀ w ∈ l, w.f0.f1.length ≤ 1048576 ∧ w.f1.f4.length ≤ 1048576
theorem endW_le : ∀ (l : List MWn) (x : Int), Rows_ l → x ≤ endW l x ∧ endW l x ≤ x + 4194304 * (l.length : Int)
  | [], x, _ => by simp [endW]
  | w :: r, x, h => by
    have ih := endW_le r (zW w x + 1 + 1 + 1) (fun v hv => h v (List.mem_cons_of_mem _ hv))
    have hw := h w List.mem_cons_self
    rw [endW, List.length_cons]
    rw [zW_eq] at ih ⊢
    omega
theorem rdWn_mid (pre : List MWn) (a : MWn) (rest : List MWn) : rd_T37 (pre ++ a :: rest) (pre.length : Int) = a := getD_mid _ _ _ _ rfl
theorem markWinS_l0 : ∀ (rest pre : List MWn) (k : Nat) (x : Int), 0 ≤ x → x + 4194304 * (rest.length : Int) < 1000000000000000000 → pre.length + rest.length ≤ 1000000000 → Rows_ rest → rest.length + 1048600 < k →
    laws_markWinS.l0 k (pre ++ rest) x (pre.length : Int) = some (endW rest x, pre ++ markWs rest x)
  | [], pre, k, x, h0, h1, h2, h3, hk => by
    obtain ⟨k, rfl⟩ : ∃ q, k = q + 1 := ⟨k - 1, by omega⟩
    rw [laws_markWinS.l0, if_neg (by rw [List.append_nil]; omega), List.append_nil, markWs, List.append_nil]
    rfl
  | a :: rest, pre, k, x, h0, h1, h2, h3, hk => by
    obtain ⟨k, rfl⟩ : ∃ q, k = q + 1 := ⟨k - 1, by omega⟩
    rw [List.length_cons] at h1 h2 hk
    obtain ⟨t1, t2⟩ := h3 a List.mem_cons_self
    have hz := zW_eq a x
    have ih := markWinS_l0 rest (pre ++ [markW a x]) k (zW a x + 1 + 1 + 1) (by omega) (by omega) (by rw [List.length_append, List.length_singleton]; omega) (fun v hv => h3 v (List.mem_cons_of_mem _ hv)) (by omega)
    rw [List.append_assoc, List.singleton_append] at ih
    rw [laws_markWinS.l0, if_pos (by rw [List.length_append, List.length_cons]; omega), if_pos (by omega), markText_ok h0 (by omega) (by omega), Option.bind_some, rdWn_mid,
      w64 (x := x + 1) (by omega) (by omega), markTagS_ok _ (by omega) (by omega) (by omega) (by omega), Option.bind_some]
    dsimp only
    rw [show x + 1 + 2 * (a.f0.f1.length : Int) = yW a x from rfl]
    have hy : yW a x = x + 1 + 2 * (a.f0.f1.length : Int) := rfl
    rw [w64 (x := yW a x + 1) (by omega) (by omega), w64 (x := yW a x + 1 + 1) (by omega) (by omega), w64 (x := yW a x + 1 + 1 + 1) (by omega) (by omega), w64 (x := yW a x + 1 + 1 + 1 + 1) (by omega) (by omega), w64 (x := yW a x + 1 + 1 + 1 + 1 + 1) (by omega) (by omega),
      markIntS_ok _ (by omega) (by omega) (by omega) (by omega), Option.bind_some]
    dsimp only
    rw [show yW a x + 1 + 1 + 1 + 1 + 1 + (a.f1.f4.length : Int) = zW a x from rfl, w64 (x := zW a x + 1) (by omega) (by omega), w64 (x := zW a x + 1 + 1) (by omega) (by omega), w64 (x := zW a x + 1 + 1 + 1) (by omega) (by omega), Int.toNat_natCast, set_mid _ _ _ _ rfl,
      show wrap64 ((pre.length : Int) + 1) = ((pre ++ [markW a x]).length : Int) from by rw [w64 (by omega) (by omega), List.length_append, List.length_singleton]; omega]
    rw [endW, markWs]
    refine Eq.trans ?_ (ih.trans ?_)
    · rfl
    · rw [List.append_assoc, List.singleton_append]
theorem markWinS_ok (l : List MWn) {k : Nat} {x : Int} (h0 : 0 ≤ x) (h1 : x ≤ 10) (h2 : l.length ≤ 1048576) (h3 : Rows_ l) (hk : 2097180 < k) : laws_markWinS.f k l x = some (endW l x, markWs l x) := markWinS_l0 l [] k x h0 (by omega) (by simpa using (by omega : l.length ≤ 1000000000)) h3 (by omega)
theorem heldWinS_l0 : ∀ (rest pre : List MWn) (k : Nat) (x : Int), 0 ≤ x → x + 4194304 * (rest.length : Int) < 1000000000000000000 → pre.length + rest.length ≤ 1000000000 → Rows_ rest → rest.length + 1048600 < k →
    laws_heldWinS.l0 k (pre ++ markWs rest x) x (pre.length : Int) = some (endW rest x)
  | [], pre, k, x, h0, h1, h2, h3, hk => by
    obtain ⟨k, rfl⟩ : ∃ q, k = q + 1 := ⟨k - 1, by omega⟩
    rw [laws_heldWinS.l0, markWs, List.append_nil, if_neg (by omega)]
    rfl
  | a :: rest, pre, k, x, h0, h1, h2, h3, hk => by
    obtain ⟨k, rfl⟩ : ∃ q, k = q + 1 := ⟨k - 1, by omega⟩
    rw [List.length_cons] at h1 h2 hk
    obtain ⟨t1, t2⟩ := h3 a List.mem_cons_self
    have hz := zW_eq a x
    have hy : yW a x = x + 1 + 2 * (a.f0.f1.length : Int) := rfl
    have ih := heldWinS_l0 rest (pre ++ [markW a x]) k (zW a x + 1 + 1 + 1) (by omega) (by omega) (by rw [List.length_append, List.length_singleton]; omega) (fun v hv => h3 v (List.mem_cons_of_mem _ hv)) (by omega)
    rw [List.append_assoc, List.singleton_append] at ih
    rw [laws_heldWinS.l0, markWs, if_pos (by rw [List.length_append, List.length_cons]; omega), if_pos (by omega), markText_ok h0 (by omega) (by omega), Option.bind_some, rdWn_mid, if_pos (show (markW a x).f0.f0.toList = (markT x).toList from rfl),
      w64 (x := x + 1) (by omega) (by omega), show (markW a x).f0.f1 = markTags a.f0.f1 (x + 1) from rfl, heldTagS_ok _ (by omega) (by omega) (by omega) (by omega), Option.bind_some, show x + 1 + 2 * (a.f0.f1.length : Int) = yW a x from rfl,
      if_neg (by omega), if_pos (show (markW a x).f0.f2 = yW a x from rfl), w64 (x := yW a x + 1) (by omega) (by omega), if_pos (show (markW a x).f1.f0 = yW a x + 1 from rfl), w64 (x := yW a x + 1 + 1) (by omega) (by omega), if_pos (show (markW a x).f1.f1 = yW a x + 1 + 1 from rfl),
      w64 (x := yW a x + 1 + 1 + 1) (by omega) (by omega), if_pos (show (markW a x).f1.f2 = yW a x + 1 + 1 + 1 from rfl), w64 (x := yW a x + 1 + 1 + 1 + 1) (by omega) (by omega), if_pos (show (markW a x).f1.f3 = yW a x + 1 + 1 + 1 + 1 from rfl), w64 (x := yW a x + 1 + 1 + 1 + 1 + 1) (by omega) (by omega),
      show (markW a x).f1.f4 = markInts a.f1.f4 (yW a x + 1 + 1 + 1 + 1 + 1) from rfl, heldIntS_ok _ (by omega) (by omega) (by omega) (by omega), Option.bind_some, show yW a x + 1 + 1 + 1 + 1 + 1 + (a.f1.f4.length : Int) = zW a x from rfl,
      if_neg (by omega), show (markW a x).f1.f5 = (Int.tmod (zW a x) 3 == 0) from rfl, bne_self_eq_false, if_neg (by decide), w64 (x := zW a x + 1) (by omega) (by omega), if_pos (show (markW a x).f2 = zW a x + 1 from rfl), w64 (x := zW a x + 1 + 1) (by omega) (by omega),
      show (markW a x).f3 = (Int.tmod (zW a x + 1 + 1) 3 == 0) from rfl, bne_self_eq_false, if_neg (by decide), w64 (x := zW a x + 1 + 1 + 1) (by omega) (by omega),
      show wrap64 ((pre.length : Int) + 1) = ((pre ++ [markW a x]).length : Int) from by rw [w64 (by omega) (by omega), List.length_append, List.length_singleton]; omega, ih, endW]
theorem heldWinS_ok (l : List MWn) {k : Nat} {x : Int} (h0 : 0 ≤ x) (h1 : x ≤ 10) (h2 : l.length ≤ 1048576) (h3 : Rows_ l) (hk : 2097180 < k) : laws_heldWinS.f k (markWs l x) x = some (endW l x) := heldWinS_l0 l [] k x h0 (by omega) (by simpa using (by omega : l.length ≤ 1000000000)) h3 (by omega)
end Go.Proofs.YtkgmoajdcibafaaDoor.Lem

/- Marks that are written into what is told, and told again; and equality. No conditions. -/
namespace Go.Proofs.YtkgmoajdcibafaaDoor.Lem
open Go Go.RowKit Go.Proofs.YtkgmoajdcibafaaDoor.P Go.Proofs.YtkgmoajdcibafaaDoorW.PrintWords Go.Proofs.YtkgmoajdcibafaaDoorW.PrintLast Go.Proofs.YtkgmoajdcibafaaDoorW.PrintMore
abbrev MTd := S96
def yD (w : MTd) (x : Int) : Int := x + 1 + 2 * (w.f0.f1.length : Int)
def zD (w : MTd) (x : Int) : Int := yD w x + 1 + 1 + 1 + 1 + 1 + 1 + (w.f2.f4.length : Int)
def markDY (w : MTd) (x y z : Int) : MTd := ⟨⟨markT x, markTags w.f0.f1 (x + 1), y⟩, y + 1, ⟨y + 1 + 1, y + 1 + 1 + 1, y + 1 + 1 + 1 + 1, y + 1 + 1 + 1 + 1 + 1, markInts w.f2.f4 (y + 1 + 1 + 1 + 1 + 1 + 1), Int.tmod z 3 == 0⟩⟩
def markD (w : MTd) (x : Int) : MTd := markDY w x (yD w x) (zD w x)
def markDs : List MTd → Int → List MTd
  | [], _ => []
  | w :: r, x => markD w x :: markDs r (zD w x + 1)
def endD : List MTd → Int → Int
  | [], x => x
  | w :: r, x => endD r (zD w x + 1)
theorem zD_eq (w : MTd) (x : Int) : zD w x = x + 7 + 2 * (w.f0.f1.length : Int) + (w.f2.f4.length : Int) := by unfold zD yD; omega
def RowsD (l : List MTd) : Prop := ∀ w ∈ l, w.f0.f1.length ≤ 1048576 ∧ w.f2.f4.length ≤ 1048576
theorem endD_le : ∀ (l : List MTd) (x : Int), RowsD l → x ≤ endD l x ∧ endD l x ≤ x + 4194304 * (l.length : Int)
  | [], x, _ => by simp [endD]
  | w :: r, x, h => by
    have ih := endD_le r (zD w x + 1) (fun v hv => h v (List.mem_cons_of_mem _ hv))
    have hw := h w List.mem_cons_self
    rw [endD, List.length_cons]
    rw [zD_eq] at ih ⊢
    omega
theorem rdD_mid (pre : List MTd) (a : MTd) (rest : List MTd) : rd_T96 (pre ++ a :: rest) (pre.length : Int) = a := getD_mid _ _ _ _ rfl
theorem markToldS_l0 : ∀ (rest pre : List MTd) (k : Nat) (x : Int), 0 ≤ x → x + 4194304 * (rest.length : Int) < 1000000000000000000 → pre.length + rest.length ≤ 1000000000 → RowsD rest → rest.length + 1048600 < k →
    laws_markToldS.l0 k (pre ++ rest) x (pre.length : Int) = some (endD rest x, pre ++ markDs rest x)
  | [], pre, k, x, h0, h1, h2, h3, hk => by
    obtain ⟨k, rfl⟩ : ∃ q, k = q + 1 := ⟨k - 1, by omega⟩
    rw [laws_markToldS.l0, if_neg (by rw [List.append_nil]; omega), List.append_nil, markDs, List.append_nil]
    rfl
  | a :: rest, pre, k, x, h0, h1, h2, h3, hk => by
    obtain ⟨k, rfl⟩ : ∃ q, k = q + 1 := ⟨k - 1, by omega⟩
    rw [List.length_cons] at h1 h2 hk
    obtain ⟨t1, t2⟩ := h3 a List.mem_cons_self
    have hz := zD_eq a x
    have hy : yD a x = x + 1 + 2 * (a.f0.f1.length : Int) := rfl
    have ih := markToldS_l0 rest (pre ++ [markD a x]) k (zD a x + 1) (by omega) (by omega) (by rw [List.length_append, List.length_singleton]; omega) (fun v hv => h3 v (List.mem_cons_of_mem _ hv)) (by omega)
    rw [List.append_assoc, List.singleton_append] at ih
    rw [laws_markToldS.l0, if_pos (by rw [List.length_append, List.length_cons]; omega), if_pos (by omega), markText_ok h0 (by omega) (by omega), Option.bind_some, rdD_mid,
      w64 (x := x + 1) (by omega) (by omega), markTagS_ok _ (by omega) (by omega) (by omega) (by omega), Option.bind_some]
    dsimp only
    rw [show x + 1 + 2 * (a.f0.f1.length : Int) = yD a x from rfl, w64 (x := yD a x + 1) (by omega) (by omega), w64 (x := yD a x + 1 + 1) (by omega) (by omega), w64 (x := yD a x + 1 + 1 + 1) (by omega) (by omega), w64 (x := yD a x + 1 + 1 + 1 + 1) (by omega) (by omega), w64 (x := yD a x + 1 + 1 + 1 + 1 + 1) (by omega) (by omega), w64 (x := yD a x + 1 + 1 + 1 + 1 + 1 + 1) (by omega) (by omega),
      markIntS_ok _ (by omega) (by omega) (by omega) (by omega), Option.bind_some]
    dsimp only
    rw [show yD a x + 1 + 1 + 1 + 1 + 1 + 1 + (a.f2.f4.length : Int) = zD a x from rfl, w64 (x := zD a x + 1) (by omega) (by omega), Int.toNat_natCast, set_mid _ _ _ _ rfl,
      show wrap64 ((pre.length : Int) + 1) = ((pre ++ [markD a x]).length : Int) from by rw [w64 (by omega) (by omega), List.length_append, List.length_singleton]; omega]
    rw [endD, markDs]
    refine Eq.trans ?_ (ih.trans ?_)
    · rfl
    · rw [List.append_assoc, List.singleton_append]
theorem markToldS_ok (l : List MTd) {k : Nat} {x : Int} (h0 : 0 ≤ x) (h1 : x ≤ 100000000000000) (h2 : l.length ≤ 1048576) (h3 : RowsD l) (hk : 2097180 < k) : laws_markToldS.f k l x = some (endD l x, markDs l x) := markToldS_l0 l [] k x h0 (by omega) (by simpa using (by omega : l.length ≤ 1000000000)) h3 (by omega)
theorem heldToldS_l0 : ∀ (rest pre : List MTd) (k : Nat) (x : Int), 0 ≤ x → x + 4194304 * (rest.length : Int) < 1000000000000000000 → pre.length + rest.length ≤ 1000000000 → RowsD rest → rest.length + 1048600 < k →
    laws_heldToldS.l0 k (pre ++ markDs rest x) x (pre.length : Int) = some (endD rest x)
  | [], pre, k, x, h0, h1, h2, h3, hk => by
    obtain ⟨k, rfl⟩ : ∃ q, k = q + 1 := ⟨k - 1, by omega⟩
    rw [laws_heldToldS.l0, markDs, List.append_nil, if_neg (by omega)]
    rfl
  | a :: rest, pre, k, x, h0, h1, h2, h3, hk => by
    obtain ⟨k, rfl⟩ : ∃ q, k = q + 1 := ⟨k - 1, by omega⟩
    rw [List.length_cons] at h1 h2 hk
    obtain ⟨t1, t2⟩ := h3 a List.mem_cons_self
    have hz := zD_eq a x
    have hy : yD a x = x + 1 + 2 * (a.f0.f1.length : Int) := rfl
    have ih := heldToldS_l0 rest (pre ++ [markD a x]) k (zD a x + 1) (by omega) (by omega) (by rw [List.length_append, List.length_singleton]; omega) (fun v hv => h3 v (List.mem_cons_of_mem _ hv)) (by omega)
    rw [List.append_assoc, List.singleton_append] at ih
    rw [laws_heldToldS.l0, markDs, if_pos (by rw [List.length_append, List.length_cons]; omega), if_pos (by omega), markText_ok h0 (by omega) (by omega), Option.bind_some, rdD_mid, if_pos (show (markD a x).f0.f0.toList = (markT x).toList from rfl),
      w64 (x := x + 1) (by omega) (by omega), show (markD a x).f0.f1 = markTags a.f0.f1 (x + 1) from rfl, heldTagS_ok _ (by omega) (by omega) (by omega) (by omega), Option.bind_some, show x + 1 + 2 * (a.f0.f1.length : Int) = yD a x from rfl,
      if_neg (by omega), if_pos (show (markD a x).f0.f2 = yD a x from rfl), w64 (x := yD a x + 1) (by omega) (by omega), if_pos (show (markD a x).f1 = yD a x + 1 from rfl), w64 (x := yD a x + 1 + 1) (by omega) (by omega), if_pos (show (markD a x).f2.f0 = yD a x + 1 + 1 from rfl),
      w64 (x := yD a x + 1 + 1 + 1) (by omega) (by omega), if_pos (show (markD a x).f2.f1 = yD a x + 1 + 1 + 1 from rfl), w64 (x := yD a x + 1 + 1 + 1 + 1) (by omega) (by omega), if_pos (show (markD a x).f2.f2 = yD a x + 1 + 1 + 1 + 1 from rfl), w64 (x := yD a x + 1 + 1 + 1 + 1 + 1) (by omega) (by omega), if_pos (show (markD a x).f2.f3 = yD a x + 1 + 1 + 1 + 1 + 1 from rfl), w64 (x := yD a x + 1 + 1 + 1 + 1 + 1 + 1) (by omega) (by omega),
      show (markD a x).f2.f4 = markInts a.f2.f4 (yD a x + 1 + 1 + 1 + 1 + 1 + 1) from rfl, heldIntS_ok _ (by omega) (by omega) (by omega) (by omega), Option.bind_some, show yD a x + 1 + 1 + 1 + 1 + 1 + 1 + (a.f2.f4.length : Int) = zD a x from rfl,
      if_neg (by omega), show (markD a x).f2.f5 = (Int.tmod (zD a x) 3 == 0) from rfl, bne_self_eq_false, if_neg (by decide), w64 (x := zD a x + 1) (by omega) (by omega),
      show wrap64 ((pre.length : Int) + 1) = ((pre ++ [markD a x]).length : Int) from by rw [w64 (by omega) (by omega), List.length_append, List.length_singleton]; omega, ih, endD]
theorem heldToldS_ok (l : List MTd) {k : Nat} {x : Int} (h0 : 0 ≤ x) (h1 : x ≤ 100000000000000) (h2 : l.length ≤ 1048576) (h3 : RowsD l) (hk : 2097180 < k) : laws_heldToldS.f k (markDs l x) x = some (endD l x) := heldToldS_l0 l [] k x h0 (by omega) (by simpa using (by omega : l.length ≤ 1000000000)) h3 (by omega)
theorem eqToldS_l0 (l : List MTd) (hl : l.length ≤ 1048576) (hh : RowsD l) : ∀ (d i k : Nat), i + d = l.length → d + 1048580 < k → laws_eqToldS.l0 k l l (i : Int) = some true := by
  intro d
  induction d with
  | zero =>
    intro i k hi hk
    obtain ⟨k, rfl⟩ : ∃ q, k = q + 1 := ⟨k - 1, by omega⟩
    rw [laws_eqToldS.l0, if_neg (by omega)]
  | succ d ih =>
    intro i k hi hk
    obtain ⟨k, rfl⟩ : ∃ q, k = q + 1 := ⟨k - 1, by omega⟩
    have hlt : i < l.length := by omega
    have e : rd_T96 l (i : Int) = l[i] := by
      unfold rd_T96
      rw [Int.toNat_natCast, List.getD_eq_getElem?_getD, List.getElem?_eq_getElem hlt]
      rfl
    have h2 := hh l[i] (List.getElem_mem hlt)
    rw [laws_eqToldS.l0, if_pos (by omega), if_pos (by omega), if_pos (by omega), e]
    unfold laws_eqTold.f
    rw [eqKey_ok _ h2.1 _ (by omega), Option.bind_some, if_pos rfl, if_pos rfl, eqAgg_ok l[i].f2.f0 l[i].f2.f1 l[i].f2.f2 l[i].f2.f3 h2.2 l[i].f2.f5 (by omega), Option.bind_some, if_pos rfl, Option.bind_some, if_pos rfl, w64 (by omega) (by omega)]
    exact ih (i + 1) k (by omega) (by omega)
theorem eqToldS_ok {l : List MTd} (hl : l.length ≤ 1048576) (hh : RowsD l) {k : Nat} (hk : 2097160 < k) : laws_eqToldS.f k l l = some true := by
  unfold laws_eqToldS.f
  rw [if_pos rfl]
  exact eqToldS_l0 l hl hh l.length 0 k (by omega) (by omega)
end Go.Proofs.YtkgmoajdcibafaaDoor.Lem

/- TellDirty: the program and the reference tell the same. No conditions. -/
namespace Go.Proofs.YtkgmoajdcibafaaDoor.Lem
open Go Go.RowKit Go.Proofs.YtkgmoajdcibafaaDoor.P Go.Proofs.YtkgmoajdcibafaaDoorW.PrintWords Go.Proofs.YtkgmoajdcibafaaDoorW.PrintLast Go.Proofs.YtkgmoajdcibafaaDoorW.PrintMore
theorem bad1_ok (x : Wn) : impl_TellDirty_1.f x.f0.f0 x.f0.f1 x.f0.f2 x.f1.f0 x.f1.f1 x.f1.f2 x.f1.f3 x.f1.f4 x.f1.f5 x.f2 x.f3 = some (badW x) := by
  unfold impl_TellDirty_1.f badW
  cases x.f3 with
  | true => rw [if_pos rfl, Bool.true_and]
  | false => rw [if_neg (by decide), Bool.false_and]
theorem contains_l0 {l : List Wn} (hl : l.length ≤ 1048576) : ∀ (d i k : Nat), i + d = l.length → d < k → ∃ t, impl_Win_with_impl_TellDirty_1_10109081.l0 k l (l.length : Int) (i : Int) = some t ∧ decide (t ≥ 0) = (l.drop i).any badW := by
  intro d
  induction d with
  | zero =>
    intro i k hi hk
    obtain ⟨k, rfl⟩ : ∃ q, k = q + 1 := ⟨k - 1, by omega⟩
    refine ⟨-1, by rw [impl_Win_with_impl_TellDirty_1_10109081.l0, if_neg (by omega)], ?_⟩
    rw [List.drop_of_length_le (by omega)]
    rfl
  | succ d ih =>
    intro i k hi hk
    obtain ⟨k, rfl⟩ : ∃ q, k = q + 1 := ⟨k - 1, by omega⟩
    have hlt : i < l.length := by omega
    rw [impl_Win_with_impl_TellDirty_1_10109081.l0, if_pos (by omega), if_pos (by omega), if_pos (by omega), rdW_get hlt, bad1_ok, Option.bind_some, show wrap64 ((i : Int) + 1) = ((i + 1 : Nat) : Int) by rw [w64 (by omega) (by omega)]; omega, List.drop_eq_getElem_cons hlt, List.any_cons]
    cases e : badW l[i] with
    | true => exact ⟨i, by rw [if_pos rfl], by rw [Bool.true_or]; exact decide_eq_true (by omega)⟩
    | false =>
      rw [if_neg (by decide), Bool.false_or]
      exact ih (i + 1) k (by omega) (by omega)
theorem contains_ok {l : List Wn} (hl : l.length ≤ 1048576) {k : Nat} (hk : 1048577 < k) : impl_Win_with_impl_TellDirty_1_10080081.f k l = some (l.any badW) := by
  obtain ⟨t, h1, h2⟩ := contains_l0 hl l.length 0 k (by omega) (by omega)
  rw [List.drop_zero] at h2
  unfold impl_Win_with_impl_TellDirty_1_10080081.f impl_Win_with_impl_TellDirty_1_10109081.f
  rw [show ((0 : Nat) : Int) = 0 from rfl] at h1
  rw [h1, Option.bind_some, h2]
theorem shortsT_ok {l : List Wn} (hh : ∀ w ∈ l, w.f0.f1.length ≤ 1048576 ∧ w.f1.f4.length ≤ 1048576) : shortsT l = true := by
  unfold shortsT
  rw [List.all_eq_true]
  intro w hw
  rw [decide_eq_true (hh w hw).1, decide_eq_true (hh w hw).2]
  rfl
/-- What both answer, of a good board. -/
def tellR (a b c : Int) (l : List Wn) : Int × Int × Int × List Wn × List S96 × Int := if l.any badW = true then (a, b, c, l, [], 1) else (a, b, c, l.map cleanW, toldWs l, 0)
theorem tell_good (a b c : Int) {l : List Wn} (hl : l.length ≤ 1048576) (hh : ∀ w ∈ l, w.f0.f1.length ≤ 1048576 ∧ w.f1.f4.length ≤ 1048576) {k : Nat} (hk : 2097160 < k) :
    ∃ g, spec_GoodBoard.f k a b c l = some g ∧ spec_TellDirty.f k a b c l = some (if g = true then tellR a b c l else (0, 0, 0, [], [], 1)) ∧ impl_TellDirty.f k a b c l = some (if g = true then tellR a b c l else (0, 0, 0, [], [], 1)) := by
  obtain ⟨g, hg1, hg2⟩ := board_both a b c l (k := k) (by omega)
  refine ⟨g, hg1, ?_, ?_⟩
  · unfold spec_TellDirty.f tellR
    rw [hg1, Option.bind_some]
    by_cases hg : g = true
    · rw [if_pos hg, if_pos hg, own_ok a b c hl hh (by omega), Option.bind_some]
      dsimp only
      rw [if_pos ⟨shortsT_ok hh, by omega⟩]
      by_cases ha : l.any badW = true
      · rw [if_pos ha, if_pos ha]
      · rw [if_neg ha, if_neg ha]
    · rw [if_neg hg, if_neg hg]
  · unfold impl_TellDirty.f tellR
    rw [hg2, Option.bind_some]
    by_cases hg : g = true
    · rw [if_pos hg, if_pos hg, cloned_ok a b c hl hh (by omega), Option.bind_some, contains_ok hl (by omega), Option.bind_some]
      dsimp only
      by_cases ha : l.any badW = true
      · rw [if_pos ha, if_pos ha]
      · rw [if_neg ha, if_neg ha, if_pos ⟨shortsT_ok hh, by omega⟩]
    · rw [if_neg hg, if_neg hg]
theorem tellR_rows {a b c : Int} {l : List Wn} (hl : l.length ≤ 1048576) (hh : ∀ w ∈ l, w.f0.f1.length ≤ 1048576 ∧ w.f1.f4.length ≤ 1048576) :
    (tellR a b c l).2.2.2.1.length ≤ 1048576 ∧ (tellR a b c l).2.2.2.2.1.length ≤ 1048576 ∧ (∀ w ∈ (tellR a b c l).2.2.2.1, w.f0.f1.length ≤ 1048576 ∧ w.f1.f4.length ≤ 1048576) ∧ ∀ w ∈ (tellR a b c l).2.2.2.2.1, w.f0.f1.length ≤ 1048576 ∧ w.f2.f4.length ≤ 1048576 := by
  unfold tellR
  by_cases ha : l.any badW = true
  · rw [if_pos ha]; exact ⟨hl, Nat.zero_le _, hh, fun w hw => absurd hw (by simp)⟩
  · rw [if_neg ha]
    have h1 := List.length_filter_le (·.f3) l
    refine ⟨by show (l.map cleanW).length ≤ _; rw [List.length_map]; exact hl, by show ((l.filter (·.f3)).map toldW).length ≤ _; rw [List.length_map]; omega, fun w hw => ?_, fun w hw => ?_⟩
    · obtain ⟨v, hv, rfl⟩ := List.mem_map.1 hw
      have h2 := hh v hv
      unfold cleanW
      split
      · exact h2
      · exact h2
    · obtain ⟨v, hv, rfl⟩ := List.mem_map.1 hw
      exact hh v (List.mem_filter.1 hv).1
theorem tell_both (a b c : Int) {l : List Wn} (hl : l.length ≤ 1048576) (hh : ∀ w ∈ l, w.f0.f1.length ≤ 1048576 ∧ w.f1.f4.length ≤ 1048576) {k : Nat} (hk : 2097160 < k) :
    ∃ a' b' c' l' g e, spec_TellDirty.f k a b c l = some (a', b', c', l', g, e) ∧ impl_TellDirty.f k a b c l = some (a', b', c', l', g, e) ∧ l'.length ≤ 1048576 ∧ g.length ≤ 1048576 ∧ (∀ w ∈ l', w.f0.f1.length ≤ 1048576 ∧ w.f1.f4.length ≤ 1048576) ∧ ∀ w ∈ g, w.f0.f1.length ≤ 1048576 ∧ w.f2.f4.length ≤ 1048576 := by
  obtain ⟨g, _, h1, h2⟩ := tell_good a b c hl hh hk
  by_cases hg : g = true
  · rw [if_pos hg] at h1 h2
    obtain ⟨r1, r2, r3, r4⟩ := tellR_rows (a := a) (b := b) (c := c) hl hh
    exact ⟨_, _, _, _, _, _, h1, h2, r1, r2, r3, r4⟩
  · rw [if_neg hg] at h1 h2
    exact ⟨_, _, _, _, _, _, h1, h2, Nat.zero_le _, Nat.zero_le _, fun w hw => absurd hw (by simp), fun w hw => absurd hw (by simp)⟩
end Go.Proofs.YtkgmoajdcibafaaDoor.Lem

/- The program's TellDirty returns what the reference's returns: what FnExactTellDirty's callees answer, at every board that Go can hold. -/
namespace Go.Proofs.YtkgmoajdcibafaaDoor.Pure
open Go Go.RowKit Go.Proofs.YtkgmoajdcibafaaDoor.P Go.Proofs.YtkgmoajdcibafaaDoorW.PrintWords Go.Proofs.YtkgmoajdcibafaaDoorW.PrintLast Go.Proofs.YtkgmoajdcibafaaDoorW.PrintMore Go.Proofs.YtkgmoajdcibafaaDoor.Lem

theorem FnExactTellDirty (a b c : Int) (l : List Lw) (hg : (Lit.int .i64 a).wf = true ∧ (Lit.int .i64 b).wf = true ∧ (Lit.int .i64 c).wf = true ∧ l.length ≤ maxLen ∧ ∀ w ∈ l, GWin w) : ∃ k, laws_FnExactTellDirty.Ok k a b c l := by
  have hl : l.length ≤ 9223372036854775807 := maxLen_le hg.2.2.2.1
  have hh : ∀ w ∈ l, HeldW w := fun w hw => heldW (hg.2.2.2.2 w hw)
  refine ⟨3000000, ?_⟩
  unfold laws_FnExactTellDirty.Ok
  obtain ⟨r, hr, hr2⟩ := szBoard_ok a b c hl hh (k := 3000000) (by decide)
  refine ⟨r, hr, ?_⟩
  rcases hr2 with hn | ⟨hn, hl', hs⟩
  · exact Or.inl hn
  refine Or.inr ⟨hn, ?_⟩
  have hlm : (l.map cvW).length ≤ 1048576 := by rw [List.length_map]; exact hl'
  have hsm : ∀ w ∈ l.map cvW, w.f0.f1.length ≤ 1048576 ∧ w.f1.f4.length ≤ 1048576 := by
    intro w hw
    obtain ⟨v, hv, rfl⟩ := List.mem_map.1 hw
    obtain ⟨q1, q2⟩ := hs v hv
    exact ⟨by show (v.f0.f1.map cvT).length ≤ _; rw [List.length_map]; exact q1, q2⟩
  obtain ⟨a', b', c', l2, g, e, h1, h2, hl2, hlg, hs2, hsg⟩ := tell_both a b c hlm hsm (k := 3000000) (by decide)
  have e1 := endW_le (l.map cvW) 1 hsm
  have e2 := endW_le l2 1 hs2
  have e3 := endD_le g (endW l2 1) hsg
  refine ⟨a, b, c, l.map cvW, a', b', c', l2, g, e, _, _, _, _, endD g (endW l2 1), markDs g (endW l2 1), toBoard_ok a b c hl' hs (k := 3000000) (by decide), h1, h2, eqBoard_ok _ _ _ hl2 hs2 (by decide), eqToldS_ok hlg hsg (by decide), eqBoard_ok _ _ _ hlm hsm (by decide), markWinS_ok _ (by decide) (by decide) hlm hsm (by decide), markWinS_ok _ (by decide) (by decide) hl2 hs2 (by decide), markToldS_ok g (by omega) (by omega) hlg hsg (by decide), ?_, heldToldS_ok g (by omega) (by omega) hlg hsg (by decide), by omega, by omega, by omega⟩
  unfold laws_heldBoard.f
  rw [heldWinS_ok _ (by decide) (by decide) hl2 hs2 (by decide), Option.bind_some, if_neg (by omega)]
end Go.Proofs.YtkgmoajdcibafaaDoor.Pure

/- The row of laws.FnExactTellDirty: its arguments opened, the walk, and the tied card. -/
namespace Go.Proofs.YtkgmoajdcibafaaDoor.fnExactTellDirty
open Go Go.ChangeShapes Go.WideShapes Go.ChangeAt Go.RowKit Go.Proofs.YtkgmoajdcibafaaDoor.P Go.Proofs.YtkgmoajdcibafaaDoorW.PrintWords Go.Proofs.YtkgmoajdcibafaaDoorW.PrintLast Go.Proofs.YtkgmoajdcibafaaDoorW.PrintMore Go.Proofs.YtkgmoajdcibafaaDoor.Lem
set_option linter.unusedVariables false
theorem own : ownKnob Tryd.prog.godebug = none := by kernel_rfl
theorem laidOut : laidOutB Tryd.prog = true := by kernel_rfl
noncomputable def laidWorld (os : Os) : World := World.laidAll Tryd.prog os Rows.fnExactTellDirtyRow.laid
theorem laidWorld_met (os : Os) (args : Array Value) : laidMetH Tryd.prog Rows.fnExactTellDirtyRow.laid ((laidWorld os).forCall (fun _ _ => 0) ⟨#[], args, []⟩).memory := by
  rw [Go.MakeChecks.laidMetH_plain _ _ _ (by kernel_rfl)]
  exact laidMet_laidAll args (by kernel_rfl) (by kernel_rfl)

set_option maxRecDepth 100000 in
theorem lifted (os : Os) (started : os.Started) (H : Type) (enc : TypeId × Value → H) :
    ReturnsInHanded {} Tryd.checked os 7 .any (fun w args => (Rows.fnExactTellDirtySpec.pre enc Tryd.prog Tryd.f7 [] false w args ∧ laidMetH Tryd.prog Rows.fnExactTellDirtyRow.laid w) ∧ sizedMet enc Tryd.prog Tryd.f7 (OpenSpec.ofChange Rows.fnExactTellDirtySpec) false w args)
      (Rows.fnExactTellDirtySpec.post enc Tryd.prog Tryd.f7 false true false false) := by
  refine returnsInHanded_of_change_and (C := Tryd.checked) (X := fun w _ => laidMetH Tryd.prog Rows.fnExactTellDirtyRow.laid w) (fun _ _ _ hh h => h.of_heap hh) own started (by kernel_rfl) Tryd.func7
    (ChangeSpec.witness_at (enc := enc) (C := Tryd.checked) (os := os) (X := fun w _ => laidMetH Tryd.prog Rows.fnExactTellDirtyRow.laid w) false (laidWorld os) #[.agg #[.int .i64 0, .int .i64 0, .int .i64 0, .slice none 0 0]] 8 rfl (by kernel_rfl) (by kernel_rfl) (by kernel_rfl) (by kernel_rfl) (by kernel_rfl) (laidWorld_met os _)) ?_
  intro W base args ds gs before hval0 hW _ _ hL _
  have hval : ∀ (j : Nat) t v, Tryd.f7.params[j]? = some t → args[j]? = some v → Value.okWide Tryd.prog W .any base t v := hval0
  have hW' := hW
  obtain ⟨p, q, hA0, hV, rfl, hfz, hnd⟩ := hW
  have hA : DataW.TrodAll enc Tryd.prog W 0 (fun _ => true) true Tryd.f7.params.toList args.toList ds p := hA0
  rw [Tryd.params7] at hA hval
  obtain ⟨v0, vs0, d0, ds0, p0, q0, hargs, rfl, rfl, h0, r0⟩ := trodAll_cons hA
  obtain ⟨rfl, rfl, rfl⟩ := trodAll_nil r0
  obtain rfl : args = #[v0] := by cases args; simp_all
  obtain ⟨rfl, rfl⟩ := trodVars_none hV
  have k0 := h0
  have lt0 : ∀ x ∈ p0, x.block < W.heap.size := by obtain ⟨m, hm⟩ := k0; exact DataW.trod_lt m _ _ _ hm
  have hO0 : Opens enc Tryd.prog W 0 (fun _ => true) true (Kd.pair (Kd.int .i64) (Kd.pair (Kd.int .i64) (Kd.pair (Kd.int .i64) (Kd.slice 116 k116)))) 24 _ := (opens_struct Tryd.underlying24 (by kernel_rfl) (opensF_cons (by kernel_rfl) (opens_int Tryd.underlying3) (opensF_cons (by kernel_rfl) (opens_int Tryd.underlying3) (opensF_cons (by kernel_rfl) (opens_int Tryd.underlying3) (opensF_one (by kernel_rfl) (opens_slice 116 Tryd.underlying22 (opens_iso (fun x : S116 => (x.f0, x.f1, x.f2, x.f3)) (fun a => ⟨a.1, a.2.1, a.2.2.1, a.2.2.2⟩) (fun _ => rfl) (opens_struct Tryd.underlying116 (by kernel_rfl) (opensF_cons (by kernel_rfl) (opens_iso (fun x : S27 => (x.f0, x.f1, x.f2)) (fun a => ⟨a.1, a.2.1, a.2.2⟩) (fun _ => rfl) (opens_struct Tryd.underlying27 (by kernel_rfl) (opensF_cons (by kernel_rfl) (opens_string Tryd.underlying9) (opensF_cons (by kernel_rfl) (opens_slice 119 Tryd.underlying25 (opens_iso (fun x : S119 => (x.f0, x.f1)) (fun a => ⟨a.1, a.2⟩) (fun _ => rfl) (opens_struct Tryd.underlying119 (by kernel_rfl) (opensF_cons (by kernel_rfl) (opens_string Tryd.underlying9) (opensF_one (by kernel_rfl) (opens_string Tryd.underlying9))))) (by kernel_rfl)) (opensF_one (by kernel_rfl) (opens_int Tryd.underlying3)))))) (opensF_cons (by kernel_rfl) (opens_iso (fun x : S92 => (x.f0, x.f1, x.f2, x.f3, x.f4, x.f5)) (fun a => ⟨a.1, a.2.1, a.2.2.1, a.2.2.2.1, a.2.2.2.2.1, a.2.2.2.2.2⟩) (fun _ => rfl) (opens_struct Tryd.underlying92 (by kernel_rfl) (opensF_cons (by kernel_rfl) (opens_int Tryd.underlying3) (opensF_cons (by kernel_rfl) (opens_int Tryd.underlying3) (opensF_cons (by kernel_rfl) (opens_int Tryd.underlying3) (opensF_cons (by kernel_rfl) (opens_int Tryd.underlying3) (opensF_cons (by kernel_rfl) (opens_slice 3 Tryd.underlying33 (opens_int Tryd.underlying3) (by kernel_rfl)) (opensF_one (by kernel_rfl) (opens_bool Tryd.underlying4))))))))) (opensF_cons (by kernel_rfl) (opens_int Tryd.underlying3) (opensF_one (by kernel_rfl) (opens_bool Tryd.underlying4))))))) (by kernel_rfl)))))))
  obtain ⟨cs0, rfl, hsz0⟩ := okWide_struct Tryd.underlying24 (hval 0 24 v0 rfl rfl)
  obtain ⟨⟨a0_0, a0_1, a0_2, l0_3⟩, ⟨_, _, e0, rfl, ⟨_, _, rfl, rfl, ⟨_, _, rfl, rfl, ⟨A0_3, c0_3, rfl, hc0_3, hC0_3⟩⟩⟩⟩, hg0⟩ := hO0 _ _ _ h0.choose_spec
  obtain rfl : cs0 = #[.int .i64 a0_0, .int .i64 a0_1, .int .i64 a0_2, .slice A0_3 l0_3.length c0_3] := by
    have e1 : (Value.agg cs0).cells.toList = [.int .i64 a0_0, .int .i64 a0_1, .int .i64 a0_2, .slice A0_3 l0_3.length c0_3] := e0
    cases cs0
    simpa [Value.cells] using e1
  clear hA0 hval0
  obtain ⟨k, hk⟩ := Pure.FnExactTellDirty a0_0 a0_1 a0_2 l0_3 hg0
  refine (laws_FnExactTellDirty.calls (k := k) (a0_0 := a0_0) (a0_1 := a0_1) (a0_2 := a0_2) (l0_3 := l0_3) (A0_3 := A0_3) (c0_3 := c0_3) (hr0_3 := hC0_3) (hc0_3 := hc0_3) (w := W) (h := hk)).mono fun e W' ⟨he, bel⟩ => ?_
  subst he
  exact ⟨_, rfl, _, _, _, [], _, [], hW', trodAll_mk1 (shut_bool Tryd.underlying4 _), (trodAll_cons_mk (Below.trod laidOut (by kernel_rfl) (of_decide_eq_true (by kernel_rfl)) k0 bel lt0) trodAll_mk0), rfl, bel.frame _, fun h => by cases h⟩

theorem said : Rows.FnExactTellDirtySaid :=
  OpenClaim.holds_of_wide 7 Tryd.f7 rfl rfl rfl rfl rfl rfl rfl ⟨rfl, rfl, rfl, rfl, rfl⟩ rfl rfl rfl rfl rfl (by kernel_rfl) Tryd.func7 (by kernel_rfl)
    (of_decide_eq_true (by kernel_rfl)) (by unfold Func.isWrapper; first | (rw [if_pos (by decide +kernel)]; kernel_rfl) | (rw [if_neg (of_decide_eq_false (by kernel_rfl))]; exact ⟨rfl, rfl⟩))
    (fun os started H enc _ => lifted os started H enc)
theorem proved : Rows.FnExactTellDirtyCardSaid :=
  Claim7.holds_tied_plain_at .later [] [.data, .pinned] true (true, "dbe4185d9b14acd1f21281ce2ffaf2428158838d079ea547a5009293e05bd213") false
    said (fun _ h => by cases h) (by kernel_rfl) (fun _ h => by cases h) fnExactTellDirty_row_tie rfl ⟨rfl, rfl⟩ (by kernel_rfl) rfl
    (fun f fn hf hfn => by
      obtain rfl : f = 7 := Option.some.inj ((show Tryd.prog.funcNamed "loop.example/g00150/laws.FnExactTellDirty" = some 7 by kernel_rfl).symm.trans hf) |>.symm
      obtain rfl : fn = Tryd.f7 := (Option.some.inj (Tryd.func7.symm.trans hfn)).symm
      exact ⟨by kernel_rfl, fun j t ht => by
        rw [Tryd.params7] at ht
        have h3 : t = 24 := by
          rcases j with _ | j
          · exact ((by simpa using ht.symm))
          · simp at ht
        obtain rfl := h3
        · exact (show Tryd.prog.wantsStandIn 24 = false by kernel_rfl)⟩)
    (by kernel_rfl)
#print axioms proved
end Go.Proofs.YtkgmoajdcibafaaDoor.fnExactTellDirty
namespace Go.Proofs.YtkgmoajdcibafaaDoor
/-- The tied card, under a short name, for the claim. -/
theorem fnExactTellDirty_holds : Rows.FnExactTellDirtyCardSaid := fnExactTellDirty.proved
end Go.Proofs.YtkgmoajdcibafaaDoor
