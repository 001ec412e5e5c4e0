/- The statement's own text and the last of the walks that it uses. -/
import Derived.Deep.RegionHeld3
import Derived.Laws.BitsAllLaws
import Derived.Lib.SlTrimSet
import Derived.ChangeArms
import Derived.ChangeSlices
import Derived.DataReads
import Derived.Test.YtkgmoajdcibafaaDoorRows
import Derived.Test.YtkgmoajdcibafaaDoorTie
import Derived.Test.YtkgmoajdcibafaaDoorCards
import Derived.WalkKit
import Derived.ProofKit
import Derived.OpenShut
import Derived.ChangeOld
import Derived.Below
import Derived.Handed
import Derived.Lay
import Derived.MakeChecks
import Derived.LaidHandle
import Derived.Lib.LaidTab
import Derived.Stop.LaidErr
import Derived.JoinedOf
import Derived.SevenTiedAt
import Derived.RowKit
import Derived.Test.YtkgmoajdcibafaaDoorMLT4

/- laws.FnExactLastTold: its walk, over what its callees answer. No conditions of its own. -/
namespace Go.Proofs.YtkgmoajdcibafaaDoor.P
open Go.RowKit Go.Proofs.YtkgmoajdcibafaaDoorW.PrintWords Go.Proofs.YtkgmoajdcibafaaDoorW.PrintLast Go.Proofs.YtkgmoajdcibafaaDoorW.PrintMore
set_option linter.unusedVariables false
set_option linter.unusedSimpArgs false
/-- What the callees answer. -/
def laws_FnExactLastTold.Ok (k : Nat) (l0 : List S94) : Prop := ∃ q1 : Int, laws_szToldS.f k l0 1048576 = some q1 ∧ (q1 < 0 ∨ (0 ≤ q1 ∧ ∃ (q2 : List (S96)) (q3 : List (S96)) (q4 : Bool) (q5 : Int) (q6 : List S96) (q7 : Int) (q8 : List S96), laws_toToldS.f k l0 = some q2 ∧ spec_LastTold.f k q2 = some (q3, q4) ∧ impl_LastTold.f k q2 = some (q3, q4) ∧ laws_eqToldS.f k q3 q3 = some true ∧ laws_eqToldS.f k q2 q2 = some true ∧ laws_markToldS.f k q2 1 = some (q5, q6) ∧ laws_markToldS.f k q3 1 = some (q7, q8) ∧ laws_heldToldS.f k q8 1 = some q7 ∧ 0 ≤ q5 ∧ 0 ≤ q7))
set_option maxHeartbeats 8000000 in
set_option maxRecDepth 100000 in
theorem laws_FnExactLastTold.calls (k : Nat) (A0 : Option Addr) (c0 : Nat) (l0 : List S94) (w : World) (hr0 : Kd.C k94 w A0 l0.length l0) (hc0 : l0.length ≤ c0) (h : laws_FnExactLastTold.Ok k l0) :
 Calls Tryd.prog 5 #[.slice A0 l0.length c0] w fun e w' => e = .returned (.bool true) ∧ Below w.heap.size w w' := by
 unfold laws_FnExactLastTold.Ok at h
 have HB := aM (Below.refl w.heap.size w)
 have HR0 := aM hr0
 have HC0 := aM hc0
 clear hr0 hc0
 obtain ⟨q1, e0_, h⟩ := h
 have HE1 := aM e0_
 clear e0_
 rcases h with h | ⟨h0, h⟩
 · have c0_ : decide (q1 < 0) = true := decide_eq_true h
   clear h
   go_enter Tryd.func5, Tryd.ntmps5
   go_wp2_with (first | ((with_reducible refine gate_callee (f := 24) rfl ?_); refine goesL_ (some 16) rfl rfl Tryd.func24 (by kernel_rfl) rfl #[.slice A0 l0.length c0, .int .i64 1048576] rfl zee81 ?_; (with_reducible refine (laws_szToldS.calls k _ _ l0 1048576 q1 _ ?s1 ?s2 HE1.out).mono ?_); (case s1 => exact Kd.C_below HR0.out HB.out); (case s2 => exact HC0.out); rintro e wv1 ⟨he_, hb⟩; subst he_; refine ⟨_, rfl, ?_⟩; replace HB := aM (below_after HB.out hb); clear hb))
   go_ret
   exact ⟨rfl, HB.out⟩
 have c0_ : decide (q1 < 0) = false := decide_eq_false (by omega)
 clear h0
 obtain ⟨q2, q3, q4, q5, q6, q7, q8, e0_, e1_, e2_, e3_, e4_, e5_, e6_, e7_, f0_, f1_⟩ := h
 have HE2 := aM e0_
 have HE3 := aM e1_
 have HE4 := aM e2_
 have HE5 := aM e3_
 have HE6 := aM e4_
 have HE7 := aM e5_
 have HE8 := aM e6_
 have HE9 := aM e7_
 clear e0_ e1_ e2_ e3_ e4_ e5_ e6_ e7_
 have g0_ : decide (q5 < 0) = false := decide_eq_false (by omega)
 clear f0_
 have g1_ : decide (q7 < 0) = false := decide_eq_false (by omega)
 clear f1_
 go_enter Tryd.func5, Tryd.ntmps5
 go_wp2_with (first | ((with_reducible refine gate_callee (f := 24) rfl ?_); refine goesL_ (some 16) rfl rfl Tryd.func24 (by kernel_rfl) rfl #[.slice A0 l0.length c0, .int .i64 1048576] rfl zee81 ?_; (with_reducible refine (laws_szToldS.calls k _ _ l0 1048576 q1 _ ?s1 ?s2 HE1.out).mono ?_); (case s1 => exact Kd.C_below HR0.out HB.out); (case s2 => exact HC0.out); rintro e wv1 ⟨he_, hb⟩; subst he_; refine ⟨_, rfl, ?_⟩; replace HB := aM (below_after HB.out hb); clear hb) | ((with_reducible refine gate_callee (f := 26) rfl ?_); refine goesL_ (some 21) rfl rfl Tryd.func26 (by kernel_rfl) rfl #[.slice A0 l0.length c0] rfl zee81 ?_; (with_reducible refine (laws_toToldS.calls k _ _ l0 q2 _ ?s1 ?s2 HE2.out).mono ?_); (case s1 => exact Kd.C_below HR0.out HB.out); (case s2 => exact HC0.out); rintro e wv2 ⟨v0_, he_, ho_v0_, hb⟩; subst he_; refine ⟨_, rfl, ?_⟩; obtain ⟨lo1_, hi1_, el_, hL_, eh_⟩ := Loc.newS (Kd.S_mono ho_v0_ (fun _ _ => trivial)) HB.out; have LO1 := aM hL_; have ORLO1 := aM (show w.heap.size ≤ lo1_ from (by first | (rw [el_]; exact HB.out.size))); have OQLO1 := aM (show lo1_ ≤ hi1_ from (by rw [el_, eh_]; exact hb.size)); obtain ⟨ALO1, cLO1, ev_⟩ := Kd.S_slice ho_v0_; subst ev_; clear el_ hL_ eh_ ho_v0_; replace HB := aM (below_after HB.out hb); clear hb) | ((with_reducible refine gate_callee (f := 25) rfl ?_); refine goesL_ (some 22) rfl rfl Tryd.func25 (by kernel_rfl) rfl #[.slice ALO1 q2.length cLO1] rfl zee81 ?_; (with_reducible refine (spec_LastTold.calls k _ _ q2 q3 q4 _ ?s1 ?s2 HE3.out).mono ?_); (case s1 => exact LO1.out.readsS.2.2); (case s2 => exact LO1.out.readsS.2.1); rintro e wv3 ⟨v0_, he_, ho_v0_, hb⟩; subst he_; refine ⟨_, rfl, ?_⟩; obtain ⟨lo2_, hi2_, el_, hL_, eh_⟩ := Loc.newN0 (w := w) ho_v0_ (fun k hk => hk); have LO2 := aM hL_; have ORLO2 := aM (show hi1_ ≤ lo2_ from (by rw [el_]; exact LO1.out.size)); have OQLO2 := aM (show lo2_ ≤ hi2_ from (by rw [el_, eh_]; exact hb.size)); obtain ⟨ALO2, cLO2, ev_⟩ := Kd.V_slice (Kd.N_V (base' := 0) ho_v0_); subst ev_; clear el_ hL_ eh_ ho_v0_; replace LO1 := aM (LO1.out.below hb); replace HB := aM (below_after HB.out hb); clear hb) | ((with_reducible refine gate_callee (f := 26) rfl ?_); refine goesL_ (some 26) rfl rfl Tryd.func26 (by kernel_rfl) rfl #[.slice A0 l0.length c0] rfl zee81 ?_; (with_reducible refine (laws_toToldS.calls k _ _ l0 q2 _ ?s1 ?s2 HE2.out).mono ?_); (case s1 => exact Kd.C_below HR0.out HB.out); (case s2 => exact HC0.out); rintro e wv4 ⟨v0_, he_, ho_v0_, hb⟩; subst he_; refine ⟨_, rfl, ?_⟩; obtain ⟨lo3_, hi3_, el_, hL_, eh_⟩ := Loc.newS (Kd.S_mono ho_v0_ (fun _ _ => trivial)) HB.out; have LO3 := aM hL_; have ORLO3 := aM (show hi2_ ≤ lo3_ from (by rw [el_]; exact LO2.out.size)); have OQLO3 := aM (show lo3_ ≤ hi3_ from (by rw [el_, eh_]; exact hb.size)); obtain ⟨ALO3, cLO3, ev_⟩ := Kd.S_slice ho_v0_; subst ev_; clear el_ hL_ eh_ ho_v0_; replace LO1 := aM (LO1.out.below hb); replace LO2 := aM (LO2.out.below hb); replace HB := aM (below_after HB.out hb); clear hb) | ((with_reducible refine gate_callee (f := 27) rfl ?_); refine goesL_ (some 29) rfl rfl Tryd.func27 (by kernel_rfl) rfl #[.slice ALO3 q2.length cLO3] rfl zee81 ?_; (with_reducible refine (impl_LastTold.calls k _ _ q2 q3 q4 _ ?s1 ?s2 HE4.out).mono ?_); (case s1 => exact LO3.out.readsS.2.2); (case s2 => exact LO3.out.readsS.2.1); rintro e wv5 ⟨v0_, he_, ho_v0_, hb⟩; subst he_; refine ⟨_, rfl, ?_⟩; obtain ⟨lo4_, hi4_, el_, hL_, eh_⟩ := Loc.newS (Kd.S_mono ho_v0_ (fun _ _ => trivial)) HB.out; have LO4 := aM hL_; have ORLO4 := aM (show hi3_ ≤ lo4_ from (by rw [el_]; exact LO3.out.size)); have OQLO4 := aM (show lo4_ ≤ hi4_ from (by rw [el_, eh_]; exact hb.size)); obtain ⟨ALO4, cLO4, ev_⟩ := Kd.S_slice ho_v0_; subst ev_; clear el_ hL_ eh_ ho_v0_; replace LO1 := aM (LO1.out.below hb); replace LO2 := aM (LO2.out.below hb); replace LO3 := aM (LO3.out.below hb); replace HB := aM (below_after HB.out hb); clear hb) | ((with_reducible refine gate_callee (f := 28) rfl ?_); refine goesL_ (some 34) rfl rfl Tryd.func28 (by kernel_rfl) rfl #[.slice ALO4 q3.length cLO4, .slice ALO2 q3.length cLO2] rfl zee81 ?_; (with_reducible refine (laws_eqToldS.calls k _ _ q3 _ _ q3 true _ ?s1 ?s2 ?s3 ?s4 HE5.out).mono ?_); (case s1 => exact LO4.out.readsS.2.2); (case s2 => exact LO4.out.readsS.2.1); (case s3 => exact LO2.out.readsV.2.2); (case s4 => exact LO2.out.readsV.2.1); rintro e wv6 ⟨he_, hb⟩; subst he_; refine ⟨_, rfl, ?_⟩; replace LO1 := aM (LO1.out.below hb); replace LO2 := aM (LO2.out.below hb); replace LO3 := aM (LO3.out.below hb); replace LO4 := aM (LO4.out.below hb); replace HB := aM (below_after HB.out hb); clear hb) | ((with_reducible refine gate_callee (f := 26) rfl ?_); refine goesL_ (some 43) rfl rfl Tryd.func26 (by kernel_rfl) rfl #[.slice A0 l0.length c0] rfl zee81 ?_; (with_reducible refine (laws_toToldS.calls k _ _ l0 q2 _ ?s1 ?s2 HE2.out).mono ?_); (case s1 => exact Kd.C_below HR0.out HB.out); (case s2 => exact HC0.out); rintro e wv7 ⟨v0_, he_, ho_v0_, hb⟩; subst he_; refine ⟨_, rfl, ?_⟩; obtain ⟨lo5_, hi5_, el_, hL_, eh_⟩ := Loc.newS (Kd.S_mono ho_v0_ (fun _ _ => trivial)) HB.out; have LO5 := aM hL_; have ORLO5 := aM (show hi4_ ≤ lo5_ from (by rw [el_]; exact LO4.out.size)); have OQLO5 := aM (show lo5_ ≤ hi5_ from (by rw [el_, eh_]; exact hb.size)); obtain ⟨ALO5, cLO5, ev_⟩ := Kd.S_slice ho_v0_; subst ev_; clear el_ hL_ eh_ ho_v0_; replace LO1 := aM (LO1.out.below hb); replace LO2 := aM (LO2.out.below hb); replace LO3 := aM (LO3.out.below hb); replace LO4 := aM (LO4.out.below hb); replace HB := aM (below_after HB.out hb); clear hb) | ((with_reducible refine gate_callee (f := 28) rfl ?_); refine goesL_ (some 44) rfl rfl Tryd.func28 (by kernel_rfl) rfl #[.slice ALO3 q2.length cLO3, .slice ALO5 q2.length cLO5] rfl zee81 ?_; (with_reducible refine (laws_eqToldS.calls k _ _ q2 _ _ q2 true _ ?s1 ?s2 ?s3 ?s4 HE6.out).mono ?_); (case s1 => exact LO3.out.readsS.2.2); (case s2 => exact LO3.out.readsS.2.1); (case s3 => exact LO5.out.readsS.2.2); (case s4 => exact LO5.out.readsS.2.1); rintro e wv8 ⟨he_, hb⟩; subst he_; refine ⟨_, rfl, ?_⟩; replace LO1 := aM (LO1.out.below hb); replace LO2 := aM (LO2.out.below hb); replace LO3 := aM (LO3.out.below hb); replace LO4 := aM (LO4.out.below hb); replace LO5 := aM (LO5.out.below hb); replace HB := aM (below_after HB.out hb); clear hb) | ((with_reducible refine gate_callee (f := 29) rfl ?_); refine goesL_ (some 48) rfl rfl Tryd.func29 (by kernel_rfl) rfl #[.slice ALO3 q2.length cLO3, .int .i64 1] rfl zee81 ?_; (with_reducible refine (laws_markToldS.calls k (fun k => lo3_ ≤ k ∧ k < hi3_) (.slice ALO3 q2.length cLO3) q2 1 q5 q6 w _ ?s1 ?s2 HE7.out).mono ?_); (case s1 => exact HB.out); (case s2 => exact LO3.out.now); rintro e wv9 ⟨he_, hs, hB2, hk⟩; subst he_; refine ⟨_, rfl, ?_⟩; have hi_ := LO3.out.size; have := ORLO1.out; have := OQLO1.out; have := ORLO2.out; have := OQLO2.out; have := ORLO3.out; have := OQLO3.out; have := ORLO4.out; have := OQLO4.out; have := ORLO5.out; have := OQLO5.out; replace LO1 := aM (LO1.out.apart hk (by omega)); replace LO2 := aM (LO2.out.apart hk (by omega)); replace LO4 := aM (LO4.out.apart hk (by omega)); replace LO5 := aM (LO5.out.apart hk (by omega)); replace LO3 := aM (Loc.ofS (Nat.le_trans hi_ hk.1) hs); replace HB := aM hB2; have HN9 := aM ((LO3.out.readsS).1 : q2.length = q6.length); clear hs hB2 hk hi_) | (go_at_call 28; (with_reducible refine (laws_eqToldS.calls k _ _ q3 _ _ q3 true _ ?s1 ?s2 ?s3 ?s4 HE5.out).mono ?_); (case s1 => exact LO4.out.readsS.2.2); (case s2 => exact LO4.out.readsS.2.1); (case s3 => exact LO2.out.readsV.2.2); (case s4 => exact LO2.out.readsV.2.1); rintro e wv10 ⟨he_, hb⟩; subst he_; replace LO1 := aM (LO1.out.below hb); replace LO2 := aM (LO2.out.below hb); replace LO3 := aM (LO3.out.below hb); replace LO4 := aM (LO4.out.below hb); replace LO5 := aM (LO5.out.below hb); replace HB := aM (below_after HB.out hb); clear hb) | ((with_reducible refine gate_callee (f := 29) rfl ?_); refine goesL_ (some 64) rfl rfl Tryd.func29 (by kernel_rfl) rfl #[.slice ALO4 q3.length cLO4, .int .i64 1] rfl zee81 ?_; (with_reducible refine (laws_markToldS.calls k (fun k => lo4_ ≤ k ∧ k < hi4_) (.slice ALO4 q3.length cLO4) q3 1 q7 q8 w _ ?s1 ?s2 HE8.out).mono ?_); (case s1 => exact HB.out); (case s2 => exact LO4.out.now); rintro e wv11 ⟨he_, hs, hB2, hk⟩; subst he_; refine ⟨_, rfl, ?_⟩; have hi_ := LO4.out.size; have := ORLO1.out; have := OQLO1.out; have := ORLO2.out; have := OQLO2.out; have := ORLO3.out; have := OQLO3.out; have := ORLO4.out; have := OQLO4.out; have := ORLO5.out; have := OQLO5.out; replace LO1 := aM (LO1.out.apart hk (by omega)); replace LO2 := aM (LO2.out.apart hk (by omega)); replace LO3 := aM (LO3.out.apart hk (by omega)); replace LO5 := aM (LO5.out.apart hk (by omega)); replace LO4 := aM (Loc.ofS (Nat.le_trans hi_ hk.1) hs); replace HB := aM hB2; have HN11 := aM ((LO4.out.readsS).1 : q3.length = q8.length); clear hs hB2 hk hi_) | ((with_reducible refine gate_callee (f := 30) rfl ?_); refine goesL_ (some 67) rfl rfl Tryd.func30 (by kernel_rfl) rfl #[.slice ALO4 q3.length cLO4, .int .i64 1] rfl zee81 ?_; rw [show (#[.slice ALO4 q3.length cLO4, .int .i64 1] : Array Value) = #[.slice ALO4 q8.length cLO4, .int .i64 1] from congrArg (fun n_ : Nat => (#[.slice ALO4 n_ cLO4, .int .i64 1] : Array Value)) HN11.out]; (with_reducible refine (laws_heldToldS.calls k _ _ q8 1 q7 _ ?s1 ?s2 HE9.out).mono ?_); (case s1 => exact LO4.out.readsS.2.2); (case s2 => exact LO4.out.readsS.2.1); rintro e wv12 ⟨he_, hb⟩; subst he_; refine ⟨_, rfl, ?_⟩; replace LO1 := aM (LO1.out.below hb); replace LO2 := aM (LO2.out.below hb); replace LO3 := aM (LO3.out.below hb); replace LO4 := aM (LO4.out.below hb); replace LO5 := aM (LO5.out.below hb); replace HB := aM (below_after HB.out hb); clear hb) | ((with_reducible refine gate_callee (f := 26) rfl ?_); refine goesL_ (some 75) rfl rfl Tryd.func26 (by kernel_rfl) rfl #[.slice A0 l0.length c0] rfl zee81 ?_; (with_reducible refine (laws_toToldS.calls k _ _ l0 q2 _ ?s1 ?s2 HE2.out).mono ?_); (case s1 => exact Kd.C_below HR0.out HB.out); (case s2 => exact HC0.out); rintro e wv13 ⟨v0_, he_, ho_v0_, hb⟩; subst he_; refine ⟨_, rfl, ?_⟩; obtain ⟨lo6_, hi6_, el_, hL_, eh_⟩ := Loc.newS (Kd.S_mono ho_v0_ (fun _ _ => trivial)) HB.out; have LO6 := aM hL_; have ORLO6 := aM (show hi5_ ≤ lo6_ from (by rw [el_]; exact LO5.out.size)); have OQLO6 := aM (show lo6_ ≤ hi6_ from (by rw [el_, eh_]; exact hb.size)); obtain ⟨ALO6, cLO6, ev_⟩ := Kd.S_slice ho_v0_; subst ev_; clear el_ hL_ eh_ ho_v0_; replace LO1 := aM (LO1.out.below hb); replace LO2 := aM (LO2.out.below hb); replace LO3 := aM (LO3.out.below hb); replace LO4 := aM (LO4.out.below hb); replace LO5 := aM (LO5.out.below hb); replace HB := aM (below_after HB.out hb); clear hb) | ((with_reducible refine gate_callee (f := 27) rfl ?_); refine goesL_ (some 76) rfl rfl Tryd.func27 (by kernel_rfl) rfl #[.slice ALO6 q2.length cLO6] rfl zee81 ?_; (with_reducible refine (impl_LastTold.calls k _ _ q2 q3 q4 _ ?s1 ?s2 HE4.out).mono ?_); (case s1 => exact LO6.out.readsS.2.2); (case s2 => exact LO6.out.readsS.2.1); rintro e wv14 ⟨v0_, he_, ho_v0_, hb⟩; subst he_; refine ⟨_, rfl, ?_⟩; obtain ⟨lo7_, hi7_, el_, hL_, eh_⟩ := Loc.newS (Kd.S_mono ho_v0_ (fun _ _ => trivial)) HB.out; have LO7 := aM hL_; have ORLO7 := aM (show hi6_ ≤ lo7_ from (by rw [el_]; exact LO6.out.size)); have OQLO7 := aM (show lo7_ ≤ hi7_ from (by rw [el_, eh_]; exact hb.size)); obtain ⟨ALO7, cLO7, ev_⟩ := Kd.S_slice ho_v0_; subst ev_; clear el_ hL_ eh_ ho_v0_; replace LO1 := aM (LO1.out.below hb); replace LO2 := aM (LO2.out.below hb); replace LO3 := aM (LO3.out.below hb); replace LO4 := aM (LO4.out.below hb); replace LO5 := aM (LO5.out.below hb); replace LO6 := aM (LO6.out.below hb); replace HB := aM (below_after HB.out hb); clear hb) | ((with_reducible refine gate_callee (f := 28) rfl ?_); refine goesL_ (some 81) rfl rfl Tryd.func28 (by kernel_rfl) rfl #[.slice ALO7 q3.length cLO7, .slice ALO2 q3.length cLO2] rfl zee81 ?_; (with_reducible refine (laws_eqToldS.calls k _ _ q3 _ _ q3 true _ ?s1 ?s2 ?s3 ?s4 HE5.out).mono ?_); (case s1 => exact LO7.out.readsS.2.2); (case s2 => exact LO7.out.readsS.2.1); (case s3 => exact LO2.out.readsV.2.2); (case s4 => exact LO2.out.readsV.2.1); rintro e wv15 ⟨he_, hb⟩; subst he_; refine ⟨_, rfl, ?_⟩; replace LO1 := aM (LO1.out.below hb); replace LO2 := aM (LO2.out.below hb); replace LO3 := aM (LO3.out.below hb); replace LO4 := aM (LO4.out.below hb); replace LO5 := aM (LO5.out.below hb); replace LO6 := aM (LO6.out.below hb); replace LO7 := aM (LO7.out.below hb); replace HB := aM (below_after HB.out hb); clear hb) | ((with_reducible refine gate_callee (f := 30) rfl ?_); refine goesL_ (some 90) rfl rfl Tryd.func30 (by kernel_rfl) rfl #[.slice ALO4 q3.length cLO4, .int .i64 1] rfl zee81 ?_; rw [show (#[.slice ALO4 q3.length cLO4, .int .i64 1] : Array Value) = #[.slice ALO4 q8.length cLO4, .int .i64 1] from congrArg (fun n_ : Nat => (#[.slice ALO4 n_ cLO4, .int .i64 1] : Array Value)) HN11.out]; (with_reducible refine (laws_heldToldS.calls k _ _ q8 1 q7 _ ?s1 ?s2 HE9.out).mono ?_); (case s1 => exact LO4.out.readsS.2.2); (case s2 => exact LO4.out.readsS.2.1); rintro e wv16 ⟨he_, hb⟩; subst he_; refine ⟨_, rfl, ?_⟩; replace LO1 := aM (LO1.out.below hb); replace LO2 := aM (LO2.out.below hb); replace LO3 := aM (LO3.out.below hb); replace LO4 := aM (LO4.out.below hb); replace LO5 := aM (LO5.out.below hb); replace LO6 := aM (LO6.out.below hb); replace LO7 := aM (LO7.out.below hb); replace HB := aM (below_after HB.out hb); clear hb))
 go_ret
 exact ⟨rfl, HB.out⟩
end Go.Proofs.YtkgmoajdcibafaaDoor.P

namespace Go.Proofs.YtkgmoajdcibafaaDoor.Lem
open Go.RowKit Go.Proofs.YtkgmoajdcibafaaDoorW.PrintWords Go.Proofs.YtkgmoajdcibafaaDoorW.PrintLast Go.Proofs.YtkgmoajdcibafaaDoorW.PrintMore

theorem w64 {x : Int} (h0 : -9223372036854775808 ≤ x) (h1 : x < 9223372036854775808) : wrap64 x = x := by
  unfold wrap64; omega
theorem wu64 {x : Int} (h0 : 0 ≤ x) (h1 : x < 18446744073709551616) : IntKind.u64.wrap x = x := by
  rw [IntKind.wrap_u64]; omega
theorem wu64_lo (x : Int) : 0 ≤ IntKind.u64.wrap x := by rw [IntKind.wrap_u64]; omega
theorem wu64_hi (x : Int) : IntKind.u64.wrap x < 18446744073709551616 := by rw [IntKind.wrap_u64]; omega

/-- A list of bytes. -/
def Bytes (l : List Int) : Prop := ∀ x ∈ l, 0 ≤ x ∧ x < 256

theorem Bytes.of_wf {l : List Int} (h : ∀ x ∈ l, (Lit.int .u8 x).wf = true) : Bytes l := by
  intro x hx
  have := h x hx
  simp [Lit.wf, IntKind.min, IntKind.max, IntKind.signed, IntKind.bits] at this
  omega
theorem Bytes.append {a b : List Int} (ha : Bytes a) (hb : Bytes b) : Bytes (a ++ b) := by
  intro x hx
  rcases List.mem_append.1 hx with h | h
  · exact ha x h
  · exact hb x h
theorem Bytes.nil : Bytes [] := fun x hx => by simp at hx
theorem Bytes.cons {x : Int} {l : List Int} (h0 : 0 ≤ x) (h1 : x < 256) (hl : Bytes l) : Bytes (x :: l) := by
  intro y hy
  rcases List.mem_cons.1 hy with rfl | h
  · exact ⟨h0, h1⟩
  · exact hl y h
theorem Bytes.rd {l : List Int} (h : Bytes l) (i : Int) : 0 ≤ rd l i ∧ rd l i < 256 := by
  unfold Go.Proofs.YtkgmoajdcibafaaDoorW.PrintWords.rd
  rcases Nat.lt_or_ge i.toNat l.length with hl | hl
  · rw [List.getD_eq_getElem?_getD, List.getElem?_eq_getElem hl]
    exact h _ (List.getElem_mem hl)
  · rw [List.getD_eq_getElem?_getD, List.getElem?_eq_none hl]
    simp
theorem Bytes.take {l : List Int} (h : Bytes l) (n : Nat) : Bytes (l.take n) := fun x hx => h x (List.mem_of_mem_take hx)
theorem Bytes.drop {l : List Int} (h : Bytes l) (n : Nat) : Bytes (l.drop n) := fun x hx => h x (List.mem_of_mem_drop hx)

theorem and255 {x : Int} (h0 : 0 ≤ x) (h1 : x < 18446744073709551616) : 0 ≤ Go.bits .and .u64 x 255 ∧ Go.bits .and .u64 x 255 < 256 := by
  rw [u64_and x 255 h0 h1 (by decide) (by decide)]
  have : x.toNat &&& (255 : Int).toNat ≤ (255 : Int).toNat := Nat.and_le_right
  have e : (255 : Int).toNat = 255 := rfl
  omega

theorem shr_lo {k : IntKind} {x y : Int} (h : 0 ≤ x) : 0 ≤ shr k x y := by
  unfold shr
  exact Int.ediv_nonneg h (Int.le_of_lt (Int.pow_pos (by decide)))
theorem shr_hi {k : IntKind} {x y B : Int} (h : 0 ≤ x) (h1 : x < B) : shr k x y < B := by
  unfold shr
  have : x / 2 ^ min y.toNat k.bits ≤ x := Int.ediv_le_self _ h
  omega

end Go.Proofs.YtkgmoajdcibafaaDoor.Lem

/- Words on lists: a place of a row, and what stands behind it. No conditions. -/
namespace Go.Proofs.YtkgmoajdcibafaaDoor.Lem
open Go Go.RowKit Go.Proofs.YtkgmoajdcibafaaDoor.P Go.Proofs.YtkgmoajdcibafaaDoorW.PrintWords Go.Proofs.YtkgmoajdcibafaaDoorW.PrintLast Go.Proofs.YtkgmoajdcibafaaDoorW.PrintMore

theorem drop_get {α : Type} {l : List α} {i : Nat} (h : i < l.length) : l.drop i = l[i] :: l.drop (i + 1) := (List.drop_eq_getElem_cons h)
theorem set_copy {α β : Type} (f : α → β) (z : β) {l : List α} {i d : Nat} (h : i < l.length) : ((l.take i).map f ++ List.replicate (d + 1) z).set i (f l[i]) = (l.take (i + 1)).map f ++ List.replicate d z := by
  have hl : ((l.take i).map f).length = i := by rw [List.length_map, List.length_take]; omega
  rw [List.set_append_right _ _ (by omega), hl, Nat.sub_self, List.replicate_succ, List.set_cons_zero, List.take_succ_eq_append_getElem h, List.map_append, List.append_assoc]
  rfl
theorem set_mid {α : Type} (pre : List α) (a v : α) (rest : List α) {i : Nat} (h : i = pre.length) : (pre ++ a :: rest).set i v = pre ++ v :: rest := by
  subst h
  rw [List.set_append_right _ _ (Nat.le_refl _), Nat.sub_self, List.set_cons_zero]
theorem getD_mid {α : Type} (pre : List α) (a : α) (rest : List α) (d : α) {i : Nat} (h : i = pre.length) : (pre ++ a :: rest).getD i d = a := by
  subst h
  rw [List.getD_eq_getElem?_getD, List.getElem?_append_right (Nat.le_refl _), Nat.sub_self]
  rfl
end Go.Proofs.YtkgmoajdcibafaaDoor.Lem

/- Names and keys: what GoodKey says, the program's and the specification's. -/
namespace Go.Proofs.YtkgmoajdcibafaaDoor.Lem
open Go Go.RowKit Go.Proofs.YtkgmoajdcibafaaDoor.P Go.Proofs.YtkgmoajdcibafaaDoorW.PrintWords Go.Proofs.YtkgmoajdcibafaaDoorW.PrintLast Go.Proofs.YtkgmoajdcibafaaDoorW.PrintMore

abbrev Tg := S123
abbrev rdT := rd_T123

theorem dropWhile_head {α : Type} (p : α → Bool) : ∀ (l : List α) (x : α) (r : List α), l.dropWhile p = x :: r → p x = false
  | [], x, r, h => by simp at h
  | a :: l, x, r, h => by
    rw [List.dropWhile_cons] at h
    cases e : p a with
    | true => rw [e, if_pos rfl] at h; exact dropWhile_head p l x r h
    | false =>
      rw [e, if_neg (by decide)] at h
      injection h with h _
      rw [← h]; exact e
theorem dropWhile_all {α : Type} (p : α → Bool) : ∀ l : List α, l.all p = true → l.dropWhile p = []
  | [], _ => rfl
  | a :: l, h => by
    rw [List.all_cons, Bool.and_eq_true] at h
    rw [List.dropWhile_cons, h.1, if_pos rfl]
    exact dropWhile_all p l h.2
theorem dropWhile_nil {α : Type} (p : α → Bool) : ∀ l : List α, l.dropWhile p = [] → l.all p = true
  | [], _ => rfl
  | a :: l, h => by
    rw [List.dropWhile_cons] at h
    cases e : p a with
    | true => rw [e, if_pos rfl] at h; rw [List.all_cons, e, dropWhile_nil p l h]; rfl
    | false => rw [e, if_neg (by decide)] at h; exact absurd h (by simp)

theorem trim_nil (l cs : List UInt8) : (Go.Lib.trimS l cs == []) = l.all (cs.contains ·) := by
  unfold Go.Lib.trimS Go.Lib.trimLeftS Go.Lib.trimRightS
  cases e : l.all (cs.contains ·) with
  | true =>
    have h1 : l.reverse.all (cs.contains ·) = true := by rw [List.all_reverse]; exact e
    rw [dropWhile_all _ _ h1, List.reverse_nil, List.dropWhile_nil]
    rfl
  | false =>
    rw [beq_eq_false_iff_ne]
    intro h
    have h1 := dropWhile_nil _ _ h
    rw [List.all_reverse] at h1
    cases e2 : l.reverse.dropWhile (cs.contains ·) with
    | nil =>
      have h3 := dropWhile_nil _ _ e2
      rw [List.all_reverse, e] at h3
      exact absurd h3 (by decide)
    | cons x r =>
      have h3 := dropWhile_head _ _ x r e2
      rw [e2, List.all_cons, h3, Bool.false_and] at h1
      exact absurd h1 (by decide)

/-- A letter's byte. -/
def letter (b : UInt8) : Bool := (decide (97 ≤ b.toNat) && decide (b.toNat ≤ 122)) || (decide (65 ≤ b.toNat) && decide (b.toNat ≤ 90))
def alphabet : List UInt8 := [97, 98, 99, 100, 101, 102, 103, 104, 105, 106, 107, 108, 109, 110, 111, 112, 113, 114, 115, 116, 117, 118, 119, 120, 121, 122, 65, 66, 67, 68, 69, 70, 71, 72, 73, 74, 75, 76, 77, 78, 79, 80, 81, 82, 83, 84, 85, 86, 87, 88, 89, 90]
theorem alphabet_all : ∀ n, n < 256 → (alphabet.contains (UInt8.ofNat n) == letter (UInt8.ofNat n)) = true := of_decide_eq_true (by kernel_rfl)
theorem alphabet_letter (b : UInt8) : alphabet.contains b = letter b := by
  have h := alphabet_all b.toNat b.toNat_lt
  rw [UInt8.ofNat_toNat] at h
  exact eq_of_beq h

/-- A name. -/
def nameB (s : ByteArray) : Bool := decide (1 ≤ s.size) && decide (s.size ≤ 12) && s.data.toList.all letter
theorem nameB_size {s : ByteArray} (h : nameB s = true) : 1 ≤ s.size ∧ s.size ≤ 12 := by
  unfold nameB at h
  rw [Bool.and_eq_true, Bool.and_eq_true] at h
  exact ⟨of_decide_eq_true h.1.1, of_decide_eq_true h.1.2⟩
theorem nameB_letters {s : ByteArray} (h : nameB s = true) : s.data.toList.all letter = true := by
  unfold nameB at h
  rw [Bool.and_eq_true] at h
  exact h.2
theorem withinB_ok (n a b : Int) : impl_within.f n a b = some (decide (a ≤ n) && decide (n ≤ b)) := by
  unfold impl_within.f
  by_cases h : n ≥ a
  · rw [if_pos h, decide_eq_true h, Bool.true_and]
  · rw [if_neg h, decide_eq_false h, Bool.false_and]
theorem l1InB_ok (n a b : Int) : spec_l1In.f n a b = some (decide (a ≤ n) && decide (n ≤ b)) := by
  unfold spec_l1In.f
  by_cases h : n ≥ a
  · rw [if_pos h, decide_eq_true h, Bool.true_and]
  · rw [if_neg h, decide_eq_false h, Bool.false_and]
theorem size_b (s : ByteArray) : (decide ((1 : Int) ≤ (s.size : Int)) && decide ((s.size : Int) ≤ 12)) = (decide (1 ≤ s.size) && decide (s.size ≤ 12)) := by
  have e1 : ((1 : Int) ≤ (s.size : Int)) ↔ 1 ≤ s.size := by omega
  have e2 : ((s.size : Int) ≤ 12) ↔ s.size ≤ 12 := by omega
  rw [decide_eq_decide.2 e1, decide_eq_decide.2 e2]

theorem isName_ok (s : ByteArray) : impl_isName.f s = some (nameB s) := by
  unfold impl_isName.f nameB
  rw [withinB_ok, Option.bind_some, size_b]
  cases e : (decide (1 ≤ s.size) && decide (s.size ≤ 12)) with
  | false => rw [if_neg (by decide), Bool.false_and]
  | true =>
    rw [Bool.and_eq_true] at e
    have h1 := of_decide_eq_true e.2
    rw [if_pos rfl, Bool.true_and]
    unfold strings_Trim.f
    rw [if_pos ⟨by omega, of_decide_eq_true (by kernel_rfl), by kernel_rfl⟩, Option.bind_some, Go.Lib.toList_data]
    have e3 : s.data.toList.all (alphabet.contains ·) = s.data.toList.all letter := by
      congr 1
      funext b
      exact alphabet_letter b
    rw [← e3, ← trim_nil]
    rfl

theorem bt_get {s : ByteArray} {i : Nat} (h : i < s.size) : bt s (i : Int) = ((s.data.toList[i]'(by rw [← Go.Lib.size_eq]; exact h)).toNat : Int) := by
  rw [← bt_at s (i : Int) (by rw [Int.toNat_natCast]; exact h)]
  simp only [Int.toNat_natCast]
  rfl
theorem l1Name_l0 (s : ByteArray) (hs : s.size ≤ 12) : ∀ (d i k : Nat), i + d = s.size → d < k → spec_l1Name.l0 k s (i : Int) = some ((s.data.toList.drop i).all letter) := by
  intro d
  induction d with
  | zero =>
    intro i k hi hk
    obtain ⟨k, rfl⟩ : ∃ m, k = m + 1 := ⟨k - 1, by omega⟩
    rw [spec_l1Name.l0, if_neg (by omega), List.drop_of_length_le (by rw [← Go.Lib.size_eq]; omega)]
    rfl
  | succ d ih =>
    intro i k hi hk
    obtain ⟨k, rfl⟩ : ∃ m, k = m + 1 := ⟨k - 1, by omega⟩
    have hn := ih (i + 1) k (by omega) (by omega)
    have hlt : i < s.data.toList.length := by rw [← Go.Lib.size_eq]; omega
    rw [spec_l1Name.l0, if_pos (by omega), if_pos (by omega), bt_get (by omega), show wrap64 ((i : Int) + 1) = ((i + 1 : Nat) : Int) from by rw [w64 (by omega) (by omega)]; omega, hn, drop_get hlt, List.all_cons]
    generalize s.data.toList[i] = b
    generalize (List.drop (i + 1) s.data.toList).all letter = v
    unfold letter
    by_cases h1 : 97 ≤ b.toNat
    · rw [if_pos (by omega), decide_eq_true h1, Bool.true_and]
      by_cases h2 : b.toNat ≤ 122
      · rw [if_pos (by omega), decide_eq_true h2, Bool.true_or, Bool.true_and]
      · rw [if_neg (by omega), if_pos (by omega), if_neg (by omega), decide_eq_false h2, decide_eq_false (show ¬ b.toNat ≤ 90 by omega), Bool.and_false, Bool.false_or, Bool.false_and]
    · rw [if_neg (by omega), decide_eq_false h1, Bool.false_and, Bool.false_or]
      by_cases h2 : 65 ≤ b.toNat
      · rw [if_pos (by omega), decide_eq_true h2, Bool.true_and]
        by_cases h3 : b.toNat ≤ 90
        · rw [if_pos (by omega), decide_eq_true h3, Bool.true_and]
        · rw [if_neg (by omega), decide_eq_false h3, Bool.false_and]
      · rw [if_neg (by omega), decide_eq_false h2, Bool.false_and, Bool.false_and]

theorem l1Name_ok (s : ByteArray) {k : Nat} (hk : 12 < k) : spec_l1Name.f k s = some (nameB s) := by
  unfold spec_l1Name.f nameB
  rw [l1InB_ok, Option.bind_some, size_b]
  cases e : (decide (1 ≤ s.size) && decide (s.size ≤ 12)) with
  | false => rw [if_neg (by decide), Bool.false_and]
  | true =>
    rw [Bool.and_eq_true] at e
    have h1 := of_decide_eq_true e.2
    rw [if_pos rfl, Bool.true_and]
    have h := l1Name_l0 s h1 s.size 0 k (by omega) (by omega)
    rw [List.drop_zero] at h
    exact h

def aft : Option ByteArray → ByteArray → Bool
  | none, _ => true
  | some q, x => Op.bytesLess q.data.toList x.data.toList
/-- Tags in their order: behind a name, or at the beginning. -/
def tagsB : Option ByteArray → List Tg → Bool
  | _, [] => true
  | p, t :: r => nameB t.f0 && (nameB t.f1 && (aft p t.f0 && tagsB (some t.f0) r))
/-- The tag before a place. -/
def prevT (l : List Tg) (i : Nat) : Option ByteArray := if i = 0 then none else some (rdT l ((i - 1 : Nat) : Int)).f0
theorem rdT_get {l : List Tg} {i : Nat} (h : i < l.length) : rdT l (i : Int) = l[i] := by
  unfold rdT rd_T123
  rw [Int.toNat_natCast, List.getD_eq_getElem?_getD, List.getElem?_eq_getElem h]
  rfl
/-- A good key. -/
def keyB (m : ByteArray) (l : List Tg) (st : Int) : Bool := nameB m && (decide (l.length ≤ 4) && (decide (0 ≤ st) && decide (st ≤ 1000000000)) && tagsB none l)
theorem keyB_parts {m : ByteArray} {l : List Tg} {st : Int} (h : keyB m l st = true) : nameB m = true ∧ l.length ≤ 4 ∧ 0 ≤ st ∧ st ≤ 1000000000 ∧ tagsB none l = true := by
  unfold keyB at h
  simp only [Bool.and_eq_true] at h
  exact ⟨h.1, of_decide_eq_true h.2.1.1, of_decide_eq_true h.2.1.2.1, of_decide_eq_true h.2.1.2.2, h.2.2⟩
theorem tagsB_names : ∀ {l : List Tg} {p : Option ByteArray}, tagsB p l = true → ∀ t ∈ l, nameB t.f0 = true ∧ nameB t.f1 = true
  | [], _, _, t, ht => by simp at ht
  | a :: l, p, h, t, ht => by
    rw [tagsB, Bool.and_eq_true, Bool.and_eq_true, Bool.and_eq_true] at h
    rcases List.mem_cons.1 ht with rfl | ht
    · exact ⟨h.1, h.2.1⟩
    · exact tagsB_names h.2.2.2 t ht

theorem implKey_l0 (l : List Tg) (hl : l.length ≤ 4) (m : ByteArray) (st : Int) : ∀ (d i k : Nat), i + d = l.length → d < k → impl_GoodKey.l0 k l (l.length : Int) (i : Int) m l st = some (tagsB (prevT l i) (l.drop i)) := by
  intro d
  induction d with
  | zero =>
    intro i k hi hk
    obtain ⟨k, rfl⟩ : ∃ q, k = q + 1 := ⟨k - 1, by omega⟩
    rw [impl_GoodKey.l0, if_neg (by omega), List.drop_of_length_le (by omega)]
    rfl
  | succ d ih =>
    intro i k hi hk
    obtain ⟨k, rfl⟩ : ∃ q, k = q + 1 := ⟨k - 1, by omega⟩
    have hn := ih (i + 1) k (by omega) (by omega)
    have hlt : i < l.length := by omega
    have hp : prevT l (i + 1) = some l[i].f0 := by unfold prevT; rw [if_neg (by omega), Nat.add_sub_cancel, rdT_get hlt]
    rw [hp] at hn
    have e0 : rd_T123 l (i : Int) = l[i] := rdT_get hlt
    rw [impl_GoodKey.l0, if_pos (by omega), if_pos (by omega), if_pos (by omega), e0, isName_ok, isName_ok, Option.bind_some, show wrap64 ((i : Int) + 1) = ((i + 1 : Nat) : Int) from by rw [w64 (by omega) (by omega)]; omega, hn, drop_get hlt, tagsB]
    cases e1 : nameB l[i].f0 with
    | false => rw [if_neg (by decide), Bool.false_and]
    | true =>
      rw [if_pos rfl, Option.bind_some, Bool.true_and]
      cases e2 : nameB l[i].f1 with
      | false => rw [if_neg (by decide), Bool.false_and]
      | true =>
        rw [if_pos rfl, Bool.true_and]
        by_cases h0 : i = 0
        · rw [if_neg (by omega)]
          unfold prevT
          rw [if_pos h0, aft, Bool.true_and]
        · have e3 : wrap64 ((i : Int) - 1) = ((i - 1 : Nat) : Int) := by rw [w64 (by omega) (by omega)]; omega
          rw [if_pos (by omega), e3, if_pos (by omega), if_pos (by omega)]
          unfold prevT
          rw [if_neg h0, aft, Go.Lib.toList_data, Go.Lib.toList_data]
          show (if Op.bytesLess (rdT l ((i - 1 : Nat) : Int)).f0.data.toList l[i].f0.data.toList = true then _ else _) = _
          cases Op.bytesLess (rdT l ((i - 1 : Nat) : Int)).f0.data.toList l[i].f0.data.toList with
          | true => rw [if_pos rfl, Bool.true_and]
          | false => rw [if_neg (by decide), Bool.false_and]

theorem implKey_ok (m : ByteArray) (l : List Tg) (st : Int) {k : Nat} (hk : 6 < k) : impl_GoodKey.f k m l st = some (keyB m l st) := by
  obtain ⟨k, rfl⟩ : ∃ q, k = q + 1 := ⟨k - 1, by omega⟩
  unfold impl_GoodKey.f keyB
  rw [isName_ok, Option.bind_some, impl_GoodKey.j0, if_pos rfl]
  cases e1 : nameB m with
  | false => rw [if_neg (by decide), Bool.false_and]
  | true =>
    rw [if_pos rfl, Bool.true_and]
    by_cases h : l.length ≤ 4
    · rw [if_neg (by omega), withinB_ok, Option.bind_some, decide_eq_true h, Bool.true_and, impl_GoodKey.j0]
      have h0 := implKey_l0 l h m st l.length 0 k (by omega) (by omega)
      rw [List.drop_zero] at h0
      cases e2 : (decide (0 ≤ st) && decide (st ≤ 1000000000)) with
      | false => rw [if_pos (show (!false) = true from rfl), Bool.false_and]
      | true => rw [if_neg (show ¬ (!true) = true by decide), Bool.true_and]; exact h0
    · rw [if_pos (by omega), decide_eq_false h, Bool.false_and, Bool.false_and]

theorem specKey_l0 (l : List Tg) (hl : l.length ≤ 4) (m : ByteArray) (st : Int) : ∀ (d i k : Nat), i + d = l.length → d + 14 < k → spec_GoodKey.l0 k l (l.length : Int) (i : Int) m l st = some (tagsB (prevT l i) (l.drop i)) := by
  intro d
  induction d with
  | zero =>
    intro i k hi hk
    obtain ⟨k, rfl⟩ : ∃ q, k = q + 1 := ⟨k - 1, by omega⟩
    rw [spec_GoodKey.l0, if_neg (by omega), List.drop_of_length_le (by omega)]
    rfl
  | succ d ih =>
    intro i k hi hk
    obtain ⟨k, rfl⟩ : ∃ q, k = q + 1 := ⟨k - 1, by omega⟩
    have hn := ih (i + 1) k (by omega) (by omega)
    have hlt : i < l.length := by omega
    have hp : prevT l (i + 1) = some l[i].f0 := by unfold prevT; rw [if_neg (by omega), Nat.add_sub_cancel, rdT_get hlt]
    rw [hp] at hn
    have e0 : rd_T123 l (i : Int) = l[i] := rdT_get hlt
    rw [spec_GoodKey.l0, if_pos (by omega), if_pos (by omega), if_pos (by omega), e0, l1Name_ok _ (by omega), l1Name_ok _ (by omega), Option.bind_some, show wrap64 ((i : Int) + 1) = ((i + 1 : Nat) : Int) from by rw [w64 (by omega) (by omega)]; omega, hn, drop_get hlt, tagsB]
    cases e1 : nameB l[i].f0 with
    | false => rw [if_neg (by decide), Bool.false_and]
    | true =>
      rw [if_pos rfl, Option.bind_some, Bool.true_and]
      cases e2 : nameB l[i].f1 with
      | false => rw [if_neg (by decide), Bool.false_and]
      | true =>
        rw [if_pos rfl, Bool.true_and]
        by_cases h0 : i = 0
        · rw [if_neg (by omega)]
          unfold prevT
          rw [if_pos h0, aft, Bool.true_and]
        · have e3 : wrap64 ((i : Int) - 1) = ((i - 1 : Nat) : Int) := by rw [w64 (by omega) (by omega)]; omega
          rw [if_pos (by omega), e3, if_pos (by omega), if_pos (by omega)]
          unfold prevT
          rw [if_neg h0, aft, Go.Lib.toList_data, Go.Lib.toList_data]
          show (if Op.bytesLess (rdT l ((i - 1 : Nat) : Int)).f0.data.toList l[i].f0.data.toList = true then _ else _) = _
          cases Op.bytesLess (rdT l ((i - 1 : Nat) : Int)).f0.data.toList l[i].f0.data.toList with
          | true => rw [if_pos rfl, Bool.true_and]
          | false => rw [if_neg (by decide), Bool.false_and]

theorem specKey_ok (m : ByteArray) (l : List Tg) (st : Int) {k : Nat} (hk : 20 < k) : spec_GoodKey.f k m l st = some (keyB m l st) := by
  obtain ⟨k, rfl⟩ : ∃ q, k = q + 1 := ⟨k - 1, by omega⟩
  unfold spec_GoodKey.f keyB
  rw [l1Name_ok _ (by omega), Option.bind_some, spec_GoodKey.j0, if_pos rfl]
  cases e1 : nameB m with
  | false => rw [if_neg (by decide), Bool.false_and]
  | true =>
    rw [if_pos rfl, Bool.true_and]
    by_cases h : l.length ≤ 4
    · rw [if_neg (by omega), l1InB_ok, Option.bind_some, decide_eq_true h, Bool.true_and, spec_GoodKey.j0]
      have h0 := specKey_l0 l h m st l.length 0 k (by omega) (by omega)
      rw [List.drop_zero] at h0
      cases e2 : (decide (0 ≤ st) && decide (st ≤ 1000000000)) with
      | false => rw [if_pos (show (!false) = true from rfl), Bool.false_and]
      | true => rw [if_neg (show ¬ (!true) = true by decide), Bool.true_and]; exact h0
    · rw [if_pos (by omega), decide_eq_false h, Bool.false_and, Bool.false_and]

end Go.Proofs.YtkgmoajdcibafaaDoor.Lem

/- Keys that come in: their size, their copies, and that a copy equals itself. -/
namespace Go.Proofs.YtkgmoajdcibafaaDoor.Lem
open Go Go.RowKit Go.Proofs.YtkgmoajdcibafaaDoor.P Go.Proofs.YtkgmoajdcibafaaDoorW.PrintWords Go.Proofs.YtkgmoajdcibafaaDoorW.PrintLast Go.Proofs.YtkgmoajdcibafaaDoorW.PrintMore

abbrev Lt := S119
theorem rdL_get {l : List Lt} {i : Nat} (h : i < l.length) : rd_T119 l (i : Int) = l[i] := by
  unfold rd_T119
  rw [Int.toNat_natCast, List.getD_eq_getElem?_getD, List.getElem?_eq_getElem h]
  rfl
/-- Texts that Go can hold. -/
def Held (l : List Lt) : Prop := ∀ t ∈ l, t.f0.size ≤ 9223372036854775807 ∧ t.f1.size ≤ 9223372036854775807

theorem szTag_ok {a b : ByteArray} (ha : a.size ≤ 9223372036854775807) (hb : b.size ≤ 9223372036854775807) {x : Int} (h0 : 0 ≤ x) (h1 : x ≤ 1048576) : ∃ r, laws_szTag.f a b x = some r ∧ (r < 0 ∨ (0 ≤ r ∧ r ≤ x)) := by
  unfold laws_szTag.f
  rw [show wrap64 (x - (a.size : Int)) = x - (a.size : Int) from w64 (by omega) (by omega)]
  by_cases h : x - (a.size : Int) < 0
  · exact ⟨-1, by rw [if_pos h], .inl (by omega)⟩
  · rw [if_neg h, show wrap64 (x - (a.size : Int) - (b.size : Int)) = x - (a.size : Int) - (b.size : Int) from w64 (by omega) (by omega)]
    by_cases h2 : x - (a.size : Int) - (b.size : Int) < 0
    · exact ⟨-1, by rw [if_pos h2], .inl (by omega)⟩
    · exact ⟨_, by rw [if_neg h2], .inr ⟨by omega, by omega⟩⟩
theorem szTagS_l0 (l : List Lt) (hl : l.length ≤ 1048576) (hh : Held l) : ∀ (d i k : Nat) (x : Int), i + d = l.length → d < k → 0 ≤ x → x ≤ 1048576 → ∃ r, laws_szTagS.l0 k l x (i : Int) = some r ∧ (r < 0 ∨ (0 ≤ r ∧ r ≤ x)) := by
  intro d
  induction d with
  | zero =>
    intro i k x hi hk h0 h1
    obtain ⟨k, rfl⟩ : ∃ q, k = q + 1 := ⟨k - 1, by omega⟩
    exact ⟨x, by rw [laws_szTagS.l0, if_neg (by omega)], .inr ⟨h0, Int.le_refl _⟩⟩
  | succ d ih =>
    intro i k x hi hk h0 h1
    obtain ⟨k, rfl⟩ : ∃ q, k = q + 1 := ⟨k - 1, by omega⟩
    have hlt : i < l.length := by omega
    obtain ⟨ha, hb⟩ := hh l[i] (List.getElem_mem hlt)
    obtain ⟨r, hr, hr2⟩ := szTag_ok ha hb h0 h1
    rw [laws_szTagS.l0, if_pos (by omega), if_pos (by omega), rdL_get hlt, hr, Option.bind_some]
    by_cases hn : r < 0
    · exact ⟨-1, by rw [if_pos hn], .inl (by omega)⟩
    · rw [if_neg hn, show wrap64 ((i : Int) + 1) = ((i + 1 : Nat) : Int) from by rw [w64 (by omega) (by omega)]; omega]
      obtain ⟨r2, hq, hq2⟩ := ih (i + 1) k r (by omega) (by omega) (by omega) (by omega)
      exact ⟨r2, hq, by omega⟩
theorem szTagS_ok {l : List Lt} (hl : l.length ≤ 9223372036854775807) (hh : Held l) {x : Int} (h0 : 0 ≤ x) (h1 : x ≤ 1048576) {k : Nat} (hk : l.length < k ∨ 1048576 < k) : ∃ r, laws_szTagS.f k l x = some r ∧ (r < 0 ∨ (0 ≤ r ∧ r ≤ x ∧ l.length ≤ 1048576)) := by
  unfold laws_szTagS.f
  rw [show wrap64 (x - (l.length : Int)) = x - (l.length : Int) from w64 (by omega) (by omega)]
  by_cases h : x - (l.length : Int) < 0
  · exact ⟨-1, by rw [if_pos h], .inl (by omega)⟩
  · rw [if_neg h]
    obtain ⟨r, hr, hr2⟩ := szTagS_l0 l (by omega) hh l.length 0 k (x - (l.length : Int)) (by omega) (by omega) (by omega) (by omega)
    exact ⟨r, hr, by omega⟩
theorem szKey_ok {m : ByteArray} (hm : m.size ≤ 9223372036854775807) {l : List Lt} (hl : l.length ≤ 9223372036854775807) (hh : Held l) (st : Int) {x : Int} (h0 : 0 ≤ x) (h1 : x ≤ 1048576) {k : Nat} (hk : l.length < k ∨ 1048576 < k) : ∃ r, laws_szKey.f k m l st x = some r ∧ (r < 0 ∨ (0 ≤ r ∧ r ≤ x ∧ l.length ≤ 1048576)) := by
  unfold laws_szKey.f
  rw [show wrap64 (x - (m.size : Int)) = x - (m.size : Int) from w64 (by omega) (by omega)]
  by_cases h : x - (m.size : Int) < 0
  · exact ⟨-1, by rw [if_pos h], .inl (by omega)⟩
  · rw [if_neg h]
    obtain ⟨r, hr, hr2⟩ := szTagS_ok hl hh (x := x - (m.size : Int)) (by omega) (by omega) hk
    rw [hr, Option.bind_some]
    by_cases hn : r < 0
    · exact ⟨-1, by rw [if_pos hn], .inl (by omega)⟩
    · exact ⟨r, by rw [if_neg hn], by omega⟩

/-- The tag as the program has it. -/
def cvT (t : Lt) : Tg := ⟨t.f0, t.f1⟩
theorem toTagS_l0 {l : List Lt} (hl : l.length ≤ 1048576) : ∀ (d k i : Nat), i + d = l.length → d < k → laws_toTagS.l0 k l ((l.take i).map cvT ++ List.replicate d z123) (i : Int) = some (l.map cvT) := by
  intro d
  induction d with
  | zero =>
    intro k i hi hk
    obtain ⟨k, rfl⟩ : ∃ q, k = q + 1 := ⟨k - 1, by omega⟩
    rw [laws_toTagS.l0, if_neg (by omega), List.take_of_length_le (by omega), List.replicate_zero, List.append_nil]
  | succ d ih =>
    intro k i hi hk
    obtain ⟨k, rfl⟩ : ∃ q, k = q + 1 := ⟨k - 1, by omega⟩
    have hlt : i < l.length := by omega
    have hnext := ih k (i + 1) (by omega) (by omega)
    rw [laws_toTagS.l0, if_pos (by omega), if_pos (by omega), rdL_get hlt]
    unfold laws_toTag.f
    rw [Option.bind_some, if_pos (by rw [List.length_append, List.length_map, List.length_take, List.length_replicate]; omega), Int.toNat_natCast, show wrap64 ((i : Int) + 1) = ((i + 1 : Nat) : Int) from by rw [w64 (by omega) (by omega)]; omega]
    have e := set_copy cvT z123 (d := d) hlt
    show laws_toTagS.l0 k l (((l.take i).map cvT ++ List.replicate (d + 1) z123).set i (cvT l[i])) _ = _
    rw [e]
    exact hnext
theorem toTagS_ok {l : List Lt} (hl : l.length ≤ 1048576) {k : Nat} (hk : l.length < k) : laws_toTagS.f k l = some (l.map cvT) := by
  unfold laws_toTagS.f
  rw [if_pos (by omega), if_pos (by rw [Int.toNat_natCast]; omega), Int.toNat_natCast]
  have h := toTagS_l0 hl l.length k 0 (by omega) hk
  rw [List.take_zero, List.map_nil, List.nil_append] at h
  exact h
theorem toKey_ok (m : ByteArray) {l : List Lt} (hl : l.length ≤ 1048576) (st : Int) {k : Nat} (hk : l.length < k) : laws_toKey.f k m l st = some (m, l.map cvT, st) := by
  unfold laws_toKey.f
  rw [toTagS_ok hl hk, Option.bind_some]

theorem eqTagS_l0 (l : List Tg) (hl : l.length ≤ 1048576) : ∀ (d i k : Nat), i + d = l.length → d < k → laws_eqTagS.l0 k l l (i : Int) = some true := by
  intro d
  induction d with
  | zero =>
    intro i k hi hk
    obtain ⟨k, rfl⟩ : ∃ q, k = q + 1 := ⟨k - 1, by omega⟩
    rw [laws_eqTagS.l0, if_neg (by omega)]
  | succ d ih =>
    intro i k hi hk
    obtain ⟨k, rfl⟩ : ∃ q, k = q + 1 := ⟨k - 1, by omega⟩
    have hnext := ih (i + 1) k (by omega) (by omega)
    rw [laws_eqTagS.l0, if_pos (by omega), if_pos (by omega), if_pos (by omega)]
    unfold laws_eqTag.f
    rw [if_pos rfl, if_pos rfl, Option.bind_some, if_pos rfl, show wrap64 ((i : Int) + 1) = ((i + 1 : Nat) : Int) from by rw [w64 (by omega) (by omega)]; omega]
    exact hnext
theorem eqTagS_ok {l : List Tg} (hl : l.length ≤ 1048576) {k : Nat} (hk : l.length < k) : laws_eqTagS.f k l l = some true := by
  unfold laws_eqTagS.f
  rw [if_pos rfl]
  exact eqTagS_l0 l hl l.length 0 k (by omega) hk
theorem eqKey_ok (m : ByteArray) {l : List Tg} (hl : l.length ≤ 1048576) (st : Int) {k : Nat} (hk : l.length < k) : laws_eqKey.f k m l st m l st = some true := by
  unfold laws_eqKey.f
  rw [if_pos rfl, eqTagS_ok hl hk, Option.bind_some, if_pos rfl, if_pos rfl]
end Go.Proofs.YtkgmoajdcibafaaDoor.Lem

/- Aggs that come in: their copies, and that a copy equals itself. -/
namespace Go.Proofs.YtkgmoajdcibafaaDoor.Lem
open Go Go.RowKit Go.Proofs.YtkgmoajdcibafaaDoor.P Go.Proofs.YtkgmoajdcibafaaDoorW.PrintWords Go.Proofs.YtkgmoajdcibafaaDoorW.PrintLast Go.Proofs.YtkgmoajdcibafaaDoorW.PrintMore

theorem rd_at1 {l : List Int} {i : Nat} (h : i < l.length) : l.drop i = rd l (i : Int) :: l.drop (i + 1) := by
  rw [List.drop_eq_getElem_cons h]
  unfold rd
  rw [Int.toNat_natCast, List.getD_eq_getElem?_getD, List.getElem?_eq_getElem h]
  rfl
/-! ### copies -/
theorem rd_set_copy {l : List Int} {i d : Nat} (hi : i + (d + 1) = l.length) : (l.take i ++ List.replicate (d + 1) 0).set i (rd l (i : Int)) = l.take (i + 1) ++ List.replicate d 0 := by
  have hl : (l.take i).length = i := by rw [List.length_take]; omega
  have hd := rd_at1 (l := l) (i := i) (by omega)
  have ht : l.take (i + 1) = l.take i ++ [rd l (i : Int)] := by
    have h1 := List.take_append_drop i l
    have h2 : l = (l.take i ++ [rd l (i : Int)]) ++ l.drop (i + 1) := by rw [List.append_assoc, List.singleton_append, ← hd, h1]
    have h3 : (l.take i ++ [rd l (i : Int)]).length = i + 1 := by rw [List.length_append, List.length_take, List.length_singleton]; omega
    have h4 := congrArg (List.take (i + 1)) h2
    rw [List.take_left' h3] at h4
    exact h4
  rw [ht, List.set_append_right _ _ (by omega), hl, Nat.sub_self, List.replicate_succ, List.set_cons_zero, List.append_assoc]
  rfl
theorem toInts_l0 {l : List Int} (hl : l.length ≤ 1048576) (d : Nat) : ∀ (k i : Nat), i + d = l.length → d < k → laws_toIntS.l0 k l (l.take i ++ List.replicate d 0) (i : Int) = some l := by
  induction d with
  | zero =>
    intro k i hi hk
    obtain ⟨k, rfl⟩ : ∃ m, k = m + 1 := ⟨k - 1, by omega⟩
    conv => lhs; unfold laws_toIntS.l0
    rw [if_neg (by omega), List.take_of_length_le (by omega), List.replicate_zero, List.append_nil]
  | succ d ih =>
    intro k i hi hk
    obtain ⟨k, rfl⟩ : ∃ m, k = m + 1 := ⟨k - 1, by omega⟩
    have hnext := ih k (i + 1) (by omega) (by omega)
    have ht : (l.take i).length = i := by rw [List.length_take]; omega
    conv => lhs; unfold laws_toIntS.l0
    rw [if_pos (by omega), if_pos (by omega), if_pos (by rw [List.length_append, List.length_replicate, ht]; omega), Int.toNat_natCast, rd_set_copy hi, show wrap64 ((i : Int) + 1) = ((i + 1 : Nat) : Int) from by rw [w64 (by omega) (by omega)]; omega]
    exact hnext
theorem toAgg_ok (c s mi ma : Int) {l : List Int} (hl : l.length ≤ 1048576) (f : Bool) {k : Nat} (hk : 1048576 < k) : laws_toAgg.f k c s mi ma l f = some (c, s, mi, ma, l, f) := by
  have h := toInts_l0 hl l.length k 0 (by omega) (by omega)
  rw [List.take_zero, List.nil_append] at h
  have h' : laws_toIntS.f k l = some l := by
    unfold laws_toIntS.f
    rw [if_pos (by omega), if_pos (by omega), Int.toNat_natCast]
    exact h
  unfold laws_toAgg.f
  rw [h', Option.bind_some]
theorem eqInts_l0 {l : List Int} (hl : l.length ≤ 1048576) (d : Nat) : ∀ (k i : Nat), i + d = l.length → d < k → laws_eqIntS.l0 k l l (i : Int) = some true := by
  induction d with
  | zero =>
    intro k i hi hk
    obtain ⟨k, rfl⟩ : ∃ m, k = m + 1 := ⟨k - 1, by omega⟩
    conv => lhs; unfold laws_eqIntS.l0
    rw [if_neg (by omega)]
  | succ d ih =>
    intro k i hi hk
    obtain ⟨k, rfl⟩ : ∃ m, k = m + 1 := ⟨k - 1, by omega⟩
    have hnext := ih k (i + 1) (by omega) (by omega)
    conv => lhs; unfold laws_eqIntS.l0
    rw [if_pos (by omega), if_pos (by omega), if_pos (by omega), if_pos rfl, show wrap64 ((i : Int) + 1) = ((i + 1 : Nat) : Int) from by rw [w64 (by omega) (by omega)]; omega]
    exact hnext
theorem eqAgg_ok (c s mi ma : Int) {l : List Int} (hl : l.length ≤ 1048576) (f : Bool) {k : Nat} (hk : 1048576 < k) : laws_eqAgg.f k c s mi ma l f c s mi ma l f = some true := by
  have h := eqInts_l0 hl l.length k 0 (by omega) (by omega)
  have h' : laws_eqIntS.f k l l = some true := by
    unfold laws_eqIntS.f
    rw [if_pos rfl]
    exact h
  unfold laws_eqAgg.f
  rw [if_pos rfl, if_pos rfl, if_pos rfl, if_pos rfl, h', Option.bind_some, if_pos rfl, if_neg (by cases f <;> decide)]


theorem szAgg_ok (c s mi ma : Int) {l : List Int} (hl : l.length ≤ 9223372036854775807) (f : Bool) {x : Int} (h0 : 0 ≤ x) (h1 : x ≤ 1048576) : ∃ r, laws_szAgg.f c s mi ma l f x = some r ∧ (r < 0 ∨ (0 ≤ r ∧ r ≤ x ∧ l.length ≤ 1048576)) := by
  unfold laws_szAgg.f laws_szIntS.f
  rw [show wrap64 (x - (l.length : Int)) = x - (l.length : Int) from w64 (by omega) (by omega)]
  by_cases h : x - (l.length : Int) < 0
  · exact ⟨-1, by rw [if_pos h, Option.bind_some, if_pos (by decide)], .inl (by omega)⟩
  · exact ⟨_, by rw [if_neg h, Option.bind_some, if_neg h], .inr ⟨by omega, by omega, by omega⟩⟩
end Go.Proofs.YtkgmoajdcibafaaDoor.Lem

/- An argument of a row, opened by its type: what reads as a value of the type is of the printed kind, at whatever depth. -/
namespace Go.Proofs.YtkgmoajdcibafaaDoor.Lem
open Go Go.ChangeShapes Go.WideShapes Go.RowKit Go.Proofs.YtkgmoajdcibafaaDoor.P Go.Proofs.YtkgmoajdcibafaaDoorW.PrintWords Go.Proofs.YtkgmoajdcibafaaDoorW.PrintLast Go.Proofs.YtkgmoajdcibafaaDoorW.PrintMore

theorem list_of {α : Type} {p : Nat → α → Prop} : ∀ n, (∀ i, i < n → ∃ z, p i z) → ∃ l : List α, l.length = n ∧ ∀ i z, l[i]? = some z → p i z
  | 0, _ => ⟨[], rfl, fun i z h => by simp at h⟩
  | n + 1, h => by
    obtain ⟨l, hl, hp⟩ := list_of n (fun i hi => h i (by omega))
    obtain ⟨z, hz⟩ := h n (by omega)
    refine ⟨l ++ [z], by rw [List.length_append, hl]; rfl, fun i y hy => ?_⟩
    rcases Nat.lt_or_ge i l.length with hi | hi
    · rw [List.getElem?_append_left hi] at hy
      exact hp i y hy
    · have hi' : i = l.length := by
        have := (List.getElem?_eq_some_iff.1 hy).1
        rw [List.length_append, List.length_singleton] at this
        omega
      subst hi'
      have : z = y := by simpa using hy
      subst this
      rw [hl]
      exact hz

theorem addr_add2 (a : Addr) (x y : Nat) : (a.add x).add y = a.add (x + y) := by
  unfold Addr.add
  by_cases hx : x = 0
  · subst hx
    rw [if_pos rfl, Nat.zero_add]
  · by_cases hy : y = 0
    · subst hy
      rw [if_pos rfl, Nat.add_zero]
    · rw [if_neg hx, if_neg hy, if_neg (by omega)]
      simp only [Nat.add_assoc]
section
variable {H : Type} (enc : TypeId × Value → H) (P : Program) (w : World) (base : Nat) (spare : Nat → Bool) (held : Bool)
/-- What reads as a value of the type is of the kind, and good. -/
def Opens {α : Type} (d : Kd α) (t : TypeId) (g : α → Prop) : Prop :=
  ∀ (fuel : Nat) (cs : List Value) (x : DataW H × List MemPlace), DataW.trod enc P w base spare held fuel t cs = some x → ∃ a, d.K w a cs ∧ g a
/-- .. a struct's fields from a place on. -/
def OpensF {α : Type} (d : Kd α) (fs : List Field) (o : Nat) (g : α → Prop) : Prop :=
  ∀ (n : Nat) (cs : List Value) (xs : List (DataW H × List MemPlace)), xs.length = fs.length → cs.length = o + (fs.map fun f => P.cellsOf f.type).sum →
    (∀ (i : Nat) (f : Field), fs[i]? = some f → DataW.trod enc P w base spare held n f.type ((cs.drop f.offset).take (P.cellsOf f.type)) = xs[i]?) → ∃ a, d.K w a (cs.drop o) ∧ g a
variable {enc P w base spare held}
variable {α β : Type} {t e : TypeId}
theorem opens_int {k : IntKind} (ht : P.underlying t = some (.int k)) : Opens enc P w base spare held (Kd.int k) t (fun n => (Lit.int k n).wf = true) := fun fuel cs x h => by
  obtain ⟨n, rfl, _, hw⟩ := DataW.trod_int ht h
  exact ⟨n, rfl, hw⟩
theorem opens_bool (ht : P.underlying t = some .bool) : Opens enc P w base spare held Kd.bool t (fun _ => True) := fun fuel cs x h => by
  obtain ⟨b, rfl, _⟩ := DataW.trod_bool ht h
  exact ⟨b, rfl, trivial⟩
theorem opens_string (ht : P.underlying t = some .string) : Opens enc P w base spare held Kd.string t (fun s => s.size ≤ maxLen) := fun fuel cs x h => by
  obtain ⟨s, rfl, _, hs⟩ := DataW.trod_string ht h
  exact ⟨s, rfl, hs⟩
theorem opens_slice {d : Kd α} {g : α → Prop} (e' : Nat) (ht : P.underlying t = some (.slice e)) (hd : Opens enc P w base spare held d e g) (hc : P.cellsOf e = d.sz) :
    Opens enc P w base spare held (Kd.slice e' d) t (fun l => l.length ≤ maxLen ∧ ∀ a ∈ l, g a) := fun fuel cs x h => by
  rcases DataW.trod_slice ht h with ⟨rfl, _⟩ | ⟨a, len, cap, elems, rest, n, _, rfl, _, hb, hl, hm, hlen, hel, _, _⟩
  · exact ⟨[], ⟨none, 0, rfl, Nat.le_refl _, rfl, Nat.zero_le _, fun h => absurd h (Nat.lt_irrefl _)⟩, Nat.zero_le _, fun a h => by simp at h⟩
  · have each : ∀ i, i < len → ∃ z, (∃ c, c.length = d.sz ∧ d.K w z c ∧ ∀ j u, c[j]? = some u → w.cell? (a.add (i * d.sz + j)) = some u) ∧ g z := by
      intro i hi
      have h1 := hel i hi
      rw [List.getElem?_eq_getElem (by omega), Option.bind_eq_some_iff] at h1
      obtain ⟨cs', hcs, ht'⟩ := h1
      obtain ⟨z, hz, hg⟩ := hd _ _ _ ht'
      obtain ⟨_, hl', hcell⟩ := World.cells?_some hcs
      refine ⟨z, ⟨cs', by rw [← hc]; exact hl', hz, fun j u hj => ?_⟩, hg⟩
      have hj' : j < P.cellsOf e := by have := (List.getElem?_eq_some_iff.1 hj).1; omega
      have h2 := hcell j hj'
      rw [hj, hc] at h2
      have ea : (a.add (i * d.sz)).add j = a.add (i * d.sz + j) := addr_add2 a _ _
      rw [← ea]
      exact h2
    obtain ⟨l, hll, hp⟩ := list_of len each
    subst hll
    have hml : l.length ≤ maxLen := Nat.le_trans hl hm
    refine ⟨l, ⟨some a, cap, rfl, hl, rfl, Nat.le_trans hml (of_decide_eq_true (by kernel_rfl)), fun _ => ⟨a, rfl, fun j z hz => (hp j z hz).1⟩⟩, hml, fun z hz => ?_⟩
    obtain ⟨i, hi⟩ := List.getElem?_of_mem hz
    exact (hp i z hi).2
theorem opensF_one {d : Kd α} {g : α → Prop} {f : Field} {o : Nat} (ho : f.offset = o) (h : Opens enc P w base spare held d f.type g) : OpensF enc P w base spare held d [f] o g := fun n cs xs hx hl hf => by
  match xs, hx with
  | [y], _ =>
    obtain ⟨a, ha, hg⟩ := h _ _ _ (hf 0 f rfl)
    rw [List.map_cons, List.map_nil, List.sum_cons, List.sum_nil] at hl
    rw [ho, List.take_of_length_le (by rw [List.length_drop]; omega)] at ha
    exact ⟨a, ha, hg⟩
theorem opensF_cons {d : Kd α} {d2 : Kd β} {g : α → Prop} {g2 : β → Prop} {f : Field} {fs : List Field} {o : Nat} (ho : f.offset = o) (h : Opens enc P w base spare held d f.type g) (hr : OpensF enc P w base spare held d2 fs (o + P.cellsOf f.type) g2) :
    OpensF enc P w base spare held (Kd.pair d d2) (f :: fs) o (fun a => g a.1 ∧ g2 a.2) := fun n cs xs hx hl hf => by
  match xs, hx with
  | y :: ys, hx =>
    obtain ⟨a, ha, hg⟩ := h _ _ _ (hf 0 f rfl)
    rw [List.map_cons, List.sum_cons] at hl
    obtain ⟨b, hb, hg2⟩ := hr n cs ys (by simpa using hx) (by omega) (fun i f' hi => hf (i + 1) f' hi)
    rw [ho] at ha
    refine ⟨(a, b), ⟨_, _, ?_, ha, hb⟩, hg, hg2⟩
    rw [← List.drop_drop, List.take_append_drop]
theorem opens_struct {d : Kd α} {g : α → Prop} {fs : Array Field} (ht : P.underlying t = some (.struct fs)) (hc : P.cellsOf t = (fs.toList.map fun f => P.cellsOf f.type).sum) (h : OpensF enc P w base spare held d fs.toList 0 g) : Opens enc P w base spare held d t g := fun fuel cs x hx => by
  obtain ⟨xs, n, _, _, hl, hlen, hf⟩ := DataW.trod_struct ht hx
  have := h n cs xs (by rw [hlen]; simp) (by omega) (fun i f hi => hf i f (by simpa using hi))
  rw [List.drop_zero] at this
  exact this
theorem opens_iso {d : Kd α} {g : α → Prop} (f : β → α) (mk : α → β) (hmk : ∀ a, f (mk a) = a) (h : Opens enc P w base spare held d t g) : Opens enc P w base spare held (Kd.iso d f) t (fun b => g (f b)) := fun fuel cs x hx => by
  obtain ⟨a, ha, hg⟩ := h fuel cs x hx
  exact ⟨mk a, by show d.K w (f (mk a)) cs; rw [hmk]; exact ha, by show g (f (mk a)); rw [hmk]; exact hg⟩
end
end Go.Proofs.YtkgmoajdcibafaaDoor.Lem

/- No row is longer than memory. No conditions. -/
namespace Go.Proofs.YtkgmoajdcibafaaDoor.Lem
open Go Go.RowKit Go.Proofs.YtkgmoajdcibafaaDoor.P

theorem maxLen_le {n : Nat} (h : n ≤ maxLen) : n ≤ 9223372036854775807 := Nat.le_trans h (of_decide_eq_true (by kernel_rfl))
end Go.Proofs.YtkgmoajdcibafaaDoor.Lem

/- What is known of a key that comes in as an argument: its texts and rows are no longer than memory. No conditions. -/
namespace Go.Proofs.YtkgmoajdcibafaaDoor.Lem
open Go Go.RowKit Go.Proofs.YtkgmoajdcibafaaDoor.P
def GTag (t : S119) : Prop := t.f0.size ≤ maxLen ∧ t.f1.size ≤ maxLen
def GKey (k : S27) : Prop := k.f0.size ≤ maxLen ∧ (k.f1.length ≤ maxLen ∧ ∀ t ∈ k.f1, GTag t) ∧ (Lit.int .i64 k.f2).wf = true
end Go.Proofs.YtkgmoajdcibafaaDoor.Lem

/- What is known of an agg that comes in as an argument. No conditions. -/
namespace Go.Proofs.YtkgmoajdcibafaaDoor.Lem
open Go Go.RowKit Go.Proofs.YtkgmoajdcibafaaDoor.P
def GAgg (a : S92) : Prop := (Lit.int .i64 a.f0).wf = true ∧ (Lit.int .i64 a.f1).wf = true ∧ (Lit.int .i64 a.f2).wf = true ∧ (Lit.int .i64 a.f3).wf = true ∧ (a.f4.length ≤ maxLen ∧ ∀ n ∈ a.f4, (Lit.int .i64 n).wf = true) ∧ True
end Go.Proofs.YtkgmoajdcibafaaDoor.Lem

/- Marks as texts. No conditions. -/
namespace Go.Proofs.YtkgmoajdcibafaaDoor.Lem
open Go Go.RowKit Go.Proofs.YtkgmoajdcibafaaDoor.P Go.Proofs.YtkgmoajdcibafaaDoorW.PrintWords Go.Proofs.YtkgmoajdcibafaaDoorW.PrintLast Go.Proofs.YtkgmoajdcibafaaDoorW.PrintMore

def markTl : Nat → Int → ByteArray → ByteArray
  | 0, _, acc => (⟨#[109]⟩ : ByteArray) ++ acc
  | d + 1, x, acc => if x > 0 then markTl d (Int.tdiv x 10) ((strOfNums [(wrap64 (48 + (Int.tmod x 10))) % 256]) ++ acc) else (⟨#[109]⟩ : ByteArray) ++ acc
theorem markText_l0 : ∀ (d k : Nat) (x : Int) (acc : ByteArray), 0 ≤ x → x < 10 ^ d → x ≤ 9223372036854775807 → d < k → acc.size + d ≤ 1000 → laws_markText.l0 k x acc = some (markTl d x acc)
  | 0, k, x, acc, h0, h1, _, hk, ha => by
    obtain ⟨k, rfl⟩ : ∃ q, k = q + 1 := ⟨k - 1, by omega⟩
    have hx : ¬ x > 0 := by simp at h1; omega
    rw [laws_markText.l0, if_neg hx, if_pos (by omega)]
    rfl
  | d + 1, k, x, acc, h0, h1, hb, hk, ha => by
    obtain ⟨k, rfl⟩ : ∃ q, k = q + 1 := ⟨k - 1, by omega⟩
    rw [laws_markText.l0, markTl]
    by_cases hx : x > 0
    · have hz : (strOfNums [(wrap64 (48 + (Int.tmod x 10))) % 256]).size = 1 := rfl
      have e : Int.tdiv x 10 = x / 10 := Int.tdiv_eq_ediv_of_nonneg h0
      have hp : (10 : Int) ^ (d + 1) = 10 ^ d * 10 := Int.pow_succ 10 d
      have hlt : x / 10 < 10 ^ d := by omega
      have ih := markText_l0 d k (x / 10) ((strOfNums [(wrap64 (48 + (Int.tmod x 10))) % 256]) ++ acc) (by omega) hlt (by omega) (by omega) (by rw [ByteArray.size_append, hz]; omega)
      rw [if_pos hx, if_pos hx, Option.bind_some, hz, if_pos (by omega), e, w64 (by omega) (by omega)]
      exact ih
    · rw [if_neg hx, if_neg hx, if_pos (by omega)]
def markT (x : Int) : ByteArray := if x ≤ 0 then ⟨#[109, 48]⟩ else markTl 18 x ⟨#[]⟩
theorem markText_ok {x : Int} (h0 : 0 ≤ x) (h1 : x < 1000000000000000000) {k : Nat} (hk : 20 < k) : laws_markText.f k x = some (markT x) := by
  unfold laws_markText.f markT
  split
  · rfl
  · exact markText_l0 18 k x _ h0 (by simpa using h1) (by omega) (by omega) (by decide)
end Go.Proofs.YtkgmoajdcibafaaDoor.Lem

/- Marks that are written into rows, and told again: texts and tags. No conditions. -/
namespace Go.Proofs.YtkgmoajdcibafaaDoor.Lem
open Go Go.RowKit Go.Proofs.YtkgmoajdcibafaaDoor.P Go.Proofs.YtkgmoajdcibafaaDoorW.PrintWords Go.Proofs.YtkgmoajdcibafaaDoorW.PrintLast Go.Proofs.YtkgmoajdcibafaaDoorW.PrintMore

abbrev MTg := S123
def markTags : List MTg → Int → List MTg
  | [], _ => []
  | _ :: r, x => ⟨markT x, markT (x + 1)⟩ :: markTags r (x + 2)
theorem markTags_length : ∀ (l : List MTg) (x : Int), (markTags l x).length = l.length
  | [], _ => rfl
  | _ :: r, x => by rw [markTags, List.length_cons, List.length_cons, markTags_length r]
theorem rdTg_mid (pre : List MTg) (a : MTg) (rest : List MTg) : rd_T123 (pre ++ a :: rest) (pre.length : Int) = a := getD_mid _ _ _ _ rfl
theorem markTagS_l0 : ∀ (rest pre : List MTg) (k : Nat) (x : Int), 0 ≤ x → x + 2 * rest.length < 1000000000000000000 → pre.length + rest.length ≤ 1000000000 → rest.length + 21 < k →
    laws_markTagS.l0 k (pre ++ rest) x (pre.length : Int) = some (x + 2 * rest.length, pre ++ markTags rest x)
  | [], pre, k, x, h0, h1, h2, hk => by
    obtain ⟨k, rfl⟩ : ∃ q, k = q + 1 := ⟨k - 1, by omega⟩
    rw [laws_markTagS.l0, if_neg (by rw [List.append_nil]; omega), List.append_nil, markTags, List.append_nil]
    simp
  | a :: rest, pre, k, x, h0, h1, h2, hk => by
    obtain ⟨k, rfl⟩ : ∃ q, k = q + 1 := ⟨k - 1, by omega⟩
    rw [List.length_cons] at h1 h2 hk
    have ih := markTagS_l0 rest (pre ++ [⟨markT x, markT (x + 1)⟩]) k (x + 2) (by omega) (by omega) (by rw [List.length_append, List.length_singleton]; omega) (by omega)
    rw [laws_markTagS.l0, if_pos (by rw [List.length_append, List.length_cons]; omega), markText_ok h0 (by omega) (by omega), Option.bind_some, if_pos (by omega), Int.toNat_natCast, set_mid _ _ _ _ rfl, Option.bind_some,
      w64 (by omega) (by omega), markText_ok (by omega) (by omega) (by omega), Option.bind_some, set_mid _ _ _ _ rfl, rdTg_mid, rdTg_mid, w64 (x := x + 1 + 1) (by omega) (by omega), show wrap64 ((pre.length : Int) + 1) = ((pre ++ [(⟨markT x, markT (x + 1)⟩ : MTg)]).length : Int) from by rw [w64 (by omega) (by omega), List.length_append, List.length_singleton]; omega, show x + 1 + 1 = x + 2 from by omega]
    rw [List.append_assoc, List.singleton_append] at ih
    rw [ih, markTags, List.length_cons, List.append_assoc, List.singleton_append]
    congr 2
    omega
theorem markTagS_ok (l : List MTg) {k : Nat} {x : Int} (h0 : 0 ≤ x) (h1 : x + 2 * l.length < 1000000000000000000) (h2 : l.length ≤ 1000000000) (hk : l.length + 21 < k) : laws_markTagS.f k l x = some (x + 2 * l.length, markTags l x) := markTagS_l0 l [] k x h0 h1 (by simpa using h2) hk
theorem heldTagS_l0 : ∀ (rest pre : List MTg) (k : Nat) (x : Int), 0 ≤ x → x + 2 * rest.length < 1000000000000000000 → pre.length + rest.length ≤ 1000000000 → rest.length + 21 < k →
    laws_heldTagS.l0 k (pre ++ markTags rest x) x (pre.length : Int) = some (x + 2 * rest.length)
  | [], pre, k, x, h0, h1, h2, hk => by
    obtain ⟨k, rfl⟩ : ∃ q, k = q + 1 := ⟨k - 1, by omega⟩
    rw [laws_heldTagS.l0, markTags, List.append_nil, if_neg (by omega)]
    simp
  | a :: rest, pre, k, x, h0, h1, h2, hk => by
    obtain ⟨k, rfl⟩ : ∃ q, k = q + 1 := ⟨k - 1, by omega⟩
    rw [List.length_cons] at h1 h2 hk
    have ih := heldTagS_l0 rest (pre ++ [⟨markT x, markT (x + 1)⟩]) k (x + 2) (by omega) (by omega) (by rw [List.length_append, List.length_singleton]; omega) (by omega)
    rw [List.append_assoc, List.singleton_append] at ih
    rw [laws_heldTagS.l0, markTags, if_pos (by rw [List.length_append, List.length_cons]; omega), if_pos (by omega), markText_ok h0 (by omega) (by omega), Option.bind_some, rdTg_mid, if_pos rfl, w64 (by omega) (by omega), markText_ok (by omega) (by omega) (by omega), Option.bind_some, if_pos rfl,
      w64 (x := x + 1 + 1) (by omega) (by omega), show wrap64 ((pre.length : Int) + 1) = ((pre ++ [(⟨markT x, markT (x + 1)⟩ : MTg)]).length : Int) from by rw [w64 (by omega) (by omega), List.length_append, List.length_singleton]; omega, show x + 1 + 1 = x + 2 from by omega, ih, List.length_cons]
    congr 1
    omega
theorem heldTagS_ok (l : List MTg) {k : Nat} {x : Int} (h0 : 0 ≤ x) (h1 : x + 2 * l.length < 1000000000000000000) (h2 : l.length ≤ 1000000000) (hk : l.length + 21 < k) : laws_heldTagS.f k (markTags l x) x = some (x + 2 * l.length) := heldTagS_l0 l [] k x h0 h1 (by simpa using h2) hk
end Go.Proofs.YtkgmoajdcibafaaDoor.Lem

/- Marks in rows of numbers, written and told again. No conditions. -/
namespace Go.Proofs.YtkgmoajdcibafaaDoor.Lem
open Go Go.RowKit Go.Proofs.YtkgmoajdcibafaaDoor.P Go.Proofs.YtkgmoajdcibafaaDoorW.PrintWords Go.Proofs.YtkgmoajdcibafaaDoorW.PrintLast Go.Proofs.YtkgmoajdcibafaaDoorW.PrintMore

def markInts : List Int → Int → List Int
  | [], _ => []
  | _ :: r, x => x :: markInts r (x + 1)
theorem markInts_length : ∀ (l : List Int) (x : Int), (markInts l x).length = l.length
  | [], _ => rfl
  | _ :: r, x => by rw [markInts, List.length_cons, List.length_cons, markInts_length r]
theorem markIntS_l0 : ∀ (rest pre : List Int) (k : Nat) (x : Int), 0 ≤ x → x + rest.length < 1000000000000000000 → pre.length + rest.length ≤ 1000000000 → rest.length < k →
    laws_markIntS.l0 k (pre ++ rest) x (pre.length : Int) = some (x + rest.length, pre ++ markInts rest x)
  | [], pre, k, x, h0, h1, h2, hk => by
    obtain ⟨k, rfl⟩ : ∃ q, k = q + 1 := ⟨k - 1, by omega⟩
    rw [laws_markIntS.l0, if_neg (by rw [List.append_nil]; omega), List.append_nil, markInts, List.append_nil]
    simp
  | a :: rest, pre, k, x, h0, h1, h2, hk => by
    obtain ⟨k, rfl⟩ : ∃ q, k = q + 1 := ⟨k - 1, by omega⟩
    rw [List.length_cons] at h1 h2 hk
    have ih := markIntS_l0 rest (pre ++ [x]) k (x + 1) (by omega) (by omega) (by rw [List.length_append, List.length_singleton]; omega) (by omega)
    rw [laws_markIntS.l0, if_pos (by rw [List.length_append, List.length_cons]; omega), if_pos (by omega), Int.toNat_natCast, set_mid _ _ _ _ rfl, w64 (by omega) (by omega),
      show wrap64 ((pre.length : Int) + 1) = ((pre ++ [x]).length : Int) from by rw [w64 (by omega) (by omega), List.length_append, List.length_singleton]; omega]
    rw [List.append_assoc, List.singleton_append] at ih
    rw [ih, markInts, List.length_cons, List.append_assoc, List.singleton_append]
    congr 2
    omega
theorem markIntS_ok (l : List Int) {k : Nat} {x : Int} (h0 : 0 ≤ x) (h1 : x + l.length < 1000000000000000000) (h2 : l.length ≤ 1000000000) (hk : l.length < k) : laws_markIntS.f k l x = some (x + l.length, markInts l x) := markIntS_l0 l [] k x h0 h1 (by simpa using h2) hk
theorem heldIntS_l0 : ∀ (rest pre : List Int) (k : Nat) (x : Int), 0 ≤ x → x + rest.length < 1000000000000000000 → pre.length + rest.length ≤ 1000000000 → rest.length < k →
    laws_heldIntS.l0 k (pre ++ markInts rest x) x (pre.length : Int) = some (x + rest.length)
  | [], pre, k, x, h0, h1, h2, hk => by
    obtain ⟨k, rfl⟩ : ∃ q, k = q + 1 := ⟨k - 1, by omega⟩
    rw [laws_heldIntS.l0, markInts, List.append_nil, if_neg (by omega)]
    simp
  | a :: rest, pre, k, x, h0, h1, h2, hk => by
    obtain ⟨k, rfl⟩ : ∃ q, k = q + 1 := ⟨k - 1, by omega⟩
    rw [List.length_cons] at h1 h2 hk
    have ih := heldIntS_l0 rest (pre ++ [x]) k (x + 1) (by omega) (by omega) (by rw [List.length_append, List.length_singleton]; omega) (by omega)
    rw [List.append_assoc, List.singleton_append] at ih
    rw [laws_heldIntS.l0, markInts, if_pos (by rw [List.length_append, List.length_cons]; omega), if_pos (by omega), show rd (pre ++ x :: markInts rest (x + 1)) (pre.length : Int) = x from getD_mid _ _ _ _ rfl, if_pos rfl, w64 (by omega) (by omega),
      show wrap64 ((pre.length : Int) + 1) = ((pre ++ [x]).length : Int) from by rw [w64 (by omega) (by omega), List.length_append, List.length_singleton]; omega, ih, List.length_cons]
    congr 1
    omega
theorem heldIntS_ok (l : List Int) {k : Nat} {x : Int} (h0 : 0 ≤ x) (h1 : x + l.length < 1000000000000000000) (h2 : l.length ≤ 1000000000) (hk : l.length < k) : laws_heldIntS.f k (markInts l x) x = some (x + l.length) := heldIntS_l0 l [] k x h0 h1 (by simpa using h2) hk
end Go.Proofs.YtkgmoajdcibafaaDoor.Lem

/- Marks that are written into what is told, and told again; and equality. No conditions. -/
namespace Go.Proofs.YtkgmoajdcibafaaDoor.Lem
open Go Go.RowKit Go.Proofs.YtkgmoajdcibafaaDoor.P Go.Proofs.YtkgmoajdcibafaaDoorW.PrintWords Go.Proofs.YtkgmoajdcibafaaDoorW.PrintLast Go.Proofs.YtkgmoajdcibafaaDoorW.PrintMore
abbrev MTd := S96
def yD (w : MTd) (x : Int) : Int := x + 1 + 2 * (w.f0.f1.length : Int)
def zD (w : MTd) (x : Int) : Int := yD w x + 1 + 1 + 1 + 1 + 1 + 1 + (w.f2.f4.length : Int)
def markDY (w : MTd) (x y z : Int) : MTd := ⟨⟨markT x, markTags w.f0.f1 (x + 1), y⟩, y + 1, ⟨y + 1 + 1, y + 1 + 1 + 1, y + 1 + 1 + 1 + 1, y + 1 + 1 + 1 + 1 + 1, markInts w.f2.f4 (y + 1 + 1 + 1 + 1 + 1 + 1), Int.tmod z 3 == 0⟩⟩
def markD (w : MTd) (x : Int) : MTd := markDY w x (yD w x) (zD w x)
def markDs : List MTd → Int → List MTd
  | [], _ => []
  | w :: r, x => markD w x :: markDs r (zD w x + 1)
def endD : List MTd → Int → Int
  | [], x => x
  | w :: r, x => endD r (zD w x + 1)
theorem zD_eq (w : MTd) (x : Int) : zD w x = x + 7 + 2 * (w.f0.f1.length : Int) + (w.f2.f4.length : Int) := by unfold zD yD; omega
def RowsD (l : List MTd) : Prop := ∀ w ∈ l, w.f0.f1.length ≤ 1048576 ∧ w.f2.f4.length ≤ 1048576
theorem endD_le : ∀ (l : List MTd) (x : Int), RowsD l → x ≤ endD l x ∧ endD l x ≤ x + 4194304 * (l.length : Int)
  | [], x, _ => by simp [endD]
  | w :: r, x, h => by
    have ih := endD_le r (zD w x + 1) (fun v hv => h v (List.mem_cons_of_mem _ hv))
    have hw := h w List.mem_cons_self
    rw [endD, List.length_cons]
    rw [zD_eq] at ih ⊢
    omega
theorem rdD_mid (pre : List MTd) (a : MTd) (rest : List MTd) : rd_T96 (pre ++ a :: rest) (pre.length : Int) = a := getD_mid _ _ _ _ rfl
theorem markToldS_l0 : ∀ (rest pre : List MTd) (k : Nat) (x : Int), 0 ≤ x → x + 4194304 * (rest.length : Int) < 1000000000000000000 → pre.length + rest.length ≤ 1000000000 → RowsD rest → rest.length + 1048600 < k →
    laws_markToldS.l0 k (pre ++ rest) x (pre.length : Int) = some (endD rest x, pre ++ markDs rest x)
  | [], pre, k, x, h0, h1, h2, h3, hk => by
    obtain ⟨k, rfl⟩ : ∃ q, k = q + 1 := ⟨k - 1, by omega⟩
    rw [laws_markToldS.l0, if_neg (by rw [List.append_nil]; omega), List.append_nil, markDs, List.append_nil]
    rfl
  | a :: rest, pre, k, x, h0, h1, h2, h3, hk => by
    obtain ⟨k, rfl⟩ : ∃ q, k = q + 1 := ⟨k - 1, by omega⟩
    rw [List.length_cons] at h1 h2 hk
    obtain ⟨t1, t2⟩ := h3 a List.mem_cons_self
    have hz := zD_eq a x
    have hy : yD a x = x + 1 + 2 * (a.f0.f1.length : Int) := rfl
    have ih := markToldS_l0 rest (pre ++ [markD a x]) k (zD a x + 1) (by omega) (by omega) (by rw [List.length_append, List.length_singleton]; omega) (fun v hv => h3 v (List.mem_cons_of_mem _ hv)) (by omega)
    rw [List.append_assoc, List.singleton_append] at ih
    rw [laws_markToldS.l0, if_pos (by rw [List.length_append, List.length_cons]; omega), if_pos (by omega), markText_ok h0 (by omega) (by omega), Option.bind_some, rdD_mid,
      w64 (x := x + 1) (by omega) (by omega), markTagS_ok _ (by omega) (by omega) (by omega) (by omega), Option.bind_some]
    dsimp only
    rw [show x + 1 + 2 * (a.f0.f1.length : Int) = yD a x from rfl, w64 (x := yD a x + 1) (by omega) (by omega), w64 (x := yD a x + 1 + 1) (by omega) (by omega), w64 (x := yD a x + 1 + 1 + 1) (by omega) (by omega), w64 (x := yD a x + 1 + 1 + 1 + 1) (by omega) (by omega), w64 (x := yD a x + 1 + 1 + 1 + 1 + 1) (by omega) (by omega), w64 (x := yD a x + 1 + 1 + 1 + 1 + 1 + 1) (by omega) (by omega),
      markIntS_ok _ (by omega) (by omega) (by omega) (by omega), Option.bind_some]
    dsimp only
    rw [show yD a x + 1 + 1 + 1 + 1 + 1 + 1 + (a.f2.f4.length : Int) = zD a x from rfl, w64 (x := zD a x + 1) (by omega) (by omega), Int.toNat_natCast, set_mid _ _ _ _ rfl,
      show wrap64 ((pre.length : Int) + 1) = ((pre ++ [markD a x]).length : Int) from by rw [w64 (by omega) (by omega), List.length_append, List.length_singleton]; omega]
    rw [endD, markDs]
    refine Eq.trans ?_ (ih.trans ?_)
    · rfl
    · rw [List.append_assoc, List.singleton_append]
theorem markToldS_ok (l : List MTd) {k : Nat} {x : Int} (h0 : 0 ≤ x) (h1 : x ≤ 100000000000000) (h2 : l.length ≤ 1048576) (h3 : RowsD l) (hk : 2097180 < k) : laws_markToldS.f k l x = some (endD l x, markDs l x) := markToldS_l0 l [] k x h0 (by omega) (by simpa using (by omega : l.length ≤ 1000000000)) h3 (by omega)
theorem heldToldS_l0 : ∀ (rest pre : List MTd) (k : Nat) (x : Int), 0 ≤ x → x + 4194304 * (rest.length : Int) < 1000000000000000000 → pre.length + rest.length ≤ 1000000000 → RowsD rest → rest.length + 1048600 < k →
    laws_heldToldS.l0 k (pre ++ markDs rest x) x (pre.length : Int) = some (endD rest x)
  | [], pre, k, x, h0, h1, h2, h3, hk => by
    obtain ⟨k, rfl⟩ : ∃ q, k = q + 1 := ⟨k - 1, by omega⟩
    rw [laws_heldToldS.l0, markDs, List.append_nil, if_neg (by omega)]
    rfl
  | a :: rest, pre, k, x, h0, h1, h2, h3, hk => by
    obtain ⟨k, rfl⟩ : ∃ q, k = q + 1 := ⟨k - 1, by omega⟩
    rw [List.length_cons] at h1 h2 hk
    obtain ⟨t1, t2⟩ := h3 a List.mem_cons_self
    have hz := zD_eq a x
    have hy : yD a x = x + 1 + 2 * (a.f0.f1.length : Int) := rfl
    have ih := heldToldS_l0 rest (pre ++ [markD a x]) k (zD a x + 1) (by omega) (by omega) (by rw [List.length_append, List.length_singleton]; omega) (fun v hv => h3 v (List.mem_cons_of_mem _ hv)) (by omega)
    rw [List.append_assoc, List.singleton_append] at ih
    rw [laws_heldToldS.l0, markDs, if_pos (by rw [List.length_append, List.length_cons]; omega), if_pos (by omega), markText_ok h0 (by omega) (by omega), Option.bind_some, rdD_mid, if_pos (show (markD a x).f0.f0.toList = (markT x).toList from rfl),
      w64 (x := x + 1) (by omega) (by omega), show (markD a x).f0.f1 = markTags a.f0.f1 (x + 1) from rfl, heldTagS_ok _ (by omega) (by omega) (by omega) (by omega), Option.bind_some, show x + 1 + 2 * (a.f0.f1.length : Int) = yD a x from rfl,
      if_neg (by omega), if_pos (show (markD a x).f0.f2 = yD a x from rfl), w64 (x := yD a x + 1) (by omega) (by omega), if_pos (show (markD a x).f1 = yD a x + 1 from rfl), w64 (x := yD a x + 1 + 1) (by omega) (by omega), if_pos (show (markD a x).f2.f0 = yD a x + 1 + 1 from rfl),
      w64 (x := yD a x + 1 + 1 + 1) (by omega) (by omega), if_pos (show (markD a x).f2.f1 = yD a x + 1 + 1 + 1 from rfl), w64 (x := yD a x + 1 + 1 + 1 + 1) (by omega) (by omega), if_pos (show (markD a x).f2.f2 = yD a x + 1 + 1 + 1 + 1 from rfl), w64 (x := yD a x + 1 + 1 + 1 + 1 + 1) (by omega) (by omega), if_pos (show (markD a x).f2.f3 = yD a x + 1 + 1 + 1 + 1 + 1 from rfl), w64 (x := yD a x + 1 + 1 + 1 + 1 + 1 + 1) (by omega) (by omega),
      show (markD a x).f2.f4 = markInts a.f2.f4 (yD a x + 1 + 1 + 1 + 1 + 1 + 1) from rfl, heldIntS_ok _ (by omega) (by omega) (by omega) (by omega), Option.bind_some, show yD a x + 1 + 1 + 1 + 1 + 1 + 1 + (a.f2.f4.length : Int) = zD a x from rfl,
      if_neg (by omega), show (markD a x).f2.f5 = (Int.tmod (zD a x) 3 == 0) from rfl, bne_self_eq_false, if_neg (by decide), w64 (x := zD a x + 1) (by omega) (by omega),
      show wrap64 ((pre.length : Int) + 1) = ((pre ++ [markD a x]).length : Int) from by rw [w64 (by omega) (by omega), List.length_append, List.length_singleton]; omega, ih, endD]
theorem heldToldS_ok (l : List MTd) {k : Nat} {x : Int} (h0 : 0 ≤ x) (h1 : x ≤ 100000000000000) (h2 : l.length ≤ 1048576) (h3 : RowsD l) (hk : 2097180 < k) : laws_heldToldS.f k (markDs l x) x = some (endD l x) := heldToldS_l0 l [] k x h0 (by omega) (by simpa using (by omega : l.length ≤ 1000000000)) h3 (by omega)
theorem eqToldS_l0 (l : List MTd) (hl : l.length ≤ 1048576) (hh : RowsD l) : ∀ (d i k : Nat), i + d = l.length → d + 1048580 < k → laws_eqToldS.l0 k l l (i : Int) = some true := by
  intro d
  induction d with
  | zero =>
    intro i k hi hk
    obtain ⟨k, rfl⟩ : ∃ q, k = q + 1 := ⟨k - 1, by omega⟩
    rw [laws_eqToldS.l0, if_neg (by omega)]
  | succ d ih =>
    intro i k hi hk
    obtain ⟨k, rfl⟩ : ∃ q, k = q + 1 := ⟨k - 1, by omega⟩
    have hlt : i < l.length := by omega
    have e : rd_T96 l (i : Int) = l[i] := by
      unfold rd_T96
      rw [Int.toNat_natCast, List.getD_eq_getElem?_getD, List.getElem?_eq_getElem hlt]
      rfl
    have h2 := hh l[i] (List.getElem_mem hlt)
    rw [laws_eqToldS.l0, if_pos (by omega), if_pos (by omega), if_pos (by omega), e]
    unfold laws_eqTold.f
    rw [eqKey_ok _ h2.1 _ (by omega), Option.bind_some, if_pos rfl, if_pos rfl, eqAgg_ok l[i].f2.f0 l[i].f2.f1 l[i].f2.f2 l[i].f2.f3 h2.2 l[i].f2.f5 (by omega), Option.bind_some, if_pos rfl, Option.bind_some, if_pos rfl, w64 (by omega) (by omega)]
    exact ih (i + 1) k (by omega) (by omega)
theorem eqToldS_ok {l : List MTd} (hl : l.length ≤ 1048576) (hh : RowsD l) {k : Nat} (hk : 2097160 < k) : laws_eqToldS.f k l l = some true := by
  unfold laws_eqToldS.f
  rw [if_pos rfl]
  exact eqToldS_l0 l hl hh l.length 0 k (by omega) (by omega)
end Go.Proofs.YtkgmoajdcibafaaDoor.Lem

/- The order of texts: words with ends that are less than every letter are in the order of their letters. -/
namespace Go.Proofs.YtkgmoajdcibafaaDoor.Lem
open Go

theorem less_irrefl : ∀ x : List UInt8, Op.bytesLess x x = false
  | [] => rfl
  | a :: x => by
    rw [Op.bytesLess, less_irrefl x, Bool.and_false, Bool.or_false]
    exact decide_eq_false (by rw [UInt8.lt_iff_toNat_lt]; omega)

theorem less_cons (a b : UInt8) (x y : List UInt8) : Op.bytesLess (a :: x) (b :: y) = if a = b then Op.bytesLess x y else decide (a < b) := by
  rw [Op.bytesLess]
  by_cases h : a = b
  · subst h
    rw [if_pos rfl, beq_self_eq_true, Bool.true_and, decide_eq_false (by rw [UInt8.lt_iff_toNat_lt]; omega), Bool.false_or]
  · rw [if_neg h, beq_eq_false_iff_ne.2 h, Bool.false_and, Bool.or_false]

/-- The order of two texts as a number. -/
def ord (x y : List UInt8) : Int := if Op.bytesLess x y = true then -1 else if Op.bytesLess y x = true then 1 else 0
theorem ord_self (x : List UInt8) : ord x x = 0 := by
  unfold ord
  rw [less_irrefl, if_neg (by decide), if_neg (by decide)]
theorem ord_cons (a b : UInt8) (x y : List UInt8) : ord (a :: x) (b :: y) = if a = b then ord x y else if a < b then -1 else 1 := by
  unfold ord
  rw [less_cons, less_cons]
  by_cases h : a = b
  · subst h
    rw [if_pos rfl, if_pos rfl, if_pos rfl]
  · rw [if_neg h, if_neg (Ne.symm h), if_neg h]
    have hn : a.toNat ≠ b.toNat := fun e => h (UInt8.toNat_inj.1 e)
    by_cases hl : a < b
    · rw [if_pos (decide_eq_true hl), if_pos hl]
    · rw [if_neg (by simpa using hl), if_neg hl]
      rw [UInt8.lt_iff_toNat_lt] at hl
      rw [if_pos (decide_eq_true (by rw [UInt8.lt_iff_toNat_lt]; omega))]
theorem ord_nil_cons (b : UInt8) (y : List UInt8) : ord [] (b :: y) = -1 := rfl
theorem ord_cons_nil (b : UInt8) (y : List UInt8) : ord (b :: y) [] = 1 := rfl

/-- Words whose ends are less than each letter. -/
theorem ord_ends : ∀ (a b : List UInt8) (c d : UInt8) (x y : List UInt8), (∀ h ∈ a, d < h) → (∀ h ∈ b, c < h) →
    ord (a ++ c :: x) (b ++ d :: y) = if a = b then ord (c :: x) (d :: y) else ord a b
  | [], [], c, d, x, y, _, _ => by rw [if_pos rfl]; rfl
  | [], g :: b, c, d, x, y, _, hb => by
    have h1 : c < g := hb g (List.mem_cons_self ..)
    have hne : c ≠ g := fun e => by subst e; rw [UInt8.lt_iff_toNat_lt] at h1; omega
    rw [if_neg (by simp), ord_nil_cons, List.nil_append, List.cons_append, ord_cons, if_neg hne, if_pos h1]
  | h :: a, [], c, d, x, y, ha, _ => by
    have h1 : d < h := ha h (List.mem_cons_self ..)
    have h2 : ¬ h < d := by rw [UInt8.lt_iff_toNat_lt] at h1 ⊢; omega
    have hne : h ≠ d := fun e => by subst e; exact h2 h1
    rw [if_neg (by simp), ord_cons_nil, List.nil_append, List.cons_append, ord_cons, if_neg hne, if_neg h2]
  | h :: a, g :: b, c, d, x, y, ha, hb => by
    have ih := ord_ends a b c d x y (fun q hq => ha q (List.mem_cons_of_mem _ hq)) (fun q hq => hb q (List.mem_cons_of_mem _ hq))
    rw [List.cons_append, List.cons_append, ord_cons h g (a ++ c :: x) (b ++ d :: y), ord_cons h g a b, ih]
    by_cases e : h = g
    · subst e
      rw [if_pos rfl, if_pos rfl]
      by_cases e2 : a = b
      · rw [if_pos e2, if_pos (by rw [e2])]
      · rw [if_neg e2, if_neg (by simpa using e2)]
    · rw [if_neg e, if_neg e, if_neg (show ¬ (h :: a = g :: b) from fun q => e (by injection q))]

theorem ord_eq_zero : ∀ {a b : List UInt8}, ord a b = 0 → a = b
  | [], [], _ => rfl
  | [], g :: b, h => by rw [ord_nil_cons] at h; exact absurd h (by decide)
  | x :: a, [], h => by rw [ord_cons_nil] at h; exact absurd h (by decide)
  | x :: a, g :: b, h => by
    rw [ord_cons] at h
    by_cases e : x = g
    · subst e
      rw [if_pos rfl] at h
      rw [ord_eq_zero h]
    · rw [if_neg e] at h
      split at h <;> exact absurd h (by decide)
end Go.Proofs.YtkgmoajdcibafaaDoor.Lem

/- Two texts and two numbers compared, and the first of numbers that is not nought. No conditions. -/
namespace Go.Proofs.YtkgmoajdcibafaaDoor.Lem
open Go Go.RowKit Go.Proofs.YtkgmoajdcibafaaDoor.P Go.Proofs.YtkgmoajdcibafaaDoorW.PrintWords Go.Proofs.YtkgmoajdcibafaaDoorW.PrintLast Go.Proofs.YtkgmoajdcibafaaDoorW.PrintMore

def ordB (a b : ByteArray) : Int := ord a.data.toList b.data.toList
def sgnI (a b : Int) : Int := if a < b then -1 else if a > b then 1 else 0
theorem cmpS_ok (a b : ByteArray) : cmp_Compare_string.f a b = some (ordB a b) := by
  unfold cmp_Compare_string.f cmp_isNaN_string.f
  rw [bne_self_eq_false, bne_self_eq_false, Option.bind_some, Option.bind_some, if_neg (by decide), if_neg (by decide)]
  unfold ordB ord
  rw [Go.Lib.toList_data, Go.Lib.toList_data]
  split
  · rfl
  · split <;> rfl
theorem cmpI_ok (a b : Int) : cmp_Compare_int.f a b = some (sgnI a b) := by
  unfold cmp_Compare_int.f cmp_isNaN_int.f
  rw [bne_self_eq_false, bne_self_eq_false, Option.bind_some, Option.bind_some, if_neg (by decide), if_neg (by decide)]
  unfold sgnI
  split
  · rfl
  · split <;> rfl
theorem or2_ok (x y : Int) (k : Nat) : cmp_Or_int.f (k + 3) [x, y] = some (if x = 0 then y else x) := by
  unfold cmp_Or_int.f
  show cmp_Or_int.l0 (k + 3) 0 [x, y] 2 0 = _
  rw [cmp_Or_int.l0, if_pos (by decide), if_pos (by decide), if_pos (show (0 : Int) < ([x, y].length : Int) from (by decide : (0 : Int) < ((2 : Nat) : Int))), show rd [x, y] 0 = x from rfl]
  by_cases h : x = 0
  · rw [if_pos h, if_pos h, show wrap64 (0 + 1) = 1 from w64 (by decide) (by decide), cmp_Or_int.l0, if_pos (by decide), if_pos (by decide), if_pos (show (1 : Int) < ([x, y].length : Int) from (by decide : (1 : Int) < ((2 : Nat) : Int))), show rd [x, y] 1 = y from rfl]
    by_cases h2 : y = 0
    · rw [if_pos h2, show wrap64 (1 + 1) = 2 from w64 (by decide) (by decide), cmp_Or_int.l0, if_neg (by decide), h2]
    · rw [if_neg h2]
  · rw [if_neg h, if_neg h]
theorem or3_ok (x y z : Int) (k : Nat) : cmp_Or_int.f (k + 4) [x, y, z] = some (if x = 0 then (if y = 0 then z else y) else x) := by
  unfold cmp_Or_int.f
  show cmp_Or_int.l0 (k + 4) 0 [x, y, z] 3 0 = _
  rw [cmp_Or_int.l0, if_pos (by decide), if_pos (by decide), if_pos (show (0 : Int) < ([x, y, z].length : Int) from (by decide : (0 : Int) < ((3 : Nat) : Int))), show rd [x, y, z] 0 = x from rfl]
  by_cases h : x = 0
  · rw [if_pos h, if_pos h, show wrap64 (0 + 1) = 1 from w64 (by decide) (by decide), cmp_Or_int.l0, if_pos (by decide), if_pos (by decide), if_pos (show (1 : Int) < ([x, y, z].length : Int) from (by decide : (1 : Int) < ((3 : Nat) : Int))), show rd [x, y, z] 1 = y from rfl]
    by_cases h2 : y = 0
    · rw [if_pos h2, if_pos h2, show wrap64 (1 + 1) = 2 from w64 (by decide) (by decide), cmp_Or_int.l0, if_pos (by decide), if_pos (by decide), if_pos (show (2 : Int) < ([x, y, z].length : Int) from (by decide : (2 : Int) < ((3 : Nat) : Int))), show rd [x, y, z] 2 = z from rfl]
      by_cases h3 : z = 0
      · rw [if_pos h3, show wrap64 (2 + 1) = 3 from w64 (by decide) (by decide), cmp_Or_int.l0, if_neg (by decide), h3]
      · rw [if_neg h3]
    · rw [if_neg h2, if_neg h2]
  · rw [if_neg h, if_neg h]
end Go.Proofs.YtkgmoajdcibafaaDoor.Lem

/- Two good keys compared: the program's CompareKeys and the specification's comparison give one number. -/
namespace Go.Proofs.YtkgmoajdcibafaaDoor.Lem
open Go Go.RowKit Go.Proofs.YtkgmoajdcibafaaDoor.P Go.Proofs.YtkgmoajdcibafaaDoorW.PrintWords Go.Proofs.YtkgmoajdcibafaaDoorW.PrintLast Go.Proofs.YtkgmoajdcibafaaDoorW.PrintMore

/-- Tags in line. -/
def ordT : List Tg → List Tg → Int
  | [], [] => 0
  | [], _ :: _ => -1
  | _ :: _, [] => 1
  | a :: x, b :: y => if ordB a.f0 b.f0 = 0 then (if ordB a.f1 b.f1 = 0 then ordT x y else ordB a.f1 b.f1) else ordB a.f0 b.f0
def keyOrd (m : ByteArray) (l : List Tg) (s : Int) (m' : ByteArray) (l' : List Tg) (s' : Int) : Int :=
  if ordB m m' = 0 then (if ordT l l' = 0 then sgnI s s' else ordT l l') else ordB m m'

theorem l1Text_ok (a b : ByteArray) : spec_l1Text.f a b = some (ordB a b) := by
  unfold spec_l1Text.f ordB ord
  rw [Go.Lib.toList_data, Go.Lib.toList_data]
  split
  · rfl
  · split <;> rfl
theorem cmpTag_ok (a b : Tg) {k : Nat} (hk : 3 < k) : impl_CompareKeys_1.f k a.f0 a.f1 b.f0 b.f1 = some (if ordB a.f0 b.f0 = 0 then ordB a.f1 b.f1 else ordB a.f0 b.f0) := by
  obtain ⟨k, rfl⟩ : ∃ q, k = q + 3 := ⟨k - 3, by omega⟩
  unfold impl_CompareKeys_1.f
  rw [cmpS_ok, cmpS_ok, Option.bind_some, Option.bind_some, or2_ok, Option.bind_some]

theorem implTags_l0 (l l' : List Tg) (hl : l.length ≤ 4) : ∀ (d i k : Nat), i + d = l.length → i ≤ l'.length → d + 6 < k →
    impl_Tag_with_impl_CompareKeys_1.l0 k l l' l (l.length : Int) (i : Int) = some (ordT (l.drop i) (l'.drop i)) := by
  intro d
  induction d with
  | zero =>
    intro i k hi hi' hk
    obtain ⟨k, rfl⟩ : ∃ q, k = q + 1 := ⟨k - 1, by omega⟩
    rw [impl_Tag_with_impl_CompareKeys_1.l0, if_neg (by omega), List.drop_of_length_le (show l.length ≤ i by omega)]
    by_cases h : l.length < l'.length
    · rw [if_pos (by omega), drop_get (show i < l'.length by omega)]
      rfl
    · rw [if_neg (by omega), List.drop_of_length_le (show l'.length ≤ i by omega)]
      rfl
  | succ d ih =>
    intro i k hi hi' hk
    obtain ⟨k, rfl⟩ : ∃ q, k = q + 1 := ⟨k - 1, by omega⟩
    have hlt : i < l.length := by omega
    have e0 : rd_T123 l (i : Int) = l[i] := rdT_get hlt
    rw [impl_Tag_with_impl_CompareKeys_1.l0, if_pos (by omega), if_pos (by omega), if_pos (by omega), drop_get hlt]
    by_cases h : i < l'.length
    · have e1 : rd_T123 l' (i : Int) = l'[i] := rdT_get h
      have hnext := ih (i + 1) k (by omega) (by omega) (by omega)
      rw [if_neg (by omega), if_pos (by omega), e0, e1, cmpTag_ok _ _ (by omega), Option.bind_some, drop_get h, ordT, show wrap64 ((i : Int) + 1) = ((i + 1 : Nat) : Int) from by rw [w64 (by omega) (by omega)]; omega, hnext]
      by_cases h1 : ordB l[i].f0 l'[i].f0 = 0
      · rw [if_pos h1, if_pos h1]
        by_cases h2 : ordB l[i].f1 l'[i].f1 = 0
        · rw [if_pos h2, if_pos h2]
        · rw [if_neg h2, if_neg h2]
      · rw [if_neg h1, if_neg h1, if_neg h1]
    · rw [if_pos (by omega), List.drop_of_length_le (show l'.length ≤ i by omega)]
      rfl
theorem implTags_ok (l l' : List Tg) (hl : l.length ≤ 4) {k : Nat} (hk : 12 < k) : impl_Tag_with_impl_CompareKeys_1.f k l l' = some (ordT l l') := by
  unfold impl_Tag_with_impl_CompareKeys_1.f
  have h := implTags_l0 l l' hl l.length 0 k (by omega) (by omega) (by omega)
  rw [List.drop_zero, List.drop_zero] at h
  exact h
theorem implCompare_ok {m m' : ByteArray} {l l' : List Tg} {s s' : Int} (h : keyB m l s = true) (h' : keyB m' l' s' = true) {k : Nat} (hk : 20 < k) : impl_CompareKeys.f k m l s m' l' s' = some (keyOrd m l s m' l' s') := by
  obtain ⟨k, rfl⟩ : ∃ q, k = q + 5 := ⟨k - 5, by omega⟩
  obtain ⟨_, hl, _⟩ := keyB_parts h
  unfold impl_CompareKeys.f
  rw [implKey_ok _ _ _ (by omega), implKey_ok _ _ _ (by omega), h, h', Option.bind_some, if_pos rfl, Option.bind_some, impl_CompareKeys.j0, if_neg (by decide), implTags_ok l l' hl (by omega), cmpS_ok, cmpI_ok, Option.bind_some, Option.bind_some, Option.bind_some, or3_ok, Option.bind_some]
  rfl

theorem specCmp_j2 (x : Int) (k : Nat) : spec_l1Compare.j2 (k + 1) x = some (sgnI x 0) := by
  rw [spec_l1Compare.j2]
  unfold sgnI
  split
  · rfl
  · split <;> rfl
theorem specCmp_l0 (m m' : ByteArray) (l l' : List Tg) (hl : l.length ≤ 4) (hl' : l'.length ≤ 4) {s s' : Int} (h0 : 0 ≤ s ∧ s ≤ 1000000000) (h1 : 0 ≤ s' ∧ s' ≤ 1000000000) : ∀ (d i k : Nat), i + d = l.length → i ≤ l'.length → 2 * d + 6 < k →
    spec_l1Compare.l0 k (i : Int) m l s m' l' s' = some (if ordT (l.drop i) (l'.drop i) = 0 then sgnI s s' else ordT (l.drop i) (l'.drop i)) := by
  have hend : ∀ (i k : Nat), (i = l.length ∨ i = l'.length) → i ≤ l.length → i ≤ l'.length → spec_l1Compare.j1 (k + 2) (i : Int) false m l s m' l' s' = some (if ordT (l.drop i) (l'.drop i) = 0 then sgnI s s' else ordT (l.drop i) (l'.drop i)) := by
    intro i k hi h2 h3
    rw [spec_l1Compare.j1, if_neg (by decide), show wrap64 ((l.length : Int) - (l'.length : Int)) = (l.length : Int) - (l'.length : Int) from w64 (by omega) (by omega)]
    by_cases e : l.length = l'.length
    · rw [if_pos (by omega), show wrap64 (s - s') = s - s' from w64 (by omega) (by omega), specCmp_j2, List.drop_of_length_le (show l.length ≤ i by omega), List.drop_of_length_le (show l'.length ≤ i by omega)]
      show _ = some (if (0 : Int) = 0 then sgnI s s' else 0)
      rw [if_pos rfl]
      unfold sgnI
      by_cases q : s < s'
      · rw [if_pos (by omega), if_pos q]
      · rw [if_neg (by omega), if_neg q]
        by_cases q2 : s > s'
        · rw [if_pos (by omega), if_pos q2]
        · rw [if_neg (by omega), if_neg q2]
    · rw [if_neg (by omega), specCmp_j2]
      rcases Nat.lt_or_ge l.length l'.length with q | q
      · rw [List.drop_of_length_le (show l.length ≤ i by omega), drop_get (show i < l'.length by omega)]
        show some (sgnI _ 0) = some (if (-1 : Int) = 0 then sgnI s s' else -1)
        rw [if_neg (by decide)]
        unfold sgnI
        rw [if_pos (by omega)]
      · rw [List.drop_of_length_le (show l'.length ≤ i by omega), drop_get (show i < l.length by omega)]
        show some (sgnI _ 0) = some (if (1 : Int) = 0 then sgnI s s' else 1)
        rw [if_neg (by decide)]
        unfold sgnI
        rw [if_neg (by omega), if_pos (by omega)]
  intro d
  induction d with
  | zero =>
    intro i k hi hi' hk
    obtain ⟨k, rfl⟩ : ∃ q, k = q + 3 := ⟨k - 3, by omega⟩
    rw [spec_l1Compare.l0, if_neg (by omega)]
    exact hend i k (by omega) (by omega) hi'
  | succ d ih =>
    intro i k hi hi' hk
    obtain ⟨k, rfl⟩ : ∃ q, k = q + 3 := ⟨k - 3, by omega⟩
    have hlt : i < l.length := by omega
    have e0 : rd_T123 l (i : Int) = l[i] := rdT_get hlt
    rw [spec_l1Compare.l0, if_pos (by omega)]
    by_cases h : i < l'.length
    · have e1 : rd_T123 l' (i : Int) = l'[i] := rdT_get h
      have hnext := ih (i + 1) (k + 1) (by omega) (by omega) (by omega)
      rw [decide_eq_true (by omega), spec_l1Compare.j1, if_pos rfl, if_pos (by omega), if_pos (by omega), if_pos (by omega), e0, e1, l1Text_ok, l1Text_ok, Option.bind_some, Option.bind_some, drop_get hlt, drop_get h, ordT, show wrap64 ((i : Int) + 1) = ((i + 1 : Nat) : Int) from by rw [w64 (by omega) (by omega)]; omega, hnext]
      by_cases q1 : ordB l[i].f0 l'[i].f0 = 0
      · rw [if_pos q1, if_pos q1]
        by_cases q2 : ordB l[i].f1 l'[i].f1 = 0
        · rw [if_pos q2, if_pos q2]
        · rw [if_neg q2, if_neg q2, if_neg q2]
      · rw [if_neg q1, if_neg q1, if_neg q1]
    · rw [decide_eq_false (by omega)]
      exact hend i k (.inr (by omega)) (by omega) hi'
theorem specCompare_ok {m m' : ByteArray} {l l' : List Tg} {s s' : Int} (h : keyB m l s = true) (h' : keyB m' l' s' = true) {k : Nat} (hk : 20 < k) : spec_l1Compare.f k m l s m' l' s' = some (keyOrd m l s m' l' s') := by
  obtain ⟨_, hl, h0, h1, _⟩ := keyB_parts h
  obtain ⟨_, hl', h0', h1', _⟩ := keyB_parts h'
  unfold spec_l1Compare.f keyOrd
  rw [l1Text_ok, Option.bind_some]
  by_cases q : ordB m m' = 0
  · have e := specCmp_l0 m m' l l' hl hl' ⟨h0, h1⟩ ⟨h0', h1'⟩ l.length 0 k (by omega) (by omega) (by omega)
    rw [List.drop_zero, List.drop_zero] at e
    rw [if_pos q, if_pos q]
    exact e
  · rw [if_neg q, if_neg q]
end Go.Proofs.YtkgmoajdcibafaaDoor.Lem

/- The order of keys is transitive. No conditions. -/
namespace Go.Proofs.YtkgmoajdcibafaaDoor.Lem
open Go Go.RowKit Go.Proofs.YtkgmoajdcibafaaDoor.P Go.Proofs.YtkgmoajdcibafaaDoorW.PrintWords Go.Proofs.YtkgmoajdcibafaaDoorW.PrintLast Go.Proofs.YtkgmoajdcibafaaDoorW.PrintMore
theorem lessTr : ∀ {x y z : List UInt8}, Op.bytesLess x y = true → Op.bytesLess y z = true → Op.bytesLess x z = true
  | [], [], _, h, _ => by exact absurd h (by unfold Op.bytesLess; decide)
  | [], _ :: _, [], _, h => by exact absurd h (by unfold Op.bytesLess; decide)
  | [], _ :: _, _ :: _, _, _ => rfl
  | _ :: _, [], _, h, _ => by exact absurd h (by unfold Op.bytesLess; decide)
  | _ :: _, _ :: _, [], _, h => by exact absurd h (by unfold Op.bytesLess; decide)
  | a :: x, b :: y, c :: z, h1, h2 => by
    rw [less_cons] at h1 h2 ⊢
    by_cases e1 : a = b
    · subst e1
      rw [if_pos rfl] at h1
      by_cases e2 : a = c
      · rw [if_pos e2] at h2 ⊢; exact lessTr h1 h2
      · rw [if_neg e2] at h2 ⊢; exact h2
    · rw [if_neg e1] at h1
      have l1 := of_decide_eq_true h1
      by_cases e2 : b = c
      · subst e2; rw [if_neg e1]; exact h1
      · rw [if_neg e2] at h2
        have l2 := of_decide_eq_true h2
        rw [UInt8.lt_iff_toNat_lt] at l1 l2
        rw [if_neg (fun q => by subst q; omega)]
        exact decide_eq_true (by rw [UInt8.lt_iff_toNat_lt]; omega)
theorem lessTo : ∀ {x y : List UInt8}, Op.bytesLess x y = false → x ≠ y → Op.bytesLess y x = true
  | [], [], _, h => absurd rfl h
  | [], _ :: _, h, _ => by exact absurd h (by unfold Op.bytesLess; decide)
  | _ :: _, [], _, _ => rfl
  | a :: x, b :: y, h, hn => by
    rw [less_cons] at h ⊢
    by_cases e : a = b
    · subst e
      rw [if_pos rfl] at h ⊢
      exact lessTo h (fun q => hn (by rw [q]))
    · rw [if_neg e] at h
      have h1 := of_decide_eq_false h
      rw [if_neg (Ne.symm e)]
      have hne : a.toNat ≠ b.toNat := fun q => e (UInt8.toNat_inj.1 q)
      rw [UInt8.lt_iff_toNat_lt] at h1
      exact decide_eq_true (by rw [UInt8.lt_iff_toNat_lt]; omega)
theorem ordB_neg {a b : ByteArray} : ordB a b < 0 ↔ Op.bytesLess a.data.toList b.data.toList = true := by
  unfold ordB ord
  by_cases h : Op.bytesLess a.data.toList b.data.toList = true
  · simp [h]
  · rw [if_neg h]
    constructor
    · intro q; split at q <;> omega
    · intro q; exact absurd q h
theorem ordB_same {a b : ByteArray} (h : ordB a b = 0) : a = b := by
  unfold ordB ord at h
  by_cases h1 : Op.bytesLess a.data.toList b.data.toList = true
  · rw [if_pos h1] at h; omega
  · rw [if_neg h1] at h
    by_cases h2 : Op.bytesLess b.data.toList a.data.toList = true
    · rw [if_pos h2] at h; omega
    · by_cases e : a.data.toList = b.data.toList
      · exact ByteArray.ext (Array.toList_inj.1 e)
      · exact absurd (lessTo (by simpa using h1) e) h2
theorem ordB_self (a : ByteArray) : ordB a a = 0 := ord_self _
theorem ordB_tr {a b c : ByteArray} (h1 : ordB a b < 0) (h2 : ordB b c < 0) : ordB a c < 0 := ordB_neg.2 (lessTr (ordB_neg.1 h1) (ordB_neg.1 h2))
/-- Of two orders, one behind the other. -/
theorem lex_tr {α : Type} {f : α → α → Int} (hz : ∀ x y, f x y = 0 → x = y) (ht : ∀ x y z, f x y < 0 → f y z < 0 → f x z < 0) {x y z : α} {p q r : Int}
    (h1 : (if f x y = 0 then p else f x y) < 0) (h2 : (if f y z = 0 then q else f y z) < 0) (hr : x = y → y = z → p < 0 → q < 0 → r < 0) : (if f x z = 0 then r else f x z) < 0 := by
  by_cases c1 : f x y = 0
  · have e := hz _ _ c1
    subst e
    rw [if_pos c1] at h1
    by_cases c2 : f x z = 0
    · rw [if_pos c2] at h2 ⊢; exact hr rfl (hz _ _ c2) h1 h2
    · rw [if_neg c2] at h2 ⊢; exact h2
  · rw [if_neg c1] at h1
    by_cases c2 : f y z = 0
    · have e := hz _ _ c2
      subst e
      rw [if_neg c1]; exact h1
    · rw [if_neg c2] at h2
      have := ht _ _ _ h1 h2
      rw [if_neg (by omega)]; exact this
theorem ordT_same : ∀ {l l' : List Tg}, ordT l l' = 0 → l = l'
  | [], [], _ => rfl
  | [], _ :: _, h => by simp [ordT] at h
  | _ :: _, [], h => by simp [ordT] at h
  | a :: x, b :: y, h => by
    rw [ordT] at h
    by_cases c1 : ordB a.f0 b.f0 = 0
    · rw [if_pos c1] at h
      by_cases c2 : ordB a.f1 b.f1 = 0
      · rw [if_pos c2] at h
        have e1 := ordB_same c1
        have e2 := ordB_same c2
        rw [ordT_same h]
        cases a; cases b
        dsimp only at e1 e2
        rw [e1, e2]
      · rw [if_neg c2] at h; exact absurd h c2
    · rw [if_neg c1] at h; exact absurd h c1
theorem ordT_tr : ∀ {l l' l'' : List Tg}, ordT l l' < 0 → ordT l' l'' < 0 → ordT l l'' < 0
  | [], [], _, h, _ => by simp [ordT] at h
  | [], _ :: _, [], _, h => by simp [ordT] at h
  | [], _ :: _, _ :: _, _, _ => by simp [ordT]
  | _ :: _, [], _, h, _ => by simp [ordT] at h
  | _ :: _, _ :: _, [], _, h => by simp [ordT] at h
  | a :: x, b :: y, c :: z, h1, h2 => by
    rw [ordT] at h1 h2 ⊢
    exact lex_tr (f := ordB) (fun _ _ => ordB_same) (fun _ _ _ => ordB_tr) h1 h2 (fun _ _ h3 h4 => lex_tr (f := ordB) (fun _ _ => ordB_same) (fun _ _ _ => ordB_tr) h3 h4 (fun _ _ h5 h6 => ordT_tr h5 h6))
theorem sgnI_tr {a b c : Int} (h1 : sgnI a b < 0) (h2 : sgnI b c < 0) : sgnI a c < 0 := by
  unfold sgnI at *
  have h3 : a < b := by
    by_cases h : a < b
    · exact h
    · rw [if_neg h] at h1; split at h1 <;> omega
  have h4 : b < c := by
    by_cases h : b < c
    · exact h
    · rw [if_neg h] at h2; split at h2 <;> omega
  rw [if_pos (by omega)]; decide
theorem keyOrd_tr {m m' m'' : ByteArray} {l l' l'' : List Tg} {s s' s'' : Int} (h1 : keyOrd m l s m' l' s' < 0) (h2 : keyOrd m' l' s' m'' l'' s'' < 0) : keyOrd m l s m'' l'' s'' < 0 := by
  unfold keyOrd at *
  exact lex_tr (f := ordB) (fun _ _ => ordB_same) (fun _ _ _ => ordB_tr) h1 h2 (fun _ _ h3 h4 => lex_tr (f := ordT) (fun _ _ => ordT_same) (fun _ _ _ => ordT_tr) h3 h4 (fun _ _ h5 h6 => sgnI_tr h5 h6))
end Go.Proofs.YtkgmoajdcibafaaDoor.Lem

section
/- Of each key what was told last: where a key stands in a row, found by halves and one by one, and the row that comes of it. No conditions. -/
set_option linter.unusedVariables false
set_option linter.unusedSectionVars false
namespace Go.Proofs.YtkgmoajdcibafaaDoor.Lem
open Go Go.RowKit Go.Proofs.YtkgmoajdcibafaaDoor.P Go.Proofs.YtkgmoajdcibafaaDoorW.PrintWords Go.Proofs.YtkgmoajdcibafaaDoorW.PrintLast Go.Proofs.YtkgmoajdcibafaaDoorW.PrintMore
theorem lex_tot {α : Type} {f : α → α → Int} (hz : ∀ x y, f x y = 0 → x = y) (ht : ∀ x y, f x y < 0 ∨ f x y = 0 ∨ f y x < 0) {x y : α} {p q : Int} (hp : x = y → p < 0 ∨ p = 0 ∨ q < 0) :
    (if f x y = 0 then p else f x y) < 0 ∨ (if f x y = 0 then p else f x y) = 0 ∨ (if f y x = 0 then q else f y x) < 0 := by
  rcases ht x y with h | h | h
  · exact .inl (by rw [if_neg (by omega)]; exact h)
  · have e := hz _ _ h
    subst e
    simp only [if_pos h]
    exact hp rfl
  · exact .inr (.inr (by rw [if_neg (by omega)]; exact h))
theorem ordB_tot (a b : ByteArray) : ordB a b < 0 ∨ ordB a b = 0 ∨ ordB b a < 0 := by
  by_cases h : Op.bytesLess a.data.toList b.data.toList = true
  · exact .inl (ordB_neg.2 h)
  · by_cases e : a.data.toList = b.data.toList
    · have h2 : a = b := ByteArray.ext (Array.toList_inj.1 e)
      exact .inr (.inl (by rw [h2]; exact ordB_self b))
    · exact .inr (.inr (ordB_neg.2 (lessTo (by simpa using h) e)))
theorem ordT_tot : ∀ (l l' : List Tg), ordT l l' < 0 ∨ ordT l l' = 0 ∨ ordT l' l < 0
  | [], [] => .inr (.inl rfl)
  | [], _ :: _ => .inl (by simp [ordT])
  | _ :: _, [] => .inr (.inr (by simp [ordT]))
  | a :: x, b :: y => by
    have h := lex_tot (f := ordB) (x := a.f0) (y := b.f0) (fun _ _ => ordB_same) ordB_tot (fun _ => lex_tot (f := ordB) (x := a.f1) (y := b.f1) (fun _ _ => ordB_same) ordB_tot (fun _ => ordT_tot x y))
    exact h
theorem sgnI_tot (a b : Int) : sgnI a b < 0 ∨ sgnI a b = 0 ∨ sgnI b a < 0 := by
  unfold sgnI
  rcases Int.lt_trichotomy a b with h | h | h
  · exact .inl (by rw [if_pos h]; decide)
  · exact .inr (.inl (by rw [if_neg (by omega), if_neg (by omega)]))
  · exact .inr (.inr (by rw [if_pos h]; decide))
theorem keyOrd_tot (m : ByteArray) (l : List Tg) (s : Int) (m' : ByteArray) (l' : List Tg) (s' : Int) : keyOrd m l s m' l' s' < 0 ∨ keyOrd m l s m' l' s' = 0 ∨ keyOrd m' l' s' m l s < 0 := by
  unfold keyOrd
  exact lex_tot (f := ordB) (fun _ _ => ordB_same) ordB_tot (fun _ => lex_tot (f := ordT) (fun _ _ => ordT_same) ordT_tot (fun _ => sgnI_tot s s'))
theorem keyOrd_same {m m' : ByteArray} {l l' : List Tg} {s s' : Int} (h : keyOrd m l s m' l' s' = 0) : m = m' ∧ l = l' ∧ s = s' := by
  unfold keyOrd at h
  by_cases c1 : ordB m m' = 0
  · rw [if_pos c1] at h
    by_cases c2 : ordT l l' = 0
    · rw [if_pos c2] at h
      refine ⟨ordB_same c1, ordT_same c2, ?_⟩
      unfold sgnI at h
      split at h
      · omega
      · split at h <;> omega
    · rw [if_neg c2] at h; exact absurd h c2
  · rw [if_neg c1] at h; exact absurd h c1
theorem ownKeyD_ok (m : ByteArray) {l : List Tg} (h : l.length ≤ 1048576) (s : Int) : spec_l11OwnKey.f m l s = some (m, l, s) := by
  unfold spec_l11OwnKey.f
  rw [Option.bind_some, if_pos (by rw [List.length_nil]; omega), List.nil_append]
abbrev Td := S96
def td (l : List Td) (i : Nat) : Td := rd_T96 l (i : Int)
def ordD (a b : Td) : Int := keyOrd a.f0.f0 a.f0.f1 a.f0.f2 b.f0.f0 b.f0.f1 b.f0.f2
def keyD (a : Td) : Bool := keyB a.f0.f0 a.f0.f1 a.f0.f2
theorem td_get {l : List Td} {i : Nat} (h : i < l.length) : td l i = l[i] := rdD_at h
theorem td_cons (w : Td) (r : List Td) (n : Nat) : td (w :: r) (n + 1) = td r n := by
  unfold td rd_T96
  rw [Int.toNat_natCast, Int.toNat_natCast, List.getD_cons_succ]
def SortedD (l : List Td) : Prop := (∀ a ∈ l, keyD a = true) ∧ l.Pairwise (fun a b => ordD a b < 0)
/-- The row with one more told. -/
def insP (x : Td) : List Td → List Td
  | [] => [x]
  | a :: r => if ordD a x < 0 then a :: insP x r else if ordD a x = 0 then (if a.f1 ≤ x.f1 then x :: r else a :: r) else x :: a :: r
theorem insP_mem {x : Td} : ∀ {l : List Td} {b : Td}, b ∈ insP x l → b = x ∨ b ∈ l
  | [], b, h => .inl (List.mem_singleton.1 h)
  | a :: r, b, h => by
    rw [insP] at h
    split at h
    · rcases List.mem_cons.1 h with h | h
      · exact .inr (h ▸ List.mem_cons_self)
      · rcases insP_mem h with h | h
        · exact .inl h
        · exact .inr (List.mem_cons_of_mem _ h)
    · split at h
      · split at h
        · rcases List.mem_cons.1 h with h | h
          · exact .inl h
          · exact .inr (List.mem_cons_of_mem _ h)
        · exact .inr h
      · rcases List.mem_cons.1 h with h | h
        · exact .inl h
        · exact .inr h
theorem insP_len (x : Td) : ∀ l : List Td, (insP x l).length ≤ l.length + 1
  | [] => Nat.le_refl _
  | a :: r => by
    have ih := insP_len x r
    rw [insP]
    split
    · rw [List.length_cons, List.length_cons]; omega
    · split
      · split <;> simp
      · simp
theorem insP_sorted {x : Td} (hx : keyD x = true) {l : List Td} (h : SortedD l) : SortedD (insP x l) := by
  refine ⟨fun b hb => ?_, ?_⟩
  · rcases insP_mem hb with rfl | hb
    · exact hx
    · exact h.1 b hb
  · have hp := h.2
    clear h
    induction l with
    | nil => simp [insP]
    | cons a r ih =>
      rw [List.pairwise_cons] at hp
      rw [insP]
      split
      · rename_i c
        rw [List.pairwise_cons]
        refine ⟨fun b hb => ?_, ih hp.2⟩
        rcases insP_mem hb with rfl | hb
        · exact c
        · exact hp.1 b hb
      · rename_i c
        split
        · rename_i c2
          split
          · rw [List.pairwise_cons]
            refine ⟨fun b hb => ?_, hp.2⟩
            obtain ⟨q1, q2, q3⟩ := keyOrd_same c2
            have h3 := hp.1 b hb
            unfold ordD at h3 ⊢
            rw [← q1, ← q2, ← q3]
            exact h3
          · rw [List.pairwise_cons]; exact hp
        · rename_i c2
          have h3 : ordD x a < 0 := by
            rcases keyOrd_tot a.f0.f0 a.f0.f1 a.f0.f2 x.f0.f0 x.f0.f1 x.f0.f2 with q | q | q
            · exact absurd q c
            · exact absurd q c2
            · exact q
          rw [List.pairwise_cons, List.pairwise_cons]
          refine ⟨fun b hb => ?_, hp⟩
          rcases List.mem_cons.1 hb with rfl | hb
          · exact h3
          · exact keyOrd_tr h3 (hp.1 b hb)
/-- How many stand ahead. -/
def posD (x : Td) : List Td → Nat
  | [] => 0
  | a :: r => if ordD a x < 0 then posD x r + 1 else 0
theorem posD_le (x : Td) : ∀ l : List Td, posD x l ≤ l.length
  | [] => Nat.le_refl _
  | a :: r => by rw [posD]; split; exact Nat.succ_le_succ (posD_le x r); exact Nat.zero_le _
theorem posD_lt (x : Td) : ∀ (l : List Td) (j : Nat), j < posD x l → ordD (td l j) x < 0
  | [], j, h => absurd h (Nat.not_lt_zero j)
  | a :: r, j, h => by
    rw [posD] at h
    split at h
    · rename_i c
      cases j with
      | zero => exact c
      | succ j => rw [td_cons]; exact posD_lt x r j (by omega)
    · exact absurd h (Nat.not_lt_zero j)
theorem posD_at (x : Td) : ∀ (l : List Td), posD x l < l.length → ¬ ordD (td l (posD x l)) x < 0
  | [], h => absurd h (Nat.not_lt_zero _)
  | a :: r, h => by
    rw [posD] at h ⊢
    split at h
    · rename_i c
      rw [if_pos c, td_cons]
      exact posD_at x r (by simpa using h)
    · rename_i c
      rw [if_neg c]
      exact c
def hasD (x : Td) (l : List Td) : Bool := decide (posD x l < l.length) && (ordD (td l (posD x l)) x == 0)
def stepP (x : Td) (l : List Td) : List Td := if hasD x l = true then (if (td l (posD x l)).f1 ≤ x.f1 then l.set (posD x l) x else l) else l.take (posD x l) ++ [x] ++ l.drop (posD x l)
theorem stepP_eq (x : Td) : ∀ l : List Td, stepP x l = insP x l
  | [] => rfl
  | a :: r => by
    have ih := stepP_eq x r
    by_cases c : ordD a x < 0
    · have e : posD x (a :: r) = posD x r + 1 := by rw [posD, if_pos c]
      have eh : hasD x (a :: r) = hasD x r := by
        unfold hasD
        rw [e, td_cons, List.length_cons]
        congr 1
        simp
      rw [insP, if_pos c, ← ih]
      unfold stepP
      rw [eh, e, td_cons]
      split
      · split <;> rfl
      · rfl
    · have e : posD x (a :: r) = 0 := by rw [posD, if_neg c]
      rw [insP, if_neg c]
      unfold stepP
      have eh : hasD x (a :: r) = (ordD a x == 0) := by
        unfold hasD
        rw [e, decide_eq_true (by simp), Bool.true_and]
        rfl
      rw [eh, e]
      by_cases c2 : ordD a x = 0
      · rw [if_pos (by simpa using c2), if_pos c2]
        rfl
      · rw [if_neg (by simpa using c2), if_neg c2]
        rfl
section
variable {x : Td} {l : List Td} (h : SortedD l) (hq : keyD x = true)
include h hq
theorem posD_ge (j : Nat) (h1 : posD x l ≤ j) (h2 : j < l.length) : ¬ ordD (td l j) x < 0 := by
  intro q
  have hp := posD_at x l (by omega)
  rcases Nat.lt_or_ge (posD x l) j with e | e
  · have h3 := List.pairwise_iff_getElem.1 h.2 (posD x l) j (by omega) h2 e
    rw [td_get h2] at q
    rw [td_get (by omega)] at hp
    exact hp (keyOrd_tr h3 q)
  · rw [show posD x l = j by omega] at hp; exact hp q
theorem findD_l0 (h40 : l.length ≤ 200) : ∀ (d i j k : Nat), j - i ≤ d → i ≤ posD x l → posD x l ≤ j → j ≤ l.length → d + 30 < k →
    impl_Key_with_impl_LastTold_2.l0 k l (l.length : Int) (i : Int) (j : Int) x.f0.f0 x.f0.f1 x.f0.f2 = some ((posD x l : Int), hasD x l) := by
  have cmp : ∀ (i k : Nat), i < l.length → 20 < k → impl_LastTold_2.f k (td l i).f0.f0 (td l i).f0.f1 (td l i).f0.f2 (td l i).f1 (td l i).f2.f0 (td l i).f2.f1 (td l i).f2.f2 (td l i).f2.f3 (td l i).f2.f4 (td l i).f2.f5 x.f0.f0 x.f0.f1 x.f0.f2 = some (ordD (td l i) x) := fun i k hi hk => by
    have hg : keyD (td l i) = true := by rw [td_get hi]; exact h.1 _ (List.getElem_mem hi)
    unfold impl_LastTold_2.f
    rw [implCompare_ok hg hq hk, Option.bind_some]
    rfl
  intro d
  induction d with
  | zero =>
    intro i j k hd h1 h2 h3 hk
    obtain ⟨k, rfl⟩ : ∃ q, k = q + 1 := ⟨k - 1, by omega⟩
    obtain rfl : i = posD x l := by omega
    rw [impl_Key_with_impl_LastTold_2.l0, if_neg (by omega)]
    by_cases c : posD x l < l.length
    · rw [if_pos (by omega), if_pos (by omega), if_pos (by omega), show rd_T96 l ((posD x l : Nat) : Int) = td l (posD x l) from rfl, cmp (posD x l) k c (by omega), Option.bind_some, hasD, decide_eq_true c, Bool.true_and]
    · rw [if_neg (by omega), hasD, decide_eq_false c, Bool.false_and]
  | succ d ih =>
    intro i j k hd h1 h2 h3 hk
    obtain ⟨k, rfl⟩ : ∃ q, k = q + 1 := ⟨k - 1, by omega⟩
    by_cases hij : i < j
    · have hm : wrap64 ((IntKind.u64.wrap (wrap64 ((i : Int) + (j : Int)))) / 2) = (((i + j) / 2 : Nat) : Int) := by
        rw [w64 (x := (i : Int) + (j : Int)) (by omega) (by omega), wu64 (by omega) (by omega), w64 (by omega) (by omega)]; omega
      obtain ⟨n, hme⟩ : ∃ n, n = (i + j) / 2 := ⟨_, rfl⟩
      rw [impl_Key_with_impl_LastTold_2.l0, if_pos (by omega), hm, ← hme, if_pos (by omega), if_pos (by omega), show rd_T96 l ((n : Nat) : Int) = td l n from rfl, cmp n k (by omega) (by omega), Option.bind_some]
      by_cases cb : ordD (td l n) x < 0
      · rw [if_pos cb, show wrap64 ((n : Int) + 1) = ((n + 1 : Nat) : Int) by rw [w64 (by omega) (by omega)]; omega]
        exact ih (n + 1) j k (by omega) (by
          rcases Nat.lt_or_ge n (posD x l) with q | q
          · omega
          · exact absurd cb (posD_ge h hq n q (by omega))) h2 h3 (by omega)
      · rw [if_neg cb]
        exact ih i n k (by omega) h1 (by
          rcases Nat.lt_or_ge n (posD x l) with q | q
          · exact absurd (posD_lt x l n q) cb
          · exact q) (by omega) (by omega)
    · exact ih i j (k + 1) (by omega) h1 h2 h3 (by omega)
theorem findD_ok (h40 : l.length ≤ 200) {k : Nat} (hk : 300 < k) : impl_Key_with_impl_LastTold_2.f k l x.f0.f0 x.f0.f1 x.f0.f2 = some ((posD x l : Int), hasD x l) := by
  have h1 := findD_l0 h hq h40 l.length 0 l.length k (by omega) (Nat.zero_le _) (posD_le x l) (Nat.le_refl _) (by omega)
  rw [show ((0 : Nat) : Int) = 0 from rfl] at h1
  unfold impl_Key_with_impl_LastTold_2.f
  exact h1
theorem stepD_ok (h40 : l.length ≤ 200) {k : Nat} (hk : 300 < k) : stepD k l x = some (insP x l) := by
  have hp := posD_le x l
  unfold stepD
  rw [findD_ok h hq h40 hk, Option.bind_some, ← stepP_eq]
  dsimp only
  unfold stepP
  by_cases c : hasD x l = true
  · have hlt : posD x l < l.length := by rw [hasD, Bool.and_eq_true] at c; exact of_decide_eq_true c.1
    rw [if_pos c, if_pos c, if_pos (by omega)]
    rfl
  · rw [if_neg c, if_neg c, if_pos (by omega)]
    rfl
theorem specD_l1 (h40 : l.length ≤ 200) (ll : List Td) (n i : Int) : ∀ (d p k : Nat), p + d = posD x l → 20 < k →
    spec_LastTold.l1 (k + d + 1) l (p : Int) ll n i x.f0.f0 x.f0.f1 x.f0.f2 x.f1 x.f2.f0 x.f2.f1 x.f2.f2 x.f2.f3 x.f2.f4 x.f2.f5 = spec_LastTold.j2 k l (posD x l : Int) ll n i x.f0.f0 x.f0.f1 x.f0.f2 x.f1 x.f2.f0 x.f2.f1 x.f2.f2 x.f2.f3 x.f2.f4 x.f2.f5 := by
  have hp := posD_le x l
  have cmp : ∀ (i k : Nat), i < l.length → 20 < k → spec_l1Compare.f k (td l i).f0.f0 (td l i).f0.f1 (td l i).f0.f2 x.f0.f0 x.f0.f1 x.f0.f2 = some (ordD (td l i) x) := fun i k hi hk => by
    have hg : keyD (td l i) = true := by rw [td_get hi]; exact h.1 _ (List.getElem_mem hi)
    exact specCompare_ok hg hq hk
  intro d
  induction d with
  | zero =>
    intro p k hd hk
    obtain rfl : p = posD x l := by omega
    rw [spec_LastTold.l1]
    by_cases c : posD x l < l.length
    · rw [if_pos (by omega), if_pos (by omega), show rd_T96 l ((posD x l : Nat) : Int) = td l (posD x l) from rfl, cmp _ _ c (by omega), Option.bind_some, if_neg (posD_at x l c)]
    · rw [if_neg (by omega)]
  | succ d ih =>
    intro p k hd hk
    rw [spec_LastTold.l1, if_pos (by omega), if_pos (by omega), show rd_T96 l ((p : Nat) : Int) = td l p from rfl, cmp p _ (by omega) (by omega), Option.bind_some, if_pos (posD_lt x l p (by omega))]
    have e : k + (d + 1) = k + d + 1 := rfl
    rw [e, show wrap64 ((p : Int) + 1) = ((p + 1 : Nat) : Int) by rw [w64 (by omega) (by omega)]; omega]
    exact ih (p + 1) k (by omega) hk
theorem specD_j3 (ll : List Td) (n : Int) (i k : Nat) (h40 : l.length ≤ 200) (hi : i ≤ 200) :
    spec_LastTold.j3 (k + 1) l (posD x l : Int) ll n (i : Int) (hasD x l) x.f0.f0 x.f0.f1 x.f0.f2 x.f1 x.f2.f0 x.f2.f1 x.f2.f2 x.f2.f3 x.f2.f4 x.f2.f5 = spec_LastTold.l0 k (insP x l) ll n ((i + 1 : Nat) : Int) := by
  have hp := posD_le x l
  have hi1 : wrap64 ((i : Int) + 1) = ((i + 1 : Nat) : Int) := by rw [w64 (by omega) (by omega)]; omega
  rw [spec_LastTold.j3, hi1, ← stepP_eq]
  unfold stepP
  by_cases c : hasD x l = true
  · have hlt : posD x l < l.length := by rw [hasD, Bool.and_eq_true] at c; exact of_decide_eq_true c.1
    rw [if_pos c, if_pos c, if_pos (by omega), if_pos (by omega), show rd_T96 l ((posD x l : Nat) : Int) = td l (posD x l) from rfl]
    by_cases c2 : (td l (posD x l)).f1 ≤ x.f1
    · rw [if_pos c2, if_pos c2]
      rfl
    · rw [if_neg c2, if_neg c2]
  · have h1 : (l.take (posD x l)).length ≤ 200 := by rw [List.length_take]; omega
    have h2 : (l.drop (posD x l)).length ≤ 200 := by rw [List.length_drop]; omega
    rw [if_neg c, if_neg c, if_pos (by omega), if_pos (by omega), Option.bind_some, Int.toNat_natCast, List.nil_append, if_pos (by rw [List.length_nil]; omega), Option.bind_some, if_pos (by omega), Option.bind_some, Option.bind_some,
      if_pos (by rw [List.length_append, List.length_singleton]; omega)]
theorem specD_j2 (ll : List Td) (n : Int) (i k : Nat) (h40 : l.length ≤ 200) (hi : i ≤ 200) (hk : 20 < k) :
    spec_LastTold.j2 (k + 2) l (posD x l : Int) ll n (i : Int) x.f0.f0 x.f0.f1 x.f0.f2 x.f1 x.f2.f0 x.f2.f1 x.f2.f2 x.f2.f3 x.f2.f4 x.f2.f5 = spec_LastTold.l0 k (insP x l) ll n ((i + 1 : Nat) : Int) := by
  have hp := posD_le x l
  have hj := specD_j3 h hq ll n i k h40 hi
  rw [spec_LastTold.j2]
  by_cases c : posD x l < l.length
  · have hg : keyD (td l (posD x l)) = true := by rw [td_get c]; exact h.1 _ (List.getElem_mem c)
    have hh : hasD x l = (ordD (td l (posD x l)) x == 0) := by rw [hasD, decide_eq_true c, Bool.true_and]
    rw [if_pos (by omega), if_pos (by omega), show rd_T96 l ((posD x l : Nat) : Int) = td l (posD x l) from rfl, specCompare_ok (k := k + 1) hg hq (by omega), Option.bind_some]
    rw [hh] at hj
    exact hj
  · have hh : hasD x l = false := by rw [hasD, decide_eq_false c, Bool.false_and]
    rw [if_neg (by omega)]
    rw [hh] at hj
    exact hj
end
/-- What the reference answers. -/
def foldD (o : List Td) (l : List Td) : List Td := l.foldl (fun q x => insP x q) o
theorem specD_l0 {l : List Td} (hl : l.length ≤ 200) (hh : ∀ x ∈ l, x.f2.f4.length ≤ 1048576 ∧ x.f0.f1.length ≤ 1048576) : ∀ (d i k : Nat) (o : List Td), i + d = l.length → d * 210 + 60 < k → SortedD o → o.length ≤ i →
    spec_LastTold.l0 k o l (l.length : Int) (i : Int) = some (if (l.drop i).all keyD = true then (foldD o (l.drop i), true) else ([], false)) := by
  intro d
  induction d with
  | zero =>
    intro i k o hi hk ho hol
    obtain ⟨k, rfl⟩ : ∃ q, k = q + 1 := ⟨k - 1, by omega⟩
    rw [spec_LastTold.l0, if_neg (by omega), List.drop_of_length_le (by omega)]
    rfl
  | succ d ih =>
    intro i k o hi hk ho hol
    obtain ⟨k, rfl⟩ : ∃ q, k = q + 1 := ⟨k - 1, by omega⟩
    have hlt : i < l.length := by omega
    have hx := hh l[i] (List.getElem_mem hlt)
    have hp := posD_le l[i] o
    rw [spec_LastTold.l0, if_pos (by omega), if_pos (by omega), if_pos (by omega), show rd_T96 l ((i : Nat) : Int) = l[i] from td_get hlt, specKey_ok _ _ _ (by omega), Option.bind_some, List.drop_eq_getElem_cons hlt, List.all_cons, show keyB l[i].f0.f0 l[i].f0.f1 l[i].f0.f2 = keyD l[i] from rfl]
    by_cases hq : keyD l[i] = true
    · rw [if_pos hq, hq, Bool.true_and, ownKeyD_ok _ hx.2 _, Option.bind_some, Option.bind_some, List.nil_append, if_pos (by rw [List.length_nil]; omega)]
      dsimp only
      obtain ⟨k2, rfl⟩ : ∃ q, k = (q + 2) + posD l[i] o + 1 := ⟨k - 3 - posD l[i] o, by omega⟩
      rw [show (0 : Int) = ((0 : Nat) : Int) from rfl, specD_l1 ho hq (by omega) l _ _ (posD l[i] o) 0 (k2 + 2) (by omega) (by omega), specD_j2 ho hq l _ i k2 (by omega) (by omega) (by omega)]
      have hn := ih (i + 1) k2 (insP l[i] o) (by omega) (by omega) (insP_sorted hq ho) (by have := insP_len l[i] o; omega)
      rw [hn]
      rfl
    · rw [if_neg hq, if_neg (by rw [Bool.and_eq_true]; exact fun q => hq q.1)]
theorem implD_l0 {k : Nat} (hk : 300 < k) : ∀ (l o : List Td), l.all keyD = true → SortedD o → o.length + l.length ≤ 200 → impl_LastTold.l0 k l o = some (foldD o l)
  | [], o, _, _, _ => rfl
  | x :: r, o, ha, ho, hl => by
    rw [List.all_cons, Bool.and_eq_true] at ha
    rw [List.length_cons] at hl
    rw [impl_LastTold.l0, stepD_ok ho ha.1 (by omega) hk, Option.bind_some, implD_l0 hk r _ ha.2 (insP_sorted ha.1 ho) (by have := insP_len x o; omega)]
    rfl
theorem badD_l0 {l : List Td} (hl : l.length ≤ 200) : ∀ (d i k : Nat), i + d = l.length → d + 30 < k → ∃ t, impl_Told_with_impl_LastTold_1_10100067.l0 k l (l.length : Int) (i : Int) = some t ∧ decide (t ≥ 0) = !(l.drop i).all keyD := by
  intro d
  induction d with
  | zero =>
    intro i k hi hk
    obtain ⟨k, rfl⟩ : ∃ q, k = q + 1 := ⟨k - 1, by omega⟩
    refine ⟨-1, by rw [impl_Told_with_impl_LastTold_1_10100067.l0, if_neg (by omega)], ?_⟩
    rw [List.drop_of_length_le (by omega)]
    rfl
  | succ d ih =>
    intro i k hi hk
    obtain ⟨k, rfl⟩ : ∃ q, k = q + 1 := ⟨k - 1, by omega⟩
    have hlt : i < l.length := by omega
    rw [impl_Told_with_impl_LastTold_1_10100067.l0, if_pos (by omega), if_pos (by omega), if_pos (by omega), show rd_T96 l ((i : Nat) : Int) = l[i] from td_get hlt, List.drop_eq_getElem_cons hlt, List.all_cons]
    unfold impl_LastTold_1.f
    rw [implKey_ok _ _ _ (by omega), Option.bind_some, Option.bind_some, show wrap64 ((i : Int) + 1) = ((i + 1 : Nat) : Int) by rw [w64 (by omega) (by omega)]; omega]
    cases e : keyD l[i] with
    | true =>
      rw [show keyB l[i].f0.f0 l[i].f0.f1 l[i].f0.f2 = true from e, Bool.not_true, if_neg (by decide), Bool.true_and]
      exact ih (i + 1) k (by omega) (by omega)
    | false =>
      rw [show keyB l[i].f0.f0 l[i].f0.f1 l[i].f0.f2 = false from e, Bool.not_false, if_pos rfl, Bool.false_and]
      exact ⟨i, rfl, decide_eq_true (by omega)⟩
theorem badD_ok {l : List Td} (hl : l.length ≤ 200) {k : Nat} (hk : 300 < k) : impl_Told_with_impl_LastTold_1_10066067.f k l = some (!l.all keyD) := by
  obtain ⟨t, h1, h2⟩ := badD_l0 hl l.length 0 k (by omega) (by omega)
  rw [List.drop_zero] at h2
  rw [show ((0 : Nat) : Int) = 0 from rfl] at h1
  unfold impl_Told_with_impl_LastTold_1_10066067.f impl_Told_with_impl_LastTold_1_10100067.f
  rw [h1, Option.bind_some, h2]
theorem foldD_mem : ∀ (l o : List Td) (b : Td), b ∈ foldD o l → b ∈ o ∨ b ∈ l
  | [], o, b, h => .inl h
  | x :: r, o, b, h => by
    rcases foldD_mem r (insP x o) b h with h | h
    · rcases insP_mem h with rfl | h
      · exact .inr List.mem_cons_self
      · exact .inl h
    · exact .inr (List.mem_cons_of_mem _ h)
theorem foldD_len : ∀ (l o : List Td), (foldD o l).length ≤ o.length + l.length
  | [], o => Nat.le_refl _
  | x :: r, o => by
    have h := foldD_len r (insP x o)
    have h2 := insP_len x o
    rw [List.length_cons]
    have e : foldD o (x :: r) = foldD (insP x o) r := rfl
    rw [e]
    omega
theorem last_both {l : List Td} (hl : l.length ≤ 1048576) (hh : ∀ x ∈ l, x.f0.f1.length ≤ 1048576 ∧ x.f2.f4.length ≤ 1048576) {k : Nat} (hk : 2097160 < k) :
    ∃ r g, spec_LastTold.f k l = some (r, g) ∧ impl_LastTold.f k l = some (r, g) ∧ r.length ≤ 1048576 ∧ ∀ x ∈ r, x.f0.f1.length ≤ 1048576 ∧ x.f2.f4.length ≤ 1048576 := by
  unfold spec_LastTold.f impl_LastTold.f
  by_cases c : (l.length : Int) > 200
  · rw [if_pos c, if_pos c]
    exact ⟨_, _, rfl, rfl, Nat.zero_le _, fun x hx => absurd hx (by simp)⟩
  · have h200 : l.length ≤ 200 := by omega
    have h1 := specD_l0 h200 (fun x hx => ⟨(hh x hx).2, (hh x hx).1⟩) l.length 0 k [] (by omega) (by omega) ⟨fun a ha => absurd ha (by simp), List.Pairwise.nil⟩ (Nat.le_refl _)
    rw [List.drop_zero, show ((0 : Nat) : Int) = 0 from rfl] at h1
    rw [if_neg c, if_neg c, h1, badD_ok h200 (by omega), Option.bind_some]
    by_cases ha : l.all keyD = true
    · have hs : shortsD l = true := by
        unfold shortsD
        rw [List.all_eq_true]
        intro w hw
        rw [decide_eq_true (hh w hw).1, decide_eq_true (hh w hw).2]
        rfl
      have h2 := foldD_len l []
      rw [List.length_nil] at h2
      rw [ha, Bool.not_true, if_pos rfl, if_neg (by decide), if_pos hs, implD_l0 (by omega) l [] ha ⟨fun a ha => absurd ha (by simp), List.Pairwise.nil⟩ (by rw [List.length_nil]; omega), Option.bind_some]
      refine ⟨_, _, rfl, rfl, by omega, fun x hx => ?_⟩
      rcases foldD_mem l [] x hx with q | q
      · exact absurd q (by simp)
      · exact hh x q
    · rw [if_neg ha, if_pos (by simpa using ha)]
      exact ⟨_, _, rfl, rfl, Nat.zero_le _, fun x hx => absurd hx (by simp)⟩
end Go.Proofs.YtkgmoajdcibafaaDoor.Lem
end

/- The program's LastTold returns what the reference's returns: what FnExactLastTold's callees answer, at every row that Go can hold. -/
namespace Go.Proofs.YtkgmoajdcibafaaDoor.Pure
open Go Go.RowKit Go.Proofs.YtkgmoajdcibafaaDoor.P Go.Proofs.YtkgmoajdcibafaaDoorW.PrintWords Go.Proofs.YtkgmoajdcibafaaDoorW.PrintLast Go.Proofs.YtkgmoajdcibafaaDoorW.PrintMore Go.Proofs.YtkgmoajdcibafaaDoor.Lem
abbrev Ld := S94
def GTold (w : Ld) : Prop := GKey w.f0 ∧ (Lit.int .i64 w.f1).wf = true ∧ GAgg w.f2
theorem rdLd_get {l : List Ld} {i : Nat} (h : i < l.length) : rd_T94 l (i : Int) = l[i] := by
  unfold rd_T94
  rw [Int.toNat_natCast, List.getD_eq_getElem?_getD, List.getElem?_eq_getElem h]
  rfl
def HeldD (w : Ld) : Prop := w.f0.f0.size ≤ 9223372036854775807 ∧ w.f0.f1.length ≤ 9223372036854775807 ∧ Held w.f0.f1 ∧ w.f2.f4.length ≤ 9223372036854775807
def ShortD (w : Ld) : Prop := w.f0.f1.length ≤ 1048576 ∧ w.f2.f4.length ≤ 1048576
theorem heldD {w : Ld} (h : GTold w) : HeldD w := ⟨maxLen_le h.1.1, maxLen_le h.1.2.1.1, fun t ht => ⟨maxLen_le (h.1.2.1.2 t ht).1, maxLen_le (h.1.2.1.2 t ht).2⟩, maxLen_le h.2.2.2.2.2.2.1.1⟩
theorem szTold_ok {w : Ld} (hw : HeldD w) {x : Int} (h0 : 0 ≤ x) (h1 : x ≤ 1048576) {k : Nat} (hk : 1048577 < k) : ∃ r, laws_szTold.f k w.f0.f0 w.f0.f1 w.f0.f2 w.f1 w.f2.f0 w.f2.f1 w.f2.f2 w.f2.f3 w.f2.f4 w.f2.f5 x = some r ∧ (r < 0 ∨ (0 ≤ r ∧ r ≤ x ∧ ShortD w)) := by
  obtain ⟨hm, hl, hh, ha⟩ := hw
  unfold laws_szTold.f
  obtain ⟨r, hr, hr2⟩ := szKey_ok hm hl hh w.f0.f2 h0 h1 (k := k) (.inr (by omega))
  rw [hr, Option.bind_some]
  by_cases hn : r < 0
  · exact ⟨-1, by rw [if_pos hn], .inl (by omega)⟩
  · obtain ⟨r2, hq, hq2⟩ := szAgg_ok w.f2.f0 w.f2.f1 w.f2.f2 w.f2.f3 ha w.f2.f5 (x := r) (by omega) (by omega)
    rw [if_neg hn, hq, Option.bind_some]
    by_cases hn2 : r2 < 0
    · exact ⟨-1, by rw [if_pos hn2], .inl (by omega)⟩
    · exact ⟨r2, by rw [if_neg hn2], .inr ⟨by omega, by omega, by omega, by omega⟩⟩
theorem szToldS_l0 (l : List Ld) (hl : l.length ≤ 1048576) (hh : ∀ w ∈ l, HeldD w) : ∀ (d i k : Nat) (x : Int), i + d = l.length → d + 1048580 < k → 0 ≤ x → x ≤ 1048576 → ∃ r, laws_szToldS.l0 k l x (i : Int) = some r ∧ (r < 0 ∨ (0 ≤ r ∧ r ≤ x ∧ ∀ w ∈ l.drop i, ShortD w)) := by
  intro d
  induction d with
  | zero =>
    intro i k x hi hk h0 h1
    obtain ⟨k, rfl⟩ : ∃ q, k = q + 1 := ⟨k - 1, by omega⟩
    exact ⟨x, by rw [laws_szToldS.l0, if_neg (by omega)], .inr ⟨h0, Int.le_refl _, fun w hw => by rw [List.drop_of_length_le (by omega)] at hw; simp at hw⟩⟩
  | succ d ih =>
    intro i k x hi hk h0 h1
    obtain ⟨k, rfl⟩ : ∃ q, k = q + 1 := ⟨k - 1, by omega⟩
    have hlt : i < l.length := by omega
    obtain ⟨r, hr, hr2⟩ := szTold_ok (hh l[i] (List.getElem_mem hlt)) h0 h1 (k := k) (by omega)
    rw [laws_szToldS.l0, if_pos (by omega), if_pos (by omega), rdLd_get hlt, hr, Option.bind_some]
    by_cases hn : r < 0
    · exact ⟨-1, by rw [if_pos hn], .inl (by omega)⟩
    · rw [if_neg hn, show wrap64 ((i : Int) + 1) = ((i + 1 : Nat) : Int) from by rw [w64 (by omega) (by omega)]; omega]
      have hr3 : 0 ≤ r ∧ r ≤ x ∧ ShortD l[i] := by
        rcases hr2 with h | h
        · exact absurd h hn
        · exact h
      obtain ⟨r2, hq, hq2⟩ := ih (i + 1) k r (by omega) (by omega) (by omega) (by omega)
      refine ⟨r2, hq, ?_⟩
      rcases hq2 with h | ⟨h, h', h''⟩
      · exact .inl h
      · refine .inr ⟨h, by omega, fun w hw => ?_⟩
        rw [drop_get hlt] at hw
        rcases List.mem_cons.1 hw with rfl | hw
        · exact hr3.2.2
        · exact h'' w hw
theorem szToldS_ok {l : List Ld} (hl : l.length ≤ 9223372036854775807) (hh : ∀ w ∈ l, HeldD w) {k : Nat} (hk : 2097160 < k) : ∃ r, laws_szToldS.f k l 1048576 = some r ∧ (r < 0 ∨ (0 ≤ r ∧ l.length ≤ 1048576 ∧ ∀ w ∈ l, ShortD w)) := by
  unfold laws_szToldS.f
  rw [show wrap64 (1048576 - (l.length : Int)) = 1048576 - (l.length : Int) from w64 (by omega) (by omega)]
  by_cases h : 1048576 - (l.length : Int) < 0
  · exact ⟨-1, by rw [if_pos h], .inl (by omega)⟩
  · rw [if_neg h]
    obtain ⟨r, hr, hr2⟩ := szToldS_l0 l (by omega) hh l.length 0 k (1048576 - (l.length : Int)) (by omega) (by omega) (by omega) (by omega)
    rw [List.drop_zero] at hr2
    refine ⟨r, hr, ?_⟩
    rcases hr2 with h2 | ⟨h2, _, h3⟩
    · exact .inl h2
    · exact .inr ⟨h2, by omega, h3⟩
/-- What was told, as the program has it. -/
def cvD (w : Ld) : Td := ⟨⟨w.f0.f0, w.f0.f1.map cvT, w.f0.f2⟩, w.f1, ⟨w.f2.f0, w.f2.f1, w.f2.f2, w.f2.f3, w.f2.f4, w.f2.f5⟩⟩
theorem toTold_ok {w : Ld} (hw : ShortD w) {k : Nat} (hk : 1048577 < k) : laws_toTold.f k w.f0.f0 w.f0.f1 w.f0.f2 w.f1 w.f2.f0 w.f2.f1 w.f2.f2 w.f2.f3 w.f2.f4 w.f2.f5 =
    some (w.f0.f0, w.f0.f1.map cvT, w.f0.f2, w.f1, w.f2.f0, w.f2.f1, w.f2.f2, w.f2.f3, w.f2.f4, w.f2.f5) := by
  unfold laws_toTold.f
  rw [toKey_ok w.f0.f0 hw.1 w.f0.f2 (by have := hw.1; omega), Option.bind_some, toAgg_ok w.f2.f0 w.f2.f1 w.f2.f2 w.f2.f3 hw.2 w.f2.f5 (by omega), Option.bind_some]
theorem toToldS_l0 {l : List Ld} (hl : l.length ≤ 1048576) (hh : ∀ w ∈ l, ShortD w) : ∀ (d k i : Nat), i + d = l.length → d + 1048580 < k → laws_toToldS.l0 k l ((l.take i).map cvD ++ List.replicate d z96) (i : Int) = some (l.map cvD) := by
  intro d
  induction d with
  | zero =>
    intro k i hi hk
    obtain ⟨k, rfl⟩ : ∃ q, k = q + 1 := ⟨k - 1, by omega⟩
    rw [laws_toToldS.l0, if_neg (by omega), List.take_of_length_le (by omega), List.replicate_zero, List.append_nil]
  | succ d ih =>
    intro k i hi hk
    obtain ⟨k, rfl⟩ : ∃ q, k = q + 1 := ⟨k - 1, by omega⟩
    have hlt : i < l.length := by omega
    have hnext := ih k (i + 1) (by omega) (by omega)
    rw [laws_toToldS.l0, if_pos (by omega), if_pos (by omega), rdLd_get hlt, toTold_ok (hh _ (List.getElem_mem hlt)) (by omega)]
    rw [Option.bind_some, if_pos (by rw [List.length_append, List.length_map, List.length_take, List.length_replicate]; omega), Int.toNat_natCast, show wrap64 ((i : Int) + 1) = ((i + 1 : Nat) : Int) from by rw [w64 (by omega) (by omega)]; omega]
    have e := set_copy cvD z96 (d := d) hlt
    show laws_toToldS.l0 k l (((l.take i).map cvD ++ List.replicate (d + 1) z96).set i (cvD l[i])) _ = _
    rw [e]
    exact hnext
theorem toToldS_ok {l : List Ld} (hl : l.length ≤ 1048576) (hh : ∀ w ∈ l, ShortD w) {k : Nat} (hk : 2097160 < k) : laws_toToldS.f k l = some (l.map cvD) := by
  unfold laws_toToldS.f
  rw [if_pos (by omega), if_pos (by rw [Int.toNat_natCast]; omega), Int.toNat_natCast]
  have h := toToldS_l0 hl hh l.length k 0 (by omega) (by omega)
  rw [List.take_zero, List.map_nil, List.nil_append] at h
  exact h
theorem FnExactLastTold (l : List Ld) (hg : l.length ≤ maxLen ∧ ∀ w ∈ l, GTold w) : ∃ k, laws_FnExactLastTold.Ok k l := by
  have hl : l.length ≤ 9223372036854775807 := maxLen_le hg.1
  have hh : ∀ w ∈ l, HeldD w := fun w hw => heldD (hg.2 w hw)
  refine ⟨3000000, ?_⟩
  unfold laws_FnExactLastTold.Ok
  obtain ⟨r, hr, hr2⟩ := szToldS_ok hl hh (k := 3000000) (by decide)
  refine ⟨r, hr, ?_⟩
  rcases hr2 with hn | ⟨hn, hl', hs⟩
  · exact Or.inl hn
  refine Or.inr ⟨hn, ?_⟩
  have hlm : (l.map cvD).length ≤ 1048576 := by rw [List.length_map]; exact hl'
  have hsm : RowsD (l.map cvD) := by
    intro w hw
    obtain ⟨v, hv, rfl⟩ := List.mem_map.1 hw
    obtain ⟨q1, q2⟩ := hs v hv
    exact ⟨by show (v.f0.f1.map cvT).length ≤ _; rw [List.length_map]; exact q1, q2⟩
  obtain ⟨q, g, h1, h2, hlq, hsq⟩ := last_both hlm hsm (k := 3000000) (by decide)
  have e1 := endD_le (l.map cvD) 1 hsm
  have e2 := endD_le q 1 hsq
  exact ⟨l.map cvD, q, g, endD (l.map cvD) 1, markDs (l.map cvD) 1, endD q 1, markDs q 1, toToldS_ok hl' hs (k := 3000000) (by decide), h1, h2, eqToldS_ok hlq hsq (by decide), eqToldS_ok hlm hsm (by decide), markToldS_ok _ (by decide) (by decide) hlm hsm (by decide), markToldS_ok _ (by decide) (by decide) hlq hsq (by decide), heldToldS_ok _ (by decide) (by decide) hlq hsq (by decide), by omega, by omega⟩
end Go.Proofs.YtkgmoajdcibafaaDoor.Pure

/- The row of laws.FnExactLastTold: its arguments opened, the walk, and the tied card. -/
namespace Go.Proofs.YtkgmoajdcibafaaDoor.fnExactLastTold
open Go Go.ChangeShapes Go.WideShapes Go.ChangeAt Go.RowKit Go.Proofs.YtkgmoajdcibafaaDoor.P Go.Proofs.YtkgmoajdcibafaaDoorW.PrintWords Go.Proofs.YtkgmoajdcibafaaDoorW.PrintLast Go.Proofs.YtkgmoajdcibafaaDoorW.PrintMore Go.Proofs.YtkgmoajdcibafaaDoor.Lem
set_option linter.unusedVariables false
theorem own : ownKnob Tryd.prog.godebug = none := by kernel_rfl
theorem laidOut : laidOutB Tryd.prog = true := by kernel_rfl
noncomputable def laidWorld (os : Os) : World := World.laidAll Tryd.prog os Rows.fnExactLastToldRow.laid
theorem laidWorld_met (os : Os) (args : Array Value) : laidMetH Tryd.prog Rows.fnExactLastToldRow.laid ((laidWorld os).forCall (fun _ _ => 0) ⟨#[], args, []⟩).memory := by
  rw [Go.MakeChecks.laidMetH_plain _ _ _ (by kernel_rfl)]
  exact laidMet_laidAll args (by kernel_rfl) (by kernel_rfl)

set_option maxRecDepth 100000 in
theorem lifted (os : Os) (started : os.Started) (H : Type) (enc : TypeId × Value → H) :
    ReturnsInHanded {} Tryd.checked os 5 .any (fun w args => (Rows.fnExactLastToldSpec.pre enc Tryd.prog Tryd.f5 [] false w args ∧ laidMetH Tryd.prog Rows.fnExactLastToldRow.laid w) ∧ sizedMet enc Tryd.prog Tryd.f5 (OpenSpec.ofChange Rows.fnExactLastToldSpec) false w args)
      (Rows.fnExactLastToldSpec.post enc Tryd.prog Tryd.f5 false true false false) := by
  refine returnsInHanded_of_change_and (C := Tryd.checked) (X := fun w _ => laidMetH Tryd.prog Rows.fnExactLastToldRow.laid w) (fun _ _ _ hh h => h.of_heap hh) own started (by kernel_rfl) Tryd.func5
    (ChangeSpec.witness_at (enc := enc) (C := Tryd.checked) (os := os) (X := fun w _ => laidMetH Tryd.prog Rows.fnExactLastToldRow.laid w) false (laidWorld os) #[.slice none 0 0] 8 rfl (by kernel_rfl) (by kernel_rfl) (by kernel_rfl) (by kernel_rfl) (by kernel_rfl) (laidWorld_met os _)) ?_
  intro W base args ds gs before hval0 hW _ _ hL _
  have hval : ∀ (j : Nat) t v, Tryd.f5.params[j]? = some t → args[j]? = some v → Value.okWide Tryd.prog W .any base t v := hval0
  have hW' := hW
  obtain ⟨p, q, hA0, hV, rfl, hfz, hnd⟩ := hW
  have hA : DataW.TrodAll enc Tryd.prog W 0 (fun _ => true) true Tryd.f5.params.toList args.toList ds p := hA0
  rw [Tryd.params5] at hA hval
  obtain ⟨v0, vs0, d0, ds0, p0, q0, hargs, rfl, rfl, h0, r0⟩ := trodAll_cons hA
  obtain ⟨rfl, rfl, rfl⟩ := trodAll_nil r0
  obtain rfl : args = #[v0] := by cases args; simp_all
  obtain ⟨rfl, rfl⟩ := trodVars_none hV
  have k0 := h0
  have lt0 : ∀ x ∈ p0, x.block < W.heap.size := by obtain ⟨m, hm⟩ := k0; exact DataW.trod_lt m _ _ _ hm
  have hO0 : Opens enc Tryd.prog W 0 (fun _ => true) true (Kd.slice 94 k94) 55 _ := (opens_slice 94 Tryd.underlying55 (opens_iso (fun x : S94 => (x.f0, x.f1, x.f2)) (fun a => ⟨a.1, a.2.1, a.2.2⟩) (fun _ => rfl) (opens_struct Tryd.underlying94 (by kernel_rfl) (opensF_cons (by kernel_rfl) (opens_iso (fun x : S27 => (x.f0, x.f1, x.f2)) (fun a => ⟨a.1, a.2.1, a.2.2⟩) (fun _ => rfl) (opens_struct Tryd.underlying27 (by kernel_rfl) (opensF_cons (by kernel_rfl) (opens_string Tryd.underlying9) (opensF_cons (by kernel_rfl) (opens_slice 119 Tryd.underlying25 (opens_iso (fun x : S119 => (x.f0, x.f1)) (fun a => ⟨a.1, a.2⟩) (fun _ => rfl) (opens_struct Tryd.underlying119 (by kernel_rfl) (opensF_cons (by kernel_rfl) (opens_string Tryd.underlying9) (opensF_one (by kernel_rfl) (opens_string Tryd.underlying9))))) (by kernel_rfl)) (opensF_one (by kernel_rfl) (opens_int Tryd.underlying3)))))) (opensF_cons (by kernel_rfl) (opens_int Tryd.underlying3) (opensF_one (by kernel_rfl) (opens_iso (fun x : S92 => (x.f0, x.f1, x.f2, x.f3, x.f4, x.f5)) (fun a => ⟨a.1, a.2.1, a.2.2.1, a.2.2.2.1, a.2.2.2.2.1, a.2.2.2.2.2⟩) (fun _ => rfl) (opens_struct Tryd.underlying92 (by kernel_rfl) (opensF_cons (by kernel_rfl) (opens_int Tryd.underlying3) (opensF_cons (by kernel_rfl) (opens_int Tryd.underlying3) (opensF_cons (by kernel_rfl) (opens_int Tryd.underlying3) (opensF_cons (by kernel_rfl) (opens_int Tryd.underlying3) (opensF_cons (by kernel_rfl) (opens_slice 3 Tryd.underlying33 (opens_int Tryd.underlying3) (by kernel_rfl)) (opensF_one (by kernel_rfl) (opens_bool Tryd.underlying4)))))))))))))) (by kernel_rfl))
  obtain ⟨A0, n0, c0, rfl⟩ := okWide_slice Tryd.underlying55 (hval 0 55 v0 rfl rfl)
  obtain ⟨l0, ⟨A0', c0', e0, hc0, hC0⟩, hg0⟩ := hO0 _ _ _ h0.choose_spec
  obtain ⟨rfl, rfl, rfl⟩ : A0 = A0' ∧ n0 = l0.length ∧ c0 = c0' := by
    have e1 : (Value.slice A0 n0 c0).cells.toList = [.slice A0' l0.length c0'] := e0
    simpa [Value.cells] using e1
  clear hA0 hval0
  obtain ⟨k, hk⟩ := Pure.FnExactLastTold l0 hg0
  refine (laws_FnExactLastTold.calls (k := k) (l0 := l0) (A0 := A0) (c0 := c0) (hr0 := hC0) (hc0 := hc0) (w := W) (h := hk)).mono fun e W' ⟨he, bel⟩ => ?_
  subst he
  exact ⟨_, rfl, _, _, _, [], _, [], hW', trodAll_mk1 (shut_bool Tryd.underlying4 _), (trodAll_cons_mk (Below.trod laidOut (by kernel_rfl) (of_decide_eq_true (by kernel_rfl)) k0 bel lt0) trodAll_mk0), rfl, bel.frame _, fun h => by cases h⟩

theorem said : Rows.FnExactLastToldSaid :=
  OpenClaim.holds_of_wide 5 Tryd.f5 rfl rfl rfl rfl rfl rfl rfl ⟨rfl, rfl, rfl, rfl, rfl⟩ rfl rfl rfl rfl rfl (by kernel_rfl) Tryd.func5 (by kernel_rfl)
    (of_decide_eq_true (by kernel_rfl)) (by unfold Func.isWrapper; first | (rw [if_pos (by decide +kernel)]; kernel_rfl) | (rw [if_neg (of_decide_eq_false (by kernel_rfl))]; exact ⟨rfl, rfl⟩))
    (fun os started H enc _ => lifted os started H enc)
theorem proved : Rows.FnExactLastToldCardSaid :=
  Claim7.holds_tied_plain_at .later [] [.data, .pinned] true (true, "dbe4185d9b14acd1f21281ce2ffaf2428158838d079ea547a5009293e05bd213") false
    said (fun _ h => by cases h) (by kernel_rfl) (fun _ h => by cases h) fnExactLastTold_row_tie rfl ⟨rfl, rfl⟩ (by kernel_rfl) rfl
    (fun f fn hf hfn => by
      obtain rfl : f = 5 := Option.some.inj ((show Tryd.prog.funcNamed "loop.example/g00150/laws.FnExactLastTold" = some 5 by kernel_rfl).symm.trans hf) |>.symm
      obtain rfl : fn = Tryd.f5 := (Option.some.inj (Tryd.func5.symm.trans hfn)).symm
      exact ⟨by kernel_rfl, fun j t ht => by
        rw [Tryd.params5] at ht
        have h3 : t = 55 := by
          rcases j with _ | j
          · exact ((by simpa using ht.symm))
          · simp at ht
        obtain rfl := h3
        · exact (show Tryd.prog.wantsStandIn 55 = false by kernel_rfl)⟩)
    (by kernel_rfl)
#print axioms proved
end Go.Proofs.YtkgmoajdcibafaaDoor.fnExactLastTold
namespace Go.Proofs.YtkgmoajdcibafaaDoor
/-- The tied card, under a short name, for the claim. -/
theorem fnExactLastTold_holds : Rows.FnExactLastToldCardSaid := fnExactLastTold.proved
end Go.Proofs.YtkgmoajdcibafaaDoor
