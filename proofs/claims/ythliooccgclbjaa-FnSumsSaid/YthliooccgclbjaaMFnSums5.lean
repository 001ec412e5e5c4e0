/- Part 5 of the walks and words that FnSums uses. No conditions of its own. -/
import Derived.Test.YthliooccgclbjaaMFnSums4

-- written by a program of this session's (wip/pp)
namespace Go.Proofs.Ythliooccgclbjaa.P
open Go.RowKit Go.Proofs.YthliooccgclbjaaW.PrintWords Go.Proofs.YthliooccgclbjaaW.PrintLast Go.Proofs.YthliooccgclbjaaW.PrintMore
attribute [local go_sem] max2_int min2_int max_two min_two max_three min_three max_four min_four   -- for this text's walks alone
set_option linter.unusedVariables false
set_option linter.unusedSimpArgs false

/-! ### impl_ReadAgg: function 33 -/
def impl_ReadAgg.l0 : Nat → List Int → List Int → Int → Int → Option (Int × Int × Int × Int × List Int × Bool × Bool)
 | 0, _, _, _, _ => none
 | k + 1, x0, x4, x5, x16 => if x16 < 12 then ((impl_ReadVar.f k x0 x5).bind fun bt105 => (if bt105.2.2 = true then (if (Go.bits .and .u64 bt105.1 1) = 1 then (if x4.length < 17592186044416 then (impl_ReadAgg.l0 k x0 (x4 ++ [wrap64 ((wrap64 (-(wrap64 (bt105.1 / 2)))) - 1)]) bt105.2.1 (wrap64 (x16 + 1))) else (none)) else (if x4.length < 17592186044416 then (impl_ReadAgg.l0 k x0 (x4 ++ [wrap64 (bt105.1 / 2)]) bt105.2.1 (wrap64 (x16 + 1))) else (none))) else (some (0, 0, 0, 0, ([] : List Int), false, false)))) else (if 0 < (x4.length : Int) then (if 1 < (x4.length : Int) then (if 2 < (x4.length : Int) then (if 3 < (x4.length : Int) then (if 4 ≤ (x4.length : Int) then ((some (x4.drop (4 : Int).toNat : List Int)).bind fun y118 => (if 0 < (x0.length : Int) then ((impl_GoodAgg.f k (rd x4 0) (rd x4 1) (rd x4 2) (rd x4 3) y118 ((rd x0 0) == 1)).bind fun t123 => (if t123 = true then ((impl_aggBytes.f k (rd x4 0) (rd x4 1) (rd x4 2) (rd x4 3) y118 ((rd x0 0) == 1)).bind fun t124 => ((bytes_Equal.f t124 x0).bind fun t127 => (if t127 = true then (some (rd x4 0, rd x4 1, rd x4 2, rd x4 3, y118, ((rd x0 0) == 1), true)) else (some (0, 0, 0, 0, ([] : List Int), false, false))))) else (some (0, 0, 0, 0, ([] : List Int), false, false)))) else (none))) else (none)) else (none)) else (none)) else (none)) else (none))
def impl_ReadAgg.f (k : Nat) (l0 : List Int) : Option (Int × Int × Int × Int × List Int × Bool × Bool) := if (l0.length : Int) = 0 then (some (0, 0, 0, 0, ([] : List Int), false, false)) else (impl_ReadAgg.l0 k l0 (([] : List Int)) 1 0)
theorem impl_ReadAgg.mono_l : ∀ k, (∀ y0 y1 y2 y3, LeO (impl_ReadAgg.l0 k y0 y1 y2 y3) (impl_ReadAgg.l0 (k + 1) y0 y1 y2 y3))
 | 0 => fun _ _ _ _ r h => by simp [impl_ReadAgg.l0] at h
 | k + 1 => by
  have ih0 := impl_ReadAgg.mono_l k
  · intro y0 y1 y2 y3
    unfold impl_ReadAgg.l0
    repeat' first
     | (with_reducible first | exact ih0 .. | exact impl_GoodAgg.mono .. | exact impl_ReadVar.mono .. | exact impl_aggBytes.mono .. | exact LeO.refl _ | exact LeO.none _ | refine LeO.ite ?_ ?_ | refine LeO.bind ?_ (fun _ => ?_))
     | exact LeO.none _
     | refine LeO.ite ?_ ?_
     | refine LeO.bind ?_ (fun _ => ?_)
theorem impl_ReadAgg.mono : ∀ a0 k, LeO (impl_ReadAgg.f k a0) (impl_ReadAgg.f (k + 1) a0) := by
 intro a0 k
 have ih0 := impl_ReadAgg.mono_l k
 unfold impl_ReadAgg.f
 repeat' first
  | (with_reducible first | exact ih0 .. | exact impl_GoodAgg.mono .. | exact impl_ReadVar.mono .. | exact impl_aggBytes.mono .. | exact LeO.refl _ | exact LeO.none _ | refine LeO.ite ?_ ?_ | refine LeO.bind ?_ (fun _ => ?_))
  | exact LeO.none _
  | refine LeO.ite ?_ ?_
  | refine LeO.bind ?_ (fun _ => ?_)
def impl_ReadAgg.T14 : Bool × List (List Nat × List Nat) := (true, [([], []), ([0], [0]), ([1], [1]), ([], []), ([3], [3]), ([4], [4]), ([], []), ([6], [6]), ([7], [7]), ([], []), ([9], [9]), ([10], [10]), ([], []), ([12], [12]), ([], []), ([14], [14]), ([15], [15]), ([16], [16]), ([2, 5, 8, 11, 13, 17], [2, 5, 8, 11, 13, 17]), ([], []), ([19, 18, 0, 1, 2, 3, 4, 5, 6, 7, 8, 9, 10, 11, 12, 13, 14, 15, 16, 17, 18, 19], [18, 19])])
def impl_ReadAgg.B14 : List Nat := [0, 1, 3, 0, 8, 24, 0, 64, 192, 0, 512, 1536, 0, 4096, 0, 16384, 49152, 114688, 262143, 0, 1048575]
theorem impl_ReadAgg.tab14 : rtab .any (opsOf Try.f33 14) = impl_ReadAgg.T14 := by kernel_rfl
theorem impl_ReadAgg.bits14 : waitsOk impl_ReadAgg.T14.2 impl_ReadAgg.B14 = true := by kernel_rfl
set_option maxHeartbeats 8000000 in
set_option maxRecDepth 100000 in
theorem impl_ReadAgg.calls (k : Nat) (A0 : Option Addr) (c0 : Nat) (l0 : List Int) (r1 : Int) (r2 : Int) (r3 : Int) (r4 : Int) (r5 : List Int) (r6 : Bool) (r7 : Bool) (w : World) (hr0 : Kd.C (Kd.int .u8) w A0 l0.length l0) (hc0 : l0.length ≤ c0) (h : impl_ReadAgg.f k l0 = some (r1, r2, r3, r4, r5, r6, r7)) :
 Calls Try.prog 33 #[.slice A0 l0.length c0] w fun e w' => ∃ v4_ : Value, e = .returned (.tuple #[.agg #[.int .i64 r1, .int .i64 r2, .int .i64 r3, .int .i64 r4, v4_, .bool r6], .bool r7]) ∧ Kd.Q (Kd.int .i64) 3 w' w.heap.size (fun _ => True) v4_ r5 ∧ Below w.heap.size w w' := by
 have hu54 := Try.underlying54
 have HR0 := aM hr0
 have HC0 := aM hc0
 clear hr0 hc0
 have HB := aM (Below.refl w.heap.size w)
 have H : (if (l0.length : Int) = 0 then (some (0, 0, 0, 0, ([] : List Int), false, false)) else (impl_ReadAgg.l0 k l0 (([] : List Int)) 1 0)) = some (r1, r2, r3, r4, r5, r6, r7) := h
 clear h
 by_cases c2 : (l0.length : Int) = 0
 · rw [if_pos c2] at H
   have c2b0 : ((l0.length : Int) == 0) = true := beq_iff_eq.mpr c2
   have c2b1 : ((l0.length : Int) != 0) = false := bne_eq_false_iff_eq.mpr c2
   clear c2
   simp only [Option.some.injEq, Prod.mk.injEq] at H
   obtain ⟨rfl, rfl, rfl, rfl, rfl, rfl, rfl⟩ := H
   go_enter Try.func33, Try.ntmps33
   go_wp2_with (first | ((with_reducible refine gate_dst (N := 2) rfl ?_); refine box_event ?hg (N := 2) ?hd (cs := #[.int .i64 0, .int .i64 0, .int .i64 0, .int .i64 0, .slice none 0 0, .bool false]) (t := 54) ?hr ?_; (case hd => rfl); (case hg => rfl); (case hr => first | (go_simp; done) | (go_simp; rfl)); intro gb101 hg w3 hbox hb; have _ := aM (below_step hbZ hb); have _ := aM hbox; have _ := szZ hg; have _ := szZ hg; clear HB; rename_i HB BK101 GW101 GE101; clear hb hbox hg; obtain ⟨hcz4_0, hcz4_1, hcz4_2, hcz4_3, hcz4_4, hcz4_5, hfz4_0, hfz4_1, hfz4_2, hfz4_3, hfz4_4, hfz4_5⟩ := cellsZ6 BK101.out))
   refine bodyPost_ret (results_ct rfl _ _ gb101 54 #[.int .i64 0, .int .i64 0, .int .i64 0, .int .i64 0, .slice none 0 0, .bool false] (0, 0) _ rfl bkZ Try.underlying54 rfl (by kernel_rfl)) rfl ?_
   exact ⟨_, z674d, Kd.Q_of_R z02fa, zcb41⟩
 · rw [if_neg c2] at H
   have c2b0 : ((l0.length : Int) == 0) = false := beq_eq_false_iff_ne.mpr c2
   have c2b1 : ((l0.length : Int) != 0) = true := bne_iff_ne.mpr c2
   have c2b2 : ¬ (l0 = []) := fun h_ => c2 (by rw [h_]; rfl)
   obtain ⟨y102, hy102⟩ : ∃ y_ : List Int, y_ = (([] : List Int)) := ⟨_, rfl⟩
   replace H : (impl_ReadAgg.l0 k l0 y102 1 0) = some (r1, r2, r3, r4, r5, r6, r7) := by first | (rw [hy102]; with_reducible exact H) | (have H2_ := (Option.bind_some _ _).symm.trans H; rw [hy102]; with_reducible exact H2_) | (have H2_ := (Option.bind_some _ _).symm.trans H; with_reducible exact H2_) | with_reducible exact H | (rw [hy102]; exact H) | exact H
   have Ny102 := aM hy102
   clear hy102
   have H' := aM H
   clear H
   go_enter Try.func33, Try.ntmps33
   go_wp2_with (first | ((with_reducible refine gate_dst (N := 2) rfl ?_); refine box_event ?hg (N := 2) ?hd (cs := #[.int .i64 0, .int .i64 0, .int .i64 0, .int .i64 0, .slice none 0 0, .bool false]) (t := 54) ?hr ?_; (case hd => rfl); (case hg => rfl); (case hr => first | (go_simp; done) | (go_simp; rfl)); intro gb101 hg w5 hbox hb; have _ := aM (below_step hbZ hb); have _ := aM hbox; have _ := szZ hg; have _ := szZ hg; clear HB; rename_i HB BK101 GW101 GE101; clear hb hbox hg) | ((with_reducible refine gate_dst (N := 15) rfl ?_); refine Kd.R_lit (Kd.int .i64) _ 3 ?hg (N := 15) ?hd (xs := ([] : List Int)) (inner := []) (ok := fun _ => True) (okp := fun _ => True) ?hr ?hp (fun _ hk => hk) trivial (Below.refl _ _) (Nat.le_refl _) (by simp) ?_; (case hd => rfl); (case hg => rfl); (case hr => first | (go_simp; done) | (go_simp; rfl)); (case hp => exact (Reps.none _ _)); intro v103 w6 ho7 hb hg_ hnew_; clear hg_ hnew_; (first | rw [← Ny102.out] at ho7 | (simp only [Int.reduceToNat] at ho7; rw [← Ny102.out] at ho7)); have _ := aM (Kd.R_lower ho7 (below_size hbZ)); have _ := bB gb101 hb; have _ := aM (below_step hbZ hb); clear BK101 HB; rename_i HO104 BK101 HB; clear hb ho7))
   go_loopg [4, 5, 16] k (fun kq v4 v5 v16 w' => ∃ (x4_1 : List Int) (x5_1 : Int) (x16_1 : Int) (x102000_1 : Int) (x102001_1 : Int) (x102002_1 : Int) (x102003_1 : Int) (x102005_1 : Bool), v5 = .int .i64 x5_1 ∧ v16 = .int .i64 x16_1 ∧ Aside0 (impl_ReadAgg.l0 kq l0 x4_1 x5_1 x16_1 = some (r1, r2, r3, r4, r5, r6, r7)) ∧ Aside0 (kq ≤ k) ∧ Aside0 (Kd.R (Kd.int .i64) 3 w' w.heap.size (fun _ => True) v4 x4_1) ∧ Aside0 (w'.heap[gb101]? = some (.cells #[.int .i64 x102000_1, .int .i64 x102001_1, .int .i64 x102002_1, .int .i64 x102003_1, (.slice none 0 0), .bool x102005_1] 54 (0, 0))) ∧ Aside0 (Below w.heap.size w w'))
   case atStart => exact ⟨(y102), (1), (0), (0), (0), (0), (0), (false), z4458, z4458, H', ⟨Nat.le_refl _⟩, ⟨rZ HO104.out⟩, ⟨bkZ⟩, ⟨zcb41⟩⟩
   case round =>
    clear H'
    try clear c2
    try clear c2b0
    try clear c2b1
    try clear c2b2
    try clear p2
    try clear c3
    try clear hcz4_0 hcz4_1 hcz4_2 hcz4_3 hcz4_4 hcz4_5 hfz4_0 hfz4_1 hfz4_2 hfz4_3 hfz4_4 hfz4_5
    obtain ⟨x4_1, x5_1, x16_1, x102000_1, x102001_1, x102002_1, x102003_1, x102005_1, rfl, rfl, HA, HK1, HO_4, BK101, HB⟩ := hrel
    cases gk with
    | zero => exact absurd HA.out (by simp [impl_ReadAgg.l0])
    | succ k1 =>
     have H := HA.out
     clear HA
     simp only [impl_ReadAgg.l0] at H
     by_cases c8 : x16_1 < 12
     · rw [if_pos c8] at H
       have c8b0 : decide (x16_1 < 12) = true := decide_eq_true c8
       clear c8
       replace H := Option.bind_eq_some_iff.mp H
       obtain ⟨⟨t105, t106, t107⟩, A90, H⟩ := H
       try dsimp only at H
       have A9 := aM A90
       clear A90
       by_cases c10 : t107 = true
       · subst c10
         have H1 : (if (Go.bits .and .u64 t105 1) = 1 then (if x4_1.length < 17592186044416 then (impl_ReadAgg.l0 k1 l0 (x4_1 ++ [wrap64 ((wrap64 (-(wrap64 (t105 / 2)))) - 1)]) t106 (wrap64 (x16_1 + 1))) else (none)) else (if x4_1.length < 17592186044416 then (impl_ReadAgg.l0 k1 l0 (x4_1 ++ [wrap64 (t105 / 2)]) t106 (wrap64 (x16_1 + 1))) else (none))) = some (r1, r2, r3, r4, r5, r6, r7) := by rw [if_pos rfl] at H; exact H
         clear H
         have H := H1
         clear H1
         by_cases c11 : (Go.bits .and .u64 t105 1) = 1
         · rw [if_pos c11] at H
           have c11b0 : ((Go.bits .and .u64 t105 1) == 1) = true := beq_iff_eq.mpr c11
           have c11b1 : ((Go.bits .and .u64 t105 1) != 1) = false := bne_eq_false_iff_eq.mpr c11
           clear c11
           by_cases c12 : x4_1.length < 17592186044416
           · rw [if_pos c12] at H
             have LMc12 := aM c12
             clear c12
             obtain ⟨y108, hy108⟩ : ∃ y_ : List Int, y_ = (x4_1 ++ [wrap64 ((wrap64 (-(wrap64 (t105 / 2)))) - 1)]) := ⟨_, rfl⟩
             replace H : (impl_ReadAgg.l0 k1 l0 y108 t106 (wrap64 (x16_1 + 1))) = some (r1, r2, r3, r4, r5, r6, r7) := by first | (rw [hy108]; with_reducible exact H) | (have H2_ := (Option.bind_some _ _).symm.trans H; rw [hy108]; with_reducible exact H2_) | (have H2_ := (Option.bind_some _ _).symm.trans H; with_reducible exact H2_) | with_reducible exact H | (rw [hy108]; exact H) | exact H
             have Ny108 := aM hy108
             clear hy108
             have H' := aM H
             clear H
             go_wp2_with (first | ((with_reducible refine gate_callee (f := 9) rfl ?_); refine goesL_ (some 21) rfl rfl Try.func9 (by kernel_rfl) rfl #[.slice A0 l0.length c0, .int .i64 x5_1] rfl zee81 ?_; (with_reducible refine (impl_ReadVar.calls k1 _ _ l0 x5_1 t105 t106 true _ ?side1 ?side2 A9.out).mono ?_); (case side1 => exact (cZ (Kd.C_below HR0.out HB.out))); (case side2 => exact HC0.out); rintro e w13 ⟨rfl, hb⟩; refine ⟨_, rfl, ?_⟩; have _ := aM (Kd.R_below (rZ HO_4.out) hb); have _ := bB gb101 hb; have _ := aM (below_step hbZ hb); clear HO_4 BK101 HB; rename_i HO_4 BK101 HB; (try clear hb)) | ((with_reducible refine gate_builtin (b := .append) (xs := #[.tmp 37, .tmp 39]) rfl ?_); at_builtin; refine Kd.R_append (Kd.int .i64) (w0 := w) w.heap.size rfl (.tmp 37) (.tmp 39) 52 3 (.int .i64 0) 8 rfl Try.underlying52 info3 rfl (by decide) (by omega) u4 x4_1 (wrap64 ((wrap64 (-(wrap64 (t105 / 2)))) - 1)) [.int .i64 (wrap64 ((wrap64 (-(wrap64 (t105 / 2)))) - 1))] (fun _ => True) (fun _ => False) rfl rfl ?aP (fun _ hk => hk.elim) ?aF ?aO ?aB ?aS ?aL ?_; (case aP => exact rfl); (case aB => exact hbZ); (case aF => exact (fun _ _ => trivial)); (case aO => exact (rZ HO_4.out)); (case aS => exact (below_size hbZ)); (case aL => have := LMc12.out; omega); intro v109 w14 ho hb hg hat; rw [← Ny108.out] at ho; have _ := aM (blk_grown (g := gb101) bkZ hg (Kd.R_ne HO_4.out BK101.out (by decide))); have _ := aM hb; have _ := aM ho; clear BK101 HB HO_4; rename_i BK101 HB HO110; clear ho hb hg hat))
             go_roundg k1
             case measure => have := HK1.out; omega
             case rel => exact ⟨(y108), (t106), (wrap64 (x16_1 + 1)), (x102000_1), (x102001_1), (x102002_1), (x102003_1), (x102005_1), z4458, z4458, H', ⟨zfb39⟩, ⟨rZ HO110.out⟩, ⟨bkZ⟩, ⟨zcb41⟩⟩
           · rw [if_neg c12] at H
             exact absurd H (by simp)
         · rw [if_neg c11] at H
           have c11b0 : ((Go.bits .and .u64 t105 1) == 1) = false := beq_eq_false_iff_ne.mpr c11
           have c11b1 : ((Go.bits .and .u64 t105 1) != 1) = true := bne_iff_ne.mpr c11
           by_cases c15 : x4_1.length < 17592186044416
           · rw [if_pos c15] at H
             have LMc15 := aM c15
             clear c15
             obtain ⟨y111, hy111⟩ : ∃ y_ : List Int, y_ = (x4_1 ++ [wrap64 (t105 / 2)]) := ⟨_, rfl⟩
             replace H : (impl_ReadAgg.l0 k1 l0 y111 t106 (wrap64 (x16_1 + 1))) = some (r1, r2, r3, r4, r5, r6, r7) := by first | (rw [hy111]; with_reducible exact H) | (have H2_ := (Option.bind_some _ _).symm.trans H; rw [hy111]; with_reducible exact H2_) | (have H2_ := (Option.bind_some _ _).symm.trans H; with_reducible exact H2_) | with_reducible exact H | (rw [hy111]; exact H) | exact H
             have Ny111 := aM hy111
             clear hy111
             have H' := aM H
             clear H
             go_wp2_with (first | ((with_reducible refine gate_callee (f := 9) rfl ?_); refine goesL_ (some 21) rfl rfl Try.func9 (by kernel_rfl) rfl #[.slice A0 l0.length c0, .int .i64 x5_1] rfl zee81 ?_; (with_reducible refine (impl_ReadVar.calls k1 _ _ l0 x5_1 t105 t106 true _ ?side1 ?side2 A9.out).mono ?_); (case side1 => exact (cZ (Kd.C_below HR0.out HB.out))); (case side2 => exact HC0.out); rintro e w16 ⟨rfl, hb⟩; refine ⟨_, rfl, ?_⟩; have _ := aM (Kd.R_below (rZ HO_4.out) hb); have _ := bB gb101 hb; have _ := aM (below_step hbZ hb); clear HO_4 BK101 HB; rename_i HO_4 BK101 HB; (try clear hb)) | ((with_reducible refine gate_builtin (b := .append) (xs := #[.tmp 37, .tmp 39]) rfl ?_); at_builtin; refine Kd.R_append (Kd.int .i64) (w0 := w) w.heap.size rfl (.tmp 37) (.tmp 39) 52 3 (.int .i64 0) 8 rfl Try.underlying52 info3 rfl (by decide) (by omega) u4 x4_1 (wrap64 (t105 / 2)) [.int .i64 (wrap64 (t105 / 2))] (fun _ => True) (fun _ => False) rfl rfl ?aP (fun _ hk => hk.elim) ?aF ?aO ?aB ?aS ?aL ?_; (case aP => exact rfl); (case aB => exact hbZ); (case aF => exact (fun _ _ => trivial)); (case aO => exact (rZ HO_4.out)); (case aS => exact (below_size hbZ)); (case aL => have := LMc15.out; omega); intro v112 w17 ho hb hg hat; rw [← Ny111.out] at ho; have _ := aM (blk_grown (g := gb101) bkZ hg (Kd.R_ne HO_4.out BK101.out (by decide))); have _ := aM hb; have _ := aM ho; clear BK101 HB HO_4; rename_i BK101 HB HO113; clear ho hb hg hat))
             go_roundg k1
             case measure => have := HK1.out; omega
             case rel => exact ⟨(y111), (t106), (wrap64 (x16_1 + 1)), (x102000_1), (x102001_1), (x102002_1), (x102003_1), (x102005_1), z4458, z4458, H', ⟨zfb39⟩, ⟨rZ HO113.out⟩, ⟨bkZ⟩, ⟨zcb41⟩⟩
           · rw [if_neg c15] at H
             exact absurd H (by simp)
       · replace c10 := Bool.eq_false_iff.mpr c10
         subst c10
         have H1 : (some (0, 0, 0, 0, ([] : List Int), false, false)) = some (r1, r2, r3, r4, r5, r6, r7) := by rw [if_neg (show ¬ (false = true) by decide)] at H; exact H
         clear H
         have H := H1
         clear H1
         simp only [Option.some.injEq, Prod.mk.injEq] at H
         obtain ⟨rfl, rfl, rfl, rfl, rfl, rfl, rfl⟩ := H
         go_wp2_with (first | ((with_reducible refine gate_callee (f := 9) rfl ?_); refine goesL_ (some 21) rfl rfl Try.func9 (by kernel_rfl) rfl #[.slice A0 l0.length c0, .int .i64 x5_1] rfl zee81 ?_; (with_reducible refine (impl_ReadVar.calls k1 _ _ l0 x5_1 t105 t106 false _ ?side1 ?side2 A9.out).mono ?_); (case side1 => exact (cZ (Kd.C_below HR0.out HB.out))); (case side2 => exact HC0.out); rintro e w18 ⟨rfl, hb⟩; refine ⟨_, rfl, ?_⟩; have _ := aM (Kd.R_below (rZ HO_4.out) hb); have _ := bB gb101 hb; have _ := aM (below_step hbZ hb); clear HO_4 BK101 HB; rename_i HO_4 BK101 HB; (try clear hb); obtain ⟨hcz19_0, hcz19_1, hcz19_2, hcz19_3, hcz19_4, hcz19_5, hfz19_0, hfz19_1, hfz19_2, hfz19_3, hfz19_4, hfz19_5⟩ := cellsZ6 BK101.out))
         refine bodyPost_ret (results_ct rfl _ _ gb101 54 #[.int .i64 0, .int .i64 0, .int .i64 0, .int .i64 0, .slice none 0 0, .bool false] (0, 0) _ rfl bkZ Try.underlying54 rfl (by kernel_rfl)) rfl ?_
         exact ⟨_, z674d, Kd.Q_of_R z02fa, zcb41⟩
     · rw [if_neg c8] at H
       have c8b0 : decide (x16_1 < 12) = false := decide_eq_false c8
       clear c8
       by_cases c20 : 0 < (x4_1.length : Int)
       · rw [if_pos c20] at H
         have c20b0 : decide (0 < (x4_1.length : Int)) = true := decide_eq_true c20
         have c20b1 : decide (0 < x4_1.length) = true := decide_eq_true (by omega)
         clear c20
         by_cases c21 : 1 < (x4_1.length : Int)
         · rw [if_pos c21] at H
           have c21b0 : decide (1 < (x4_1.length : Int)) = true := decide_eq_true c21
           have c21b1 : decide (1 < x4_1.length) = true := decide_eq_true (by omega)
           clear c21
           by_cases c22 : 2 < (x4_1.length : Int)
           · rw [if_pos c22] at H
             have c22b0 : decide (2 < (x4_1.length : Int)) = true := decide_eq_true c22
             have c22b1 : decide (2 < x4_1.length) = true := decide_eq_true (by omega)
             clear c22
             by_cases c23 : 3 < (x4_1.length : Int)
             · rw [if_pos c23] at H
               have c23b0 : decide (3 < (x4_1.length : Int)) = true := decide_eq_true c23
               have c23b1 : decide (3 < x4_1.length) = true := decide_eq_true (by omega)
               clear c23
               by_cases c24 : 4 ≤ (x4_1.length : Int)
               · rw [if_pos c24] at H
                 have c24b0 := eq_true c24
                 have c24b1 : decide (4 ≤ (x4_1.length : Int)) = true := decide_eq_true c24
                 clear c24
                 obtain ⟨y118, hy118⟩ : ∃ y_ : List Int, y_ = (x4_1.drop (4 : Int).toNat) := ⟨_, rfl⟩
                 replace H : (if 0 < (l0.length : Int) then ((impl_GoodAgg.f k1 (rd x4_1 0) (rd x4_1 1) (rd x4_1 2) (rd x4_1 3) y118 ((rd l0 0) == 1)).bind fun t123 => (if t123 = true then ((impl_aggBytes.f k1 (rd x4_1 0) (rd x4_1 1) (rd x4_1 2) (rd x4_1 3) y118 ((rd l0 0) == 1)).bind fun t124 => ((bytes_Equal.f t124 l0).bind fun t127 => (if t127 = true then (some (rd x4_1 0, rd x4_1 1, rd x4_1 2, rd x4_1 3, y118, ((rd l0 0) == 1), true)) else (some (0, 0, 0, 0, ([] : List Int), false, false))))) else (some (0, 0, 0, 0, ([] : List Int), false, false)))) else (none)) = some (r1, r2, r3, r4, r5, r6, r7) := by first | (rw [hy118]; with_reducible exact H) | (have H2_ := (Option.bind_some _ _).symm.trans H; rw [hy118]; with_reducible exact H2_) | (have H2_ := (Option.bind_some _ _).symm.trans H; with_reducible exact H2_) | with_reducible exact H | (rw [hy118]; exact H) | exact H
                 have Ny118 := aM hy118
                 clear hy118
                 by_cases c25 : 0 < (l0.length : Int)
                 · rw [if_pos c25] at H
                   have c25b0 : decide (0 < (l0.length : Int)) = true := decide_eq_true c25
                   have c25b1 : decide (0 < l0.length) = true := decide_eq_true (by omega)
                   clear c25
                   replace H := Option.bind_eq_some_iff.mp H
                   obtain ⟨t123, A260, H⟩ := H
                   try dsimp only at H
                   have A26 := aM A260
                   clear A260
                   by_cases c27 : t123 = true
                   · subst c27
                     have H1 : ((impl_aggBytes.f k1 (rd x4_1 0) (rd x4_1 1) (rd x4_1 2) (rd x4_1 3) y118 ((rd l0 0) == 1)).bind fun t124 => ((bytes_Equal.f t124 l0).bind fun t127 => (if t127 = true then (some (rd x4_1 0, rd x4_1 1, rd x4_1 2, rd x4_1 3, y118, ((rd l0 0) == 1), true)) else (some (0, 0, 0, 0, ([] : List Int), false, false))))) = some (r1, r2, r3, r4, r5, r6, r7) := by rw [if_pos rfl] at H; exact H
                     clear H
                     have H := H1
                     clear H1
                     replace H := Option.bind_eq_some_iff.mp H
                     obtain ⟨t124, A280, H⟩ := H
                     try dsimp only at H
                     have A28 := aM A280
                     clear A280
                     replace H := Option.bind_eq_some_iff.mp H
                     obtain ⟨t127, A290, H⟩ := H
                     try dsimp only at H
                     have A29 := aM A290
                     clear A290
                     by_cases c30 : t127 = true
                     · subst c30
                       have H1 : (some (rd x4_1 0, rd x4_1 1, rd x4_1 2, rd x4_1 3, y118, ((rd l0 0) == 1), true)) = some (r1, r2, r3, r4, r5, r6, r7) := by rw [if_pos rfl] at H; exact H
                       clear H
                       have H := H1
                       clear H1
                       simp only [Option.some.injEq, Prod.mk.injEq] at H
                       obtain ⟨rfl, rfl, rfl, rfl, rfl, rfl, rfl⟩ := H
                       try go_wp2
                       have _ := aM (Kd.R_drew HO_4.out)
                       have _ := aM (blk_drew BK101.out)
                       have _ := aM (below_drew1 HB.out)
                       clear HO_4
                       clear BK101
                       clear HB
                       rename_i HO_4 BK101 HB
                       obtain ⟨Ao32, co32, eo32⟩ := Kd.R_slice HO_4.out
                       (first | subst eo32 | (injection eo32 with f1_ f2_ f3_; have f4_ := f1_.symm; have f5_ := f3_.symm; clear f1_ f2_ f3_; subst f4_; subst f5_))
                       have p114 : 0 ≤ (0 : Int) := (by omega)
                       have q114 : 0 < (x4_1.length : Int) := of_decide_eq_true z1200
                       obtain ⟨ad114, e114, hx114_0⟩ := Kd.at_int (Kd.R_reads' HO_4.out).2.2 0 p114 q114
                       cases e114
                       have qi114 : (0 < x4_1.length) = True := eq_true (by omega)
                       (try rw [show ((0 : Int)).toNat = 0 from rfl] at hx114_0)
                       (try rw [Addr.add_zero'] at hx114_0)
                       replace p114 := eq_true p114
                       replace q114 := eq_true q114
                       have p115 : 0 ≤ (1 : Int) := (by omega)
                       have q115 : 1 < (x4_1.length : Int) := of_decide_eq_true z1200
                       obtain ⟨ad115, e115, hx115_0⟩ := Kd.at_int (Kd.R_reads' HO_4.out).2.2 1 p115 q115
                       obtain rfl : ad114 = ad115 := (by injection e115)
                       (try simp only [show (1 : Int).toNat = 1 from rfl, Nat.reduceMul, Nat.reduceEqDiff, Go.Addr.add, ↓reduceIte] at hx115_0)
                       have qi115 : (1 < x4_1.length) = True := eq_true (by omega)
                       (try rw [show ((1 : Int)).toNat = 1 from rfl] at hx115_0)
                       replace p115 := eq_true p115
                       replace q115 := eq_true q115
                       have p116 : 0 ≤ (2 : Int) := (by omega)
                       have q116 : 2 < (x4_1.length : Int) := of_decide_eq_true z1200
                       obtain ⟨ad116, e116, hx116_0⟩ := Kd.at_int (Kd.R_reads' HO_4.out).2.2 2 p116 q116
                       obtain rfl : ad114 = ad116 := (by injection e116)
                       (try simp only [show (2 : Int).toNat = 2 from rfl, Nat.reduceMul, Nat.reduceEqDiff, Go.Addr.add, ↓reduceIte] at hx116_0)
                       have qi116 : (2 < x4_1.length) = True := eq_true (by omega)
                       (try rw [show ((2 : Int)).toNat = 2 from rfl] at hx116_0)
                       replace p116 := eq_true p116
                       replace q116 := eq_true q116
                       have p117 : 0 ≤ (3 : Int) := (by omega)
                       have q117 : 3 < (x4_1.length : Int) := of_decide_eq_true z1200
                       obtain ⟨ad117, e117, hx117_0⟩ := Kd.at_int (Kd.R_reads' HO_4.out).2.2 3 p117 q117
                       obtain rfl : ad114 = ad117 := (by injection e117)
                       (try simp only [show (3 : Int).toNat = 3 from rfl, Nat.reduceMul, Nat.reduceEqDiff, Go.Addr.add, ↓reduceIte] at hx117_0)
                       have qi117 : (3 < x4_1.length) = True := eq_true (by omega)
                       (try rw [show ((3 : Int)).toNat = 3 from rfl] at hx117_0)
                       replace p117 := eq_true p117
                       replace q117 := eq_true q117
                       have q33 : (4 : Int) ≤ ((x4_1.length : Int) : Int) := of_decide_eq_true z1200
                       obtain ⟨i033, hi033, _, hsz33, _⟩ := info_parts info3
                       have hcut33 := cut_from (P := Try.prog) 52 3 .i64 Try.underlying52 hi033 1 hsz33 (some ad114) x4_1.length co32 4 (by omega) q33
                       have hr33 := Kd.Q_drop (k := (4 : Int).toNat) (Kd.Q_of_R HO_4.out) (by omega)
                       obtain ⟨A33, hA33⟩ : ∃ A1, A1 = (if co32 = (4 : Int).toNat then (some ad114) else ((some ad114) : Option Addr).map (·.add ((4 : Int).toNat * 1))) := ⟨_, rfl⟩
                       obtain ⟨c33, hc33⟩ : ∃ c1, c1 = co32 - (4 : Int).toNat := ⟨_, rfl⟩
                       have hy33 : y118.length = x4_1.length - (4 : Int).toNat := (by rw [Ny118.out, List.length_drop])
                       rw [← Ny118.out] at hr33
                       rw [← hy33, ← hA33, ← hc33] at hcut33
                       replace hr33 : Kd.Q (Kd.int .i64) 3 wr.drew w.heap.size (fun _ => True) (.slice A33 y118.length c33) y118 := (by rw [hA33, hc33, hy33]; exact hr33)
                       have HE33 : Aside0 ((Value.slice A33 y118.length c33).ownBlock = (.slice (some ad114) x4_1.length co32 : Value).ownBlock) := ⟨by rw [hA33]; split <;> (cases ((some ad114) : Option Addr) <;> rfl)⟩
                       clear hy33 hi033 hsz33 HO_4 hA33 hc33
                       have HO120 := aM hr33
                       clear hr33
                       replace q33 := eq_true q33
                       have p121 : 0 ≤ (0 : Int) := (by omega)
                       have q121 : 0 < (l0.length : Int) := of_decide_eq_true z1200
                       obtain ⟨ad121, e121, hx121_0⟩ := Kd.at_int HR0.out 0 p121 q121
                       have hw121_0 := hx121_0
                       (try rw [show ((0 : Int)).toNat = 0 from rfl] at hw121_0)
                       (try rw [show 0 * 1 = 0 from rfl] at hw121_0)
                       (try rw [Addr.add_zero'] at hw121_0)
                       cases e121
                       have qi121 : (0 < l0.length) = True := eq_true (by omega)
                       (try rw [show ((0 : Int)).toNat = 0 from rfl] at hx121_0)
                       (try rw [Addr.add_zero'] at hx121_0)
                       replace hx121_0 := (HB.out.cell (World.block_lt_of_cell? w _ hx121_0)).trans hx121_0
                       replace p121 := eq_true p121
                       replace q121 := eq_true q121
                       refine start_ (n := 21) (S := fun w' => w'.cell? ad114 = some (.int .i64 (rd x4_1 0)) ∧ w'.cell? ⟨ad114.block, ad114.off + 1, none⟩ = some (.int .i64 (rd x4_1 1)) ∧ w'.cell? ⟨ad114.block, ad114.off + 2, none⟩ = some (.int .i64 (rd x4_1 2)) ∧ w'.cell? ⟨ad114.block, ad114.off + 3, none⟩ = some (.int .i64 (rd x4_1 3)) ∧ w'.cell? ad121 = some (.int .u8 (rd l0 0))) (ds := []) #[false, false, false, false, false, false, false, false, false, false, false, false, false, false, false, false, false, false, false, false, false] (by kernel_rfl) rfl rfl ⟨hx114_0, hx115_0, hx116_0, hx117_0, ((HB.out.cell (World.block_lt_of_cell? w _ hw121_0)).trans hw121_0)⟩ (fun hHeld => ?_); refine with_tabW impl_ReadAgg.tab14 impl_ReadAgg.bits14 (fun HT_ HW_ => ?_)
                       generalize wr.drew = w31 at BK101 HB HO120 hx114_0 hx115_0 hx116_0 hx117_0 hx121_0 hHeld ⊢
                       refine pure_ (i := 0) (N := some 43) (v := ?_) (a' := ?_) #[true, false, false, false, false, false, false, false, false, false, false, false, false, false, false, false, false, false, false, false, false] rfl rfl (any_of HT_.out (by kernel_rfl)) (fun _ _ _ h => h) (Or.inl ⟨by rfl, ?_⟩) ?_ ?_
                       rotate_left
                       · intro w'
                         go_simp
                         with_reducible rfl
                       rotate_left
                       · simp only [Act.put, List.setIfInBounds_toArray, List.set_cons_zero, List.set_cons_succ, i64_w, i32_w]
                         rfl
                       refine pure_ (i := 1) (N := some 44) (v := ?_) (a' := ?_) #[true, true, false, false, false, false, false, false, false, false, false, false, false, false, false, false, false, false, false, false, false] rfl rfl (any_of HT_.out (by kernel_rfl)) (fun _ _ _ h => h) (Or.inl ⟨by rfl, ?_⟩) ?_ ?_
                       rotate_left
                       · intro w'
                         go_simp
                         with_reducible rfl
                       rotate_left
                       · simp only [Act.put, List.setIfInBounds_toArray, List.set_cons_zero, List.set_cons_succ, i64_w, i32_w]
                         rfl
                       refine pure_ (i := 3) (N := some 46) (v := ?_) (a' := ?_) #[true, true, false, true, false, false, false, false, false, false, false, false, false, false, false, false, false, false, false, false, false] rfl rfl (any_of HT_.out (by kernel_rfl)) (fun _ _ _ h => h) (Or.inl ⟨by rfl, ?_⟩) ?_ ?_
                       rotate_left
                       · intro w'
                         go_simp
                         with_reducible rfl
                       rotate_left
                       · simp only [Act.put, List.setIfInBounds_toArray, List.set_cons_zero, List.set_cons_succ, i64_w, i32_w]
                         rfl
                       refine pure_ (i := 4) (N := some 47) (v := ?_) (a' := ?_) #[true, true, false, true, true, false, false, false, false, false, false, false, false, false, false, false, false, false, false, false, false] rfl rfl (any_of HT_.out (by kernel_rfl)) (fun _ _ _ h => h) (Or.inl ⟨by rfl, ?_⟩) ?_ ?_
                       rotate_left
                       · intro w'
                         go_simp
                         with_reducible rfl
                       rotate_left
                       · simp only [Act.put, List.setIfInBounds_toArray, List.set_cons_zero, List.set_cons_succ, i64_w, i32_w]
                         rfl
                       refine pure_ (i := 6) (N := some 49) (v := ?_) (a' := ?_) #[true, true, false, true, true, false, true, false, false, false, false, false, false, false, false, false, false, false, false, false, false] rfl rfl (any_of HT_.out (by kernel_rfl)) (fun _ _ _ h => h) (Or.inl ⟨by rfl, ?_⟩) ?_ ?_
                       rotate_left
                       · intro w'
                         go_simp
                         with_reducible rfl
                       rotate_left
                       · simp only [Act.put, List.setIfInBounds_toArray, List.set_cons_zero, List.set_cons_succ, i64_w, i32_w]
                         rfl
                       refine pure_ (i := 7) (N := some 50) (v := ?_) (a' := ?_) #[true, true, false, true, true, false, true, true, false, false, false, false, false, false, false, false, false, false, false, false, false] rfl rfl (any_of HT_.out (by kernel_rfl)) (fun _ _ _ h => h) (Or.inl ⟨by rfl, ?_⟩) ?_ ?_
                       rotate_left
                       · intro w'
                         go_simp
                         with_reducible rfl
                       rotate_left
                       · simp only [Act.put, List.setIfInBounds_toArray, List.set_cons_zero, List.set_cons_succ, i64_w, i32_w]
                         rfl
                       refine pure_ (i := 9) (N := some 52) (v := ?_) (a' := ?_) #[true, true, false, true, true, false, true, true, false, true, false, false, false, false, false, false, false, false, false, false, false] rfl rfl (any_of HT_.out (by kernel_rfl)) (fun _ _ _ h => h) (Or.inl ⟨by rfl, ?_⟩) ?_ ?_
                       rotate_left
                       · intro w'
                         go_simp
                         with_reducible rfl
                       rotate_left
                       · simp only [Act.put, List.setIfInBounds_toArray, List.set_cons_zero, List.set_cons_succ, i64_w, i32_w]
                         rfl
                       refine pure_ (i := 10) (N := some 53) (v := ?_) (a' := ?_) #[true, true, false, true, true, false, true, true, false, true, true, false, false, false, false, false, false, false, false, false, false] rfl rfl (any_of HT_.out (by kernel_rfl)) (fun _ _ _ h => h) (Or.inl ⟨by rfl, ?_⟩) ?_ ?_
                       rotate_left
                       · intro w'
                         go_simp
                         with_reducible rfl
                       rotate_left
                       · simp only [Act.put, List.setIfInBounds_toArray, List.set_cons_zero, List.set_cons_succ, i64_w, i32_w]
                         rfl
                       refine pure_ (i := 12) (N := some 55) (v := ?_) (a' := ?_) #[true, true, false, true, true, false, true, true, false, true, true, false, true, false, false, false, false, false, false, false, false] rfl rfl (any_of HT_.out (by kernel_rfl)) (fun _ _ _ h => h) (Or.inl ⟨by rfl, ?_⟩) ?_ ?_
                       rotate_left
                       · intro w'
                         go_simp
                         with_reducible rfl
                       rotate_left
                       · simp only [Act.put, List.setIfInBounds_toArray, List.set_cons_zero, List.set_cons_succ, i64_w, i32_w]
                         rfl
                       refine pure_ (i := 13) (N := some 56) (v := ?_) (a' := ?_) #[true, true, false, true, true, false, true, true, false, true, true, false, true, true, false, false, false, false, false, false, false] rfl rfl (any_of HT_.out (by kernel_rfl)) (fun _ _ _ h => h) (Or.inl ⟨by rfl, ?_⟩) ?_ ?_
                       rotate_left
                       · intro w'
                         go_simp
                         with_reducible rfl
                       rotate_left
                       · simp only [Act.put, List.setIfInBounds_toArray, List.set_cons_zero, List.set_cons_succ, i64_w, i32_w]
                         rfl
                       refine pure_ (i := 14) (N := some 57) (v := ?_) (a' := ?_) #[true, true, false, true, true, false, true, true, false, true, true, false, true, true, true, false, false, false, false, false, false] rfl rfl (any_of HT_.out (by kernel_rfl)) (fun _ _ _ h => h) (Or.inl ⟨by rfl, ?_⟩) ?_ ?_
                       rotate_left
                       · intro w'
                         go_simp
                         with_reducible rfl
                       rotate_left
                       · simp only [Act.put, List.setIfInBounds_toArray, List.set_cons_zero, List.set_cons_succ, i64_w, i32_w]
                         rfl
                       refine pure_ (i := 15) (N := some 58) (v := ?_) (a' := ?_) #[true, true, false, true, true, false, true, true, false, true, true, false, true, true, true, true, false, false, false, false, false] rfl rfl (any_of HT_.out (by kernel_rfl)) (fun _ _ _ h => h) (Or.inl ⟨by rfl, ?_⟩) ?_ ?_
                       rotate_left
                       · intro w'
                         go_simp
                         with_reducible rfl
                       rotate_left
                       · simp only [Act.put, List.setIfInBounds_toArray, List.set_cons_zero, List.set_cons_succ, i64_w, i32_w]
                         rfl
                       refine take_ (i := 2) (N := some 45) (v := ?_) (a' := ?_) #[true, true, true, true, true, false, true, true, false, true, true, false, true, true, true, true, false, false, false, false, false] rfl rfl (take_ofW HT_.out HW_.out (by kernel_rfl)) (fun _ _ _ h => h) (Or.inl ⟨by rfl, ?_⟩) hHeld ?_ ?_
                       rotate_left
                       · rintro w' ⟨s0, s1, s2, s3, s4⟩
                         go_simp
                         with_reducible rfl
                       rotate_left
                       · simp only [Act.put, List.setIfInBounds_toArray, List.set_cons_zero, List.set_cons_succ, i64_w, i32_w]
                         rfl
                       refine take_ (i := 5) (N := some 48) (v := ?_) (a' := ?_) #[true, true, true, true, true, true, true, true, false, true, true, false, true, true, true, true, false, false, false, false, false] rfl rfl (take_ofW HT_.out HW_.out (by kernel_rfl)) (fun _ _ _ h => h) (Or.inl ⟨by rfl, ?_⟩) hHeld ?_ ?_
                       rotate_left
                       · rintro w' ⟨s0, s1, s2, s3, s4⟩
                         go_simp
                         with_reducible rfl
                       rotate_left
                       · simp only [Act.put, List.setIfInBounds_toArray, List.set_cons_zero, List.set_cons_succ, i64_w, i32_w]
                         rfl
                       refine take_ (i := 8) (N := some 51) (v := ?_) (a' := ?_) #[true, true, true, true, true, true, true, true, true, true, true, false, true, true, true, true, false, false, false, false, false] rfl rfl (take_ofW HT_.out HW_.out (by kernel_rfl)) (fun _ _ _ h => h) (Or.inl ⟨by rfl, ?_⟩) hHeld ?_ ?_
                       rotate_left
                       · rintro w' ⟨s0, s1, s2, s3, s4⟩
                         go_simp
                         with_reducible rfl
                       rotate_left
                       · simp only [Act.put, List.setIfInBounds_toArray, List.set_cons_zero, List.set_cons_succ, i64_w, i32_w]
                         rfl
                       refine take_ (i := 11) (N := some 54) (v := ?_) (a' := ?_) #[true, true, true, true, true, true, true, true, true, true, true, true, true, true, true, true, false, false, false, false, false] rfl rfl (take_ofW HT_.out HW_.out (by kernel_rfl)) (fun _ _ _ h => h) (Or.inl ⟨by rfl, ?_⟩) hHeld ?_ ?_
                       rotate_left
                       · rintro w' ⟨s0, s1, s2, s3, s4⟩
                         go_simp
                         with_reducible rfl
                       rotate_left
                       · simp only [Act.put, List.setIfInBounds_toArray, List.set_cons_zero, List.set_cons_succ, i64_w, i32_w]
                         rfl
                       refine take_ (i := 16) (N := some 59) (v := ?_) (a' := ?_) #[true, true, true, true, true, true, true, true, true, true, true, true, true, true, true, true, true, false, false, false, false] rfl rfl (take_ofW HT_.out HW_.out (by kernel_rfl)) (fun _ _ _ h => h) (Or.inl ⟨by rfl, ?_⟩) hHeld ?_ ?_
                       rotate_left
                       · rintro w' ⟨s0, s1, s2, s3, s4⟩
                         go_simp
                         with_reducible rfl
                       rotate_left
                       · simp only [Act.put, List.setIfInBounds_toArray, List.set_cons_zero, List.set_cons_succ, i64_w, i32_w]
                         rfl
                       refine pure_ (i := 17) (N := some 60) (v := ?_) (a' := ?_) #[true, true, true, true, true, true, true, true, true, true, true, true, true, true, true, true, true, true, false, false, false] rfl rfl (any_of HT_.out (by kernel_rfl)) (fun _ _ _ h => h) (Or.inl ⟨by rfl, ?_⟩) ?_ ?_
                       rotate_left
                       · intro w'
                         go_simp
                         with_reducible rfl
                       rotate_left
                       · simp only [Act.put, List.setIfInBounds_toArray, List.set_cons_zero, List.set_cons_succ, i64_w, i32_w]
                         rfl
                       refine pure_ (i := 18) (N := some 61) (v := ?_) (a' := ?_) #[true, true, true, true, true, true, true, true, true, true, true, true, true, true, true, true, true, true, true, false, false] rfl rfl (any_of HT_.out (by kernel_rfl)) (fun _ _ _ h => h) (Or.inl ⟨by rfl, ?_⟩) ?_ ?_
                       rotate_left
                       · intro w'
                         go_simp
                         with_reducible rfl
                       rotate_left
                       · simp only [Act.put, List.setIfInBounds_toArray, List.set_cons_zero, List.set_cons_succ, i64_w, i32_w]
                         rfl
                       refine one_ (i := 19) (N := some 10) #[true, true, true, true, true, true, true, true, true, true, true, true, true, true, true, true, true, true, true, true, false] rfl rfl (one_of HT_.out (by kernel_rfl)) (by decide) (fun K hK => ?_)
                       refine box_step ?hg (N := 10) ?hd (cs := #[.int .i64 0, .int .i64 0, .int .i64 0, .int .i64 0, .slice none 0 0, .bool false]) (t := 54) ?hr ?_; (case hd => rfl); (case hg => rfl); (case hr => first | (go_simp; done) | (go_simp; rfl))
                       intro gb122 hg w34 hbox hb
                       have HS0_ := (hb.cell (World.block_lt_of_cell? _ _ (hHeld.1))).trans (hHeld.1)
                       have HS1_ := (hb.cell (World.block_lt_of_cell? _ _ (hHeld.2.1))).trans (hHeld.2.1)
                       have HS2_ := (hb.cell (World.block_lt_of_cell? _ _ (hHeld.2.2.1))).trans (hHeld.2.2.1)
                       have HS3_ := (hb.cell (World.block_lt_of_cell? _ _ (hHeld.2.2.2.1))).trans (hHeld.2.2.2.1)
                       have _ := aM (Kd.Q_below (kZ HO120.out) hb)
                       have _ := bB gb101 hb
                       have _ := aM (below_step hbZ hb)
                       have _ := aM hbox
                       have _ := szZ hg
                       have _ := szZ hg
                       have ⟨_, _⟩ := nbB gb101 hg
                       clear HO120
                       clear BK101
                       clear HB
                       rename_i HO120 BK101 HB BK122 GW122 GE122 NB101_122 NB122_101
                       clear hb hbox hg
                       refine hK.out _ _ ⟨HS0_, HS1_, HS2_, HS3_, ((HB.out.cell (World.block_lt_of_cell? w _ hw121_0)).trans hw121_0)⟩ (fun hHeld => ?_)
                       clear hK K
                       refine norm_ (a' := ?_) ?_ ?_
                       rotate_left
                       · show Act.put _ (some 10) _ = _
                         simp only [Act.put, List.setIfInBounds_toArray, List.set_cons_zero, List.set_cons_succ, i64_w, i32_w]
                         rfl
                       refine one_ (i := 20) (N := none) #[true, true, true, true, true, true, true, true, true, true, true, true, true, true, true, true, true, true, true, true, true] rfl rfl (one_of HT_.out (by kernel_rfl)) (by decide) (fun K hK => ?_)
                       have hfc0_ := Kd.own_blk (by have h_ := Kd.Q_ne HO120.out BK122.out (by decide); rw [HE33.out] at h_; exact h_)
                       have hs35 : w34.cell? ⟨gb122, 0, none⟩ = some (.int .i64 0) := (blk_cell BK122.out 0).trans rfl
                       have hfs35 := blk_frozen BK122.out 0
                       have hns35_0 := NB101_122.out
                       have hms35_0 := NB122_101.out
                       have hs36 : w34.cell? ⟨gb122, 1, none⟩ = some (.int .i64 0) := (blk_cell BK122.out 1).trans rfl
                       have hfs36 := blk_frozen BK122.out 1
                       have hns36_0 := NB101_122.out
                       have hms36_0 := NB122_101.out
                       have hs37 : w34.cell? ⟨gb122, 2, none⟩ = some (.int .i64 0) := (blk_cell BK122.out 2).trans rfl
                       have hfs37 := blk_frozen BK122.out 2
                       have hns37_0 := NB101_122.out
                       have hms37_0 := NB122_101.out
                       have hs38 : w34.cell? ⟨gb122, 3, none⟩ = some (.int .i64 0) := (blk_cell BK122.out 3).trans rfl
                       have hfs38 := blk_frozen BK122.out 3
                       have hns38_0 := NB101_122.out
                       have hms38_0 := NB122_101.out
                       have hs39 : w34.cell? ⟨gb122, 4, none⟩ = some (.slice none 0 0) := (blk_cell BK122.out 4).trans rfl
                       have hfs39 := blk_frozen BK122.out 4
                       have hns39_0 := NB101_122.out
                       have hms39_0 := NB122_101.out
                       have hs40 : w34.cell? ⟨gb122, 5, none⟩ = some (.bool false) := (blk_cell BK122.out 5).trans rfl
                       have hfs40 := blk_frozen BK122.out 5
                       have hns40_0 := NB101_122.out
                       have hms40_0 := NB122_101.out
                       refine skip_ (w1 := ?_) (by rfl) rfl ?_ ?_
                       rotate_left
                       · go_simp
                         rfl
                       refine hK.out _ _ ⟨((cell_far (p := ⟨gb122, _, none⟩) (by first | exact hfc0_ | (rw [add_block]; exact hfc0_) | (show (Addr.add _ _).block ≠ _; rw [add_block]; exact hfc0_) | (dsimp only; exact hfc0_)) _).trans (((cell_far (p := ⟨gb122, _, none⟩) (by first | exact hfc0_ | (rw [add_block]; exact hfc0_) | (show (Addr.add _ _).block ≠ _; rw [add_block]; exact hfc0_) | (dsimp only; exact hfc0_)) _).trans (((cell_far (p := ⟨gb122, _, none⟩) (by first | exact hfc0_ | (rw [add_block]; exact hfc0_) | (show (Addr.add _ _).block ≠ _; rw [add_block]; exact hfc0_) | (dsimp only; exact hfc0_)) _).trans (((cell_far (p := ⟨gb122, _, none⟩) (by first | exact hfc0_ | (rw [add_block]; exact hfc0_) | (show (Addr.add _ _).block ≠ _; rw [add_block]; exact hfc0_) | (dsimp only; exact hfc0_)) _).trans (((cell_far (p := ⟨gb122, _, none⟩) (by first | exact hfc0_ | (rw [add_block]; exact hfc0_) | (show (Addr.add _ _).block ≠ _; rw [add_block]; exact hfc0_) | (dsimp only; exact hfc0_)) _).trans (((cell_far (p := ⟨gb122, _, none⟩) (by first | exact hfc0_ | (rw [add_block]; exact hfc0_) | (show (Addr.add _ _).block ≠ _; rw [add_block]; exact hfc0_) | (dsimp only; exact hfc0_)) _).trans (hHeld.1)))))))))))), ((cell_far (p := ⟨gb122, _, none⟩) (by first | exact hfc0_ | (rw [add_block]; exact hfc0_) | (show (Addr.add _ _).block ≠ _; rw [add_block]; exact hfc0_) | (dsimp only; exact hfc0_)) _).trans (((cell_far (p := ⟨gb122, _, none⟩) (by first | exact hfc0_ | (rw [add_block]; exact hfc0_) | (show (Addr.add _ _).block ≠ _; rw [add_block]; exact hfc0_) | (dsimp only; exact hfc0_)) _).trans (((cell_far (p := ⟨gb122, _, none⟩) (by first | exact hfc0_ | (rw [add_block]; exact hfc0_) | (show (Addr.add _ _).block ≠ _; rw [add_block]; exact hfc0_) | (dsimp only; exact hfc0_)) _).trans (((cell_far (p := ⟨gb122, _, none⟩) (by first | exact hfc0_ | (rw [add_block]; exact hfc0_) | (show (Addr.add _ _).block ≠ _; rw [add_block]; exact hfc0_) | (dsimp only; exact hfc0_)) _).trans (((cell_far (p := ⟨gb122, _, none⟩) (by first | exact hfc0_ | (rw [add_block]; exact hfc0_) | (show (Addr.add _ _).block ≠ _; rw [add_block]; exact hfc0_) | (dsimp only; exact hfc0_)) _).trans (((cell_far (p := ⟨gb122, _, none⟩) (by first | exact hfc0_ | (rw [add_block]; exact hfc0_) | (show (Addr.add _ _).block ≠ _; rw [add_block]; exact hfc0_) | (dsimp only; exact hfc0_)) _).trans (hHeld.2.1)))))))))))), ((cell_far (p := ⟨gb122, _, none⟩) (by first | exact hfc0_ | (rw [add_block]; exact hfc0_) | (show (Addr.add _ _).block ≠ _; rw [add_block]; exact hfc0_) | (dsimp only; exact hfc0_)) _).trans (((cell_far (p := ⟨gb122, _, none⟩) (by first | exact hfc0_ | (rw [add_block]; exact hfc0_) | (show (Addr.add _ _).block ≠ _; rw [add_block]; exact hfc0_) | (dsimp only; exact hfc0_)) _).trans (((cell_far (p := ⟨gb122, _, none⟩) (by first | exact hfc0_ | (rw [add_block]; exact hfc0_) | (show (Addr.add _ _).block ≠ _; rw [add_block]; exact hfc0_) | (dsimp only; exact hfc0_)) _).trans (((cell_far (p := ⟨gb122, _, none⟩) (by first | exact hfc0_ | (rw [add_block]; exact hfc0_) | (show (Addr.add _ _).block ≠ _; rw [add_block]; exact hfc0_) | (dsimp only; exact hfc0_)) _).trans (((cell_far (p := ⟨gb122, _, none⟩) (by first | exact hfc0_ | (rw [add_block]; exact hfc0_) | (show (Addr.add _ _).block ≠ _; rw [add_block]; exact hfc0_) | (dsimp only; exact hfc0_)) _).trans (((cell_far (p := ⟨gb122, _, none⟩) (by first | exact hfc0_ | (rw [add_block]; exact hfc0_) | (show (Addr.add _ _).block ≠ _; rw [add_block]; exact hfc0_) | (dsimp only; exact hfc0_)) _).trans (hHeld.2.2.1)))))))))))), ((cell_far (p := ⟨gb122, _, none⟩) (by first | exact hfc0_ | (rw [add_block]; exact hfc0_) | (show (Addr.add _ _).block ≠ _; rw [add_block]; exact hfc0_) | (dsimp only; exact hfc0_)) _).trans (((cell_far (p := ⟨gb122, _, none⟩) (by first | exact hfc0_ | (rw [add_block]; exact hfc0_) | (show (Addr.add _ _).block ≠ _; rw [add_block]; exact hfc0_) | (dsimp only; exact hfc0_)) _).trans (((cell_far (p := ⟨gb122, _, none⟩) (by first | exact hfc0_ | (rw [add_block]; exact hfc0_) | (show (Addr.add _ _).block ≠ _; rw [add_block]; exact hfc0_) | (dsimp only; exact hfc0_)) _).trans (((cell_far (p := ⟨gb122, _, none⟩) (by first | exact hfc0_ | (rw [add_block]; exact hfc0_) | (show (Addr.add _ _).block ≠ _; rw [add_block]; exact hfc0_) | (dsimp only; exact hfc0_)) _).trans (((cell_far (p := ⟨gb122, _, none⟩) (by first | exact hfc0_ | (rw [add_block]; exact hfc0_) | (show (Addr.add _ _).block ≠ _; rw [add_block]; exact hfc0_) | (dsimp only; exact hfc0_)) _).trans (((cell_far (p := ⟨gb122, _, none⟩) (by first | exact hfc0_ | (rw [add_block]; exact hfc0_) | (show (Addr.add _ _).block ≠ _; rw [add_block]; exact hfc0_) | (dsimp only; exact hfc0_)) _).trans (hHeld.2.2.2.1)))))))))))), ((cell_far (p := ⟨gb122, _, none⟩) (by first | exact Nat.ne_of_lt (Nat.lt_of_lt_of_le (by have := World.block_lt_of_cell? _ _ hw121_0; first | rwa [add_block] at this | exact this) GW122.out) | (rw [add_block]; exact Nat.ne_of_lt (Nat.lt_of_lt_of_le (by have := World.block_lt_of_cell? _ _ hw121_0; first | rwa [add_block] at this | exact this) GW122.out)) | (show (Addr.add _ _).block ≠ _; rw [add_block]; exact Nat.ne_of_lt (Nat.lt_of_lt_of_le (by have := World.block_lt_of_cell? _ _ hw121_0; first | rwa [add_block] at this | exact this) GW122.out)) | (dsimp only; exact Nat.ne_of_lt (Nat.lt_of_lt_of_le (by have := World.block_lt_of_cell? _ _ hw121_0; first | rwa [add_block] at this | exact this) GW122.out))) _).trans (((cell_far (p := ⟨gb122, _, none⟩) (by first | exact Nat.ne_of_lt (Nat.lt_of_lt_of_le (by have := World.block_lt_of_cell? _ _ hw121_0; first | rwa [add_block] at this | exact this) GW122.out) | (rw [add_block]; exact Nat.ne_of_lt (Nat.lt_of_lt_of_le (by have := World.block_lt_of_cell? _ _ hw121_0; first | rwa [add_block] at this | exact this) GW122.out)) | (show (Addr.add _ _).block ≠ _; rw [add_block]; exact Nat.ne_of_lt (Nat.lt_of_lt_of_le (by have := World.block_lt_of_cell? _ _ hw121_0; first | rwa [add_block] at this | exact this) GW122.out)) | (dsimp only; exact Nat.ne_of_lt (Nat.lt_of_lt_of_le (by have := World.block_lt_of_cell? _ _ hw121_0; first | rwa [add_block] at this | exact this) GW122.out))) _).trans (((cell_far (p := ⟨gb122, _, none⟩) (by first | exact Nat.ne_of_lt (Nat.lt_of_lt_of_le (by have := World.block_lt_of_cell? _ _ hw121_0; first | rwa [add_block] at this | exact this) GW122.out) | (rw [add_block]; exact Nat.ne_of_lt (Nat.lt_of_lt_of_le (by have := World.block_lt_of_cell? _ _ hw121_0; first | rwa [add_block] at this | exact this) GW122.out)) | (show (Addr.add _ _).block ≠ _; rw [add_block]; exact Nat.ne_of_lt (Nat.lt_of_lt_of_le (by have := World.block_lt_of_cell? _ _ hw121_0; first | rwa [add_block] at this | exact this) GW122.out)) | (dsimp only; exact Nat.ne_of_lt (Nat.lt_of_lt_of_le (by have := World.block_lt_of_cell? _ _ hw121_0; first | rwa [add_block] at this | exact this) GW122.out))) _).trans (((cell_far (p := ⟨gb122, _, none⟩) (by first | exact Nat.ne_of_lt (Nat.lt_of_lt_of_le (by have := World.block_lt_of_cell? _ _ hw121_0; first | rwa [add_block] at this | exact this) GW122.out) | (rw [add_block]; exact Nat.ne_of_lt (Nat.lt_of_lt_of_le (by have := World.block_lt_of_cell? _ _ hw121_0; first | rwa [add_block] at this | exact this) GW122.out)) | (show (Addr.add _ _).block ≠ _; rw [add_block]; exact Nat.ne_of_lt (Nat.lt_of_lt_of_le (by have := World.block_lt_of_cell? _ _ hw121_0; first | rwa [add_block] at this | exact this) GW122.out)) | (dsimp only; exact Nat.ne_of_lt (Nat.lt_of_lt_of_le (by have := World.block_lt_of_cell? _ _ hw121_0; first | rwa [add_block] at this | exact this) GW122.out))) _).trans (((cell_far (p := ⟨gb122, _, none⟩) (by first | exact Nat.ne_of_lt (Nat.lt_of_lt_of_le (by have := World.block_lt_of_cell? _ _ hw121_0; first | rwa [add_block] at this | exact this) GW122.out) | (rw [add_block]; exact Nat.ne_of_lt (Nat.lt_of_lt_of_le (by have := World.block_lt_of_cell? _ _ hw121_0; first | rwa [add_block] at this | exact this) GW122.out)) | (show (Addr.add _ _).block ≠ _; rw [add_block]; exact Nat.ne_of_lt (Nat.lt_of_lt_of_le (by have := World.block_lt_of_cell? _ _ hw121_0; first | rwa [add_block] at this | exact this) GW122.out)) | (dsimp only; exact Nat.ne_of_lt (Nat.lt_of_lt_of_le (by have := World.block_lt_of_cell? _ _ hw121_0; first | rwa [add_block] at this | exact this) GW122.out))) _).trans (((cell_far (p := ⟨gb122, _, none⟩) (by first | exact Nat.ne_of_lt (Nat.lt_of_lt_of_le (by have := World.block_lt_of_cell? _ _ hw121_0; first | rwa [add_block] at this | exact this) GW122.out) | (rw [add_block]; exact Nat.ne_of_lt (Nat.lt_of_lt_of_le (by have := World.block_lt_of_cell? _ _ hw121_0; first | rwa [add_block] at this | exact this) GW122.out)) | (show (Addr.add _ _).block ≠ _; rw [add_block]; exact Nat.ne_of_lt (Nat.lt_of_lt_of_le (by have := World.block_lt_of_cell? _ _ hw121_0; first | rwa [add_block] at this | exact this) GW122.out)) | (dsimp only; exact Nat.ne_of_lt (Nat.lt_of_lt_of_le (by have := World.block_lt_of_cell? _ _ hw121_0; first | rwa [add_block] at this | exact this) GW122.out))) _).trans (hHeld.2.2.2.2))))))))))))⟩ (fun hHeld => ?_)
                       clear hK K
                       refine done_ (done_of HT_.out (by kernel_rfl)) ?_
                       have hnb41 := NB122_101.out
                       have hnc41 := NB101_122.out
                       obtain ⟨hcz42_0, hcz42_1, hcz42_2, hcz42_3, hcz42_4, hcz42_5, hfz42_0, hfz42_1, hfz42_2, hfz42_3, hfz42_4, hfz42_5⟩ := cellsZ6 BK122.out
                       try go_wp2_with (first | ((with_reducible refine gate_callee (f := 34) rfl ?_); refine goesL_ (some 63) rfl rfl Try.func34 (by kernel_rfl) rfl #[.agg #[.int .i64 (rd x4_1 0), .int .i64 (rd x4_1 1), .int .i64 (rd x4_1 2), .int .i64 (rd x4_1 3), .slice A33 y118.length c33, .bool ((rd l0 0) == 1)]] rfl zee81 ?_; (with_reducible refine (impl_GoodAgg.calls k1 (rd x4_1 0) (rd x4_1 1) (rd x4_1 2) (rd x4_1 3) _ _ y118 ((rd l0 0) == 1) true _ ?side1 ?side2 A26.out).mono ?_); (case side1 => refine (Kd.Q_reads' (e := 3) (base := w.heap.size) (ok := fun k_ => True) (n := y118.length) (c := c33) ?_).2.2; exact (kZ (qF6 HO120.out BK122.out))); (case side2 => exact (Kd.Q_reads' HO120.out).2.1); rintro e w43 ⟨rfl, hb⟩; refine ⟨_, rfl, ?_⟩; have _ := aM (Kd.Q_below (kZ (qF6 HO120.out BK122.out)) hb); have _ := bB gb101 hb; have _ := aM (blk_below (g := gb122) (o := .cells #[.int .i64 (rd x4_1 0), .int .i64 (rd x4_1 1), .int .i64 (rd x4_1 2), .int .i64 (rd x4_1 3), .slice A33 y118.length c33, .bool ((rd l0 0) == 1)] 54 (0, 0)) bkZ hb); have _ := aM (below_step hbZ hb); clear HO120 BK101 BK122 HB; rename_i HO120 BK101 BK122 HB; (try clear hb); obtain ⟨hcz44_0, hcz44_1, hcz44_2, hcz44_3, hcz44_4, hcz44_5, hfz44_0, hfz44_1, hfz44_2, hfz44_3, hfz44_4, hfz44_5⟩ := cellsZ6 BK122.out) | (go_at_call 60; (with_reducible refine (impl_aggBytes.calls k1 (rd x4_1 0) (rd x4_1 1) (rd x4_1 2) (rd x4_1 3) _ _ y118 ((rd l0 0) == 1) t124 _ ?side1 ?side2 A28.out).mono ?_); (case side1 => exact (by repeat (first | exact (Kd.Q_reads' HO120.out).2.2 | (with_reducible refine Kd.C_alloc ?_ _) | (with_reducible refine Kd.C_drewN ?_ _) | (with_reducible refine Kd.C_drew ?_)))); (case side2 => exact (Kd.Q_reads' HO120.out).2.1); rintro e w45 ⟨v125, rfl, ho0, hb⟩; have _ := aM (Kd.Q_below (kZ HO120.out) hb); have _ := aM (Kd.R_lower ho0 (below_size hbZ)); have _ := bB gb101 hb; have _ := bB gb122 hb; have _ := aM (below_step hbZ hb); clear HO120 BK101 BK122 HB; rename_i HO120 HO126 BK101 BK122 HB; (try clear hb); (try clear ho0); obtain ⟨Ao46, co46, eo46⟩ := Kd.R_slice HO126.out; subst eo46) | (go_at_call 39; (with_reducible refine (bytes_Equal.calls _ _ t124 _ _ l0 true _ ?side1 ?side2 ?side3 ?side4 A29.out).mono ?_); (case side1 => exact (by repeat (first | exact (Kd.R_reads' HO126.out).2.2 | (with_reducible refine Kd.C_alloc ?_ _) | (with_reducible refine Kd.C_drewN ?_ _) | (with_reducible refine Kd.C_drew ?_)))); (case side2 => exact (Kd.R_reads' HO126.out).2.1); (case side3 => exact (cZ (Kd.C_below HR0.out HB.out))); (case side4 => exact HC0.out); rintro e w' ⟨rfl, ⟨nd, rfl⟩⟩; (try (rw [drewN_self w45]; generalize hq_ : World.drewN w45 _ = w45; have _ : Aside0 (Kd.Q (Kd.int .i64) 3 w45 w.heap.size (fun _ => True) (.slice A33 y118.length c33) y118) := ⟨by rw [← hq_]; exact (kZ HO120.out)⟩; have _ : Aside0 (Kd.R (Kd.int .u8) 5 w45 w.heap.size (fun _ => True) (.slice Ao46 t124.length co46) t124) := ⟨by rw [← hq_]; exact (rZ HO126.out)⟩; have _ : Aside0 (w45.heap[gb101]? = some (.cells #[.int .i64 x102000_1, .int .i64 x102001_1, .int .i64 x102002_1, .int .i64 x102003_1, .slice none 0 0, .bool x102005_1] 54 (0, 0))) := ⟨by rw [← hq_]; exact bkZ⟩; have _ : Aside0 (w45.heap[gb122]? = some (.cells #[.int .i64 (rd x4_1 0), .int .i64 (rd x4_1 1), .int .i64 (rd x4_1 2), .int .i64 (rd x4_1 3), .slice A33 y118.length c33, .bool ((rd l0 0) == 1)] 54 (0, 0))) := ⟨by rw [← hq_]; exact bkZ⟩; have _ : Aside0 (Below w.heap.size w w45) := ⟨by rw [← hq_]; exact hbZ⟩; clear HO120 HO126 BK101 BK122 HB hq_; rename_i HO120 HO126 BK101 BK122 HB)); obtain ⟨hcz47_0, hcz47_1, hcz47_2, hcz47_3, hcz47_4, hcz47_5, hfz47_0, hfz47_1, hfz47_2, hfz47_3, hfz47_4, hfz47_5⟩ := cellsZ6 BK122.out; obtain ⟨hcz48_0, hcz48_1, hcz48_2, hcz48_3, hcz48_4, hcz48_5, hfz48_0, hfz48_1, hfz48_2, hfz48_3, hfz48_4, hfz48_5⟩ := cellsZ6 BK101.out))
                       refine bodyPost_ret (results_ct rfl _ _ gb101 54 #[.int .i64 (rd x4_1 0), .int .i64 (rd x4_1 1), .int .i64 (rd x4_1 2), .int .i64 (rd x4_1 3), .slice A33 y118.length c33, .bool ((rd l0 0) == 1)] (0, 0) _ rfl bkZ Try.underlying54 rfl (by kernel_rfl)) rfl ?_
                       exact ⟨_, z674d, by (with_reducible repeat (first | apply Kd.Q_alloc | apply Kd.Q_drewN | apply Kd.Q_drew)); exact Kd.Q_mono (Kd.Q_far (p := ⟨gb101, 5, none⟩) (Kd.Q_far (p := ⟨gb101, 4, none⟩) (Kd.Q_far (p := ⟨gb101, 3, none⟩) (Kd.Q_far (p := ⟨gb101, 2, none⟩) (Kd.Q_far (p := ⟨gb101, 1, none⟩) (Kd.Q_far (p := ⟨gb101, 0, none⟩) (Kd.Q_types HO120.out BK101.out (by decide)) (fun _ hk => hk.2) (.int .i64 (rd x4_1 0))) (fun _ hk => hk.2) (.int .i64 (rd x4_1 1))) (fun _ hk => hk.2) (.int .i64 (rd x4_1 2))) (fun _ hk => hk.2) (.int .i64 (rd x4_1 3))) (fun _ hk => hk.2) (.slice A33 y118.length c33)) (fun _ hk => hk.2) (.bool ((rd l0 0) == 1))) (fun _ hk => trivial), zcb41⟩
                     · replace c30 := Bool.eq_false_iff.mpr c30
                       subst c30
                       have H1 : (some (0, 0, 0, 0, ([] : List Int), false, false)) = some (r1, r2, r3, r4, r5, r6, r7) := by rw [if_neg (show ¬ (false = true) by decide)] at H; exact H
                       clear H
                       have H := H1
                       clear H1
                       simp only [Option.some.injEq, Prod.mk.injEq] at H
                       obtain ⟨rfl, rfl, rfl, rfl, rfl, rfl, rfl⟩ := H
                       try go_wp2
                       have _ := aM (Kd.R_drew HO_4.out)
                       have _ := aM (blk_drew BK101.out)
                       have _ := aM (below_drew1 HB.out)
                       clear HO_4
                       clear BK101
                       clear HB
                       rename_i HO_4 BK101 HB
                       obtain ⟨Ao50, co50, eo50⟩ := Kd.R_slice HO_4.out
                       (first | subst eo50 | (injection eo50 with f1_ f2_ f3_; have f4_ := f1_.symm; have f5_ := f3_.symm; clear f1_ f2_ f3_; subst f4_; subst f5_))
                       have p114 : 0 ≤ (0 : Int) := (by omega)
                       have q114 : 0 < (x4_1.length : Int) := of_decide_eq_true z1200
                       obtain ⟨ad114, e114, hx114_0⟩ := Kd.at_int (Kd.R_reads' HO_4.out).2.2 0 p114 q114
                       cases e114
                       have qi114 : (0 < x4_1.length) = True := eq_true (by omega)
                       (try rw [show ((0 : Int)).toNat = 0 from rfl] at hx114_0)
                       (try rw [Addr.add_zero'] at hx114_0)
                       replace p114 := eq_true p114
                       replace q114 := eq_true q114
                       have p115 : 0 ≤ (1 : Int) := (by omega)
                       have q115 : 1 < (x4_1.length : Int) := of_decide_eq_true z1200
                       obtain ⟨ad115, e115, hx115_0⟩ := Kd.at_int (Kd.R_reads' HO_4.out).2.2 1 p115 q115
                       obtain rfl : ad114 = ad115 := (by injection e115)
                       (try simp only [show (1 : Int).toNat = 1 from rfl, Nat.reduceMul, Nat.reduceEqDiff, Go.Addr.add, ↓reduceIte] at hx115_0)
                       have qi115 : (1 < x4_1.length) = True := eq_true (by omega)
                       (try rw [show ((1 : Int)).toNat = 1 from rfl] at hx115_0)
                       replace p115 := eq_true p115
                       replace q115 := eq_true q115
                       have p116 : 0 ≤ (2 : Int) := (by omega)
                       have q116 : 2 < (x4_1.length : Int) := of_decide_eq_true z1200
                       obtain ⟨ad116, e116, hx116_0⟩ := Kd.at_int (Kd.R_reads' HO_4.out).2.2 2 p116 q116
                       obtain rfl : ad114 = ad116 := (by injection e116)
                       (try simp only [show (2 : Int).toNat = 2 from rfl, Nat.reduceMul, Nat.reduceEqDiff, Go.Addr.add, ↓reduceIte] at hx116_0)
                       have qi116 : (2 < x4_1.length) = True := eq_true (by omega)
                       (try rw [show ((2 : Int)).toNat = 2 from rfl] at hx116_0)
                       replace p116 := eq_true p116
                       replace q116 := eq_true q116
                       have p117 : 0 ≤ (3 : Int) := (by omega)
                       have q117 : 3 < (x4_1.length : Int) := of_decide_eq_true z1200
                       obtain ⟨ad117, e117, hx117_0⟩ := Kd.at_int (Kd.R_reads' HO_4.out).2.2 3 p117 q117
                       obtain rfl : ad114 = ad117 := (by injection e117)
                       (try simp only [show (3 : Int).toNat = 3 from rfl, Nat.reduceMul, Nat.reduceEqDiff, Go.Addr.add, ↓reduceIte] at hx117_0)
                       have qi117 : (3 < x4_1.length) = True := eq_true (by omega)
                       (try rw [show ((3 : Int)).toNat = 3 from rfl] at hx117_0)
                       replace p117 := eq_true p117
                       replace q117 := eq_true q117
                       have q51 : (4 : Int) ≤ ((x4_1.length : Int) : Int) := of_decide_eq_true z1200
                       obtain ⟨i051, hi051, _, hsz51, _⟩ := info_parts info3
                       have hcut51 := cut_from (P := Try.prog) 52 3 .i64 Try.underlying52 hi051 1 hsz51 (some ad114) x4_1.length co50 4 (by omega) q51
                       have hr51 := Kd.Q_drop (k := (4 : Int).toNat) (Kd.Q_of_R HO_4.out) (by omega)
                       obtain ⟨A51, hA51⟩ : ∃ A1, A1 = (if co50 = (4 : Int).toNat then (some ad114) else ((some ad114) : Option Addr).map (·.add ((4 : Int).toNat * 1))) := ⟨_, rfl⟩
                       obtain ⟨c51, hc51⟩ : ∃ c1, c1 = co50 - (4 : Int).toNat := ⟨_, rfl⟩
                       have hy51 : y118.length = x4_1.length - (4 : Int).toNat := (by rw [Ny118.out, List.length_drop])
                       rw [← Ny118.out] at hr51
                       rw [← hy51, ← hA51, ← hc51] at hcut51
                       replace hr51 : Kd.Q (Kd.int .i64) 3 wr.drew w.heap.size (fun _ => True) (.slice A51 y118.length c51) y118 := (by rw [hA51, hc51, hy51]; exact hr51)
                       have HE51 : Aside0 ((Value.slice A51 y118.length c51).ownBlock = (.slice (some ad114) x4_1.length co50 : Value).ownBlock) := ⟨by rw [hA51]; split <;> (cases ((some ad114) : Option Addr) <;> rfl)⟩
                       clear hy51 hi051 hsz51 HO_4 hA51 hc51
                       have HO120 := aM hr51
                       clear hr51
                       replace q51 := eq_true q51
                       have p121 : 0 ≤ (0 : Int) := (by omega)
                       have q121 : 0 < (l0.length : Int) := of_decide_eq_true z1200
                       obtain ⟨ad121, e121, hx121_0⟩ := Kd.at_int HR0.out 0 p121 q121
                       have hw121_0 := hx121_0
                       (try rw [show ((0 : Int)).toNat = 0 from rfl] at hw121_0)
                       (try rw [show 0 * 1 = 0 from rfl] at hw121_0)
                       (try rw [Addr.add_zero'] at hw121_0)
                       cases e121
                       have qi121 : (0 < l0.length) = True := eq_true (by omega)
                       (try rw [show ((0 : Int)).toNat = 0 from rfl] at hx121_0)
                       (try rw [Addr.add_zero'] at hx121_0)
                       replace hx121_0 := (HB.out.cell (World.block_lt_of_cell? w _ hx121_0)).trans hx121_0
                       replace p121 := eq_true p121
                       replace q121 := eq_true q121
                       refine start_ (n := 21) (S := fun w' => w'.cell? ad114 = some (.int .i64 (rd x4_1 0)) ∧ w'.cell? ⟨ad114.block, ad114.off + 1, none⟩ = some (.int .i64 (rd x4_1 1)) ∧ w'.cell? ⟨ad114.block, ad114.off + 2, none⟩ = some (.int .i64 (rd x4_1 2)) ∧ w'.cell? ⟨ad114.block, ad114.off + 3, none⟩ = some (.int .i64 (rd x4_1 3)) ∧ w'.cell? ad121 = some (.int .u8 (rd l0 0))) (ds := []) #[false, false, false, false, false, false, false, false, false, false, false, false, false, false, false, false, false, false, false, false, false] (by kernel_rfl) rfl rfl ⟨hx114_0, hx115_0, hx116_0, hx117_0, ((HB.out.cell (World.block_lt_of_cell? w _ hw121_0)).trans hw121_0)⟩ (fun hHeld => ?_); refine with_tabW impl_ReadAgg.tab14 impl_ReadAgg.bits14 (fun HT_ HW_ => ?_)
                       generalize wr.drew = w49 at BK101 HB HO120 hx114_0 hx115_0 hx116_0 hx117_0 hx121_0 hHeld ⊢
                       refine pure_ (i := 0) (N := some 43) (v := ?_) (a' := ?_) #[true, false, false, false, false, false, false, false, false, false, false, false, false, false, false, false, false, false, false, false, false] rfl rfl (any_of HT_.out (by kernel_rfl)) (fun _ _ _ h => h) (Or.inl ⟨by rfl, ?_⟩) ?_ ?_
                       rotate_left
                       · intro w'
                         go_simp
                         with_reducible rfl
                       rotate_left
                       · simp only [Act.put, List.setIfInBounds_toArray, List.set_cons_zero, List.set_cons_succ, i64_w, i32_w]
                         rfl
                       refine pure_ (i := 1) (N := some 44) (v := ?_) (a' := ?_) #[true, true, false, false, false, false, false, false, false, false, false, false, false, false, false, false, false, false, false, false, false] rfl rfl (any_of HT_.out (by kernel_rfl)) (fun _ _ _ h => h) (Or.inl ⟨by rfl, ?_⟩) ?_ ?_
                       rotate_left
                       · intro w'
                         go_simp
                         with_reducible rfl
                       rotate_left
                       · simp only [Act.put, List.setIfInBounds_toArray, List.set_cons_zero, List.set_cons_succ, i64_w, i32_w]
                         rfl
                       refine pure_ (i := 3) (N := some 46) (v := ?_) (a' := ?_) #[true, true, false, true, false, false, false, false, false, false, false, false, false, false, false, false, false, false, false, false, false] rfl rfl (any_of HT_.out (by kernel_rfl)) (fun _ _ _ h => h) (Or.inl ⟨by rfl, ?_⟩) ?_ ?_
                       rotate_left
                       · intro w'
                         go_simp
                         with_reducible rfl
                       rotate_left
                       · simp only [Act.put, List.setIfInBounds_toArray, List.set_cons_zero, List.set_cons_succ, i64_w, i32_w]
                         rfl
                       refine pure_ (i := 4) (N := some 47) (v := ?_) (a' := ?_) #[true, true, false, true, true, false, false, false, false, false, false, false, false, false, false, false, false, false, false, false, false] rfl rfl (any_of HT_.out (by kernel_rfl)) (fun _ _ _ h => h) (Or.inl ⟨by rfl, ?_⟩) ?_ ?_
                       rotate_left
                       · intro w'
                         go_simp
                         with_reducible rfl
                       rotate_left
                       · simp only [Act.put, List.setIfInBounds_toArray, List.set_cons_zero, List.set_cons_succ, i64_w, i32_w]
                         rfl
                       refine pure_ (i := 6) (N := some 49) (v := ?_) (a' := ?_) #[true, true, false, true, true, false, true, false, false, false, false, false, false, false, false, false, false, false, false, false, false] rfl rfl (any_of HT_.out (by kernel_rfl)) (fun _ _ _ h => h) (Or.inl ⟨by rfl, ?_⟩) ?_ ?_
                       rotate_left
                       · intro w'
                         go_simp
                         with_reducible rfl
                       rotate_left
                       · simp only [Act.put, List.setIfInBounds_toArray, List.set_cons_zero, List.set_cons_succ, i64_w, i32_w]
                         rfl
                       refine pure_ (i := 7) (N := some 50) (v := ?_) (a' := ?_) #[true, true, false, true, true, false, true, true, false, false, false, false, false, false, false, false, false, false, false, false, false] rfl rfl (any_of HT_.out (by kernel_rfl)) (fun _ _ _ h => h) (Or.inl ⟨by rfl, ?_⟩) ?_ ?_
                       rotate_left
                       · intro w'
                         go_simp
                         with_reducible rfl
                       rotate_left
                       · simp only [Act.put, List.setIfInBounds_toArray, List.set_cons_zero, List.set_cons_succ, i64_w, i32_w]
                         rfl
                       refine pure_ (i := 9) (N := some 52) (v := ?_) (a' := ?_) #[true, true, false, true, true, false, true, true, false, true, false, false, false, false, false, false, false, false, false, false, false] rfl rfl (any_of HT_.out (by kernel_rfl)) (fun _ _ _ h => h) (Or.inl ⟨by rfl, ?_⟩) ?_ ?_
                       rotate_left
                       · intro w'
                         go_simp
                         with_reducible rfl
                       rotate_left
                       · simp only [Act.put, List.setIfInBounds_toArray, List.set_cons_zero, List.set_cons_succ, i64_w, i32_w]
                         rfl
                       refine pure_ (i := 10) (N := some 53) (v := ?_) (a' := ?_) #[true, true, false, true, true, false, true, true, false, true, true, false, false, false, false, false, false, false, false, false, false] rfl rfl (any_of HT_.out (by kernel_rfl)) (fun _ _ _ h => h) (Or.inl ⟨by rfl, ?_⟩) ?_ ?_
                       rotate_left
                       · intro w'
                         go_simp
                         with_reducible rfl
                       rotate_left
                       · simp only [Act.put, List.setIfInBounds_toArray, List.set_cons_zero, List.set_cons_succ, i64_w, i32_w]
                         rfl
                       refine pure_ (i := 12) (N := some 55) (v := ?_) (a' := ?_) #[true, true, false, true, true, false, true, true, false, true, true, false, true, false, false, false, false, false, false, false, false] rfl rfl (any_of HT_.out (by kernel_rfl)) (fun _ _ _ h => h) (Or.inl ⟨by rfl, ?_⟩) ?_ ?_
                       rotate_left
                       · intro w'
                         go_simp
                         with_reducible rfl
                       rotate_left
                       · simp only [Act.put, List.setIfInBounds_toArray, List.set_cons_zero, List.set_cons_succ, i64_w, i32_w]
                         rfl
                       refine pure_ (i := 13) (N := some 56) (v := ?_) (a' := ?_) #[true, true, false, true, true, false, true, true, false, true, true, false, true, true, false, false, false, false, false, false, false] rfl rfl (any_of HT_.out (by kernel_rfl)) (fun _ _ _ h => h) (Or.inl ⟨by rfl, ?_⟩) ?_ ?_
                       rotate_left
                       · intro w'
                         go_simp
                         with_reducible rfl
                       rotate_left
                       · simp only [Act.put, List.setIfInBounds_toArray, List.set_cons_zero, List.set_cons_succ, i64_w, i32_w]
                         rfl
                       refine pure_ (i := 14) (N := some 57) (v := ?_) (a' := ?_) #[true, true, false, true, true, false, true, true, false, true, true, false, true, true, true, false, false, false, false, false, false] rfl rfl (any_of HT_.out (by kernel_rfl)) (fun _ _ _ h => h) (Or.inl ⟨by rfl, ?_⟩) ?_ ?_
                       rotate_left
                       · intro w'
                         go_simp
                         with_reducible rfl
                       rotate_left
                       · simp only [Act.put, List.setIfInBounds_toArray, List.set_cons_zero, List.set_cons_succ, i64_w, i32_w]
                         rfl
                       refine pure_ (i := 15) (N := some 58) (v := ?_) (a' := ?_) #[true, true, false, true, true, false, true, true, false, true, true, false, true, true, true, true, false, false, false, false, false] rfl rfl (any_of HT_.out (by kernel_rfl)) (fun _ _ _ h => h) (Or.inl ⟨by rfl, ?_⟩) ?_ ?_
                       rotate_left
                       · intro w'
                         go_simp
                         with_reducible rfl
                       rotate_left
                       · simp only [Act.put, List.setIfInBounds_toArray, List.set_cons_zero, List.set_cons_succ, i64_w, i32_w]
                         rfl
                       refine take_ (i := 2) (N := some 45) (v := ?_) (a' := ?_) #[true, true, true, true, true, false, true, true, false, true, true, false, true, true, true, true, false, false, false, false, false] rfl rfl (take_ofW HT_.out HW_.out (by kernel_rfl)) (fun _ _ _ h => h) (Or.inl ⟨by rfl, ?_⟩) hHeld ?_ ?_
                       rotate_left
                       · rintro w' ⟨s0, s1, s2, s3, s4⟩
                         go_simp
                         with_reducible rfl
                       rotate_left
                       · simp only [Act.put, List.setIfInBounds_toArray, List.set_cons_zero, List.set_cons_succ, i64_w, i32_w]
                         rfl
                       refine take_ (i := 5) (N := some 48) (v := ?_) (a' := ?_) #[true, true, true, true, true, true, true, true, false, true, true, false, true, true, true, true, false, false, false, false, false] rfl rfl (take_ofW HT_.out HW_.out (by kernel_rfl)) (fun _ _ _ h => h) (Or.inl ⟨by rfl, ?_⟩) hHeld ?_ ?_
                       rotate_left
                       · rintro w' ⟨s0, s1, s2, s3, s4⟩
                         go_simp
                         with_reducible rfl
                       rotate_left
                       · simp only [Act.put, List.setIfInBounds_toArray, List.set_cons_zero, List.set_cons_succ, i64_w, i32_w]
                         rfl
                       refine take_ (i := 8) (N := some 51) (v := ?_) (a' := ?_) #[true, true, true, true, true, true, true, true, true, true, true, false, true, true, true, true, false, false, false, false, false] rfl rfl (take_ofW HT_.out HW_.out (by kernel_rfl)) (fun _ _ _ h => h) (Or.inl ⟨by rfl, ?_⟩) hHeld ?_ ?_
                       rotate_left
                       · rintro w' ⟨s0, s1, s2, s3, s4⟩
                         go_simp
                         with_reducible rfl
                       rotate_left
                       · simp only [Act.put, List.setIfInBounds_toArray, List.set_cons_zero, List.set_cons_succ, i64_w, i32_w]
                         rfl
                       refine take_ (i := 11) (N := some 54) (v := ?_) (a' := ?_) #[true, true, true, true, true, true, true, true, true, true, true, true, true, true, true, true, false, false, false, false, false] rfl rfl (take_ofW HT_.out HW_.out (by kernel_rfl)) (fun _ _ _ h => h) (Or.inl ⟨by rfl, ?_⟩) hHeld ?_ ?_
                       rotate_left
                       · rintro w' ⟨s0, s1, s2, s3, s4⟩
                         go_simp
                         with_reducible rfl
                       rotate_left
                       · simp only [Act.put, List.setIfInBounds_toArray, List.set_cons_zero, List.set_cons_succ, i64_w, i32_w]
                         rfl
                       refine take_ (i := 16) (N := some 59) (v := ?_) (a' := ?_) #[true, true, true, true, true, true, true, true, true, true, true, true, true, true, true, true, true, false, false, false, false] rfl rfl (take_ofW HT_.out HW_.out (by kernel_rfl)) (fun _ _ _ h => h) (Or.inl ⟨by rfl, ?_⟩) hHeld ?_ ?_
                       rotate_left
                       · rintro w' ⟨s0, s1, s2, s3, s4⟩
                         go_simp
                         with_reducible rfl
                       rotate_left
                       · simp only [Act.put, List.setIfInBounds_toArray, List.set_cons_zero, List.set_cons_succ, i64_w, i32_w]
                         rfl
                       refine pure_ (i := 17) (N := some 60) (v := ?_) (a' := ?_) #[true, true, true, true, true, true, true, true, true, true, true, true, true, true, true, true, true, true, false, false, false] rfl rfl (any_of HT_.out (by kernel_rfl)) (fun _ _ _ h => h) (Or.inl ⟨by rfl, ?_⟩) ?_ ?_
                       rotate_left
                       · intro w'
                         go_simp
                         with_reducible rfl
                       rotate_left
                       · simp only [Act.put, List.setIfInBounds_toArray, List.set_cons_zero, List.set_cons_succ, i64_w, i32_w]
                         rfl
                       refine pure_ (i := 18) (N := some 61) (v := ?_) (a' := ?_) #[true, true, true, true, true, true, true, true, true, true, true, true, true, true, true, true, true, true, true, false, false] rfl rfl (any_of HT_.out (by kernel_rfl)) (fun _ _ _ h => h) (Or.inl ⟨by rfl, ?_⟩) ?_ ?_
                       rotate_left
                       · intro w'
                         go_simp
                         with_reducible rfl
                       rotate_left
                       · simp only [Act.put, List.setIfInBounds_toArray, List.set_cons_zero, List.set_cons_succ, i64_w, i32_w]
                         rfl
                       refine one_ (i := 19) (N := some 10) #[true, true, true, true, true, true, true, true, true, true, true, true, true, true, true, true, true, true, true, true, false] rfl rfl (one_of HT_.out (by kernel_rfl)) (by decide) (fun K hK => ?_)
                       refine box_step ?hg (N := 10) ?hd (cs := #[.int .i64 0, .int .i64 0, .int .i64 0, .int .i64 0, .slice none 0 0, .bool false]) (t := 54) ?hr ?_; (case hd => rfl); (case hg => rfl); (case hr => first | (go_simp; done) | (go_simp; rfl))
                       intro gb122 hg w52 hbox hb
                       have HS0_ := (hb.cell (World.block_lt_of_cell? _ _ (hHeld.1))).trans (hHeld.1)
                       have HS1_ := (hb.cell (World.block_lt_of_cell? _ _ (hHeld.2.1))).trans (hHeld.2.1)
                       have HS2_ := (hb.cell (World.block_lt_of_cell? _ _ (hHeld.2.2.1))).trans (hHeld.2.2.1)
                       have HS3_ := (hb.cell (World.block_lt_of_cell? _ _ (hHeld.2.2.2.1))).trans (hHeld.2.2.2.1)
                       have _ := aM (Kd.Q_below (kZ HO120.out) hb)
                       have _ := bB gb101 hb
                       have _ := aM (below_step hbZ hb)
                       have _ := aM hbox
                       have _ := szZ hg
                       have _ := szZ hg
                       have ⟨_, _⟩ := nbB gb101 hg
                       clear HO120
                       clear BK101
                       clear HB
                       rename_i HO120 BK101 HB BK122 GW122 GE122 NB101_122 NB122_101
                       clear hb hbox hg
                       refine hK.out _ _ ⟨HS0_, HS1_, HS2_, HS3_, ((HB.out.cell (World.block_lt_of_cell? w _ hw121_0)).trans hw121_0)⟩ (fun hHeld => ?_)
                       clear hK K
                       refine norm_ (a' := ?_) ?_ ?_
                       rotate_left
                       · show Act.put _ (some 10) _ = _
                         simp only [Act.put, List.setIfInBounds_toArray, List.set_cons_zero, List.set_cons_succ, i64_w, i32_w]
                         rfl
                       refine one_ (i := 20) (N := none) #[true, true, true, true, true, true, true, true, true, true, true, true, true, true, true, true, true, true, true, true, true] rfl rfl (one_of HT_.out (by kernel_rfl)) (by decide) (fun K hK => ?_)
                       have hfc0_ := Kd.own_blk (by have h_ := Kd.Q_ne HO120.out BK122.out (by decide); rw [HE51.out] at h_; exact h_)
                       have hs53 : w52.cell? ⟨gb122, 0, none⟩ = some (.int .i64 0) := (blk_cell BK122.out 0).trans rfl
                       have hfs53 := blk_frozen BK122.out 0
                       have hns53_0 := NB101_122.out
                       have hms53_0 := NB122_101.out
                       have hs54 : w52.cell? ⟨gb122, 1, none⟩ = some (.int .i64 0) := (blk_cell BK122.out 1).trans rfl
                       have hfs54 := blk_frozen BK122.out 1
                       have hns54_0 := NB101_122.out
                       have hms54_0 := NB122_101.out
                       have hs55 : w52.cell? ⟨gb122, 2, none⟩ = some (.int .i64 0) := (blk_cell BK122.out 2).trans rfl
                       have hfs55 := blk_frozen BK122.out 2
                       have hns55_0 := NB101_122.out
                       have hms55_0 := NB122_101.out
                       have hs56 : w52.cell? ⟨gb122, 3, none⟩ = some (.int .i64 0) := (blk_cell BK122.out 3).trans rfl
                       have hfs56 := blk_frozen BK122.out 3
                       have hns56_0 := NB101_122.out
                       have hms56_0 := NB122_101.out
                       have hs57 : w52.cell? ⟨gb122, 4, none⟩ = some (.slice none 0 0) := (blk_cell BK122.out 4).trans rfl
                       have hfs57 := blk_frozen BK122.out 4
                       have hns57_0 := NB101_122.out
                       have hms57_0 := NB122_101.out
                       have hs58 : w52.cell? ⟨gb122, 5, none⟩ = some (.bool false) := (blk_cell BK122.out 5).trans rfl
                       have hfs58 := blk_frozen BK122.out 5
                       have hns58_0 := NB101_122.out
                       have hms58_0 := NB122_101.out
                       refine skip_ (w1 := ?_) (by rfl) rfl ?_ ?_
                       rotate_left
                       · go_simp
                         rfl
                       refine hK.out _ _ ⟨((cell_far (p := ⟨gb122, _, none⟩) (by first | exact hfc0_ | (rw [add_block]; exact hfc0_) | (show (Addr.add _ _).block ≠ _; rw [add_block]; exact hfc0_) | (dsimp only; exact hfc0_)) _).trans (((cell_far (p := ⟨gb122, _, none⟩) (by first | exact hfc0_ | (rw [add_block]; exact hfc0_) | (show (Addr.add _ _).block ≠ _; rw [add_block]; exact hfc0_) | (dsimp only; exact hfc0_)) _).trans (((cell_far (p := ⟨gb122, _, none⟩) (by first | exact hfc0_ | (rw [add_block]; exact hfc0_) | (show (Addr.add _ _).block ≠ _; rw [add_block]; exact hfc0_) | (dsimp only; exact hfc0_)) _).trans (((cell_far (p := ⟨gb122, _, none⟩) (by first | exact hfc0_ | (rw [add_block]; exact hfc0_) | (show (Addr.add _ _).block ≠ _; rw [add_block]; exact hfc0_) | (dsimp only; exact hfc0_)) _).trans (((cell_far (p := ⟨gb122, _, none⟩) (by first | exact hfc0_ | (rw [add_block]; exact hfc0_) | (show (Addr.add _ _).block ≠ _; rw [add_block]; exact hfc0_) | (dsimp only; exact hfc0_)) _).trans (((cell_far (p := ⟨gb122, _, none⟩) (by first | exact hfc0_ | (rw [add_block]; exact hfc0_) | (show (Addr.add _ _).block ≠ _; rw [add_block]; exact hfc0_) | (dsimp only; exact hfc0_)) _).trans (hHeld.1)))))))))))), ((cell_far (p := ⟨gb122, _, none⟩) (by first | exact hfc0_ | (rw [add_block]; exact hfc0_) | (show (Addr.add _ _).block ≠ _; rw [add_block]; exact hfc0_) | (dsimp only; exact hfc0_)) _).trans (((cell_far (p := ⟨gb122, _, none⟩) (by first | exact hfc0_ | (rw [add_block]; exact hfc0_) | (show (Addr.add _ _).block ≠ _; rw [add_block]; exact hfc0_) | (dsimp only; exact hfc0_)) _).trans (((cell_far (p := ⟨gb122, _, none⟩) (by first | exact hfc0_ | (rw [add_block]; exact hfc0_) | (show (Addr.add _ _).block ≠ _; rw [add_block]; exact hfc0_) | (dsimp only; exact hfc0_)) _).trans (((cell_far (p := ⟨gb122, _, none⟩) (by first | exact hfc0_ | (rw [add_block]; exact hfc0_) | (show (Addr.add _ _).block ≠ _; rw [add_block]; exact hfc0_) | (dsimp only; exact hfc0_)) _).trans (((cell_far (p := ⟨gb122, _, none⟩) (by first | exact hfc0_ | (rw [add_block]; exact hfc0_) | (show (Addr.add _ _).block ≠ _; rw [add_block]; exact hfc0_) | (dsimp only; exact hfc0_)) _).trans (((cell_far (p := ⟨gb122, _, none⟩) (by first | exact hfc0_ | (rw [add_block]; exact hfc0_) | (show (Addr.add _ _).block ≠ _; rw [add_block]; exact hfc0_) | (dsimp only; exact hfc0_)) _).trans (hHeld.2.1)))))))))))), ((cell_far (p := ⟨gb122, _, none⟩) (by first | exact hfc0_ | (rw [add_block]; exact hfc0_) | (show (Addr.add _ _).block ≠ _; rw [add_block]; exact hfc0_) | (dsimp only; exact hfc0_)) _).trans (((cell_far (p := ⟨gb122, _, none⟩) (by first | exact hfc0_ | (rw [add_block]; exact hfc0_) | (show (Addr.add _ _).block ≠ _; rw [add_block]; exact hfc0_) | (dsimp only; exact hfc0_)) _).trans (((cell_far (p := ⟨gb122, _, none⟩) (by first | exact hfc0_ | (rw [add_block]; exact hfc0_) | (show (Addr.add _ _).block ≠ _; rw [add_block]; exact hfc0_) | (dsimp only; exact hfc0_)) _).trans (((cell_far (p := ⟨gb122, _, none⟩) (by first | exact hfc0_ | (rw [add_block]; exact hfc0_) | (show (Addr.add _ _).block ≠ _; rw [add_block]; exact hfc0_) | (dsimp only; exact hfc0_)) _).trans (((cell_far (p := ⟨gb122, _, none⟩) (by first | exact hfc0_ | (rw [add_block]; exact hfc0_) | (show (Addr.add _ _).block ≠ _; rw [add_block]; exact hfc0_) | (dsimp only; exact hfc0_)) _).trans (((cell_far (p := ⟨gb122, _, none⟩) (by first | exact hfc0_ | (rw [add_block]; exact hfc0_) | (show (Addr.add _ _).block ≠ _; rw [add_block]; exact hfc0_) | (dsimp only; exact hfc0_)) _).trans (hHeld.2.2.1)))))))))))), ((cell_far (p := ⟨gb122, _, none⟩) (by first | exact hfc0_ | (rw [add_block]; exact hfc0_) | (show (Addr.add _ _).block ≠ _; rw [add_block]; exact hfc0_) | (dsimp only; exact hfc0_)) _).trans (((cell_far (p := ⟨gb122, _, none⟩) (by first | exact hfc0_ | (rw [add_block]; exact hfc0_) | (show (Addr.add _ _).block ≠ _; rw [add_block]; exact hfc0_) | (dsimp only; exact hfc0_)) _).trans (((cell_far (p := ⟨gb122, _, none⟩) (by first | exact hfc0_ | (rw [add_block]; exact hfc0_) | (show (Addr.add _ _).block ≠ _; rw [add_block]; exact hfc0_) | (dsimp only; exact hfc0_)) _).trans (((cell_far (p := ⟨gb122, _, none⟩) (by first | exact hfc0_ | (rw [add_block]; exact hfc0_) | (show (Addr.add _ _).block ≠ _; rw [add_block]; exact hfc0_) | (dsimp only; exact hfc0_)) _).trans (((cell_far (p := ⟨gb122, _, none⟩) (by first | exact hfc0_ | (rw [add_block]; exact hfc0_) | (show (Addr.add _ _).block ≠ _; rw [add_block]; exact hfc0_) | (dsimp only; exact hfc0_)) _).trans (((cell_far (p := ⟨gb122, _, none⟩) (by first | exact hfc0_ | (rw [add_block]; exact hfc0_) | (show (Addr.add _ _).block ≠ _; rw [add_block]; exact hfc0_) | (dsimp only; exact hfc0_)) _).trans (hHeld.2.2.2.1)))))))))))), ((cell_far (p := ⟨gb122, _, none⟩) (by first | exact Nat.ne_of_lt (Nat.lt_of_lt_of_le (by have := World.block_lt_of_cell? _ _ hw121_0; first | rwa [add_block] at this | exact this) GW122.out) | (rw [add_block]; exact Nat.ne_of_lt (Nat.lt_of_lt_of_le (by have := World.block_lt_of_cell? _ _ hw121_0; first | rwa [add_block] at this | exact this) GW122.out)) | (show (Addr.add _ _).block ≠ _; rw [add_block]; exact Nat.ne_of_lt (Nat.lt_of_lt_of_le (by have := World.block_lt_of_cell? _ _ hw121_0; first | rwa [add_block] at this | exact this) GW122.out)) | (dsimp only; exact Nat.ne_of_lt (Nat.lt_of_lt_of_le (by have := World.block_lt_of_cell? _ _ hw121_0; first | rwa [add_block] at this | exact this) GW122.out))) _).trans (((cell_far (p := ⟨gb122, _, none⟩) (by first | exact Nat.ne_of_lt (Nat.lt_of_lt_of_le (by have := World.block_lt_of_cell? _ _ hw121_0; first | rwa [add_block] at this | exact this) GW122.out) | (rw [add_block]; exact Nat.ne_of_lt (Nat.lt_of_lt_of_le (by have := World.block_lt_of_cell? _ _ hw121_0; first | rwa [add_block] at this | exact this) GW122.out)) | (show (Addr.add _ _).block ≠ _; rw [add_block]; exact Nat.ne_of_lt (Nat.lt_of_lt_of_le (by have := World.block_lt_of_cell? _ _ hw121_0; first | rwa [add_block] at this | exact this) GW122.out)) | (dsimp only; exact Nat.ne_of_lt (Nat.lt_of_lt_of_le (by have := World.block_lt_of_cell? _ _ hw121_0; first | rwa [add_block] at this | exact this) GW122.out))) _).trans (((cell_far (p := ⟨gb122, _, none⟩) (by first | exact Nat.ne_of_lt (Nat.lt_of_lt_of_le (by have := World.block_lt_of_cell? _ _ hw121_0; first | rwa [add_block] at this | exact this) GW122.out) | (rw [add_block]; exact Nat.ne_of_lt (Nat.lt_of_lt_of_le (by have := World.block_lt_of_cell? _ _ hw121_0; first | rwa [add_block] at this | exact this) GW122.out)) | (show (Addr.add _ _).block ≠ _; rw [add_block]; exact Nat.ne_of_lt (Nat.lt_of_lt_of_le (by have := World.block_lt_of_cell? _ _ hw121_0; first | rwa [add_block] at this | exact this) GW122.out)) | (dsimp only; exact Nat.ne_of_lt (Nat.lt_of_lt_of_le (by have := World.block_lt_of_cell? _ _ hw121_0; first | rwa [add_block] at this | exact this) GW122.out))) _).trans (((cell_far (p := ⟨gb122, _, none⟩) (by first | exact Nat.ne_of_lt (Nat.lt_of_lt_of_le (by have := World.block_lt_of_cell? _ _ hw121_0; first | rwa [add_block] at this | exact this) GW122.out) | (rw [add_block]; exact Nat.ne_of_lt (Nat.lt_of_lt_of_le (by have := World.block_lt_of_cell? _ _ hw121_0; first | rwa [add_block] at this | exact this) GW122.out)) | (show (Addr.add _ _).block ≠ _; rw [add_block]; exact Nat.ne_of_lt (Nat.lt_of_lt_of_le (by have := World.block_lt_of_cell? _ _ hw121_0; first | rwa [add_block] at this | exact this) GW122.out)) | (dsimp only; exact Nat.ne_of_lt (Nat.lt_of_lt_of_le (by have := World.block_lt_of_cell? _ _ hw121_0; first | rwa [add_block] at this | exact this) GW122.out))) _).trans (((cell_far (p := ⟨gb122, _, none⟩) (by first | exact Nat.ne_of_lt (Nat.lt_of_lt_of_le (by have := World.block_lt_of_cell? _ _ hw121_0; first | rwa [add_block] at this | exact this) GW122.out) | (rw [add_block]; exact Nat.ne_of_lt (Nat.lt_of_lt_of_le (by have := World.block_lt_of_cell? _ _ hw121_0; first | rwa [add_block] at this | exact this) GW122.out)) | (show (Addr.add _ _).block ≠ _; rw [add_block]; exact Nat.ne_of_lt (Nat.lt_of_lt_of_le (by have := World.block_lt_of_cell? _ _ hw121_0; first | rwa [add_block] at this | exact this) GW122.out)) | (dsimp only; exact Nat.ne_of_lt (Nat.lt_of_lt_of_le (by have := World.block_lt_of_cell? _ _ hw121_0; first | rwa [add_block] at this | exact this) GW122.out))) _).trans (((cell_far (p := ⟨gb122, _, none⟩) (by first | exact Nat.ne_of_lt (Nat.lt_of_lt_of_le (by have := World.block_lt_of_cell? _ _ hw121_0; first | rwa [add_block] at this | exact this) GW122.out) | (rw [add_block]; exact Nat.ne_of_lt (Nat.lt_of_lt_of_le (by have := World.block_lt_of_cell? _ _ hw121_0; first | rwa [add_block] at this | exact this) GW122.out)) | (show (Addr.add _ _).block ≠ _; rw [add_block]; exact Nat.ne_of_lt (Nat.lt_of_lt_of_le (by have := World.block_lt_of_cell? _ _ hw121_0; first | rwa [add_block] at this | exact this) GW122.out)) | (dsimp only; exact Nat.ne_of_lt (Nat.lt_of_lt_of_le (by have := World.block_lt_of_cell? _ _ hw121_0; first | rwa [add_block] at this | exact this) GW122.out))) _).trans (hHeld.2.2.2.2))))))))))))⟩ (fun hHeld => ?_)
                       clear hK K
                       refine done_ (done_of HT_.out (by kernel_rfl)) ?_
                       have hnb59 := NB122_101.out
                       have hnc59 := NB101_122.out
                       obtain ⟨hcz60_0, hcz60_1, hcz60_2, hcz60_3, hcz60_4, hcz60_5, hfz60_0, hfz60_1, hfz60_2, hfz60_3, hfz60_4, hfz60_5⟩ := cellsZ6 BK122.out
                       try go_wp2_with (first | ((with_reducible refine gate_callee (f := 34) rfl ?_); refine goesL_ (some 63) rfl rfl Try.func34 (by kernel_rfl) rfl #[.agg #[.int .i64 (rd x4_1 0), .int .i64 (rd x4_1 1), .int .i64 (rd x4_1 2), .int .i64 (rd x4_1 3), .slice A51 y118.length c51, .bool ((rd l0 0) == 1)]] rfl zee81 ?_; (with_reducible refine (impl_GoodAgg.calls k1 (rd x4_1 0) (rd x4_1 1) (rd x4_1 2) (rd x4_1 3) _ _ y118 ((rd l0 0) == 1) true _ ?side1 ?side2 A26.out).mono ?_); (case side1 => refine (Kd.Q_reads' (e := 3) (base := w.heap.size) (ok := fun k_ => True) (n := y118.length) (c := c51) ?_).2.2; exact (kZ (qF6 HO120.out BK122.out))); (case side2 => exact (Kd.Q_reads' HO120.out).2.1); rintro e w61 ⟨rfl, hb⟩; refine ⟨_, rfl, ?_⟩; have _ := aM (Kd.Q_below (kZ (qF6 HO120.out BK122.out)) hb); have _ := bB gb101 hb; have _ := aM (blk_below (g := gb122) (o := .cells #[.int .i64 (rd x4_1 0), .int .i64 (rd x4_1 1), .int .i64 (rd x4_1 2), .int .i64 (rd x4_1 3), .slice A51 y118.length c51, .bool ((rd l0 0) == 1)] 54 (0, 0)) bkZ hb); have _ := aM (below_step hbZ hb); clear HO120 BK101 BK122 HB; rename_i HO120 BK101 BK122 HB; (try clear hb); obtain ⟨hcz62_0, hcz62_1, hcz62_2, hcz62_3, hcz62_4, hcz62_5, hfz62_0, hfz62_1, hfz62_2, hfz62_3, hfz62_4, hfz62_5⟩ := cellsZ6 BK122.out) | (go_at_call 60; (with_reducible refine (impl_aggBytes.calls k1 (rd x4_1 0) (rd x4_1 1) (rd x4_1 2) (rd x4_1 3) _ _ y118 ((rd l0 0) == 1) t124 _ ?side1 ?side2 A28.out).mono ?_); (case side1 => exact (by repeat (first | exact (Kd.Q_reads' HO120.out).2.2 | (with_reducible refine Kd.C_alloc ?_ _) | (with_reducible refine Kd.C_drewN ?_ _) | (with_reducible refine Kd.C_drew ?_)))); (case side2 => exact (Kd.Q_reads' HO120.out).2.1); rintro e w63 ⟨v125, rfl, ho0, hb⟩; have _ := aM (Kd.Q_below (kZ HO120.out) hb); have _ := aM (Kd.R_lower ho0 (below_size hbZ)); have _ := bB gb101 hb; have _ := bB gb122 hb; have _ := aM (below_step hbZ hb); clear HO120 BK101 BK122 HB; rename_i HO120 HO126 BK101 BK122 HB; (try clear hb); (try clear ho0); obtain ⟨Ao64, co64, eo64⟩ := Kd.R_slice HO126.out; subst eo64) | (go_at_call 39; (with_reducible refine (bytes_Equal.calls _ _ t124 _ _ l0 false _ ?side1 ?side2 ?side3 ?side4 A29.out).mono ?_); (case side1 => exact (by repeat (first | exact (Kd.R_reads' HO126.out).2.2 | (with_reducible refine Kd.C_alloc ?_ _) | (with_reducible refine Kd.C_drewN ?_ _) | (with_reducible refine Kd.C_drew ?_)))); (case side2 => exact (Kd.R_reads' HO126.out).2.1); (case side3 => exact (cZ (Kd.C_below HR0.out HB.out))); (case side4 => exact HC0.out); rintro e w' ⟨rfl, ⟨nd, rfl⟩⟩; (try (rw [drewN_self w63]; generalize hq_ : World.drewN w63 _ = w63; have _ : Aside0 (Kd.Q (Kd.int .i64) 3 w63 w.heap.size (fun _ => True) (.slice A51 y118.length c51) y118) := ⟨by rw [← hq_]; exact (kZ HO120.out)⟩; have _ : Aside0 (Kd.R (Kd.int .u8) 5 w63 w.heap.size (fun _ => True) (.slice Ao64 t124.length co64) t124) := ⟨by rw [← hq_]; exact (rZ HO126.out)⟩; have _ : Aside0 (w63.heap[gb101]? = some (.cells #[.int .i64 x102000_1, .int .i64 x102001_1, .int .i64 x102002_1, .int .i64 x102003_1, .slice none 0 0, .bool x102005_1] 54 (0, 0))) := ⟨by rw [← hq_]; exact bkZ⟩; have _ : Aside0 (w63.heap[gb122]? = some (.cells #[.int .i64 (rd x4_1 0), .int .i64 (rd x4_1 1), .int .i64 (rd x4_1 2), .int .i64 (rd x4_1 3), .slice A51 y118.length c51, .bool ((rd l0 0) == 1)] 54 (0, 0))) := ⟨by rw [← hq_]; exact bkZ⟩; have _ : Aside0 (Below w.heap.size w w63) := ⟨by rw [← hq_]; exact hbZ⟩; clear HO120 HO126 BK101 BK122 HB hq_; rename_i HO120 HO126 BK101 BK122 HB)); obtain ⟨hcz65_0, hcz65_1, hcz65_2, hcz65_3, hcz65_4, hcz65_5, hfz65_0, hfz65_1, hfz65_2, hfz65_3, hfz65_4, hfz65_5⟩ := cellsZ6 BK101.out))
                       refine bodyPost_ret (results_ct rfl _ _ gb101 54 #[.int .i64 0, .int .i64 0, .int .i64 0, .int .i64 0, .slice none 0 0, .bool false] (0, 0) _ rfl bkZ Try.underlying54 rfl (by kernel_rfl)) rfl ?_
                       exact ⟨_, z674d, Kd.Q_of_R z02fa, zcb41⟩
                   · replace c27 := Bool.eq_false_iff.mpr c27
                     subst c27
                     have H1 : (some (0, 0, 0, 0, ([] : List Int), false, false)) = some (r1, r2, r3, r4, r5, r6, r7) := by rw [if_neg (show ¬ (false = true) by decide)] at H; exact H
                     clear H
                     have H := H1
                     clear H1
                     simp only [Option.some.injEq, Prod.mk.injEq] at H
                     obtain ⟨rfl, rfl, rfl, rfl, rfl, rfl, rfl⟩ := H
                     try go_wp2
                     have _ := aM (Kd.R_drew HO_4.out)
                     have _ := aM (blk_drew BK101.out)
                     have _ := aM (below_drew1 HB.out)
                     clear HO_4
                     clear BK101
                     clear HB
                     rename_i HO_4 BK101 HB
                     obtain ⟨Ao67, co67, eo67⟩ := Kd.R_slice HO_4.out
                     (first | subst eo67 | (injection eo67 with f1_ f2_ f3_; have f4_ := f1_.symm; have f5_ := f3_.symm; clear f1_ f2_ f3_; subst f4_; subst f5_))
                     have p114 : 0 ≤ (0 : Int) := (by omega)
                     have q114 : 0 < (x4_1.length : Int) := of_decide_eq_true z1200
                     obtain ⟨ad114, e114, hx114_0⟩ := Kd.at_int (Kd.R_reads' HO_4.out).2.2 0 p114 q114
                     cases e114
                     have qi114 : (0 < x4_1.length) = True := eq_true (by omega)
                     (try rw [show ((0 : Int)).toNat = 0 from rfl] at hx114_0)
                     (try rw [Addr.add_zero'] at hx114_0)
                     replace p114 := eq_true p114
                     replace q114 := eq_true q114
                     have p115 : 0 ≤ (1 : Int) := (by omega)
                     have q115 : 1 < (x4_1.length : Int) := of_decide_eq_true z1200
                     obtain ⟨ad115, e115, hx115_0⟩ := Kd.at_int (Kd.R_reads' HO_4.out).2.2 1 p115 q115
                     obtain rfl : ad114 = ad115 := (by injection e115)
                     (try simp only [show (1 : Int).toNat = 1 from rfl, Nat.reduceMul, Nat.reduceEqDiff, Go.Addr.add, ↓reduceIte] at hx115_0)
                     have qi115 : (1 < x4_1.length) = True := eq_true (by omega)
                     (try rw [show ((1 : Int)).toNat = 1 from rfl] at hx115_0)
                     replace p115 := eq_true p115
                     replace q115 := eq_true q115
                     have p116 : 0 ≤ (2 : Int) := (by omega)
                     have q116 : 2 < (x4_1.length : Int) := of_decide_eq_true z1200
                     obtain ⟨ad116, e116, hx116_0⟩ := Kd.at_int (Kd.R_reads' HO_4.out).2.2 2 p116 q116
                     obtain rfl : ad114 = ad116 := (by injection e116)
                     (try simp only [show (2 : Int).toNat = 2 from rfl, Nat.reduceMul, Nat.reduceEqDiff, Go.Addr.add, ↓reduceIte] at hx116_0)
                     have qi116 : (2 < x4_1.length) = True := eq_true (by omega)
                     (try rw [show ((2 : Int)).toNat = 2 from rfl] at hx116_0)
                     replace p116 := eq_true p116
                     replace q116 := eq_true q116
                     have p117 : 0 ≤ (3 : Int) := (by omega)
                     have q117 : 3 < (x4_1.length : Int) := of_decide_eq_true z1200
                     obtain ⟨ad117, e117, hx117_0⟩ := Kd.at_int (Kd.R_reads' HO_4.out).2.2 3 p117 q117
                     obtain rfl : ad114 = ad117 := (by injection e117)
                     (try simp only [show (3 : Int).toNat = 3 from rfl, Nat.reduceMul, Nat.reduceEqDiff, Go.Addr.add, ↓reduceIte] at hx117_0)
                     have qi117 : (3 < x4_1.length) = True := eq_true (by omega)
                     (try rw [show ((3 : Int)).toNat = 3 from rfl] at hx117_0)
                     replace p117 := eq_true p117
                     replace q117 := eq_true q117
                     have q68 : (4 : Int) ≤ ((x4_1.length : Int) : Int) := of_decide_eq_true z1200
                     obtain ⟨i068, hi068, _, hsz68, _⟩ := info_parts info3
                     have hcut68 := cut_from (P := Try.prog) 52 3 .i64 Try.underlying52 hi068 1 hsz68 (some ad114) x4_1.length co67 4 (by omega) q68
                     have hr68 := Kd.Q_drop (k := (4 : Int).toNat) (Kd.Q_of_R HO_4.out) (by omega)
                     obtain ⟨A68, hA68⟩ : ∃ A1, A1 = (if co67 = (4 : Int).toNat then (some ad114) else ((some ad114) : Option Addr).map (·.add ((4 : Int).toNat * 1))) := ⟨_, rfl⟩
                     obtain ⟨c68, hc68⟩ : ∃ c1, c1 = co67 - (4 : Int).toNat := ⟨_, rfl⟩
                     have hy68 : y118.length = x4_1.length - (4 : Int).toNat := (by rw [Ny118.out, List.length_drop])
                     rw [← Ny118.out] at hr68
                     rw [← hy68, ← hA68, ← hc68] at hcut68
                     replace hr68 : Kd.Q (Kd.int .i64) 3 wr.drew w.heap.size (fun _ => True) (.slice A68 y118.length c68) y118 := (by rw [hA68, hc68, hy68]; exact hr68)
                     have HE68 : Aside0 ((Value.slice A68 y118.length c68).ownBlock = (.slice (some ad114) x4_1.length co67 : Value).ownBlock) := ⟨by rw [hA68]; split <;> (cases ((some ad114) : Option Addr) <;> rfl)⟩
                     clear hy68 hi068 hsz68 HO_4 hA68 hc68
                     have HO120 := aM hr68
                     clear hr68
                     replace q68 := eq_true q68
                     have p121 : 0 ≤ (0 : Int) := (by omega)
                     have q121 : 0 < (l0.length : Int) := of_decide_eq_true z1200
                     obtain ⟨ad121, e121, hx121_0⟩ := Kd.at_int HR0.out 0 p121 q121
                     have hw121_0 := hx121_0
                     (try rw [show ((0 : Int)).toNat = 0 from rfl] at hw121_0)
                     (try rw [show 0 * 1 = 0 from rfl] at hw121_0)
                     (try rw [Addr.add_zero'] at hw121_0)
                     cases e121
                     have qi121 : (0 < l0.length) = True := eq_true (by omega)
                     (try rw [show ((0 : Int)).toNat = 0 from rfl] at hx121_0)
                     (try rw [Addr.add_zero'] at hx121_0)
                     replace hx121_0 := (HB.out.cell (World.block_lt_of_cell? w _ hx121_0)).trans hx121_0
                     replace p121 := eq_true p121
                     replace q121 := eq_true q121
                     refine start_ (n := 21) (S := fun w' => w'.cell? ad114 = some (.int .i64 (rd x4_1 0)) ∧ w'.cell? ⟨ad114.block, ad114.off + 1, none⟩ = some (.int .i64 (rd x4_1 1)) ∧ w'.cell? ⟨ad114.block, ad114.off + 2, none⟩ = some (.int .i64 (rd x4_1 2)) ∧ w'.cell? ⟨ad114.block, ad114.off + 3, none⟩ = some (.int .i64 (rd x4_1 3)) ∧ w'.cell? ad121 = some (.int .u8 (rd l0 0))) (ds := []) #[false, false, false, false, false, false, false, false, false, false, false, false, false, false, false, false, false, false, false, false, false] (by kernel_rfl) rfl rfl ⟨hx114_0, hx115_0, hx116_0, hx117_0, ((HB.out.cell (World.block_lt_of_cell? w _ hw121_0)).trans hw121_0)⟩ (fun hHeld => ?_); refine with_tabW impl_ReadAgg.tab14 impl_ReadAgg.bits14 (fun HT_ HW_ => ?_)
                     generalize wr.drew = w66 at BK101 HB HO120 hx114_0 hx115_0 hx116_0 hx117_0 hx121_0 hHeld ⊢
                     refine pure_ (i := 0) (N := some 43) (v := ?_) (a' := ?_) #[true, false, false, false, false, false, false, false, false, false, false, false, false, false, false, false, false, false, false, false, false] rfl rfl (any_of HT_.out (by kernel_rfl)) (fun _ _ _ h => h) (Or.inl ⟨by rfl, ?_⟩) ?_ ?_
                     rotate_left
                     · intro w'
                       go_simp
                       with_reducible rfl
                     rotate_left
                     · simp only [Act.put, List.setIfInBounds_toArray, List.set_cons_zero, List.set_cons_succ, i64_w, i32_w]
                       rfl
                     refine pure_ (i := 1) (N := some 44) (v := ?_) (a' := ?_) #[true, true, false, false, false, false, false, false, false, false, false, false, false, false, false, false, false, false, false, false, false] rfl rfl (any_of HT_.out (by kernel_rfl)) (fun _ _ _ h => h) (Or.inl ⟨by rfl, ?_⟩) ?_ ?_
                     rotate_left
                     · intro w'
                       go_simp
                       with_reducible rfl
                     rotate_left
                     · simp only [Act.put, List.setIfInBounds_toArray, List.set_cons_zero, List.set_cons_succ, i64_w, i32_w]
                       rfl
                     refine pure_ (i := 3) (N := some 46) (v := ?_) (a' := ?_) #[true, true, false, true, false, false, false, false, false, false, false, false, false, false, false, false, false, false, false, false, false] rfl rfl (any_of HT_.out (by kernel_rfl)) (fun _ _ _ h => h) (Or.inl ⟨by rfl, ?_⟩) ?_ ?_
                     rotate_left
                     · intro w'
                       go_simp
                       with_reducible rfl
                     rotate_left
                     · simp only [Act.put, List.setIfInBounds_toArray, List.set_cons_zero, List.set_cons_succ, i64_w, i32_w]
                       rfl
                     refine pure_ (i := 4) (N := some 47) (v := ?_) (a' := ?_) #[true, true, false, true, true, false, false, false, false, false, false, false, false, false, false, false, false, false, false, false, false] rfl rfl (any_of HT_.out (by kernel_rfl)) (fun _ _ _ h => h) (Or.inl ⟨by rfl, ?_⟩) ?_ ?_
                     rotate_left
                     · intro w'
                       go_simp
                       with_reducible rfl
                     rotate_left
                     · simp only [Act.put, List.setIfInBounds_toArray, List.set_cons_zero, List.set_cons_succ, i64_w, i32_w]
                       rfl
                     refine pure_ (i := 6) (N := some 49) (v := ?_) (a' := ?_) #[true, true, false, true, true, false, true, false, false, false, false, false, false, false, false, false, false, false, false, false, false] rfl rfl (any_of HT_.out (by kernel_rfl)) (fun _ _ _ h => h) (Or.inl ⟨by rfl, ?_⟩) ?_ ?_
                     rotate_left
                     · intro w'
                       go_simp
                       with_reducible rfl
                     rotate_left
                     · simp only [Act.put, List.setIfInBounds_toArray, List.set_cons_zero, List.set_cons_succ, i64_w, i32_w]
                       rfl
                     refine pure_ (i := 7) (N := some 50) (v := ?_) (a' := ?_) #[true, true, false, true, true, false, true, true, false, false, false, false, false, false, false, false, false, false, false, false, false] rfl rfl (any_of HT_.out (by kernel_rfl)) (fun _ _ _ h => h) (Or.inl ⟨by rfl, ?_⟩) ?_ ?_
                     rotate_left
                     · intro w'
                       go_simp
                       with_reducible rfl
                     rotate_left
                     · simp only [Act.put, List.setIfInBounds_toArray, List.set_cons_zero, List.set_cons_succ, i64_w, i32_w]
                       rfl
                     refine pure_ (i := 9) (N := some 52) (v := ?_) (a' := ?_) #[true, true, false, true, true, false, true, true, false, true, false, false, false, false, false, false, false, false, false, false, false] rfl rfl (any_of HT_.out (by kernel_rfl)) (fun _ _ _ h => h) (Or.inl ⟨by rfl, ?_⟩) ?_ ?_
                     rotate_left
                     · intro w'
                       go_simp
                       with_reducible rfl
                     rotate_left
                     · simp only [Act.put, List.setIfInBounds_toArray, List.set_cons_zero, List.set_cons_succ, i64_w, i32_w]
                       rfl
                     refine pure_ (i := 10) (N := some 53) (v := ?_) (a' := ?_) #[true, true, false, true, true, false, true, true, false, true, true, false, false, false, false, false, false, false, false, false, false] rfl rfl (any_of HT_.out (by kernel_rfl)) (fun _ _ _ h => h) (Or.inl ⟨by rfl, ?_⟩) ?_ ?_
                     rotate_left
                     · intro w'
                       go_simp
                       with_reducible rfl
                     rotate_left
                     · simp only [Act.put, List.setIfInBounds_toArray, List.set_cons_zero, List.set_cons_succ, i64_w, i32_w]
                       rfl
                     refine pure_ (i := 12) (N := some 55) (v := ?_) (a' := ?_) #[true, true, false, true, true, false, true, true, false, true, true, false, true, false, false, false, false, false, false, false, false] rfl rfl (any_of HT_.out (by kernel_rfl)) (fun _ _ _ h => h) (Or.inl ⟨by rfl, ?_⟩) ?_ ?_
                     rotate_left
                     · intro w'
                       go_simp
                       with_reducible rfl
                     rotate_left
                     · simp only [Act.put, List.setIfInBounds_toArray, List.set_cons_zero, List.set_cons_succ, i64_w, i32_w]
                       rfl
                     refine pure_ (i := 13) (N := some 56) (v := ?_) (a' := ?_) #[true, true, false, true, true, false, true, true, false, true, true, false, true, true, false, false, false, false, false, false, false] rfl rfl (any_of HT_.out (by kernel_rfl)) (fun _ _ _ h => h) (Or.inl ⟨by rfl, ?_⟩) ?_ ?_
                     rotate_left
                     · intro w'
                       go_simp
                       with_reducible rfl
                     rotate_left
                     · simp only [Act.put, List.setIfInBounds_toArray, List.set_cons_zero, List.set_cons_succ, i64_w, i32_w]
                       rfl
                     refine pure_ (i := 14) (N := some 57) (v := ?_) (a' := ?_) #[true, true, false, true, true, false, true, true, false, true, true, false, true, true, true, false, false, false, false, false, false] rfl rfl (any_of HT_.out (by kernel_rfl)) (fun _ _ _ h => h) (Or.inl ⟨by rfl, ?_⟩) ?_ ?_
                     rotate_left
                     · intro w'
                       go_simp
                       with_reducible rfl
                     rotate_left
                     · simp only [Act.put, List.setIfInBounds_toArray, List.set_cons_zero, List.set_cons_succ, i64_w, i32_w]
                       rfl
                     refine pure_ (i := 15) (N := some 58) (v := ?_) (a' := ?_) #[true, true, false, true, true, false, true, true, false, true, true, false, true, true, true, true, false, false, false, false, false] rfl rfl (any_of HT_.out (by kernel_rfl)) (fun _ _ _ h => h) (Or.inl ⟨by rfl, ?_⟩) ?_ ?_
                     rotate_left
                     · intro w'
                       go_simp
                       with_reducible rfl
                     rotate_left
                     · simp only [Act.put, List.setIfInBounds_toArray, List.set_cons_zero, List.set_cons_succ, i64_w, i32_w]
                       rfl
                     refine take_ (i := 2) (N := some 45) (v := ?_) (a' := ?_) #[true, true, true, true, true, false, true, true, false, true, true, false, true, true, true, true, false, false, false, false, false] rfl rfl (take_ofW HT_.out HW_.out (by kernel_rfl)) (fun _ _ _ h => h) (Or.inl ⟨by rfl, ?_⟩) hHeld ?_ ?_
                     rotate_left
                     · rintro w' ⟨s0, s1, s2, s3, s4⟩
                       go_simp
                       with_reducible rfl
                     rotate_left
                     · simp only [Act.put, List.setIfInBounds_toArray, List.set_cons_zero, List.set_cons_succ, i64_w, i32_w]
                       rfl
                     refine take_ (i := 5) (N := some 48) (v := ?_) (a' := ?_) #[true, true, true, true, true, true, true, true, false, true, true, false, true, true, true, true, false, false, false, false, false] rfl rfl (take_ofW HT_.out HW_.out (by kernel_rfl)) (fun _ _ _ h => h) (Or.inl ⟨by rfl, ?_⟩) hHeld ?_ ?_
                     rotate_left
                     · rintro w' ⟨s0, s1, s2, s3, s4⟩
                       go_simp
                       with_reducible rfl
                     rotate_left
                     · simp only [Act.put, List.setIfInBounds_toArray, List.set_cons_zero, List.set_cons_succ, i64_w, i32_w]
                       rfl
                     refine take_ (i := 8) (N := some 51) (v := ?_) (a' := ?_) #[true, true, true, true, true, true, true, true, true, true, true, false, true, true, true, true, false, false, false, false, false] rfl rfl (take_ofW HT_.out HW_.out (by kernel_rfl)) (fun _ _ _ h => h) (Or.inl ⟨by rfl, ?_⟩) hHeld ?_ ?_
                     rotate_left
                     · rintro w' ⟨s0, s1, s2, s3, s4⟩
                       go_simp
                       with_reducible rfl
                     rotate_left
                     · simp only [Act.put, List.setIfInBounds_toArray, List.set_cons_zero, List.set_cons_succ, i64_w, i32_w]
                       rfl
                     refine take_ (i := 11) (N := some 54) (v := ?_) (a' := ?_) #[true, true, true, true, true, true, true, true, true, true, true, true, true, true, true, true, false, false, false, false, false] rfl rfl (take_ofW HT_.out HW_.out (by kernel_rfl)) (fun _ _ _ h => h) (Or.inl ⟨by rfl, ?_⟩) hHeld ?_ ?_
                     rotate_left
                     · rintro w' ⟨s0, s1, s2, s3, s4⟩
                       go_simp
                       with_reducible rfl
                     rotate_left
                     · simp only [Act.put, List.setIfInBounds_toArray, List.set_cons_zero, List.set_cons_succ, i64_w, i32_w]
                       rfl
                     refine take_ (i := 16) (N := some 59) (v := ?_) (a' := ?_) #[true, true, true, true, true, true, true, true, true, true, true, true, true, true, true, true, true, false, false, false, false] rfl rfl (take_ofW HT_.out HW_.out (by kernel_rfl)) (fun _ _ _ h => h) (Or.inl ⟨by rfl, ?_⟩) hHeld ?_ ?_
                     rotate_left
                     · rintro w' ⟨s0, s1, s2, s3, s4⟩
                       go_simp
                       with_reducible rfl
                     rotate_left
                     · simp only [Act.put, List.setIfInBounds_toArray, List.set_cons_zero, List.set_cons_succ, i64_w, i32_w]
                       rfl
                     refine pure_ (i := 17) (N := some 60) (v := ?_) (a' := ?_) #[true, true, true, true, true, true, true, true, true, true, true, true, true, true, true, true, true, true, false, false, false] rfl rfl (any_of HT_.out (by kernel_rfl)) (fun _ _ _ h => h) (Or.inl ⟨by rfl, ?_⟩) ?_ ?_
                     rotate_left
                     · intro w'
                       go_simp
                       with_reducible rfl
                     rotate_left
                     · simp only [Act.put, List.setIfInBounds_toArray, List.set_cons_zero, List.set_cons_succ, i64_w, i32_w]
                       rfl
                     refine pure_ (i := 18) (N := some 61) (v := ?_) (a' := ?_) #[true, true, true, true, true, true, true, true, true, true, true, true, true, true, true, true, true, true, true, false, false] rfl rfl (any_of HT_.out (by kernel_rfl)) (fun _ _ _ h => h) (Or.inl ⟨by rfl, ?_⟩) ?_ ?_
                     rotate_left
                     · intro w'
                       go_simp
                       with_reducible rfl
                     rotate_left
                     · simp only [Act.put, List.setIfInBounds_toArray, List.set_cons_zero, List.set_cons_succ, i64_w, i32_w]
                       rfl
                     refine one_ (i := 19) (N := some 10) #[true, true, true, true, true, true, true, true, true, true, true, true, true, true, true, true, true, true, true, true, false] rfl rfl (one_of HT_.out (by kernel_rfl)) (by decide) (fun K hK => ?_)
                     refine box_step ?hg (N := 10) ?hd (cs := #[.int .i64 0, .int .i64 0, .int .i64 0, .int .i64 0, .slice none 0 0, .bool false]) (t := 54) ?hr ?_; (case hd => rfl); (case hg => rfl); (case hr => first | (go_simp; done) | (go_simp; rfl))
                     intro gb122 hg w69 hbox hb
                     have HS0_ := (hb.cell (World.block_lt_of_cell? _ _ (hHeld.1))).trans (hHeld.1)
                     have HS1_ := (hb.cell (World.block_lt_of_cell? _ _ (hHeld.2.1))).trans (hHeld.2.1)
                     have HS2_ := (hb.cell (World.block_lt_of_cell? _ _ (hHeld.2.2.1))).trans (hHeld.2.2.1)
                     have HS3_ := (hb.cell (World.block_lt_of_cell? _ _ (hHeld.2.2.2.1))).trans (hHeld.2.2.2.1)
                     have _ := aM (Kd.Q_below (kZ HO120.out) hb)
                     have _ := bB gb101 hb
                     have _ := aM (below_step hbZ hb)
                     have _ := aM hbox
                     have _ := szZ hg
                     have _ := szZ hg
                     have ⟨_, _⟩ := nbB gb101 hg
                     clear HO120
                     clear BK101
                     clear HB
                     rename_i HO120 BK101 HB BK122 GW122 GE122 NB101_122 NB122_101
                     clear hb hbox hg
                     refine hK.out _ _ ⟨HS0_, HS1_, HS2_, HS3_, ((HB.out.cell (World.block_lt_of_cell? w _ hw121_0)).trans hw121_0)⟩ (fun hHeld => ?_)
                     clear hK K
                     refine norm_ (a' := ?_) ?_ ?_
                     rotate_left
                     · show Act.put _ (some 10) _ = _
                       simp only [Act.put, List.setIfInBounds_toArray, List.set_cons_zero, List.set_cons_succ, i64_w, i32_w]
                       rfl
                     refine one_ (i := 20) (N := none) #[true, true, true, true, true, true, true, true, true, true, true, true, true, true, true, true, true, true, true, true, true] rfl rfl (one_of HT_.out (by kernel_rfl)) (by decide) (fun K hK => ?_)
                     have hfc0_ := Kd.own_blk (by have h_ := Kd.Q_ne HO120.out BK122.out (by decide); rw [HE68.out] at h_; exact h_)
                     have hs70 : w69.cell? ⟨gb122, 0, none⟩ = some (.int .i64 0) := (blk_cell BK122.out 0).trans rfl
                     have hfs70 := blk_frozen BK122.out 0
                     have hns70_0 := NB101_122.out
                     have hms70_0 := NB122_101.out
                     have hs71 : w69.cell? ⟨gb122, 1, none⟩ = some (.int .i64 0) := (blk_cell BK122.out 1).trans rfl
                     have hfs71 := blk_frozen BK122.out 1
                     have hns71_0 := NB101_122.out
                     have hms71_0 := NB122_101.out
                     have hs72 : w69.cell? ⟨gb122, 2, none⟩ = some (.int .i64 0) := (blk_cell BK122.out 2).trans rfl
                     have hfs72 := blk_frozen BK122.out 2
                     have hns72_0 := NB101_122.out
                     have hms72_0 := NB122_101.out
                     have hs73 : w69.cell? ⟨gb122, 3, none⟩ = some (.int .i64 0) := (blk_cell BK122.out 3).trans rfl
                     have hfs73 := blk_frozen BK122.out 3
                     have hns73_0 := NB101_122.out
                     have hms73_0 := NB122_101.out
                     have hs74 : w69.cell? ⟨gb122, 4, none⟩ = some (.slice none 0 0) := (blk_cell BK122.out 4).trans rfl
                     have hfs74 := blk_frozen BK122.out 4
                     have hns74_0 := NB101_122.out
                     have hms74_0 := NB122_101.out
                     have hs75 : w69.cell? ⟨gb122, 5, none⟩ = some (.bool false) := (blk_cell BK122.out 5).trans rfl
                     have hfs75 := blk_frozen BK122.out 5
                     have hns75_0 := NB101_122.out
                     have hms75_0 := NB122_101.out
                     refine skip_ (w1 := ?_) (by rfl) rfl ?_ ?_
                     rotate_left
                     · go_simp
                       rfl
                     refine hK.out _ _ ⟨((cell_far (p := ⟨gb122, _, none⟩) (by first | exact hfc0_ | (rw [add_block]; exact hfc0_) | (show (Addr.add _ _).block ≠ _; rw [add_block]; exact hfc0_) | (dsimp only; exact hfc0_)) _).trans (((cell_far (p := ⟨gb122, _, none⟩) (by first | exact hfc0_ | (rw [add_block]; exact hfc0_) | (show (Addr.add _ _).block ≠ _; rw [add_block]; exact hfc0_) | (dsimp only; exact hfc0_)) _).trans (((cell_far (p := ⟨gb122, _, none⟩) (by first | exact hfc0_ | (rw [add_block]; exact hfc0_) | (show (Addr.add _ _).block ≠ _; rw [add_block]; exact hfc0_) | (dsimp only; exact hfc0_)) _).trans (((cell_far (p := ⟨gb122, _, none⟩) (by first | exact hfc0_ | (rw [add_block]; exact hfc0_) | (show (Addr.add _ _).block ≠ _; rw [add_block]; exact hfc0_) | (dsimp only; exact hfc0_)) _).trans (((cell_far (p := ⟨gb122, _, none⟩) (by first | exact hfc0_ | (rw [add_block]; exact hfc0_) | (show (Addr.add _ _).block ≠ _; rw [add_block]; exact hfc0_) | (dsimp only; exact hfc0_)) _).trans (((cell_far (p := ⟨gb122, _, none⟩) (by first | exact hfc0_ | (rw [add_block]; exact hfc0_) | (show (Addr.add _ _).block ≠ _; rw [add_block]; exact hfc0_) | (dsimp only; exact hfc0_)) _).trans (hHeld.1)))))))))))), ((cell_far (p := ⟨gb122, _, none⟩) (by first | exact hfc0_ | (rw [add_block]; exact hfc0_) | (show (Addr.add _ _).block ≠ _; rw [add_block]; exact hfc0_) | (dsimp only; exact hfc0_)) _).trans (((cell_far (p := ⟨gb122, _, none⟩) (by first | exact hfc0_ | (rw [add_block]; exact hfc0_) | (show (Addr.add _ _).block ≠ _; rw [add_block]; exact hfc0_) | (dsimp only; exact hfc0_)) _).trans (((cell_far (p := ⟨gb122, _, none⟩) (by first | exact hfc0_ | (rw [add_block]; exact hfc0_) | (show (Addr.add _ _).block ≠ _; rw [add_block]; exact hfc0_) | (dsimp only; exact hfc0_)) _).trans (((cell_far (p := ⟨gb122, _, none⟩) (by first | exact hfc0_ | (rw [add_block]; exact hfc0_) | (show (Addr.add _ _).block ≠ _; rw [add_block]; exact hfc0_) | (dsimp only; exact hfc0_)) _).trans (((cell_far (p := ⟨gb122, _, none⟩) (by first | exact hfc0_ | (rw [add_block]; exact hfc0_) | (show (Addr.add _ _).block ≠ _; rw [add_block]; exact hfc0_) | (dsimp only; exact hfc0_)) _).trans (((cell_far (p := ⟨gb122, _, none⟩) (by first | exact hfc0_ | (rw [add_block]; exact hfc0_) | (show (Addr.add _ _).block ≠ _; rw [add_block]; exact hfc0_) | (dsimp only; exact hfc0_)) _).trans (hHeld.2.1)))))))))))), ((cell_far (p := ⟨gb122, _, none⟩) (by first | exact hfc0_ | (rw [add_block]; exact hfc0_) | (show (Addr.add _ _).block ≠ _; rw [add_block]; exact hfc0_) | (dsimp only; exact hfc0_)) _).trans (((cell_far (p := ⟨gb122, _, none⟩) (by first | exact hfc0_ | (rw [add_block]; exact hfc0_) | (show (Addr.add _ _).block ≠ _; rw [add_block]; exact hfc0_) | (dsimp only; exact hfc0_)) _).trans (((cell_far (p := ⟨gb122, _, none⟩) (by first | exact hfc0_ | (rw [add_block]; exact hfc0_) | (show (Addr.add _ _).block ≠ _; rw [add_block]; exact hfc0_) | (dsimp only; exact hfc0_)) _).trans (((cell_far (p := ⟨gb122, _, none⟩) (by first | exact hfc0_ | (rw [add_block]; exact hfc0_) | (show (Addr.add _ _).block ≠ _; rw [add_block]; exact hfc0_) | (dsimp only; exact hfc0_)) _).trans (((cell_far (p := ⟨gb122, _, none⟩) (by first | exact hfc0_ | (rw [add_block]; exact hfc0_) | (show (Addr.add _ _).block ≠ _; rw [add_block]; exact hfc0_) | (dsimp only; exact hfc0_)) _).trans (((cell_far (p := ⟨gb122, _, none⟩) (by first | exact hfc0_ | (rw [add_block]; exact hfc0_) | (show (Addr.add _ _).block ≠ _; rw [add_block]; exact hfc0_) | (dsimp only; exact hfc0_)) _).trans (hHeld.2.2.1)))))))))))), ((cell_far (p := ⟨gb122, _, none⟩) (by first | exact hfc0_ | (rw [add_block]; exact hfc0_) | (show (Addr.add _ _).block ≠ _; rw [add_block]; exact hfc0_) | (dsimp only; exact hfc0_)) _).trans (((cell_far (p := ⟨gb122, _, none⟩) (by first | exact hfc0_ | (rw [add_block]; exact hfc0_) | (show (Addr.add _ _).block ≠ _; rw [add_block]; exact hfc0_) | (dsimp only; exact hfc0_)) _).trans (((cell_far (p := ⟨gb122, _, none⟩) (by first | exact hfc0_ | (rw [add_block]; exact hfc0_) | (show (Addr.add _ _).block ≠ _; rw [add_block]; exact hfc0_) | (dsimp only; exact hfc0_)) _).trans (((cell_far (p := ⟨gb122, _, none⟩) (by first | exact hfc0_ | (rw [add_block]; exact hfc0_) | (show (Addr.add _ _).block ≠ _; rw [add_block]; exact hfc0_) | (dsimp only; exact hfc0_)) _).trans (((cell_far (p := ⟨gb122, _, none⟩) (by first | exact hfc0_ | (rw [add_block]; exact hfc0_) | (show (Addr.add _ _).block ≠ _; rw [add_block]; exact hfc0_) | (dsimp only; exact hfc0_)) _).trans (((cell_far (p := ⟨gb122, _, none⟩) (by first | exact hfc0_ | (rw [add_block]; exact hfc0_) | (show (Addr.add _ _).block ≠ _; rw [add_block]; exact hfc0_) | (dsimp only; exact hfc0_)) _).trans (hHeld.2.2.2.1)))))))))))), ((cell_far (p := ⟨gb122, _, none⟩) (by first | exact Nat.ne_of_lt (Nat.lt_of_lt_of_le (by have := World.block_lt_of_cell? _ _ hw121_0; first | rwa [add_block] at this | exact this) GW122.out) | (rw [add_block]; exact Nat.ne_of_lt (Nat.lt_of_lt_of_le (by have := World.block_lt_of_cell? _ _ hw121_0; first | rwa [add_block] at this | exact this) GW122.out)) | (show (Addr.add _ _).block ≠ _; rw [add_block]; exact Nat.ne_of_lt (Nat.lt_of_lt_of_le (by have := World.block_lt_of_cell? _ _ hw121_0; first | rwa [add_block] at this | exact this) GW122.out)) | (dsimp only; exact Nat.ne_of_lt (Nat.lt_of_lt_of_le (by have := World.block_lt_of_cell? _ _ hw121_0; first | rwa [add_block] at this | exact this) GW122.out))) _).trans (((cell_far (p := ⟨gb122, _, none⟩) (by first | exact Nat.ne_of_lt (Nat.lt_of_lt_of_le (by have := World.block_lt_of_cell? _ _ hw121_0; first | rwa [add_block] at this | exact this) GW122.out) | (rw [add_block]; exact Nat.ne_of_lt (Nat.lt_of_lt_of_le (by have := World.block_lt_of_cell? _ _ hw121_0; first | rwa [add_block] at this | exact this) GW122.out)) | (show (Addr.add _ _).block ≠ _; rw [add_block]; exact Nat.ne_of_lt (Nat.lt_of_lt_of_le (by have := World.block_lt_of_cell? _ _ hw121_0; first | rwa [add_block] at this | exact this) GW122.out)) | (dsimp only; exact Nat.ne_of_lt (Nat.lt_of_lt_of_le (by have := World.block_lt_of_cell? _ _ hw121_0; first | rwa [add_block] at this | exact this) GW122.out))) _).trans (((cell_far (p := ⟨gb122, _, none⟩) (by first | exact Nat.ne_of_lt (Nat.lt_of_lt_of_le (by have := World.block_lt_of_cell? _ _ hw121_0; first | rwa [add_block] at this | exact this) GW122.out) | (rw [add_block]; exact Nat.ne_of_lt (Nat.lt_of_lt_of_le (by have := World.block_lt_of_cell? _ _ hw121_0; first | rwa [add_block] at this | exact this) GW122.out)) | (show (Addr.add _ _).block ≠ _; rw [add_block]; exact Nat.ne_of_lt (Nat.lt_of_lt_of_le (by have := World.block_lt_of_cell? _ _ hw121_0; first | rwa [add_block] at this | exact this) GW122.out)) | (dsimp only; exact Nat.ne_of_lt (Nat.lt_of_lt_of_le (by have := World.block_lt_of_cell? _ _ hw121_0; first | rwa [add_block] at this | exact this) GW122.out))) _).trans (((cell_far (p := ⟨gb122, _, none⟩) (by first | exact Nat.ne_of_lt (Nat.lt_of_lt_of_le (by have := World.block_lt_of_cell? _ _ hw121_0; first | rwa [add_block] at this | exact this) GW122.out) | (rw [add_block]; exact Nat.ne_of_lt (Nat.lt_of_lt_of_le (by have := World.block_lt_of_cell? _ _ hw121_0; first | rwa [add_block] at this | exact this) GW122.out)) | (show (Addr.add _ _).block ≠ _; rw [add_block]; exact Nat.ne_of_lt (Nat.lt_of_lt_of_le (by have := World.block_lt_of_cell? _ _ hw121_0; first | rwa [add_block] at this | exact this) GW122.out)) | (dsimp only; exact Nat.ne_of_lt (Nat.lt_of_lt_of_le (by have := World.block_lt_of_cell? _ _ hw121_0; first | rwa [add_block] at this | exact this) GW122.out))) _).trans (((cell_far (p := ⟨gb122, _, none⟩) (by first | exact Nat.ne_of_lt (Nat.lt_of_lt_of_le (by have := World.block_lt_of_cell? _ _ hw121_0; first | rwa [add_block] at this | exact this) GW122.out) | (rw [add_block]; exact Nat.ne_of_lt (Nat.lt_of_lt_of_le (by have := World.block_lt_of_cell? _ _ hw121_0; first | rwa [add_block] at this | exact this) GW122.out)) | (show (Addr.add _ _).block ≠ _; rw [add_block]; exact Nat.ne_of_lt (Nat.lt_of_lt_of_le (by have := World.block_lt_of_cell? _ _ hw121_0; first | rwa [add_block] at this | exact this) GW122.out)) | (dsimp only; exact Nat.ne_of_lt (Nat.lt_of_lt_of_le (by have := World.block_lt_of_cell? _ _ hw121_0; first | rwa [add_block] at this | exact this) GW122.out))) _).trans (((cell_far (p := ⟨gb122, _, none⟩) (by first | exact Nat.ne_of_lt (Nat.lt_of_lt_of_le (by have := World.block_lt_of_cell? _ _ hw121_0; first | rwa [add_block] at this | exact this) GW122.out) | (rw [add_block]; exact Nat.ne_of_lt (Nat.lt_of_lt_of_le (by have := World.block_lt_of_cell? _ _ hw121_0; first | rwa [add_block] at this | exact this) GW122.out)) | (show (Addr.add _ _).block ≠ _; rw [add_block]; exact Nat.ne_of_lt (Nat.lt_of_lt_of_le (by have := World.block_lt_of_cell? _ _ hw121_0; first | rwa [add_block] at this | exact this) GW122.out)) | (dsimp only; exact Nat.ne_of_lt (Nat.lt_of_lt_of_le (by have := World.block_lt_of_cell? _ _ hw121_0; first | rwa [add_block] at this | exact this) GW122.out))) _).trans (hHeld.2.2.2.2))))))))))))⟩ (fun hHeld => ?_)
                     clear hK K
                     refine done_ (done_of HT_.out (by kernel_rfl)) ?_
                     have hnb76 := NB122_101.out
                     have hnc76 := NB101_122.out
                     obtain ⟨hcz77_0, hcz77_1, hcz77_2, hcz77_3, hcz77_4, hcz77_5, hfz77_0, hfz77_1, hfz77_2, hfz77_3, hfz77_4, hfz77_5⟩ := cellsZ6 BK122.out
                     try go_wp2_with (first | ((with_reducible refine gate_callee (f := 34) rfl ?_); refine goesL_ (some 63) rfl rfl Try.func34 (by kernel_rfl) rfl #[.agg #[.int .i64 (rd x4_1 0), .int .i64 (rd x4_1 1), .int .i64 (rd x4_1 2), .int .i64 (rd x4_1 3), .slice A68 y118.length c68, .bool ((rd l0 0) == 1)]] rfl zee81 ?_; (with_reducible refine (impl_GoodAgg.calls k1 (rd x4_1 0) (rd x4_1 1) (rd x4_1 2) (rd x4_1 3) _ _ y118 ((rd l0 0) == 1) false _ ?side1 ?side2 A26.out).mono ?_); (case side1 => refine (Kd.Q_reads' (e := 3) (base := w.heap.size) (ok := fun k_ => True) (n := y118.length) (c := c68) ?_).2.2; exact (kZ (qF6 HO120.out BK122.out))); (case side2 => exact (Kd.Q_reads' HO120.out).2.1); rintro e w78 ⟨rfl, hb⟩; refine ⟨_, rfl, ?_⟩; have _ := aM (Kd.Q_below (kZ (qF6 HO120.out BK122.out)) hb); have _ := bB gb101 hb; have _ := aM (blk_below (g := gb122) (o := .cells #[.int .i64 (rd x4_1 0), .int .i64 (rd x4_1 1), .int .i64 (rd x4_1 2), .int .i64 (rd x4_1 3), .slice A68 y118.length c68, .bool ((rd l0 0) == 1)] 54 (0, 0)) bkZ hb); have _ := aM (below_step hbZ hb); clear HO120 BK101 BK122 HB; rename_i HO120 BK101 BK122 HB; (try clear hb); obtain ⟨hcz79_0, hcz79_1, hcz79_2, hcz79_3, hcz79_4, hcz79_5, hfz79_0, hfz79_1, hfz79_2, hfz79_3, hfz79_4, hfz79_5⟩ := cellsZ6 BK101.out))
                     refine bodyPost_ret (results_ct rfl _ _ gb101 54 #[.int .i64 0, .int .i64 0, .int .i64 0, .int .i64 0, .slice none 0 0, .bool false] (0, 0) _ rfl bkZ Try.underlying54 rfl (by kernel_rfl)) rfl ?_
                     exact ⟨_, z674d, Kd.Q_of_R z02fa, zcb41⟩
                 · rw [if_neg c25] at H
                   exact absurd H (by simp)
               · rw [if_neg c24] at H
                 exact absurd H (by simp)
             · rw [if_neg c23] at H
               exact absurd H (by simp)
           · rw [if_neg c22] at H
             exact absurd H (by simp)
         · rw [if_neg c21] at H
           exact absurd H (by simp)
       · rw [if_neg c20] at H
         exact absurd H (by simp)

end Go.Proofs.Ythliooccgclbjaa.P
