/- Part 4 of the walks and words that TD uses. No conditions of its own. -/
import Derived.Deep.LoopGhost
import Derived.Deep.QuietTactic
import Derived.BigQuiet
import Derived.Test.YtkgmoajdcibafaaDoorMTD3

/- Boards: the program's GoodBoard and the specification's answer alike at every board. -/
namespace Go.Proofs.YtkgmoajdcibafaaDoor.Lem
open Go Go.RowKit Go.Proofs.YtkgmoajdcibafaaDoor.P Go.Proofs.YtkgmoajdcibafaaDoorW.PrintWords Go.Proofs.YtkgmoajdcibafaaDoorW.PrintLast Go.Proofs.YtkgmoajdcibafaaDoorW.PrintMore

abbrev Wn := S37
theorem rdW_get {l : List Wn} {i : Nat} (h : i < l.length) : rd_T37 l (i : Int) = l[i] := by
  unfold rd_T37
  rw [Int.toNat_natCast, List.getD_eq_getElem?_getD, List.getElem?_eq_getElem h]
  rfl
def keyOf (w : Wn) : Bool := keyB w.f0.f0 w.f0.f1 w.f0.f2
theorem agg_both (w : Wn) {k : Nat} (hk : 20 < k) : ∃ b, spec_GoodAgg.f k w.f1.f0 w.f1.f1 w.f1.f2 w.f1.f3 w.f1.f4 w.f1.f5 = some b ∧ impl_GoodAgg.f k w.f1.f0 w.f1.f1 w.f1.f2 w.f1.f3 w.f1.f4 w.f1.f5 = some b := by
  have h1 := spec_goodAll ⟨w.f1.f0, w.f1.f1, w.f1.f2, w.f1.f3, w.f1.f4, w.f1.f5⟩ hk
  have h2 := impl_goodAll ⟨w.f1.f0, w.f1.f1, w.f1.f2, w.f1.f3, w.f1.f4, w.f1.f5⟩ hk
  by_cases g : Good ⟨w.f1.f0, w.f1.f1, w.f1.f2, w.f1.f3, w.f1.f4, w.f1.f5⟩
  · exact ⟨true, h1.1 g, h2.1 g⟩
  · exact ⟨false, h1.2 g, h2.2 g⟩
theorem board_l0 (sz ho ma : Int) (hs : 1 ≤ sz) (l : List Wn) (hl : l.length ≤ 40) : ∀ (d i k : Nat), i + d = l.length → 2 * d + 40 < k → (0 < i → keyOf (rd_T37 l ((i - 1 : Nat) : Int)) = true) →
    Both (spec_GoodBoard.l0 k l (l.length : Int) (i : Int) sz ho ma l) (impl_GoodBoard.l0 k l (l.length : Int) (i : Int) sz ho ma l) := by
  intro d
  induction d with
  | zero =>
    intro i k hi hk _
    obtain ⟨k, rfl⟩ : ∃ q, k = q + 1 := ⟨k - 1, by omega⟩
    exact .of true (by rw [spec_GoodBoard.l0, if_neg (by omega)]) (by rw [impl_GoodBoard.l0, if_neg (by omega)])
  | succ d ih =>
    intro i k hi hk hprev
    obtain ⟨k, rfl⟩ : ∃ q, k = q + 2 := ⟨k - 2, by omega⟩
    have hlt : i < l.length := by omega
    have e0 : rd_T37 l (i : Int) = l[i] := rdW_get hlt
    have ew : wrap64 ((i : Int) + 1) = ((i + 1 : Nat) : Int) := by rw [w64 (by omega) (by omega)]; omega
    -- what is behind the conditions
    have hj : ∀ (x : Bool), keyOf l[i] = true → Both (spec_GoodBoard.j2 (k + 1) (i : Int) l (l.length : Int) (i : Int) x sz ho ma l l[i].f0.f0 l[i].f0.f1 l[i].f0.f2 l[i].f1.f0 l[i].f1.f1 l[i].f1.f2 l[i].f1.f3 l[i].f1.f4 l[i].f1.f5 l[i].f2 l[i].f3)
        (impl_GoodBoard.j2 (k + 1) (i : Int) l (l.length : Int) (i : Int) x sz ho ma l l[i].f0.f0 l[i].f0.f1 l[i].f0.f2 l[i].f1.f0 l[i].f1.f1 l[i].f1.f2 l[i].f1.f3 l[i].f1.f4 l[i].f1.f5 l[i].f2 l[i].f3) := by
      intro x hx
      have hnext := ih (i + 1) k (by omega) (by omega) (fun _ => by rw [Nat.add_sub_cancel, e0]; exact hx)
      rw [spec_GoodBoard.j2, impl_GoodBoard.j2, ew]
      refine .ite (fun _ => .of false rfl rfl) (fun _ => .ite (fun h0 => ?_) (fun _ => hnext))
      have e3 : wrap64 ((i : Int) - 1) = ((i - 1 : Nat) : Int) := by rw [w64 (by omega) (by omega)]; omega
      have hp : keyOf (rd_T37 l ((i - 1 : Nat) : Int)) = true := hprev (by omega)
      rw [e3]
      exact .yes (by omega) (.yes (by omega) (.bind (specCompare_ok hp hx (by omega)) (implCompare_ok hp hx (by omega)) (.ite (fun _ => .of false rfl rfl) (fun _ => hnext))))
    have hjt : Both (spec_GoodBoard.j2 (k + 1) (i : Int) l (l.length : Int) (i : Int) true sz ho ma l l[i].f0.f0 l[i].f0.f1 l[i].f0.f2 l[i].f1.f0 l[i].f1.f1 l[i].f1.f2 l[i].f1.f3 l[i].f1.f4 l[i].f1.f5 l[i].f2 l[i].f3)
        (impl_GoodBoard.j2 (k + 1) (i : Int) l (l.length : Int) (i : Int) true sz ho ma l l[i].f0.f0 l[i].f0.f1 l[i].f0.f2 l[i].f1.f0 l[i].f1.f1 l[i].f1.f2 l[i].f1.f3 l[i].f1.f4 l[i].f1.f5 l[i].f2 l[i].f3) := .of false (by rw [spec_GoodBoard.j2, if_pos rfl]) (by rw [impl_GoodBoard.j2, if_pos rfl])
    obtain ⟨b, hb1, hb2⟩ := agg_both l[i] (k := k + 1) (by omega)
    rw [spec_GoodBoard.l0, impl_GoodBoard.l0, e0]
    refine .yes (by omega) (.yes (by omega) (.yes (by omega) (.bind (specKey_ok _ _ _ (by omega)) (implKey_ok _ _ _ (by omega)) (.ite (fun hk1 => ?_) (fun _ => hjt)))))
    exact .no (by omega) (.ite (fun _ => .bind hb1 hb2 (.ite (fun _ => .ite (fun _ => hjt) (fun _ => .bind (l1InB_ok _ _ _) (withinB_ok _ _ _) (.ite (fun _ => .ite (fun _ => hj _ hk1) (fun _ => hj _ hk1)) (fun _ => hjt)))) (fun _ => hjt))) (fun _ => hjt))

theorem isSize_ok (n : Int) : impl_isSize.f n = some (decide (1 ≤ n) && decide (n ≤ 100000)) := by unfold impl_isSize.f; rw [withinB_ok]; rfl
theorem isTime_ok (n : Int) : impl_isTime.f n = some (decide (0 ≤ n) && decide (n ≤ 1000000000)) := by unfold impl_isTime.f; rw [withinB_ok]; rfl
theorem l11Time_ok (n : Int) : spec_l11Time.f n = some (decide (0 ≤ n) && decide (n ≤ 1000000000)) := by unfold spec_l11Time.f; rw [l1InB_ok]; rfl
theorem board_both (sz ho ma : Int) (l : List Wn) {k : Nat} (hk : 200 < k) : Both (spec_GoodBoard.f k sz ho ma l) (impl_GoodBoard.f k sz ho ma l) := by
  obtain ⟨k, rfl⟩ : ∃ q, k = q + 1 := ⟨k - 1, by omega⟩
  have hjt : Both (spec_GoodBoard.j0 (k + 1) true sz ho ma l) (impl_GoodBoard.j0 (k + 1) true sz ho ma l) := .of false (by rw [spec_GoodBoard.j0, if_pos rfl]) (by rw [impl_GoodBoard.j0, if_pos rfl])
  unfold spec_GoodBoard.f impl_GoodBoard.f
  refine .bind (l1InB_ok _ _ _) (isSize_ok _) (.ite (fun e1 => .bind (l1InB_ok _ _ _) (withinB_ok _ _ _) (.ite (fun _ => .bind (l11Time_ok _) (isTime_ok _) (.ite (fun _ => ?_) (fun _ => hjt))) (fun _ => hjt))) (fun _ => hjt))
  rw [spec_GoodBoard.j0, impl_GoodBoard.j0]
  refine .ite (fun _ => .of false rfl rfl) (fun h => ?_)
  rw [decide_eq_true_eq] at h
  rw [Bool.and_eq_true] at e1
  exact board_l0 sz ho ma (of_decide_eq_true e1.1) l (by omega) l.length 0 k (by omega) (by omega) (fun h => absurd h (by omega))
end Go.Proofs.YtkgmoajdcibafaaDoor.Lem

-- written by a program of this session's (wip/pp)
namespace Go.Proofs.YtkgmoajdcibafaaDoor.P
open Go.RowKit Go.Proofs.YtkgmoajdcibafaaDoorW.PrintWords Go.Proofs.YtkgmoajdcibafaaDoorW.PrintLast Go.Proofs.YtkgmoajdcibafaaDoorW.PrintMore
attribute [local go_sem] max2_int min2_int max_two min_two max_three min_three max_four min_four str_geq str_gtr str_leq   -- for this text's walks alone
set_option linter.unusedVariables false
set_option linter.unusedSimpArgs false

/-! ### spec_l11OwnKey: function 63 -/
def spec_l11OwnKey.f (a0_0 : ByteArray) (l0_1 : List (S123)) (a0_2 : Int) : Option (ByteArray × (List (S123)) × Int) := (some (([] : List (S123)) : List (S123))).bind fun y103 => (if y103.length + l0_1.length < 4398046511104 then (some (a0_0, (y103 ++ l0_1), a0_2)) else (none))
set_option maxHeartbeats 8000000 in
set_option maxRecDepth 100000 in
theorem spec_l11OwnKey.calls (a0_0 : ByteArray) (A0_1 : Option Addr) (c0_1 : Nat) (l0_1 : List (S123)) (a0_2 : Int) (r1 : ByteArray) (r2 : List (S123)) (r3 : Int) (w : World) (hr0_1 : Kd.C k123 w A0_1 l0_1.length l0_1) (hc0_1 : l0_1.length ≤ c0_1) (h : spec_l11OwnKey.f a0_0 l0_1 a0_2 = some (r1, r2, r3)) :
 Calls Tryd.prog 63 #[.agg #[.string a0_0, .slice A0_1 l0_1.length c0_1, .int .i64 a0_2]] w fun e w' => ∃ v1_ : Value, e = .returned (.agg #[.string r1, v1_, .int .i64 r3]) ∧ Kd.R k123 123 w' w.heap.size (fun _ => True) v1_ r2 ∧ Below w.heap.size w w' := by
 have hu32 := Tryd.underlying32
 have HR0_1 := aM hr0_1
 have HC0_1 := aM hc0_1
 clear hr0_1 hc0_1
 have HB := aM (Below.refl w.heap.size w)
 have H : ((some (([] : List (S123)) : List (S123))).bind fun y103 => (if y103.length + l0_1.length < 4398046511104 then (some (a0_0, (y103 ++ l0_1), a0_2)) else (none))) = some (r1, r2, r3) := h
 clear h
 obtain ⟨y103, hy103⟩ : ∃ y_ : List (S123), y_ = (([] : List (S123))) := ⟨_, rfl⟩
 first | (replace H := bindS H; rw [← hy103] at H; try dsimp only at H) | rw [← hy103] at H
 have Ny103 := aM hy103
 clear hy103
 obtain ⟨LMc2, H⟩ := sM H
 obtain ⟨y106, hy106⟩ : ∃ y_ : List (S123), y_ = (y103 ++ l0_1) := ⟨_, rfl⟩
 first | (replace H := bindS H; rw [← hy106] at H; try dsimp only at H) | rw [← hy106] at H
 have Ny106 := aM hy106
 clear hy106
 simp only [Option.some.injEq, Prod.mk.injEq] at H
 obtain ⟨rfl, rfl, rfl⟩ := H
 go_enter Tryd.func63, Tryd.ntmps63
 go_wp2_with (first | ((with_reducible refine gate_dst (N := 1) rfl ?_); refine bX 1 32 #[.string a0_0, .slice A0_1 l0_1.length c0_1, .int .i64 a0_2] ?_; intro gb101 hg w3 hbox hb; have _ := aM (below_step hbZ hb); have _ := aM hbox; have _ := szZ hg; have _ := szZ hg; clear HB; rename_i HB BK101 GW101 GE101; clear hb hbox hg) | ((with_reducible refine gate_dst (N := 2) rfl ?_); refine bX 2 32 #[.string (⟨#[]⟩ : ByteArray), .slice none 0 0, .int .i64 0] ?_; intro gb102 hg w4 hbox hb; have _ := bB gb101 hb; have _ := aM (below_step hbZ hb); have _ := aM hbox; have _ := szZ hg; have _ := szZ hg; have ⟨_, _⟩ := nbB gb101 hg; clear BK101 HB; rename_i BK101 HB BK102 GW102 GE102 NB101_102 NB102_101; clear hb hbox hg) | ((with_reducible refine gate_dst (N := 3) rfl ?_); refine Kd.R_lit k123 _ 123 ?hg (N := 3) ?hd (xs := ([] : List (S123))) (inner := []) (ok := fun _ => True) (okp := fun _ => True) ?hr ?hp (fun _ hk => hk) trivial (Below.refl _ _) (Nat.le_refl _) (by simp) ?_; (case hd => rfl); (case hg => rfl); (case hr => first | (go_simp; done) | (go_simp; rfl)); (case hp => exact (Reps.none _ _)); intro v104 w5 ho6 hb hg_ hnew_; clear hg_ hnew_; (first | rw [← Ny103.out] at ho6 | (simp only [Int.reduceToNat] at ho6; rw [← Ny103.out] at ho6)); have _ := aM (Kd.R_lower ho6 (below_size hbZ)); have _ := bB gb101 hb; have _ := bB gb102 hb; have _ := aM (below_step hbZ hb); clear BK101 BK102 HB; rename_i HO105 BK101 BK102 HB; clear hb ho6; have hnb7 := NB101_102.out; have hnc7 := NB102_101.out; have hz8 := cellsZ3 BK101.out) | ((with_reducible refine gate_builtin (b := .append) (xs := #[.tmp 3, .tmp 5]) rfl ?_); at_builtin; refine Kd.R_append_rows k123 (w0 := w) w.heap.size rfl (.tmp 3) (.tmp 5) 30 123 (.agg #[(.string ⟨#[]⟩), (.string ⟨#[]⟩)]) 32 rfl Tryd.underlying30 info123 rfl (by decide) (by omega) v104 y103 l0_1 _ _ _ (fun _ => True) (fun _ => False) rfl rfl ?aO ?aR (fun _ _ h => h) (fun _ h => h.elim) ?aF ?aB ?aS ?aL ?_; (case aR => repeat (first | exact (Kd.C_below HR0_1.out HB.out) | (with_reducible refine Kd.C_alloc ?_ _) | (with_reducible refine Kd.C_drewN ?_ _) | (with_reducible refine Kd.C_drew ?_))); (case aB => exact hbZ); (case aF => exact (fun _ _ => trivial)); (case aO => exact (rZ HO105.out)); (case aS => exact (below_size hbZ)); (case aL => have := LMc2.out; omega); intro v107 w9 ho hb hg hat; rw [← Ny106.out] at ho; have _ := aM (blk_grown (g := gb101) bkZ hg (Kd.R_ne HO105.out BK101.out (by decide))); have _ := aM (blk_grown (g := gb102) bkZ hg (Kd.R_ne HO105.out BK102.out (by decide))); have _ := aM hb; have _ := aM ho; clear BK101 BK102 HB HO105; rename_i BK101 BK102 HB HO108; clear ho hb hg hat; obtain ⟨Ao10, co10, eo10⟩ := Kd.R_slice HO108.out; subst eo10; have hz11 := cellsZ3 BK101.out; have hz12 := cellsZ3 BK102.out))
 refine bodyPost_ret (results_cell_row rfl _ _ gb102 32 #[.string a0_0, .slice Ao10 y106.length co10, .int .i64 a0_2] (0, 0) _ rfl bkZ Tryd.underlying32 rfl (by kernel_rfl)) rfl ?_
 exact ⟨_, z674d, by (with_reducible repeat (first | apply Kd.R_alloc | apply Kd.R_drewN | apply Kd.R_drew)); exact Kd.R_mono (Kd.R_far (p := ⟨gb102, 2, none⟩) (Kd.R_far (p := ⟨gb102, 1, none⟩) (Kd.R_far (p := ⟨gb102, 0, none⟩) (Kd.R_far (p := ⟨gb101, 1, none⟩) (Kd.R_types (Kd.R_types HO108.out BK101.out (by decide)) BK102.out (by decide)) (fun _ hk => hk.1.2) (.slice Ao10 y106.length co10)) (fun _ hk => hk.2) (.string a0_0)) (fun _ hk => hk.2) (.slice Ao10 y106.length co10)) (fun _ hk => hk.2) (.int .i64 a0_2)) (fun _ hk => trivial), zcb41⟩
end Go.Proofs.YtkgmoajdcibafaaDoor.P

-- written by a program of this session's (wip/pp)
namespace Go.Proofs.YtkgmoajdcibafaaDoor.P
open Go.RowKit Go.Proofs.YtkgmoajdcibafaaDoorW.PrintWords Go.Proofs.YtkgmoajdcibafaaDoorW.PrintLast Go.Proofs.YtkgmoajdcibafaaDoorW.PrintMore
attribute [local go_sem] max2_int min2_int max_two min_two max_three min_three max_four min_four str_geq str_gtr str_leq   -- for this text's walks alone
set_option linter.unusedVariables false
set_option linter.unusedSimpArgs false

/-! ### spec_l4Own: function 79 -/
def spec_l4Own.f (a0_0 : Int) (a0_1 : Int) (a0_2 : Int) (a0_3 : Int) (l0_4 : List Int) (a0_5 : Bool) : Option (Int × Int × Int × Int × List Int × Bool) := (some (([] : List Int) : List Int)).bind fun y103 => (if y103.length + l0_4.length < 17592186044416 then (some (a0_0, a0_1, a0_2, a0_3, (y103 ++ l0_4), a0_5)) else (none))
set_option maxHeartbeats 8000000 in
set_option maxRecDepth 100000 in
theorem spec_l4Own.calls (a0_0 : Int) (a0_1 : Int) (a0_2 : Int) (a0_3 : Int) (A0_4 : Option Addr) (c0_4 : Nat) (l0_4 : List Int) (a0_5 : Bool) (r1 : Int) (r2 : Int) (r3 : Int) (r4 : Int) (r5 : List Int) (r6 : Bool) (w : World) (hr0_4 : Kd.C (Kd.int .i64) w A0_4 l0_4.length l0_4) (hc0_4 : l0_4.length ≤ c0_4) (h : spec_l4Own.f a0_0 a0_1 a0_2 a0_3 l0_4 a0_5 = some (r1, r2, r3, r4, r5, r6)) :
 Calls Tryd.prog 79 #[.agg #[.int .i64 a0_0, .int .i64 a0_1, .int .i64 a0_2, .int .i64 a0_3, .slice A0_4 l0_4.length c0_4, .bool a0_5]] w fun e w' => ∃ v4_ : Value, e = .returned (.agg #[.int .i64 r1, .int .i64 r2, .int .i64 r3, .int .i64 r4, v4_, .bool r6]) ∧ Kd.R (Kd.int .i64) 3 w' w.heap.size (fun _ => True) v4_ r5 ∧ Below w.heap.size w w' := by
 have hu35 := Tryd.underlying35
 have HR0_4 := aM hr0_4
 have HC0_4 := aM hc0_4
 clear hr0_4 hc0_4
 have HB := aM (Below.refl w.heap.size w)
 have H : ((some (([] : List Int) : List Int)).bind fun y103 => (if y103.length + l0_4.length < 17592186044416 then (some (a0_0, a0_1, a0_2, a0_3, (y103 ++ l0_4), a0_5)) else (none))) = some (r1, r2, r3, r4, r5, r6) := h
 clear h
 obtain ⟨y103, hy103⟩ : ∃ y_ : List Int, y_ = (([] : List Int)) := ⟨_, rfl⟩
 first | (replace H := bindS H; rw [← hy103] at H; try dsimp only at H) | rw [← hy103] at H
 have Ny103 := aM hy103
 clear hy103
 obtain ⟨LMc2, H⟩ := sM H
 obtain ⟨y106, hy106⟩ : ∃ y_ : List Int, y_ = (y103 ++ l0_4) := ⟨_, rfl⟩
 first | (replace H := bindS H; rw [← hy106] at H; try dsimp only at H) | rw [← hy106] at H
 have Ny106 := aM hy106
 clear hy106
 simp only [Option.some.injEq, Prod.mk.injEq] at H
 obtain ⟨rfl, rfl, rfl, rfl, rfl, rfl⟩ := H
 go_enter Tryd.func79, Tryd.ntmps79
 go_wp2_with (first | ((with_reducible refine gate_dst (N := 1) rfl ?_); refine bX 1 35 #[.int .i64 a0_0, .int .i64 a0_1, .int .i64 a0_2, .int .i64 a0_3, .slice A0_4 l0_4.length c0_4, .bool a0_5] ?_; intro gb101 hg w3 hbox hb; have _ := aM (below_step hbZ hb); have _ := aM hbox; have _ := szZ hg; have _ := szZ hg; clear HB; rename_i HB BK101 GW101 GE101; clear hb hbox hg) | ((with_reducible refine gate_dst (N := 2) rfl ?_); refine bX 2 35 #[.int .i64 0, .int .i64 0, .int .i64 0, .int .i64 0, .slice none 0 0, .bool false] ?_; intro gb102 hg w4 hbox hb; have _ := bB gb101 hb; have _ := aM (below_step hbZ hb); have _ := aM hbox; have _ := szZ hg; have _ := szZ hg; have ⟨_, _⟩ := nbB gb101 hg; clear BK101 HB; rename_i BK101 HB BK102 GW102 GE102 NB101_102 NB102_101; clear hb hbox hg) | ((with_reducible refine gate_dst (N := 3) rfl ?_); refine Kd.R_lit (Kd.int .i64) _ 3 ?hg (N := 3) ?hd (xs := ([] : List Int)) (inner := []) (ok := fun _ => True) (okp := fun _ => True) ?hr ?hp (fun _ hk => hk) trivial (Below.refl _ _) (Nat.le_refl _) (by simp) ?_; (case hd => rfl); (case hg => rfl); (case hr => first | (go_simp; done) | (go_simp; rfl)); (case hp => exact (Reps.none _ _)); intro v104 w5 ho6 hb hg_ hnew_; clear hg_ hnew_; (first | rw [← Ny103.out] at ho6 | (simp only [Int.reduceToNat] at ho6; rw [← Ny103.out] at ho6)); have _ := aM (Kd.R_lower ho6 (below_size hbZ)); have _ := bB gb101 hb; have _ := bB gb102 hb; have _ := aM (below_step hbZ hb); clear BK101 BK102 HB; rename_i HO105 BK101 BK102 HB; clear hb ho6; have hnb7 := NB101_102.out; have hnc7 := NB102_101.out; have hz8 := cellsZ6 BK101.out) | ((with_reducible refine gate_builtin (b := .append) (xs := #[.tmp 3, .tmp 5]) rfl ?_); at_builtin; refine Kd.R_append_rows (Kd.int .i64) (w0 := w) w.heap.size rfl (.tmp 3) (.tmp 5) 33 3 (.int .i64 0) 8 rfl Tryd.underlying33 info3 rfl (by decide) (by omega) v104 y103 l0_4 _ _ _ (fun _ => True) (fun _ => False) rfl rfl ?aO ?aR (fun _ _ h => h) (fun _ h => h.elim) ?aF ?aB ?aS ?aL ?_; (case aR => repeat (first | exact (Kd.C_below HR0_4.out HB.out) | (with_reducible refine Kd.C_alloc ?_ _) | (with_reducible refine Kd.C_drewN ?_ _) | (with_reducible refine Kd.C_drew ?_))); (case aB => exact hbZ); (case aF => exact (fun _ _ => trivial)); (case aO => exact (rZ HO105.out)); (case aS => exact (below_size hbZ)); (case aL => have := LMc2.out; omega); intro v107 w9 ho hb hg hat; rw [← Ny106.out] at ho; have _ := aM (blk_grown (g := gb101) bkZ hg (Kd.R_ne HO105.out BK101.out (by decide))); have _ := aM (blk_grown (g := gb102) bkZ hg (Kd.R_ne HO105.out BK102.out (by decide))); have _ := aM hb; have _ := aM ho; clear BK101 BK102 HB HO105; rename_i BK101 BK102 HB HO108; clear ho hb hg hat; obtain ⟨Ao10, co10, eo10⟩ := Kd.R_slice HO108.out; subst eo10; have hz11 := cellsZ6 BK101.out; have hz12 := cellsZ6 BK102.out))
 refine bodyPost_ret (results_cell_row rfl _ _ gb102 35 #[.int .i64 a0_0, .int .i64 a0_1, .int .i64 a0_2, .int .i64 a0_3, .slice Ao10 y106.length co10, .bool a0_5] (0, 0) _ rfl bkZ Tryd.underlying35 rfl (by kernel_rfl)) rfl ?_
 exact ⟨_, z674d, by (with_reducible repeat (first | apply Kd.R_alloc | apply Kd.R_drewN | apply Kd.R_drew)); exact Kd.R_mono (Kd.R_far (p := ⟨gb102, 5, none⟩) (Kd.R_far (p := ⟨gb102, 4, none⟩) (Kd.R_far (p := ⟨gb102, 3, none⟩) (Kd.R_far (p := ⟨gb102, 2, none⟩) (Kd.R_far (p := ⟨gb102, 1, none⟩) (Kd.R_far (p := ⟨gb102, 0, none⟩) (Kd.R_far (p := ⟨gb101, 4, none⟩) (Kd.R_types (Kd.R_types HO108.out BK101.out (by decide)) BK102.out (by decide)) (fun _ hk => hk.1.2) (.slice Ao10 y106.length co10)) (fun _ hk => hk.2) (.int .i64 a0_0)) (fun _ hk => hk.2) (.int .i64 a0_1)) (fun _ hk => hk.2) (.int .i64 a0_2)) (fun _ hk => hk.2) (.int .i64 a0_3)) (fun _ hk => hk.2) (.slice Ao10 y106.length co10)) (fun _ hk => hk.2) (.bool a0_5)) (fun _ hk => trivial), zcb41⟩
end Go.Proofs.YtkgmoajdcibafaaDoor.P

-- written by a program of this session's (wip/pp)
namespace Go.Proofs.YtkgmoajdcibafaaDoor.P
open Go.RowKit Go.Proofs.YtkgmoajdcibafaaDoorW.PrintWords Go.Proofs.YtkgmoajdcibafaaDoorW.PrintLast Go.Proofs.YtkgmoajdcibafaaDoorW.PrintMore
attribute [local go_sem] max2_int min2_int max_two min_two max_three min_three max_four min_four str_geq str_gtr str_leq   -- for this text's walks alone
set_option linter.unusedVariables false
set_option linter.unusedSimpArgs false

/-! ### spec_l11Own: function 43 -/
def spec_l11Own.l0 : Nat → List (S37) → List (S37) → Int → Int → Int → Int → Int → List (S37) → Option (Int × Int × Int × (List (S37)))
 | 0, _, _, _, _, _, _, _, _ => none
 | k + 1, x3, x7, x8, x9, x102000, x102001, x102002, x102003 => if x9 < x8 then (if 0 ≤ x9 then (if x9 < (x7.length : Int) then ((spec_l11OwnKey.f ((rd_T37 x7 x9).f0.f0) ((rd_T37 x7 x9).f0.f1) ((rd_T37 x7 x9).f0.f2)).bind fun bt105 => ((spec_l4Own.f ((rd_T37 x7 x9).f1.f0) ((rd_T37 x7 x9).f1.f1) ((rd_T37 x7 x9).f1.f2) ((rd_T37 x7 x9).f1.f3) ((rd_T37 x7 x9).f1.f4) ((rd_T37 x7 x9).f1.f5)).bind fun bt110 => (if x3.length < 1099511627776 then (spec_l11Own.l0 k (x3 ++ [(⟨(⟨bt105.1, bt105.2.1, bt105.2.2⟩ : S32), (⟨bt110.1, bt110.2.1, bt110.2.2.1, bt110.2.2.2.1, bt110.2.2.2.2.1, bt110.2.2.2.2.2⟩ : S35), (rd_T37 x7 x9).f2, (rd_T37 x7 x9).f3⟩ : S37)]) x7 x8 (wrap64 (x9 + 1)) x102000 x102001 x102002 x102003) else (none)))) else (none)) else (none)) else (some (x102000, x102001, x102002, x3))
def spec_l11Own.f (k : Nat) (a0_0 : Int) (a0_1 : Int) (a0_2 : Int) (l0_3 : List (S37)) : Option (Int × Int × Int × (List (S37))) := spec_l11Own.l0 k ([] : List (S37)) l0_3 (l0_3.length : Int) 0 a0_0 a0_1 a0_2 l0_3
theorem spec_l11Own.mono_l : ∀ k, (∀ y0 y1 y2 y3 y4 y5 y6 y7, LeO (spec_l11Own.l0 k y0 y1 y2 y3 y4 y5 y6 y7) (spec_l11Own.l0 (k + 1) y0 y1 y2 y3 y4 y5 y6 y7))
 | 0 => fun _ _ _ _ _ _ _ _ r h => by simp [spec_l11Own.l0] at h
 | k + 1 => by
  have ih0 := spec_l11Own.mono_l k
  · intro y0 y1 y2 y3 y4 y5 y6 y7
    unfold spec_l11Own.l0
    exact moZ
theorem spec_l11Own.mono : ∀ a0 a1 a2 a3 k, LeO (spec_l11Own.f k a0 a1 a2 a3) (spec_l11Own.f (k + 1) a0 a1 a2 a3) := by
 intro a0 a1 a2 a3 k
 have ih0 := spec_l11Own.mono_l k
 unfold spec_l11Own.f
 exact moZ
set_option maxHeartbeats 8000000 in
set_option maxRecDepth 100000 in
theorem spec_l11Own.calls (k : Nat) (a0_0 : Int) (a0_1 : Int) (a0_2 : Int) (A0_3 : Option Addr) (c0_3 : Nat) (l0_3 : List (S37)) (r1 : Int) (r2 : Int) (r3 : Int) (r4 : List (S37)) (w : World) (hr0_3 : Kd.C k37 w A0_3 l0_3.length l0_3) (hc0_3 : l0_3.length ≤ c0_3) (h : spec_l11Own.f k a0_0 a0_1 a0_2 l0_3 = some (r1, r2, r3, r4)) :
 Calls Tryd.prog 43 #[.agg #[.int .i64 a0_0, .int .i64 a0_1, .int .i64 a0_2, .slice A0_3 l0_3.length c0_3]] w fun e w' => ∃ v3_ : Value, e = .returned (.agg #[.int .i64 r1, .int .i64 r2, .int .i64 r3, v3_]) ∧ Kd.S k37 37 w' w.heap.size (fun _ => True) v3_ r4 ∧ Below w.heap.size w w' := by
 have hu42 := Tryd.underlying42
 have hu37 := Tryd.underlying37
 have hu32 := Tryd.underlying32
 have hu35 := Tryd.underlying35
 have HR0_3 := aM hr0_3
 have HC0_3 := aM hc0_3
 clear hr0_3 hc0_3
 have HB := aM (Below.refl w.heap.size w)
 have H : (spec_l11Own.l0 k ([] : List (S37)) l0_3 (l0_3.length : Int) 0 a0_0 a0_1 a0_2 l0_3) = some (r1, r2, r3, r4) := h
 clear h
 have H' := aM H
 clear H
 go_enter Tryd.func43, Tryd.ntmps43
 go_wp2_with (first | ((with_reducible refine gate_dst (N := 1) rfl ?_); refine bX 1 42 #[.int .i64 a0_0, .int .i64 a0_1, .int .i64 a0_2, .slice A0_3 l0_3.length c0_3] ?_; intro gb101 hg w2 hbox hb; have _ := aM (below_step hbZ hb); have _ := aM hbox; have _ := szZ hg; have _ := szZ hg; clear HB; rename_i HB BK101 GW101 GE101; clear hb hbox hg) | ((with_reducible refine gate_dst (N := 2) rfl ?_); refine bX 2 42 #[.int .i64 0, .int .i64 0, .int .i64 0, .slice none 0 0] ?_; intro gb102 hg w3 hbox hb; have _ := bB gb101 hb; have _ := aM (below_step hbZ hb); have _ := aM hbox; have _ := szZ hg; have _ := szZ hg; have ⟨_, _⟩ := nbB gb101 hg; clear BK101 HB; rename_i BK101 HB BK102 GW102 GE102 NB101_102 NB102_101; clear hb hbox hg; have hnb4 := NB101_102.out; have hnc4 := NB102_101.out; have hz5 := cellsZ4 BK101.out))
 go_loopg [3, 9] k (fun kq v3 v9 w' => ∃ (x3_1 : List (S37)) (x9_1 : Int), v9 = .int .i64 x9_1 ∧ Aside0 (spec_l11Own.l0 kq x3_1 l0_3 (l0_3.length : Int) x9_1 a0_0 a0_1 a0_2 l0_3 = some (r1, r2, r3, r4)) ∧ Aside0 (kq ≤ k) ∧ Aside0 (Kd.S k37 37 w' w.heap.size (fun _ => True) v3 x3_1) ∧ Aside0 (w'.heap[gb101]? = some (.cells #[.int .i64 a0_0, .int .i64 a0_1, .int .i64 a0_2, (.slice A0_3 l0_3.length c0_3)] 42 (0, 0))) ∧ Aside0 (w'.heap[gb102]? = some (.cells #[.int .i64 0, .int .i64 0, .int .i64 0, (.slice none 0 0)] 42 (0, 0))) ∧ Aside0 (Below w.heap.size w w'))
 case atStart => exact ⟨(([] : List (S37))), (0), z4458, H', ⟨Nat.le_refl _⟩, ⟨z2bfb⟩, ⟨bkZ⟩, ⟨bkZ⟩, ⟨zcb41⟩⟩
 case round =>
  clear H'
  (try clear hz5)
  obtain ⟨x3_1, x9_1, rfl, HA, HK1, HO_3, BK101, BK102, HB⟩ := hrel
  cases gk with
  | zero => exact absurd HA.out (by simp [spec_l11Own.l0])
  | succ k1 =>
   have H := HA.out
   clear HA
   simp only [spec_l11Own.l0] at H
   by_cases c6 : x9_1 < (l0_3.length : Int)
   · rw [if_pos c6] at H
     have c6b0 := dL c6
     clear c6
     obtain ⟨c7b0, H⟩ := sE H
     obtain ⟨c8b0, H⟩ := sL H
     obtain ⟨⟨t105, t106, t109⟩, A9, H⟩ := bS H; try dsimp only at H
     obtain ⟨⟨t110, t111, t112, t113, t114, t117⟩, A10, H⟩ := bS H; try dsimp only at H
     obtain ⟨LMc11, H⟩ := sM H
     obtain ⟨y118, hy118⟩ : ∃ y_ : List (S37), y_ = (x3_1 ++ [(⟨(⟨t105, t106, t109⟩ : S32), (⟨t110, t111, t112, t113, t114, t117⟩ : S35), (rd_T37 l0_3 x9_1).f2, (rd_T37 l0_3 x9_1).f3⟩ : S37)]) := ⟨_, rfl⟩
     first | (replace H := bindS H; rw [← hy118] at H; try dsimp only at H) | rw [← hy118] at H
     have Ny118 := aM hy118
     clear hy118
     have H' := aM H
     clear H
     have p103 : 0 ≤ (x9_1 : Int) := of_decide_eq_true z1200
     have q103 : x9_1 < (l0_3.length : Int) := of_decide_eq_true z1200
     obtain ⟨ad103, A103_1, c103_1, A103_7, c103_7, e103, hx103_0, hx103_1, hx103_2, hx103_3, hx103_4, hx103_5, hx103_6, hx103_7, hx103_8, hx103_9, hx103_10, hl103_1, hi103_1, hl103_7, hi103_7⟩ := at_T37 HR0_3.out x9_1 p103 q103
     cases e103
     have TW103_1 := aM hx103_1
     have TW103_7 := aM hx103_7
     replace hx103_0 := (HB.out.cell (World.block_lt_of_cell? w _ hx103_0)).trans hx103_0
     replace hx103_1 := (HB.out.cell (World.block_lt_of_cell? w _ hx103_1)).trans hx103_1
     replace hx103_2 := (HB.out.cell (World.block_lt_of_cell? w _ hx103_2)).trans hx103_2
     replace hx103_3 := (HB.out.cell (World.block_lt_of_cell? w _ hx103_3)).trans hx103_3
     replace hx103_4 := (HB.out.cell (World.block_lt_of_cell? w _ hx103_4)).trans hx103_4
     replace hx103_5 := (HB.out.cell (World.block_lt_of_cell? w _ hx103_5)).trans hx103_5
     replace hx103_6 := (HB.out.cell (World.block_lt_of_cell? w _ hx103_6)).trans hx103_6
     replace hx103_7 := (HB.out.cell (World.block_lt_of_cell? w _ hx103_7)).trans hx103_7
     replace hx103_8 := (HB.out.cell (World.block_lt_of_cell? w _ hx103_8)).trans hx103_8
     replace hx103_9 := (HB.out.cell (World.block_lt_of_cell? w _ hx103_9)).trans hx103_9
     replace hx103_10 := (HB.out.cell (World.block_lt_of_cell? w _ hx103_10)).trans hx103_10
     have HR103_1 := aM hi103_1
     have HC103_1 := aM hl103_1
     clear hi103_1 hl103_1
     have HR103_7 := aM hi103_7
     have HC103_7 := aM hl103_7
     clear hi103_7 hl103_7
     replace p103 := eq_true p103
     replace q103 := eq_true q103
     go_wp2_with (first | ((with_reducible refine gate_dst (N := 5) rfl ?_); refine bX 5 37 #[.string (⟨#[]⟩ : ByteArray), .slice none 0 0, .int .i64 0, .int .i64 0, .int .i64 0, .int .i64 0, .int .i64 0, .slice none 0 0, .bool false, .int .i64 0, .bool false] ?_; intro gb104 hg w12 hbox hb; have _ := aM (Kd.S_below (Kd.S_elderB zd74a gb104 (Nat.le_of_eq hg.symm)) hb); have _ := bB gb101 hb; have _ := bB gb102 hb; have _ := aM (below_step hbZ hb); have _ := aM hbox; have _ := szZ hg; have _ := szZ hg; have ⟨_, _⟩ := nbB gb101 hg; have ⟨_, _⟩ := nbB gb102 hg; clear HO_3 BK101 BK102 HB; rename_i HO_3 BK101 BK102 HB BK104 GW104 GE104 NB101_104 NB104_101 NB102_104 NB104_102; clear hb hbox hg; have hnb13 := NB104_101.out; have hnc13 := NB101_104.out; have hnb14 := NB104_102.out; have hnc14 := NB102_104.out; have hz15 := cellsZ11 BK104.out) | ((with_reducible refine gate_callee (f := 63) rfl ?_); refine gL 15 Tryd.func63 #[.agg #[.string ((rd_T37 l0_3 x9_1).f0.f0), .slice A103_1 ((rd_T37 l0_3 x9_1).f0.f1).length c103_1, .int .i64 ((rd_T37 l0_3 x9_1).f0.f2)]] ?_; (with_reducible refine (spec_l11OwnKey.calls ((rd_T37 l0_3 x9_1).f0.f0) _ _ ((rd_T37 l0_3 x9_1).f0.f1) ((rd_T37 l0_3 x9_1).f0.f2) t105 t106 t109 _ ?side1 ?side2 A9.out).mono ?_); (case side1 => exact Kd.C_below HR103_1.out hbZ); (case side2 => exact HC103_1.out); rintro e w16 ⟨v107, rfl, ho0, hb⟩; refine ⟨_, rfl, ?_⟩; have _ := aM (Kd.S_elder' (by (with_reducible repeat (first | apply Kd.S_alloc | apply Kd.S_drewN | apply Kd.S_drew)); exact (Kd.S_mono (Kd.S_far (p := ⟨gb104, 10, none⟩) (Kd.S_far (p := ⟨gb104, 9, none⟩) (Kd.S_far (p := ⟨gb104, 8, none⟩) (Kd.S_far (p := ⟨gb104, 7, none⟩) (Kd.S_far (p := ⟨gb104, 6, none⟩) (Kd.S_far (p := ⟨gb104, 5, none⟩) (Kd.S_far (p := ⟨gb104, 4, none⟩) (Kd.S_far (p := ⟨gb104, 3, none⟩) (Kd.S_far (p := ⟨gb104, 2, none⟩) (Kd.S_far (p := ⟨gb104, 1, none⟩) (Kd.S_far (p := ⟨gb104, 0, none⟩) (Kd.S_mono HO_3.out (fun k_ hk => (⟨hk, hk.2⟩ : _ ∧ k_ ≠ gb104))) (fun _ hk => hk.2) (.string ((rd_T37 l0_3 x9_1).f0.f0))) (fun _ hk => hk.2) (.slice A103_1 ((rd_T37 l0_3 x9_1).f0.f1).length c103_1)) (fun _ hk => hk.2) (.int .i64 ((rd_T37 l0_3 x9_1).f0.f2))) (fun _ hk => hk.2) (.int .i64 ((rd_T37 l0_3 x9_1).f1.f0))) (fun _ hk => hk.2) (.int .i64 ((rd_T37 l0_3 x9_1).f1.f1))) (fun _ hk => hk.2) (.int .i64 ((rd_T37 l0_3 x9_1).f1.f2))) (fun _ hk => hk.2) (.int .i64 ((rd_T37 l0_3 x9_1).f1.f3))) (fun _ hk => hk.2) (.slice A103_7 ((rd_T37 l0_3 x9_1).f1.f4).length c103_7)) (fun _ hk => hk.2) (.bool ((rd_T37 l0_3 x9_1).f1.f5))) (fun _ hk => hk.2) (.int .i64 ((rd_T37 l0_3 x9_1).f2))) (fun _ hk => hk.2) (.bool ((rd_T37 l0_3 x9_1).f3))) (fun _ h_ => h_.1))) (Kd.R_base ho0) hb); have _ := aM (Kd.R_lower ho0 (below_size hbZ)); have _ := bB gb101 hb; have _ := bB gb102 hb; have _ := aM (blk_below (g := gb104) (o := .cells #[.string ((rd_T37 l0_3 x9_1).f0.f0), .slice A103_1 ((rd_T37 l0_3 x9_1).f0.f1).length c103_1, .int .i64 ((rd_T37 l0_3 x9_1).f0.f2), .int .i64 ((rd_T37 l0_3 x9_1).f1.f0), .int .i64 ((rd_T37 l0_3 x9_1).f1.f1), .int .i64 ((rd_T37 l0_3 x9_1).f1.f2), .int .i64 ((rd_T37 l0_3 x9_1).f1.f3), .slice A103_7 ((rd_T37 l0_3 x9_1).f1.f4).length c103_7, .bool ((rd_T37 l0_3 x9_1).f1.f5), .int .i64 ((rd_T37 l0_3 x9_1).f2), .bool ((rd_T37 l0_3 x9_1).f3)] 37 (0, 0)) bkZ hb); have _ := aM (below_step hbZ hb); clear HO_3 BK101 BK102 BK104 HB; rename_i HO_3 HO108 BK101 BK102 BK104 HB; (try clear hb); (try clear ho0); have hz17 := cellsZ11 BK104.out; obtain ⟨Ao18, co18, eo18⟩ := Kd.R_slice HO108.out; subst eo18) | ((with_reducible refine gate_callee (f := 79) rfl ?_); refine gL 19 Tryd.func79 #[.agg #[.int .i64 ((rd_T37 l0_3 x9_1).f1.f0), .int .i64 ((rd_T37 l0_3 x9_1).f1.f1), .int .i64 ((rd_T37 l0_3 x9_1).f1.f2), .int .i64 ((rd_T37 l0_3 x9_1).f1.f3), .slice A103_7 ((rd_T37 l0_3 x9_1).f1.f4).length c103_7, .bool ((rd_T37 l0_3 x9_1).f1.f5)]] ?_; (with_reducible refine (spec_l4Own.calls ((rd_T37 l0_3 x9_1).f1.f0) ((rd_T37 l0_3 x9_1).f1.f1) ((rd_T37 l0_3 x9_1).f1.f2) ((rd_T37 l0_3 x9_1).f1.f3) _ _ ((rd_T37 l0_3 x9_1).f1.f4) ((rd_T37 l0_3 x9_1).f1.f5) t110 t111 t112 t113 t114 t117 _ ?side1 ?side2 A10.out).mono ?_); (case side1 => exact Kd.C_below HR103_7.out hbZ); (case side2 => exact HC103_7.out); rintro e w19 ⟨v115, rfl, ho0, hb⟩; refine ⟨_, rfl, ?_⟩; have _ := aM (Kd.S_elder' (by (with_reducible repeat (first | apply Kd.S_alloc | apply Kd.S_drewN | apply Kd.S_drew)); exact (Kd.S_mono (Kd.S_far (p := ⟨gb104, 2, none⟩) (Kd.S_far (p := ⟨gb104, 1, none⟩) (Kd.S_far (p := ⟨gb104, 0, none⟩) (Kd.S_mono HO_3.out (fun k_ hk => (⟨hk, hk.1.2⟩ : _ ∧ k_ ≠ gb104))) (fun _ hk => hk.2) (.string t105)) (fun _ hk => hk.2) (.slice Ao18 t106.length co18)) (fun _ hk => hk.2) (.int .i64 t109)) (fun _ h_ => h_.1))) (Kd.R_base ho0) hb); have _ := aM (Kd.R_below (rZ (rF3 HO108.out BK104.out)) hb); have _ := aM (Kd.R_lower ho0 (below_size hbZ)); have _ := bB gb101 hb; have _ := bB gb102 hb; have _ := aM (blk_below (g := gb104) (o := .cells #[.string t105, .slice Ao18 t106.length co18, .int .i64 t109, .int .i64 ((rd_T37 l0_3 x9_1).f1.f0), .int .i64 ((rd_T37 l0_3 x9_1).f1.f1), .int .i64 ((rd_T37 l0_3 x9_1).f1.f2), .int .i64 ((rd_T37 l0_3 x9_1).f1.f3), .slice A103_7 ((rd_T37 l0_3 x9_1).f1.f4).length c103_7, .bool ((rd_T37 l0_3 x9_1).f1.f5), .int .i64 ((rd_T37 l0_3 x9_1).f2), .bool ((rd_T37 l0_3 x9_1).f3)] 37 (0, 0)) bkZ hb); have _ := aM (below_step hbZ hb); clear HO_3 HO108 BK101 BK102 BK104 HB; rename_i HO_3 HO108 HO116 BK101 BK102 BK104 HB; (try clear hb); (try clear ho0); have hz20 := cellsZ11 BK104.out; obtain ⟨Ao21, co21, eo21⟩ := Kd.R_slice HO116.out; subst eo21) | ((with_reducible refine gate_store (t := 35) (p := 20) rfl ?_); refine store_event (t := 35) (p := 20) (v := ?vo_w22) (w1 := ((((((w19.setCell ⟨gb104, 3, none⟩ (.int .i64 t110)).setCell ⟨gb104, 4, none⟩ (.int .i64 t111)).setCell ⟨gb104, 5, none⟩ (.int .i64 t112)).setCell ⟨gb104, 6, none⟩ (.int .i64 t113)).setCell ⟨gb104, 7, none⟩ (.slice Ao21 t114.length co21)).setCell ⟨gb104, 8, none⟩ (.bool t117))) ?hg ?ho ?hn ?hr ?_; (case ho => rfl); (case hg => rfl); (case hn => rfl); (case hr => first | (go_simp; done) | (go_simp; rfl)); intro w22 hw; have _ : Aside0 (Kd.S k37 37 w22 w.heap.size (fun k_ => some k_ ≠ (.slice Ao18 t106.length co18 : Value).ownBlock ∧ some k_ ≠ (.slice Ao21 t114.length co21 : Value).ownBlock ∧ k_ ≠ gb104) u3 x3_1) := ⟨(by rw [hw]; exact (by (with_reducible repeat (first | apply Kd.S_alloc | apply Kd.S_drewN | apply Kd.S_drew)); exact Kd.S_mono (Kd.S_far (p := ⟨gb104, 8, none⟩) (Kd.S_far (p := ⟨gb104, 7, none⟩) (Kd.S_far (p := ⟨gb104, 6, none⟩) (Kd.S_far (p := ⟨gb104, 5, none⟩) (Kd.S_far (p := ⟨gb104, 4, none⟩) (Kd.S_far (p := ⟨gb104, 3, none⟩) (Kd.S_mono HO_3.out (fun k_ hk => (⟨hk, hk.1.1.2⟩ : _ ∧ k_ ≠ gb104))) (fun _ hk => hk.2) (.int .i64 t110)) (fun _ hk => hk.2) (.int .i64 t111)) (fun _ hk => hk.2) (.int .i64 t112)) (fun _ hk => hk.2) (.int .i64 t113)) (fun _ hk => hk.2) (.slice Ao21 t114.length co21)) (fun _ hk => hk.2) (.bool t117)) (fun _ hk => ⟨hk.1.1.2, ⟨hk.1.2, hk.1.1.1.2⟩⟩)))⟩; have _ : Aside0 (Kd.R k123 123 w22 w.heap.size (fun _ => True) (.slice Ao18 t106.length co18) t106) := ⟨(by rw [hw]; exact (by (with_reducible repeat (first | apply Kd.R_alloc | apply Kd.R_drewN | apply Kd.R_drew)); exact Kd.R_mono (Kd.R_far (p := ⟨gb104, 8, none⟩) (Kd.R_far (p := ⟨gb104, 7, none⟩) (Kd.R_far (p := ⟨gb104, 6, none⟩) (Kd.R_far (p := ⟨gb104, 5, none⟩) (Kd.R_far (p := ⟨gb104, 4, none⟩) (Kd.R_far (p := ⟨gb104, 3, none⟩) (Kd.R_types HO108.out BK104.out (by decide)) (fun _ hk => hk.2) (.int .i64 t110)) (fun _ hk => hk.2) (.int .i64 t111)) (fun _ hk => hk.2) (.int .i64 t112)) (fun _ hk => hk.2) (.int .i64 t113)) (fun _ hk => hk.2) (.slice Ao21 t114.length co21)) (fun _ hk => hk.2) (.bool t117)) (fun _ hk => trivial)))⟩; have _ : Aside0 (Kd.R (Kd.int .i64) 3 w22 w.heap.size (fun _ => True) (.slice Ao21 t114.length co21) t114) := ⟨(by rw [hw]; exact (by (with_reducible repeat (first | apply Kd.R_alloc | apply Kd.R_drewN | apply Kd.R_drew)); exact Kd.R_mono (Kd.R_far (p := ⟨gb104, 8, none⟩) (Kd.R_far (p := ⟨gb104, 7, none⟩) (Kd.R_far (p := ⟨gb104, 6, none⟩) (Kd.R_far (p := ⟨gb104, 5, none⟩) (Kd.R_far (p := ⟨gb104, 4, none⟩) (Kd.R_far (p := ⟨gb104, 3, none⟩) (Kd.R_types HO116.out BK104.out (by decide)) (fun _ hk => hk.2) (.int .i64 t110)) (fun _ hk => hk.2) (.int .i64 t111)) (fun _ hk => hk.2) (.int .i64 t112)) (fun _ hk => hk.2) (.int .i64 t113)) (fun _ hk => hk.2) (.slice Ao21 t114.length co21)) (fun _ hk => hk.2) (.bool t117)) (fun _ hk => trivial)))⟩; have _ : Aside0 (w22.heap[gb101]? = some (.cells #[.int .i64 a0_0, .int .i64 a0_1, .int .i64 a0_2, .slice (some ad103) l0_3.length c0_3] 42 (0, 0))) := ⟨(by rw [hw]; exact bkZ)⟩; have _ : Aside0 (w22.heap[gb102]? = some (.cells #[.int .i64 0, .int .i64 0, .int .i64 0, .slice none 0 0] 42 (0, 0))) := ⟨(by rw [hw]; exact bkZ)⟩; have _ : Aside0 (w22.heap[gb104]? = some (.cells #[.string t105, .slice Ao18 t106.length co18, .int .i64 t109, .int .i64 t110, .int .i64 t111, .int .i64 t112, .int .i64 t113, .slice Ao21 t114.length co21, .bool t117, .int .i64 ((rd_T37 l0_3 x9_1).f2), .bool ((rd_T37 l0_3 x9_1).f3)] 37 (0, 0))) := ⟨(by rw [hw]; exact bkZ)⟩; have _ : Aside0 (Below w.heap.size w w22) := ⟨(by rw [hw]; exact hbZ)⟩; clear hw HO_3 HO108 HO116 BK101 BK102 BK104 HB; rename_i HO_3 HO108 HO116 BK101 BK102 BK104 HB; have hz23 := cellsZ11 BK104.out) | ((with_reducible refine gate_builtin (b := .append) (xs := #[.tmp 21, .tmp 23]) rfl ?_); at_builtin; refine Kd.S_append k37 (w0 := w) w.heap.size rfl (.tmp 21) (.tmp 23) 40 37 (.agg #[(.string ⟨#[]⟩), (.slice none 0 0), (.int .i64 0), (.int .i64 0), (.int .i64 0), (.int .i64 0), (.int .i64 0), (.slice none 0 0), (.bool false), (.int .i64 0), (.bool false)]) 128 rfl Tryd.underlying40 info37 rfl (by decide) (by omega) u3 x3_1 (⟨(⟨t105, t106, t109⟩ : S32), (⟨t110, t111, t112, t113, t114, t117⟩ : S35), (rd_T37 l0_3 x9_1).f2, (rd_T37 l0_3 x9_1).f3⟩ : S37) [.string t105, .slice Ao18 t106.length co18, .int .i64 t109, .int .i64 t110, .int .i64 t111, .int .i64 t112, .int .i64 t113, .slice Ao21 t114.length co21, .bool t117, .int .i64 ((rd_T37 l0_3 x9_1).f2), .bool ((rd_T37 l0_3 x9_1).f3)] (fun k_ => k_ ≠ gb104) (fun k_ => some k_ = (.slice Ao18 t106.length co18 : Value).ownBlock ∨ some k_ = (.slice Ao21 t114.length co21 : Value).ownBlock) rfl rfl ?aP (fun k_ hk_ => hk_.elim (fun h_ => ((Kd.R_mono (ok' := fun k_ => ((fun k_ => k_ ≠ gb104)) k_ ∧ some k_ ≠ (u3 : Value).ownBlock) (Kd.R_types (Kd.R_apart' (HO108.out) (Kd.S_typed HO_3.out) (by decide)) BK104.out (by decide)) (fun k_ hk => ⟨hk.2, hk.1.2⟩))).1 k_ h_.symm) (fun h_ => ((Kd.R_mono (ok' := fun k_ => ((fun k_ => k_ ≠ gb104)) k_ ∧ some k_ ≠ (u3 : Value).ownBlock) (Kd.R_types (Kd.R_apart' (HO116.out) (Kd.S_typed HO_3.out) (by decide)) BK104.out (by decide)) (fun k_ hk => ⟨hk.2, hk.1.2⟩))).1 k_ h_.symm)) ?aF ?aO ?aB ?aS ?aL ?_; (case aP => exact k37_mkM _ _ _ (⟨(⟨t105, t106, t109⟩ : S32), (⟨t110, t111, t112, t113, t114, t117⟩ : S35), (rd_T37 l0_3 x9_1).f2, (rd_T37 l0_3 x9_1).f3⟩ : S37) (Kd.R_mono (Kd.R_tight rfl (Kd.R_mono (ok' := fun k_ => ((fun k_ => k_ ≠ gb104)) k_ ∧ some k_ ≠ (u3 : Value).ownBlock) (Kd.R_types (Kd.R_apart' (HO108.out) (Kd.S_typed HO_3.out) (by decide)) BK104.out (by decide)) (fun k_ hk => ⟨hk.2, hk.1.2⟩))) (fun _ h_ => Or.inl h_)) (Kd.R_mono (Kd.R_tight rfl (Kd.R_mono (ok' := fun k_ => ((fun k_ => k_ ≠ gb104)) k_ ∧ some k_ ≠ (u3 : Value).ownBlock) (Kd.R_types (Kd.R_apart' (HO116.out) (Kd.S_typed HO_3.out) (by decide)) BK104.out (by decide)) (fun k_ hk => ⟨hk.2, hk.1.2⟩))) (fun _ h_ => Or.inr (h_)))); (case aB => exact hbZ); (case aF => exact (fun k_ hk => Kd.freshB (g := gb104) bkZ k_ hk)); (case aO => exact (by (with_reducible repeat (first | apply Kd.S_alloc | apply Kd.S_drewN | apply Kd.S_drew)); exact Kd.S_mono HO_3.out (fun k_ hk => ⟨hk.2.2, fun e_ => e_.elim (fun h_ => hk.1 h_) (fun h_ => hk.2.1 h_)⟩))); (case aS => exact (below_size hbZ)); (case aL => have := LMc11.out; omega); intro v119 w24 ho hb hg hat; rw [← Ny118.out] at ho; have _ := aM (blk_grown (g := gb101) bkZ hg (Kd.S_ne HO_3.out BK101.out (by decide))); have _ := aM (blk_grown (g := gb102) bkZ hg (Kd.S_ne HO_3.out BK102.out (by decide))); have _ := aM (blk_grown (g := gb104) bkZ hg (Kd.S_away HO_3.out (fun _ hk => hk.2.2))); have _ := aM hb; have _ := aM ho; clear BK101 BK102 BK104 HB HO_3 HO108 HO116; rename_i BK101 BK102 BK104 HB HO120; clear ho hb hg hat))
     go_roundg k1
     case measure => have := HK1.out; omega
     case rel => exact ⟨(y118), (wrap64 (x9_1 + 1)), z4458, H', ⟨zfb39⟩, ⟨by (with_reducible repeat (first | apply Kd.S_alloc | apply Kd.S_drewN | apply Kd.S_drew)); exact Kd.S_mono HO120.out (fun _ hk => trivial)⟩, ⟨bkZ⟩, ⟨bkZ⟩, ⟨zcb41⟩⟩
   · rw [if_neg c6] at H
     have c6b0 := nL c6
     clear c6
     simp only [Option.some.injEq, Prod.mk.injEq] at H
     obtain ⟨rfl, rfl, rfl, rfl⟩ := H
     obtain ⟨Ao25, co25, eo25⟩ := Kd.S_slice HO_3.out
     subst eo25
     have hnb26 := NB101_102.out
     have hnc26 := NB102_101.out
     have hz27 := cellsZ4 BK101.out
     have hz28 := cellsZ4 BK102.out
     go_wp2
     refine bodyPost_ret (results_cell_row rfl _ _ gb102 42 #[.int .i64 a0_0, .int .i64 a0_1, .int .i64 a0_2, .slice Ao25 x3_1.length co25] (0, 0) _ rfl bkZ Tryd.underlying42 rfl (by kernel_rfl)) rfl ?_
     exact ⟨_, z674d, by (with_reducible repeat (first | apply Kd.S_alloc | apply Kd.S_drewN | apply Kd.S_drew)); exact Kd.S_mono (Kd.S_far (p := ⟨gb102, 3, none⟩) (Kd.S_far (p := ⟨gb102, 2, none⟩) (Kd.S_far (p := ⟨gb102, 1, none⟩) (Kd.S_far (p := ⟨gb102, 0, none⟩) (Kd.S_far (p := ⟨gb101, 3, none⟩) (Kd.S_types (Kd.S_types HO_3.out BK101.out (by decide)) BK102.out (by decide)) (fun _ hk => hk.1.2) (.slice Ao25 x3_1.length co25)) (fun _ hk => hk.2) (.int .i64 a0_0)) (fun _ hk => hk.2) (.int .i64 a0_1)) (fun _ hk => hk.2) (.int .i64 a0_2)) (fun _ hk => hk.2) (.slice Ao25 x3_1.length co25)) (fun _ hk => trivial), zcb41⟩

end Go.Proofs.YtkgmoajdcibafaaDoor.P

-- written by a program of this session's (wip/pp)
namespace Go.Proofs.YtkgmoajdcibafaaDoor.P
open Go.RowKit Go.Proofs.YtkgmoajdcibafaaDoorW.PrintWords Go.Proofs.YtkgmoajdcibafaaDoorW.PrintLast Go.Proofs.YtkgmoajdcibafaaDoorW.PrintMore
attribute [local go_sem] max2_int min2_int max_two min_two max_three min_three max_four min_four str_geq str_gtr str_leq   -- for this text's walks alone
set_option linter.unusedVariables false
set_option linter.unusedSimpArgs false

/-! ### impl_Tag_101: function 101 -/
def impl_Tag_101.f (l0 : List (S123)) : Option ((List (S123))) := (some (([] : List (S123)) : List (S123))).bind fun y101 => (if y101.length + l0.length < 4398046511104 then (some (y101 ++ l0)) else (none))
set_option maxHeartbeats 8000000 in
set_option maxRecDepth 100000 in
theorem impl_Tag_101.callsN (A0 : Option Addr) (c0 : Nat) (l0 : List (S123)) (r : List (S123)) (w : World) (hr0 : Kd.C k123 w A0 l0.length l0) (hc0 : l0.length ≤ c0) (hn0 : A0 ≠ none) (h : impl_Tag_101.f l0 = some r) :
 Calls Tryd.prog 101 #[.slice A0 l0.length c0] w fun e w' => ∃ v0_ : Value, e = .returned (v0_) ∧ Kd.R k123 123 w' w.heap.size (fun _ => True) v0_ r ∧ Below w.heap.size w w' := by
 have HR0 := aM hr0
 have HC0 := aM hc0
 clear hr0 hc0
 have HB := aM (Below.refl w.heap.size w)
 have H : ((some (([] : List (S123)) : List (S123))).bind fun y101 => (if y101.length + l0.length < 4398046511104 then (some (y101 ++ l0)) else (none))) = some r := h
 clear h
 have hnil_ : ∀ W_ : World, (Go.binOp .eql 30 (.slice A0 l0.length c0) (.slice none 0 0)).run Tryd.prog W_ = .ok (.bool false) W_ := fun W_ => by have hz_ : A0.isNone = false := (by cases A0 with | none => exact absurd rfl hn0 | some _ => rfl); have hy_ := Go.Lib.run_eql_slice_nil (P := Tryd.prog) W_ 30 123 A0 l0.length c0 0 0 Tryd.underlying30; rw [hz_] at hy_; exact hy_
 obtain ⟨y101, hy101⟩ : ∃ y_ : List (S123), y_ = (([] : List (S123))) := ⟨_, rfl⟩
 first | (replace H := bindS H; rw [← hy101] at H; try dsimp only at H) | rw [← hy101] at H
 have Ny101 := aM hy101
 clear hy101
 obtain ⟨LMc2, H⟩ := sM H
 obtain ⟨y104, hy104⟩ : ∃ y_ : List (S123), y_ = (y101 ++ l0) := ⟨_, rfl⟩
 first | (replace H := bindS H; rw [← hy104] at H; try dsimp only at H) | rw [← hy104] at H
 have Ny104 := aM hy104
 clear hy104
 obtain rfl := Option.some.inj H
 go_enter Tryd.func101, Tryd.ntmps101
 go_wp2_with (first | ((with_reducible refine gate_dst (N := 5) rfl ?_); refine Kd.R_lit k123 _ 123 ?hg (N := 5) ?hd (xs := ([] : List (S123))) (inner := []) (ok := fun _ => True) (okp := fun _ => True) ?hr ?hp (fun _ hk => hk) trivial (Below.refl _ _) (Nat.le_refl _) (by simp) ?_; (case hd => rfl); (case hg => rfl); (case hr => first | (go_simp; done) | (go_simp; rfl)); (case hp => exact (Reps.none _ _)); intro v102 w3 ho4 hb hg_ hnew_; clear hg_ hnew_; (first | rw [← Ny101.out] at ho4 | (simp only [Int.reduceToNat] at ho4; rw [← Ny101.out] at ho4)); have _ := aM (Kd.R_lower ho4 (below_size hbZ)); have _ := aM (below_step hbZ hb); clear HB; rename_i HO103 HB; clear hb ho4) | ((with_reducible refine gate_builtin (b := .append) (xs := #[.tmp 5, .tmp 6]) rfl ?_); at_builtin; refine Kd.R_append_rows k123 (w0 := w) w.heap.size rfl (.tmp 5) (.tmp 6) 30 123 (.agg #[(.string ⟨#[]⟩), (.string ⟨#[]⟩)]) 32 rfl Tryd.underlying30 info123 rfl (by decide) (by omega) v102 y101 l0 _ _ _ (fun _ => True) (fun _ => False) rfl rfl ?aO ?aR (fun _ _ h => h) (fun _ h => h.elim) ?aF ?aB ?aS ?aL ?_; (case aR => repeat (first | exact (Kd.C_below HR0.out HB.out) | (with_reducible refine Kd.C_alloc ?_ _) | (with_reducible refine Kd.C_drewN ?_ _) | (with_reducible refine Kd.C_drew ?_))); (case aB => exact hbZ); (case aF => exact (fun _ _ => trivial)); (case aO => exact (rZ HO103.out)); (case aS => exact (below_size hbZ)); (case aL => have := LMc2.out; omega); intro v105 w5 ho hb hg hat; rw [← Ny104.out] at ho; have _ := aM hb; have _ := aM ho; clear HB HO103; rename_i HB HO106; clear ho hb hg hat))
 go_ret
 exact ⟨_, z674d, rZ HO106.out, z5acd⟩
set_option maxHeartbeats 400000 in
theorem impl_Tag_101.calls (A0 : Option Addr) (c0 : Nat) (l0 : List (S123)) (r : List (S123)) (w : World) (hr0 : Kd.C k123 w A0 l0.length l0) (hc0 : l0.length ≤ c0) (h : impl_Tag_101.f l0 = some r) :
 Calls Tryd.prog 101 #[.slice A0 l0.length c0] w fun e w' => ∃ v0_ : Value, e = .returned (v0_) ∧ Kd.R k123 123 w' w.heap.size (fun _ => True) v0_ r ∧ Below w.heap.size w w' := by
 by_cases hA_ : A0 = none
 · subst hA_
   have hl_ : l0 = [] := by
    rcases Nat.eq_zero_or_pos l0.length with hz | hz
    · exact List.eq_nil_of_length_eq_zero hz
    · obtain ⟨ad, e, _⟩ := hr0.2.2 hz; cases e
   subst hl_
   have hr_ : r = [] := by
    have h2 := h
    simp [impl_Tag_101.f] at h2
    first | exact h2 | exact h2.symm
   subst hr_
   have hnil_ := fun W_ : World => Go.Lib.run_eql_slice_nil (P := Tryd.prog) W_ 30 123 none 0 c0 0 0 Tryd.underlying30
   go_enter Tryd.func101, Tryd.ntmps101
   go_wp2
   go_ret
   exact ⟨_, rfl, Kd.R_nil _ _ _ _ _, Below.refl _ _⟩
 · exact impl_Tag_101.callsN A0 c0 l0 r w hr0 hc0 hA_ h

end Go.Proofs.YtkgmoajdcibafaaDoor.P

-- written by a program of this session's (wip/pp)
namespace Go.Proofs.YtkgmoajdcibafaaDoor.P
open Go.RowKit Go.Proofs.YtkgmoajdcibafaaDoorW.PrintWords Go.Proofs.YtkgmoajdcibafaaDoorW.PrintLast Go.Proofs.YtkgmoajdcibafaaDoorW.PrintMore
attribute [local go_sem] max2_int min2_int max_two min_two max_three min_three max_four min_four str_geq str_gtr str_leq   -- for this text's walks alone
set_option linter.unusedVariables false
set_option linter.unusedSimpArgs false

/-! ### impl_Key_cloned: function 68 -/
def impl_Key_cloned.f (a0_0 : ByteArray) (l0_1 : List (S123)) (a0_2 : Int) : Option (ByteArray × (List (S123)) × Int) := (impl_Tag_101.f l0_1).bind fun t103 => (some (a0_0, t103, a0_2))
set_option maxHeartbeats 8000000 in
set_option maxRecDepth 100000 in
theorem impl_Key_cloned.calls (a0_0 : ByteArray) (A0_1 : Option Addr) (c0_1 : Nat) (l0_1 : List (S123)) (a0_2 : Int) (r1 : ByteArray) (r2 : List (S123)) (r3 : Int) (w : World) (hr0_1 : Kd.C k123 w A0_1 l0_1.length l0_1) (hc0_1 : l0_1.length ≤ c0_1) (h : impl_Key_cloned.f a0_0 l0_1 a0_2 = some (r1, r2, r3)) :
 Calls Tryd.prog 68 #[.agg #[.string a0_0, .slice A0_1 l0_1.length c0_1, .int .i64 a0_2]] w fun e w' => ∃ v1_ : Value, e = .returned (.agg #[.string r1, v1_, .int .i64 r3]) ∧ Kd.R k123 123 w' w.heap.size (fun _ => True) v1_ r2 ∧ Below w.heap.size w w' := by
 have hu32 := Tryd.underlying32
 have HR0_1 := aM hr0_1
 have HC0_1 := aM hc0_1
 clear hr0_1 hc0_1
 have HB := aM (Below.refl w.heap.size w)
 have H : ((impl_Tag_101.f l0_1).bind fun t103 => (some (a0_0, t103, a0_2))) = some (r1, r2, r3) := h
 clear h
 obtain ⟨t103, A2, H⟩ := bS H; try dsimp only at H
 simp only [Option.some.injEq, Prod.mk.injEq] at H
 obtain ⟨rfl, rfl, rfl⟩ := H
 go_enter Tryd.func68, Tryd.ntmps68
 go_wp2_with (first | ((with_reducible refine gate_dst (N := 1) rfl ?_); refine bX 1 32 #[.string a0_0, .slice A0_1 l0_1.length c0_1, .int .i64 a0_2] ?_; intro gb101 hg w3 hbox hb; have _ := aM (below_step hbZ hb); have _ := aM hbox; have _ := szZ hg; have _ := szZ hg; clear HB; rename_i HB BK101 GW101 GE101; clear hb hbox hg) | ((with_reducible refine gate_dst (N := 2) rfl ?_); refine bX 2 32 #[.string (⟨#[]⟩ : ByteArray), .slice none 0 0, .int .i64 0] ?_; intro gb102 hg w4 hbox hb; have _ := bB gb101 hb; have _ := aM (below_step hbZ hb); have _ := aM hbox; have _ := szZ hg; have _ := szZ hg; have ⟨_, _⟩ := nbB gb101 hg; clear BK101 HB; rename_i BK101 HB BK102 GW102 GE102 NB101_102 NB102_101; clear hb hbox hg; have hnb5 := NB101_102.out; have hnc5 := NB102_101.out; have hz6 := cellsZ3 BK101.out) | ((with_reducible refine gate_callee (f := 101) rfl ?_); refine gL 5 Tryd.func101 #[.slice A0_1 l0_1.length c0_1] ?_; (with_reducible refine (impl_Tag_101.calls _ _ l0_1 t103 _ ?side1 ?side2 A2.out).mono ?_); (case side1 => exact (cZ (Kd.C_below HR0_1.out HB.out))); (case side2 => exact HC0_1.out); rintro e w7 ⟨v104, rfl, ho0, hb⟩; refine ⟨_, rfl, ?_⟩; have _ := aM (Kd.R_lower ho0 (below_size hbZ)); have _ := bB gb101 hb; have _ := bB gb102 hb; have _ := aM (below_step hbZ hb); clear BK101 BK102 HB; rename_i HO105 BK101 BK102 HB; (try clear hb); (try clear ho0); obtain ⟨Ao8, co8, eo8⟩ := Kd.R_slice HO105.out; subst eo8; have hz9 := cellsZ3 BK101.out; have hz10 := cellsZ3 BK102.out))
 refine bodyPost_ret (results_cell_row rfl _ _ gb102 32 #[.string a0_0, .slice Ao8 t103.length co8, .int .i64 a0_2] (0, 0) _ rfl bkZ Tryd.underlying32 rfl (by kernel_rfl)) rfl ?_
 exact ⟨_, z674d, by (with_reducible repeat (first | apply Kd.R_alloc | apply Kd.R_drewN | apply Kd.R_drew)); exact Kd.R_mono (Kd.R_far (p := ⟨gb102, 2, none⟩) (Kd.R_far (p := ⟨gb102, 1, none⟩) (Kd.R_far (p := ⟨gb102, 0, none⟩) (Kd.R_far (p := ⟨gb101, 1, none⟩) (Kd.R_types (Kd.R_types HO105.out BK101.out (by decide)) BK102.out (by decide)) (fun _ hk => hk.1.2) (.slice Ao8 t103.length co8)) (fun _ hk => hk.2) (.string a0_0)) (fun _ hk => hk.2) (.slice Ao8 t103.length co8)) (fun _ hk => hk.2) (.int .i64 a0_2)) (fun _ hk => trivial), zcb41⟩

end Go.Proofs.YtkgmoajdcibafaaDoor.P

-- written by a program of this session's (wip/pp)
namespace Go.Proofs.YtkgmoajdcibafaaDoor.P
open Go.RowKit Go.Proofs.YtkgmoajdcibafaaDoorW.PrintWords Go.Proofs.YtkgmoajdcibafaaDoorW.PrintLast Go.Proofs.YtkgmoajdcibafaaDoorW.PrintMore
attribute [local go_sem] max2_int min2_int max_two min_two max_three min_three max_four min_four str_geq str_gtr str_leq   -- for this text's walks alone
set_option linter.unusedVariables false
set_option linter.unusedSimpArgs false

/-! ### slices_Clone_int_int: function 69 -/
def slices_Clone_int_int.f (l0 : List Int) : Option (List Int) := (some (([] : List Int) : List Int)).bind fun y101 => (if y101.length + l0.length < 17592186044416 then (some (y101 ++ l0)) else (none))
set_option maxHeartbeats 8000000 in
set_option maxRecDepth 100000 in
theorem slices_Clone_int_int.callsN (A0 : Option Addr) (c0 : Nat) (l0 : List Int) (r : List Int) (w : World) (hr0 : Kd.C (Kd.int .i64) w A0 l0.length l0) (hc0 : l0.length ≤ c0) (hn0 : A0 ≠ none) (h : slices_Clone_int_int.f l0 = some r) :
 Calls Tryd.prog 69 #[.slice A0 l0.length c0] w fun e w' => ∃ v0_ : Value, e = .returned (v0_) ∧ Kd.R (Kd.int .i64) 3 w' w.heap.size (fun _ => True) v0_ r ∧ Below w.heap.size w w' := by
 have HR0 := aM hr0
 have HC0 := aM hc0
 clear hr0 hc0
 have HB := aM (Below.refl w.heap.size w)
 have H : ((some (([] : List Int) : List Int)).bind fun y101 => (if y101.length + l0.length < 17592186044416 then (some (y101 ++ l0)) else (none))) = some r := h
 clear h
 have hnil_ : ∀ W_ : World, (Go.binOp .eql 33 (.slice A0 l0.length c0) (.slice none 0 0)).run Tryd.prog W_ = .ok (.bool false) W_ := fun W_ => by have hz_ : A0.isNone = false := (by cases A0 with | none => exact absurd rfl hn0 | some _ => rfl); have hy_ := Go.Lib.run_eql_slice_nil (P := Tryd.prog) W_ 33 3 A0 l0.length c0 0 0 Tryd.underlying33; rw [hz_] at hy_; exact hy_
 obtain ⟨y101, hy101⟩ : ∃ y_ : List Int, y_ = (([] : List Int)) := ⟨_, rfl⟩
 first | (replace H := bindS H; rw [← hy101] at H; try dsimp only at H) | rw [← hy101] at H
 have Ny101 := aM hy101
 clear hy101
 obtain ⟨LMc2, H⟩ := sM H
 obtain ⟨y104, hy104⟩ : ∃ y_ : List Int, y_ = (y101 ++ l0) := ⟨_, rfl⟩
 first | (replace H := bindS H; rw [← hy104] at H; try dsimp only at H) | rw [← hy104] at H
 have Ny104 := aM hy104
 clear hy104
 obtain rfl := Option.some.inj H
 go_enter Tryd.func69, Tryd.ntmps69
 go_wp2_with (first | ((with_reducible refine gate_dst (N := 5) rfl ?_); refine Kd.R_lit (Kd.int .i64) _ 3 ?hg (N := 5) ?hd (xs := ([] : List Int)) (inner := []) (ok := fun _ => True) (okp := fun _ => True) ?hr ?hp (fun _ hk => hk) trivial (Below.refl _ _) (Nat.le_refl _) (by simp) ?_; (case hd => rfl); (case hg => rfl); (case hr => first | (go_simp; done) | (go_simp; rfl)); (case hp => exact (Reps.none _ _)); intro v102 w3 ho4 hb hg_ hnew_; clear hg_ hnew_; (first | rw [← Ny101.out] at ho4 | (simp only [Int.reduceToNat] at ho4; rw [← Ny101.out] at ho4)); have _ := aM (Kd.R_lower ho4 (below_size hbZ)); have _ := aM (below_step hbZ hb); clear HB; rename_i HO103 HB; clear hb ho4) | ((with_reducible refine gate_builtin (b := .append) (xs := #[.tmp 5, .tmp 6]) rfl ?_); at_builtin; refine Kd.R_append_rows (Kd.int .i64) (w0 := w) w.heap.size rfl (.tmp 5) (.tmp 6) 33 3 (.int .i64 0) 8 rfl Tryd.underlying33 info3 rfl (by decide) (by omega) v102 y101 l0 _ _ _ (fun _ => True) (fun _ => False) rfl rfl ?aO ?aR (fun _ _ h => h) (fun _ h => h.elim) ?aF ?aB ?aS ?aL ?_; (case aR => repeat (first | exact (Kd.C_below HR0.out HB.out) | (with_reducible refine Kd.C_alloc ?_ _) | (with_reducible refine Kd.C_drewN ?_ _) | (with_reducible refine Kd.C_drew ?_))); (case aB => exact hbZ); (case aF => exact (fun _ _ => trivial)); (case aO => exact (rZ HO103.out)); (case aS => exact (below_size hbZ)); (case aL => have := LMc2.out; omega); intro v105 w5 ho hb hg hat; rw [← Ny104.out] at ho; have _ := aM hb; have _ := aM ho; clear HB HO103; rename_i HB HO106; clear ho hb hg hat))
 go_ret
 exact ⟨_, z674d, rZ HO106.out, z5acd⟩
set_option maxHeartbeats 400000 in
theorem slices_Clone_int_int.calls (A0 : Option Addr) (c0 : Nat) (l0 : List Int) (r : List Int) (w : World) (hr0 : Kd.C (Kd.int .i64) w A0 l0.length l0) (hc0 : l0.length ≤ c0) (h : slices_Clone_int_int.f l0 = some r) :
 Calls Tryd.prog 69 #[.slice A0 l0.length c0] w fun e w' => ∃ v0_ : Value, e = .returned (v0_) ∧ Kd.R (Kd.int .i64) 3 w' w.heap.size (fun _ => True) v0_ r ∧ Below w.heap.size w w' := by
 by_cases hA_ : A0 = none
 · subst hA_
   have hl_ : l0 = [] := by
    rcases Nat.eq_zero_or_pos l0.length with hz | hz
    · exact List.eq_nil_of_length_eq_zero hz
    · obtain ⟨ad, e, _⟩ := hr0.2.2 hz; cases e
   subst hl_
   have hr_ : r = [] := by
    have h2 := h
    simp [slices_Clone_int_int.f] at h2
    first | exact h2 | exact h2.symm
   subst hr_
   have hnil_ := fun W_ : World => Go.Lib.run_eql_slice_nil (P := Tryd.prog) W_ 33 3 none 0 c0 0 0 Tryd.underlying33
   go_enter Tryd.func69, Tryd.ntmps69
   go_wp2
   go_ret
   exact ⟨_, rfl, Kd.R_nil _ _ _ _ _, Below.refl _ _⟩
 · exact slices_Clone_int_int.callsN A0 c0 l0 r w hr0 hc0 hA_ h

end Go.Proofs.YtkgmoajdcibafaaDoor.P

-- written by a program of this session's (wip/pp)
namespace Go.Proofs.YtkgmoajdcibafaaDoor.P
open Go.RowKit Go.Proofs.YtkgmoajdcibafaaDoorW.PrintWords Go.Proofs.YtkgmoajdcibafaaDoorW.PrintLast Go.Proofs.YtkgmoajdcibafaaDoorW.PrintMore
attribute [local go_sem] max2_int min2_int max_two min_two max_three min_three max_four min_four str_geq str_gtr str_leq   -- for this text's walks alone
set_option linter.unusedVariables false
set_option linter.unusedSimpArgs false

/-! ### impl_Win_cloned: function 49 -/
def impl_Win_cloned.f (a0_0 : ByteArray) (l0_1 : List (S123)) (a0_2 : Int) (a0_3 : Int) (a0_4 : Int) (a0_5 : Int) (a0_6 : Int) (l0_7 : List Int) (a0_8 : Bool) (a0_9 : Int) (a0_10 : Bool) : Option (ByteArray × (List (S123)) × Int × Int × Int × Int × Int × List Int × Bool × Int × Bool) := (impl_Key_cloned.f a0_0 l0_1 a0_2).bind fun bt103 => ((slices_Clone_int_int.f l0_7).bind fun t108 => (some (bt103.1, bt103.2.1, bt103.2.2, a0_3, a0_4, a0_5, a0_6, t108, a0_8, a0_9, a0_10)))
set_option maxHeartbeats 8000000 in
set_option maxRecDepth 100000 in
theorem impl_Win_cloned.calls (a0_0 : ByteArray) (A0_1 : Option Addr) (c0_1 : Nat) (l0_1 : List (S123)) (a0_2 : Int) (a0_3 : Int) (a0_4 : Int) (a0_5 : Int) (a0_6 : Int) (A0_7 : Option Addr) (c0_7 : Nat) (l0_7 : List Int) (a0_8 : Bool) (a0_9 : Int) (a0_10 : Bool) (r1 : ByteArray) (r2 : List (S123)) (r3 : Int) (r4 : Int) (r5 : Int) (r6 : Int) (r7 : Int) (r8 : List Int) (r9 : Bool) (r10 : Int) (r11 : Bool) (w : World) (hr0_1 : Kd.C k123 w A0_1 l0_1.length l0_1) (hc0_1 : l0_1.length ≤ c0_1) (hr0_7 : Kd.C (Kd.int .i64) w A0_7 l0_7.length l0_7) (hc0_7 : l0_7.length ≤ c0_7) (h : impl_Win_cloned.f a0_0 l0_1 a0_2 a0_3 a0_4 a0_5 a0_6 l0_7 a0_8 a0_9 a0_10 = some (r1, r2, r3, r4, r5, r6, r7, r8, r9, r10, r11)) :
 Calls Tryd.prog 49 #[.agg #[.string a0_0, .slice A0_1 l0_1.length c0_1, .int .i64 a0_2, .int .i64 a0_3, .int .i64 a0_4, .int .i64 a0_5, .int .i64 a0_6, .slice A0_7 l0_7.length c0_7, .bool a0_8, .int .i64 a0_9, .bool a0_10]] w fun e w' => ∃ v1_ v7_ : Value, e = .returned (.agg #[.string r1, v1_, .int .i64 r3, .int .i64 r4, .int .i64 r5, .int .i64 r6, .int .i64 r7, v7_, .bool r9, .int .i64 r10, .bool r11]) ∧ Kd.R k123 123 w' w.heap.size (fun _ => True) v1_ r2 ∧ Kd.R (Kd.int .i64) 3 w' w.heap.size (fun _ => True) v7_ r8 ∧ Below w.heap.size w w' := by
 have hu37 := Tryd.underlying37
 have hu32 := Tryd.underlying32
 have HR0_1 := aM hr0_1
 have HC0_1 := aM hc0_1
 clear hr0_1 hc0_1
 have HR0_7 := aM hr0_7
 have HC0_7 := aM hc0_7
 clear hr0_7 hc0_7
 have HB := aM (Below.refl w.heap.size w)
 have H : ((impl_Key_cloned.f a0_0 l0_1 a0_2).bind fun bt103 => ((slices_Clone_int_int.f l0_7).bind fun t108 => (some (bt103.1, bt103.2.1, bt103.2.2, a0_3, a0_4, a0_5, a0_6, t108, a0_8, a0_9, a0_10)))) = some (r1, r2, r3, r4, r5, r6, r7, r8, r9, r10, r11) := h
 clear h
 obtain ⟨⟨t103, t104, t107⟩, A2, H⟩ := bS H; try dsimp only at H
 obtain ⟨t108, A3, H⟩ := bS H; try dsimp only at H
 simp only [Option.some.injEq, Prod.mk.injEq] at H
 obtain ⟨rfl, rfl, rfl, rfl, rfl, rfl, rfl, rfl, rfl, rfl, rfl⟩ := H
 go_enter Tryd.func49, Tryd.ntmps49
 go_wp2_with (first | ((with_reducible refine gate_dst (N := 1) rfl ?_); refine bX 1 37 #[.string a0_0, .slice A0_1 l0_1.length c0_1, .int .i64 a0_2, .int .i64 a0_3, .int .i64 a0_4, .int .i64 a0_5, .int .i64 a0_6, .slice A0_7 l0_7.length c0_7, .bool a0_8, .int .i64 a0_9, .bool a0_10] ?_; intro gb101 hg w4 hbox hb; have _ := aM (below_step hbZ hb); have _ := aM hbox; have _ := szZ hg; have _ := szZ hg; clear HB; rename_i HB BK101 GW101 GE101; clear hb hbox hg) | ((with_reducible refine gate_dst (N := 2) rfl ?_); refine bX 2 37 #[.string (⟨#[]⟩ : ByteArray), .slice none 0 0, .int .i64 0, .int .i64 0, .int .i64 0, .int .i64 0, .int .i64 0, .slice none 0 0, .bool false, .int .i64 0, .bool false] ?_; intro gb102 hg w5 hbox hb; have _ := bB gb101 hb; have _ := aM (below_step hbZ hb); have _ := aM hbox; have _ := szZ hg; have _ := szZ hg; have ⟨_, _⟩ := nbB gb101 hg; clear BK101 HB; rename_i BK101 HB BK102 GW102 GE102 NB101_102 NB102_101; clear hb hbox hg; have hnb6 := NB101_102.out; have hnc6 := NB102_101.out; have hz7 := cellsZ11 BK101.out) | ((with_reducible refine gate_callee (f := 68) rfl ?_); refine gL 5 Tryd.func68 #[.agg #[.string a0_0, .slice A0_1 l0_1.length c0_1, .int .i64 a0_2]] ?_; (with_reducible refine (impl_Key_cloned.calls a0_0 _ _ l0_1 a0_2 t103 t104 t107 _ ?side1 ?side2 A2.out).mono ?_); (case side1 => exact (cZ (Kd.C_below HR0_1.out HB.out))); (case side2 => exact HC0_1.out); rintro e w8 ⟨v105, rfl, ho0, hb⟩; refine ⟨_, rfl, ?_⟩; have _ := aM (Kd.R_lower ho0 (below_size hbZ)); have _ := bB gb101 hb; have _ := bB gb102 hb; have _ := aM (below_step hbZ hb); clear BK101 BK102 HB; rename_i HO106 BK101 BK102 HB; (try clear hb); (try clear ho0); have hz9 := cellsZ11 BK101.out; obtain ⟨Ao10, co10, eo10⟩ := Kd.R_slice HO106.out; subst eo10) | ((with_reducible refine gate_callee (f := 69) rfl ?_); refine gL 10 Tryd.func69 #[.slice A0_7 l0_7.length c0_7] ?_; (with_reducible refine (slices_Clone_int_int.calls _ _ l0_7 t108 _ ?side1 ?side2 A3.out).mono ?_); (case side1 => exact Kd.C_below HR0_7.out hbZ); (case side2 => exact HC0_7.out); rintro e w11 ⟨v109, rfl, ho0, hb⟩; refine ⟨_, rfl, ?_⟩; have _ := aM (Kd.R_below (rZ (rF3 HO106.out BK101.out)) hb); have _ := aM (Kd.R_lower ho0 (below_size hbZ)); have _ := aM (blk_below (g := gb101) (o := .cells #[.string t103, .slice Ao10 t104.length co10, .int .i64 t107, .int .i64 a0_3, .int .i64 a0_4, .int .i64 a0_5, .int .i64 a0_6, .slice A0_7 l0_7.length c0_7, .bool a0_8, .int .i64 a0_9, .bool a0_10] 37 (0, 0)) bkZ hb); have _ := bB gb102 hb; have _ := aM (below_step hbZ hb); clear HO106 BK101 BK102 HB; rename_i HO106 HO110 BK101 BK102 HB; (try clear hb); (try clear ho0); obtain ⟨Ao12, co12, eo12⟩ := Kd.R_slice HO110.out; subst eo12; have hz13 := cellsZ11 BK101.out; have hz14 := cellsZ11 BK102.out))
 refine bodyPost_ret (results_cell_row rfl _ _ gb102 37 #[.string t103, .slice Ao10 t104.length co10, .int .i64 t107, .int .i64 a0_3, .int .i64 a0_4, .int .i64 a0_5, .int .i64 a0_6, .slice Ao12 t108.length co12, .bool a0_8, .int .i64 a0_9, .bool a0_10] (0, 0) _ rfl bkZ Tryd.underlying37 rfl (by kernel_rfl)) rfl ?_
 exact ⟨_, _, z674d, by (with_reducible repeat (first | apply Kd.R_alloc | apply Kd.R_drewN | apply Kd.R_drew)); exact Kd.R_mono (Kd.R_far (p := ⟨gb102, 10, none⟩) (Kd.R_far (p := ⟨gb102, 9, none⟩) (Kd.R_far (p := ⟨gb102, 8, none⟩) (Kd.R_far (p := ⟨gb102, 7, none⟩) (Kd.R_far (p := ⟨gb102, 6, none⟩) (Kd.R_far (p := ⟨gb102, 5, none⟩) (Kd.R_far (p := ⟨gb102, 4, none⟩) (Kd.R_far (p := ⟨gb102, 3, none⟩) (Kd.R_far (p := ⟨gb102, 2, none⟩) (Kd.R_far (p := ⟨gb102, 1, none⟩) (Kd.R_far (p := ⟨gb102, 0, none⟩) (Kd.R_far (p := ⟨gb101, 7, none⟩) (Kd.R_types (Kd.R_types HO106.out BK101.out (by decide)) BK102.out (by decide)) (fun _ hk => hk.1.2) (.slice Ao12 t108.length co12)) (fun _ hk => hk.2) (.string t103)) (fun _ hk => hk.2) (.slice Ao10 t104.length co10)) (fun _ hk => hk.2) (.int .i64 t107)) (fun _ hk => hk.2) (.int .i64 a0_3)) (fun _ hk => hk.2) (.int .i64 a0_4)) (fun _ hk => hk.2) (.int .i64 a0_5)) (fun _ hk => hk.2) (.int .i64 a0_6)) (fun _ hk => hk.2) (.slice Ao12 t108.length co12)) (fun _ hk => hk.2) (.bool a0_8)) (fun _ hk => hk.2) (.int .i64 a0_9)) (fun _ hk => hk.2) (.bool a0_10)) (fun _ hk => trivial), by (with_reducible repeat (first | apply Kd.R_alloc | apply Kd.R_drewN | apply Kd.R_drew)); exact Kd.R_mono (Kd.R_far (p := ⟨gb102, 10, none⟩) (Kd.R_far (p := ⟨gb102, 9, none⟩) (Kd.R_far (p := ⟨gb102, 8, none⟩) (Kd.R_far (p := ⟨gb102, 7, none⟩) (Kd.R_far (p := ⟨gb102, 6, none⟩) (Kd.R_far (p := ⟨gb102, 5, none⟩) (Kd.R_far (p := ⟨gb102, 4, none⟩) (Kd.R_far (p := ⟨gb102, 3, none⟩) (Kd.R_far (p := ⟨gb102, 2, none⟩) (Kd.R_far (p := ⟨gb102, 1, none⟩) (Kd.R_far (p := ⟨gb102, 0, none⟩) (Kd.R_far (p := ⟨gb101, 7, none⟩) (Kd.R_types (Kd.R_types HO110.out BK101.out (by decide)) BK102.out (by decide)) (fun _ hk => hk.1.2) (.slice Ao12 t108.length co12)) (fun _ hk => hk.2) (.string t103)) (fun _ hk => hk.2) (.slice Ao10 t104.length co10)) (fun _ hk => hk.2) (.int .i64 t107)) (fun _ hk => hk.2) (.int .i64 a0_3)) (fun _ hk => hk.2) (.int .i64 a0_4)) (fun _ hk => hk.2) (.int .i64 a0_5)) (fun _ hk => hk.2) (.int .i64 a0_6)) (fun _ hk => hk.2) (.slice Ao12 t108.length co12)) (fun _ hk => hk.2) (.bool a0_8)) (fun _ hk => hk.2) (.int .i64 a0_9)) (fun _ hk => hk.2) (.bool a0_10)) (fun _ hk => trivial), zcb41⟩

end Go.Proofs.YtkgmoajdcibafaaDoor.P

-- written by a program of this session's (wip/pp)
namespace Go.Proofs.YtkgmoajdcibafaaDoor.P
open Go.RowKit Go.Proofs.YtkgmoajdcibafaaDoorW.PrintWords Go.Proofs.YtkgmoajdcibafaaDoorW.PrintLast Go.Proofs.YtkgmoajdcibafaaDoorW.PrintMore
attribute [local go_sem] max2_int min2_int max_two min_two max_three min_three max_four min_four str_geq str_gtr str_leq   -- for this text's walks alone
set_option linter.unusedVariables false
set_option linter.unusedSimpArgs false

/-! ### impl_Board_cloned: function 59 -/
def impl_Board_cloned.l0 : Nat → List (S37) → List (S37) → Int → Int → Int → Int → Int → List (S37) → Option (Int × Int × Int × (List (S37)))
 | 0, _, _, _, _, _, _, _, _ => none
 | k + 1, x3, x8, x9, x10, x102000, x102001, x102002, x102003 => if x10 < x9 then (if 0 ≤ x10 then (if x10 < (x8.length : Int) then ((impl_Win_cloned.f ((rd_T37 x8 x10).f0.f0) ((rd_T37 x8 x10).f0.f1) ((rd_T37 x8 x10).f0.f2) ((rd_T37 x8 x10).f1.f0) ((rd_T37 x8 x10).f1.f1) ((rd_T37 x8 x10).f1.f2) ((rd_T37 x8 x10).f1.f3) ((rd_T37 x8 x10).f1.f4) ((rd_T37 x8 x10).f1.f5) ((rd_T37 x8 x10).f2) ((rd_T37 x8 x10).f3)).bind fun bt108 => (if x3.length < 1099511627776 then (impl_Board_cloned.l0 k (x3 ++ [(⟨(⟨bt108.1, bt108.2.1, bt108.2.2.1⟩ : S32), (⟨bt108.2.2.2.1, bt108.2.2.2.2.1, bt108.2.2.2.2.2.1, bt108.2.2.2.2.2.2.1, bt108.2.2.2.2.2.2.2.1, bt108.2.2.2.2.2.2.2.2.1⟩ : S35), bt108.2.2.2.2.2.2.2.2.2.1, bt108.2.2.2.2.2.2.2.2.2.2⟩ : S37)]) x8 x9 (wrap64 (x10 + 1)) x102000 x102001 x102002 x102003) else (none))) else (none)) else (none)) else (some (x102000, x102001, x102002, x3))
def impl_Board_cloned.f (k : Nat) (a0_0 : Int) (a0_1 : Int) (a0_2 : Int) (l0_3 : List (S37)) : Option (Int × Int × Int × (List (S37))) := impl_Board_cloned.l0 k (([] : List (S37))) l0_3 (l0_3.length : Int) 0 a0_0 a0_1 a0_2 l0_3
theorem impl_Board_cloned.mono_l : ∀ k, (∀ y0 y1 y2 y3 y4 y5 y6 y7, LeO (impl_Board_cloned.l0 k y0 y1 y2 y3 y4 y5 y6 y7) (impl_Board_cloned.l0 (k + 1) y0 y1 y2 y3 y4 y5 y6 y7))
 | 0 => fun _ _ _ _ _ _ _ _ r h => by simp [impl_Board_cloned.l0] at h
 | k + 1 => by
  have ih0 := impl_Board_cloned.mono_l k
  · intro y0 y1 y2 y3 y4 y5 y6 y7
    unfold impl_Board_cloned.l0
    exact moZ
theorem impl_Board_cloned.mono : ∀ a0 a1 a2 a3 k, LeO (impl_Board_cloned.f k a0 a1 a2 a3) (impl_Board_cloned.f (k + 1) a0 a1 a2 a3) := by
 intro a0 a1 a2 a3 k
 have ih0 := impl_Board_cloned.mono_l k
 unfold impl_Board_cloned.f
 exact moZ
set_option maxHeartbeats 8000000 in
set_option maxRecDepth 100000 in
theorem impl_Board_cloned.calls (k : Nat) (a0_0 : Int) (a0_1 : Int) (a0_2 : Int) (A0_3 : Option Addr) (c0_3 : Nat) (l0_3 : List (S37)) (r1 : Int) (r2 : Int) (r3 : Int) (r4 : List (S37)) (w : World) (hr0_3 : Kd.C k37 w A0_3 l0_3.length l0_3) (hc0_3 : l0_3.length ≤ c0_3) (h : impl_Board_cloned.f k a0_0 a0_1 a0_2 l0_3 = some (r1, r2, r3, r4)) :
 Calls Tryd.prog 59 #[.agg #[.int .i64 a0_0, .int .i64 a0_1, .int .i64 a0_2, .slice A0_3 l0_3.length c0_3]] w fun e w' => ∃ v3_ : Value, e = .returned (.agg #[.int .i64 r1, .int .i64 r2, .int .i64 r3, v3_]) ∧ Kd.S k37 37 w' w.heap.size (fun _ => True) v3_ r4 ∧ Below w.heap.size w w' := by
 have hu42 := Tryd.underlying42
 have hu37 := Tryd.underlying37
 have HR0_3 := aM hr0_3
 have HC0_3 := aM hc0_3
 clear hr0_3 hc0_3
 have HB := aM (Below.refl w.heap.size w)
 have H : (impl_Board_cloned.l0 k (([] : List (S37))) l0_3 (l0_3.length : Int) 0 a0_0 a0_1 a0_2 l0_3) = some (r1, r2, r3, r4) := h
 clear h
 obtain ⟨y103, hy103⟩ : ∃ y_ : List (S37), y_ = (([] : List (S37))) := ⟨_, rfl⟩
 first | (replace H := bindS H; rw [← hy103] at H; try dsimp only at H) | rw [← hy103] at H
 have Ny103 := aM hy103
 clear hy103
 have H' := aM H
 clear H
 go_enter Tryd.func59, Tryd.ntmps59
 go_wp2_with (first | ((with_reducible refine gate_dst (N := 1) rfl ?_); refine bX 1 42 #[.int .i64 a0_0, .int .i64 a0_1, .int .i64 a0_2, .slice A0_3 l0_3.length c0_3] ?_; intro gb101 hg w2 hbox hb; have _ := aM (below_step hbZ hb); have _ := aM hbox; have _ := szZ hg; have _ := szZ hg; clear HB; rename_i HB BK101 GW101 GE101; clear hb hbox hg) | ((with_reducible refine gate_dst (N := 2) rfl ?_); refine bX 2 42 #[.int .i64 0, .int .i64 0, .int .i64 0, .slice none 0 0] ?_; intro gb102 hg w3 hbox hb; have _ := bB gb101 hb; have _ := aM (below_step hbZ hb); have _ := aM hbox; have _ := szZ hg; have _ := szZ hg; have ⟨_, _⟩ := nbB gb101 hg; clear BK101 HB; rename_i BK101 HB BK102 GW102 GE102 NB101_102 NB102_101; clear hb hbox hg) | ((with_reducible refine gate_dst (N := 6) rfl ?_); refine Kd.S_lit k37 _ 37 ?hg (N := 6) ?hd (xs := ([] : List (S37))) (inner := []) (ok := fun _ => True) (okp := fun _ => True) ?hr ?hp (fun _ hk => hk) trivial (Below.refl _ _) (Nat.le_refl _) (by simp) ?_; (case hd => rfl); (case hg => rfl); (case hr => first | (go_simp; done) | (go_simp; rfl)); (case hp => exact (Reps.none _ _)); intro v104 w4 ho5 hb hg_ hnew_; clear hg_ hnew_; (first | rw [← Ny103.out] at ho5 | (simp only [Int.reduceToNat] at ho5; rw [← Ny103.out] at ho5)); have _ := aM (Kd.S_lower ho5 (below_size hbZ)); have _ := bB gb101 hb; have _ := bB gb102 hb; have _ := aM (below_step hbZ hb); clear BK101 BK102 HB; rename_i HO105 BK101 BK102 HB; clear hb ho5; have hnb6 := NB101_102.out; have hnc6 := NB102_101.out; have hz7 := cellsZ4 BK101.out))
 go_loopg [3, 10] k (fun kq v3 v10 w' => ∃ (x3_1 : List (S37)) (x10_1 : Int), v10 = .int .i64 x10_1 ∧ Aside0 (impl_Board_cloned.l0 kq x3_1 l0_3 (l0_3.length : Int) x10_1 a0_0 a0_1 a0_2 l0_3 = some (r1, r2, r3, r4)) ∧ Aside0 (kq ≤ k) ∧ Aside0 (Kd.S k37 37 w' w.heap.size (fun _ => True) v3 x3_1) ∧ Aside0 (w'.heap[gb101]? = some (.cells #[.int .i64 a0_0, .int .i64 a0_1, .int .i64 a0_2, (.slice A0_3 l0_3.length c0_3)] 42 (0, 0))) ∧ Aside0 (w'.heap[gb102]? = some (.cells #[.int .i64 0, .int .i64 0, .int .i64 0, (.slice none 0 0)] 42 (0, 0))) ∧ Aside0 (Below w.heap.size w w'))
 case atStart => exact ⟨(y103), (0), z4458, H', ⟨Nat.le_refl _⟩, ⟨by (with_reducible repeat (first | apply Kd.S_alloc | apply Kd.S_drewN | apply Kd.S_drew)); exact HO105.out⟩, ⟨bkZ⟩, ⟨bkZ⟩, ⟨zcb41⟩⟩
 case round =>
  clear H'
  (try clear hz7)
  obtain ⟨x3_1, x10_1, rfl, HA, HK1, HO_3, BK101, BK102, HB⟩ := hrel
  cases gk with
  | zero => exact absurd HA.out (by simp [impl_Board_cloned.l0])
  | succ k1 =>
   have H := HA.out
   clear HA
   simp only [impl_Board_cloned.l0] at H
   by_cases c8 : x10_1 < (l0_3.length : Int)
   · rw [if_pos c8] at H
     have c8b0 := dL c8
     clear c8
     obtain ⟨c9b0, H⟩ := sE H
     obtain ⟨c10b0, H⟩ := sL H
     obtain ⟨⟨t108, t109, t112, t113, t114, t115, t116, t117, t120, t121, t122⟩, A11, H⟩ := bS H; try dsimp only at H
     obtain ⟨LMc12, H⟩ := sM H
     obtain ⟨y123, hy123⟩ : ∃ y_ : List (S37), y_ = (x3_1 ++ [(⟨(⟨t108, t109, t112⟩ : S32), (⟨t113, t114, t115, t116, t117, t120⟩ : S35), t121, t122⟩ : S37)]) := ⟨_, rfl⟩
     first | (replace H := bindS H; rw [← hy123] at H; try dsimp only at H) | rw [← hy123] at H
     have Ny123 := aM hy123
     clear hy123
     have H' := aM H
     clear H
     have p106 : 0 ≤ (x10_1 : Int) := of_decide_eq_true z1200
     have q106 : x10_1 < (l0_3.length : Int) := of_decide_eq_true z1200
     obtain ⟨ad106, A106_1, c106_1, A106_7, c106_7, e106, hx106_0, hx106_1, hx106_2, hx106_3, hx106_4, hx106_5, hx106_6, hx106_7, hx106_8, hx106_9, hx106_10, hl106_1, hi106_1, hl106_7, hi106_7⟩ := at_T37 HR0_3.out x10_1 p106 q106
     cases e106
     have TW106_1 := aM hx106_1
     have TW106_7 := aM hx106_7
     replace hx106_0 := (HB.out.cell (World.block_lt_of_cell? w _ hx106_0)).trans hx106_0
     replace hx106_1 := (HB.out.cell (World.block_lt_of_cell? w _ hx106_1)).trans hx106_1
     replace hx106_2 := (HB.out.cell (World.block_lt_of_cell? w _ hx106_2)).trans hx106_2
     replace hx106_3 := (HB.out.cell (World.block_lt_of_cell? w _ hx106_3)).trans hx106_3
     replace hx106_4 := (HB.out.cell (World.block_lt_of_cell? w _ hx106_4)).trans hx106_4
     replace hx106_5 := (HB.out.cell (World.block_lt_of_cell? w _ hx106_5)).trans hx106_5
     replace hx106_6 := (HB.out.cell (World.block_lt_of_cell? w _ hx106_6)).trans hx106_6
     replace hx106_7 := (HB.out.cell (World.block_lt_of_cell? w _ hx106_7)).trans hx106_7
     replace hx106_8 := (HB.out.cell (World.block_lt_of_cell? w _ hx106_8)).trans hx106_8
     replace hx106_9 := (HB.out.cell (World.block_lt_of_cell? w _ hx106_9)).trans hx106_9
     replace hx106_10 := (HB.out.cell (World.block_lt_of_cell? w _ hx106_10)).trans hx106_10
     have HR106_1 := aM hi106_1
     have HC106_1 := aM hl106_1
     clear hi106_1 hl106_1
     have HR106_7 := aM hi106_7
     have HC106_7 := aM hl106_7
     clear hi106_7 hl106_7
     replace p106 := eq_true p106
     replace q106 := eq_true q106
     go_wp2_with (first | ((with_reducible refine gate_dst (N := 5) rfl ?_); refine bX 5 37 #[.string (⟨#[]⟩ : ByteArray), .slice none 0 0, .int .i64 0, .int .i64 0, .int .i64 0, .int .i64 0, .int .i64 0, .slice none 0 0, .bool false, .int .i64 0, .bool false] ?_; intro gb107 hg w13 hbox hb; have _ := aM (Kd.S_below (Kd.S_elderB zd74a gb107 (Nat.le_of_eq hg.symm)) hb); have _ := bB gb101 hb; have _ := bB gb102 hb; have _ := aM (below_step hbZ hb); have _ := aM hbox; have _ := szZ hg; have _ := szZ hg; have ⟨_, _⟩ := nbB gb101 hg; have ⟨_, _⟩ := nbB gb102 hg; clear HO_3 BK101 BK102 HB; rename_i HO_3 BK101 BK102 HB BK107 GW107 GE107 NB101_107 NB107_101 NB102_107 NB107_102; clear hb hbox hg; have hnb14 := NB107_101.out; have hnc14 := NB101_107.out; have hnb15 := NB107_102.out; have hnc15 := NB102_107.out; have hz16 := cellsZ11 BK107.out) | ((with_reducible refine gate_callee (f := 49) rfl ?_); refine gL 16 Tryd.func49 #[.agg #[.string ((rd_T37 l0_3 x10_1).f0.f0), .slice A106_1 ((rd_T37 l0_3 x10_1).f0.f1).length c106_1, .int .i64 ((rd_T37 l0_3 x10_1).f0.f2), .int .i64 ((rd_T37 l0_3 x10_1).f1.f0), .int .i64 ((rd_T37 l0_3 x10_1).f1.f1), .int .i64 ((rd_T37 l0_3 x10_1).f1.f2), .int .i64 ((rd_T37 l0_3 x10_1).f1.f3), .slice A106_7 ((rd_T37 l0_3 x10_1).f1.f4).length c106_7, .bool ((rd_T37 l0_3 x10_1).f1.f5), .int .i64 ((rd_T37 l0_3 x10_1).f2), .bool ((rd_T37 l0_3 x10_1).f3)]] ?_; (with_reducible refine (impl_Win_cloned.calls ((rd_T37 l0_3 x10_1).f0.f0) _ _ ((rd_T37 l0_3 x10_1).f0.f1) ((rd_T37 l0_3 x10_1).f0.f2) ((rd_T37 l0_3 x10_1).f1.f0) ((rd_T37 l0_3 x10_1).f1.f1) ((rd_T37 l0_3 x10_1).f1.f2) ((rd_T37 l0_3 x10_1).f1.f3) _ _ ((rd_T37 l0_3 x10_1).f1.f4) ((rd_T37 l0_3 x10_1).f1.f5) ((rd_T37 l0_3 x10_1).f2) ((rd_T37 l0_3 x10_1).f3) t108 t109 t112 t113 t114 t115 t116 t117 t120 t121 t122 _ ?side1 ?side2 ?side3 ?side4 A11.out).mono ?_); (case side1 => exact Kd.C_below HR106_1.out hbZ); (case side2 => exact HC106_1.out); (case side3 => exact Kd.C_below HR106_7.out hbZ); (case side4 => exact HC106_7.out); rintro e w17 ⟨v110, v118, rfl, ho0, ho1, hb⟩; refine ⟨_, rfl, ?_⟩; have _ := aM (Kd.S_mono (Kd.S_told (Kd.S_told (Kd.S_old (by (with_reducible repeat (first | apply Kd.S_alloc | apply Kd.S_drewN | apply Kd.S_drew)); exact (Kd.S_mono (Kd.S_far (p := ⟨gb107, 10, none⟩) (Kd.S_far (p := ⟨gb107, 9, none⟩) (Kd.S_far (p := ⟨gb107, 8, none⟩) (Kd.S_far (p := ⟨gb107, 7, none⟩) (Kd.S_far (p := ⟨gb107, 6, none⟩) (Kd.S_far (p := ⟨gb107, 5, none⟩) (Kd.S_far (p := ⟨gb107, 4, none⟩) (Kd.S_far (p := ⟨gb107, 3, none⟩) (Kd.S_far (p := ⟨gb107, 2, none⟩) (Kd.S_far (p := ⟨gb107, 1, none⟩) (Kd.S_far (p := ⟨gb107, 0, none⟩) (Kd.S_mono HO_3.out (fun k_ hk => (⟨hk, hk.2⟩ : _ ∧ k_ ≠ gb107))) (fun _ hk => hk.2) (.string ((rd_T37 l0_3 x10_1).f0.f0))) (fun _ hk => hk.2) (.slice A106_1 ((rd_T37 l0_3 x10_1).f0.f1).length c106_1)) (fun _ hk => hk.2) (.int .i64 ((rd_T37 l0_3 x10_1).f0.f2))) (fun _ hk => hk.2) (.int .i64 ((rd_T37 l0_3 x10_1).f1.f0))) (fun _ hk => hk.2) (.int .i64 ((rd_T37 l0_3 x10_1).f1.f1))) (fun _ hk => hk.2) (.int .i64 ((rd_T37 l0_3 x10_1).f1.f2))) (fun _ hk => hk.2) (.int .i64 ((rd_T37 l0_3 x10_1).f1.f3))) (fun _ hk => hk.2) (.slice A106_7 ((rd_T37 l0_3 x10_1).f1.f4).length c106_7)) (fun _ hk => hk.2) (.bool ((rd_T37 l0_3 x10_1).f1.f5))) (fun _ hk => hk.2) (.int .i64 ((rd_T37 l0_3 x10_1).f2))) (fun _ hk => hk.2) (.bool ((rd_T37 l0_3 x10_1).f3))) (fun _ h_ => h_.1))) hb) (Kd.R_base ho0)) (Kd.R_base ho1)) (fun _ h_ => h_.1)); have _ := aM (Kd.R_lower ho0 (below_size hbZ)); have _ := aM (Kd.R_lower ho1 (below_size hbZ)); have _ := bB gb101 hb; have _ := bB gb102 hb; have _ := aM (blk_below (g := gb107) (o := .cells #[.string ((rd_T37 l0_3 x10_1).f0.f0), .slice A106_1 ((rd_T37 l0_3 x10_1).f0.f1).length c106_1, .int .i64 ((rd_T37 l0_3 x10_1).f0.f2), .int .i64 ((rd_T37 l0_3 x10_1).f1.f0), .int .i64 ((rd_T37 l0_3 x10_1).f1.f1), .int .i64 ((rd_T37 l0_3 x10_1).f1.f2), .int .i64 ((rd_T37 l0_3 x10_1).f1.f3), .slice A106_7 ((rd_T37 l0_3 x10_1).f1.f4).length c106_7, .bool ((rd_T37 l0_3 x10_1).f1.f5), .int .i64 ((rd_T37 l0_3 x10_1).f2), .bool ((rd_T37 l0_3 x10_1).f3)] 37 (0, 0)) bkZ hb); have _ := aM (below_step hbZ hb); clear HO_3 BK101 BK102 BK107 HB; rename_i HO_3 HO111 HO119 BK101 BK102 BK107 HB; (try clear hb); (try clear ho0); (try clear ho1); obtain ⟨Ao19, co19, eo19⟩ := Kd.R_slice HO111.out; subst eo19; obtain ⟨Ao20, co20, eo20⟩ := Kd.R_slice HO119.out; subst eo20) | ((with_reducible refine gate_builtin (b := .append) (xs := #[.tmp 14, .tmp 17]) rfl ?_); at_builtin; refine Kd.S_append k37 (w0 := w) w.heap.size rfl (.tmp 14) (.tmp 17) 40 37 (.agg #[(.string ⟨#[]⟩), (.slice none 0 0), (.int .i64 0), (.int .i64 0), (.int .i64 0), (.int .i64 0), (.int .i64 0), (.slice none 0 0), (.bool false), (.int .i64 0), (.bool false)]) 128 rfl Tryd.underlying40 info37 rfl (by decide) (by omega) u3 x3_1 (⟨(⟨t108, t109, t112⟩ : S32), (⟨t113, t114, t115, t116, t117, t120⟩ : S35), t121, t122⟩ : S37) [.string t108, .slice Ao19 t109.length co19, .int .i64 t112, .int .i64 t113, .int .i64 t114, .int .i64 t115, .int .i64 t116, .slice Ao20 t117.length co20, .bool t120, .int .i64 t121, .bool t122] (fun k_ => k_ ≠ gb107) (fun k_ => some k_ = (.slice Ao19 t109.length co19 : Value).ownBlock ∨ some k_ = (.slice Ao20 t117.length co20 : Value).ownBlock) rfl rfl ?aP (fun k_ hk_ => hk_.elim (fun h_ => ((Kd.R_mono (ok' := fun k_ => ((fun k_ => k_ ≠ gb107)) k_ ∧ some k_ ≠ (u3 : Value).ownBlock) (Kd.R_types (Kd.R_apart' (HO111.out) (Kd.S_typed HO_3.out) (by decide)) BK107.out (by decide)) (fun k_ hk => ⟨hk.2, hk.1.2⟩))).1 k_ h_.symm) (fun h_ => ((Kd.R_mono (ok' := fun k_ => ((fun k_ => k_ ≠ gb107)) k_ ∧ some k_ ≠ (u3 : Value).ownBlock) (Kd.R_types (Kd.R_apart' (HO119.out) (Kd.S_typed HO_3.out) (by decide)) BK107.out (by decide)) (fun k_ hk => ⟨hk.2, hk.1.2⟩))).1 k_ h_.symm)) ?aF ?aO ?aB ?aS ?aL ?_; (case aP => exact k37_mkM _ _ _ (⟨(⟨t108, t109, t112⟩ : S32), (⟨t113, t114, t115, t116, t117, t120⟩ : S35), t121, t122⟩ : S37) (Kd.R_mono (Kd.R_tight rfl (Kd.R_mono (ok' := fun k_ => ((fun k_ => k_ ≠ gb107)) k_ ∧ some k_ ≠ (u3 : Value).ownBlock) (Kd.R_types (Kd.R_apart' (HO111.out) (Kd.S_typed HO_3.out) (by decide)) BK107.out (by decide)) (fun k_ hk => ⟨hk.2, hk.1.2⟩))) (fun _ h_ => Or.inl h_)) (Kd.R_mono (Kd.R_tight rfl (Kd.R_mono (ok' := fun k_ => ((fun k_ => k_ ≠ gb107)) k_ ∧ some k_ ≠ (u3 : Value).ownBlock) (Kd.R_types (Kd.R_apart' (HO119.out) (Kd.S_typed HO_3.out) (by decide)) BK107.out (by decide)) (fun k_ hk => ⟨hk.2, hk.1.2⟩))) (fun _ h_ => Or.inr (h_)))); (case aB => exact hbZ); (case aF => exact (fun k_ hk => Kd.freshB (g := gb107) bkZ k_ hk)); (case aO => exact (by (with_reducible repeat (first | apply Kd.S_alloc | apply Kd.S_drewN | apply Kd.S_drew)); exact Kd.S_mono HO_3.out (fun k_ hk => ⟨hk.1.1.2, fun e_ => e_.elim (fun h_ => hk.1.2 h_) (fun h_ => hk.2 h_)⟩))); (case aS => exact (below_size hbZ)); (case aL => have := LMc12.out; omega); intro v124 w18 ho hb hg hat; rw [← Ny123.out] at ho; have _ := aM (blk_grown (g := gb101) bkZ hg (Kd.S_ne HO_3.out BK101.out (by decide))); have _ := aM (blk_grown (g := gb102) bkZ hg (Kd.S_ne HO_3.out BK102.out (by decide))); have _ := aM (blk_grown (g := gb107) bkZ hg (Kd.S_away HO_3.out (fun _ hk => hk.1.1.2))); have _ := aM hb; have _ := aM ho; clear BK101 BK102 BK107 HB HO_3 HO111 HO119; rename_i BK101 BK102 BK107 HB HO125; clear ho hb hg hat))
     go_roundg k1
     case measure => have := HK1.out; omega
     case rel => exact ⟨(y123), (wrap64 (x10_1 + 1)), z4458, H', ⟨zfb39⟩, ⟨by (with_reducible repeat (first | apply Kd.S_alloc | apply Kd.S_drewN | apply Kd.S_drew)); exact Kd.S_mono HO125.out (fun _ hk => trivial)⟩, ⟨bkZ⟩, ⟨bkZ⟩, ⟨zcb41⟩⟩
   · rw [if_neg c8] at H
     have c8b0 := nL c8
     clear c8
     simp only [Option.some.injEq, Prod.mk.injEq] at H
     obtain ⟨rfl, rfl, rfl, rfl⟩ := H
     obtain ⟨Ao21, co21, eo21⟩ := Kd.S_slice HO_3.out
     subst eo21
     have hnb22 := NB101_102.out
     have hnc22 := NB102_101.out
     have hz23 := cellsZ4 BK101.out
     have hz24 := cellsZ4 BK102.out
     go_wp2
     refine bodyPost_ret (results_cell_row rfl _ _ gb102 42 #[.int .i64 a0_0, .int .i64 a0_1, .int .i64 a0_2, .slice Ao21 x3_1.length co21] (0, 0) _ rfl bkZ Tryd.underlying42 rfl (by kernel_rfl)) rfl ?_
     exact ⟨_, z674d, by (with_reducible repeat (first | apply Kd.S_alloc | apply Kd.S_drewN | apply Kd.S_drew)); exact Kd.S_mono (Kd.S_far (p := ⟨gb102, 3, none⟩) (Kd.S_far (p := ⟨gb102, 2, none⟩) (Kd.S_far (p := ⟨gb102, 1, none⟩) (Kd.S_far (p := ⟨gb102, 0, none⟩) (Kd.S_far (p := ⟨gb101, 3, none⟩) (Kd.S_types (Kd.S_types HO_3.out BK101.out (by decide)) BK102.out (by decide)) (fun _ hk => hk.1.2) (.slice Ao21 x3_1.length co21)) (fun _ hk => hk.2) (.int .i64 a0_0)) (fun _ hk => hk.2) (.int .i64 a0_1)) (fun _ hk => hk.2) (.int .i64 a0_2)) (fun _ hk => hk.2) (.slice Ao21 x3_1.length co21)) (fun _ hk => trivial), zcb41⟩

end Go.Proofs.YtkgmoajdcibafaaDoor.P

/- Boards that share no memory with others: the same windows. -/
namespace Go.Proofs.YtkgmoajdcibafaaDoor.Lem
open Go Go.RowKit Go.Proofs.YtkgmoajdcibafaaDoor.P Go.Proofs.YtkgmoajdcibafaaDoorW.PrintWords Go.Proofs.YtkgmoajdcibafaaDoorW.PrintLast Go.Proofs.YtkgmoajdcibafaaDoorW.PrintMore

theorem cloneTags_ok {l : List Tg} (h : l.length ≤ 1048576) : impl_Tag_101.f l = some l := by
  unfold impl_Tag_101.f
  rw [Option.bind_some, if_pos (by rw [List.length_nil]; omega), List.nil_append]
theorem cloneInts_ok {l : List Int} (h : l.length ≤ 1048576) : slices_Clone_int_int.f l = some l := by
  unfold slices_Clone_int_int.f
  rw [Option.bind_some, if_pos (by rw [List.length_nil]; omega), List.nil_append]
theorem winCloned_ok (w : Wn) (h : w.f0.f1.length ≤ 1048576 ∧ w.f1.f4.length ≤ 1048576) : impl_Win_cloned.f w.f0.f0 w.f0.f1 w.f0.f2 w.f1.f0 w.f1.f1 w.f1.f2 w.f1.f3 w.f1.f4 w.f1.f5 w.f2 w.f3 = some (w.f0.f0, w.f0.f1, w.f0.f2, w.f1.f0, w.f1.f1, w.f1.f2, w.f1.f3, w.f1.f4, w.f1.f5, w.f2, w.f3) := by
  unfold impl_Win_cloned.f impl_Key_cloned.f
  rw [cloneTags_ok h.1, Option.bind_some, Option.bind_some, cloneInts_ok h.2, Option.bind_some]
theorem ownKey_ok (m : ByteArray) {l : List Tg} (h : l.length ≤ 1048576) (s : Int) : spec_l11OwnKey.f m l s = some (m, l, s) := by
  unfold spec_l11OwnKey.f
  rw [Option.bind_some, if_pos (by rw [List.length_nil]; omega), List.nil_append]
theorem l4Own_ok (c s mi ma : Int) {l : List Int} (h : l.length ≤ 1048576) (f : Bool) : spec_l4Own.f c s mi ma l f = some (c, s, mi, ma, l, f) := by
  unfold spec_l4Own.f
  rw [Option.bind_some, if_pos (by rw [List.length_nil]; omega), List.nil_append]
theorem cloned_l0 (a b c : Int) (z : List Wn) {l : List Wn} (hl : l.length ≤ 1048576) (hh : ∀ w ∈ l, w.f0.f1.length ≤ 1048576 ∧ w.f1.f4.length ≤ 1048576) : ∀ (d i k : Nat) (acc : List Wn), i + d = l.length → d < k → acc.length ≤ i →
    impl_Board_cloned.l0 k acc l (l.length : Int) (i : Int) a b c z = some (a, b, c, acc ++ l.drop i) := by
  intro d
  induction d with
  | zero =>
    intro i k acc hi hk _
    obtain ⟨k, rfl⟩ : ∃ q, k = q + 1 := ⟨k - 1, by omega⟩
    rw [impl_Board_cloned.l0, if_neg (by omega), List.drop_of_length_le (by omega), List.append_nil]
  | succ d ih =>
    intro i k acc hi hk ha
    obtain ⟨k, rfl⟩ : ∃ q, k = q + 1 := ⟨k - 1, by omega⟩
    have hlt : i < l.length := by omega
    have hw := hh l[i] (List.getElem_mem hlt)
    rw [impl_Board_cloned.l0, if_pos (by omega), if_pos (by omega), if_pos (by omega), rdW_get hlt, winCloned_ok _ hw, Option.bind_some]
    dsimp only
    rw [if_pos (by omega), show wrap64 ((i : Int) + 1) = ((i + 1 : Nat) : Int) from by rw [w64 (by omega) (by omega)]; omega, ih (i + 1) k _ (by omega) (by omega) (by rw [List.length_append, List.length_singleton]; omega), drop_get hlt, List.append_assoc]
    rfl
theorem cloned_ok (a b c : Int) {l : List Wn} (hl : l.length ≤ 1048576) (hh : ∀ w ∈ l, w.f0.f1.length ≤ 1048576 ∧ w.f1.f4.length ≤ 1048576) {k : Nat} (hk : 1048577 < k) : impl_Board_cloned.f k a b c l = some (a, b, c, l) :=
  cloned_l0 a b c l hl hh l.length 0 k [] (by omega) (by omega) (Nat.le_refl _)
theorem own_l0 (a b c : Int) (z : List Wn) {l : List Wn} (hl : l.length ≤ 1048576) (hh : ∀ w ∈ l, w.f0.f1.length ≤ 1048576 ∧ w.f1.f4.length ≤ 1048576) : ∀ (d i k : Nat) (acc : List Wn), i + d = l.length → d < k → acc.length ≤ i →
    spec_l11Own.l0 k acc l (l.length : Int) (i : Int) a b c z = some (a, b, c, acc ++ l.drop i) := by
  intro d
  induction d with
  | zero =>
    intro i k acc hi hk _
    obtain ⟨k, rfl⟩ : ∃ q, k = q + 1 := ⟨k - 1, by omega⟩
    rw [spec_l11Own.l0, if_neg (by omega), List.drop_of_length_le (by omega), List.append_nil]
  | succ d ih =>
    intro i k acc hi hk ha
    obtain ⟨k, rfl⟩ : ∃ q, k = q + 1 := ⟨k - 1, by omega⟩
    have hlt : i < l.length := by omega
    have hw := hh l[i] (List.getElem_mem hlt)
    rw [spec_l11Own.l0, if_pos (by omega), if_pos (by omega), if_pos (by omega), rdW_get hlt, ownKey_ok _ hw.1, Option.bind_some, l4Own_ok _ _ _ _ hw.2, Option.bind_some]
    dsimp only
    rw [if_pos (by omega), show wrap64 ((i : Int) + 1) = ((i + 1 : Nat) : Int) from by rw [w64 (by omega) (by omega)]; omega, ih (i + 1) k _ (by omega) (by omega) (by rw [List.length_append, List.length_singleton]; omega), drop_get hlt, List.append_assoc]
    rfl
theorem own_ok (a b c : Int) {l : List Wn} (hl : l.length ≤ 1048576) (hh : ∀ w ∈ l, w.f0.f1.length ≤ 1048576 ∧ w.f1.f4.length ≤ 1048576) {k : Nat} (hk : 1048577 < k) : spec_l11Own.f k a b c l = some (a, b, c, l) :=
  own_l0 a b c l hl hh l.length 0 k [] (by omega) (by omega) (Nat.le_refl _)
end Go.Proofs.YtkgmoajdcibafaaDoor.Lem

section
/- A window of a row: out of it, and its version and its mark written anew; what is told. No conditions. -/
set_option linter.unusedVariables false
set_option linter.unusedSimpArgs false
namespace Go.Proofs.YtkgmoajdcibafaaDoor.P
open Go Go.RowKit Go.Proofs.YtkgmoajdcibafaaDoorW.PrintWords Go.Proofs.YtkgmoajdcibafaaDoorW.PrintLast Go.Proofs.YtkgmoajdcibafaaDoorW.PrintMore
def toldW (x : S37) : S96 := ⟨x.f0, wrap64 (x.f2 + 1), x.f1⟩
def cleanW (x : S37) : S37 := if x.f3 = true then ⟨x.f0, x.f1, wrap64 (x.f2 + 1), false⟩ else x
def toldWs (l : List S37) : List S96 := (l.filter (·.f3)).map toldW
def curW (l : List S37) (i : Nat) : List S37 := (l.take i).map cleanW ++ l.drop i
def shortsT (l : List S37) : Bool := l.all (fun x => decide (x.f0.f1.length ≤ 1048576) && decide (x.f1.f4.length ≤ 1048576))
theorem rdT_get {l : List S37} {i : Nat} (h : i < l.length) : rd_T37 l (i : Int) = l[i] := by
  unfold rd_T37
  rw [Int.toNat_natCast, List.getD_eq_getElem?_getD, List.getElem?_eq_getElem h]
  rfl
theorem curW_zero (l : List S37) : curW l 0 = l := by simp [curW]
theorem curW_end (l : List S37) : curW l l.length = l.map cleanW := by simp [curW]
theorem curW_len {l : List S37} {i : Nat} (h : i ≤ l.length) : (curW l i).length = l.length := by
  unfold curW
  rw [List.length_append, List.length_map, List.length_take, List.length_drop]; omega
theorem curW_at {l : List S37} {i : Nat} (h : i < l.length) : rd_T37 (curW l i) (i : Int) = rd_T37 l (i : Int) := by
  rw [rdT_get (by rw [curW_len (Nat.le_of_lt h)]; exact h), rdT_get h]
  unfold curW
  rw [List.getElem_append_right (by rw [List.length_map, List.length_take]; omega), List.getElem_drop]
  congr 1
  rw [List.length_map, List.length_take]; omega
theorem curW_set {l : List S37} {i : Nat} (h : i < l.length) : (curW l i).set i (cleanW (rd_T37 l (i : Int))) = curW l (i + 1) := by
  unfold curW
  rw [rdT_get h, List.set_append_right _ _ (by rw [List.length_map, List.length_take]; omega), List.length_map, List.length_take, Nat.min_eq_left (Nat.le_of_lt h), Nat.sub_self, List.drop_eq_getElem_cons h, List.set_cons_zero, List.take_succ_eq_append_getElem h, List.map_append, List.append_assoc]
  rfl
theorem curW_same {l : List S37} {i : Nat} (h : i < l.length) (hf : (rd_T37 l (i : Int)).f3 = false) : curW l (i + 1) = curW l i := by
  have e : cleanW (rd_T37 l (i : Int)) = rd_T37 l (i : Int) := by unfold cleanW; rw [if_neg (by rw [hf]; decide)]
  rw [← curW_set h, e, ← curW_at h, rdT_get (by rw [curW_len (Nat.le_of_lt h)]; exact h), List.set_getElem_self]
theorem takeT {l : List S37} {i : Nat} (h : i < l.length) : l.take (i + 1) = l.take i ++ [rd_T37 l (i : Int)] := by
  rw [List.take_succ_eq_append_getElem h, rdT_get h]
theorem toldWs_yes {l : List S37} {i : Nat} (h : i < l.length) (hf : (rd_T37 l (i : Int)).f3 = true) : toldWs (l.take (i + 1)) = toldWs (l.take i) ++ [toldW (rd_T37 l (i : Int))] := by
  unfold toldWs
  rw [takeT h, List.filter_append, List.map_append]
  simp [hf]
theorem toldWs_no {l : List S37} {i : Nat} (h : i < l.length) (hf : (rd_T37 l (i : Int)).f3 = false) : toldWs (l.take (i + 1)) = toldWs (l.take i) := by
  unfold toldWs
  rw [takeT h, List.filter_append, List.map_append]
  simp [hf]
theorem toldWs_len (l : List S37) (i : Nat) : (toldWs (l.take i)).length ≤ i := by
  unfold toldWs
  have h1 := List.length_filter_le (·.f3) (l.take i)
  rw [List.length_map]
  rw [List.length_take] at h1
  omega
theorem shortsT_at {l : List S37} (h : shortsT l = true) {i : Nat} (hi : i < l.length) : (rd_T37 l (i : Int)).f0.f1.length ≤ 1048576 ∧ (rd_T37 l (i : Int)).f1.f4.length ≤ 1048576 := by
  have h2 := List.all_eq_true.1 h l[i] (List.getElem_mem hi)
  rw [Bool.and_eq_true] at h2
  rw [rdT_get hi]
  exact ⟨of_decide_eq_true h2.1, of_decide_eq_true h2.2⟩
theorem rd_setW {l : List S37} {n : Nat} (hn : n < l.length) (x : S37) : rd_T37 (l.set n x) (n : Int) = x := by
  unfold rd_T37
  rw [Int.toNat_natCast, List.getD_eq_getElem?_getD, List.getElem?_set_self hn]
  rfl
theorem elemW_out {W : World} {base g m c n : Nat} {P : Nat → Prop} {l : List S37} (h : Kd.S k37 37 W base P (.slice (some ⟨g, 0, none⟩) m c) l) (hn : n < l.length) :
    ∃ (A1 : Option Addr) (c1 : Nat) (A7 : Option Addr) (c7 : Nat), k123.R 123 W base (fun k => P k ∧ k ≠ g) (.slice A1 (rd_T37 l (n : Int)).f0.f1.length c1) (rd_T37 l (n : Int)).f0.f1 ∧ (Kd.int .i64).R 3 W base (fun k => P k ∧ k ≠ g) (.slice A7 (rd_T37 l (n : Int)).f1.f4.length c7) (rd_T37 l (n : Int)).f1.f4 ∧
      (W.cell? ⟨g, n * 11, none⟩ = some (.string (rd_T37 l (n : Int)).f0.f0) ∧ W.cell? ⟨g, n * 11 + 1, none⟩ = some (.slice A1 (rd_T37 l (n : Int)).f0.f1.length c1) ∧ W.cell? ⟨g, n * 11 + 2, none⟩ = some (.int .i64 (rd_T37 l (n : Int)).f0.f2) ∧ W.cell? ⟨g, n * 11 + 3, none⟩ = some (.int .i64 (rd_T37 l (n : Int)).f1.f0) ∧ W.cell? ⟨g, n * 11 + 4, none⟩ = some (.int .i64 (rd_T37 l (n : Int)).f1.f1) ∧ W.cell? ⟨g, n * 11 + 5, none⟩ = some (.int .i64 (rd_T37 l (n : Int)).f1.f2) ∧ W.cell? ⟨g, n * 11 + 6, none⟩ = some (.int .i64 (rd_T37 l (n : Int)).f1.f3) ∧ W.cell? ⟨g, n * 11 + 7, none⟩ = some (.slice A7 (rd_T37 l (n : Int)).f1.f4.length c7) ∧ W.cell? ⟨g, n * 11 + 8, none⟩ = some (.bool (rd_T37 l (n : Int)).f1.f5) ∧ W.cell? ⟨g, n * 11 + 9, none⟩ = some (.int .i64 (rd_T37 l (n : Int)).f2) ∧ W.cell? ⟨g, n * 11 + 10, none⟩ = some (.bool (rd_T37 l (n : Int)).f3)) ∧ (∀ j, W.frozen? ⟨g, n * 11 + j, none⟩ = false) ∧
      ∀ (x : Int) (y : Bool), Kd.S k37 37 ((W.setCell ⟨g, n * 11 + 9, none⟩ (.int .i64 x)).setCell ⟨g, n * 11 + 10, none⟩ (.bool y)) base P (.slice (some ⟨g, 0, none⟩) m c) (l.set n ⟨(rd_T37 l (n : Int)).f0, (rd_T37 l (n : Int)).f1, x, y⟩) := by
  have hm := (Kd.S_reads' h).1
  obtain ⟨oki, cs, hcl, hM, hcc, hfr, hoki, hH⟩ := Kd.S_elem h z37 (n : Int) (by omega) (by omega)
  have hM' : k37.M W base oki (rd_T37 l (n : Int)) cs := hM
  obtain ⟨v1, v7, rfl, hR1, hR7⟩ := k37_openM hM'
  obtain ⟨A1, c1, rfl⟩ := Kd.R_slice hR1
  obtain ⟨A7, c7, rfl⟩ := Kd.R_slice hR7
  have hsz : k37.sz = 11 := rfl
  simp only [Int.toNat_natCast, hsz] at hcc hfr
  refine ⟨A1, c1, A7, c7, Kd.R_mono hR1 hoki, Kd.R_mono hR7 hoki, ⟨by have := hcc 0 _ rfl; simpa using this, hcc 1 _ rfl, hcc 2 _ rfl, hcc 3 _ rfl, hcc 4 _ rfl, hcc 5 _ rfl, hcc 6 _ rfl, hcc 7 _ rfl, hcc 8 _ rfl, hcc 9 _ rfl, hcc 10 _ rfl⟩, hfr, fun x y => ?_⟩
  obtain ⟨hH3, _⟩ := Kd.H_seg hH (by omega) (by omega) (seg := [.int .i64 x, .bool y]) (j := 9) (by show 9 + 2 ≤ 11; omega) (fun q hq => by
    rcases List.mem_cons.1 hq with rfl | hq
    · rfl
    · rw [List.mem_singleton.1 hq]; rfl)
  have hH4 : Kd.H k37 37 ((W.setCell ⟨g, n * 11 + 9, none⟩ (.int .i64 x)).setCell ⟨g, n * 11 + 10, none⟩ (.bool y)) base P (.slice (some ⟨g, 0, none⟩) m c) l (n : Int) oki [.string (rd_T37 l (n : Int)).f0.f0, .slice A1 (rd_T37 l (n : Int)).f0.f1.length c1, .int .i64 (rd_T37 l (n : Int)).f0.f2, .int .i64 (rd_T37 l (n : Int)).f1.f0, .int .i64 (rd_T37 l (n : Int)).f1.f1, .int .i64 (rd_T37 l (n : Int)).f1.f2, .int .i64 (rd_T37 l (n : Int)).f1.f3, .slice A7 (rd_T37 l (n : Int)).f1.f4.length c7, .bool (rd_T37 l (n : Int)).f1.f5, .int .i64 x, .bool y] := hH3
  have hfar : ∀ k, oki k → k ≠ g := fun k hk => (hoki k hk).2
  have hb := Kd.H_back hH4 (x' := ⟨(rd_T37 l (n : Int)).f0, (rd_T37 l (n : Int)).f1, x, y⟩) (k37_mkM _ base _ (⟨(rd_T37 l (n : Int)).f0, (rd_T37 l (n : Int)).f1, x, y⟩ : S37) (Kd.R_far (Kd.R_far hR1 hfar _) hfar _) (Kd.R_far (Kd.R_far hR7 hfar _) hfar _)) (fun k hk => hk)
  rw [Int.toNat_natCast] at hb
  exact hb
end Go.Proofs.YtkgmoajdcibafaaDoor.P
end

section
/- A row's elements by their cells alone, and put together again. No conditions. -/
set_option linter.unusedVariables false
namespace Go.Proofs.YtkgmoajdcibafaaDoor.P
open Go Go.RowKit Go.Proofs.YtkgmoajdcibafaaDoorW.PrintWords Go.Proofs.YtkgmoajdcibafaaDoorW.PrintLast Go.Proofs.YtkgmoajdcibafaaDoorW.PrintMore
section
variable {α : Type} {d : Kd α} {e base : Nat} {ok okr : Nat → Prop} {w W : World} {v : Value} {xs : List α} {rows : List (List Value)}
theorem S_rows (h : Kd.S d e w base ok v xs) : ∃ (f : Nat → Nat) (rows : List (List Value)), rows.length = xs.length ∧ (Kd.raw d.sz).R e w base (fun k => some k = v.ownBlock) v rows ∧ (∀ k, v.ownBlock = some k → ok k) ∧
    ∀ (j : Nat) (x : α) (c : List Value), xs[j]? = some x → rows[j]? = some c → d.M w base (fun k => (ok k ∧ some k ≠ v.ownBlock) ∧ f k = j) x c := by
  obtain ⟨f, h0, inner, ho, hr⟩ := h
  rw [List.length_zipIdx] at ho
  obtain ⟨rs, hrs⟩ : ∃ rs, rs = (List.range xs.length).map fun j => (inner.drop (j * d.sz)).take d.sz := ⟨_, rfl⟩
  have hl : rs.length = xs.length := by rw [hrs]; simp
  have hget : ∀ j c, rs[j]? = some c → j < xs.length ∧ c = (inner.drop (j * d.sz)).take d.sz := by
    intro j c hj
    have hlt : j < xs.length := by have := (List.getElem?_eq_some_iff.1 hj).1; omega
    refine ⟨hlt, ?_⟩
    rw [hrs, List.getElem?_map, List.getElem?_range hlt] at hj
    simpa using hj.symm
  have hM : ∀ (j : Nat) (x : α), xs[j]? = some x → (Kd.tag f d).M w base (fun k => ok k ∧ some k ≠ v.ownBlock) (x, j) ((inner.drop (j * d.sz)).take d.sz) := fun j x hx => hr.2 j (x, j) (Kd.zip_at hx)
  refine ⟨f, rs, hl, ⟨fun k hk => hk.symm, inner, by rw [hl]; exact ho, by rw [hl]; exact ho.1, fun j c hj => ?_⟩, h0, fun j x c hx hc => ?_⟩
  · obtain ⟨hlt, rfl⟩ := hget j c hj
    have h1 := (Kd.tag f d).K_of_M (hM j _ (List.getElem?_eq_getElem hlt))
    exact ⟨rfl, (Kd.tag f d).K_len h1, (Kd.tag f d).K_one h1⟩
  · obtain ⟨_, rfl⟩ := hget j c hc
    exact hM j x hx
open Classical in
theorem S_of_rows (h0 : ∀ k, v.ownBlock = some k → ok k) (hl : rows.length = xs.length) (hR : (Kd.raw d.sz).R e w base okr v rows) (Pj : Nat → Nat → Prop)
    (hM : ∀ (j : Nat) (x : α) (c : List Value), xs[j]? = some x → rows[j]? = some c → d.M w base (Pj j) x c) (hd : ∀ i j k, Pj i k → Pj j k → i = j) (hok : ∀ j k, Pj j k → ok k ∧ some k ≠ v.ownBlock) : Kd.S d e w base ok v xs := by
  obtain ⟨_, inner, ho, hr⟩ := hR
  refine ⟨fun k => if h : ∃ j, Pj j k then h.choose else 0, h0, inner, by rw [List.length_zipIdx, ← hl]; exact ho, by rw [List.length_zipIdx, ← hl]; exact ho.1, fun j p hj => ?_⟩
  rw [List.getElem?_zipIdx, Nat.zero_add] at hj
  obtain ⟨x, hx, rfl⟩ := Option.map_eq_some_iff.1 hj
  have hlt : j < rows.length := by have := (List.getElem?_eq_some_iff.1 hx).1; omega
  have h1 := hr.2 j _ (List.getElem?_eq_getElem hlt)
  have h2 : (inner.drop (j * d.sz)).take d.sz = rows[j] := h1.1
  show d.M w base (fun k => (ok k ∧ some k ≠ v.ownBlock) ∧ (if h : ∃ j, Pj j k then h.choose else 0) = j) x ((inner.drop (j * d.sz)).take d.sz)
  rw [h2]
  refine d.M_mono (fun k hk => ⟨hok j k hk, ?_⟩) (hM j x _ hx (List.getElem?_eq_getElem hlt))
  have he : ∃ j, Pj j k := ⟨j, hk⟩
  rw [dif_pos he]
  exact hd _ _ k he.choose_spec hk
/-- A new row that holds some of another row's elements, in any order, each once. -/
theorem S_moved {f : Nat → Nat} {w1 w3 : World} {v3 : Value} {xs' : List α} {rows' : List (List Value)} (hb : Below w1.heap.size w1 w3) (hM : ∀ (j : Nat) (x : α) (c : List Value), xs[j]? = some x → rows[j]? = some c → d.M w1 base (fun k => (ok k ∧ some k ≠ v.ownBlock) ∧ f k = j) x c)
    (σ : Nat → Nat) (hσ : ∀ i j, σ i = σ j → i = j) (hx : ∀ (j : Nat) (x : α), xs'[j]? = some x → xs[σ j]? = some x) (hr : ∀ (j : Nat) (c : List Value), rows'[j]? = some c → rows[σ j]? = some c) (hl : rows'.length = xs'.length)
    (hR : (Kd.raw d.sz).R e w3 w1.heap.size okr v3 rows') (hb0 : base ≤ w1.heap.size) : Kd.S d e w3 base (fun k => ok k ∨ w1.heap.size ≤ k) v3 xs' := by
  have hnew : ∀ k, v3.ownBlock = some k → w1.heap.size ≤ k := Kd.R_base hR
  refine S_of_rows (fun k hk => .inr (hnew k hk)) hl (Kd.R_lower hR hb0) (fun j k => ((ok k ∧ some k ≠ v.ownBlock) ∧ f k = σ j) ∧ k < w1.heap.size) ?_ (fun i j k h1 h2 => hσ i j (h1.1.2.symm.trans h2.1.2)) (fun j k hk => ⟨.inl hk.1.1.1, fun he => by have := hnew k he.symm; omega⟩)
  intro j x c h1 h2
  have h3 := d.M_bound (hM (σ j) x c (hx j x h1) (hr j c h2))
  exact d.M_mono (fun k hk => ⟨hk.1, hk.2.2.1⟩) (d.M_move (fun k hk => hb.block k hk.2.2.1) h3)
/-- A new row that holds another row's elements and one more. -/
theorem S_inserted {f : Nat → Nat} {w1 w3 : World} {v3 : Value} {x : α} {cx : List Value} {Px : Nat → Prop} {n : Nat} (hb : Below w1.heap.size w1 w3) (hM : ∀ (j : Nat) (x : α) (c : List Value), xs[j]? = some x → rows[j]? = some c → d.M w1 base (fun k => (ok k ∧ some k ≠ v.ownBlock) ∧ f k = j) x c)
    (hx : d.M w1 base Px x cx) (hxP : ∀ k, Px k → ¬ ok k) (hn : n ≤ xs.length) (hl : rows.length = xs.length)
    (hR : (Kd.raw d.sz).R e w3 w1.heap.size okr v3 (rows.take n ++ [cx] ++ rows.drop n)) (hb0 : base ≤ w1.heap.size) : Kd.S d e w3 base (fun k => ok k ∨ Px k ∨ w1.heap.size ≤ k) v3 (xs.take n ++ [x] ++ xs.drop n) := by
  have hnew : ∀ k, v3.ownBlock = some k → w1.heap.size ≤ k := Kd.R_base hR
  have hlen : (xs.take n ++ [x] ++ xs.drop n).length = xs.length + 1 := by simp only [List.length_append, List.length_take, List.length_drop, List.length_singleton]; omega
  refine S_of_rows (fun k hk => .inr (.inr (hnew k hk))) (by simp only [List.length_append, List.length_take, List.length_drop, List.length_singleton]; omega) (Kd.R_lower hR hb0)
    (fun j k => (if j = n then Px k else (ok k ∧ some k ≠ v.ownBlock) ∧ f k = (if j < n then j else j - 1)) ∧ k < w1.heap.size) ?_ ?_ ?_
  · intro j y c h1 h2
    have old : ∀ i, xs[i]? = some y → rows[i]? = some c → d.M w3 base (fun k => ((ok k ∧ some k ≠ v.ownBlock) ∧ f k = i) ∧ k < w1.heap.size) y c := fun i q1 q2 => by
      have h3 := d.M_bound (hM i y c q1 q2)
      exact d.M_mono (fun k hk => ⟨hk.1, hk.2.2.1⟩) (d.M_move (fun k hk => hb.block k hk.2.2.1) h3)
    by_cases e1 : j = n
    · subst e1
      have h3 : y = x := by
        rw [List.append_assoc, List.getElem?_append_right (by rw [List.length_take]; omega), List.length_take, Nat.min_eq_left hn, Nat.sub_self] at h1
        simpa using h1.symm
      have h4 : c = cx := by
        rw [List.append_assoc, List.getElem?_append_right (by rw [List.length_take]; omega), List.length_take, Nat.min_eq_left (by omega), Nat.sub_self] at h2
        simpa using h2.symm
      subst h3; subst h4
      have h5 := d.M_bound hx
      exact d.M_mono (fun k hk => ⟨by rw [if_pos rfl]; exact hk.1, hk.2.2.1⟩) (d.M_move (fun k hk => hb.block k hk.2.2.1) h5)
    · by_cases e2 : j < n
      · rw [List.append_assoc, List.getElem?_append_left (by rw [List.length_take]; omega), List.getElem?_take, if_pos e2] at h1 h2
        exact d.M_mono (fun k hk => ⟨by rw [if_neg e1, if_pos e2]; exact hk.1, hk.2⟩) (old j h1 h2)
      · have q1 : xs[j - 1]? = some y := by
          rw [List.getElem?_append_right (by simp only [List.length_append, List.length_take, List.length_singleton]; omega), List.getElem?_drop] at h1
          rw [← h1]; congr 1; simp only [List.length_append, List.length_take, List.length_singleton]; omega
        have q2 : rows[j - 1]? = some c := by
          rw [List.getElem?_append_right (by simp only [List.length_append, List.length_take, List.length_singleton]; omega), List.getElem?_drop] at h2
          rw [← h2]; congr 1; simp only [List.length_append, List.length_take, List.length_singleton]; omega
        exact d.M_mono (fun k hk => ⟨by rw [if_neg e1, if_neg e2]; exact hk.1, hk.2⟩) (old (j - 1) q1 q2)
  · intro i j k h1 h2
    have a1 := h1.1
    have a2 := h2.1
    by_cases e1 : i = n
    · rw [if_pos e1] at a1
      by_cases e2 : j = n
      · omega
      · rw [if_neg e2] at a2; exact absurd a2.1.1 (hxP k a1)
    · rw [if_neg e1] at a1
      by_cases e2 : j = n
      · rw [if_pos e2] at a2; exact absurd a1.1.1 (hxP k a2)
      · rw [if_neg e2] at a2
        have h3 := a1.2.symm.trans a2.2
        split at h3 <;> split at h3 <;> omega
  · intro j k hk
    refine ⟨?_, fun he => by have := hnew k he.symm; have := hk.2; omega⟩
    have a := hk.1
    by_cases e1 : j = n
    · rw [if_pos e1] at a; exact .inr (.inl a)
    · rw [if_neg e1] at a; exact .inl a.1.1
theorem erase_ix {β : Type} (l : List β) (n j : Nat) (x : β) (h : (l.eraseIdx n)[j]? = some x) : l[if j < n then j else j + 1]? = some x := by
  rw [List.getElem?_eraseIdx] at h
  split <;> simp_all
theorem erase_rows {β : Type} (l : List β) (n : Nat) : l.take n ++ l.drop (n + 1) = l.eraseIdx n := (List.eraseIdx_eq_take_drop_succ l n).symm
theorem skip_inj (n : Nat) : ∀ i j : Nat, (if i < n then i else i + 1) = (if j < n then j else j + 1) → i = j := by
  intro i j h
  split at h <;> split at h <;> omega
theorem M_after {x : α} {c : List Value} (h : d.M w base ok x c) (hb : Below w.heap.size w W) : d.M W base ok x c := d.M_mono (fun k hk => hk.1) (d.M_move (fun k hk => hb.block k hk.2.2.1) (d.M_bound h))
theorem S_shape {A : Option Addr} {n c : Nat} (h : Kd.S d e w base ok (.slice A n c) xs) : (A = none ∧ n = 0 ∧ c = 0 ∧ xs = []) ∨ ∃ g, A = some ⟨g, 0, none⟩ := by
  have hn := (Kd.S_reads' h).1
  obtain ⟨inner, ho⟩ := Kd.S_own h
  rcases ho.2 with ⟨h2, h3⟩ | ⟨g', c', cur, hv', _⟩
  · injection h2 with ha hb hc
    subst ha; subst hb; subst hc
    exact .inl ⟨rfl, rfl, rfl, List.eq_nil_of_length_eq_zero hn.symm⟩
  · injection hv' with ha _ _
    exact .inr ⟨g', ha⟩
theorem R_form3 {α : Type} {d : Kd α} {e base : Nat} {ok : Nat → Prop} {w : World} {v : Value} {xs : List α} (h : d.R e w base ok v xs) : ∃ A n c, v = .slice A n c := by
  obtain ⟨A, c, h⟩ := Kd.R_slice h
  exact ⟨A, _, c, h⟩
theorem raw_take {A : Option Addr} {m n c : Nat} (hR : (Kd.raw d.sz).R e w base okr (.slice A m c) rows) (hn : n ≤ rows.length) : ReadsRow ((Kd.raw d.sz).K w) (Kd.raw d.sz).sz w A n (rows.take n) := by
  have h := Kd.C_take (Kd.R_reads' hR).2.2 hn
  rw [List.length_take, Nat.min_eq_left hn] at h
  exact h
theorem raw_drop {A A' : Option Addr} {m n c : Nat} (hR : (Kd.raw d.sz).R e w base okr (.slice A m c) rows) (hn : n ≤ rows.length) (hA : A' = if c = n then A else A.map (·.add (n * d.sz))) : ReadsRow ((Kd.raw d.sz).K w) (Kd.raw d.sz).sz w A' (m - n) (rows.drop n) := by
  have h0 := Kd.R_reads' hR
  have h := Kd.C_drop (c := c) h0.2.2 hn (by have := h0.1; have := h0.2.1; omega)
  rw [List.length_drop, ← h0.1] at h
  rw [hA]
  exact h
theorem raw_all {A : Option Addr} {m c : Nat} (hR : (Kd.raw d.sz).R e w base okr (.slice A m c) rows) : ReadsRow ((Kd.raw d.sz).K w) (Kd.raw d.sz).sz w A m rows := by
  have h := Kd.R_reads' hR
  rw [h.1]
  exact h.2.2
theorem raw_reads {A : Option Addr} {n c : Nat} (hR : (Kd.raw d.sz).R e w base okr (.slice A n c) rows) : n = rows.length ∧ n ≤ c ∧ (Kd.raw d.sz).C w A rows.length rows := Kd.R_reads' hR
end
end Go.Proofs.YtkgmoajdcibafaaDoor.P
end

section
/- spec.TellDirty: what is dirty is told; what is told lies apart from the board. No conditions of its own. -/
set_option linter.unusedVariables false
set_option linter.unusedSimpArgs false
namespace Go.Proofs.YtkgmoajdcibafaaDoor.P
open Go Go.RowKit Go.Proofs.YtkgmoajdcibafaaDoorW.PrintWords Go.Proofs.YtkgmoajdcibafaaDoorW.PrintLast Go.Proofs.YtkgmoajdcibafaaDoorW.PrintMore
attribute [local go_sem] max2_int min2_int max_two min_two max_three min_three max_four min_four str_geq str_gtr str_leq
def tabT17 : Bool × List (List Nat × List Nat) := (true, [([], []), ([], []), ([1], [1]), ([2], [2]), ([], []), ([4], [4]), ([5], [5]), ([], []), ([7], [7]), ([8, 3], [8]), ([3, 6, 9], [3, 6, 9]), ([10], [10]), ([0, 11, 9], [0, 11]), ([12, 12, 0, 1, 2, 3, 4, 5, 6, 7, 8, 9, 10, 11, 12], [0, 12])])
def bitT17 : List Nat := [0, 0, 2, 6, 0, 16, 48, 0, 128, 398, 1022, 2046, 4095, 8191]
theorem tabT17_ok : rtab .any (opsOf Tryd.f36 17) = tabT17 := by kernel_rfl
theorem bitT17_ok : waitsOk tabT17.2 bitT17 = true := by kernel_rfl
def badW (x : S37) : Bool := x.f3 && (x.f2 == 1000000)
def spec_TellDirty.f (k : Nat) (a b c : Int) (l : List S37) : Option (Int × Int × Int × List S37 × List S96 × Int) := (spec_GoodBoard.f k a b c l).bind fun t => if t = true then ((spec_l11Own.f k a b c l).bind fun q => if shortsT q.2.2.2 = true ∧ q.2.2.2.length ≤ 1000000000 then (if q.2.2.2.any badW = true then some (q.1, q.2.1, q.2.2.1, q.2.2.2, [], 1) else some (q.1, q.2.1, q.2.2.1, q.2.2.2.map cleanW, toldWs q.2.2.2, 0)) else none) else some (0, 0, 0, [], [], 1)
theorem any_at {l : List S37} {i : Nat} (hi : i < l.length) (h : badW (rd_T37 l (i : Int)) = true) : l.any badW = true := by
  rw [rdT_get hi] at h
  exact List.any_eq_true.2 ⟨_, List.getElem_mem hi, h⟩
theorem any_none {l : List S37} (h : ∀ j, j < l.length → badW (rd_T37 l (j : Int)) = false) : l.any badW = false := by
  rw [List.any_eq_false]
  intro x hx
  obtain ⟨j, hj, rfl⟩ := List.getElem_of_mem hx
  have := h j hj
  rw [rdT_get hj] at this
  rw [this]; decide
set_option maxHeartbeats 8000000 in
set_option maxRecDepth 100000 in
theorem spec_TellDirty.calls (k : Nat) (a0_0 : Int) (a0_1 : Int) (a0_2 : Int) (A0_3 : Option Addr) (c0_3 : Nat) (l0_3 : List (S37)) (r1 : Int) (r2 : Int) (r3 : Int) (r4 : List (S37)) (r5 : List (S96)) (r6 : Int) (w : World) (hr0_3 : Kd.C k37 w A0_3 l0_3.length l0_3) (hc0_3 : l0_3.length ≤ c0_3) (h : spec_TellDirty.f k a0_0 a0_1 a0_2 l0_3 = some (r1, r2, r3, r4, r5, r6)) :
 Calls Tryd.prog 36 #[.agg #[.int .i64 a0_0, .int .i64 a0_1, .int .i64 a0_2, .slice A0_3 l0_3.length c0_3]] w fun e w' => ∃ v3_ v4_ : Value, e = .returned (.tuple #[.agg #[.int .i64 r1, .int .i64 r2, .int .i64 r3, v3_], v4_, .int .i64 r6]) ∧ TwoS k37 37 k96 96 w' w.heap.size v3_ r4 v4_ r5 ∧ Below w.heap.size w w' := by
  have hu := Tryd.underlying42
  have hu2 := Tryd.underlying37
  have hu3 := Tryd.underlying32
  have hu4 := Tryd.underlying35
  have hu5 := Tryd.underlying96
  have HR := aM hr0_3
  have HC := aM hc0_3
  have HB := aM (Below.refl w.heap.size w)
  clear hr0_3 hc0_3
  obtain ⟨t, e1, h⟩ := Option.bind_eq_some_iff.1 h
  have E1 := aM e1
  clear e1
  cases t with
  | false =>
    simp only [Bool.false_eq_true, if_false, Option.some.injEq, Prod.mk.injEq] at h
    obtain ⟨rfl, rfl, rfl, rfl, rfl, rfl⟩ := h
    go_enter Tryd.func36, Tryd.ntmps36
    go_wp2_with (first | ((with_reducible refine gate_dst (N := 1) rfl ?_); refine bX 1 42 #[.int .i64 a0_0, .int .i64 a0_1, .int .i64 a0_2, .slice A0_3 l0_3.length c0_3] ?_; intro b1 hg w1 hbox hb; have X1 := aM hbox; have G1 := aM (show w.heap.size ≤ b1 from by rw [hg]; exact HB.out.size); replace HB := aM (below_after HB.out hb); clear hg hbox hb; have hz1 := cellsZ4 X1.out) | ((with_reducible refine gate_dst (N := 2) rfl ?_); refine bX 2 42 #[.int .i64 0, .int .i64 0, .int .i64 0, .slice none 0 0] ?_; intro bR hg w2 hbox hb; have XR := aM hbox; have GR := aM (show w.heap.size ≤ bR from by rw [hg]; exact HB.out.size); have NR1 := aM (show bR ≠ b1 from by rw [hg]; exact Nat.ne_of_gt (blk_lt X1.out)); replace X1 := aM (blk_below X1.out hb); replace HB := aM (below_after HB.out hb); clear hz1 hg hbox hb; have hz1 := cellsZ4 X1.out; have hzR := cellsZ4 XR.out) | ((with_reducible refine gate_callee (f := 40) rfl ?_); refine gL 11 Tryd.func40 #[.agg #[.int .i64 a0_0, .int .i64 a0_1, .int .i64 a0_2, .slice A0_3 l0_3.length c0_3]] ?_; (with_reducible refine (spec_GoodBoard.calls k a0_0 a0_1 a0_2 _ _ l0_3 false _ (Kd.C_below HR.out HB.out) HC.out E1.out).mono ?_); rintro e w3 ⟨rfl, hb⟩; refine ⟨_, rfl, ?_⟩; replace X1 := aM (blk_below X1.out hb); replace XR := aM (blk_below XR.out hb); replace HB := aM (below_after HB.out hb); clear hz1 hzR hb; have hz1 := cellsZ4 X1.out; have hzR := cellsZ4 XR.out))
    refine bodyPost_ret (results_ctt rfl _ _ bR 42 #[.int .i64 0, .int .i64 0, .int .i64 0, .slice none 0 0] (0, 0) _ rfl (by with_reducible exact blk_put4 XR.out) Tryd.underlying42 rfl (by kernel_rfl)) rfl ?_
    exact ⟨_, _, rfl, ⟨fun _ => False, fun _ => False, fun _ h => h.elim, Kd.S_nil _ _ _ _ _, Kd.S_nil _ _ _ _ _⟩, below_set (below_set (below_set (below_set HB.out GR.out) GR.out) GR.out) GR.out⟩
  | true =>
    simp only [if_true] at h
    obtain ⟨⟨q1, q2, q3, q4⟩, e2, h⟩ := Option.bind_eq_some_iff.1 h
    have E2 := aM e2
    clear e2
    dsimp only at h
    have hj := ifS h
    clear h
    obtain ⟨⟨hsh, hbig⟩, h1⟩ := hj
    have HH := aM h1
    have HSH := aM hsh
    have HBIG := aM hbig
    clear hsh hbig h1
    go_enter Tryd.func36, Tryd.ntmps36
    go_upto_region 4 with (first | ((with_reducible refine gate_dst (N := 1) rfl ?_); refine bX 1 42 #[.int .i64 a0_0, .int .i64 a0_1, .int .i64 a0_2, .slice A0_3 l0_3.length c0_3] ?_; intro b1 hg w1 hbox hb; have X1 := aM hbox; have G1 := aM (show w.heap.size ≤ b1 from by rw [hg]; exact HB.out.size); replace HB := aM (below_after HB.out hb); clear hg hbox hb; have hz1 := cellsZ4 X1.out) | ((with_reducible refine gate_dst (N := 2) rfl ?_); refine bX 2 42 #[.int .i64 0, .int .i64 0, .int .i64 0, .slice none 0 0] ?_; intro bR hg w2 hbox hb; have XR := aM hbox; have GR := aM (show w.heap.size ≤ bR from by rw [hg]; exact HB.out.size); have NR1 := aM (show bR ≠ b1 from by rw [hg]; exact Nat.ne_of_gt (blk_lt X1.out)); replace X1 := aM (blk_below X1.out hb); replace HB := aM (below_after HB.out hb); clear hz1 hg hbox hb; have hz1 := cellsZ4 X1.out; have hzR := cellsZ4 XR.out) | ((with_reducible refine gate_callee (f := 40) rfl ?_); refine gL 11 Tryd.func40 #[.agg #[.int .i64 a0_0, .int .i64 a0_1, .int .i64 a0_2, .slice A0_3 l0_3.length c0_3]] ?_; (with_reducible refine (spec_GoodBoard.calls k a0_0 a0_1 a0_2 _ _ l0_3 true _ (Kd.C_below HR.out HB.out) HC.out E1.out).mono ?_); rintro e w3 ⟨rfl, hb⟩; refine ⟨_, rfl, ?_⟩; replace X1 := aM (blk_below X1.out hb); replace XR := aM (blk_below XR.out hb); replace HB := aM (below_after HB.out hb); clear hz1 hzR hb; have hz1 := cellsZ4 X1.out; have hzR := cellsZ4 XR.out) | ((with_reducible refine gate_callee (f := 43) rfl ?_); refine gL 15 Tryd.func43 #[.agg #[.int .i64 a0_0, .int .i64 a0_1, .int .i64 a0_2, .slice A0_3 l0_3.length c0_3]] ?_; (with_reducible refine (spec_l11Own.calls k a0_0 a0_1 a0_2 _ _ l0_3 q1 q2 q3 q4 _ (Kd.C_below HR.out HB.out) HC.out E2.out).mono ?_); rintro e w4 ⟨v3, rfl, hs, hb⟩; refine ⟨_, rfl, ?_⟩; obtain ⟨Ac, cc, rfl⟩ := Kd.S_slice hs; have SK := aM (Kd.S_lower hs HB.out.size); replace X1 := aM (blk_below X1.out hb); replace XR := aM (blk_below XR.out hb); replace HB := aM (below_after HB.out hb); clear hz1 hzR hb hs; have hz1 := cellsZ4 X1.out; have hzR := cellsZ4 XR.out))
    have Y1 := aM (show ((((w4.setCell ⟨b1, 0, none⟩ (.int .i64 q1)).setCell ⟨b1, 1, none⟩ (.int .i64 q2)).setCell ⟨b1, 2, none⟩ (.int .i64 q3)).setCell ⟨b1, 3, none⟩ (.slice Ac q4.length cc)).heap[b1]? = some (.cells #[.int .i64 q1, .int .i64 q2, .int .i64 q3, .slice Ac q4.length cc] 42 (0, 0)) from by with_reducible exact blk_put4 X1.out)
    have HO := aM (show Only w4 ((((w4.setCell ⟨b1, 0, none⟩ (.int .i64 q1)).setCell ⟨b1, 1, none⟩ (.int .i64 q2)).setCell ⟨b1, 2, none⟩ (.int .i64 q3)).setCell ⟨b1, 3, none⟩ (.slice Ac q4.length cc)) b1 from by repeat (first | (with_reducible apply Only.set) | exact Only.refl _ _))
    generalize (((w4.setCell ⟨b1, 0, none⟩ (.int .i64 q1)).setCell ⟨b1, 1, none⟩ (.int .i64 q2)).setCell ⟨b1, 2, none⟩ (.int .i64 q3)).setCell ⟨b1, 3, none⟩ (.slice Ac q4.length cc) = w7 at Y1 HO ⊢
    have YR := aM ((HO.out.2.2.2.2 bR NR1.out).trans XR.out)
    have HB7 := aM (below_only HB.out G1.out HO.out)
    have SK7 := aM (Kd.S_step (Kd.S_types SK.out X1.out (by decide)) (fun k hk _ => HO.out.2.2.2.2 k hk.2))
    clear hz1 hzR X1 XR HB SK HO
    have hz1 := cellsZ4 Y1.out
    go_wp2_with fail
    clear hz1
    go_loopg [19] q4.length (fun kq v19 w' => ∃ (i : Nat) (P : Nat → Prop), v19 = .int .i64 i ∧ Aside0 (i + kq = q4.length) ∧ Aside0 (∀ j, j < i → badW (rd_T37 q4 (j : Int)) = false) ∧ Aside0 (Kd.S k37 37 w' w.heap.size P (.slice Ac q4.length cc) q4) ∧ Aside0 (w'.heap[b1]? = some (.cells #[.int .i64 q1, .int .i64 q2, .int .i64 q3, .slice Ac q4.length cc] 42 (0, 0))) ∧ Aside0 (w'.heap[bR]? = some (.cells #[.int .i64 0, .int .i64 0, .int .i64 0, .slice none 0 0] 42 (0, 0))) ∧ Aside0 (Below w.heap.size w w'))
    case atStart => exact ⟨0, _, rfl, ⟨Nat.zero_add _⟩, ⟨fun j hj => absurd hj (Nat.not_lt_zero j)⟩, SK7, Y1, YR, HB7⟩
    case round =>
      clear Y1 YR HB7 SK7
      obtain ⟨i, P, rfl, HI, HN, SK, X1, XR, HB⟩ := hrel
      cases gk with
      | zero =>
        have hi : i = q4.length := by have := HI.out; omega
        subst hi
        have hd : decide ((q4.length : Int) < (q4.length : Int)) = false := decide_eq_false (by omega)
        have hdn : decide (q4.length < q4.length) = false := decide_eq_false (by omega)
        have hz1 := cellsZ4 X1.out
        have h := HH.out
        rw [if_neg (by rw [any_none HN.out]; decide)] at h
        simp only [Option.some.injEq, Prod.mk.injEq] at h
        obtain ⟨rfl, rfl, rfl, rfl, rfl, rfl⟩ := h
        clear HI HN HH
        go_wp2_with fail
        clear hz1 hd hdn
        go_loopg [35, 7] q4.length (fun kq v35 v7 w' => ∃ (i : Nat) (P Q : Nat → Prop), v35 = .int .i64 i ∧ Aside0 (i + kq = q4.length) ∧ Aside0 (∀ k, P k → ¬ Q k) ∧ Aside0 (Kd.S k37 37 w' w.heap.size P (.slice Ac q4.length cc) (curW q4 i)) ∧ Aside0 (Kd.S k96 96 w' w.heap.size Q v7 (toldWs (q4.take i))) ∧ Aside0 (w'.heap[bR]? = some (.cells #[.int .i64 0, .int .i64 0, .int .i64 0, .slice none 0 0] 42 (0, 0))) ∧ Aside0 (w'.heap[b1]? = some (.cells #[.int .i64 q1, .int .i64 q2, .int .i64 q3, .slice Ac q4.length cc] 42 (0, 0))) ∧ Aside0 (Below w.heap.size w w'))
        case atStart => exact ⟨0, P, fun _ => False, rfl, ⟨Nat.zero_add _⟩, ⟨fun _ _ h => h⟩, ⟨by rw [curW_zero]; exact SK.out⟩, ⟨Kd.S_nil _ _ _ _ _⟩, XR, X1, HB⟩
        case round =>
          clear X1 XR HB SK
          obtain ⟨i, P, Q, rfl, HI, HPQ, SK, SG, XR, X1, HB⟩ := hrel
          obtain ⟨A6, n6, c6, rfl⟩ := S_slice3 SG.out
          cases gk with
          | zero =>
            have hi : i = q4.length := by have := HI.out; omega
            subst hi
            have hd : decide ((q4.length : Int) < (q4.length : Int)) = false := decide_eq_false (by omega)
            have hdn : decide (q4.length < q4.length) = false := decide_eq_false (by omega)
            have hzR := cellsZ4 XR.out
            have hz1 := cellsZ4 X1.out
            clear HI
            go_wp2
            refine bodyPost_ret (results_ctt rfl _ _ bR 42 #[.int .i64 q1, .int .i64 q2, .int .i64 q3, .slice Ac q4.length cc] (0, 0) _ rfl (by with_reducible exact blk_put4 XR.out) Tryd.underlying42 rfl (by kernel_rfl)) rfl ?_
            have SK2 := Kd.S_types SK.out XR.out (by decide)
            have SG2 := Kd.S_types SG.out XR.out (by decide)
            rw [List.take_length] at SG2
            rw [curW_end] at SK2
            exact ⟨_, _, rfl, ⟨_, _, fun k h1 h2 => HPQ.out k h1.1 h2.1, Kd.S_far (Kd.S_far (Kd.S_far (Kd.S_far SK2 (fun k hk => hk.2) _) (fun k hk => hk.2) _) (fun k hk => hk.2) _) (fun k hk => hk.2) _, Kd.S_far (Kd.S_far (Kd.S_far (Kd.S_far SG2 (fun k hk => hk.2) _) (fun k hk => hk.2) _) (fun k hk => hk.2) _) (fun k hk => hk.2) _⟩, below_set (below_set (below_set (below_set HB.out GR.out) GR.out) GR.out) GR.out⟩
          | succ kk =>
            have hlt : i < q4.length := by have := HI.out; omega
            have HLT := aM hlt
            have HCL := aM (curW_len (Nat.le_of_lt hlt))
            rcases S_shape SK.out with ⟨_, hl0, _, _⟩ | ⟨g, rfl⟩
            · omega
            obtain ⟨A1, c1, A7, c7, hR1, hR7, ⟨hc0, hc1, hc2, hc3, hc4, hc5, hc6, hc7, hc8, hc9, hc10⟩, hfr, hback⟩ := elemW_out SK.out (by rw [HCL.out]; exact hlt)
            have hx : rd_T37 (curW q4 i) (i : Int) = rd_T37 q4 (i : Int) := curW_at hlt
            rw [hx] at hR1 hR7 hc0 hc1 hc2 hc3 hc4 hc5 hc6 hc7 hc8 hc9 hc10 hback
            have hsx := shortsT_at HSH.out hlt
            have HTL := aM (toldWs_len q4 i)
            have HTY := aM (toldWs_yes hlt)
            have HTN := aM (toldWs_no hlt)
            have HCY := aM (curW_set hlt)
            have HCN := aM (curW_same hlt)
            have hxx := hx
            clear hx
            generalize rd_T37 q4 (i : Int) = x at *
            have HXX := aM hxx
            clear hxx
            have HSX := aM hsx
            have HFR := aM hfr
            have R1 := aM hR1
            have R7 := aM hR7
            have hi0 : (0 : Int) ≤ (i : Int) := Int.natCast_nonneg i
            have hil : (i : Int) < (q4.length : Int) := by omega
            have hd : decide ((i : Int) < (q4.length : Int)) = true := decide_eq_true hil
            have hdn : decide (i < q4.length) = true := decide_eq_true hlt
            have hiw : IntKind.i64.wrap ((i : Int) + 1) = (i : Int) + 1 := by rw [IntKind.wrap_i64]; have := HBIG.out; omega
            have HGP := aM ((Kd.S_R SK.out).1 g rfl)
            have HGB := aM (Kd.S_base SK.out g rfl)
            have HGL := aM (Kd.S_lt SK.out g rfl)
            clear hsx hback hR1 hR7 hfr
            go_upto_region 14 with (first | ((with_reducible refine gate_dst (N := 9) rfl ?_); refine bX 9 37 #[.string (⟨#[]⟩ : ByteArray), .slice none 0 0, .int .i64 0, .int .i64 0, .int .i64 0, .int .i64 0, .int .i64 0, .slice none 0 0, .bool false, .int .i64 0, .bool false] ?_; intro bW hg w8 hbox hb; have XW := aM hbox; have GW := aM hg; have BW := aM hb; replace hc0 := (hb.cell (World.block_lt_of_cell? _ _ hc0)).trans hc0; replace hc1 := (hb.cell (World.block_lt_of_cell? _ _ hc1)).trans hc1; replace hc2 := (hb.cell (World.block_lt_of_cell? _ _ hc2)).trans hc2; replace hc3 := (hb.cell (World.block_lt_of_cell? _ _ hc3)).trans hc3; replace hc4 := (hb.cell (World.block_lt_of_cell? _ _ hc4)).trans hc4; replace hc5 := (hb.cell (World.block_lt_of_cell? _ _ hc5)).trans hc5; replace hc6 := (hb.cell (World.block_lt_of_cell? _ _ hc6)).trans hc6; replace hc7 := (hb.cell (World.block_lt_of_cell? _ _ hc7)).trans hc7; replace hc8 := (hb.cell (World.block_lt_of_cell? _ _ hc8)).trans hc8; replace hc9 := (hb.cell (World.block_lt_of_cell? _ _ hc9)).trans hc9; replace hc10 := (hb.cell (World.block_lt_of_cell? _ _ hc10)).trans hc10; clear hg hbox hb; have hzW := cellsZ11 XW.out))
            have YW := aM (show ((((((((((((w8.setCell ⟨bW, 0, none⟩ (.string x.f0.f0)).setCell ⟨bW, 1, none⟩ (.slice A1 x.f0.f1.length c1)).setCell ⟨bW, 2, none⟩ (.int .i64 x.f0.f2)).setCell ⟨bW, 3, none⟩ (.int .i64 x.f1.f0)).setCell ⟨bW, 4, none⟩ (.int .i64 x.f1.f1)).setCell ⟨bW, 5, none⟩ (.int .i64 x.f1.f2)).setCell ⟨bW, 6, none⟩ (.int .i64 x.f1.f3)).setCell ⟨bW, 7, none⟩ (.slice A7 x.f1.f4.length c7)).setCell ⟨bW, 8, none⟩ (.bool x.f1.f5)).setCell ⟨bW, 9, none⟩ (.int .i64 x.f2)).setCell ⟨bW, 10, none⟩ (.bool x.f3))).heap[bW]? = some (.cells #[.string x.f0.f0, .slice A1 x.f0.f1.length c1, .int .i64 x.f0.f2, .int .i64 x.f1.f0, .int .i64 x.f1.f1, .int .i64 x.f1.f2, .int .i64 x.f1.f3, .slice A7 x.f1.f4.length c7, .bool x.f1.f5, .int .i64 x.f2, .bool x.f3] 37 (0, 0)) from by with_reducible exact blk_put11 XW.out)
            have HO := aM (show Only w8 ((((((((((((w8.setCell ⟨bW, 0, none⟩ (.string x.f0.f0)).setCell ⟨bW, 1, none⟩ (.slice A1 x.f0.f1.length c1)).setCell ⟨bW, 2, none⟩ (.int .i64 x.f0.f2)).setCell ⟨bW, 3, none⟩ (.int .i64 x.f1.f0)).setCell ⟨bW, 4, none⟩ (.int .i64 x.f1.f1)).setCell ⟨bW, 5, none⟩ (.int .i64 x.f1.f2)).setCell ⟨bW, 6, none⟩ (.int .i64 x.f1.f3)).setCell ⟨bW, 7, none⟩ (.slice A7 x.f1.f4.length c7)).setCell ⟨bW, 8, none⟩ (.bool x.f1.f5)).setCell ⟨bW, 9, none⟩ (.int .i64 x.f2)).setCell ⟨bW, 10, none⟩ (.bool x.f3))) bW from by repeat (first | (with_reducible apply Only.set) | exact Only.refl _ _))
            generalize (((((((((((w8.setCell ⟨bW, 0, none⟩ (.string x.f0.f0)).setCell ⟨bW, 1, none⟩ (.slice A1 x.f0.f1.length c1)).setCell ⟨bW, 2, none⟩ (.int .i64 x.f0.f2)).setCell ⟨bW, 3, none⟩ (.int .i64 x.f1.f0)).setCell ⟨bW, 4, none⟩ (.int .i64 x.f1.f1)).setCell ⟨bW, 5, none⟩ (.int .i64 x.f1.f2)).setCell ⟨bW, 6, none⟩ (.int .i64 x.f1.f3)).setCell ⟨bW, 7, none⟩ (.slice A7 x.f1.f4.length c7)).setCell ⟨bW, 8, none⟩ (.bool x.f1.f5)).setCell ⟨bW, 9, none⟩ (.int .i64 x.f2)).setCell ⟨bW, 10, none⟩ (.bool x.f3)) = w9 at YW HO ⊢
            have B9 := aM (below_only BW.out (Nat.le_of_eq GW.out.symm) HO.out)
            clear hzW XW BW HO hc0 hc1 hc2 hc3 hc4 hc5 hc6 hc7 hc8 hc9 hc10
            replace SK := aM (Kd.S_old SK.out B9.out)
            replace SG := aM (Kd.S_old SG.out B9.out)
            replace X1 := aM (blk_below X1.out B9.out)
            replace XR := aM (blk_below XR.out B9.out)
            replace R1 := aM (Kd.R_below R1.out B9.out)
            replace R7 := aM (Kd.R_below R7.out B9.out)
            replace HB := aM (below_after HB.out B9.out)
            have HGW := aM (show bW ≠ g from fun he => by have h1 := GW.out; have h2 := HGL.out; omega)
            have H9 := aM (show wr.heap.size ≤ w9.heap.size from B9.out.size)
            have hzW := cellsZ11 YW.out
            cases hdy : x.f3 with
            | false =>
              rw [hdy] at hzW
              have EX := aM (HTN.out hdy)
              have EC := aM (HCN.out hdy)
              clear hdy
              go_wp2
              go_roundg kk
              case rel => exact ⟨i + 1, (fun k => P k ∧ k < wr.heap.size), (fun k => Q k ∧ k < wr.heap.size), by go_num, ⟨by have := HI.out; omega⟩, ⟨fun k h1 h2 => HPQ.out k h1.1 h2.1⟩, ⟨by rw [EC.out]; exact SK.out⟩, ⟨by rw [EX.out]; exact SG.out⟩, XR, X1, HB⟩
              case measure => exact Nat.lt_succ_self _
            | true =>
              rw [hdy] at hzW YW
              have EX := aM (HTY.out hdy)
              have hcl : cleanW x = (⟨x.f0, x.f1, wrap64 (x.f2 + 1), false⟩ : S37) := by unfold cleanW; rw [if_pos hdy]
              have EC := aM (HCY.out)
              rw [hcl] at EC
              have hdy2 := hdy
              obtain ⟨A1', c1', A7', c7', _, _, ⟨_, _, _, _, _, _, _, _, _, hd9, _⟩, hfr, hback⟩ := elemW_out SK.out (n := i) (by rw [HCL.out]; exact HLT.out)
              have hx : rd_T37 (curW q4 i) (i : Int) = x := HXX.out
              rw [hx] at hd9 hback
              have hf9 := hfr 9
              have hf10 := hfr 10
              have HBK := aM hback
              have hz1 := cellsZ4 X1.out
              clear hdy hdy2 hcl hback hfr hx 
              go_upto_region 17 with fail
              (try simp only [Act.put, List.setIfInBounds_toArray, List.set_cons_zero, List.set_cons_succ])
              have SK9 := aM (HBK.out (wrap64 (x.f2 + 1)) false)
              have HO := aM (show Only w9 ((w9.setCell ⟨g, i * 11 + 9, none⟩ (.int .i64 (wrap64 (x.f2 + 1)))).setCell ⟨g, i * 11 + 10, none⟩ (.bool false)) g from by repeat (first | (with_reducible apply Only.set) | exact Only.refl _ _))
              generalize (w9.setCell ⟨g, i * 11 + 9, none⟩ (.int .i64 (wrap64 (x.f2 + 1)))).setCell ⟨g, i * 11 + 10, none⟩ (.bool false) = w10 at SK9 HO ⊢
              clear hzW hd9 hf9 hf10 hz1
              rw [EC.out] at SK9
              have NRG := aM (show bR ≠ g from fun he => Kd.S_ne SK.out XR.out (by decide) (by rw [he]; rfl))
              have N1G := aM (show b1 ≠ g from fun he => Kd.S_ne SK.out X1.out (by decide) (by rw [he]; rfl))
              replace XR := aM ((HO.out.2.2.2.2 bR NRG.out).trans XR.out)
              replace X1 := aM ((HO.out.2.2.2.2 b1 N1G.out).trans X1.out)
              replace YW := aM ((HO.out.2.2.2.2 bW HGW.out).trans YW.out)
              replace SG := aM (Kd.S_step SG.out (fun k hk _ => HO.out.2.2.2.2 k (fun he => HPQ.out g HGP.out (he ▸ hk.1))))
              replace R1 := aM (Kd.R_step R1.out (fun k hk _ => HO.out.2.2.2.2 k hk.2))
              replace R7 := aM (Kd.R_step R7.out (fun k hk _ => HO.out.2.2.2.2 k hk.2))
              replace HB := aM (below_only HB.out HGB.out HO.out)
              replace H9 := aM (show wr.heap.size ≤ w10.heap.size from Nat.le_trans H9.out (Nat.le_of_eq HO.out.2.2.2.1.symm))
              clear SK HO HBK
              have hb := (below_drew (Below.refl _ _) : Below w10.heap.size w10 w10.drew)
              replace SK9 := aM (Kd.S_below SK9.out hb)
              replace SG := aM (Kd.S_below SG.out hb)
              replace XR := aM (blk_below XR.out hb)
              replace X1 := aM (blk_below X1.out hb)
              replace YW := aM (blk_below YW.out hb)
              replace R1 := aM (Kd.R_below R1.out hb)
              replace R7 := aM (Kd.R_below R7.out hb)
              replace HB := aM (below_after HB.out hb)
              replace H9 := aM (Nat.le_trans H9.out hb.size)
              clear hb
              refine sA 14 tabT17_ok bitT17_ok (fun W_ => W_.cell? ⟨bW, 0, none⟩ = some (.string x.f0.f0) ∧ W_.cell? ⟨bW, 1, none⟩ = some (.slice A1 x.f0.f1.length c1) ∧ W_.cell? ⟨bW, 2, none⟩ = some (.int .i64 x.f0.f2) ∧ W_.cell? ⟨bW, 3, none⟩ = some (.int .i64 x.f1.f0) ∧ W_.cell? ⟨bW, 4, none⟩ = some (.int .i64 x.f1.f1) ∧ W_.cell? ⟨bW, 5, none⟩ = some (.int .i64 x.f1.f2) ∧ W_.cell? ⟨bW, 6, none⟩ = some (.int .i64 x.f1.f3) ∧ W_.cell? ⟨bW, 7, none⟩ = some (.slice A7 x.f1.f4.length c7) ∧ W_.cell? ⟨bW, 8, none⟩ = some (.bool x.f1.f5) ∧ W_.cell? ⟨bW, 9, none⟩ = some (.int .i64 x.f2) ∧ W_.cell? ⟨bW, 10, none⟩ = some (.bool true)) [] (hS := ⟨(blk_cell YW.out 0).trans rfl, (blk_cell YW.out 1).trans rfl, (blk_cell YW.out 2).trans rfl, (blk_cell YW.out 3).trans rfl, (blk_cell YW.out 4).trans rfl, (blk_cell YW.out 5).trans rfl, (blk_cell YW.out 6).trans rfl, (blk_cell YW.out 7).trans rfl, (blk_cell YW.out 8).trans rfl, (blk_cell YW.out 9).trans rfl, (blk_cell YW.out 10).trans rfl⟩) (fun hHeld HT_ HW_ => ?_)
              generalize w10.drew = w11 at SK9 SG XR X1 YW R1 R7 HB H9 hHeld ⊢
              refine pA 0 57 HT_ ?_; refine pA 1 58 HT_ ?_; refine tA 2 59 HT_ HW_ hHeld ?_; refine pA 4 61 HT_ ?_; refine tA 5 62 HT_ HW_ hHeld ?_; refine pA 6 63 HT_ ?_; refine pA 7 64 HT_ ?_; refine tA 8 65 HT_ HW_ hHeld ?_
              have EK := aM (Lem.ownKey_ok x.f0.f0 HSX.out.1 x.f0.f2)
              have EA := aM (Lem.l4Own_ok x.f1.f0 x.f1.f1 x.f1.f2 x.f1.f3 HSX.out.2 x.f1.f5)
              refine oA 3 60 HT_ (fun K hK => ?_)
              refine goes_ Tryd.func63 (by kernel_rfl) rfl #[.agg #[.string x.f0.f0, .slice A1 x.f0.f1.length c1, .int .i64 x.f0.f2]] (by rfl) rfl rfl zee81 ?_
              with_reducible refine (spec_l11OwnKey.calls x.f0.f0 _ _ x.f0.f1 x.f0.f2 x.f0.f0 x.f0.f1 x.f0.f2 _ (Kd.R_reads' R1.out).2.2 (Kd.R_reads' R1.out).2.1 EK.out).mono ?_
              rintro e w12 ⟨v1, rfl, ho1, hb⟩
              refine ⟨_, rfl, ?_⟩
              obtain ⟨Ak, ck, rfl⟩ := Kd.R_slice ho1
              have KR1 := aM ho1
              replace SK9 := aM (Kd.S_old SK9.out hb)
              replace SG := aM (Kd.S_old SG.out hb)
              replace XR := aM (blk_below XR.out hb)
              replace X1 := aM (blk_below X1.out hb)
              replace YW := aM (blk_below YW.out hb)
              replace R7 := aM (Kd.R_below R7.out hb)
              have HB11 := aM HB.out.size
              replace HB := aM (below_after HB.out hb)
              have H12 := aM hb.size
              clear hb ho1
              refine hK.out _ _ ⟨(blk_cell YW.out 0).trans rfl, (blk_cell YW.out 1).trans rfl, (blk_cell YW.out 2).trans rfl, (blk_cell YW.out 3).trans rfl, (blk_cell YW.out 4).trans rfl, (blk_cell YW.out 5).trans rfl, (blk_cell YW.out 6).trans rfl, (blk_cell YW.out 7).trans rfl, (blk_cell YW.out 8).trans rfl, (blk_cell YW.out 9).trans rfl, (blk_cell YW.out 10).trans rfl⟩ (fun hHeld => ?_)
              clear hK K
              refine nA 60 ?_; refine oA 9 66 HT_ (fun K hK => ?_)
              refine goes_ Tryd.func79 (by kernel_rfl) rfl #[.agg #[.int .i64 x.f1.f0, .int .i64 x.f1.f1, .int .i64 x.f1.f2, .int .i64 x.f1.f3, .slice A7 x.f1.f4.length c7, .bool x.f1.f5]] (by rfl) rfl rfl zee81 ?_
              with_reducible refine (spec_l4Own.calls x.f1.f0 x.f1.f1 x.f1.f2 x.f1.f3 _ _ x.f1.f4 x.f1.f5 x.f1.f0 x.f1.f1 x.f1.f2 x.f1.f3 x.f1.f4 x.f1.f5 _ (Kd.R_reads' R7.out).2.2 (Kd.R_reads' R7.out).2.1 EA.out).mono ?_
              rintro e w13 ⟨v7, rfl, ho7, hb⟩
              refine ⟨_, rfl, ?_⟩
              obtain ⟨Ah, ch, rfl⟩ := Kd.R_slice ho7
              have KR7 := aM (Kd.R_mono (Kd.R_bound ho7) (ok' := fun k => w11.heap.size ≤ k) (fun k hk => Nat.le_trans H12.out hk.2.1))
              replace KR1 := aM (Kd.R_mono (Kd.R_below (Kd.R_bound KR1.out) hb) (ok' := fun k => w11.heap.size ≤ k) (fun k hk => hk.2.1))
              replace SK9 := aM (Kd.S_below SK9.out hb)
              replace SG := aM (Kd.S_below SG.out hb)
              replace XR := aM (blk_below XR.out hb)
              replace X1 := aM (blk_below X1.out hb)
              replace YW := aM (blk_below YW.out hb)
              have HB12 := aM HB.out.size
              replace HB := aM (below_after HB.out hb)
              replace H12 := aM (Nat.le_trans H12.out hb.size)
              clear hb ho7
              refine hK.out _ _ ⟨(blk_cell YW.out 0).trans rfl, (blk_cell YW.out 1).trans rfl, (blk_cell YW.out 2).trans rfl, (blk_cell YW.out 3).trans rfl, (blk_cell YW.out 4).trans rfl, (blk_cell YW.out 5).trans rfl, (blk_cell YW.out 6).trans rfl, (blk_cell YW.out 7).trans rfl, (blk_cell YW.out 8).trans rfl, (blk_cell YW.out 9).trans rfl, (blk_cell YW.out 10).trans rfl⟩ (fun hHeld => ?_)
              clear hK K
              refine nA 66 ?_; refine pA 10 67 HT_ ?_; refine oA 11 68 HT_ (fun K hK => ?_)
              refine value_ (w1 := ?_) (v := ?_) (by rfl) rfl ?_ ?_
              rotate_left 2
              · go_simp
                constructor
                · rfl
                · rfl
              refine hK.out _ _ ⟨(blk_cell (blk_alloc YW.out _) 0).trans rfl, (blk_cell (blk_alloc YW.out _) 1).trans rfl, (blk_cell (blk_alloc YW.out _) 2).trans rfl, (blk_cell (blk_alloc YW.out _) 3).trans rfl, (blk_cell (blk_alloc YW.out _) 4).trans rfl, (blk_cell (blk_alloc YW.out _) 5).trans rfl, (blk_cell (blk_alloc YW.out _) 6).trans rfl, (blk_cell (blk_alloc YW.out _) 7).trans rfl, (blk_cell (blk_alloc YW.out _) 8).trans rfl, (blk_cell (blk_alloc YW.out _) 9).trans rfl, (blk_cell (blk_alloc YW.out _) 10).trans rfl⟩ (fun hHeld => ?_)
              clear hK K
              refine nA 68 ?_; refine oA 12 69 HT_ (fun K hK => ?_)
              refine Kd.S_append_step k96 (w0 := w) w.heap.size (by rfl) (.tmp 57) (.tmp 68) 57 96 (.agg #[(.string ⟨#[]⟩), (.slice none 0 0), (.int .i64 0), (.int .i64 0), (.int .i64 0), (.int .i64 0), (.int .i64 0), (.int .i64 0), (.slice none 0 0), (.bool false)]) 120 rfl Tryd.underlying57 info96 rfl (by decide) (by omega) (.slice A6 n6 c6) (toldWs (q4.take i)) (toldW x) [.string x.f0.f0, .slice Ak x.f0.f1.length ck, .int .i64 x.f0.f2, .int .i64 (wrap64 (x.f2 + 1)), .int .i64 x.f1.f0, .int .i64 x.f1.f1, .int .i64 x.f1.f2, .int .i64 x.f1.f3, .slice Ah x.f1.f4.length ch, .bool x.f1.f5] (fun k => ((Q k ∧ k < wr.heap.size) ∧ k < w11.heap.size) ∨ w11.heap.size ≤ k) (fun k => w11.heap.size ≤ k) rfl rfl ?aP (fun k hk => ⟨.inr hk, fun he => by have h1 := (Kd.S_R SG.out).1 k he.symm; have h2 := h1.2; omega⟩) (fun k hk => .inr (Nat.le_trans H12.out hk)) ?aO HB.out HB.out.size ?aL ?_
              (case aP => exact k96_mkM _ _ _ (toldW x) (Kd.R_lower KR1.out HB11.out) (Kd.R_lower KR7.out HB12.out))
              (case aO => exact Kd.S_mono SG.out (fun k hk => ⟨.inl hk, by have h2 := hk.2; omega⟩))
              (case aL => have h1 := HTL.out; have h2 := HBIG.out; have h3 := HLT.out; omega)
              intro v69 w14 hs hb hg hat
              obtain ⟨A69, n69, c69, rfl⟩ := S_slice3 hs
              have hown : ∀ k, (Value.slice A6 n6 c6).ownBlock = some k → Q k := fun k hk => ((Kd.S_R SG.out).1 k hk).1.1
              have SK14 := aM (Kd.S_step SK9.out (fun k hk hlt => hg.block k hlt (fun he => HPQ.out k hk.1.1 (hown k he.symm))))
              have SG14 := aM hs
              have YR := aM ((hg.block bR (blk_lt XR.out) (Kd.S_ne SG.out XR.out (by decide))).trans XR.out)
              have Y1 := aM ((hg.block b1 (blk_lt X1.out) (Kd.S_ne SG.out X1.out (by decide))).trans X1.out)
              have YW2 := aM ((hg.block bW (blk_lt YW.out) (Kd.S_ne SG.out YW.out (by decide))).trans YW.out)
              have HB14 := aM hb
              clear hs hb hg hat hown
              refine hK.out _ _ ⟨(blk_cell YW2.out 0).trans rfl, (blk_cell YW2.out 1).trans rfl, (blk_cell YW2.out 2).trans rfl, (blk_cell YW2.out 3).trans rfl, (blk_cell YW2.out 4).trans rfl, (blk_cell YW2.out 5).trans rfl, (blk_cell YW2.out 6).trans rfl, (blk_cell YW2.out 7).trans rfl, (blk_cell YW2.out 8).trans rfl, (blk_cell YW2.out 9).trans rfl, (blk_cell YW2.out 10).trans rfl⟩ (fun hHeld => ?_)
              clear hK K
              refine nA 69 ?_; refine pA 13 7 HT_ ?_
              clear hHeld
              refine done_ (done_of HT_.out (by kernel_rfl)) ?_
              clear HT_ HW_
              go_wp2
              go_roundg kk
              case rel => exact ⟨i + 1, (fun k => (P k ∧ k < wr.heap.size) ∧ k < w11.heap.size), (fun k => ((Q k ∧ k < wr.heap.size) ∧ k < w11.heap.size) ∨ w11.heap.size ≤ k), by go_num, ⟨by have := HI.out; omega⟩, ⟨fun k h1 h2 => by rcases h2 with h2 | h2; exact HPQ.out k h1.1.1 h2.1.1; have h3 := h1.2; omega⟩, SK14, ⟨by rw [EX.out]; exact SG14.out⟩, YR, Y1, HB14⟩
              case measure => exact Nat.lt_succ_self _
      | succ kk =>
        have hlt : i < q4.length := by have := HI.out; omega
        have HLT := aM hlt
        rcases S_shape SK.out with ⟨_, hl0, _, _⟩ | ⟨g, rfl⟩
        · omega
        obtain ⟨A1, c1, A7, c7, _, _, ⟨hc0, hc1, hc2, hc3, hc4, hc5, hc6, hc7, hc8, hc9, hc10⟩, _, _⟩ := elemW_out SK.out hlt
        have HAN := aM (any_at hlt)
        have HNX := aM (fun (hb : badW (rd_T37 q4 (i : Int)) = false) (j : Nat) (hj : j < i + 1) => show badW (rd_T37 q4 (j : Int)) = false from by
          by_cases e : j = i
          · rw [e]; exact hb
          · exact HN.out j (by omega))
        generalize rd_T37 q4 (i : Int) = x at *
        have hi0 : (0 : Int) ≤ (i : Int) := Int.natCast_nonneg i
        have hil : (i : Int) < (q4.length : Int) := by omega
        have hd : decide ((i : Int) < (q4.length : Int)) = true := decide_eq_true hil
        have hdn : decide (i < q4.length) = true := decide_eq_true hlt
        have hiw : IntKind.i64.wrap ((i : Int) + 1) = (i : Int) + 1 := by rw [IntKind.wrap_i64]; have := HBIG.out; omega
        go_upto_region 7 with (first | ((with_reducible refine gate_dst (N := 6) rfl ?_); refine bX 6 37 #[.string (⟨#[]⟩ : ByteArray), .slice none 0 0, .int .i64 0, .int .i64 0, .int .i64 0, .int .i64 0, .int .i64 0, .slice none 0 0, .bool false, .int .i64 0, .bool false] ?_; intro bW hg w8 hbox hb; have XW := aM hbox; have GW := aM hg; have BW := aM hb; replace hc0 := (hb.cell (World.block_lt_of_cell? _ _ hc0)).trans hc0; replace hc1 := (hb.cell (World.block_lt_of_cell? _ _ hc1)).trans hc1; replace hc2 := (hb.cell (World.block_lt_of_cell? _ _ hc2)).trans hc2; replace hc3 := (hb.cell (World.block_lt_of_cell? _ _ hc3)).trans hc3; replace hc4 := (hb.cell (World.block_lt_of_cell? _ _ hc4)).trans hc4; replace hc5 := (hb.cell (World.block_lt_of_cell? _ _ hc5)).trans hc5; replace hc6 := (hb.cell (World.block_lt_of_cell? _ _ hc6)).trans hc6; replace hc7 := (hb.cell (World.block_lt_of_cell? _ _ hc7)).trans hc7; replace hc8 := (hb.cell (World.block_lt_of_cell? _ _ hc8)).trans hc8; replace hc9 := (hb.cell (World.block_lt_of_cell? _ _ hc9)).trans hc9; replace hc10 := (hb.cell (World.block_lt_of_cell? _ _ hc10)).trans hc10; clear hg hbox hb; have hzW := cellsZ11 XW.out))
        have YW := aM (show ((((((((((((w8.setCell ⟨bW, 0, none⟩ (.string x.f0.f0)).setCell ⟨bW, 1, none⟩ (.slice A1 x.f0.f1.length c1)).setCell ⟨bW, 2, none⟩ (.int .i64 x.f0.f2)).setCell ⟨bW, 3, none⟩ (.int .i64 x.f1.f0)).setCell ⟨bW, 4, none⟩ (.int .i64 x.f1.f1)).setCell ⟨bW, 5, none⟩ (.int .i64 x.f1.f2)).setCell ⟨bW, 6, none⟩ (.int .i64 x.f1.f3)).setCell ⟨bW, 7, none⟩ (.slice A7 x.f1.f4.length c7)).setCell ⟨bW, 8, none⟩ (.bool x.f1.f5)).setCell ⟨bW, 9, none⟩ (.int .i64 x.f2)).setCell ⟨bW, 10, none⟩ (.bool x.f3))).heap[bW]? = some (.cells #[.string x.f0.f0, .slice A1 x.f0.f1.length c1, .int .i64 x.f0.f2, .int .i64 x.f1.f0, .int .i64 x.f1.f1, .int .i64 x.f1.f2, .int .i64 x.f1.f3, .slice A7 x.f1.f4.length c7, .bool x.f1.f5, .int .i64 x.f2, .bool x.f3] 37 (0, 0)) from by with_reducible exact blk_put11 XW.out)
        have HO := aM (show Only w8 ((((((((((((w8.setCell ⟨bW, 0, none⟩ (.string x.f0.f0)).setCell ⟨bW, 1, none⟩ (.slice A1 x.f0.f1.length c1)).setCell ⟨bW, 2, none⟩ (.int .i64 x.f0.f2)).setCell ⟨bW, 3, none⟩ (.int .i64 x.f1.f0)).setCell ⟨bW, 4, none⟩ (.int .i64 x.f1.f1)).setCell ⟨bW, 5, none⟩ (.int .i64 x.f1.f2)).setCell ⟨bW, 6, none⟩ (.int .i64 x.f1.f3)).setCell ⟨bW, 7, none⟩ (.slice A7 x.f1.f4.length c7)).setCell ⟨bW, 8, none⟩ (.bool x.f1.f5)).setCell ⟨bW, 9, none⟩ (.int .i64 x.f2)).setCell ⟨bW, 10, none⟩ (.bool x.f3))) bW from by repeat (first | (with_reducible apply Only.set) | exact Only.refl _ _))
        generalize (((((((((((w8.setCell ⟨bW, 0, none⟩ (.string x.f0.f0)).setCell ⟨bW, 1, none⟩ (.slice A1 x.f0.f1.length c1)).setCell ⟨bW, 2, none⟩ (.int .i64 x.f0.f2)).setCell ⟨bW, 3, none⟩ (.int .i64 x.f1.f0)).setCell ⟨bW, 4, none⟩ (.int .i64 x.f1.f1)).setCell ⟨bW, 5, none⟩ (.int .i64 x.f1.f2)).setCell ⟨bW, 6, none⟩ (.int .i64 x.f1.f3)).setCell ⟨bW, 7, none⟩ (.slice A7 x.f1.f4.length c7)).setCell ⟨bW, 8, none⟩ (.bool x.f1.f5)).setCell ⟨bW, 9, none⟩ (.int .i64 x.f2)).setCell ⟨bW, 10, none⟩ (.bool x.f3)) = w9 at YW HO ⊢
        have B9 := aM (below_only BW.out (Nat.le_of_eq GW.out.symm) HO.out)
        clear hzW XW BW HO hc0 hc1 hc2 hc3 hc4 hc5 hc6 hc7 hc8 hc9 hc10
        replace SK := aM (Kd.S_below SK.out B9.out)
        replace X1 := aM (blk_below X1.out B9.out)
        replace XR := aM (blk_below XR.out B9.out)
        replace HB := aM (below_after HB.out B9.out)
        clear B9
        have hzW := cellsZ11 YW.out
        have ok : badW x = false → ∀ (Q : Prop), (x.f3 = false → Q) → (x.f3 = true → (x.f2 == 1000000) = false → Q) → Q := fun h Q h1 h2 => by
          unfold badW at h
          cases e : x.f3 with
          | false => exact h1 e
          | true => rw [e, Bool.true_and] at h; exact h2 e h
        by_cases hbad : badW x = true
        · have hb2 := hbad
          unfold badW at hb2
          rw [Bool.and_eq_true] at hb2
          obtain ⟨hd3, hver⟩ := hb2
          have h := HH.out
          rw [if_pos (HAN.out hbad)] at h
          simp only [Option.some.injEq, Prod.mk.injEq] at h
          obtain ⟨rfl, rfl, rfl, rfl, rfl, rfl⟩ := h
          rw [hd3] at hzW
          have hz1 := cellsZ4 X1.out
          have hzR := cellsZ4 XR.out
          clear hbad hd3 HH HAN HNX HN ok
          go_wp2
          refine bodyPost_ret (results_ctt rfl _ _ bR 42 #[.int .i64 q1, .int .i64 q2, .int .i64 q3, .slice (some ⟨g, 0, none⟩) q4.length cc] (0, 0) _ rfl (by with_reducible exact blk_put4 XR.out) Tryd.underlying42 rfl (by kernel_rfl)) rfl ?_
          have SK2 := Kd.S_types SK.out XR.out (by decide)
          exact ⟨_, _, rfl, ⟨_, fun _ => False, fun _ _ h => h.elim, Kd.S_far (Kd.S_far (Kd.S_far (Kd.S_far SK2 (fun k hk => hk.2) _) (fun k hk => hk.2) _) (fun k hk => hk.2) _) (fun k hk => hk.2) _, Kd.S_nil _ _ _ _ _⟩, below_set (below_set (below_set (below_set HB.out GR.out) GR.out) GR.out) GR.out⟩
        · have hbf : badW x = false := by simpa using hbad
          have HNN := aM (HNX.out hbf)
          refine ok hbf _ (fun hd3 => ?_) (fun hd3 hver => ?_)
          all_goals
            rw [hd3] at hzW
            clear hbad hbf hd3 HAN HNX HN ok
            go_wp2
            go_roundg kk
            case rel => exact ⟨i + 1, P, by go_num, ⟨by have := HI.out; omega⟩, HNN, SK, X1, XR, HB⟩
            case measure => exact Nat.lt_succ_self _
end Go.Proofs.YtkgmoajdcibafaaDoor.P
end

-- written by a program of this session's (wip/pp)
namespace Go.Proofs.YtkgmoajdcibafaaDoor.P
open Go.RowKit Go.Proofs.YtkgmoajdcibafaaDoorW.PrintWords Go.Proofs.YtkgmoajdcibafaaDoorW.PrintLast Go.Proofs.YtkgmoajdcibafaaDoorW.PrintMore
attribute [local go_sem] max2_int min2_int max_two min_two max_three min_three max_four min_four str_geq str_gtr str_leq   -- for this text's walks alone
set_option linter.unusedVariables false
set_option linter.unusedSimpArgs false

/-! ### impl_TellDirty_1: function 81 -/
def impl_TellDirty_1.f (a0_0 : ByteArray) (l0_1 : List (S123)) (a0_2 : Int) (a0_3 : Int) (a0_4 : Int) (a0_5 : Int) (a0_6 : Int) (l0_7 : List Int) (a0_8 : Bool) (a0_9 : Int) (a0_10 : Bool) : Option (Bool) := if a0_10 = true then (some (a0_9 == 1000000)) else (some false)
set_option maxHeartbeats 8000000 in
set_option maxRecDepth 100000 in
theorem impl_TellDirty_1.calls (a0_0 : ByteArray) (A0_1 : Option Addr) (c0_1 : Nat) (l0_1 : List (S123)) (a0_2 : Int) (a0_3 : Int) (a0_4 : Int) (a0_5 : Int) (a0_6 : Int) (A0_7 : Option Addr) (c0_7 : Nat) (l0_7 : List Int) (a0_8 : Bool) (a0_9 : Int) (a0_10 : Bool) (r : Bool) (w : World) (hr0_1 : Kd.C k123 w A0_1 l0_1.length l0_1) (hc0_1 : l0_1.length ≤ c0_1) (hr0_7 : Kd.C (Kd.int .i64) w A0_7 l0_7.length l0_7) (hc0_7 : l0_7.length ≤ c0_7) (h : impl_TellDirty_1.f a0_0 l0_1 a0_2 a0_3 a0_4 a0_5 a0_6 l0_7 a0_8 a0_9 a0_10 = some r) :
 Calls Tryd.prog 81 #[.agg #[.string a0_0, .slice A0_1 l0_1.length c0_1, .int .i64 a0_2, .int .i64 a0_3, .int .i64 a0_4, .int .i64 a0_5, .int .i64 a0_6, .slice A0_7 l0_7.length c0_7, .bool a0_8, .int .i64 a0_9, .bool a0_10]] w fun e w' => e = .returned (.bool r) ∧ Below w.heap.size w w' := by
 have hu37 := Tryd.underlying37
 have HR0_1 := aM hr0_1
 have HC0_1 := aM hc0_1
 clear hr0_1 hc0_1
 have HR0_7 := aM hr0_7
 have HC0_7 := aM hc0_7
 clear hr0_7 hc0_7
 have HB := aM (Below.refl w.heap.size w)
 have H : (if a0_10 = true then (some (a0_9 == 1000000)) else (some false)) = some r := h
 clear h
 by_cases c2 : a0_10 = true
 · subst c2
   rw [if_pos rfl] at H
   obtain rfl := Option.some.inj H
   go_enter Tryd.func81, Tryd.ntmps81
   go_wp2_with (first | ((with_reducible refine gate_dst (N := 1) rfl ?_); refine bX 1 37 #[.string a0_0, .slice A0_1 l0_1.length c0_1, .int .i64 a0_2, .int .i64 a0_3, .int .i64 a0_4, .int .i64 a0_5, .int .i64 a0_6, .slice A0_7 l0_7.length c0_7, .bool a0_8, .int .i64 a0_9, .bool true] ?_; intro gb101 hg w3 hbox hb; have _ := aM (below_step hbZ hb); have _ := aM hbox; have _ := szZ hg; have _ := szZ hg; clear HB; rename_i HB BK101 GW101 GE101; clear hb hbox hg; have hz4 := cellsZ11 BK101.out))
   go_ret
   exact ⟨z674d, zcb41⟩
 · replace c2 := Bool.eq_false_iff.mpr c2
   subst c2
   rw [if_neg (show ¬ (false = true) by decide)] at H
   obtain rfl := Option.some.inj H
   go_enter Tryd.func81, Tryd.ntmps81
   go_wp2_with (first | ((with_reducible refine gate_dst (N := 1) rfl ?_); refine bX 1 37 #[.string a0_0, .slice A0_1 l0_1.length c0_1, .int .i64 a0_2, .int .i64 a0_3, .int .i64 a0_4, .int .i64 a0_5, .int .i64 a0_6, .slice A0_7 l0_7.length c0_7, .bool a0_8, .int .i64 a0_9, .bool false] ?_; intro gb101 hg w5 hbox hb; have _ := aM (below_step hbZ hb); have _ := aM hbox; have _ := szZ hg; have _ := szZ hg; clear HB; rename_i HB BK101 GW101 GE101; clear hb hbox hg; have hz6 := cellsZ11 BK101.out))
   go_ret
   exact ⟨z674d, zcb41⟩

end Go.Proofs.YtkgmoajdcibafaaDoor.P

-- written by a program of this session's (wip/pp)
namespace Go.Proofs.YtkgmoajdcibafaaDoor.P
open Go.RowKit Go.Proofs.YtkgmoajdcibafaaDoorW.PrintWords Go.Proofs.YtkgmoajdcibafaaDoorW.PrintLast Go.Proofs.YtkgmoajdcibafaaDoorW.PrintMore
attribute [local go_sem] max2_int min2_int max_two min_two max_three min_three max_four min_four str_geq str_gtr str_leq   -- for this text's walks alone
set_option linter.unusedVariables false
set_option linter.unusedSimpArgs false

/-! ### impl_Win_with_impl_TellDirty_1_10109081: function 10109081 -/
def impl_Win_with_impl_TellDirty_1_10109081.l0 : Nat → List (S37) → Int → Int → Option (Int)
 | 0, _, _, _ => none
 | k + 1, x0, x7, x8 => if x8 < x7 then (if 0 ≤ x8 then (if x8 < (x0.length : Int) then ((impl_TellDirty_1.f ((rd_T37 x0 x8).f0.f0) ((rd_T37 x0 x8).f0.f1) ((rd_T37 x0 x8).f0.f2) ((rd_T37 x0 x8).f1.f0) ((rd_T37 x0 x8).f1.f1) ((rd_T37 x0 x8).f1.f2) ((rd_T37 x0 x8).f1.f3) ((rd_T37 x0 x8).f1.f4) ((rd_T37 x0 x8).f1.f5) ((rd_T37 x0 x8).f2) ((rd_T37 x0 x8).f3)).bind fun t102 => (if t102 = true then (some x8) else (impl_Win_with_impl_TellDirty_1_10109081.l0 k x0 x7 (wrap64 (x8 + 1))))) else (none)) else (none)) else (some (-1))
def impl_Win_with_impl_TellDirty_1_10109081.f (k : Nat) (l0 : List (S37))  : Option (Int) := impl_Win_with_impl_TellDirty_1_10109081.l0 k l0 (l0.length : Int) 0
theorem impl_Win_with_impl_TellDirty_1_10109081.mono_l : ∀ k, (∀ y0 y1 y2, LeO (impl_Win_with_impl_TellDirty_1_10109081.l0 k y0 y1 y2) (impl_Win_with_impl_TellDirty_1_10109081.l0 (k + 1) y0 y1 y2))
 | 0 => fun _ _ _ r h => by simp [impl_Win_with_impl_TellDirty_1_10109081.l0] at h
 | k + 1 => by
  have ih0 := impl_Win_with_impl_TellDirty_1_10109081.mono_l k
  · intro y0 y1 y2
    unfold impl_Win_with_impl_TellDirty_1_10109081.l0
    exact moZ
theorem impl_Win_with_impl_TellDirty_1_10109081.mono : ∀ a0 k, LeO (impl_Win_with_impl_TellDirty_1_10109081.f k a0) (impl_Win_with_impl_TellDirty_1_10109081.f (k + 1) a0) := by
 intro a0 k
 have ih0 := impl_Win_with_impl_TellDirty_1_10109081.mono_l k
 unfold impl_Win_with_impl_TellDirty_1_10109081.f
 exact moZ
set_option maxHeartbeats 8000000 in
set_option maxRecDepth 100000 in
theorem impl_Win_with_impl_TellDirty_1_10109081.calls (k : Nat) (A0 : Option Addr) (c0 : Nat) (l0 : List (S37))  (r : Int) (w : World) (hr0 : Kd.C k37 w A0 l0.length l0) (hc0 : l0.length ≤ c0) (h : impl_Win_with_impl_TellDirty_1_10109081.f k l0 = some r) :
 Calls Tryd.prog 109 #[.slice A0 l0.length c0, .func (.func 81) #[] #[]] w fun e w' => e = .returned (.int .i64 r) ∧ Below w.heap.size w w' := by
 have hu37 := Tryd.underlying37
 have HR0 := aM hr0
 have HC0 := aM hc0
 clear hr0 hc0
 have HB := aM (Below.refl w.heap.size w)
 have H : (impl_Win_with_impl_TellDirty_1_10109081.l0 k l0 (l0.length : Int) 0) = some r := h
 clear h
 have H' := aM H
 clear H
 go_enter Tryd.func109, Tryd.ntmps109
 go_wp2
 go_loopg [8] k (fun kq v8 w' => ∃ (x8_1 : Int), v8 = .int .i64 x8_1 ∧ Aside0 (impl_Win_with_impl_TellDirty_1_10109081.l0 kq l0 (l0.length : Int) x8_1 = some r) ∧ Aside0 (kq ≤ k) ∧ Aside0 (Below w.heap.size w w'))
 case atStart => exact ⟨(0), z4458, H', ⟨Nat.le_refl _⟩, ⟨z5acd⟩⟩
 case round =>
  clear H'
  obtain ⟨x8_1, rfl, HA, HK1, HB⟩ := hrel
  cases gk with
  | zero => exact absurd HA.out (by simp [impl_Win_with_impl_TellDirty_1_10109081.l0])
  | succ k1 =>
   have H := HA.out
   clear HA
   simp only [impl_Win_with_impl_TellDirty_1_10109081.l0] at H
   by_cases c3 : x8_1 < (l0.length : Int)
   · rw [if_pos c3] at H
     have c3b0 := dL c3
     clear c3
     obtain ⟨c4b0, H⟩ := sE H
     obtain ⟨c5b0, H⟩ := sL H
     obtain ⟨t102, A6, H⟩ := bS H; try dsimp only at H
     by_cases c7 : t102 = true
     · subst c7
       rw [if_pos rfl] at H
       obtain rfl := Option.some.inj H
       have p101 : 0 ≤ (x8_1 : Int) := of_decide_eq_true z1200
       have q101 : x8_1 < (l0.length : Int) := of_decide_eq_true z1200
       obtain ⟨ad101, A101_1, c101_1, A101_7, c101_7, e101, hx101_0, hx101_1, hx101_2, hx101_3, hx101_4, hx101_5, hx101_6, hx101_7, hx101_8, hx101_9, hx101_10, hl101_1, hi101_1, hl101_7, hi101_7⟩ := at_T37 HR0.out x8_1 p101 q101
       cases e101
       have TW101_1 := aM hx101_1
       have TW101_7 := aM hx101_7
       replace hx101_0 := (HB.out.cell (World.block_lt_of_cell? w _ hx101_0)).trans hx101_0
       replace hx101_1 := (HB.out.cell (World.block_lt_of_cell? w _ hx101_1)).trans hx101_1
       replace hx101_2 := (HB.out.cell (World.block_lt_of_cell? w _ hx101_2)).trans hx101_2
       replace hx101_3 := (HB.out.cell (World.block_lt_of_cell? w _ hx101_3)).trans hx101_3
       replace hx101_4 := (HB.out.cell (World.block_lt_of_cell? w _ hx101_4)).trans hx101_4
       replace hx101_5 := (HB.out.cell (World.block_lt_of_cell? w _ hx101_5)).trans hx101_5
       replace hx101_6 := (HB.out.cell (World.block_lt_of_cell? w _ hx101_6)).trans hx101_6
       replace hx101_7 := (HB.out.cell (World.block_lt_of_cell? w _ hx101_7)).trans hx101_7
       replace hx101_8 := (HB.out.cell (World.block_lt_of_cell? w _ hx101_8)).trans hx101_8
       replace hx101_9 := (HB.out.cell (World.block_lt_of_cell? w _ hx101_9)).trans hx101_9
       replace hx101_10 := (HB.out.cell (World.block_lt_of_cell? w _ hx101_10)).trans hx101_10
       have HR101_1 := aM hi101_1
       have HC101_1 := aM hl101_1
       clear hi101_1 hl101_1
       have HR101_7 := aM hi101_7
       have HC101_7 := aM hl101_7
       clear hi101_7 hl101_7
       replace p101 := eq_true p101
       replace q101 := eq_true q101
       go_wp2_with (first | (go_at_call 81; (with_reducible refine (impl_TellDirty_1.calls ((rd_T37 l0 x8_1).f0.f0) _ _ ((rd_T37 l0 x8_1).f0.f1) ((rd_T37 l0 x8_1).f0.f2) ((rd_T37 l0 x8_1).f1.f0) ((rd_T37 l0 x8_1).f1.f1) ((rd_T37 l0 x8_1).f1.f2) ((rd_T37 l0 x8_1).f1.f3) _ _ ((rd_T37 l0 x8_1).f1.f4) ((rd_T37 l0 x8_1).f1.f5) ((rd_T37 l0 x8_1).f2) ((rd_T37 l0 x8_1).f3) true _ ?side1 ?side2 ?side3 ?side4 A6.out).mono ?_); (case side1 => exact (cZ (Kd.C_below HR101_1.out HB.out))); (case side2 => exact HC101_1.out); (case side3 => exact (cZ (Kd.C_below HR101_7.out HB.out))); (case side4 => exact HC101_7.out); rintro e w8 ⟨rfl, hb⟩; have _ := aM (below_step hbZ hb); clear HB; rename_i HB; (try clear hb)))
       go_ret
       exact ⟨z674d, z5acd⟩
     · replace c7 := Bool.eq_false_iff.mpr c7
       subst c7
       rw [if_neg (show ¬ (false = true) by decide)] at H
       have H' := aM H
       clear H
       have p101 : 0 ≤ (x8_1 : Int) := of_decide_eq_true z1200
       have q101 : x8_1 < (l0.length : Int) := of_decide_eq_true z1200
       obtain ⟨ad101, A101_1, c101_1, A101_7, c101_7, e101, hx101_0, hx101_1, hx101_2, hx101_3, hx101_4, hx101_5, hx101_6, hx101_7, hx101_8, hx101_9, hx101_10, hl101_1, hi101_1, hl101_7, hi101_7⟩ := at_T37 HR0.out x8_1 p101 q101
       cases e101
       have TW101_1 := aM hx101_1
       have TW101_7 := aM hx101_7
       replace hx101_0 := (HB.out.cell (World.block_lt_of_cell? w _ hx101_0)).trans hx101_0
       replace hx101_1 := (HB.out.cell (World.block_lt_of_cell? w _ hx101_1)).trans hx101_1
       replace hx101_2 := (HB.out.cell (World.block_lt_of_cell? w _ hx101_2)).trans hx101_2
       replace hx101_3 := (HB.out.cell (World.block_lt_of_cell? w _ hx101_3)).trans hx101_3
       replace hx101_4 := (HB.out.cell (World.block_lt_of_cell? w _ hx101_4)).trans hx101_4
       replace hx101_5 := (HB.out.cell (World.block_lt_of_cell? w _ hx101_5)).trans hx101_5
       replace hx101_6 := (HB.out.cell (World.block_lt_of_cell? w _ hx101_6)).trans hx101_6
       replace hx101_7 := (HB.out.cell (World.block_lt_of_cell? w _ hx101_7)).trans hx101_7
       replace hx101_8 := (HB.out.cell (World.block_lt_of_cell? w _ hx101_8)).trans hx101_8
       replace hx101_9 := (HB.out.cell (World.block_lt_of_cell? w _ hx101_9)).trans hx101_9
       replace hx101_10 := (HB.out.cell (World.block_lt_of_cell? w _ hx101_10)).trans hx101_10
       have HR101_1 := aM hi101_1
       have HC101_1 := aM hl101_1
       clear hi101_1 hl101_1
       have HR101_7 := aM hi101_7
       have HC101_7 := aM hl101_7
       clear hi101_7 hl101_7
       replace p101 := eq_true p101
       replace q101 := eq_true q101
       go_wp2_with (first | (go_at_call 81; (with_reducible refine (impl_TellDirty_1.calls ((rd_T37 l0 x8_1).f0.f0) _ _ ((rd_T37 l0 x8_1).f0.f1) ((rd_T37 l0 x8_1).f0.f2) ((rd_T37 l0 x8_1).f1.f0) ((rd_T37 l0 x8_1).f1.f1) ((rd_T37 l0 x8_1).f1.f2) ((rd_T37 l0 x8_1).f1.f3) _ _ ((rd_T37 l0 x8_1).f1.f4) ((rd_T37 l0 x8_1).f1.f5) ((rd_T37 l0 x8_1).f2) ((rd_T37 l0 x8_1).f3) false _ ?side1 ?side2 ?side3 ?side4 A6.out).mono ?_); (case side1 => exact (cZ (Kd.C_below HR101_1.out HB.out))); (case side2 => exact HC101_1.out); (case side3 => exact (cZ (Kd.C_below HR101_7.out HB.out))); (case side4 => exact HC101_7.out); rintro e w9 ⟨rfl, hb⟩; have _ := aM (below_step hbZ hb); clear HB; rename_i HB; (try clear hb)))
       go_roundg k1
       case measure => have := HK1.out; omega
       case rel => exact ⟨(wrap64 (x8_1 + 1)), z4458, H', ⟨zfb39⟩, ⟨z5acd⟩⟩
   · rw [if_neg c3] at H
     have c3b0 := nL c3
     clear c3
     obtain rfl := Option.some.inj H
     go_wp2
     go_ret
     exact ⟨z674d, z5acd⟩

end Go.Proofs.YtkgmoajdcibafaaDoor.P

-- written by a program of this session's (wip/pp)
namespace Go.Proofs.YtkgmoajdcibafaaDoor.P
open Go.RowKit Go.Proofs.YtkgmoajdcibafaaDoorW.PrintWords Go.Proofs.YtkgmoajdcibafaaDoorW.PrintLast Go.Proofs.YtkgmoajdcibafaaDoorW.PrintMore
attribute [local go_sem] max2_int min2_int max_two min_two max_three min_three max_four min_four str_geq str_gtr str_leq   -- for this text's walks alone
set_option linter.unusedVariables false
set_option linter.unusedSimpArgs false

/-! ### impl_Win_with_impl_TellDirty_1_10080081: function 10080081 -/
def impl_Win_with_impl_TellDirty_1_10080081.f (k : Nat) (l0 : List (S37))  : Option (Bool) := (impl_Win_with_impl_TellDirty_1_10109081.f k l0).bind fun t101 => (some (decide (t101 ≥ 0)))
theorem impl_Win_with_impl_TellDirty_1_10080081.mono : ∀ a0 k, LeO (impl_Win_with_impl_TellDirty_1_10080081.f k a0) (impl_Win_with_impl_TellDirty_1_10080081.f (k + 1) a0) := by
 intro a0 k
 have m0 := @impl_Win_with_impl_TellDirty_1_10109081.mono
 unfold impl_Win_with_impl_TellDirty_1_10080081.f
 exact moZ
set_option maxHeartbeats 8000000 in
set_option maxRecDepth 100000 in
theorem impl_Win_with_impl_TellDirty_1_10080081.calls (k : Nat) (A0 : Option Addr) (c0 : Nat) (l0 : List (S37))  (r : Bool) (w : World) (hr0 : Kd.C k37 w A0 l0.length l0) (hc0 : l0.length ≤ c0) (h : impl_Win_with_impl_TellDirty_1_10080081.f k l0 = some r) :
 Calls Tryd.prog 80 #[.slice A0 l0.length c0, .func (.func 81) #[] #[]] w fun e w' => e = .returned (.bool r) ∧ Below w.heap.size w w' := by
 have HR0 := aM hr0
 have HC0 := aM hc0
 clear hr0 hc0
 have HB := aM (Below.refl w.heap.size w)
 have H : ((impl_Win_with_impl_TellDirty_1_10109081.f k l0).bind fun t101 => (some (decide (t101 ≥ 0)))) = some r := h
 clear h
 obtain ⟨t101, A3, H⟩ := bS H; try dsimp only at H
 obtain rfl := Option.some.inj H
 go_enter Tryd.func80, Tryd.ntmps80
 go_wp2_with (first | ((with_reducible refine gate_callee (f := 109) rfl ?_); refine gL 7 Tryd.func109 #[.slice A0 l0.length c0, .func (.func 81) #[] #[]] ?_; (with_reducible refine (impl_Win_with_impl_TellDirty_1_10109081.calls k _ _ l0  t101 _ ?side1 ?side2 A3.out).mono ?_); (case side1 => exact z4195); (case side2 => exact HC0.out); rintro e w4 ⟨rfl, hb⟩; refine ⟨_, rfl, ?_⟩; have _ := aM (below_step hbZ hb); clear HB; rename_i HB; (try clear hb)))
 go_ret
 exact ⟨z674d, z5acd⟩

end Go.Proofs.YtkgmoajdcibafaaDoor.P

section
/- impl.TellDirty: what is dirty is told; what is told lies apart from the board. No conditions of its own. -/
set_option linter.unusedVariables false
set_option linter.unusedSimpArgs false
namespace Go.Proofs.YtkgmoajdcibafaaDoor.P
open Go Go.RowKit Go.Proofs.YtkgmoajdcibafaaDoorW.PrintWords Go.Proofs.YtkgmoajdcibafaaDoorW.PrintLast Go.Proofs.YtkgmoajdcibafaaDoorW.PrintMore
attribute [local go_sem] max2_int min2_int max_two min_two max_three min_three max_four min_four str_geq str_gtr str_leq
def impl_TellDirty.f (k : Nat) (a b c : Int) (l : List S37) : Option (Int × Int × Int × List S37 × List S96 × Int) := (impl_GoodBoard.f k a b c l).bind fun t => if t = true then ((impl_Board_cloned.f k a b c l).bind fun q => (impl_Win_with_impl_TellDirty_1_10080081.f k l).bind fun s => if s = true then some (q.1, q.2.1, q.2.2.1, q.2.2.2, [], 1) else (if shortsT q.2.2.2 = true ∧ q.2.2.2.length ≤ 1000000000 then some (q.1, q.2.1, q.2.2.1, q.2.2.2.map cleanW, toldWs q.2.2.2, 0) else none)) else some (0, 0, 0, [], [], 1)
set_option maxHeartbeats 8000000 in
set_option maxRecDepth 100000 in
theorem impl_TellDirty.calls (k : Nat) (a0_0 : Int) (a0_1 : Int) (a0_2 : Int) (A0_3 : Option Addr) (c0_3 : Nat) (l0_3 : List (S37)) (r1 : Int) (r2 : Int) (r3 : Int) (r4 : List (S37)) (r5 : List (S96)) (r6 : Int) (w : World) (hr0_3 : Kd.C k37 w A0_3 l0_3.length l0_3) (hc0_3 : l0_3.length ≤ c0_3) (h : impl_TellDirty.f k a0_0 a0_1 a0_2 l0_3 = some (r1, r2, r3, r4, r5, r6)) :
 Calls Tryd.prog 37 #[.agg #[.int .i64 a0_0, .int .i64 a0_1, .int .i64 a0_2, .slice A0_3 l0_3.length c0_3]] w fun e w' => ∃ v3_ v4_ : Value, e = .returned (.tuple #[.agg #[.int .i64 r1, .int .i64 r2, .int .i64 r3, v3_], v4_, .int .i64 r6]) ∧ TwoS k37 37 k96 96 w' w.heap.size v3_ r4 v4_ r5 ∧ Below w.heap.size w w' := by
  have hu := Tryd.underlying42
  have hu2 := Tryd.underlying37
  have hu3 := Tryd.underlying32
  have hu4 := Tryd.underlying35
  have hu5 := Tryd.underlying96
  have HR := aM hr0_3
  have HC := aM hc0_3
  have HB := aM (Below.refl w.heap.size w)
  clear hr0_3 hc0_3
  obtain ⟨t, e1, h⟩ := Option.bind_eq_some_iff.1 h
  have E1 := aM e1
  clear e1
  cases t with
  | false =>
    simp only [Bool.false_eq_true, if_false, Option.some.injEq, Prod.mk.injEq] at h
    obtain ⟨rfl, rfl, rfl, rfl, rfl, rfl⟩ := h
    go_enter Tryd.func37, Tryd.ntmps37
    go_wp2_with (first | ((with_reducible refine gate_dst (N := 1) rfl ?_); refine bX 1 42 #[.int .i64 a0_0, .int .i64 a0_1, .int .i64 a0_2, .slice A0_3 l0_3.length c0_3] ?_; intro b1 hg w1 hbox hb; have X1 := aM hbox; have G1 := aM (show w.heap.size ≤ b1 from by rw [hg]; exact HB.out.size); replace HB := aM (below_after HB.out hb); clear hg hbox hb; have hz1 := cellsZ4 X1.out) | ((with_reducible refine gate_dst (N := 2) rfl ?_); refine bX 2 42 #[.int .i64 0, .int .i64 0, .int .i64 0, .slice none 0 0] ?_; intro bR hg w2 hbox hb; have XR := aM hbox; have GR := aM (show w.heap.size ≤ bR from by rw [hg]; exact HB.out.size); have NR1 := aM (show bR ≠ b1 from by rw [hg]; exact Nat.ne_of_gt (blk_lt X1.out)); replace X1 := aM (blk_below X1.out hb); replace HB := aM (below_after HB.out hb); clear hz1 hg hbox hb; have hz1 := cellsZ4 X1.out; have hzR := cellsZ4 XR.out) | ((with_reducible refine gate_callee (f := 46) rfl ?_); refine gL 11 Tryd.func46 #[.agg #[.int .i64 a0_0, .int .i64 a0_1, .int .i64 a0_2, .slice A0_3 l0_3.length c0_3]] ?_; (with_reducible refine (impl_GoodBoard.calls k a0_0 a0_1 a0_2 _ _ l0_3 false _ (Kd.C_below HR.out HB.out) HC.out E1.out).mono ?_); rintro e w3 ⟨rfl, hb⟩; refine ⟨_, rfl, ?_⟩; replace X1 := aM (blk_below X1.out hb); replace XR := aM (blk_below XR.out hb); replace HB := aM (below_after HB.out hb); clear hz1 hzR hb; have hz1 := cellsZ4 X1.out; have hzR := cellsZ4 XR.out))
    refine bodyPost_ret (results_ctt rfl _ _ bR 42 #[.int .i64 0, .int .i64 0, .int .i64 0, .slice none 0 0] (0, 0) _ rfl (by with_reducible exact blk_put4 XR.out) Tryd.underlying42 rfl (by kernel_rfl)) rfl ?_
    exact ⟨_, _, rfl, ⟨fun _ => False, fun _ => False, fun _ h => h.elim, Kd.S_nil _ _ _ _ _, Kd.S_nil _ _ _ _ _⟩, below_set (below_set (below_set (below_set HB.out GR.out) GR.out) GR.out) GR.out⟩
  | true =>
    simp only [if_true] at h
    obtain ⟨⟨q1, q2, q3, q4⟩, e2, h⟩ := Option.bind_eq_some_iff.1 h
    have E2 := aM e2
    clear e2
    obtain ⟨s, e3, h⟩ := Option.bind_eq_some_iff.1 h
    have E3 := aM e3
    have HH := aM h
    clear e3 h
    dsimp only at HH
    go_enter Tryd.func37, Tryd.ntmps37
    go_upto_region 4 with (first | ((with_reducible refine gate_dst (N := 1) rfl ?_); refine bX 1 42 #[.int .i64 a0_0, .int .i64 a0_1, .int .i64 a0_2, .slice A0_3 l0_3.length c0_3] ?_; intro b1 hg w1 hbox hb; have X1 := aM hbox; have G1 := aM (show w.heap.size ≤ b1 from by rw [hg]; exact HB.out.size); replace HB := aM (below_after HB.out hb); clear hg hbox hb; have hz1 := cellsZ4 X1.out) | ((with_reducible refine gate_dst (N := 2) rfl ?_); refine bX 2 42 #[.int .i64 0, .int .i64 0, .int .i64 0, .slice none 0 0] ?_; intro bR hg w2 hbox hb; have XR := aM hbox; have GR := aM (show w.heap.size ≤ bR from by rw [hg]; exact HB.out.size); have NR1 := aM (show bR ≠ b1 from by rw [hg]; exact Nat.ne_of_gt (blk_lt X1.out)); replace X1 := aM (blk_below X1.out hb); replace HB := aM (below_after HB.out hb); clear hz1 hg hbox hb; have hz1 := cellsZ4 X1.out; have hzR := cellsZ4 XR.out) | ((with_reducible refine gate_callee (f := 46) rfl ?_); refine gL 11 Tryd.func46 #[.agg #[.int .i64 a0_0, .int .i64 a0_1, .int .i64 a0_2, .slice A0_3 l0_3.length c0_3]] ?_; (with_reducible refine (impl_GoodBoard.calls k a0_0 a0_1 a0_2 _ _ l0_3 true _ (Kd.C_below HR.out HB.out) HC.out E1.out).mono ?_); rintro e w3 ⟨rfl, hb⟩; refine ⟨_, rfl, ?_⟩; replace X1 := aM (blk_below X1.out hb); replace XR := aM (blk_below XR.out hb); replace HB := aM (below_after HB.out hb); clear hz1 hzR hb; have hz1 := cellsZ4 X1.out; have hzR := cellsZ4 XR.out) | ((with_reducible refine gate_callee (f := 59) rfl ?_); refine gL 15 Tryd.func59 #[.agg #[.int .i64 a0_0, .int .i64 a0_1, .int .i64 a0_2, .slice A0_3 l0_3.length c0_3]] ?_; (with_reducible refine (impl_Board_cloned.calls k a0_0 a0_1 a0_2 _ _ l0_3 q1 q2 q3 q4 _ (Kd.C_below HR.out HB.out) HC.out E2.out).mono ?_); rintro e w4 ⟨v3, rfl, hs, hb⟩; refine ⟨_, rfl, ?_⟩; obtain ⟨Ac, cc, rfl⟩ := Kd.S_slice hs; have SK := aM (Kd.S_lower hs HB.out.size); replace X1 := aM (blk_below X1.out hb); replace XR := aM (blk_below XR.out hb); replace HB := aM (below_after HB.out hb); clear hz1 hzR hb hs; have hz1 := cellsZ4 X1.out; have hzR := cellsZ4 XR.out) | ((with_reducible refine gate_dst (N := 16) rfl ?_); refine Kd.S_lit k96 (w0 := w) w.heap.size 96 ?hg (N := 16) ?hd (xs := ([] : List S96)) (inner := []) (ok := fun k => w4.heap.size ≤ k) (okp := fun _ => False) ?hr (Reps.none _ _) (fun _ h => h.elim) (Nat.le_refl _) HB.out HB.out.size (by decide) ?_; (case hd => rfl); (case hg => rfl); (case hr => first | (go_simp; done) | (go_simp; rfl)); intro v6 w5 hs hb0 hg_ hat; have hb : Below w4.heap.size w4 w5 := pw_below_grown (Below.refl _ _) _ (Nat.le_refl _) hg_ (fun k hk => by cases hk); obtain ⟨Ag, cg, rfl⟩ := Kd.S_slice hs; have SG := aM hs; replace SK := aM (Kd.S_old SK.out hb); replace X1 := aM (blk_below X1.out hb); replace XR := aM (blk_below XR.out hb); replace HB := aM hb0; clear hz1 hzR hb hs hb0 hg_ hat; have hz1 := cellsZ4 X1.out; have hzR := cellsZ4 XR.out) | ((with_reducible refine gate_dst (N := 5) rfl ?_); refine bX 5 42 #[.int .i64 0, .int .i64 0, .int .i64 0, .slice none 0 0] ?_; intro bO hg w6 hbox hb; have XO := aM hbox; have GO := aM (show w.heap.size ≤ bO from by rw [hg]; exact HB.out.size); have NO1 := aM (show bO ≠ b1 from by rw [hg]; exact Nat.ne_of_gt (blk_lt X1.out)); have NOR := aM (show bO ≠ bR from by rw [hg]; exact Nat.ne_of_gt (blk_lt XR.out)); replace X1 := aM (blk_below X1.out hb); replace XR := aM (blk_below XR.out hb); replace SK := aM (Kd.S_below SK.out hb); replace SG := aM (Kd.S_below SG.out hb); replace HB := aM (below_after HB.out hb); clear hz1 hzR hg hbox hb; have hz1 := cellsZ4 X1.out; have hzR := cellsZ4 XR.out; have hzO := cellsZ4 XO.out))
    have YO := aM (show ((((w6.setCell ⟨bO, 0, none⟩ (.int .i64 q1)).setCell ⟨bO, 1, none⟩ (.int .i64 q2)).setCell ⟨bO, 2, none⟩ (.int .i64 q3)).setCell ⟨bO, 3, none⟩ (.slice Ac q4.length cc)).heap[bO]? = some (.cells #[.int .i64 q1, .int .i64 q2, .int .i64 q3, .slice Ac q4.length cc] 42 (0, 0)) from by with_reducible exact blk_put4 XO.out)
    have HO := aM (show Only w6 ((((w6.setCell ⟨bO, 0, none⟩ (.int .i64 q1)).setCell ⟨bO, 1, none⟩ (.int .i64 q2)).setCell ⟨bO, 2, none⟩ (.int .i64 q3)).setCell ⟨bO, 3, none⟩ (.slice Ac q4.length cc)) bO from by repeat (first | (with_reducible apply Only.set) | exact Only.refl _ _))
    generalize (((w6.setCell ⟨bO, 0, none⟩ (.int .i64 q1)).setCell ⟨bO, 1, none⟩ (.int .i64 q2)).setCell ⟨bO, 2, none⟩ (.int .i64 q3)).setCell ⟨bO, 3, none⟩ (.slice Ac q4.length cc) = w7 at YO HO ⊢
    have Y1 := aM ((HO.out.2.2.2.2 b1 (Ne.symm NO1.out)).trans X1.out)
    have YR := aM ((HO.out.2.2.2.2 bR (Ne.symm NOR.out)).trans XR.out)
    have HB7 := aM (below_only HB.out GO.out HO.out)
    have SK7 := aM (Kd.S_step (Kd.S_types SK.out XO.out (by decide)) (fun k hk _ => HO.out.2.2.2.2 k hk.2))
    have SG7 := aM (Kd.S_step (Kd.S_types SG.out XO.out (by decide)) (fun k hk _ => HO.out.2.2.2.2 k hk.2))
    have HPQ := aM (show ∀ k, ((True ∧ k < w4.heap.size) ∧ k ≠ bO) → ¬ (w4.heap.size ≤ k ∧ k ≠ bO) from fun k h1 h2 => by have h3 := h1.1.2; have h4 := h2.1; omega)
    clear hz1 hzR hzO X1 XR XO HB SG SK HO
    have hz1 := cellsZ4 Y1.out
    cases s with
    | true =>
      have h := HH.out
      rw [if_pos rfl] at h
      simp only [Option.some.injEq, Prod.mk.injEq] at h
      obtain ⟨rfl, rfl, rfl, rfl, rfl, rfl⟩ := h
      clear HH
      go_upto_region 5 with (first | ((with_reducible refine gate_callee (f := 80) rfl ?_); refine gL 19 Tryd.func80 #[.slice A0_3 l0_3.length c0_3, .func (.func 81) #[] #[]] ?_; (with_reducible refine (impl_Win_with_impl_TellDirty_1_10080081.calls k _ _ l0_3 true _ (Kd.C_below HR.out HB7.out) HC.out E3.out).mono ?_); rintro e w8 ⟨rfl, hb⟩; refine ⟨_, rfl, ?_⟩; replace Y1 := aM (blk_below Y1.out hb); replace YR := aM (blk_below YR.out hb); replace YO := aM (blk_below YO.out hb); replace SK7 := aM (Kd.S_below SK7.out hb); replace SG7 := aM (Kd.S_below SG7.out hb); replace HB7 := aM (below_after HB7.out hb); clear hz1 hb))
      have hzO := cellsZ4 YO.out
      have hzR := cellsZ4 YR.out
      go_wp2
      refine bodyPost_ret (results_ctt rfl _ _ bR 42 #[.int .i64 q1, .int .i64 q2, .int .i64 q3, .slice Ac q4.length cc] (0, 0) _ rfl (by with_reducible exact blk_put4 YR.out) Tryd.underlying42 rfl (by kernel_rfl)) rfl ?_
      have SK2 := Kd.S_types SK7.out YR.out (by decide)
      exact ⟨_, _, rfl, ⟨_, fun _ => False, fun _ _ h => h.elim, Kd.S_far (Kd.S_far (Kd.S_far (Kd.S_far SK2 (fun k hk => hk.2) _) (fun k hk => hk.2) _) (fun k hk => hk.2) _) (fun k hk => hk.2) _, Kd.S_nil _ _ _ _ _⟩, below_set (below_set (below_set (below_set HB7.out GR.out) GR.out) GR.out) GR.out⟩
    | false =>
      have h := HH.out
      rw [if_neg (by decide)] at h
      have hj := ifS h
      clear h HH
      obtain ⟨⟨hsh, hbig⟩, h1⟩ := hj
      simp only [Option.some.injEq, Prod.mk.injEq] at h1
      obtain ⟨rfl, rfl, rfl, rfl, rfl, rfl⟩ := h1
      have HSH := aM hsh
      have HBIG := aM hbig
      clear hsh hbig
      go_upto_region 6 with (first | ((with_reducible refine gate_callee (f := 80) rfl ?_); refine gL 19 Tryd.func80 #[.slice A0_3 l0_3.length c0_3, .func (.func 81) #[] #[]] ?_; (with_reducible refine (impl_Win_with_impl_TellDirty_1_10080081.calls k _ _ l0_3 false _ (Kd.C_below HR.out HB7.out) HC.out E3.out).mono ?_); rintro e w8 ⟨rfl, hb⟩; refine ⟨_, rfl, ?_⟩; replace Y1 := aM (blk_below Y1.out hb); replace YR := aM (blk_below YR.out hb); replace YO := aM (blk_below YO.out hb); replace SK7 := aM (Kd.S_below SK7.out hb); replace SG7 := aM (Kd.S_below SG7.out hb); replace HB7 := aM (below_after HB7.out hb); clear hz1 hb))
      have hzO := cellsZ4 YO.out
      go_wp2_with fail
      clear hzO
      go_loopg [24, 6] q4.length (fun kq v24 v6 w' => ∃ (i : Nat) (P Q : Nat → Prop), v24 = .int .i64 i ∧ Aside0 (i + kq = q4.length) ∧ Aside0 (∀ k, P k → ¬ Q k) ∧ Aside0 (Kd.S k37 37 w' w.heap.size P (.slice Ac q4.length cc) (curW q4 i)) ∧ Aside0 (Kd.S k96 96 w' w.heap.size Q v6 (toldWs (q4.take i))) ∧ Aside0 (w'.heap[bR]? = some (.cells #[.int .i64 0, .int .i64 0, .int .i64 0, .slice none 0 0] 42 (0, 0))) ∧ Aside0 (w'.heap[bO]? = some (.cells #[.int .i64 q1, .int .i64 q2, .int .i64 q3, .slice Ac q4.length cc] 42 (0, 0))) ∧ Aside0 (Below w.heap.size w w'))
      case atStart => exact ⟨0, _, _, rfl, ⟨Nat.zero_add _⟩, HPQ, ⟨by rw [curW_zero]; exact SK7.out⟩, SG7, YR, YO, HB7⟩
      case round =>
        clear Y1 YR YO HB7 SG7 SK7 HPQ
        obtain ⟨i, P, Q, rfl, HI, HPQ, SK, SG, XR, XO, HB⟩ := hrel
        obtain ⟨A6, n6, c6, rfl⟩ := S_slice3 SG.out
        cases gk with
        | zero =>
          have hi : i = q4.length := by have := HI.out; omega
          subst hi
          have hd : decide ((q4.length : Int) < (q4.length : Int)) = false := decide_eq_false (by omega)
          have hdn : decide (q4.length < q4.length) = false := decide_eq_false (by omega)
          have hzR := cellsZ4 XR.out
          have hzO := cellsZ4 XO.out
          clear HI
          go_wp2
          refine bodyPost_ret (results_ctt rfl _ _ bR 42 #[.int .i64 q1, .int .i64 q2, .int .i64 q3, .slice Ac q4.length cc] (0, 0) _ rfl (by with_reducible exact blk_put4 XR.out) Tryd.underlying42 rfl (by kernel_rfl)) rfl ?_
          have SK2 := Kd.S_types SK.out XR.out (by decide)
          have SG2 := Kd.S_types SG.out XR.out (by decide)
          rw [List.take_length] at SG2
          rw [curW_end] at SK2
          exact ⟨_, _, rfl, ⟨_, _, fun k h1 h2 => HPQ.out k h1.1 h2.1, Kd.S_far (Kd.S_far (Kd.S_far (Kd.S_far SK2 (fun k hk => hk.2) _) (fun k hk => hk.2) _) (fun k hk => hk.2) _) (fun k hk => hk.2) _, Kd.S_far (Kd.S_far (Kd.S_far (Kd.S_far SG2 (fun k hk => hk.2) _) (fun k hk => hk.2) _) (fun k hk => hk.2) _) (fun k hk => hk.2) _⟩, below_set (below_set (below_set (below_set HB.out GR.out) GR.out) GR.out) GR.out⟩
        | succ kk =>
          have hlt : i < q4.length := by have := HI.out; omega
          have HLT := aM hlt
          have HCL := aM (curW_len (Nat.le_of_lt hlt))
          rcases S_shape SK.out with ⟨_, hl0, _, _⟩ | ⟨g, rfl⟩
          · omega
          obtain ⟨A1, c1, A7, c7, hR1, hR7, ⟨hc0, hc1, hc2, hc3, hc4, hc5, hc6, hc7, hc8, hc9, hc10⟩, hfr, hback⟩ := elemW_out SK.out (by rw [HCL.out]; exact hlt)
          have hx : rd_T37 (curW q4 i) (i : Int) = rd_T37 q4 (i : Int) := curW_at hlt
          rw [hx] at hR1 hR7 hc0 hc1 hc2 hc3 hc4 hc5 hc6 hc7 hc8 hc9 hc10 hback
          have hsx := shortsT_at HSH.out hlt
          have HTL := aM (toldWs_len q4 i)
          have HTY := aM (toldWs_yes hlt)
          have HTN := aM (toldWs_no hlt)
          have HCY := aM (curW_set hlt)
          have HCN := aM (curW_same hlt)
          clear hx
          generalize rd_T37 q4 (i : Int) = x at *
          have HSX := aM hsx
          have HFR := aM hfr
          have HBK := aM hback
          have hf9 := hfr 9
          have hf10 := hfr 10
          have hi0 : (0 : Int) ≤ (i : Int) := Int.natCast_nonneg i
          have hil : (i : Int) < (q4.length : Int) := by omega
          have hd : decide ((i : Int) < (q4.length : Int)) = true := decide_eq_true hil
          have hdn : decide (i < q4.length) = true := decide_eq_true hlt
          have hiw : IntKind.i64.wrap ((i : Int) + 1) = (i : Int) + 1 := by rw [IntKind.wrap_i64]; have := HBIG.out; omega
          have HGP := aM ((Kd.S_R SK.out).1 g rfl)
          have HGB := aM (Kd.S_base SK.out g rfl)
          have hzO := cellsZ4 XO.out
          clear hsx hfr hback hR1 hR7
          cases hdy : x.f3 with
          | false =>
            rw [hdy] at hc10
            have EX := aM (HTN.out hdy)
            have EC := aM (HCN.out hdy)
            clear hdy
            go_wp2
            go_roundg kk
            case rel => exact ⟨i + 1, P, Q, by go_num, ⟨by have := HI.out; omega⟩, HPQ, ⟨by rw [EC.out]; exact SK.out⟩, ⟨by rw [EX.out]; exact SG.out⟩, XR, XO, HB⟩
            case measure => exact Nat.lt_succ_self _
          | true =>
            rw [hdy] at hc10
            have EX := aM (HTY.out hdy)
            have hcl : cleanW x = (⟨x.f0, x.f1, wrap64 (x.f2 + 1), false⟩ : S37) := by unfold cleanW; rw [if_pos hdy]
            have EC := aM (HCY.out)
            rw [hcl] at EC
            clear hdy hcl
            go_upto_region 13 with fail
            have SK9 := aM (HBK.out (wrap64 (x.f2 + 1)) false)
            have HO := aM (show Only wr ((wr.setCell ⟨g, i * 11 + 9, none⟩ (.int .i64 (wrap64 (x.f2 + 1)))).setCell ⟨g, i * 11 + 10, none⟩ (.bool false)) g from by repeat (first | (with_reducible apply Only.set) | exact Only.refl _ _))
            generalize (wr.setCell ⟨g, i * 11 + 9, none⟩ (.int .i64 (wrap64 (x.f2 + 1)))).setCell ⟨g, i * 11 + 10, none⟩ (.bool false) = w9 at SK9 HO ⊢
            clear hzO hc0 hc1 hc2 hc3 hc4 hc5 hc6 hc7 hc8 hc9 hc10 hf9 hf10
            rw [EC.out] at SK9
            have NRG := aM (show bR ≠ g from fun he => Kd.S_ne SK.out XR.out (by decide) (by rw [he]; rfl))
            have NOG := aM (show bO ≠ g from fun he => Kd.S_ne SK.out XO.out (by decide) (by rw [he]; rfl))
            replace XR := aM ((HO.out.2.2.2.2 bR NRG.out).trans XR.out)
            replace XO := aM ((HO.out.2.2.2.2 bO NOG.out).trans XO.out)
            replace SG := aM (Kd.S_step SG.out (fun k hk _ => HO.out.2.2.2.2 k (fun he => HPQ.out g HGP.out (he ▸ hk))))
            replace HB := aM (below_only HB.out HGB.out HO.out)
            clear SK HO HFR HBK
            obtain ⟨A1, c1, A7, c7, hR1, hR7, ⟨hc0, hc1, hc2, hc3, hc4, hc5, hc6, hc7, hc8, hc9, hc10⟩, _, _⟩ := elemW_out SK9.out (n := i) (by rw [curW_len (by have := HLT.out; omega)]; exact HLT.out)
            have hx2 : rd_T37 (curW q4 (i + 1)) (i : Int) = (⟨x.f0, x.f1, wrap64 (x.f2 + 1), false⟩ : S37) := by rw [← EC.out]; exact rd_setW (by rw [HCL.out]; exact HLT.out) _
            rw [hx2] at hR1 hR7 hc0 hc1 hc2 hc3 hc4 hc5 hc6 hc7 hc8 hc9 hc10
            have HI1 := aM (Kd.R_reads' hR1).2.2
            have HL1 := aM (Kd.R_reads' hR1).2.1
            have HI7 := aM (Kd.R_reads' hR7).2.2
            have HL7 := aM (Kd.R_reads' hR7).2.1
            have EK := aM (Lem.winCloned_ok (⟨x.f0, x.f1, wrap64 (x.f2 + 1), false⟩ : S37) HSX.out)
            clear hx2 hR1 hR7
            go_upto_region 14 with (first | ((with_reducible refine gate_callee (f := 49) rfl ?_); refine gL 48 Tryd.func49 #[.agg #[.string x.f0.f0, .slice A1 x.f0.f1.length c1, .int .i64 x.f0.f2, .int .i64 x.f1.f0, .int .i64 x.f1.f1, .int .i64 x.f1.f2, .int .i64 x.f1.f3, .slice A7 x.f1.f4.length c7, .bool x.f1.f5, .int .i64 (wrap64 (x.f2 + 1)), .bool false]] ?_; (with_reducible refine (impl_Win_cloned.calls x.f0.f0 _ _ x.f0.f1 x.f0.f2 x.f1.f0 x.f1.f1 x.f1.f2 x.f1.f3 _ _ x.f1.f4 x.f1.f5 (wrap64 (x.f2 + 1)) false x.f0.f0 x.f0.f1 x.f0.f2 x.f1.f0 x.f1.f1 x.f1.f2 x.f1.f3 x.f1.f4 x.f1.f5 (wrap64 (x.f2 + 1)) false _ HI1.out HL1.out HI7.out HL7.out EK.out).mono ?_); rintro e w10 ⟨v1, v7, rfl, ho1, ho7, hb⟩; refine ⟨_, rfl, ?_⟩; obtain ⟨Ak, ck, rfl⟩ := Kd.R_slice ho1; obtain ⟨Ah, ch, rfl⟩ := Kd.R_slice ho7; have KR1 := aM ho1; have KR7 := aM ho7; replace SK9 := aM (Kd.S_old SK9.out hb); replace SG := aM (Kd.S_old SG.out hb); replace XR := aM (blk_below XR.out hb); replace XO := aM (blk_below XO.out hb); have HB9 := aM HB.out.size; replace HB := aM (below_after HB.out hb); have H910 := aM hb.size; clear hb ho1 ho7 hc0 hc1 hc2 hc3 hc4 hc5 hc6 hc7 hc8 hc9 hc10) | ((with_reducible refine gate_dst (N := 9) rfl ?_); refine bX 9 37 #[.string (⟨#[]⟩ : ByteArray), .slice none 0 0, .int .i64 0, .int .i64 0, .int .i64 0, .int .i64 0, .int .i64 0, .slice none 0 0, .bool false, .int .i64 0, .bool false] ?_; intro bW hg w11 hbox hb; have XW := aM hbox; have GW := aM hg; have BW := aM hb; clear hg hbox hb; have hzW := cellsZ11 XW.out))
            have YW := aM (show ((((((((((((w11.setCell ⟨bW, 0, none⟩ (.string x.f0.f0)).setCell ⟨bW, 1, none⟩ (.slice Ak x.f0.f1.length ck)).setCell ⟨bW, 2, none⟩ (.int .i64 x.f0.f2)).setCell ⟨bW, 3, none⟩ (.int .i64 x.f1.f0)).setCell ⟨bW, 4, none⟩ (.int .i64 x.f1.f1)).setCell ⟨bW, 5, none⟩ (.int .i64 x.f1.f2)).setCell ⟨bW, 6, none⟩ (.int .i64 x.f1.f3)).setCell ⟨bW, 7, none⟩ (.slice Ah x.f1.f4.length ch)).setCell ⟨bW, 8, none⟩ (.bool x.f1.f5)).setCell ⟨bW, 9, none⟩ (.int .i64 (wrap64 (x.f2 + 1)))).setCell ⟨bW, 10, none⟩ (.bool false))).heap[bW]? = some (.cells #[.string x.f0.f0, .slice Ak x.f0.f1.length ck, .int .i64 x.f0.f2, .int .i64 x.f1.f0, .int .i64 x.f1.f1, .int .i64 x.f1.f2, .int .i64 x.f1.f3, .slice Ah x.f1.f4.length ch, .bool x.f1.f5, .int .i64 (wrap64 (x.f2 + 1)), .bool false] 37 (0, 0)) from by with_reducible exact blk_put11 XW.out)
            have HO := aM (show Only w11 ((((((((((((w11.setCell ⟨bW, 0, none⟩ (.string x.f0.f0)).setCell ⟨bW, 1, none⟩ (.slice Ak x.f0.f1.length ck)).setCell ⟨bW, 2, none⟩ (.int .i64 x.f0.f2)).setCell ⟨bW, 3, none⟩ (.int .i64 x.f1.f0)).setCell ⟨bW, 4, none⟩ (.int .i64 x.f1.f1)).setCell ⟨bW, 5, none⟩ (.int .i64 x.f1.f2)).setCell ⟨bW, 6, none⟩ (.int .i64 x.f1.f3)).setCell ⟨bW, 7, none⟩ (.slice Ah x.f1.f4.length ch)).setCell ⟨bW, 8, none⟩ (.bool x.f1.f5)).setCell ⟨bW, 9, none⟩ (.int .i64 (wrap64 (x.f2 + 1)))).setCell ⟨bW, 10, none⟩ (.bool false))) bW from by repeat (first | (with_reducible apply Only.set) | exact Only.refl _ _))
            generalize (((((((((((w11.setCell ⟨bW, 0, none⟩ (.string x.f0.f0)).setCell ⟨bW, 1, none⟩ (.slice Ak x.f0.f1.length ck)).setCell ⟨bW, 2, none⟩ (.int .i64 x.f0.f2)).setCell ⟨bW, 3, none⟩ (.int .i64 x.f1.f0)).setCell ⟨bW, 4, none⟩ (.int .i64 x.f1.f1)).setCell ⟨bW, 5, none⟩ (.int .i64 x.f1.f2)).setCell ⟨bW, 6, none⟩ (.int .i64 x.f1.f3)).setCell ⟨bW, 7, none⟩ (.slice Ah x.f1.f4.length ch)).setCell ⟨bW, 8, none⟩ (.bool x.f1.f5)).setCell ⟨bW, 9, none⟩ (.int .i64 (wrap64 (x.f2 + 1)))).setCell ⟨bW, 10, none⟩ (.bool false)) = w12 at YW HO ⊢
            have B12 := aM (below_only BW.out (Nat.le_of_eq GW.out.symm) HO.out)
            clear hzW XW BW HO
            replace SK9 := aM (Kd.S_below SK9.out B12.out)
            replace SG := aM (Kd.S_below SG.out B12.out)
            replace XR := aM (blk_below XR.out B12.out)
            replace XO := aM (blk_below XO.out B12.out)
            replace KR1 := aM (Kd.R_mono (Kd.R_below (Kd.R_bound KR1.out) B12.out) (fun k hk => hk.2.1))
            replace KR7 := aM (Kd.R_mono (Kd.R_below (Kd.R_bound KR7.out) B12.out) (fun k hk => hk.2.1))
            replace HB := aM (below_after HB.out B12.out)
            have H12 := aM (Nat.le_trans H910.out B12.out.size)
            clear B12
            have hzW := cellsZ11 YW.out
            go_wp2_with (first | ((with_reducible refine gate_builtin (b := .append) (xs := #[.tmp 49, .tmp 57]) rfl ?_); at_builtin; refine Kd.S_append k96 (w0 := w) w.heap.size rfl (.tmp 49) (.tmp 57) 57 96 (.agg #[(.string ⟨#[]⟩), (.slice none 0 0), (.int .i64 0), (.int .i64 0), (.int .i64 0), (.int .i64 0), (.int .i64 0), (.int .i64 0), (.slice none 0 0), (.bool false)]) 120 rfl Tryd.underlying57 info96 rfl (by decide) (by omega) (.slice A6 n6 c6) (toldWs (q4.take i)) (toldW x) [.string x.f0.f0, .slice Ak x.f0.f1.length ck, .int .i64 x.f0.f2, .int .i64 (wrap64 (x.f2 + 1)), .int .i64 x.f1.f0, .int .i64 x.f1.f1, .int .i64 x.f1.f2, .int .i64 x.f1.f3, .slice Ah x.f1.f4.length ch, .bool x.f1.f5] (fun k => (Q k ∧ k < w9.heap.size) ∨ w9.heap.size ≤ k) (fun k => w9.heap.size ≤ k) rfl rfl ?aP (fun k hk => ⟨.inr hk, fun he => by have h1 := (Kd.S_R SG.out).1 k he.symm; have h2 := h1.2; omega⟩) (fun k hk => .inr (Nat.le_trans H12.out hk)) ?aO HB.out HB.out.size ?aL ?_; (case aP => exact k96_mkM _ _ _ (toldW x) (Kd.R_lower KR1.out HB9.out) (Kd.R_lower KR7.out HB9.out)); (case aO => exact Kd.S_mono SG.out (fun k hk => ⟨.inl hk, by have h2 := hk.2; omega⟩)); (case aL => have h1 := HTL.out; have h2 := HBIG.out; have h3 := HLT.out; omega); intro v58 w13 hs hb hg hat; obtain ⟨A58, n58, c58, rfl⟩ := S_slice3 hs; have hown : ∀ k, (Value.slice A6 n6 c6).ownBlock = some k → Q k := fun k hk => ((Kd.S_R SG.out).1 k hk).1; have SK13 := aM (Kd.S_step SK9.out (fun k hk hlt => hg.block k hlt (fun he => HPQ.out k hk.1 (hown k he.symm)))); have SG13 := aM hs; have YR := aM ((hg.block bR (blk_lt XR.out) (Kd.S_ne SG.out XR.out (by decide))).trans XR.out); have YO := aM ((hg.block bO (blk_lt XO.out) (Kd.S_ne SG.out XO.out (by decide))).trans XO.out); have HB13 := aM hb; clear hs hb hg hat hown hzW))
            go_roundg kk
            case rel => exact ⟨i + 1, (fun k => P k ∧ k < w9.heap.size), (fun k => (Q k ∧ k < w9.heap.size) ∨ w9.heap.size ≤ k), by go_num, ⟨by have := HI.out; omega⟩, ⟨fun k h1 h2 => by rcases h2 with h2 | h2; exact HPQ.out k h1.1 h2.1; have h3 := h1.2; omega⟩, SK13, ⟨by rw [EX.out]; exact SG13.out⟩, YR, YO, HB13⟩
            case measure => exact Nat.lt_succ_self _
end Go.Proofs.YtkgmoajdcibafaaDoor.P
end

/- An element of a row is written field by field: what stands meanwhile. No conditions. -/
namespace Go.Proofs.YtkgmoajdcibafaaDoor.P
open Go.RowKit Go.Proofs.YtkgmoajdcibafaaDoorW.PrintWords Go.Proofs.YtkgmoajdcibafaaDoorW.PrintLast Go.Proofs.YtkgmoajdcibafaaDoorW.PrintMore
section
variable {α β : Type} {d : Kd α} {d' : Kd β} {e e' g n cap : Nat} {w0 w W W' : World} {P S oki : Nat → Prop} {xs : List α} {i : Int} {c : List Value}
/-- Element i of the row at block g is out: its cells are c, its rows' blocks are oki. -/
structure Hole (d : Kd α) (e : Nat) (w0 w W : World) (P : Nat → Prop) (g n cap : Nat) (xs : List α) (i : Int) (oki : Nat → Prop) (c : List Value) : Prop where
  i0 : 0 ≤ i
  i1 : i < n
  hb : Below w0.heap.size w0 W
  hk : Kept w W P
  hp : P g
  hg : w0.heap.size ≤ g
  ho : ∀ k, oki k → P k ∧ k ≠ g
  hh : Kd.H d e W w0.heap.size P (.slice (some ⟨g, 0, none⟩) n cap) xs i oki c
theorem Hole.mk0 (hS : Kd.S d e W w0.heap.size P (.slice (some ⟨g, 0, none⟩) n cap) xs) (hb : Below w0.heap.size w0 W) (hk : Kept w W P) (z : α) (h0 : 0 ≤ i) (h1 : i < n) :
    ∃ (oki : Nat → Prop) (c : List Value), Hole d e w0 w W P g n cap xs i oki c ∧ d.M W w0.heap.size oki (xs.getD i.toNat z) c := by
  obtain ⟨oki, c, hcl, hM, hcc, hfr, hoki, hH⟩ := Kd.S_elem hS z i h0 h1
  exact ⟨oki, c, ⟨h0, h1, hb, hk, (Kd.S_R hS).1 _ rfl, Kd.S_base hS _ rfl, hoki, hH⟩, hM⟩
theorem Hole.below (h : Hole d e w0 w W P g n cap xs i oki c) (hb : Below W.heap.size W W') : Hole d e w0 w W' P g n cap xs i oki c :=
  ⟨h.i0, h.i1, h.hb.trans ⟨hb.os, hb.tape, hb.output, hb.size, fun k hk => hb.block k (Nat.lt_of_lt_of_le hk h.hb.size)⟩, h.hk.below hb, h.hp, h.hg, h.ho, Kd.H_below h.hh hb⟩
theorem Hole.cell (h : Hole d e w0 w W P g n cap xs i oki c) {o : Nat} (j : Nat) (u : Value) (ho : o = i.toNat * d.sz + j) (hu : c[j]? = some u) : W.cell? ⟨g, o, none⟩ = some u := by
  rw [ho]
  exact (Kd.H_at h.hh h.i0 h.i1).1 j u hu
theorem Hole.free (h : Hole d e w0 w W P g n cap xs i oki c) {o : Nat} (j : Nat) (ho : o = i.toNat * d.sz + j) : W.frozen? ⟨g, o, none⟩ = false := by
  rw [ho]
  exact (Kd.H_at h.hh h.i0 h.i1).2 j
theorem Hole.clen (h : Hole d e w0 w W P g n cap xs i oki c) : c.length = d.sz := (Kd.H_raw h.hh h.i0 h.i1).choose_spec.2.2.1
theorem Hole.put (h : Hole d e w0 w W P g n cap xs i oki c) {o : Nat} (j : Nat) (u : Value) (ho : o = i.toNat * d.sz + j) (hj : j < d.sz) (hone : u.oneCell' = true) : Hole d e w0 w (W.setCell ⟨g, o, none⟩ u) P g n cap xs i oki (c.set j u) := by
  have hc := h.clen
  obtain ⟨h1, _⟩ := Kd.H_seg h.hh h.i0 h.i1 (seg := [u]) (j := j) (by show j + 1 ≤ d.sz; omega) (fun q hq => by rw [List.mem_singleton.1 hq]; exact hone)
  rw [← ho] at h1
  have e1 : c.take j ++ [u] ++ c.drop (j + 1) = c.set j u := by
    rw [List.set_eq_take_append_cons_drop, if_pos (by omega), List.append_assoc]
    rfl
  rw [show j + [u].length = j + 1 from rfl, e1] at h1
  exact ⟨h.i0, h.i1, below_set h.hb h.hg, h.hk.setCell (.inl h.hp) u, h.hp, h.hg, h.ho, h1⟩
theorem Hole.kept (h : Hole d e w0 w W P g n cap xs i oki c) (hk : Kept W W' S) (hb : Below w0.heap.size w0 W') (hS : ∀ k, S k → oki k) : Hole d e w0 w W' P g n cap xs i oki c :=
  ⟨h.i0, h.i1, hb, h.hk.then_ hk (fun k hs => .inl (h.ho k (hS k hs)).1), h.hp, h.hg, h.ho, Kd.H_kept h.hh hk (fun _ _ hn hs => hn (hS _ hs))⟩
theorem Hole.back (h : Hole d e w0 w W P g n cap xs i oki c) {x' : α} (hM : d.M W w0.heap.size oki x' c) : Kd.S d e W w0.heap.size P (.slice (some ⟨g, 0, none⟩) n cap) (xs.set i.toNat x') ∧ Kept w W P ∧ Below w0.heap.size w0 W :=
  ⟨Kd.H_back h.hh hM (fun _ hk => hk), h.hk, h.hb⟩
/-- The element's row v, the element being out. -/
theorem Hole.in_put (h : Hole d e w0 w W P g n cap xs i oki c) {v : Value} {l : List β} (hv : Kd.R d' e' W w0.heap.size oki v l) {o : Nat} (u : Value) : Kd.R d' e' (W.setCell ⟨g, o, none⟩ u) w0.heap.size oki v l :=
  Kd.R_far hv (fun k hk => (h.ho k hk).2) u
end
end Go.Proofs.YtkgmoajdcibafaaDoor.P

-- written by a program of this session's (wip/pp)
namespace Go.Proofs.YtkgmoajdcibafaaDoor.P
open Go.RowKit Go.Proofs.YtkgmoajdcibafaaDoorW.PrintWords Go.Proofs.YtkgmoajdcibafaaDoorW.PrintLast Go.Proofs.YtkgmoajdcibafaaDoorW.PrintMore
attribute [local go_sem] max2_int min2_int max_two min_two max_three min_three max_four min_four str_geq str_gtr str_leq   -- for this text's walks alone
set_option linter.unusedVariables false
set_option linter.unusedSimpArgs false

/-! ### laws_markIntS: function 76 -/
def laws_markIntS.l0 : Nat → List Int → Int → Int → Option (Int × List Int)
 | 0, _, _, _ => none
 | k + 1, x0, x1, x5 => if x5 < (x0.length : Int) then (if 0 ≤ x5 then (laws_markIntS.l0 k (x0.set (x5 : Int).toNat x1) (wrap64 (x1 + 1)) (wrap64 (x5 + 1))) else (none)) else (some (x1, x0))
def laws_markIntS.f (k : Nat) (l0 : List Int) (a1 : Int) : Option (Int × List Int) := laws_markIntS.l0 k l0 a1 0
theorem laws_markIntS.mono_l : ∀ k, (∀ y0 y1 y2, LeO (laws_markIntS.l0 k y0 y1 y2) (laws_markIntS.l0 (k + 1) y0 y1 y2))
 | 0 => fun _ _ _ r h => by simp [laws_markIntS.l0] at h
 | k + 1 => by
  have ih0 := laws_markIntS.mono_l k
  · intro y0 y1 y2
    unfold laws_markIntS.l0
    exact moZ
theorem laws_markIntS.mono : ∀ a0 a1 k, LeO (laws_markIntS.f k a0 a1) (laws_markIntS.f (k + 1) a0 a1) := by
 intro a0 a1 k
 have ih0 := laws_markIntS.mono_l k
 unfold laws_markIntS.f
 exact moZ
set_option maxHeartbeats 8000000 in
set_option maxRecDepth 100000 in
theorem laws_markIntS.calls (k : Nat) (P0_ : Nat → Prop) (u9000_ : Value) (l0 : List Int) (a1 : Int) (r1 : Int) (r2 : List Int) (w0 w : World) (hB : Below w0.heap.size w0 w) (ho0 : Kd.R (Kd.int .i64) 3 w w0.heap.size P0_ u9000_ l0) (h : laws_markIntS.f k l0 a1 = some (r1, r2)) :
 Calls Tryd.prog 76 #[u9000_, .int .i64 a1] w fun e w' => e = .returned (.int .i64 r1) ∧ Kd.R (Kd.int .i64) 3 w' w0.heap.size (fun k_ => (P0_ k_ ∨ w.heap.size ≤ k_)) u9000_ r2 ∧ Below w0.heap.size w0 w' ∧ Kept w w' (fun k_ => P0_ k_) := by
 have HO0 := aM (show Kd.R (Kd.int .i64) 3 w w0.heap.size (fun k_ => (P0_ k_ ∨ w.heap.size ≤ k_)) u9000_ l0 from Kd.R_mono ho0 (fun k_ hk => (.inl hk)))
 have HK := aM (Kept.refl w (fun k_ => P0_ k_))
 have HW0 := aM hB.size
 have HB := aM hB
 clear hB
 have H : (laws_markIntS.l0 k l0 a1 0) = some (r1, r2) := h
 clear h
 have H' := aM H
 clear H
 go_enter Tryd.func76, Tryd.ntmps76
 go_wp2
 go_loopg [1, 5] k (fun kq v1 v5 w' => ∃ (x0_1 : List Int) (x1_1 : Int) (x5_1 : Int), v1 = .int .i64 x1_1 ∧ v5 = .int .i64 x5_1 ∧ Aside0 (laws_markIntS.l0 kq x0_1 x1_1 x5_1 = some (r1, r2)) ∧ Aside0 (kq ≤ k) ∧ Aside0 (Kd.R (Kd.int .i64) 3 w' w0.heap.size (fun k_ => (P0_ k_ ∨ w.heap.size ≤ k_)) u9000_ x0_1) ∧ Aside0 (Kept w w' (fun k_ => P0_ k_)) ∧ Aside0 (Below w0.heap.size w0 w'))
 case atStart => exact ⟨(l0), (a1), (0), z4458, z4458, H', ⟨Nat.le_refl _⟩, ⟨rZ HO0.out⟩, ⟨z7d56⟩, ⟨z5acd⟩⟩
 case round =>
  clear H'
  obtain ⟨x0_1, x1_1, x5_1, rfl, rfl, HA, HK1, HO_0, HK, HB⟩ := hrel
  cases gk with
  | zero => exact absurd HA.out (by simp [laws_markIntS.l0])
  | succ k1 =>
   have H := HA.out
   clear HA
   simp only [laws_markIntS.l0] at H
   by_cases c3 : x5_1 < (x0_1.length : Int)
   · rw [if_pos c3] at H
     have c3b0 := dL c3
     clear c3
     obtain ⟨c4b0, H⟩ := sE H
     obtain ⟨y101, hy101⟩ : ∃ y_ : List Int, y_ = (x0_1.set (x5_1 : Int).toNat x1_1) := ⟨_, rfl⟩
     first | (replace H := bindS H; rw [← hy101] at H; try dsimp only at H) | rw [← hy101] at H
     have Ny101 := aM hy101
     clear hy101
     have H' := aM H
     clear H
     obtain ⟨Ao6, co6, eo6⟩ := Kd.R_slice HO_0.out
     subst eo6
     have p5 : 0 ≤ (x5_1 : Int) := of_decide_eq_true z1200
     have q5 : (x5_1 : Int) < ((x0_1.length : Int) : Int) := of_decide_eq_true z1200
     obtain ⟨go5, co5, eo5, gb5, gl5, cl5, HG5⟩ := Kd.R_form HO_0.out (by omega)
     (first | cases eo5 | (injection eo5 with ea_ en_ ec_; (first | subst ea_ | (injection ea_ with ea_; subst ea_)); subst ec_; clear en_))
     have GB5 := aM gb5
     have GG5 := aM HG5
     clear gb5 gl5 HG5
     have HMgo5 := aM (show (P0_ go5 ∨ w.heap.size ≤ go5) from (HO_0.out.1 _ rfl))
     obtain ⟨hx5_0, hf5_0⟩ := Kd.R_celln 0 HO_0.out (x5_1 : Int) p5 q5
     replace p5 := eq_true p5
     replace q5 := eq_true q5
     have HP7 := Kd.R_putg HO_0.out (x5_1 : Int) x1_1
     go_wp2_with (first | ((with_reducible refine gate_store (t := 3) (p := 15) rfl ?_); refine store_event (t := 3) (p := 15) (v := ?vo_w8) (w1 := (wr.setCell ⟨go5, (x5_1 : Int).toNat, none⟩ (.int .i64 x1_1))) ?hg ?ho ?hn ?hr ?_; (case ho => rfl); (case hg => rfl); (case hn => rfl); (case hr => first | (go_simp; done) | (go_simp; rfl)); intro w8 hw; have hg : wr.grownBy w8 (some go5) := (by rw [hw]; exact HP7.2); have hp_ : Kd.R (Kd.int .i64) 3 w8 w0.heap.size (fun k_ => (P0_ k_ ∨ w.heap.size ≤ k_)) (.slice (some ⟨go5, 0, none⟩) x0_1.length co6) y101 := (by rw [hw, Ny101.out]; exact HP7.1); clear HP7; have _ := aM hp_; have _ := aM ((by rw [hw]; exact below_set (HB.out) GB5.out : Below w0.heap.size w0 w8)); have _ := aM (Kept.of_grown (S := (fun k_ => P0_ k_)) hg z7d56 (fun k_ e_ => (HO_0.out.1 k_ e_))); clear HO_0 HB HK; rename_i HO_0 HB HK; clear hg hw hp_))
     go_roundg k1
     case measure => have := HK1.out; omega
     case rel => exact ⟨(y101), (wrap64 (x1_1 + 1)), (wrap64 (x5_1 + 1)), z4458, z4458, H', ⟨zfb39⟩, ⟨rZ HO_0.out⟩, ⟨z7d56⟩, ⟨z5acd⟩⟩
   · rw [if_neg c3] at H
     have c3b0 := nL c3
     clear c3
     simp only [Option.some.injEq, Prod.mk.injEq] at H
     obtain ⟨rfl, rfl⟩ := H
     obtain ⟨Ao9, co9, eo9⟩ := Kd.R_slice HO_0.out
     subst eo9
     go_wp2
     go_ret
     exact ⟨z674d, rZ HO_0.out, z5acd, z7d56⟩

end Go.Proofs.YtkgmoajdcibafaaDoor.P

-- written by a program of this session's (wip/pp)
namespace Go.Proofs.YtkgmoajdcibafaaDoor.P
open Go.RowKit Go.Proofs.YtkgmoajdcibafaaDoorW.PrintWords Go.Proofs.YtkgmoajdcibafaaDoorW.PrintLast Go.Proofs.YtkgmoajdcibafaaDoorW.PrintMore
attribute [local go_sem] max2_int min2_int max_two min_two max_three min_three max_four min_four str_geq str_gtr str_leq   -- for this text's walks alone
set_option linter.unusedVariables false
set_option linter.unusedSimpArgs false

/-! ### laws_markText: function 75 -/
def laws_markText.l0 : Nat → Int → ByteArray → Option (ByteArray)
 | 0, _, _ => none
 | k + 1, x0, x3 => if x0 > 0 then ((some (([(wrap64 (48 + (Int.tmod x0 10))) % 256] : List Int) : List Int)).bind fun y101 => (if (strOfNums y101).size + x3.size ≤ 9223372036854775807 then (laws_markText.l0 k (wrap64 (Int.tdiv x0 10)) ((strOfNums y101) ++ x3)) else (none))) else (if 1 + x3.size ≤ 9223372036854775807 then (some ((⟨#[109]⟩ : ByteArray) ++ x3)) else (none))
def laws_markText.f (k : Nat) (a0 : Int) : Option (ByteArray) := if a0 ≤ 0 then (some (⟨#[109, 48]⟩ : ByteArray)) else (laws_markText.l0 k a0 (⟨#[]⟩ : ByteArray))
theorem laws_markText.mono_l : ∀ k, (∀ y0 y1, LeO (laws_markText.l0 k y0 y1) (laws_markText.l0 (k + 1) y0 y1))
 | 0 => fun _ _ r h => by simp [laws_markText.l0] at h
 | k + 1 => by
  have ih0 := laws_markText.mono_l k
  · intro y0 y1
    unfold laws_markText.l0
    exact moZ
theorem laws_markText.mono : ∀ a0 k, LeO (laws_markText.f k a0) (laws_markText.f (k + 1) a0) := by
 intro a0 k
 have ih0 := laws_markText.mono_l k
 unfold laws_markText.f
 exact moZ
set_option maxHeartbeats 8000000 in
set_option maxRecDepth 100000 in
theorem laws_markText.calls (k : Nat) (a0 : Int) (r : ByteArray) (w : World) (h : laws_markText.f k a0 = some r) :
 Calls Tryd.prog 75 #[.int .i64 a0] w fun e w' => e = .returned (.string r) ∧ Below w.heap.size w w' := by
 have HB := aM (Below.refl w.heap.size w)
 have H : (if a0 ≤ 0 then (some (⟨#[109, 48]⟩ : ByteArray)) else (laws_markText.l0 k a0 (⟨#[]⟩ : ByteArray))) = some r := h
 clear h
 by_cases c2 : a0 ≤ 0
 · rw [if_pos c2] at H
   have c2b0 := dE c2
   clear c2
   obtain rfl := Option.some.inj H
   go_enter Tryd.func75, Tryd.ntmps75
   go_wp2
   go_ret
   exact ⟨z674d, z5acd⟩
 · rw [if_neg c2] at H
   have c2b0 := nE c2
   clear c2
   have H' := aM H
   clear H
   go_enter Tryd.func75, Tryd.ntmps75
   go_wp2
   go_loopg [0, 3] k (fun kq v0 v3 w' => ∃ (x0_1 : Int) (x3_1 : ByteArray), v0 = .int .i64 x0_1 ∧ v3 = .string x3_1 ∧ Aside0 (laws_markText.l0 kq x0_1 x3_1 = some r) ∧ Aside0 (kq ≤ k) ∧ Aside0 (Below w.heap.size w w'))
   case atStart => exact ⟨(a0), ((⟨#[]⟩ : ByteArray)), z4458, z4458, H', ⟨Nat.le_refl _⟩, ⟨z5acd⟩⟩
   case round =>
    clear H'
    (try clear c2b0)
    obtain ⟨x0_1, x3_1, rfl, rfl, HA, HK1, HB⟩ := hrel
    cases gk with
    | zero => exact absurd HA.out (by simp [laws_markText.l0])
    | succ k1 =>
     have H := HA.out
     clear HA
     simp only [laws_markText.l0] at H
     by_cases c3 : x0_1 > 0
     · rw [if_pos c3] at H
       have c3b0 := dL c3
       clear c3
       obtain ⟨y101, hy101⟩ : ∃ y_ : List Int, y_ = (([(wrap64 (48 + (Int.tmod x0_1 10))) % 256] : List Int)) := ⟨_, rfl⟩
       first | (replace H := bindS H; rw [← hy101] at H; try dsimp only at H) | rw [← hy101] at H
       have Ny101 := aM hy101
       clear hy101
       replace H := ifS H; obtain ⟨c4, H⟩ := H
       have c4b0 := eq_true c4
       have c4b1 : decide ((strOfNums y101).size + x3_1.size ≤ 9223372036854775807) = true := decide_eq_true c4
       try have c4b2 : (9223372036854775807 < (strOfNums y101).size + x3_1.size) = False := eq_false (Nat.not_lt.2 c4)
       have H' := aM H
       clear H
       go_wp2_with (first | ((with_reducible refine gate_dst (N := 12) rfl ?_); refine Kd.R_lit (Kd.int .u8) _ 5 ?hg (N := 12) ?hd (xs := ([(wrap64 (48 + (Int.tmod x0_1 10))) % 256] : List Int)) (inner := [.int .u8 ((wrap64 (48 + (Int.tmod x0_1 10))) % 256)]) (ok := fun _ => True) (okp := fun _ => True) ?hr ?hp (fun _ hk => hk) trivial (Below.refl _ _) (Nat.le_refl _) (by simp) ?_; (case hd => rfl); (case hg => rfl); (case hr => first | (go_simp; done) | (go_simp; rfl)); (case hp => exact (Reps.one (show Kd.M (Kd.int .u8) _ _ _ ((wrap64 (48 + (Int.tmod x0_1 10))) % 256) [.int .u8 ((wrap64 (48 + (Int.tmod x0_1 10))) % 256)] from rfl) (Reps.none _ _))); intro v102 w5 ho6 hb hg_ hnew_; clear hg_ hnew_; (first | rw [← Ny101.out] at ho6 | (simp only [Int.reduceToNat] at ho6; rw [← Ny101.out] at ho6)); have _ := aM (Kd.R_lower ho6 (below_size hbZ)); have _ := aM (below_step hbZ hb); clear HB; rename_i HO103 HB; clear hb ho6; have hcv7 := own_string (P := Tryd.prog) Tryd.underlying141 Tryd.underlying5 Tryd.underlying9 (Kd.own_of_R HO103.out)))
       go_roundg k1
       case measure => have := HK1.out; omega
       case rel => exact ⟨(wrap64 (Int.tdiv x0_1 10)), ((strOfNums y101) ++ x3_1), z4458, z4458, H', ⟨zfb39⟩, ⟨z5acd⟩⟩
     · rw [if_neg c3] at H
       have c3b0 := nL c3
       clear c3
       replace H := ifS H; obtain ⟨c8, H⟩ := H
       have c8b0 := eq_true c8
       have c8b1 : decide (1 + x3_1.size ≤ 9223372036854775807) = true := decide_eq_true c8
       try have c8b2 : (9223372036854775807 < 1 + x3_1.size) = False := eq_false (Nat.not_lt.2 c8)
       obtain rfl := Option.some.inj H
       go_wp2
       go_ret
       exact ⟨z674d, z5acd⟩
end Go.Proofs.YtkgmoajdcibafaaDoor.P

-- written by a program of this session's (wip/pp)
namespace Go.Proofs.YtkgmoajdcibafaaDoor.P
open Go.RowKit Go.Proofs.YtkgmoajdcibafaaDoorW.PrintWords Go.Proofs.YtkgmoajdcibafaaDoorW.PrintLast Go.Proofs.YtkgmoajdcibafaaDoorW.PrintMore
attribute [local go_sem] max2_int min2_int max_two min_two max_three min_three max_four min_four str_geq str_gtr str_leq   -- for this text's walks alone
set_option linter.unusedVariables false
set_option linter.unusedSimpArgs false

/-! ### laws_markTagS: function 54 -/
def laws_markTagS.l0 : Nat → List (S123) → Int → Int → Option (Int × (List (S123)))
 | 0, _, _, _ => none
 | k + 1, x0, x1, x5 => if x5 < (x0.length : Int) then ((laws_markText.f k x1).bind fun t101 => (if 0 ≤ x5 then ((some (x0.set (x5 : Int).toNat (⟨t101, (rd_T123 x0 x5).f1⟩ : S123) : List (S123))).bind fun y102 => ((laws_markText.f k (wrap64 (x1 + 1))).bind fun t103 => (laws_markTagS.l0 k (y102.set (x5 : Int).toNat (⟨(rd_T123 y102 x5).f0, t103⟩ : S123)) (wrap64 ((wrap64 (x1 + 1)) + 1)) (wrap64 (x5 + 1))))) else (none))) else (some (x1, x0))
def laws_markTagS.f (k : Nat) (l0 : List (S123)) (a1 : Int) : Option (Int × (List (S123))) := laws_markTagS.l0 k l0 a1 0
theorem laws_markTagS.mono_l : ∀ k, (∀ y0 y1 y2, LeO (laws_markTagS.l0 k y0 y1 y2) (laws_markTagS.l0 (k + 1) y0 y1 y2))
 | 0 => fun _ _ _ r h => by simp [laws_markTagS.l0] at h
 | k + 1 => by
  have ih0 := laws_markTagS.mono_l k; have m0 := @laws_markText.mono
  · intro y0 y1 y2
    unfold laws_markTagS.l0
    exact moZ
theorem laws_markTagS.mono : ∀ a0 a1 k, LeO (laws_markTagS.f k a0 a1) (laws_markTagS.f (k + 1) a0 a1) := by
 intro a0 a1 k
 have ih0 := laws_markTagS.mono_l k
 have m0 := @laws_markText.mono
 unfold laws_markTagS.f
 exact moZ
set_option maxHeartbeats 8000000 in
set_option maxRecDepth 100000 in
theorem laws_markTagS.calls (k : Nat) (P0_ : Nat → Prop) (u9000_ : Value) (l0 : List (S123)) (a1 : Int) (r1 : Int) (r2 : List (S123)) (w0 w : World) (hB : Below w0.heap.size w0 w) (ho0 : Kd.R k123 123 w w0.heap.size P0_ u9000_ l0) (h : laws_markTagS.f k l0 a1 = some (r1, r2)) :
 Calls Tryd.prog 54 #[u9000_, .int .i64 a1] w fun e w' => e = .returned (.int .i64 r1) ∧ Kd.R k123 123 w' w0.heap.size (fun k_ => (P0_ k_ ∨ w.heap.size ≤ k_)) u9000_ r2 ∧ Below w0.heap.size w0 w' ∧ Kept w w' (fun k_ => P0_ k_) := by
 have HO0 := aM (show Kd.R k123 123 w w0.heap.size (fun k_ => (P0_ k_ ∨ w.heap.size ≤ k_)) u9000_ l0 from Kd.R_mono ho0 (fun k_ hk => (.inl hk)))
 have HK := aM (Kept.refl w (fun k_ => P0_ k_))
 have HW0 := aM hB.size
 have HB := aM hB
 clear hB
 have H : (laws_markTagS.l0 k l0 a1 0) = some (r1, r2) := h
 clear h
 have H' := aM H
 clear H
 go_enter Tryd.func54, Tryd.ntmps54
 go_wp2
 go_loopg [1, 5] k (fun kq v1 v5 w' => ∃ (x0_1 : List (S123)) (x1_1 : Int) (x5_1 : Int), v1 = .int .i64 x1_1 ∧ v5 = .int .i64 x5_1 ∧ Aside0 (laws_markTagS.l0 kq x0_1 x1_1 x5_1 = some (r1, r2)) ∧ Aside0 (kq ≤ k) ∧ Aside0 (Kd.R k123 123 w' w0.heap.size (fun k_ => (P0_ k_ ∨ w.heap.size ≤ k_)) u9000_ x0_1) ∧ Aside0 (Kept w w' (fun k_ => P0_ k_)) ∧ Aside0 (Below w0.heap.size w0 w'))
 case atStart => exact ⟨(l0), (a1), (0), z4458, z4458, H', ⟨Nat.le_refl _⟩, ⟨rZ HO0.out⟩, ⟨z7d56⟩, ⟨z5acd⟩⟩
 case round =>
  clear H'
  obtain ⟨x0_1, x1_1, x5_1, rfl, rfl, HA, HK1, HO_0, HK, HB⟩ := hrel
  cases gk with
  | zero => exact absurd HA.out (by simp [laws_markTagS.l0])
  | succ k1 =>
   have H := HA.out
   clear HA
   simp only [laws_markTagS.l0] at H
   by_cases c3 : x5_1 < (x0_1.length : Int)
   · rw [if_pos c3] at H
     have c3b0 := dL c3
     clear c3
     obtain ⟨t101, A4, H⟩ := bS H; try dsimp only at H
     obtain ⟨c5b0, H⟩ := sE H
     obtain ⟨y102, hy102⟩ : ∃ y_ : List (S123), y_ = (x0_1.set (x5_1 : Int).toNat (⟨t101, (rd_T123 x0_1 x5_1).f1⟩ : S123)) := ⟨_, rfl⟩
     first | (replace H := bindS H; rw [← hy102] at H; try dsimp only at H) | rw [← hy102] at H
     have Ny102 := aM hy102
     clear hy102
     obtain ⟨t103, A7, H⟩ := bS H; try dsimp only at H
     obtain ⟨y104, hy104⟩ : ∃ y_ : List (S123), y_ = (y102.set (x5_1 : Int).toNat (⟨(rd_T123 y102 x5_1).f0, t103⟩ : S123)) := ⟨_, rfl⟩
     first | (replace H := bindS H; rw [← hy104] at H; try dsimp only at H) | rw [← hy104] at H
     have Ny104 := aM hy104
     clear hy104
     have H' := aM H
     clear H
     obtain ⟨Ao9, co9, eo9⟩ := Kd.R_slice HO_0.out
     subst eo9
     go_wp2_with (first | ((with_reducible refine gate_callee (f := 75) rfl ?_); refine gL 15 Tryd.func75 #[.int .i64 x1_1] ?_; (with_reducible refine (laws_markText.calls k1 x1_1 t101 _ A4.out).mono ?_); rintro e w10 ⟨rfl, hb⟩; refine ⟨_, rfl, ?_⟩; have _ := aM (Kd.R_below (rZ HO_0.out) hb); have _ := aM (Kept.below (S := (fun k_ => P0_ k_)) z7d56 hb); have _ := aM (below_step hbZ hb); clear HO_0 HK HB; rename_i HO_0 HK HB; (try clear hb); have p6 : 0 ≤ (x5_1 : Int) := of_decide_eq_true z1200; have q6 : (x5_1 : Int) < ((x0_1.length : Int) : Int) := of_decide_eq_true z1200; obtain ⟨go6, co6, eo6, gb6, gl6, cl6, HG6⟩ := Kd.R_form HO_0.out (by omega); (first | cases eo6 | (injection eo6 with ea_ en_ ec_; (first | subst ea_ | (injection ea_ with ea_; subst ea_)); subst ec_; clear en_)); have GB6 := aM gb6; have GG6 := aM HG6; clear gb6 gl6 HG6; have HMgo6 := aM (show (P0_ go6 ∨ w.heap.size ≤ go6) from (HO_0.out.1 _ rfl)); obtain ⟨ce6, hcl6, hM6, hcc6, hfr6⟩ := Kd.R_elem HO_0.out z123 (x5_1 : Int) p6 q6; obtain rfl := k123_openM hM6; have hx6_0 : w10.cell? ⟨go6, (x5_1 : Int).toNat * 2, none⟩ = some (.string ((rd_T123 x0_1 x5_1).f0)) := hcc6 0 _ rfl; have hx6_1 : w10.cell? ⟨go6, (x5_1 : Int).toNat * 2 + 1, none⟩ = some (.string ((rd_T123 x0_1 x5_1).f1)) := hcc6 1 _ rfl; have hf6_0 : w10.frozen? ⟨go6, (x5_1 : Int).toNat * 2, none⟩ = false := hfr6 0; have hf6_1 : w10.frozen? ⟨go6, (x5_1 : Int).toNat * 2 + 1, none⟩ = false := hfr6 1; clear hcl6 hcc6 hfr6 hM6; replace p6 := eq_true p6; replace q6 := eq_true q6; have HX11 := aM (show Kd.R k123 123 w10 w0.heap.size (fun k_ => (P0_ k_ ∨ w.heap.size ≤ k_)) (.slice (some ⟨go6, 0, none⟩) x0_1.length co9) x0_1 from (rZ HO_0.out)); obtain ⟨ce11, hcl11, hM11, hcc11, hfr11⟩ := Kd.R_elem HX11.out z123 (x5_1 : Int) (of_decide_eq_true z1200) (by have h_ : (x5_1 : Int) < ((x0_1.length : Int) : Int) := of_decide_eq_true z1200; first | exact h_ | (have e_ := (Kd.R_reads' HO_0.out).1; omega) | simpa using h_); obtain rfl := k123_openM hM11; have HP11 := Kd.R_seg HX11.out (x5_1 : Int) (of_decide_eq_true z1200) (by have h_ : (x5_1 : Int) < ((x0_1.length : Int) : Int) := of_decide_eq_true z1200; first | exact h_ | (have e_ := (Kd.R_reads' HO_0.out).1; omega) | simpa using h_) (seg := [.string t101]) (j := 0) hcl11 hcc11 (show 1 ≤ 2 from by decide) (x' := (⟨t101, (rd_T123 x0_1 x5_1).f1⟩ : S123)) (k123_mkM _ _ _ (⟨t101, (rd_T123 x0_1 x5_1).f1⟩ : S123) ) (fun _ hk => hk); have hx11_0 := hcc11 0 _ rfl; (try simp only [show (k123).sz = 2 from rfl, Nat.mul_one, Nat.add_zero] at hx11_0); have hf11_0 := hfr11 0; (try simp only [show (k123).sz = 2 from rfl, Nat.mul_one, Nat.add_zero] at hf11_0); clear hcl11 hcc11 hfr11 hM11) | ((with_reducible refine gate_store (t := 9) (p := 17) rfl ?_); refine store_event (t := 9) (p := 17) (v := ?vo_w12) (w1 := (w10.setCell ⟨go6, (x5_1 : Int).toNat * 2, none⟩ (.string t101))) ?hg ?ho ?hn ?hr ?_; (case ho => rfl); (case hg => rfl); (case hn => rfl); (case hr => first | (go_simp; done) | (go_simp; rfl)); intro w12 hw; have hg : w10.grownBy w12 (some go6) := (by rw [hw]; exact HP11.2); have hp_ : Kd.R k123 123 w12 w0.heap.size (fun k_ => (P0_ k_ ∨ w.heap.size ≤ k_)) (.slice (some ⟨go6, 0, none⟩) x0_1.length co9) y102 := (by rw [hw, Ny102.out]; exact HP11.1); clear HP11; have _ := aM hp_; have _ := aM ((by rw [hw]; exact below_set (HB.out) GB6.out : Below w0.heap.size w0 w12)); have _ := aM (Kept.of_grown (S := (fun k_ => P0_ k_)) hg z7d56 (fun k_ e_ => (HO_0.out.1 k_ e_))); clear HO_0 HB HK; rename_i HO_0 HB HK; clear hg hw hp_) | ((with_reducible refine gate_callee (f := 75) rfl ?_); refine gL 23 Tryd.func75 #[.int .i64 (wrap64 (x1_1 + 1))] ?_; (with_reducible refine (laws_markText.calls k1 (wrap64 (x1_1 + 1)) t103 _ A7.out).mono ?_); rintro e w13 ⟨rfl, hb⟩; refine ⟨_, rfl, ?_⟩; have _ := aM (Kd.R_below (rZ HO_0.out) hb); have _ := aM (Kept.below (S := (fun k_ => P0_ k_)) z7d56 hb); have _ := aM (below_step hbZ hb); clear HO_0 HK HB; rename_i HO_0 HK HB; (try clear hb); have p8 : 0 ≤ (x5_1 : Int) := of_decide_eq_true z1200; have q8 : (x5_1 : Int) < ((x0_1.length : Int) : Int) := of_decide_eq_true z1200; obtain ⟨ce8, hcl8, hM8, hcc8, hfr8⟩ := Kd.R_elem HO_0.out z123 (x5_1 : Int) p8 q8; obtain rfl := k123_openM hM8; have hx8_0 : w13.cell? ⟨go6, (x5_1 : Int).toNat * 2, none⟩ = some (.string ((rd_T123 y102 x5_1).f0)) := hcc8 0 _ rfl; have hx8_1 : w13.cell? ⟨go6, (x5_1 : Int).toNat * 2 + 1, none⟩ = some (.string ((rd_T123 y102 x5_1).f1)) := hcc8 1 _ rfl; have hf8_0 : w13.frozen? ⟨go6, (x5_1 : Int).toNat * 2, none⟩ = false := hfr8 0; have hf8_1 : w13.frozen? ⟨go6, (x5_1 : Int).toNat * 2 + 1, none⟩ = false := hfr8 1; clear hcl8 hcc8 hfr8 hM8; replace p8 := eq_true p8; replace q8 := eq_true q8; have HX14 := aM (show Kd.R k123 123 w13 w0.heap.size (fun k_ => (P0_ k_ ∨ w.heap.size ≤ k_)) (.slice (some ⟨go6, 0, none⟩) x0_1.length co9) y102 from (rZ HO_0.out)); obtain ⟨ce14, hcl14, hM14, hcc14, hfr14⟩ := Kd.R_elem HX14.out z123 (x5_1 : Int) (of_decide_eq_true z1200) (by have h_ : (x5_1 : Int) < ((x0_1.length : Int) : Int) := of_decide_eq_true z1200; first | exact h_ | (have e_ := (Kd.R_reads' HO_0.out).1; omega) | simpa using h_); obtain rfl := k123_openM hM14; have HP14 := Kd.R_seg HX14.out (x5_1 : Int) (of_decide_eq_true z1200) (by have h_ : (x5_1 : Int) < ((x0_1.length : Int) : Int) := of_decide_eq_true z1200; first | exact h_ | (have e_ := (Kd.R_reads' HO_0.out).1; omega) | simpa using h_) (seg := [.string t103]) (j := 1) hcl14 hcc14 (show 2 ≤ 2 from by decide) (x' := (⟨(rd_T123 y102 x5_1).f0, t103⟩ : S123)) (k123_mkM _ _ _ (⟨(rd_T123 y102 x5_1).f0, t103⟩ : S123) ) (fun _ hk => hk); have hx14_1 := hcc14 1 _ rfl; (try simp only [show (k123).sz = 2 from rfl, Nat.mul_one, Nat.add_zero] at hx14_1); have hf14_1 := hfr14 1; (try simp only [show (k123).sz = 2 from rfl, Nat.mul_one, Nat.add_zero] at hf14_1); clear hcl14 hcc14 hfr14 hM14) | ((with_reducible refine gate_store (t := 9) (p := 25) rfl ?_); refine store_event (t := 9) (p := 25) (v := ?vo_w15) (w1 := (w13.setCell ⟨go6, (x5_1 : Int).toNat * 2 + 1, none⟩ (.string t103))) ?hg ?ho ?hn ?hr ?_; (case ho => rfl); (case hg => rfl); (case hn => rfl); (case hr => first | (go_simp; done) | (go_simp; rfl)); intro w15 hw; have hg : w13.grownBy w15 (some go6) := (by rw [hw]; exact HP14.2); have hp_ : Kd.R k123 123 w15 w0.heap.size (fun k_ => (P0_ k_ ∨ w.heap.size ≤ k_)) (.slice (some ⟨go6, 0, none⟩) x0_1.length co9) y104 := (by rw [hw, Ny104.out]; exact HP14.1); clear HP14; have _ := aM hp_; have _ := aM ((by rw [hw]; exact below_set (HB.out) GB6.out : Below w0.heap.size w0 w15)); have _ := aM (Kept.of_grown (S := (fun k_ => P0_ k_)) hg z7d56 (fun k_ e_ => (HO_0.out.1 k_ e_))); clear HO_0 HB HK; rename_i HO_0 HB HK; clear hg hw hp_))
     go_roundg k1
     case measure => have := HK1.out; omega
     case rel => exact ⟨(y104), (wrap64 ((wrap64 (x1_1 + 1)) + 1)), (wrap64 (x5_1 + 1)), z4458, z4458, H', ⟨zfb39⟩, ⟨rZ HO_0.out⟩, ⟨z7d56⟩, ⟨z5acd⟩⟩
   · rw [if_neg c3] at H
     have c3b0 := nL c3
     clear c3
     simp only [Option.some.injEq, Prod.mk.injEq] at H
     obtain ⟨rfl, rfl⟩ := H
     obtain ⟨Ao16, co16, eo16⟩ := Kd.R_slice HO_0.out
     subst eo16
     go_wp2
     go_ret
     exact ⟨z674d, rZ HO_0.out, z5acd, z7d56⟩

end Go.Proofs.YtkgmoajdcibafaaDoor.P

/- laws.markWinS: marks are written into each element; what else stands in memory stays. No conditions of its own. -/
namespace Go.Proofs.YtkgmoajdcibafaaDoor.P
open Go.RowKit Go.Proofs.YtkgmoajdcibafaaDoorW.PrintWords Go.Proofs.YtkgmoajdcibafaaDoorW.PrintLast Go.Proofs.YtkgmoajdcibafaaDoorW.PrintMore
set_option linter.unusedVariables false
set_option linter.unusedSimpArgs false
def laws_markWinS.l0 : Nat → List S37 → Int → Int → Option (Int × List S37)
 | 0, _, _, _ => none
 | k + 1, x0, x1, x5 => if x5 < (x0.length : Int) then (if 0 ≤ x5 then ((laws_markText.f k x1).bind fun t0 => ((laws_markTagS.f k (rd_T37 x0 x5).f0.f1 (wrap64 (x1 + 1))).bind fun t1 => ((laws_markIntS.f k (rd_T37 x0 x5).f1.f4 (wrap64 ((wrap64 ((wrap64 ((wrap64 ((wrap64 (t1.1 + 1)) + 1)) + 1)) + 1)) + 1))).bind fun t2 => (laws_markWinS.l0 k (x0.set x5.toNat (⟨(⟨t0, t1.2, t1.1⟩ : S32), (⟨(wrap64 (t1.1 + 1)), (wrap64 ((wrap64 (t1.1 + 1)) + 1)), (wrap64 ((wrap64 ((wrap64 (t1.1 + 1)) + 1)) + 1)), (wrap64 ((wrap64 ((wrap64 ((wrap64 (t1.1 + 1)) + 1)) + 1)) + 1)), t2.2, (Int.tmod t2.1 3 == 0)⟩ : S35), (wrap64 (t2.1 + 1)), (Int.tmod (wrap64 ((wrap64 (t2.1 + 1)) + 1)) 3 == 0)⟩ : S37)) (wrap64 ((wrap64 ((wrap64 (t2.1 + 1)) + 1)) + 1)) (wrap64 (x5 + 1)))))) else none) else some (x1, x0)
def laws_markWinS.f (k : Nat) (l0 : List S37) (a1 : Int) : Option (Int × List S37) := laws_markWinS.l0 k l0 a1 0
set_option maxHeartbeats 8000000 in
set_option maxRecDepth 100000 in
theorem laws_markWinS.calls (k : Nat) (P0_ : Nat → Prop) (u9000_ : Value) (l0 : List S37) (a1 : Int) (r1 : Int) (r2 : List S37) (w0 w : World) (hB : Below w0.heap.size w0 w) (ho0 : Kd.S k37 37 w w0.heap.size P0_ u9000_ l0) (h : laws_markWinS.f k l0 a1 = some (r1, r2)) :
 Calls Tryd.prog 53 #[u9000_, .int .i64 a1] w fun e w' => e = .returned (.int .i64 r1) ∧ Kd.S k37 37 w' w0.heap.size P0_ u9000_ r2 ∧ Below w0.heap.size w0 w' ∧ Kept w w' P0_ := by
 have HO0 := aM ho0
 have HK := aM (Kept.refl w P0_)
 have HB := aM hB
 clear hB ho0
 have H' := aM (show laws_markWinS.l0 k l0 a1 0 = some (r1, r2) from h)
 clear h
 go_enter Tryd.func53, Tryd.ntmps53
 go_wp2
 go_loopg [1, 5] k (fun kq v1 v5 w' => ∃ (x0_1 : List S37) (x1_1 : Int) (x5_1 : Int), v1 = .int .i64 x1_1 ∧ v5 = .int .i64 x5_1 ∧ Aside0 (laws_markWinS.l0 kq x0_1 x1_1 x5_1 = some (r1, r2)) ∧ Aside0 (kq ≤ k) ∧ Aside0 (Kd.S k37 37 w' w0.heap.size P0_ u9000_ x0_1) ∧ Aside0 (Kept w w' P0_) ∧ Aside0 (Below w0.heap.size w0 w'))
 case atStart => exact ⟨l0, a1, 0, rfl, rfl, H', ⟨Nat.le_refl _⟩, ⟨by (with_reducible repeat (first | apply Kd.S_alloc | apply Kd.S_drewN | apply Kd.S_drew)); exact HO0.out⟩, ⟨by repeat (first | exact HK.out | apply Kept.alloc | apply Kept.drewN | apply Kept.drew)⟩, ⟨by repeat (first | exact HB.out | apply below_alloc | apply pw_below_drewN | apply below_drew1)⟩⟩
 case round =>
  clear H' HO0 HK HB
  obtain ⟨x0_1, x1_1, x5_1, rfl, rfl, HA, HK1, HO_0, HK, HB⟩ := hrel
  cases gk with
  | zero => exact absurd HA.out (by simp [laws_markWinS.l0])
  | succ k1 =>
   have H := HA.out
   clear HA
   simp only [laws_markWinS.l0] at H
   by_cases c3 : x5_1 < (x0_1.length : Int)
   · rw [if_pos c3] at H
     have c3b0 : decide (x5_1 < (x0_1.length : Int)) = true := decide_eq_true c3
     by_cases c5 : 0 ≤ x5_1
     · rw [if_pos c5] at H
       have c5b0 : decide (0 ≤ x5_1) = true := decide_eq_true c5
       obtain ⟨t0, At00, H⟩ := Option.bind_eq_some_iff.mp H
       have At0 := aM At00
       clear At00
       obtain ⟨t1, At10, H⟩ := Option.bind_eq_some_iff.mp H
       have At1 := aM At10
       clear At10
       obtain ⟨t2, At20, H⟩ := Option.bind_eq_some_iff.mp H
       have At2 := aM At20
       clear At20
       have H' := aM H
       clear H
       obtain ⟨g_, cap_, eo_, _, _, _, _⟩ := Kd.S_form HO_0.out (by omega)
       subst eo_
       obtain ⟨oki_, ce_, hH_, hM_⟩ := Hole.mk0 HO_0.out HB.out HK.out z37 c5 c3
       obtain ⟨v1_, v7_, rfl, hv1_, hv7_⟩ := k37_openM hM_
       have HH := aM hH_
       clear hH_ hM_ HO_0 HK HB
       obtain ⟨n1_, hn1_⟩ : ∃ n_, n_ = (rd_T37 x0_1 x5_1).f0.f1.length := ⟨_, rfl⟩
       obtain ⟨A1_, c1_, ev1_⟩ : ∃ A_ c_, v1_ = .slice A_ (rd_T37 x0_1 x5_1).f0.f1.length c_ := Kd.R_slice hv1_
       rw [← hn1_] at ev1_
       clear hn1_
       subst ev1_
       have HV1 := aM hv1_
       clear hv1_
       obtain ⟨n7_, hn7_⟩ : ∃ n_, n_ = (rd_T37 x0_1 x5_1).f1.f4.length := ⟨_, rfl⟩
       obtain ⟨A7_, c7_, ev7_⟩ : ∃ A_ c_, v7_ = .slice A_ (rd_T37 x0_1 x5_1).f1.f4.length c_ := Kd.R_slice hv7_
       rw [← hn7_] at ev7_
       clear hn7_
       subst ev7_
       have HV7 := aM hv7_
       clear hv7_
       have p_ := eq_true c5
       have q_ := eq_true c3
       clear c3 c5
       go_wp2_with (first | (go_at_call 75; (with_reducible refine (laws_markText.calls k1 x1_1 t0 _ At0.out).mono ?_); rintro e wa1 ⟨rfl, hb⟩; (try clear hy_); (try clear hz_); have n_ := aM (Kd.R_below HV1.out hb); clear HV1; have HV1 := n_; clear n_; have n_ := aM (Kd.R_below HV7.out hb); clear HV7; have HV7 := n_; clear n_; have n_ := aM (HH.out.below hb); clear HH; have HH := n_; clear n_ hb; have hx_ := aM (HH.out.cell (o := (x5_1 : Int).toNat * 11) 0 _ rfl rfl); have hy_ : wa1.cell? ⟨g_, (x5_1 : Int).toNat * 11, none⟩ = some (.string ((rd_T37 x0_1 x5_1).f0.f0)) := hx_.out; have hz_ : wa1.frozen? ⟨g_, (x5_1 : Int).toNat * 11, none⟩ = false := HH.out.free (o := (x5_1 : Int).toNat * 11) 0 rfl; clear hx_) | ((with_reducible refine gate_store (t := 9) (p := 18) rfl ?_); refine store_event (t := 9) (p := 18) (v := ?vo_wa2) (w1 := (wa1.setCell ⟨g_, (x5_1 : Int).toNat * 11, none⟩ (.string t0))) ?hg ?ho ?hn ?hr ?_; (case ho => rfl); (case hg => rfl); (case hn => rfl); (case hr => first | (go_simp; done) | (go_simp; rfl)); intro wa2 hw; (try clear hy_); (try clear hz_); have n_ := aM ((by rw [hw]; exact HH.out.in_put HV1.out (.string t0) : Kd.R k123 123 wa2 w0.heap.size oki_ (.slice A1_ n1_ c1_) _)); clear HV1; have HV1 := n_; clear n_; have n_ := aM ((by rw [hw]; exact HH.out.in_put HV7.out (.string t0) : Kd.R (Kd.int .i64) 3 wa2 w0.heap.size oki_ (.slice A7_ n7_ c7_) _)); clear HV7; have HV7 := n_; clear n_; have n_ := aM (show Hole k37 37 w0 w wa2 P0_ g_ _ _ x0_1 x5_1 oki_ [.string t0, .slice A1_ n1_ c1_, .int .i64 ((rd_T37 x0_1 x5_1).f0.f2), .int .i64 ((rd_T37 x0_1 x5_1).f1.f0), .int .i64 ((rd_T37 x0_1 x5_1).f1.f1), .int .i64 ((rd_T37 x0_1 x5_1).f1.f2), .int .i64 ((rd_T37 x0_1 x5_1).f1.f3), .slice A7_ n7_ c7_, .bool ((rd_T37 x0_1 x5_1).f1.f5), .int .i64 ((rd_T37 x0_1 x5_1).f2), .bool ((rd_T37 x0_1 x5_1).f3)] from (by rw [hw]; exact HH.out.put (o := (x5_1 : Int).toNat * 11) 0 (.string t0) rfl (by decide) rfl)); clear HH; have HH := n_; clear n_ hw; have hx_ := aM (HH.out.cell (o := (x5_1 : Int).toNat * 11 + 1) 1 _ rfl rfl); have hy_ : wa2.cell? ⟨g_, (x5_1 : Int).toNat * 11 + 1, none⟩ = some (.slice A1_ n1_ c1_) := hx_.out; clear hx_) | (go_at_call 54; (with_reducible refine (laws_markTagS.calls k1 (fun k_ => some k_ = (.slice A1_ n1_ c1_ : Value).ownBlock) (.slice A1_ n1_ c1_) ((rd_T37 x0_1 x5_1).f0.f1) (wrap64 (x1_1 + 1)) t1.1 t1.2 w0 _ ?s1 ?s2 At1.out).mono ?_); (case s1 => exact HH.out.hb); (case s2 => exact Kd.R_tight rfl HV1.out); rintro e wa3 ⟨rfl, ho, hb, hk⟩; (try clear hy_); (try clear hz_); have ht_ : ∀ k_, (fun k_ => some k_ = (.slice A1_ n1_ c1_ : Value).ownBlock) k_ → oki_ k_ := fun k_ e_ => HV1.out.1 k_ e_.symm; have n_ := aM (show Kd.R (Kd.int .i64) 3 wa3 w0.heap.size oki_ (.slice A7_ n7_ c7_) _ from Kd.R_mono (Kd.R_kept (Kd.R_apart' HV7.out (Kd.R_typed HV1.out) (by decide)) hk (fun k_ h_ e_ => h_.2 e_)) (fun k_ h_ => h_.1)); clear HV7; have HV7 := n_; clear n_; have n_ := aM (HH.out.kept hk hb ht_); clear HH; have HH := n_; clear n_; have n_ := aM (Kd.R_mono (Kd.R_tight rfl ho) (fun k_ e_ => ht_ k_ e_)); clear HV1 ho hb hk ht_; have HV1 := n_; clear n_; have hx_ := aM (HH.out.cell (o := (x5_1 : Int).toNat * 11 + 2) 2 _ rfl rfl); have hy_ : wa3.cell? ⟨g_, (x5_1 : Int).toNat * 11 + 2, none⟩ = some (.int .i64 ((rd_T37 x0_1 x5_1).f0.f2)) := hx_.out; have hz_ : wa3.frozen? ⟨g_, (x5_1 : Int).toNat * 11 + 2, none⟩ = false := HH.out.free (o := (x5_1 : Int).toNat * 11 + 2) 2 rfl; clear hx_) | ((with_reducible refine gate_store (t := 3) (p := 34) rfl ?_); refine store_event (t := 3) (p := 34) (v := ?vo_wa4) (w1 := (wa3.setCell ⟨g_, (x5_1 : Int).toNat * 11 + 2, none⟩ (.int .i64 t1.1))) ?hg ?ho ?hn ?hr ?_; (case ho => rfl); (case hg => rfl); (case hn => rfl); (case hr => first | (go_simp; done) | (go_simp; rfl)); intro wa4 hw; (try clear hy_); (try clear hz_); have n_ := aM ((by rw [hw]; exact HH.out.in_put HV1.out (.int .i64 t1.1) : Kd.R k123 123 wa4 w0.heap.size oki_ (.slice A1_ n1_ c1_) _)); clear HV1; have HV1 := n_; clear n_; have n_ := aM ((by rw [hw]; exact HH.out.in_put HV7.out (.int .i64 t1.1) : Kd.R (Kd.int .i64) 3 wa4 w0.heap.size oki_ (.slice A7_ n7_ c7_) _)); clear HV7; have HV7 := n_; clear n_; have n_ := aM (show Hole k37 37 w0 w wa4 P0_ g_ _ _ x0_1 x5_1 oki_ [.string t0, .slice A1_ n1_ c1_, .int .i64 t1.1, .int .i64 ((rd_T37 x0_1 x5_1).f1.f0), .int .i64 ((rd_T37 x0_1 x5_1).f1.f1), .int .i64 ((rd_T37 x0_1 x5_1).f1.f2), .int .i64 ((rd_T37 x0_1 x5_1).f1.f3), .slice A7_ n7_ c7_, .bool ((rd_T37 x0_1 x5_1).f1.f5), .int .i64 ((rd_T37 x0_1 x5_1).f2), .bool ((rd_T37 x0_1 x5_1).f3)] from (by rw [hw]; exact HH.out.put (o := (x5_1 : Int).toNat * 11 + 2) 2 (.int .i64 t1.1) rfl (by decide) rfl)); clear HH; have HH := n_; clear n_ hw; have hx_ := aM (HH.out.cell (o := (x5_1 : Int).toNat * 11 + 3) 3 _ rfl rfl); have hy_ : wa4.cell? ⟨g_, (x5_1 : Int).toNat * 11 + 3, none⟩ = some (.int .i64 ((rd_T37 x0_1 x5_1).f1.f0)) := hx_.out; have hz_ : wa4.frozen? ⟨g_, (x5_1 : Int).toNat * 11 + 3, none⟩ = false := HH.out.free (o := (x5_1 : Int).toNat * 11 + 3) 3 rfl; clear hx_) | ((with_reducible refine gate_store (t := 3) (p := 42) rfl ?_); refine store_event (t := 3) (p := 42) (v := ?vo_wa5) (w1 := (wa4.setCell ⟨g_, (x5_1 : Int).toNat * 11 + 3, none⟩ (.int .i64 (wrap64 (t1.1 + 1))))) ?hg ?ho ?hn ?hr ?_; (case ho => rfl); (case hg => rfl); (case hn => rfl); (case hr => first | (go_simp; done) | (go_simp; rfl)); intro wa5 hw; (try clear hy_); (try clear hz_); have n_ := aM ((by rw [hw]; exact HH.out.in_put HV1.out (.int .i64 (wrap64 (t1.1 + 1))) : Kd.R k123 123 wa5 w0.heap.size oki_ (.slice A1_ n1_ c1_) _)); clear HV1; have HV1 := n_; clear n_; have n_ := aM ((by rw [hw]; exact HH.out.in_put HV7.out (.int .i64 (wrap64 (t1.1 + 1))) : Kd.R (Kd.int .i64) 3 wa5 w0.heap.size oki_ (.slice A7_ n7_ c7_) _)); clear HV7; have HV7 := n_; clear n_; have n_ := aM (show Hole k37 37 w0 w wa5 P0_ g_ _ _ x0_1 x5_1 oki_ [.string t0, .slice A1_ n1_ c1_, .int .i64 t1.1, .int .i64 (wrap64 (t1.1 + 1)), .int .i64 ((rd_T37 x0_1 x5_1).f1.f1), .int .i64 ((rd_T37 x0_1 x5_1).f1.f2), .int .i64 ((rd_T37 x0_1 x5_1).f1.f3), .slice A7_ n7_ c7_, .bool ((rd_T37 x0_1 x5_1).f1.f5), .int .i64 ((rd_T37 x0_1 x5_1).f2), .bool ((rd_T37 x0_1 x5_1).f3)] from (by rw [hw]; exact HH.out.put (o := (x5_1 : Int).toNat * 11 + 3) 3 (.int .i64 (wrap64 (t1.1 + 1))) rfl (by decide) rfl)); clear HH; have HH := n_; clear n_ hw; have hx_ := aM (HH.out.cell (o := (x5_1 : Int).toNat * 11 + 4) 4 _ rfl rfl); have hy_ : wa5.cell? ⟨g_, (x5_1 : Int).toNat * 11 + 4, none⟩ = some (.int .i64 ((rd_T37 x0_1 x5_1).f1.f1)) := hx_.out; have hz_ : wa5.frozen? ⟨g_, (x5_1 : Int).toNat * 11 + 4, none⟩ = false := HH.out.free (o := (x5_1 : Int).toNat * 11 + 4) 4 rfl; clear hx_) | ((with_reducible refine gate_store (t := 3) (p := 50) rfl ?_); refine store_event (t := 3) (p := 50) (v := ?vo_wa6) (w1 := (wa5.setCell ⟨g_, (x5_1 : Int).toNat * 11 + 4, none⟩ (.int .i64 (wrap64 ((wrap64 (t1.1 + 1)) + 1))))) ?hg ?ho ?hn ?hr ?_; (case ho => rfl); (case hg => rfl); (case hn => rfl); (case hr => first | (go_simp; done) | (go_simp; rfl)); intro wa6 hw; (try clear hy_); (try clear hz_); have n_ := aM ((by rw [hw]; exact HH.out.in_put HV1.out (.int .i64 (wrap64 ((wrap64 (t1.1 + 1)) + 1))) : Kd.R k123 123 wa6 w0.heap.size oki_ (.slice A1_ n1_ c1_) _)); clear HV1; have HV1 := n_; clear n_; have n_ := aM ((by rw [hw]; exact HH.out.in_put HV7.out (.int .i64 (wrap64 ((wrap64 (t1.1 + 1)) + 1))) : Kd.R (Kd.int .i64) 3 wa6 w0.heap.size oki_ (.slice A7_ n7_ c7_) _)); clear HV7; have HV7 := n_; clear n_; have n_ := aM (show Hole k37 37 w0 w wa6 P0_ g_ _ _ x0_1 x5_1 oki_ [.string t0, .slice A1_ n1_ c1_, .int .i64 t1.1, .int .i64 (wrap64 (t1.1 + 1)), .int .i64 (wrap64 ((wrap64 (t1.1 + 1)) + 1)), .int .i64 ((rd_T37 x0_1 x5_1).f1.f2), .int .i64 ((rd_T37 x0_1 x5_1).f1.f3), .slice A7_ n7_ c7_, .bool ((rd_T37 x0_1 x5_1).f1.f5), .int .i64 ((rd_T37 x0_1 x5_1).f2), .bool ((rd_T37 x0_1 x5_1).f3)] from (by rw [hw]; exact HH.out.put (o := (x5_1 : Int).toNat * 11 + 4) 4 (.int .i64 (wrap64 ((wrap64 (t1.1 + 1)) + 1))) rfl (by decide) rfl)); clear HH; have HH := n_; clear n_ hw; have hx_ := aM (HH.out.cell (o := (x5_1 : Int).toNat * 11 + 5) 5 _ rfl rfl); have hy_ : wa6.cell? ⟨g_, (x5_1 : Int).toNat * 11 + 5, none⟩ = some (.int .i64 ((rd_T37 x0_1 x5_1).f1.f2)) := hx_.out; have hz_ : wa6.frozen? ⟨g_, (x5_1 : Int).toNat * 11 + 5, none⟩ = false := HH.out.free (o := (x5_1 : Int).toNat * 11 + 5) 5 rfl; clear hx_) | ((with_reducible refine gate_store (t := 3) (p := 58) rfl ?_); refine store_event (t := 3) (p := 58) (v := ?vo_wa7) (w1 := (wa6.setCell ⟨g_, (x5_1 : Int).toNat * 11 + 5, none⟩ (.int .i64 (wrap64 ((wrap64 ((wrap64 (t1.1 + 1)) + 1)) + 1))))) ?hg ?ho ?hn ?hr ?_; (case ho => rfl); (case hg => rfl); (case hn => rfl); (case hr => first | (go_simp; done) | (go_simp; rfl)); intro wa7 hw; (try clear hy_); (try clear hz_); have n_ := aM ((by rw [hw]; exact HH.out.in_put HV1.out (.int .i64 (wrap64 ((wrap64 ((wrap64 (t1.1 + 1)) + 1)) + 1))) : Kd.R k123 123 wa7 w0.heap.size oki_ (.slice A1_ n1_ c1_) _)); clear HV1; have HV1 := n_; clear n_; have n_ := aM ((by rw [hw]; exact HH.out.in_put HV7.out (.int .i64 (wrap64 ((wrap64 ((wrap64 (t1.1 + 1)) + 1)) + 1))) : Kd.R (Kd.int .i64) 3 wa7 w0.heap.size oki_ (.slice A7_ n7_ c7_) _)); clear HV7; have HV7 := n_; clear n_; have n_ := aM (show Hole k37 37 w0 w wa7 P0_ g_ _ _ x0_1 x5_1 oki_ [.string t0, .slice A1_ n1_ c1_, .int .i64 t1.1, .int .i64 (wrap64 (t1.1 + 1)), .int .i64 (wrap64 ((wrap64 (t1.1 + 1)) + 1)), .int .i64 (wrap64 ((wrap64 ((wrap64 (t1.1 + 1)) + 1)) + 1)), .int .i64 ((rd_T37 x0_1 x5_1).f1.f3), .slice A7_ n7_ c7_, .bool ((rd_T37 x0_1 x5_1).f1.f5), .int .i64 ((rd_T37 x0_1 x5_1).f2), .bool ((rd_T37 x0_1 x5_1).f3)] from (by rw [hw]; exact HH.out.put (o := (x5_1 : Int).toNat * 11 + 5) 5 (.int .i64 (wrap64 ((wrap64 ((wrap64 (t1.1 + 1)) + 1)) + 1))) rfl (by decide) rfl)); clear HH; have HH := n_; clear n_ hw; have hx_ := aM (HH.out.cell (o := (x5_1 : Int).toNat * 11 + 6) 6 _ rfl rfl); have hy_ : wa7.cell? ⟨g_, (x5_1 : Int).toNat * 11 + 6, none⟩ = some (.int .i64 ((rd_T37 x0_1 x5_1).f1.f3)) := hx_.out; have hz_ : wa7.frozen? ⟨g_, (x5_1 : Int).toNat * 11 + 6, none⟩ = false := HH.out.free (o := (x5_1 : Int).toNat * 11 + 6) 6 rfl; clear hx_) | ((with_reducible refine gate_store (t := 3) (p := 66) rfl ?_); refine store_event (t := 3) (p := 66) (v := ?vo_wa8) (w1 := (wa7.setCell ⟨g_, (x5_1 : Int).toNat * 11 + 6, none⟩ (.int .i64 (wrap64 ((wrap64 ((wrap64 ((wrap64 (t1.1 + 1)) + 1)) + 1)) + 1))))) ?hg ?ho ?hn ?hr ?_; (case ho => rfl); (case hg => rfl); (case hn => rfl); (case hr => first | (go_simp; done) | (go_simp; rfl)); intro wa8 hw; (try clear hy_); (try clear hz_); have n_ := aM ((by rw [hw]; exact HH.out.in_put HV1.out (.int .i64 (wrap64 ((wrap64 ((wrap64 ((wrap64 (t1.1 + 1)) + 1)) + 1)) + 1))) : Kd.R k123 123 wa8 w0.heap.size oki_ (.slice A1_ n1_ c1_) _)); clear HV1; have HV1 := n_; clear n_; have n_ := aM ((by rw [hw]; exact HH.out.in_put HV7.out (.int .i64 (wrap64 ((wrap64 ((wrap64 ((wrap64 (t1.1 + 1)) + 1)) + 1)) + 1))) : Kd.R (Kd.int .i64) 3 wa8 w0.heap.size oki_ (.slice A7_ n7_ c7_) _)); clear HV7; have HV7 := n_; clear n_; have n_ := aM (show Hole k37 37 w0 w wa8 P0_ g_ _ _ x0_1 x5_1 oki_ [.string t0, .slice A1_ n1_ c1_, .int .i64 t1.1, .int .i64 (wrap64 (t1.1 + 1)), .int .i64 (wrap64 ((wrap64 (t1.1 + 1)) + 1)), .int .i64 (wrap64 ((wrap64 ((wrap64 (t1.1 + 1)) + 1)) + 1)), .int .i64 (wrap64 ((wrap64 ((wrap64 ((wrap64 (t1.1 + 1)) + 1)) + 1)) + 1)), .slice A7_ n7_ c7_, .bool ((rd_T37 x0_1 x5_1).f1.f5), .int .i64 ((rd_T37 x0_1 x5_1).f2), .bool ((rd_T37 x0_1 x5_1).f3)] from (by rw [hw]; exact HH.out.put (o := (x5_1 : Int).toNat * 11 + 6) 6 (.int .i64 (wrap64 ((wrap64 ((wrap64 ((wrap64 (t1.1 + 1)) + 1)) + 1)) + 1))) rfl (by decide) rfl)); clear HH; have HH := n_; clear n_ hw; have hx_ := aM (HH.out.cell (o := (x5_1 : Int).toNat * 11 + 7) 7 _ rfl rfl); have hy_ : wa8.cell? ⟨g_, (x5_1 : Int).toNat * 11 + 7, none⟩ = some (.slice A7_ n7_ c7_) := hx_.out; clear hx_) | (go_at_call 76; (with_reducible refine (laws_markIntS.calls k1 (fun k_ => some k_ = (.slice A7_ n7_ c7_ : Value).ownBlock) (.slice A7_ n7_ c7_) ((rd_T37 x0_1 x5_1).f1.f4) (wrap64 ((wrap64 ((wrap64 ((wrap64 ((wrap64 (t1.1 + 1)) + 1)) + 1)) + 1)) + 1)) t2.1 t2.2 w0 _ ?s1 ?s2 At2.out).mono ?_); (case s1 => exact HH.out.hb); (case s2 => exact Kd.R_tight rfl HV7.out); rintro e wa9 ⟨rfl, ho, hb, hk⟩; (try clear hy_); (try clear hz_); have ht_ : ∀ k_, (fun k_ => some k_ = (.slice A7_ n7_ c7_ : Value).ownBlock) k_ → oki_ k_ := fun k_ e_ => HV7.out.1 k_ e_.symm; have n_ := aM (show Kd.R k123 123 wa9 w0.heap.size oki_ (.slice A1_ n1_ c1_) _ from Kd.R_mono (Kd.R_kept (Kd.R_apart' HV1.out (Kd.R_typed HV7.out) (by decide)) hk (fun k_ h_ e_ => h_.2 e_)) (fun k_ h_ => h_.1)); clear HV1; have HV1 := n_; clear n_; have n_ := aM (HH.out.kept hk hb ht_); clear HH; have HH := n_; clear n_; have n_ := aM (Kd.R_mono (Kd.R_tight rfl ho) (fun k_ e_ => ht_ k_ e_)); clear HV7 ho hb hk ht_; have HV7 := n_; clear n_; have hx_ := aM (HH.out.cell (o := (x5_1 : Int).toNat * 11 + 8) 8 _ rfl rfl); have hy_ : wa9.cell? ⟨g_, (x5_1 : Int).toNat * 11 + 8, none⟩ = some (.bool ((rd_T37 x0_1 x5_1).f1.f5)) := hx_.out; have hz_ : wa9.frozen? ⟨g_, (x5_1 : Int).toNat * 11 + 8, none⟩ = false := HH.out.free (o := (x5_1 : Int).toNat * 11 + 8) 8 rfl; clear hx_) | ((with_reducible refine gate_store (t := 4) (p := 84) rfl ?_); refine store_event (t := 4) (p := 84) (v := ?vo_wa10) (w1 := (wa9.setCell ⟨g_, (x5_1 : Int).toNat * 11 + 8, none⟩ (.bool (Int.tmod t2.1 3 == 0)))) ?hg ?ho ?hn ?hr ?_; (case ho => rfl); (case hg => rfl); (case hn => rfl); (case hr => first | (go_simp; done) | (go_simp; rfl)); intro wa10 hw; (try clear hy_); (try clear hz_); have n_ := aM ((by rw [hw]; exact HH.out.in_put HV1.out (.bool (Int.tmod t2.1 3 == 0)) : Kd.R k123 123 wa10 w0.heap.size oki_ (.slice A1_ n1_ c1_) _)); clear HV1; have HV1 := n_; clear n_; have n_ := aM ((by rw [hw]; exact HH.out.in_put HV7.out (.bool (Int.tmod t2.1 3 == 0)) : Kd.R (Kd.int .i64) 3 wa10 w0.heap.size oki_ (.slice A7_ n7_ c7_) _)); clear HV7; have HV7 := n_; clear n_; have n_ := aM (show Hole k37 37 w0 w wa10 P0_ g_ _ _ x0_1 x5_1 oki_ [.string t0, .slice A1_ n1_ c1_, .int .i64 t1.1, .int .i64 (wrap64 (t1.1 + 1)), .int .i64 (wrap64 ((wrap64 (t1.1 + 1)) + 1)), .int .i64 (wrap64 ((wrap64 ((wrap64 (t1.1 + 1)) + 1)) + 1)), .int .i64 (wrap64 ((wrap64 ((wrap64 ((wrap64 (t1.1 + 1)) + 1)) + 1)) + 1)), .slice A7_ n7_ c7_, .bool (Int.tmod t2.1 3 == 0), .int .i64 ((rd_T37 x0_1 x5_1).f2), .bool ((rd_T37 x0_1 x5_1).f3)] from (by rw [hw]; exact HH.out.put (o := (x5_1 : Int).toNat * 11 + 8) 8 (.bool (Int.tmod t2.1 3 == 0)) rfl (by decide) rfl)); clear HH; have HH := n_; clear n_ hw; have hx_ := aM (HH.out.cell (o := (x5_1 : Int).toNat * 11 + 9) 9 _ rfl rfl); have hy_ : wa10.cell? ⟨g_, (x5_1 : Int).toNat * 11 + 9, none⟩ = some (.int .i64 ((rd_T37 x0_1 x5_1).f2)) := hx_.out; have hz_ : wa10.frozen? ⟨g_, (x5_1 : Int).toNat * 11 + 9, none⟩ = false := HH.out.free (o := (x5_1 : Int).toNat * 11 + 9) 9 rfl; clear hx_) | ((with_reducible refine gate_store (t := 3) (p := 91) rfl ?_); refine store_event (t := 3) (p := 91) (v := ?vo_wa11) (w1 := (wa10.setCell ⟨g_, (x5_1 : Int).toNat * 11 + 9, none⟩ (.int .i64 (wrap64 (t2.1 + 1))))) ?hg ?ho ?hn ?hr ?_; (case ho => rfl); (case hg => rfl); (case hn => rfl); (case hr => first | (go_simp; done) | (go_simp; rfl)); intro wa11 hw; (try clear hy_); (try clear hz_); have n_ := aM ((by rw [hw]; exact HH.out.in_put HV1.out (.int .i64 (wrap64 (t2.1 + 1))) : Kd.R k123 123 wa11 w0.heap.size oki_ (.slice A1_ n1_ c1_) _)); clear HV1; have HV1 := n_; clear n_; have n_ := aM ((by rw [hw]; exact HH.out.in_put HV7.out (.int .i64 (wrap64 (t2.1 + 1))) : Kd.R (Kd.int .i64) 3 wa11 w0.heap.size oki_ (.slice A7_ n7_ c7_) _)); clear HV7; have HV7 := n_; clear n_; have n_ := aM (show Hole k37 37 w0 w wa11 P0_ g_ _ _ x0_1 x5_1 oki_ [.string t0, .slice A1_ n1_ c1_, .int .i64 t1.1, .int .i64 (wrap64 (t1.1 + 1)), .int .i64 (wrap64 ((wrap64 (t1.1 + 1)) + 1)), .int .i64 (wrap64 ((wrap64 ((wrap64 (t1.1 + 1)) + 1)) + 1)), .int .i64 (wrap64 ((wrap64 ((wrap64 ((wrap64 (t1.1 + 1)) + 1)) + 1)) + 1)), .slice A7_ n7_ c7_, .bool (Int.tmod t2.1 3 == 0), .int .i64 (wrap64 (t2.1 + 1)), .bool ((rd_T37 x0_1 x5_1).f3)] from (by rw [hw]; exact HH.out.put (o := (x5_1 : Int).toNat * 11 + 9) 9 (.int .i64 (wrap64 (t2.1 + 1))) rfl (by decide) rfl)); clear HH; have HH := n_; clear n_ hw; have hx_ := aM (HH.out.cell (o := (x5_1 : Int).toNat * 11 + 10) 10 _ rfl rfl); have hy_ : wa11.cell? ⟨g_, (x5_1 : Int).toNat * 11 + 10, none⟩ = some (.bool ((rd_T37 x0_1 x5_1).f3)) := hx_.out; have hz_ : wa11.frozen? ⟨g_, (x5_1 : Int).toNat * 11 + 10, none⟩ = false := HH.out.free (o := (x5_1 : Int).toNat * 11 + 10) 10 rfl; clear hx_) | ((with_reducible refine gate_store (t := 4) (p := 100) rfl ?_); refine store_event (t := 4) (p := 100) (v := ?vo_wa12) (w1 := (wa11.setCell ⟨g_, (x5_1 : Int).toNat * 11 + 10, none⟩ (.bool (Int.tmod (wrap64 ((wrap64 (t2.1 + 1)) + 1)) 3 == 0)))) ?hg ?ho ?hn ?hr ?_; (case ho => rfl); (case hg => rfl); (case hn => rfl); (case hr => first | (go_simp; done) | (go_simp; rfl)); intro wa12 hw; (try clear hy_); (try clear hz_); have n_ := aM ((by rw [hw]; exact HH.out.in_put HV1.out (.bool (Int.tmod (wrap64 ((wrap64 (t2.1 + 1)) + 1)) 3 == 0)) : Kd.R k123 123 wa12 w0.heap.size oki_ (.slice A1_ n1_ c1_) _)); clear HV1; have HV1 := n_; clear n_; have n_ := aM ((by rw [hw]; exact HH.out.in_put HV7.out (.bool (Int.tmod (wrap64 ((wrap64 (t2.1 + 1)) + 1)) 3 == 0)) : Kd.R (Kd.int .i64) 3 wa12 w0.heap.size oki_ (.slice A7_ n7_ c7_) _)); clear HV7; have HV7 := n_; clear n_; have n_ := aM (show Hole k37 37 w0 w wa12 P0_ g_ _ _ x0_1 x5_1 oki_ [.string t0, .slice A1_ n1_ c1_, .int .i64 t1.1, .int .i64 (wrap64 (t1.1 + 1)), .int .i64 (wrap64 ((wrap64 (t1.1 + 1)) + 1)), .int .i64 (wrap64 ((wrap64 ((wrap64 (t1.1 + 1)) + 1)) + 1)), .int .i64 (wrap64 ((wrap64 ((wrap64 ((wrap64 (t1.1 + 1)) + 1)) + 1)) + 1)), .slice A7_ n7_ c7_, .bool (Int.tmod t2.1 3 == 0), .int .i64 (wrap64 (t2.1 + 1)), .bool (Int.tmod (wrap64 ((wrap64 (t2.1 + 1)) + 1)) 3 == 0)] from (by rw [hw]; exact HH.out.put (o := (x5_1 : Int).toNat * 11 + 10) 10 (.bool (Int.tmod (wrap64 ((wrap64 (t2.1 + 1)) + 1)) 3 == 0)) rfl (by decide) rfl)); clear HH; have HH := n_; clear n_ hw; skip))
       go_roundg k1
       case measure => have := HK1.out; omega
       case rel =>
        have hq_ := HH.out.back (k37_mkM _ _ _ (⟨(⟨t0, t1.2, t1.1⟩ : S32), (⟨(wrap64 (t1.1 + 1)), (wrap64 ((wrap64 (t1.1 + 1)) + 1)), (wrap64 ((wrap64 ((wrap64 (t1.1 + 1)) + 1)) + 1)), (wrap64 ((wrap64 ((wrap64 ((wrap64 (t1.1 + 1)) + 1)) + 1)) + 1)), t2.2, (Int.tmod t2.1 3 == 0)⟩ : S35), (wrap64 (t2.1 + 1)), (Int.tmod (wrap64 ((wrap64 (t2.1 + 1)) + 1)) 3 == 0)⟩ : S37) HV1.out HV7.out)
        exact ⟨_, _, _, rfl, rfl, H', ⟨by have := HK1.out; omega⟩, ⟨by (with_reducible repeat (first | apply Kd.S_alloc | apply Kd.S_drewN | apply Kd.S_drew)); exact hq_.1⟩, ⟨by repeat (first | exact hq_.2.1 | apply Kept.alloc | apply Kept.drewN | apply Kept.drew)⟩, ⟨by repeat (first | exact hq_.2.2 | apply below_alloc | apply pw_below_drewN | apply below_drew1)⟩⟩
     · rw [if_neg c5] at H
       exact absurd H (by simp)
   · rw [if_neg c3] at H
     have c3b0 : decide (x5_1 < (x0_1.length : Int)) = false := decide_eq_false c3
     clear c3
     simp only [Option.some.injEq, Prod.mk.injEq] at H
     obtain ⟨rfl, rfl⟩ := H
     obtain ⟨Ao_, co_, eo_⟩ := Kd.S_slice HO_0.out
     subst eo_
     go_wp2
     go_ret
     exact ⟨rfl, by (with_reducible repeat (first | apply Kd.S_alloc | apply Kd.S_drewN | apply Kd.S_drew)); exact HO_0.out, by repeat (first | exact HB.out | apply below_alloc | apply pw_below_drewN | apply below_drew1), by repeat (first | exact HK.out | apply Kept.alloc | apply Kept.drewN | apply Kept.drew)⟩
end Go.Proofs.YtkgmoajdcibafaaDoor.P

/- laws.markBoard: the marks of its windows. No conditions of its own. -/
namespace Go.Proofs.YtkgmoajdcibafaaDoor.P
open Go.RowKit Go.Proofs.YtkgmoajdcibafaaDoorW.PrintWords Go.Proofs.YtkgmoajdcibafaaDoorW.PrintLast Go.Proofs.YtkgmoajdcibafaaDoorW.PrintMore
set_option linter.unusedVariables false
set_option linter.unusedSimpArgs false
theorem Kept.behind {w w1 w2 : World} {S : Nat → Prop} (hb : Below w.heap.size w w1) (hk : Kept w1 w2 S) : Kept w w2 S :=
  ⟨Nat.le_trans hb.size hk.1, fun i hi hn => (hk.2 i (Nat.lt_of_lt_of_le hi hb.size) hn).trans (hb.block i hi)⟩
set_option maxHeartbeats 8000000 in
set_option maxRecDepth 100000 in
theorem laws_markBoard.calls (k : Nat) (P0_3 : Nat → Prop) (a0_0 : Int) (a0_1 : Int) (a0_2 : Int) (u9000_3 : Value) (l0_3 : List S37) (a1 : Int) (r1 : Int) (r2 : List S37) (w0 w : World) (hB : Below w0.heap.size w0 w) (ho0_3 : Kd.S k37 37 w w0.heap.size P0_3 u9000_3 l0_3) (h : laws_markWinS.f k l0_3 a1 = some (r1, r2)) :
 Calls Tryd.prog 17 #[.agg #[.int .i64 a0_0, .int .i64 a0_1, .int .i64 a0_2, u9000_3], .int .i64 a1] w fun e w' => e = .returned (.int .i64 r1) ∧ Kd.S k37 37 w' w0.heap.size P0_3 u9000_3 r2 ∧ Below w0.heap.size w0 w' ∧ Kept w w' P0_3 := by
 obtain ⟨A_, c_, rfl⟩ := Kd.S_slice ho0_3
 have HO0 := aM ho0_3
 have HB := aM hB
 have H := aM h
 clear hB ho0_3 h
 go_enter Tryd.func17, Tryd.ntmps17
 go_wp2_with (first | ((with_reducible refine gate_dst (N := 2) rfl ?_); refine box_event ?hg (N := 2) ?hd (cs := #[.int .i64 a0_0, .int .i64 a0_1, .int .i64 a0_2, .slice A_ l0_3.length c_]) (t := 42) ?hr ?_; (case hd => rfl); (case hg => rfl); (case hr => first | (go_simp; done) | (go_simp; rfl)); intro b_ hg wa hbox hb; have HA := aM hb; have HO1 := aM (Kd.S_below HO0.out hb); have HB1 := aM (below_after HB.out hb); obtain ⟨hcz_0, hcz_1, hcz_2, hcz_3, hfz_0, hfz_1, hfz_2, hfz_3⟩ := cellsZ4 hbox; clear hg hbox hb HO0 HB) | ((with_reducible refine gate_callee (f := 53) rfl ?_); refine goesL_ (some 8) rfl rfl Tryd.func53 (by kernel_rfl) rfl #[.slice A_ l0_3.length c_, .int .i64 a1] rfl zee81 ?_; (with_reducible refine (laws_markWinS.calls k P0_3 (.slice A_ l0_3.length c_) l0_3 a1 r1 r2 w0 _ HB1.out HO1.out H.out).mono ?_); rintro e wb ⟨he_, hs, hB2, hk⟩; subst he_; refine ⟨_, rfl, ?_⟩; have HS := aM hs; have HB2 := aM hB2; have HK := aM (Kept.behind HA.out hk); clear hs hB2 hk HO1 HB1))
 go_ret
 exact ⟨rfl, HS.out, HB2.out, HK.out⟩
end Go.Proofs.YtkgmoajdcibafaaDoor.P

/- laws.markToldS: marks are written into each element; what else stands in memory stays. No conditions of its own. -/
namespace Go.Proofs.YtkgmoajdcibafaaDoor.P
open Go.RowKit Go.Proofs.YtkgmoajdcibafaaDoorW.PrintWords Go.Proofs.YtkgmoajdcibafaaDoorW.PrintLast Go.Proofs.YtkgmoajdcibafaaDoorW.PrintMore
set_option linter.unusedVariables false
set_option linter.unusedSimpArgs false
def laws_markToldS.l0 : Nat → List S96 → Int → Int → Option (Int × List S96)
 | 0, _, _, _ => none
 | k + 1, x0, x1, x5 => if x5 < (x0.length : Int) then (if 0 ≤ x5 then ((laws_markText.f k x1).bind fun t0 => ((laws_markTagS.f k (rd_T96 x0 x5).f0.f1 (wrap64 (x1 + 1))).bind fun t1 => ((laws_markIntS.f k (rd_T96 x0 x5).f2.f4 (wrap64 ((wrap64 ((wrap64 ((wrap64 ((wrap64 ((wrap64 (t1.1 + 1)) + 1)) + 1)) + 1)) + 1)) + 1))).bind fun t2 => (laws_markToldS.l0 k (x0.set x5.toNat (⟨(⟨t0, t1.2, t1.1⟩ : S32), (wrap64 (t1.1 + 1)), (⟨(wrap64 ((wrap64 (t1.1 + 1)) + 1)), (wrap64 ((wrap64 ((wrap64 (t1.1 + 1)) + 1)) + 1)), (wrap64 ((wrap64 ((wrap64 ((wrap64 (t1.1 + 1)) + 1)) + 1)) + 1)), (wrap64 ((wrap64 ((wrap64 ((wrap64 ((wrap64 (t1.1 + 1)) + 1)) + 1)) + 1)) + 1)), t2.2, (Int.tmod t2.1 3 == 0)⟩ : S35)⟩ : S96)) (wrap64 (t2.1 + 1)) (wrap64 (x5 + 1)))))) else none) else some (x1, x0)
def laws_markToldS.f (k : Nat) (l0 : List S96) (a1 : Int) : Option (Int × List S96) := laws_markToldS.l0 k l0 a1 0
set_option maxHeartbeats 8000000 in
set_option maxRecDepth 100000 in
theorem laws_markToldS.calls (k : Nat) (P0_ : Nat → Prop) (u9000_ : Value) (l0 : List S96) (a1 : Int) (r1 : Int) (r2 : List S96) (w0 w : World) (hB : Below w0.heap.size w0 w) (ho0 : Kd.S k96 96 w w0.heap.size P0_ u9000_ l0) (h : laws_markToldS.f k l0 a1 = some (r1, r2)) :
 Calls Tryd.prog 29 #[u9000_, .int .i64 a1] w fun e w' => e = .returned (.int .i64 r1) ∧ Kd.S k96 96 w' w0.heap.size P0_ u9000_ r2 ∧ Below w0.heap.size w0 w' ∧ Kept w w' P0_ := by
 have HO0 := aM ho0
 have HK := aM (Kept.refl w P0_)
 have HB := aM hB
 clear hB ho0
 have H' := aM (show laws_markToldS.l0 k l0 a1 0 = some (r1, r2) from h)
 clear h
 go_enter Tryd.func29, Tryd.ntmps29
 go_wp2
 go_loopg [1, 5] k (fun kq v1 v5 w' => ∃ (x0_1 : List S96) (x1_1 : Int) (x5_1 : Int), v1 = .int .i64 x1_1 ∧ v5 = .int .i64 x5_1 ∧ Aside0 (laws_markToldS.l0 kq x0_1 x1_1 x5_1 = some (r1, r2)) ∧ Aside0 (kq ≤ k) ∧ Aside0 (Kd.S k96 96 w' w0.heap.size P0_ u9000_ x0_1) ∧ Aside0 (Kept w w' P0_) ∧ Aside0 (Below w0.heap.size w0 w'))
 case atStart => exact ⟨l0, a1, 0, rfl, rfl, H', ⟨Nat.le_refl _⟩, ⟨by (with_reducible repeat (first | apply Kd.S_alloc | apply Kd.S_drewN | apply Kd.S_drew)); exact HO0.out⟩, ⟨by repeat (first | exact HK.out | apply Kept.alloc | apply Kept.drewN | apply Kept.drew)⟩, ⟨by repeat (first | exact HB.out | apply below_alloc | apply pw_below_drewN | apply below_drew1)⟩⟩
 case round =>
  clear H' HO0 HK HB
  obtain ⟨x0_1, x1_1, x5_1, rfl, rfl, HA, HK1, HO_0, HK, HB⟩ := hrel
  cases gk with
  | zero => exact absurd HA.out (by simp [laws_markToldS.l0])
  | succ k1 =>
   have H := HA.out
   clear HA
   simp only [laws_markToldS.l0] at H
   by_cases c3 : x5_1 < (x0_1.length : Int)
   · rw [if_pos c3] at H
     have c3b0 : decide (x5_1 < (x0_1.length : Int)) = true := decide_eq_true c3
     by_cases c5 : 0 ≤ x5_1
     · rw [if_pos c5] at H
       have c5b0 : decide (0 ≤ x5_1) = true := decide_eq_true c5
       obtain ⟨t0, At00, H⟩ := Option.bind_eq_some_iff.mp H
       have At0 := aM At00
       clear At00
       obtain ⟨t1, At10, H⟩ := Option.bind_eq_some_iff.mp H
       have At1 := aM At10
       clear At10
       obtain ⟨t2, At20, H⟩ := Option.bind_eq_some_iff.mp H
       have At2 := aM At20
       clear At20
       have H' := aM H
       clear H
       obtain ⟨g_, cap_, eo_, _, _, _, _⟩ := Kd.S_form HO_0.out (by omega)
       subst eo_
       obtain ⟨oki_, ce_, hH_, hM_⟩ := Hole.mk0 HO_0.out HB.out HK.out z96 c5 c3
       obtain ⟨v1_, v8_, rfl, hv1_, hv8_⟩ := k96_openM hM_
       have HH := aM hH_
       clear hH_ hM_ HO_0 HK HB
       obtain ⟨n1_, hn1_⟩ : ∃ n_, n_ = (rd_T96 x0_1 x5_1).f0.f1.length := ⟨_, rfl⟩
       obtain ⟨A1_, c1_, ev1_⟩ : ∃ A_ c_, v1_ = .slice A_ (rd_T96 x0_1 x5_1).f0.f1.length c_ := Kd.R_slice hv1_
       rw [← hn1_] at ev1_
       clear hn1_
       subst ev1_
       have HV1 := aM hv1_
       clear hv1_
       obtain ⟨n8_, hn8_⟩ : ∃ n_, n_ = (rd_T96 x0_1 x5_1).f2.f4.length := ⟨_, rfl⟩
       obtain ⟨A8_, c8_, ev8_⟩ : ∃ A_ c_, v8_ = .slice A_ (rd_T96 x0_1 x5_1).f2.f4.length c_ := Kd.R_slice hv8_
       rw [← hn8_] at ev8_
       clear hn8_
       subst ev8_
       have HV8 := aM hv8_
       clear hv8_
       have p_ := eq_true c5
       have q_ := eq_true c3
       clear c3 c5
       go_wp2_with (first | (go_at_call 75; (with_reducible refine (laws_markText.calls k1 x1_1 t0 _ At0.out).mono ?_); rintro e wa1 ⟨rfl, hb⟩; (try clear hy_); (try clear hz_); have n_ := aM (Kd.R_below HV1.out hb); clear HV1; have HV1 := n_; clear n_; have n_ := aM (Kd.R_below HV8.out hb); clear HV8; have HV8 := n_; clear n_; have n_ := aM (HH.out.below hb); clear HH; have HH := n_; clear n_ hb; have hx_ := aM (HH.out.cell (o := (x5_1 : Int).toNat * 10) 0 _ rfl rfl); have hy_ : wa1.cell? ⟨g_, (x5_1 : Int).toNat * 10, none⟩ = some (.string ((rd_T96 x0_1 x5_1).f0.f0)) := hx_.out; have hz_ : wa1.frozen? ⟨g_, (x5_1 : Int).toNat * 10, none⟩ = false := HH.out.free (o := (x5_1 : Int).toNat * 10) 0 rfl; clear hx_) | ((with_reducible refine gate_store (t := 9) (p := 18) rfl ?_); refine store_event (t := 9) (p := 18) (v := ?vo_wa2) (w1 := (wa1.setCell ⟨g_, (x5_1 : Int).toNat * 10, none⟩ (.string t0))) ?hg ?ho ?hn ?hr ?_; (case ho => rfl); (case hg => rfl); (case hn => rfl); (case hr => first | (go_simp; done) | (go_simp; rfl)); intro wa2 hw; (try clear hy_); (try clear hz_); have n_ := aM ((by rw [hw]; exact HH.out.in_put HV1.out (.string t0) : Kd.R k123 123 wa2 w0.heap.size oki_ (.slice A1_ n1_ c1_) _)); clear HV1; have HV1 := n_; clear n_; have n_ := aM ((by rw [hw]; exact HH.out.in_put HV8.out (.string t0) : Kd.R (Kd.int .i64) 3 wa2 w0.heap.size oki_ (.slice A8_ n8_ c8_) _)); clear HV8; have HV8 := n_; clear n_; have n_ := aM (show Hole k96 96 w0 w wa2 P0_ g_ _ _ x0_1 x5_1 oki_ [.string t0, .slice A1_ n1_ c1_, .int .i64 ((rd_T96 x0_1 x5_1).f0.f2), .int .i64 ((rd_T96 x0_1 x5_1).f1), .int .i64 ((rd_T96 x0_1 x5_1).f2.f0), .int .i64 ((rd_T96 x0_1 x5_1).f2.f1), .int .i64 ((rd_T96 x0_1 x5_1).f2.f2), .int .i64 ((rd_T96 x0_1 x5_1).f2.f3), .slice A8_ n8_ c8_, .bool ((rd_T96 x0_1 x5_1).f2.f5)] from (by rw [hw]; exact HH.out.put (o := (x5_1 : Int).toNat * 10) 0 (.string t0) rfl (by decide) rfl)); clear HH; have HH := n_; clear n_ hw; have hx_ := aM (HH.out.cell (o := (x5_1 : Int).toNat * 10 + 1) 1 _ rfl rfl); have hy_ : wa2.cell? ⟨g_, (x5_1 : Int).toNat * 10 + 1, none⟩ = some (.slice A1_ n1_ c1_) := hx_.out; clear hx_) | (go_at_call 54; (with_reducible refine (laws_markTagS.calls k1 (fun k_ => some k_ = (.slice A1_ n1_ c1_ : Value).ownBlock) (.slice A1_ n1_ c1_) ((rd_T96 x0_1 x5_1).f0.f1) (wrap64 (x1_1 + 1)) t1.1 t1.2 w0 _ ?s1 ?s2 At1.out).mono ?_); (case s1 => exact HH.out.hb); (case s2 => exact Kd.R_tight rfl HV1.out); rintro e wa3 ⟨rfl, ho, hb, hk⟩; (try clear hy_); (try clear hz_); have ht_ : ∀ k_, (fun k_ => some k_ = (.slice A1_ n1_ c1_ : Value).ownBlock) k_ → oki_ k_ := fun k_ e_ => HV1.out.1 k_ e_.symm; have n_ := aM (show Kd.R (Kd.int .i64) 3 wa3 w0.heap.size oki_ (.slice A8_ n8_ c8_) _ from Kd.R_mono (Kd.R_kept (Kd.R_apart' HV8.out (Kd.R_typed HV1.out) (by decide)) hk (fun k_ h_ e_ => h_.2 e_)) (fun k_ h_ => h_.1)); clear HV8; have HV8 := n_; clear n_; have n_ := aM (HH.out.kept hk hb ht_); clear HH; have HH := n_; clear n_; have n_ := aM (Kd.R_mono (Kd.R_tight rfl ho) (fun k_ e_ => ht_ k_ e_)); clear HV1 ho hb hk ht_; have HV1 := n_; clear n_; have hx_ := aM (HH.out.cell (o := (x5_1 : Int).toNat * 10 + 2) 2 _ rfl rfl); have hy_ : wa3.cell? ⟨g_, (x5_1 : Int).toNat * 10 + 2, none⟩ = some (.int .i64 ((rd_T96 x0_1 x5_1).f0.f2)) := hx_.out; have hz_ : wa3.frozen? ⟨g_, (x5_1 : Int).toNat * 10 + 2, none⟩ = false := HH.out.free (o := (x5_1 : Int).toNat * 10 + 2) 2 rfl; clear hx_) | ((with_reducible refine gate_store (t := 3) (p := 34) rfl ?_); refine store_event (t := 3) (p := 34) (v := ?vo_wa4) (w1 := (wa3.setCell ⟨g_, (x5_1 : Int).toNat * 10 + 2, none⟩ (.int .i64 t1.1))) ?hg ?ho ?hn ?hr ?_; (case ho => rfl); (case hg => rfl); (case hn => rfl); (case hr => first | (go_simp; done) | (go_simp; rfl)); intro wa4 hw; (try clear hy_); (try clear hz_); have n_ := aM ((by rw [hw]; exact HH.out.in_put HV1.out (.int .i64 t1.1) : Kd.R k123 123 wa4 w0.heap.size oki_ (.slice A1_ n1_ c1_) _)); clear HV1; have HV1 := n_; clear n_; have n_ := aM ((by rw [hw]; exact HH.out.in_put HV8.out (.int .i64 t1.1) : Kd.R (Kd.int .i64) 3 wa4 w0.heap.size oki_ (.slice A8_ n8_ c8_) _)); clear HV8; have HV8 := n_; clear n_; have n_ := aM (show Hole k96 96 w0 w wa4 P0_ g_ _ _ x0_1 x5_1 oki_ [.string t0, .slice A1_ n1_ c1_, .int .i64 t1.1, .int .i64 ((rd_T96 x0_1 x5_1).f1), .int .i64 ((rd_T96 x0_1 x5_1).f2.f0), .int .i64 ((rd_T96 x0_1 x5_1).f2.f1), .int .i64 ((rd_T96 x0_1 x5_1).f2.f2), .int .i64 ((rd_T96 x0_1 x5_1).f2.f3), .slice A8_ n8_ c8_, .bool ((rd_T96 x0_1 x5_1).f2.f5)] from (by rw [hw]; exact HH.out.put (o := (x5_1 : Int).toNat * 10 + 2) 2 (.int .i64 t1.1) rfl (by decide) rfl)); clear HH; have HH := n_; clear n_ hw; have hx_ := aM (HH.out.cell (o := (x5_1 : Int).toNat * 10 + 3) 3 _ rfl rfl); have hy_ : wa4.cell? ⟨g_, (x5_1 : Int).toNat * 10 + 3, none⟩ = some (.int .i64 ((rd_T96 x0_1 x5_1).f1)) := hx_.out; have hz_ : wa4.frozen? ⟨g_, (x5_1 : Int).toNat * 10 + 3, none⟩ = false := HH.out.free (o := (x5_1 : Int).toNat * 10 + 3) 3 rfl; clear hx_) | ((with_reducible refine gate_store (t := 3) (p := 41) rfl ?_); refine store_event (t := 3) (p := 41) (v := ?vo_wa5) (w1 := (wa4.setCell ⟨g_, (x5_1 : Int).toNat * 10 + 3, none⟩ (.int .i64 (wrap64 (t1.1 + 1))))) ?hg ?ho ?hn ?hr ?_; (case ho => rfl); (case hg => rfl); (case hn => rfl); (case hr => first | (go_simp; done) | (go_simp; rfl)); intro wa5 hw; (try clear hy_); (try clear hz_); have n_ := aM ((by rw [hw]; exact HH.out.in_put HV1.out (.int .i64 (wrap64 (t1.1 + 1))) : Kd.R k123 123 wa5 w0.heap.size oki_ (.slice A1_ n1_ c1_) _)); clear HV1; have HV1 := n_; clear n_; have n_ := aM ((by rw [hw]; exact HH.out.in_put HV8.out (.int .i64 (wrap64 (t1.1 + 1))) : Kd.R (Kd.int .i64) 3 wa5 w0.heap.size oki_ (.slice A8_ n8_ c8_) _)); clear HV8; have HV8 := n_; clear n_; have n_ := aM (show Hole k96 96 w0 w wa5 P0_ g_ _ _ x0_1 x5_1 oki_ [.string t0, .slice A1_ n1_ c1_, .int .i64 t1.1, .int .i64 (wrap64 (t1.1 + 1)), .int .i64 ((rd_T96 x0_1 x5_1).f2.f0), .int .i64 ((rd_T96 x0_1 x5_1).f2.f1), .int .i64 ((rd_T96 x0_1 x5_1).f2.f2), .int .i64 ((rd_T96 x0_1 x5_1).f2.f3), .slice A8_ n8_ c8_, .bool ((rd_T96 x0_1 x5_1).f2.f5)] from (by rw [hw]; exact HH.out.put (o := (x5_1 : Int).toNat * 10 + 3) 3 (.int .i64 (wrap64 (t1.1 + 1))) rfl (by decide) rfl)); clear HH; have HH := n_; clear n_ hw; have hx_ := aM (HH.out.cell (o := (x5_1 : Int).toNat * 10 + 4) 4 _ rfl rfl); have hy_ : wa5.cell? ⟨g_, (x5_1 : Int).toNat * 10 + 4, none⟩ = some (.int .i64 ((rd_T96 x0_1 x5_1).f2.f0)) := hx_.out; have hz_ : wa5.frozen? ⟨g_, (x5_1 : Int).toNat * 10 + 4, none⟩ = false := HH.out.free (o := (x5_1 : Int).toNat * 10 + 4) 4 rfl; clear hx_) | ((with_reducible refine gate_store (t := 3) (p := 49) rfl ?_); refine store_event (t := 3) (p := 49) (v := ?vo_wa6) (w1 := (wa5.setCell ⟨g_, (x5_1 : Int).toNat * 10 + 4, none⟩ (.int .i64 (wrap64 ((wrap64 (t1.1 + 1)) + 1))))) ?hg ?ho ?hn ?hr ?_; (case ho => rfl); (case hg => rfl); (case hn => rfl); (case hr => first | (go_simp; done) | (go_simp; rfl)); intro wa6 hw; (try clear hy_); (try clear hz_); have n_ := aM ((by rw [hw]; exact HH.out.in_put HV1.out (.int .i64 (wrap64 ((wrap64 (t1.1 + 1)) + 1))) : Kd.R k123 123 wa6 w0.heap.size oki_ (.slice A1_ n1_ c1_) _)); clear HV1; have HV1 := n_; clear n_; have n_ := aM ((by rw [hw]; exact HH.out.in_put HV8.out (.int .i64 (wrap64 ((wrap64 (t1.1 + 1)) + 1))) : Kd.R (Kd.int .i64) 3 wa6 w0.heap.size oki_ (.slice A8_ n8_ c8_) _)); clear HV8; have HV8 := n_; clear n_; have n_ := aM (show Hole k96 96 w0 w wa6 P0_ g_ _ _ x0_1 x5_1 oki_ [.string t0, .slice A1_ n1_ c1_, .int .i64 t1.1, .int .i64 (wrap64 (t1.1 + 1)), .int .i64 (wrap64 ((wrap64 (t1.1 + 1)) + 1)), .int .i64 ((rd_T96 x0_1 x5_1).f2.f1), .int .i64 ((rd_T96 x0_1 x5_1).f2.f2), .int .i64 ((rd_T96 x0_1 x5_1).f2.f3), .slice A8_ n8_ c8_, .bool ((rd_T96 x0_1 x5_1).f2.f5)] from (by rw [hw]; exact HH.out.put (o := (x5_1 : Int).toNat * 10 + 4) 4 (.int .i64 (wrap64 ((wrap64 (t1.1 + 1)) + 1))) rfl (by decide) rfl)); clear HH; have HH := n_; clear n_ hw; have hx_ := aM (HH.out.cell (o := (x5_1 : Int).toNat * 10 + 5) 5 _ rfl rfl); have hy_ : wa6.cell? ⟨g_, (x5_1 : Int).toNat * 10 + 5, none⟩ = some (.int .i64 ((rd_T96 x0_1 x5_1).f2.f1)) := hx_.out; have hz_ : wa6.frozen? ⟨g_, (x5_1 : Int).toNat * 10 + 5, none⟩ = false := HH.out.free (o := (x5_1 : Int).toNat * 10 + 5) 5 rfl; clear hx_) | ((with_reducible refine gate_store (t := 3) (p := 57) rfl ?_); refine store_event (t := 3) (p := 57) (v := ?vo_wa7) (w1 := (wa6.setCell ⟨g_, (x5_1 : Int).toNat * 10 + 5, none⟩ (.int .i64 (wrap64 ((wrap64 ((wrap64 (t1.1 + 1)) + 1)) + 1))))) ?hg ?ho ?hn ?hr ?_; (case ho => rfl); (case hg => rfl); (case hn => rfl); (case hr => first | (go_simp; done) | (go_simp; rfl)); intro wa7 hw; (try clear hy_); (try clear hz_); have n_ := aM ((by rw [hw]; exact HH.out.in_put HV1.out (.int .i64 (wrap64 ((wrap64 ((wrap64 (t1.1 + 1)) + 1)) + 1))) : Kd.R k123 123 wa7 w0.heap.size oki_ (.slice A1_ n1_ c1_) _)); clear HV1; have HV1 := n_; clear n_; have n_ := aM ((by rw [hw]; exact HH.out.in_put HV8.out (.int .i64 (wrap64 ((wrap64 ((wrap64 (t1.1 + 1)) + 1)) + 1))) : Kd.R (Kd.int .i64) 3 wa7 w0.heap.size oki_ (.slice A8_ n8_ c8_) _)); clear HV8; have HV8 := n_; clear n_; have n_ := aM (show Hole k96 96 w0 w wa7 P0_ g_ _ _ x0_1 x5_1 oki_ [.string t0, .slice A1_ n1_ c1_, .int .i64 t1.1, .int .i64 (wrap64 (t1.1 + 1)), .int .i64 (wrap64 ((wrap64 (t1.1 + 1)) + 1)), .int .i64 (wrap64 ((wrap64 ((wrap64 (t1.1 + 1)) + 1)) + 1)), .int .i64 ((rd_T96 x0_1 x5_1).f2.f2), .int .i64 ((rd_T96 x0_1 x5_1).f2.f3), .slice A8_ n8_ c8_, .bool ((rd_T96 x0_1 x5_1).f2.f5)] from (by rw [hw]; exact HH.out.put (o := (x5_1 : Int).toNat * 10 + 5) 5 (.int .i64 (wrap64 ((wrap64 ((wrap64 (t1.1 + 1)) + 1)) + 1))) rfl (by decide) rfl)); clear HH; have HH := n_; clear n_ hw; have hx_ := aM (HH.out.cell (o := (x5_1 : Int).toNat * 10 + 6) 6 _ rfl rfl); have hy_ : wa7.cell? ⟨g_, (x5_1 : Int).toNat * 10 + 6, none⟩ = some (.int .i64 ((rd_T96 x0_1 x5_1).f2.f2)) := hx_.out; have hz_ : wa7.frozen? ⟨g_, (x5_1 : Int).toNat * 10 + 6, none⟩ = false := HH.out.free (o := (x5_1 : Int).toNat * 10 + 6) 6 rfl; clear hx_) | ((with_reducible refine gate_store (t := 3) (p := 65) rfl ?_); refine store_event (t := 3) (p := 65) (v := ?vo_wa8) (w1 := (wa7.setCell ⟨g_, (x5_1 : Int).toNat * 10 + 6, none⟩ (.int .i64 (wrap64 ((wrap64 ((wrap64 ((wrap64 (t1.1 + 1)) + 1)) + 1)) + 1))))) ?hg ?ho ?hn ?hr ?_; (case ho => rfl); (case hg => rfl); (case hn => rfl); (case hr => first | (go_simp; done) | (go_simp; rfl)); intro wa8 hw; (try clear hy_); (try clear hz_); have n_ := aM ((by rw [hw]; exact HH.out.in_put HV1.out (.int .i64 (wrap64 ((wrap64 ((wrap64 ((wrap64 (t1.1 + 1)) + 1)) + 1)) + 1))) : Kd.R k123 123 wa8 w0.heap.size oki_ (.slice A1_ n1_ c1_) _)); clear HV1; have HV1 := n_; clear n_; have n_ := aM ((by rw [hw]; exact HH.out.in_put HV8.out (.int .i64 (wrap64 ((wrap64 ((wrap64 ((wrap64 (t1.1 + 1)) + 1)) + 1)) + 1))) : Kd.R (Kd.int .i64) 3 wa8 w0.heap.size oki_ (.slice A8_ n8_ c8_) _)); clear HV8; have HV8 := n_; clear n_; have n_ := aM (show Hole k96 96 w0 w wa8 P0_ g_ _ _ x0_1 x5_1 oki_ [.string t0, .slice A1_ n1_ c1_, .int .i64 t1.1, .int .i64 (wrap64 (t1.1 + 1)), .int .i64 (wrap64 ((wrap64 (t1.1 + 1)) + 1)), .int .i64 (wrap64 ((wrap64 ((wrap64 (t1.1 + 1)) + 1)) + 1)), .int .i64 (wrap64 ((wrap64 ((wrap64 ((wrap64 (t1.1 + 1)) + 1)) + 1)) + 1)), .int .i64 ((rd_T96 x0_1 x5_1).f2.f3), .slice A8_ n8_ c8_, .bool ((rd_T96 x0_1 x5_1).f2.f5)] from (by rw [hw]; exact HH.out.put (o := (x5_1 : Int).toNat * 10 + 6) 6 (.int .i64 (wrap64 ((wrap64 ((wrap64 ((wrap64 (t1.1 + 1)) + 1)) + 1)) + 1))) rfl (by decide) rfl)); clear HH; have HH := n_; clear n_ hw; have hx_ := aM (HH.out.cell (o := (x5_1 : Int).toNat * 10 + 7) 7 _ rfl rfl); have hy_ : wa8.cell? ⟨g_, (x5_1 : Int).toNat * 10 + 7, none⟩ = some (.int .i64 ((rd_T96 x0_1 x5_1).f2.f3)) := hx_.out; have hz_ : wa8.frozen? ⟨g_, (x5_1 : Int).toNat * 10 + 7, none⟩ = false := HH.out.free (o := (x5_1 : Int).toNat * 10 + 7) 7 rfl; clear hx_) | ((with_reducible refine gate_store (t := 3) (p := 73) rfl ?_); refine store_event (t := 3) (p := 73) (v := ?vo_wa9) (w1 := (wa8.setCell ⟨g_, (x5_1 : Int).toNat * 10 + 7, none⟩ (.int .i64 (wrap64 ((wrap64 ((wrap64 ((wrap64 ((wrap64 (t1.1 + 1)) + 1)) + 1)) + 1)) + 1))))) ?hg ?ho ?hn ?hr ?_; (case ho => rfl); (case hg => rfl); (case hn => rfl); (case hr => first | (go_simp; done) | (go_simp; rfl)); intro wa9 hw; (try clear hy_); (try clear hz_); have n_ := aM ((by rw [hw]; exact HH.out.in_put HV1.out (.int .i64 (wrap64 ((wrap64 ((wrap64 ((wrap64 ((wrap64 (t1.1 + 1)) + 1)) + 1)) + 1)) + 1))) : Kd.R k123 123 wa9 w0.heap.size oki_ (.slice A1_ n1_ c1_) _)); clear HV1; have HV1 := n_; clear n_; have n_ := aM ((by rw [hw]; exact HH.out.in_put HV8.out (.int .i64 (wrap64 ((wrap64 ((wrap64 ((wrap64 ((wrap64 (t1.1 + 1)) + 1)) + 1)) + 1)) + 1))) : Kd.R (Kd.int .i64) 3 wa9 w0.heap.size oki_ (.slice A8_ n8_ c8_) _)); clear HV8; have HV8 := n_; clear n_; have n_ := aM (show Hole k96 96 w0 w wa9 P0_ g_ _ _ x0_1 x5_1 oki_ [.string t0, .slice A1_ n1_ c1_, .int .i64 t1.1, .int .i64 (wrap64 (t1.1 + 1)), .int .i64 (wrap64 ((wrap64 (t1.1 + 1)) + 1)), .int .i64 (wrap64 ((wrap64 ((wrap64 (t1.1 + 1)) + 1)) + 1)), .int .i64 (wrap64 ((wrap64 ((wrap64 ((wrap64 (t1.1 + 1)) + 1)) + 1)) + 1)), .int .i64 (wrap64 ((wrap64 ((wrap64 ((wrap64 ((wrap64 (t1.1 + 1)) + 1)) + 1)) + 1)) + 1)), .slice A8_ n8_ c8_, .bool ((rd_T96 x0_1 x5_1).f2.f5)] from (by rw [hw]; exact HH.out.put (o := (x5_1 : Int).toNat * 10 + 7) 7 (.int .i64 (wrap64 ((wrap64 ((wrap64 ((wrap64 ((wrap64 (t1.1 + 1)) + 1)) + 1)) + 1)) + 1))) rfl (by decide) rfl)); clear HH; have HH := n_; clear n_ hw; have hx_ := aM (HH.out.cell (o := (x5_1 : Int).toNat * 10 + 8) 8 _ rfl rfl); have hy_ : wa9.cell? ⟨g_, (x5_1 : Int).toNat * 10 + 8, none⟩ = some (.slice A8_ n8_ c8_) := hx_.out; clear hx_) | (go_at_call 76; (with_reducible refine (laws_markIntS.calls k1 (fun k_ => some k_ = (.slice A8_ n8_ c8_ : Value).ownBlock) (.slice A8_ n8_ c8_) ((rd_T96 x0_1 x5_1).f2.f4) (wrap64 ((wrap64 ((wrap64 ((wrap64 ((wrap64 ((wrap64 (t1.1 + 1)) + 1)) + 1)) + 1)) + 1)) + 1)) t2.1 t2.2 w0 _ ?s1 ?s2 At2.out).mono ?_); (case s1 => exact HH.out.hb); (case s2 => exact Kd.R_tight rfl HV8.out); rintro e wa10 ⟨rfl, ho, hb, hk⟩; (try clear hy_); (try clear hz_); have ht_ : ∀ k_, (fun k_ => some k_ = (.slice A8_ n8_ c8_ : Value).ownBlock) k_ → oki_ k_ := fun k_ e_ => HV8.out.1 k_ e_.symm; have n_ := aM (show Kd.R k123 123 wa10 w0.heap.size oki_ (.slice A1_ n1_ c1_) _ from Kd.R_mono (Kd.R_kept (Kd.R_apart' HV1.out (Kd.R_typed HV8.out) (by decide)) hk (fun k_ h_ e_ => h_.2 e_)) (fun k_ h_ => h_.1)); clear HV1; have HV1 := n_; clear n_; have n_ := aM (HH.out.kept hk hb ht_); clear HH; have HH := n_; clear n_; have n_ := aM (Kd.R_mono (Kd.R_tight rfl ho) (fun k_ e_ => ht_ k_ e_)); clear HV8 ho hb hk ht_; have HV8 := n_; clear n_; have hx_ := aM (HH.out.cell (o := (x5_1 : Int).toNat * 10 + 9) 9 _ rfl rfl); have hy_ : wa10.cell? ⟨g_, (x5_1 : Int).toNat * 10 + 9, none⟩ = some (.bool ((rd_T96 x0_1 x5_1).f2.f5)) := hx_.out; have hz_ : wa10.frozen? ⟨g_, (x5_1 : Int).toNat * 10 + 9, none⟩ = false := HH.out.free (o := (x5_1 : Int).toNat * 10 + 9) 9 rfl; clear hx_) | ((with_reducible refine gate_store (t := 4) (p := 91) rfl ?_); refine store_event (t := 4) (p := 91) (v := ?vo_wa11) (w1 := (wa10.setCell ⟨g_, (x5_1 : Int).toNat * 10 + 9, none⟩ (.bool (Int.tmod t2.1 3 == 0)))) ?hg ?ho ?hn ?hr ?_; (case ho => rfl); (case hg => rfl); (case hn => rfl); (case hr => first | (go_simp; done) | (go_simp; rfl)); intro wa11 hw; (try clear hy_); (try clear hz_); have n_ := aM ((by rw [hw]; exact HH.out.in_put HV1.out (.bool (Int.tmod t2.1 3 == 0)) : Kd.R k123 123 wa11 w0.heap.size oki_ (.slice A1_ n1_ c1_) _)); clear HV1; have HV1 := n_; clear n_; have n_ := aM ((by rw [hw]; exact HH.out.in_put HV8.out (.bool (Int.tmod t2.1 3 == 0)) : Kd.R (Kd.int .i64) 3 wa11 w0.heap.size oki_ (.slice A8_ n8_ c8_) _)); clear HV8; have HV8 := n_; clear n_; have n_ := aM (show Hole k96 96 w0 w wa11 P0_ g_ _ _ x0_1 x5_1 oki_ [.string t0, .slice A1_ n1_ c1_, .int .i64 t1.1, .int .i64 (wrap64 (t1.1 + 1)), .int .i64 (wrap64 ((wrap64 (t1.1 + 1)) + 1)), .int .i64 (wrap64 ((wrap64 ((wrap64 (t1.1 + 1)) + 1)) + 1)), .int .i64 (wrap64 ((wrap64 ((wrap64 ((wrap64 (t1.1 + 1)) + 1)) + 1)) + 1)), .int .i64 (wrap64 ((wrap64 ((wrap64 ((wrap64 ((wrap64 (t1.1 + 1)) + 1)) + 1)) + 1)) + 1)), .slice A8_ n8_ c8_, .bool (Int.tmod t2.1 3 == 0)] from (by rw [hw]; exact HH.out.put (o := (x5_1 : Int).toNat * 10 + 9) 9 (.bool (Int.tmod t2.1 3 == 0)) rfl (by decide) rfl)); clear HH; have HH := n_; clear n_ hw; skip))
       go_roundg k1
       case measure => have := HK1.out; omega
       case rel =>
        have hq_ := HH.out.back (k96_mkM _ _ _ (⟨(⟨t0, t1.2, t1.1⟩ : S32), (wrap64 (t1.1 + 1)), (⟨(wrap64 ((wrap64 (t1.1 + 1)) + 1)), (wrap64 ((wrap64 ((wrap64 (t1.1 + 1)) + 1)) + 1)), (wrap64 ((wrap64 ((wrap64 ((wrap64 (t1.1 + 1)) + 1)) + 1)) + 1)), (wrap64 ((wrap64 ((wrap64 ((wrap64 ((wrap64 (t1.1 + 1)) + 1)) + 1)) + 1)) + 1)), t2.2, (Int.tmod t2.1 3 == 0)⟩ : S35)⟩ : S96) HV1.out HV8.out)
        exact ⟨_, _, _, rfl, rfl, H', ⟨by have := HK1.out; omega⟩, ⟨by (with_reducible repeat (first | apply Kd.S_alloc | apply Kd.S_drewN | apply Kd.S_drew)); exact hq_.1⟩, ⟨by repeat (first | exact hq_.2.1 | apply Kept.alloc | apply Kept.drewN | apply Kept.drew)⟩, ⟨by repeat (first | exact hq_.2.2 | apply below_alloc | apply pw_below_drewN | apply below_drew1)⟩⟩
     · rw [if_neg c5] at H
       exact absurd H (by simp)
   · rw [if_neg c3] at H
     have c3b0 : decide (x5_1 < (x0_1.length : Int)) = false := decide_eq_false c3
     clear c3
     simp only [Option.some.injEq, Prod.mk.injEq] at H
     obtain ⟨rfl, rfl⟩ := H
     obtain ⟨Ao_, co_, eo_⟩ := Kd.S_slice HO_0.out
     subst eo_
     go_wp2
     go_ret
     exact ⟨rfl, by (with_reducible repeat (first | apply Kd.S_alloc | apply Kd.S_drewN | apply Kd.S_drew)); exact HO_0.out, by repeat (first | exact HB.out | apply below_alloc | apply pw_below_drewN | apply below_drew1), by repeat (first | exact HK.out | apply Kept.alloc | apply Kept.drewN | apply Kept.drew)⟩
end Go.Proofs.YtkgmoajdcibafaaDoor.P

-- written by a program of this session's (wip/pp)
namespace Go.Proofs.YtkgmoajdcibafaaDoor.P
open Go.RowKit Go.Proofs.YtkgmoajdcibafaaDoorW.PrintWords Go.Proofs.YtkgmoajdcibafaaDoorW.PrintLast Go.Proofs.YtkgmoajdcibafaaDoorW.PrintMore
attribute [local go_sem] max2_int min2_int max_two min_two max_three min_three max_four min_four str_geq str_gtr str_leq   -- for this text's walks alone
set_option linter.unusedVariables false
set_option linter.unusedSimpArgs false

/-! ### laws_toTag: function 88 -/
def laws_toTag.f (a0_0 : ByteArray) (a0_1 : ByteArray) : Option (ByteArray × ByteArray) := some (a0_0, a0_1)
set_option maxHeartbeats 8000000 in
set_option maxRecDepth 100000 in
theorem laws_toTag.calls (a0_0 : ByteArray) (a0_1 : ByteArray) (r1 : ByteArray) (r2 : ByteArray) (w : World) (h : laws_toTag.f a0_0 a0_1 = some (r1, r2)) :
 Calls Tryd.prog 88 #[.agg #[.string a0_0, .string a0_1]] w fun e w' => e = .returned (.agg #[.string r1, .string r2]) ∧ Below w.heap.size w w' := by
 have hu119 := Tryd.underlying119
 have hu123 := Tryd.underlying123
 have HB := aM (Below.refl w.heap.size w)
 have H : (some (a0_0, a0_1)) = some (r1, r2) := h
 clear h
 simp only [Option.some.injEq, Prod.mk.injEq] at H
 obtain ⟨rfl, rfl⟩ := H
 go_enter Tryd.func88, Tryd.ntmps88
 go_wp2_with (first | ((with_reducible refine gate_dst (N := 1) rfl ?_); refine bX 1 119 #[.string a0_0, .string a0_1] ?_; intro gb101 hg w2 hbox hb; have _ := aM (below_step hbZ hb); have _ := aM hbox; have _ := szZ hg; have _ := szZ hg; clear HB; rename_i HB BK101 GW101 GE101; clear hb hbox hg) | ((with_reducible refine gate_dst (N := 2) rfl ?_); refine bX 2 123 #[.string (⟨#[]⟩ : ByteArray), .string (⟨#[]⟩ : ByteArray)] ?_; intro gb102 hg w3 hbox hb; have _ := bB gb101 hb; have _ := aM (below_step hbZ hb); have _ := aM hbox; have _ := szZ hg; have _ := szZ hg; have ⟨_, _⟩ := nbB gb101 hg; clear BK101 HB; rename_i BK101 HB BK102 GW102 GE102 NB101_102 NB102_101; clear hb hbox hg) | ((with_reducible refine gate_dst (N := 3) rfl ?_); refine bX 3 123 #[.string (⟨#[]⟩ : ByteArray), .string (⟨#[]⟩ : ByteArray)] ?_; intro gb103 hg w4 hbox hb; have _ := bB gb101 hb; have _ := bB gb102 hb; have _ := aM (below_step hbZ hb); have _ := aM hbox; have _ := szZ hg; have _ := szZ hg; have ⟨_, _⟩ := nbB gb101 hg; have ⟨_, _⟩ := nbB gb102 hg; clear BK101 BK102 HB; rename_i BK101 BK102 HB BK103 GW103 GE103 NB101_103 NB103_101 NB102_103 NB103_102; clear hb hbox hg; have hnb5 := NB101_102.out; have hnc5 := NB102_101.out; have hnb6 := NB101_103.out; have hnc6 := NB103_101.out; have hz7 := cellsZ2 BK101.out; have hnb8 := NB103_102.out; have hnc8 := NB102_103.out; have hz9 := cellsZ2 BK103.out; have hz10 := cellsZ2 BK102.out))
 refine bodyPost_ret (results_cell_row rfl _ _ gb102 123 #[.string a0_0, .string a0_1] (0, 0) _ rfl bkZ Tryd.underlying123 rfl (by kernel_rfl)) rfl ?_
 exact ⟨z674d, zcb41⟩

end Go.Proofs.YtkgmoajdcibafaaDoor.P

-- written by a program of this session's (wip/pp)
namespace Go.Proofs.YtkgmoajdcibafaaDoor.P
open Go.RowKit Go.Proofs.YtkgmoajdcibafaaDoorW.PrintWords Go.Proofs.YtkgmoajdcibafaaDoorW.PrintLast Go.Proofs.YtkgmoajdcibafaaDoorW.PrintMore
attribute [local go_sem] max2_int min2_int max_two min_two max_three min_three max_four min_four str_geq str_gtr str_leq   -- for this text's walks alone
set_option linter.unusedVariables false
set_option linter.unusedSimpArgs false

/-! ### laws_toTagS: function 45 -/
def laws_toTagS.l0 : Nat → List (S119) → List (S123) → Int → Option ((List (S123)))
 | 0, _, _, _ => none
 | k + 1, x0, x3, x4 => if x4 < (x0.length : Int) then (if 0 ≤ x4 then ((laws_toTag.f ((rd_T119 x0 x4).f0) ((rd_T119 x0 x4).f1)).bind fun bt105 => (if x4 < (x3.length : Int) then (laws_toTagS.l0 k x0 (x3.set (x4 : Int).toNat (⟨bt105.1, bt105.2⟩ : S123)) (wrap64 (x4 + 1))) else (none))) else (none)) else (some x3)
def laws_toTagS.f (k : Nat) (l0 : List (S119)) : Option ((List (S123))) := if 0 ≤ (l0.length : Int) then (if ((l0.length : Int) : Int).toNat ≤ 8796093022208 then (laws_toTagS.l0 k l0 (List.replicate ((l0.length : Int) : Int).toNat z123) 0) else (none)) else (none)
theorem laws_toTagS.mono_l : ∀ k, (∀ y0 y1 y2, LeO (laws_toTagS.l0 k y0 y1 y2) (laws_toTagS.l0 (k + 1) y0 y1 y2))
 | 0 => fun _ _ _ r h => by simp [laws_toTagS.l0] at h
 | k + 1 => by
  have ih0 := laws_toTagS.mono_l k
  · intro y0 y1 y2
    unfold laws_toTagS.l0
    exact moZ
theorem laws_toTagS.mono : ∀ a0 k, LeO (laws_toTagS.f k a0) (laws_toTagS.f (k + 1) a0) := by
 intro a0 k
 have ih0 := laws_toTagS.mono_l k
 unfold laws_toTagS.f
 exact moZ
set_option maxHeartbeats 8000000 in
set_option maxRecDepth 100000 in
theorem laws_toTagS.calls (k : Nat) (A0 : Option Addr) (c0 : Nat) (l0 : List (S119)) (r : List (S123)) (w : World) (hr0 : Kd.C k119 w A0 l0.length l0) (hc0 : l0.length ≤ c0) (h : laws_toTagS.f k l0 = some r) :
 Calls Tryd.prog 45 #[.slice A0 l0.length c0] w fun e w' => ∃ v0_ : Value, e = .returned (v0_) ∧ Kd.R k123 123 w' w.heap.size (fun _ => True) v0_ r ∧ Below w.heap.size w w' := by
 have hu119 := Tryd.underlying119
 have hu123 := Tryd.underlying123
 have HR0 := aM hr0
 have HC0 := aM hc0
 clear hr0 hc0
 have HB := aM (Below.refl w.heap.size w)
 have H : (if 0 ≤ (l0.length : Int) then (if ((l0.length : Int) : Int).toNat ≤ 8796093022208 then (laws_toTagS.l0 k l0 (List.replicate ((l0.length : Int) : Int).toNat z123) 0) else (none)) else (none)) = some r := h
 clear h
 replace H := ifS H; obtain ⟨c2, H⟩ := H
 have c2b0 := eq_true c2
 have c2b1 : decide (0 ≤ (l0.length : Int)) = true := decide_eq_true c2
 clear c2
 replace H := ifS H; obtain ⟨c3, H⟩ := H
 have c3b0 := eq_true c3
 have c3b1 : decide (((l0.length : Int) : Int).toNat ≤ 8796093022208) = true := decide_eq_true c3
 clear c3
 obtain ⟨y101, hy101⟩ : ∃ y_ : List (S123), y_ = (List.replicate ((l0.length : Int) : Int).toNat z123) := ⟨_, rfl⟩
 first | (replace H := bindS H; rw [← hy101] at H; try dsimp only at H) | rw [← hy101] at H
 have Ny101 := aM hy101
 clear hy101
 have H' := aM H
 clear H
 go_enter Tryd.func45, Tryd.ntmps45
 go_wp2_with (first | ((with_reducible refine gate_dst (N := 7) rfl ?_); refine Kd.R_make k123 _ 123 rfl (N := 7) rfl 30 _ _ rfl (l0.length : Int) rfl rfl Tryd.underlying30 (.agg #[(.string ⟨#[]⟩), (.string ⟨#[]⟩)]) 32 info123 rfl (by decide) (by omega) z123 (ok := fun _ => True) (okp := fun _ => True) (k123_mkM _ _ _ z123 ) (fun _ hk => hk) trivial (of_decide_eq_true z1200) (Nat.le_trans (Nat.mul_le_mul_right _ (of_decide_eq_true z1200 : (l0.length : Int).toNat ≤ 8796093022208)) (by omega)) (Below.refl _ _) (Nat.le_refl _) ?_; intro v102 w4 ho5 hb hg_ hnew_; clear hg_ hnew_; (first | rw [← Ny101.out] at ho5 | (simp only [Int.reduceToNat] at ho5; rw [← Ny101.out] at ho5)); have _ := aM (Kd.R_lower ho5 (below_size hbZ)); have _ := aM (below_step hbZ hb); clear HB; rename_i HO103 HB; clear hb ho5))
 go_loopg [4] k (fun kq v4 w' => ∃ (x3_1 : List (S123)) (x4_1 : Int), v4 = .int .i64 x4_1 ∧ Aside0 (laws_toTagS.l0 kq l0 x3_1 x4_1 = some r) ∧ Aside0 (kq ≤ k) ∧ Aside0 (Kd.R k123 123 w' w.heap.size (fun _ => True) v102 x3_1) ∧ Aside0 (Below w.heap.size w w'))
 case atStart => exact ⟨(y101), (0), z4458, H', ⟨Nat.le_refl _⟩, ⟨rZ HO103.out⟩, ⟨z5acd⟩⟩
 case round =>
  clear H'
  (try clear c2b0); (try clear c2b1); (try clear c3b0); (try clear c3b1)
  obtain ⟨x3_1, x4_1, rfl, HA, HK1, HO_3, HB⟩ := hrel
  cases gk with
  | zero => exact absurd HA.out (by simp [laws_toTagS.l0])
  | succ k1 =>
   have H := HA.out
   clear HA
   simp only [laws_toTagS.l0] at H
   by_cases c6 : x4_1 < (l0.length : Int)
   · rw [if_pos c6] at H
     have c6b0 := dL c6
     clear c6
     obtain ⟨c7b0, H⟩ := sE H
     obtain ⟨⟨t105, t106⟩, A8, H⟩ := bS H; try dsimp only at H
     obtain ⟨c9b0, H⟩ := sL H
     obtain ⟨y107, hy107⟩ : ∃ y_ : List (S123), y_ = (x3_1.set (x4_1 : Int).toNat (⟨t105, t106⟩ : S123)) := ⟨_, rfl⟩
     first | (replace H := bindS H; rw [← hy107] at H; try dsimp only at H) | rw [← hy107] at H
     have Ny107 := aM hy107
     clear hy107
     have H' := aM H
     clear H
     have p104 : 0 ≤ (x4_1 : Int) := of_decide_eq_true z1200
     have q104 : x4_1 < (l0.length : Int) := of_decide_eq_true z1200
     obtain ⟨ad104, e104, hx104_0, hx104_1⟩ := at_T119 HR0.out x4_1 p104 q104
     cases e104
     replace hx104_0 := (HB.out.cell (World.block_lt_of_cell? w _ hx104_0)).trans hx104_0
     replace hx104_1 := (HB.out.cell (World.block_lt_of_cell? w _ hx104_1)).trans hx104_1
     replace p104 := eq_true p104
     replace q104 := eq_true q104
     go_wp2_with (first | ((with_reducible refine gate_callee (f := 88) rfl ?_); refine gL 20 Tryd.func88 #[.agg #[.string ((rd_T119 l0 x4_1).f0), .string ((rd_T119 l0 x4_1).f1)]] ?_; (with_reducible refine (laws_toTag.calls ((rd_T119 l0 x4_1).f0) ((rd_T119 l0 x4_1).f1) t105 t106 _ A8.out).mono ?_); rintro e w11 ⟨rfl, hb⟩; refine ⟨_, rfl, ?_⟩; have _ := aM (Kd.R_below (rZ HO_3.out) hb); have _ := aM (below_step hbZ hb); clear HO_3 HB; rename_i HO_3 HB; (try clear hb); have p10 : 0 ≤ (x4_1 : Int) := of_decide_eq_true z1200; have q10 : (x4_1 : Int) < ((x3_1.length : Int) : Int) := of_decide_eq_true z1200; obtain ⟨go10, co10, eo10, gb10, gl10, cl10, HG10⟩ := Kd.R_form HO_3.out (by omega); (first | cases eo10 | (injection eo10 with ea_ en_ ec_; (first | subst ea_ | (injection ea_ with ea_; subst ea_)); subst ec_; clear en_)); have GB10 := aM gb10; have GG10 := aM HG10; clear gb10 gl10 HG10; obtain ⟨ce10, hcl10, hM10, hcc10, hfr10⟩ := Kd.R_elem HO_3.out z123 (x4_1 : Int) p10 q10; obtain rfl := k123_openM hM10; have hx10_0 : w11.cell? ⟨go10, (x4_1 : Int).toNat * 2, none⟩ = some (.string ((rd_T123 x3_1 x4_1).f0)) := hcc10 0 _ rfl; have hx10_1 : w11.cell? ⟨go10, (x4_1 : Int).toNat * 2 + 1, none⟩ = some (.string ((rd_T123 x3_1 x4_1).f1)) := hcc10 1 _ rfl; have hf10_0 : w11.frozen? ⟨go10, (x4_1 : Int).toNat * 2, none⟩ = false := hfr10 0; have hf10_1 : w11.frozen? ⟨go10, (x4_1 : Int).toNat * 2 + 1, none⟩ = false := hfr10 1; clear hcl10 hcc10 hfr10 hM10; replace p10 := eq_true p10; replace q10 := eq_true q10; have HX12 := aM (show Kd.R k123 123 w11 w.heap.size (fun _ => True) (.slice (some ⟨go10, 0, none⟩) x3_1.length co10) x3_1 from (rZ HO_3.out)); obtain ⟨ce12, hcl12, hM12, hcc12, hfr12⟩ := Kd.R_elem HX12.out z123 (x4_1 : Int) (of_decide_eq_true z1200) (by have h_ : (x4_1 : Int) < ((x3_1.length : Int) : Int) := of_decide_eq_true z1200; first | exact h_ | (have e_ := (Kd.R_reads' HO_3.out).1; omega) | simpa using h_); obtain rfl := k123_openM hM12; have HP12 := Kd.R_seg HX12.out (x4_1 : Int) (of_decide_eq_true z1200) (by have h_ : (x4_1 : Int) < ((x3_1.length : Int) : Int) := of_decide_eq_true z1200; first | exact h_ | (have e_ := (Kd.R_reads' HO_3.out).1; omega) | simpa using h_) (seg := [.string t105, .string t106]) (j := 0) hcl12 hcc12 (show 2 ≤ 2 from by decide) (x' := (⟨t105, t106⟩ : S123)) (k123_mkM _ _ _ (⟨t105, t106⟩ : S123) ) (fun _ hk => hk); have hx12_0 := hcc12 0 _ rfl; (try simp only [show (k123).sz = 2 from rfl, Nat.mul_one, Nat.add_zero] at hx12_0); have hf12_0 := hfr12 0; (try simp only [show (k123).sz = 2 from rfl, Nat.mul_one, Nat.add_zero] at hf12_0); have hx12_1 := hcc12 1 _ rfl; (try simp only [show (k123).sz = 2 from rfl, Nat.mul_one, Nat.add_zero] at hx12_1); have hf12_1 := hfr12 1; (try simp only [show (k123).sz = 2 from rfl, Nat.mul_one, Nat.add_zero] at hf12_1); clear hcl12 hcc12 hfr12 hM12) | ((with_reducible refine gate_store (t := 123) (p := 21) rfl ?_); refine store_event (t := 123) (p := 21) (v := ?vo_w13) (w1 := ((w11.setCell ⟨go10, (x4_1 : Int).toNat * 2, none⟩ (.string t105)).setCell ⟨go10, (x4_1 : Int).toNat * 2 + 1, none⟩ (.string t106))) ?hg ?ho ?hn ?hr ?_; (case ho => rfl); (case hg => rfl); (case hn => rfl); (case hr => first | (go_simp; done) | (go_simp; rfl)); intro w13 hw; have hg : w11.grownBy w13 (some go10) := (by rw [hw]; exact HP12.2); have hp_ : Kd.R k123 123 w13 w.heap.size (fun _ => True) (.slice (some ⟨go10, 0, none⟩) x3_1.length co10) y107 := (by rw [hw, Ny107.out]; exact HP12.1); clear HP12; have _ := aM hp_; have _ := aM ((by rw [hw]; exact below_set (below_set (HB.out) GB10.out) GB10.out : Below w.heap.size w w13)); clear HO_3 HB; rename_i HO_3 HB; clear hg hw hp_))
     go_roundg k1
     case measure => have := HK1.out; omega
     case rel => exact ⟨(y107), (wrap64 (x4_1 + 1)), z4458, H', ⟨zfb39⟩, ⟨rZ HO_3.out⟩, ⟨z5acd⟩⟩
   · rw [if_neg c6] at H
     have c6b0 := nL c6
     clear c6
     obtain rfl := Option.some.inj H
     go_wp2
     go_ret
     exact ⟨_, z674d, rZ HO_3.out, z5acd⟩
end Go.Proofs.YtkgmoajdcibafaaDoor.P
