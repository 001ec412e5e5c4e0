/- Part 4 of the walks and words that Keys uses. No conditions of its own. -/
import Derived.Test.YteogadaloebdaaaDoorMKeys3

-- written by a program of this session's (wip/pp)
namespace Go.Proofs.YteogadaloebdaaaDoor.P
open Go.RowKit Go.Proofs.YteogadaloebdaaaDoorW.PrintWords Go.Proofs.YteogadaloebdaaaDoorW.PrintLast Go.Proofs.YteogadaloebdaaaDoorW.PrintMore
attribute [local go_sem] max2_int min2_int max_two min_two max_three min_three max_four min_four str_geq str_gtr str_leq   -- for this text's walks alone
set_option linter.unusedVariables false
set_option linter.unusedSimpArgs false

/-! ### impl_KeyBytes: function 9 -/
def impl_KeyBytes.f (k : Nat) (a0_0 : ByteArray) (l0_1 : List (S69)) (a0_2 : Int) : Option (List Int × Bool) := (impl_GoodKey.f k a0_0 l0_1 a0_2).bind fun t102 => (if t102 = true then ((impl_keyBytes.f k a0_0 l0_1 a0_2).bind fun t103 => (some (t103, true))) else (some (([] : List Int), false)))
theorem impl_KeyBytes.mono : ∀ a0 a1 a2 k, LeO (impl_KeyBytes.f k a0 a1 a2) (impl_KeyBytes.f (k + 1) a0 a1 a2) := by
 intro a0 a1 a2 k
 unfold impl_KeyBytes.f
 repeat' first
  | (with_reducible first | exact impl_GoodKey.mono .. | exact impl_keyBytes.mono .. | exact LeO.refl _ | exact LeO.none _ | refine LeO.ite ?_ ?_ | refine LeO.bind ?_ (fun _ => ?_))
  | exact LeO.none _
  | refine LeO.ite ?_ ?_
  | refine LeO.bind ?_ (fun _ => ?_)
set_option maxHeartbeats 8000000 in
set_option maxRecDepth 100000 in
theorem impl_KeyBytes.calls (k : Nat) (a0_0 : ByteArray) (A0_1 : Option Addr) (c0_1 : Nat) (l0_1 : List (S69)) (a0_2 : Int) (r1 : List Int) (r2 : Bool) (w : World) (hr0_1 : Kd.C k69 w A0_1 l0_1.length l0_1) (hc0_1 : l0_1.length ≤ c0_1) (h : impl_KeyBytes.f k a0_0 l0_1 a0_2 = some (r1, r2)) :
 Calls Tryd.prog 9 #[.agg #[.string a0_0, .slice A0_1 l0_1.length c0_1, .int .i64 a0_2]] w fun e w' => ∃ v0_ : Value, e = .returned (.tuple #[v0_, .bool r2]) ∧ Kd.V (Kd.int .u8) 5 w' w.heap.size (fun k_ => (w.heap.size ≤ k_)) v0_ r1 ∧ Below w.heap.size w w' := by
 have hu25 := Tryd.underlying25
 have HR0_1 := aM hr0_1
 have HC0_1 := aM hc0_1
 clear hr0_1 hc0_1
 have HB := aM (Below.refl w.heap.size w)
 have H : ((impl_GoodKey.f k a0_0 l0_1 a0_2).bind fun t102 => (if t102 = true then ((impl_keyBytes.f k a0_0 l0_1 a0_2).bind fun t103 => (some (t103, true))) else (some (([] : List Int), false)))) = some (r1, r2) := h
 clear h
 replace H := Option.bind_eq_some_iff.mp H
 obtain ⟨t102, A20, H⟩ := H
 try dsimp only at H
 have A2 := aM A20
 clear A20
 by_cases c3 : t102 = true
 · subst c3
   have H1 : ((impl_keyBytes.f k a0_0 l0_1 a0_2).bind fun t103 => (some (t103, true))) = some (r1, r2) := by rw [if_pos rfl] at H; exact H
   clear H
   have H := H1
   clear H1
   replace H := Option.bind_eq_some_iff.mp H
   obtain ⟨t103, A40, H⟩ := H
   try dsimp only at H
   have A4 := aM A40
   clear A40
   simp only [Option.some.injEq, Prod.mk.injEq] at H
   obtain ⟨rfl, rfl⟩ := H
   go_enter Tryd.func9, Tryd.ntmps9
   go_wp2_with (first | ((with_reducible refine gate_dst (N := 1) rfl ?_); refine box_event ?hg (N := 1) ?hd (cs := #[.string a0_0, .slice A0_1 l0_1.length c0_1, .int .i64 a0_2]) (t := 25) ?hr ?_; (case hd => rfl); (case hg => rfl); (case hr => first | (go_simp; done) | (go_simp; rfl)); intro gb101 hg w5 hbox hb; have _ := aM (below_step hbZ hb); have _ := aM hbox; have _ := szZ hg; have _ := szZ hg; clear HB; rename_i HB BK101 GW101 GE101; clear hb hbox hg; obtain ⟨hcz6_0, hcz6_1, hcz6_2, hfz6_0, hfz6_1, hfz6_2⟩ := cellsZ3 BK101.out) | ((with_reducible refine gate_callee (f := 31) rfl ?_); refine goesL_ (some 5) rfl rfl Tryd.func31 (by kernel_rfl) rfl #[.agg #[.string a0_0, .slice A0_1 l0_1.length c0_1, .int .i64 a0_2]] rfl zee81 ?_; (with_reducible refine (impl_GoodKey.calls k a0_0 _ _ l0_1 a0_2 true _ ?side1 ?side2 A2.out).mono ?_); (case side1 => exact (cZ (Kd.C_below HR0_1.out HB.out))); (case side2 => exact HC0_1.out); rintro e w7 ⟨rfl, hb⟩; refine ⟨_, rfl, ?_⟩; have _ := bB gb101 hb; have _ := aM (below_step hbZ hb); clear BK101 HB; rename_i BK101 HB; (try clear hb); obtain ⟨hcz8_0, hcz8_1, hcz8_2, hfz8_0, hfz8_1, hfz8_2⟩ := cellsZ3 BK101.out) | ((with_reducible refine gate_callee (f := 32) rfl ?_); refine goesL_ (some 8) rfl rfl Tryd.func32 (by kernel_rfl) rfl #[.agg #[.string a0_0, .slice A0_1 l0_1.length c0_1, .int .i64 a0_2]] rfl zee81 ?_; (with_reducible refine (impl_keyBytes.calls k a0_0 _ _ l0_1 a0_2 t103 _ ?side1 ?side2 A4.out).mono ?_); (case side1 => exact (cZ (Kd.C_below HR0_1.out HB.out))); (case side2 => exact HC0_1.out); rintro e w9 ⟨v104, rfl, ho0, hb⟩; refine ⟨_, rfl, ?_⟩; have _ := aM (Kd.V_lower (Kd.V_mono (ok' := fun k_ => (w.heap.size ≤ k_) ∧ k_ ≠ gb101) ho0 (fun k_ hk_ => ⟨(Nat.le_trans (below_size hbZ) hk_), (Kd.freshB (g := gb101) bkZ k_ hk_)⟩)) (below_size hbZ)); have _ := bB gb101 hb; have _ := aM (below_step hbZ hb); clear BK101 HB; rename_i HO105 BK101 HB; (try clear hb); (try clear ho0)))
   go_ret2
   exact ⟨_, z674d, by (with_reducible repeat (first | apply Kd.V_alloc | apply Kd.V_drewN | apply Kd.V_drew)); exact Kd.V_mono HO105.out (fun _ hk => hk.1), zcb41⟩
 · replace c3 := Bool.eq_false_iff.mpr c3
   subst c3
   have H1 : (some (([] : List Int), false)) = some (r1, r2) := by rw [if_neg (show ¬ (false = true) by decide)] at H; exact H
   clear H
   have H := H1
   clear H1
   simp only [Option.some.injEq, Prod.mk.injEq] at H
   obtain ⟨rfl, rfl⟩ := H
   go_enter Tryd.func9, Tryd.ntmps9
   go_wp2_with (first | ((with_reducible refine gate_dst (N := 1) rfl ?_); refine box_event ?hg (N := 1) ?hd (cs := #[.string a0_0, .slice A0_1 l0_1.length c0_1, .int .i64 a0_2]) (t := 25) ?hr ?_; (case hd => rfl); (case hg => rfl); (case hr => first | (go_simp; done) | (go_simp; rfl)); intro gb101 hg w10 hbox hb; have _ := aM (below_step hbZ hb); have _ := aM hbox; have _ := szZ hg; have _ := szZ hg; clear HB; rename_i HB BK101 GW101 GE101; clear hb hbox hg; obtain ⟨hcz11_0, hcz11_1, hcz11_2, hfz11_0, hfz11_1, hfz11_2⟩ := cellsZ3 BK101.out) | ((with_reducible refine gate_callee (f := 31) rfl ?_); refine goesL_ (some 5) rfl rfl Tryd.func31 (by kernel_rfl) rfl #[.agg #[.string a0_0, .slice A0_1 l0_1.length c0_1, .int .i64 a0_2]] rfl zee81 ?_; (with_reducible refine (impl_GoodKey.calls k a0_0 _ _ l0_1 a0_2 false _ ?side1 ?side2 A2.out).mono ?_); (case side1 => exact (cZ (Kd.C_below HR0_1.out HB.out))); (case side2 => exact HC0_1.out); rintro e w12 ⟨rfl, hb⟩; refine ⟨_, rfl, ?_⟩; have _ := bB gb101 hb; have _ := aM (below_step hbZ hb); clear BK101 HB; rename_i BK101 HB; (try clear hb)))
   go_ret2
   exact ⟨_, z674d, by exact Kd.V_nil _ _ _ _ _, zcb41⟩

end Go.Proofs.YteogadaloebdaaaDoor.P

-- written by a program of this session's (wip/pp)
namespace Go.Proofs.YteogadaloebdaaaDoor.P
open Go.RowKit Go.Proofs.YteogadaloebdaaaDoorW.PrintWords Go.Proofs.YteogadaloebdaaaDoorW.PrintLast Go.Proofs.YteogadaloebdaaaDoorW.PrintMore
attribute [local go_sem] max2_int min2_int max_two min_two max_three min_three max_four min_four str_geq str_gtr str_leq   -- for this text's walks alone
set_option linter.unusedVariables false
set_option linter.unusedSimpArgs false

/-! ### spec_l1In: function 34 -/
def spec_l1In.f (a0 : Int) (a1 : Int) (a2 : Int) : Option (Bool) := if a0 ≥ a1 then (some (decide (a0 ≤ a2))) else (some false)
set_option maxHeartbeats 8000000 in
set_option maxRecDepth 100000 in
theorem spec_l1In.calls (a0 : Int) (a1 : Int) (a2 : Int) (r : Bool) (w : World) (h : spec_l1In.f a0 a1 a2 = some r) :
 Calls Tryd.prog 34 #[.int .i64 a0, .int .i64 a1, .int .i64 a2] w fun e w' => e = .returned (.bool r) ∧ Drawn0 w w' := by
 have H : (if a0 ≥ a1 then (some (decide (a0 ≤ a2))) else (some false)) = some r := h
 clear h
 by_cases c4 : a0 ≥ a1
 · rw [if_pos c4] at H
   have c4b0 : decide (a1 ≤ a0) = true := decide_eq_true c4
   clear c4
   obtain rfl := Option.some.inj H
   go_enter Tryd.func34, Tryd.ntmps34
   go_wp2
   go_ret
   exact ⟨z4458, za9de⟩
 · rw [if_neg c4] at H
   have c4b0 : decide (a1 ≤ a0) = false := decide_eq_false c4
   clear c4
   obtain rfl := Option.some.inj H
   go_enter Tryd.func34, Tryd.ntmps34
   go_wp2
   go_ret
   exact ⟨z4458, za9de⟩

end Go.Proofs.YteogadaloebdaaaDoor.P

-- written by a program of this session's (wip/pp)
namespace Go.Proofs.YteogadaloebdaaaDoor.P
open Go.RowKit Go.Proofs.YteogadaloebdaaaDoorW.PrintWords Go.Proofs.YteogadaloebdaaaDoorW.PrintLast Go.Proofs.YteogadaloebdaaaDoorW.PrintMore
attribute [local go_sem] max2_int min2_int max_two min_two max_three min_three max_four min_four str_geq str_gtr str_leq   -- for this text's walks alone
set_option linter.unusedVariables false
set_option linter.unusedSimpArgs false

/-! ### spec_l1Name: function 33 -/
def spec_l1Name.l0 : Nat → ByteArray → Int → Option (Bool)
 | 0, _, _ => none
 | k + 1, x0, x3 => if x3 < (x0.size : Int) then (if 0 ≤ x3 then (if (bt x0 x3) ≥ 97 then (if (bt x0 x3) ≤ 122 then (spec_l1Name.l0 k x0 (wrap64 (x3 + 1))) else (if (bt x0 x3) ≥ 65 then (if ((bt x0 x3) ≤ 90) then (spec_l1Name.l0 k x0 (wrap64 (x3 + 1))) else (some false)) else (some false))) else (if (bt x0 x3) ≥ 65 then (if ((bt x0 x3) ≤ 90) then (spec_l1Name.l0 k x0 (wrap64 (x3 + 1))) else (some false)) else (some false))) else (none)) else (some true)
def spec_l1Name.f (k : Nat) (a0 : ByteArray) : Option (Bool) := (spec_l1In.f (a0.size : Int) 1 12).bind fun t101 => (if t101 = true then (spec_l1Name.l0 k a0 0) else (some false))
theorem spec_l1Name.mono_l : ∀ k, (∀ y0 y1, LeO (spec_l1Name.l0 k y0 y1) (spec_l1Name.l0 (k + 1) y0 y1))
 | 0 => fun _ _ r h => by simp [spec_l1Name.l0] at h
 | k + 1 => by
  have ih0 := spec_l1Name.mono_l k
  · intro y0 y1
    unfold spec_l1Name.l0
    repeat' first
     | (with_reducible first | exact ih0 .. | exact LeO.refl _ | exact LeO.none _ | refine LeO.ite ?_ ?_ | refine LeO.bind ?_ (fun _ => ?_))
     | exact LeO.none _
     | refine LeO.ite ?_ ?_
     | refine LeO.bind ?_ (fun _ => ?_)
theorem spec_l1Name.mono : ∀ a0 k, LeO (spec_l1Name.f k a0) (spec_l1Name.f (k + 1) a0) := by
 intro a0 k
 have ih0 := spec_l1Name.mono_l k
 unfold spec_l1Name.f
 repeat' first
  | (with_reducible first | exact ih0 .. | exact LeO.refl _ | exact LeO.none _ | refine LeO.ite ?_ ?_ | refine LeO.bind ?_ (fun _ => ?_))
  | exact LeO.none _
  | refine LeO.ite ?_ ?_
  | refine LeO.bind ?_ (fun _ => ?_)
set_option maxHeartbeats 8000000 in
set_option maxRecDepth 100000 in
theorem spec_l1Name.calls (k : Nat) (a0 : ByteArray) (r : Bool) (w : World) (h : spec_l1Name.f k a0 = some r) :
 Calls Tryd.prog 33 #[.string a0] w fun e w' => e = .returned (.bool r) ∧ Drawn0 w w' := by
 have H : ((spec_l1In.f (a0.size : Int) 1 12).bind fun t101 => (if t101 = true then (spec_l1Name.l0 k a0 0) else (some false))) = some r := h
 clear h
 replace H := Option.bind_eq_some_iff.mp H
 obtain ⟨t101, A20, H⟩ := H
 try dsimp only at H
 have A2 := aM A20
 clear A20
 by_cases c3 : t101 = true
 · subst c3
   have H1 : (spec_l1Name.l0 k a0 0) = some r := by rw [if_pos rfl] at H; exact H
   clear H
   have H := H1
   clear H1
   have H' := aM H
   clear H
   go_enter Tryd.func33, Tryd.ntmps33
   go_wp2_with (first | ((with_reducible refine gate_callee (f := 34) rfl ?_); refine goesL_ (some 7) rfl rfl Tryd.func34 (by kernel_rfl) rfl #[.int .i64 (a0.size : Int), .int .i64 1, .int .i64 12] rfl zee81 ?_; (with_reducible refine (spec_l1In.calls (a0.size : Int) 1 12 true _ A2.out).mono ?_); rintro e w' ⟨rfl, ⟨nd, rfl⟩⟩; refine ⟨_, rfl, ?_⟩))
   go_loopg [3] k (fun kq v3 w' => ∃ (x3_1 : Int), v3 = .int .i64 x3_1 ∧ Aside0 (spec_l1Name.l0 kq a0 x3_1 = some r) ∧ Aside0 (kq ≤ k) ∧ Drawn0 w w')
   case atStart => exact ⟨(0), z4458, H', ⟨Nat.le_refl _⟩, za9de⟩
   case round =>
    clear H'
    try clear p2
    try clear c3
    obtain ⟨x3_1, rfl, HA, HK1, ⟨m1, rfl⟩⟩ := hrel
    cases gk with
    | zero => exact absurd HA.out (by simp [spec_l1Name.l0])
    | succ k1 =>
     have H := HA.out
     clear HA
     simp only [spec_l1Name.l0] at H
     by_cases c4 : x3_1 < (a0.size : Int)
     · rw [if_pos c4] at H
       have c4b0 : decide (x3_1 < (a0.size : Int)) = true := decide_eq_true c4
       clear c4
       by_cases c5 : 0 ≤ x3_1
       · rw [if_pos c5] at H
         have c5b0 : decide (0 ≤ x3_1) = true := decide_eq_true c5
         clear c5
         by_cases c7 : (bt a0 x3_1) ≥ 97
         · rw [if_pos c7] at H
           have c7b0 : decide (97 ≤ (bt a0 x3_1)) = true := decide_eq_true c7
           clear c7
           by_cases c8 : (bt a0 x3_1) ≤ 122
           · rw [if_pos c8] at H
             have c8b0 : decide ((bt a0 x3_1) ≤ 122) = true := decide_eq_true c8
             clear c8
             have H' := aM H
             clear H
             have p6 : 0 ≤ (x3_1 : Int) := of_decide_eq_true z1200
             have q6 : x3_1 < (a0.size : Int) := of_decide_eq_true z1200
             have hx6 := bt_at a0 x3_1
             replace p6 := eq_true p6
             replace q6 := eq_true q6
             go_wp2
             go_roundg k1
             case measure => have := HK1.out; omega
             case rel => exact ⟨(wrap64 (x3_1 + 1)), z4458, H', ⟨zfb39⟩, za9de⟩
           · rw [if_neg c8] at H
             have c8b0 : decide ((bt a0 x3_1) ≤ 122) = false := decide_eq_false c8
             clear c8
             by_cases c9 : (bt a0 x3_1) ≥ 65
             · rw [if_pos c9] at H
               have c9b0 : decide (65 ≤ (bt a0 x3_1)) = true := decide_eq_true c9
               clear c9
               by_cases c10 : ((bt a0 x3_1) ≤ 90)
               · rw [if_pos c10] at H
                 have c10b0 : decide ((bt a0 x3_1) ≤ 90) = true := decide_eq_true c10
                 clear c10
                 have H' := aM H
                 clear H
                 have p6 : 0 ≤ (x3_1 : Int) := of_decide_eq_true z1200
                 have q6 : x3_1 < (a0.size : Int) := of_decide_eq_true z1200
                 have hx6 := bt_at a0 x3_1
                 replace p6 := eq_true p6
                 replace q6 := eq_true q6
                 go_wp2
                 go_roundg k1
                 case measure => have := HK1.out; omega
                 case rel => exact ⟨(wrap64 (x3_1 + 1)), z4458, H', ⟨zfb39⟩, za9de⟩
               · rw [if_neg c10] at H
                 have c10b0 : decide ((bt a0 x3_1) ≤ 90) = false := decide_eq_false c10
                 clear c10
                 obtain rfl := Option.some.inj H
                 have p6 : 0 ≤ (x3_1 : Int) := of_decide_eq_true z1200
                 have q6 : x3_1 < (a0.size : Int) := of_decide_eq_true z1200
                 have hx6 := bt_at a0 x3_1
                 replace p6 := eq_true p6
                 replace q6 := eq_true q6
                 go_wp2
                 go_ret
                 exact ⟨z4458, za9de⟩
             · rw [if_neg c9] at H
               have c9b0 : decide (65 ≤ (bt a0 x3_1)) = false := decide_eq_false c9
               clear c9
               obtain rfl := Option.some.inj H
               have p6 : 0 ≤ (x3_1 : Int) := of_decide_eq_true z1200
               have q6 : x3_1 < (a0.size : Int) := of_decide_eq_true z1200
               have hx6 := bt_at a0 x3_1
               replace p6 := eq_true p6
               replace q6 := eq_true q6
               go_wp2
               go_ret
               exact ⟨z4458, za9de⟩
         · rw [if_neg c7] at H
           have c7b0 : decide (97 ≤ (bt a0 x3_1)) = false := decide_eq_false c7
           clear c7
           by_cases c11 : (bt a0 x3_1) ≥ 65
           · rw [if_pos c11] at H
             have c11b0 : decide (65 ≤ (bt a0 x3_1)) = true := decide_eq_true c11
             clear c11
             by_cases c12 : ((bt a0 x3_1) ≤ 90)
             · rw [if_pos c12] at H
               have c12b0 : decide ((bt a0 x3_1) ≤ 90) = true := decide_eq_true c12
               clear c12
               have H' := aM H
               clear H
               have p6 : 0 ≤ (x3_1 : Int) := of_decide_eq_true z1200
               have q6 : x3_1 < (a0.size : Int) := of_decide_eq_true z1200
               have hx6 := bt_at a0 x3_1
               replace p6 := eq_true p6
               replace q6 := eq_true q6
               go_wp2
               go_roundg k1
               case measure => have := HK1.out; omega
               case rel => exact ⟨(wrap64 (x3_1 + 1)), z4458, H', ⟨zfb39⟩, za9de⟩
             · rw [if_neg c12] at H
               have c12b0 : decide ((bt a0 x3_1) ≤ 90) = false := decide_eq_false c12
               clear c12
               obtain rfl := Option.some.inj H
               have p6 : 0 ≤ (x3_1 : Int) := of_decide_eq_true z1200
               have q6 : x3_1 < (a0.size : Int) := of_decide_eq_true z1200
               have hx6 := bt_at a0 x3_1
               replace p6 := eq_true p6
               replace q6 := eq_true q6
               go_wp2
               go_ret
               exact ⟨z4458, za9de⟩
           · rw [if_neg c11] at H
             have c11b0 : decide (65 ≤ (bt a0 x3_1)) = false := decide_eq_false c11
             clear c11
             obtain rfl := Option.some.inj H
             have p6 : 0 ≤ (x3_1 : Int) := of_decide_eq_true z1200
             have q6 : x3_1 < (a0.size : Int) := of_decide_eq_true z1200
             have hx6 := bt_at a0 x3_1
             replace p6 := eq_true p6
             replace q6 := eq_true q6
             go_wp2
             go_ret
             exact ⟨z4458, za9de⟩
       · rw [if_neg c5] at H
         exact absurd H (by simp)
     · rw [if_neg c4] at H
       have c4b0 : decide (x3_1 < (a0.size : Int)) = false := decide_eq_false c4
       clear c4
       obtain rfl := Option.some.inj H
       go_wp2
       go_ret
       exact ⟨z4458, za9de⟩
 · replace c3 := Bool.eq_false_iff.mpr c3
   subst c3
   have H1 : (some false) = some r := by rw [if_neg (show ¬ (false = true) by decide)] at H; exact H
   clear H
   have H := H1
   clear H1
   obtain rfl := Option.some.inj H
   go_enter Tryd.func33, Tryd.ntmps33
   go_wp2_with (first | ((with_reducible refine gate_callee (f := 34) rfl ?_); refine goesL_ (some 7) rfl rfl Tryd.func34 (by kernel_rfl) rfl #[.int .i64 (a0.size : Int), .int .i64 1, .int .i64 12] rfl zee81 ?_; (with_reducible refine (spec_l1In.calls (a0.size : Int) 1 12 false _ A2.out).mono ?_); rintro e w' ⟨rfl, ⟨nd, rfl⟩⟩; refine ⟨_, rfl, ?_⟩))
   go_ret
   exact ⟨z4458, za9de⟩

end Go.Proofs.YteogadaloebdaaaDoor.P

-- written by a program of this session's (wip/pp)
namespace Go.Proofs.YteogadaloebdaaaDoor.P
open Go.RowKit Go.Proofs.YteogadaloebdaaaDoorW.PrintWords Go.Proofs.YteogadaloebdaaaDoorW.PrintLast Go.Proofs.YteogadaloebdaaaDoorW.PrintMore
attribute [local go_sem] max2_int min2_int max_two min_two max_three min_three max_four min_four str_geq str_gtr str_leq   -- for this text's walks alone
set_option linter.unusedVariables false
set_option linter.unusedSimpArgs false

/-! ### spec_GoodKey: function 10 -/
mutual
def spec_GoodKey.j0 : Nat → Bool → ByteArray → List (S69) → Int → Option (Bool)
 | 0, _, _, _, _ => none
 | k + 1, x20, x102000, x102001, x102002 => if x20 = true then (some false) else (spec_GoodKey.l0 k x102001 (x102001.length : Int) 0 x102000 x102001 x102002)
def spec_GoodKey.l0 : Nat → List (S69) → Int → Int → ByteArray → List (S69) → Int → Option (Bool)
 | 0, _, _, _, _, _, _ => none
 | k + 1, x22, x23, x24, x102000, x102001, x102002 => if x24 < x23 then (if 0 ≤ x24 then (if x24 < (x22.length : Int) then ((spec_l1Name.f k ((rd_T69 x22 x24).f0)).bind fun t106 => (if t106 = true then ((spec_l1Name.f k ((rd_T69 x22 x24).f1)).bind fun t107 => (if t107 = true then (if x24 > 0 then (if 0 ≤ (wrap64 (x24 - 1)) then (if (wrap64 (x24 - 1)) < (x102001.length : Int) then (if ((Op.bytesLess (((rd_T69 x102001 (wrap64 (x24 - 1))).f0).toList) (((rd_T69 x22 x24).f0).toList)) = true) then (spec_GoodKey.l0 k x22 x23 (wrap64 (x24 + 1)) x102000 x102001 x102002) else (some false)) else (none)) else (none)) else (spec_GoodKey.l0 k x22 x23 (wrap64 (x24 + 1)) x102000 x102001 x102002)) else (some false))) else (some false))) else (none)) else (none)) else (some true)
end
def spec_GoodKey.f (k : Nat) (a0_0 : ByteArray) (l0_1 : List (S69)) (a0_2 : Int) : Option (Bool) := (spec_l1Name.f k a0_0).bind fun t102 => (if t102 = true then (if (l0_1.length : Int) > 4 then (spec_GoodKey.j0 k true a0_0 l0_1 a0_2) else ((spec_l1In.f a0_2 0 1000000000).bind fun t103 => (spec_GoodKey.j0 k (!t103) a0_0 l0_1 a0_2))) else (spec_GoodKey.j0 k true a0_0 l0_1 a0_2))
theorem spec_GoodKey.mono_l : ∀ k, (∀ y0 y1 y2 y3, LeO (spec_GoodKey.j0 k y0 y1 y2 y3) (spec_GoodKey.j0 (k + 1) y0 y1 y2 y3)) ∧ (∀ y0 y1 y2 y3 y4 y5, LeO (spec_GoodKey.l0 k y0 y1 y2 y3 y4 y5) (spec_GoodKey.l0 (k + 1) y0 y1 y2 y3 y4 y5))
 | 0 => ⟨fun _ _ _ _ r h => by simp [spec_GoodKey.j0] at h, fun _ _ _ _ _ _ r h => by simp [spec_GoodKey.l0] at h⟩
 | k + 1 => by
  obtain ⟨ih0, ih1⟩ := spec_GoodKey.mono_l k
  refine ⟨?_, ?_⟩
  · intro y0 y1 y2 y3
    unfold spec_GoodKey.j0
    repeat' first
     | (with_reducible first | exact ih0 .. | exact ih1 .. | exact spec_l1Name.mono .. | exact LeO.refl _ | exact LeO.none _ | refine LeO.ite ?_ ?_ | refine LeO.bind ?_ (fun _ => ?_))
     | exact LeO.none _
     | refine LeO.ite ?_ ?_
     | refine LeO.bind ?_ (fun _ => ?_)
  · intro y0 y1 y2 y3 y4 y5
    unfold spec_GoodKey.l0
    repeat' first
     | (with_reducible first | exact ih0 .. | exact ih1 .. | exact spec_l1Name.mono .. | exact LeO.refl _ | exact LeO.none _ | refine LeO.ite ?_ ?_ | refine LeO.bind ?_ (fun _ => ?_))
     | exact LeO.none _
     | refine LeO.ite ?_ ?_
     | refine LeO.bind ?_ (fun _ => ?_)
theorem spec_GoodKey.mono : ∀ a0 a1 a2 k, LeO (spec_GoodKey.f k a0 a1 a2) (spec_GoodKey.f (k + 1) a0 a1 a2) := by
 intro a0 a1 a2 k
 obtain ⟨ih0, ih1⟩ := spec_GoodKey.mono_l k
 unfold spec_GoodKey.f
 repeat' first
  | (with_reducible first | exact ih0 .. | exact ih1 .. | exact spec_l1Name.mono .. | exact LeO.refl _ | exact LeO.none _ | refine LeO.ite ?_ ?_ | refine LeO.bind ?_ (fun _ => ?_))
  | exact LeO.none _
  | refine LeO.ite ?_ ?_
  | refine LeO.bind ?_ (fun _ => ?_)
set_option maxHeartbeats 8000000 in
set_option maxRecDepth 100000 in
theorem spec_GoodKey.calls (k : Nat) (a0_0 : ByteArray) (A0_1 : Option Addr) (c0_1 : Nat) (l0_1 : List (S69)) (a0_2 : Int) (r : Bool) (w : World) (hr0_1 : Kd.C k69 w A0_1 l0_1.length l0_1) (hc0_1 : l0_1.length ≤ c0_1) (h : spec_GoodKey.f k a0_0 l0_1 a0_2 = some r) :
 Calls Tryd.prog 10 #[.agg #[.string a0_0, .slice A0_1 l0_1.length c0_1, .int .i64 a0_2]] w fun e w' => e = .returned (.bool r) ∧ Below w.heap.size w w' := by
 have hu25 := Tryd.underlying25
 have hu69 := Tryd.underlying69
 have HR0_1 := aM hr0_1
 have HC0_1 := aM hc0_1
 clear hr0_1 hc0_1
 have HB := aM (Below.refl w.heap.size w)
 have H : ((spec_l1Name.f k a0_0).bind fun t102 => (if t102 = true then (if (l0_1.length : Int) > 4 then (spec_GoodKey.j0 k true a0_0 l0_1 a0_2) else ((spec_l1In.f a0_2 0 1000000000).bind fun t103 => (spec_GoodKey.j0 k (!t103) a0_0 l0_1 a0_2))) else (spec_GoodKey.j0 k true a0_0 l0_1 a0_2))) = some r := h
 clear h
 have HC2 := aM H
 clear H
 go_enter Tryd.func10, Tryd.ntmps10
 go_upto_region 1 with (first | ((with_reducible refine gate_dst (N := 1) rfl ?_); (try (refine gate_guard (by rfl) ?_; dsimp only)); refine box_event ?hg (N := 1) ?hd (cs := #[.string a0_0, .slice A0_1 l0_1.length c0_1, .int .i64 a0_2]) (t := 25) ?hr ?_; (case hd => rfl); (case hg => rfl); (case hr => first | (go_simp; done) | (go_simp; rfl)); intro gb101 hg w3 hbox hb; have _ := aM (below_step hbZ hb); have _ := aM hbox; have _ := szZ hg; have _ := szZ hg; clear HB; rename_i HB BK101 GW101 GE101; clear hb hbox hg))
 repeat (go_quiet (first | ((with_reducible refine gate_dst (N := 1) rfl ?_); (try (refine gate_guard (by rfl) ?_; dsimp only)); refine box_event ?hg (N := 1) ?hd (cs := #[.string a0_0, .slice A0_1 l0_1.length c0_1, .int .i64 a0_2]) (t := 25) ?hr ?_; (case hd => rfl); (case hg => rfl); (case hr => first | (go_simp; done) | (go_simp; rfl)); intro gb101 hg w3 hbox hb; have _ := aM (below_step hbZ hb); have _ := aM hbox; have _ := szZ hg; have _ := szZ hg; clear HB; rename_i HB BK101 GW101 GE101; clear hb hbox hg)); go_upto_region 1 with (first | ((with_reducible refine gate_dst (N := 1) rfl ?_); (try (refine gate_guard (by rfl) ?_; dsimp only)); refine box_event ?hg (N := 1) ?hd (cs := #[.string a0_0, .slice A0_1 l0_1.length c0_1, .int .i64 a0_2]) (t := 25) ?hr ?_; (case hd => rfl); (case hg => rfl); (case hr => first | (go_simp; done) | (go_simp; rfl)); intro gb101 hg w3 hbox hb; have _ := aM (below_step hbZ hb); have _ := aM hbox; have _ := szZ hg; have _ := szZ hg; clear HB; rename_i HB BK101 GW101 GE101; clear hb hbox hg)))
 (try simp only [Act.put, List.setIfInBounds_toArray, List.set_cons_zero, List.set_cons_succ])
 go_cut [20] (fun v20 wc => ∃ (kq : Nat) (x20_1 : Bool), v20 = .bool x20_1 ∧ Aside0 (spec_GoodKey.j0 kq x20_1 a0_0 l0_1 a0_2 = some r) ∧ Aside0 (kq ≤ k) ∧ Aside0 (wc.heap[gb101]? = some (.cells #[.string a0_0, (.slice A0_1 l0_1.length c0_1), .int .i64 a0_2] 25 (0, 0))) ∧ Aside0 (Below w.heap.size w wc))
 case first =>
  have H := HC2.out
  clear HC2
  replace H := Option.bind_eq_some_iff.mp H
  obtain ⟨t102, A40, H⟩ := H
  try dsimp only at H
  have A4 := aM A40
  clear A40
  by_cases c5 : t102 = true
  · subst c5
    have H1 : (if (l0_1.length : Int) > 4 then (spec_GoodKey.j0 k true a0_0 l0_1 a0_2) else ((spec_l1In.f a0_2 0 1000000000).bind fun t103 => (spec_GoodKey.j0 k (!t103) a0_0 l0_1 a0_2))) = some r := by rw [if_pos rfl] at H; exact H
    clear H
    have H := H1
    clear H1
    by_cases c6 : (l0_1.length : Int) > 4
    · rw [if_pos c6] at H
      have c6b0 : decide (4 < (l0_1.length : Int)) = true := decide_eq_true c6
      have c6b1 : decide (4 < l0_1.length) = true := decide_eq_true (by omega)
      clear c6
      (first | rw [c6b0] | (simp only [i64_w, i32_w]; rw [c6b0]) | skip)
      have H' := aM H
      clear H
      obtain ⟨hcz7_0, hcz7_1, hcz7_2, hfz7_0, hfz7_1, hfz7_2⟩ := cellsZ3 BK101.out
      go_wp2_with (first | (go_at_call 33; (with_reducible refine (spec_l1Name.calls k a0_0 true _ A4.out).mono ?_); rintro e w' ⟨rfl, ⟨nd, rfl⟩⟩; (try first | exact ⟨rfl, _, World.drewN_drewN _ _ _⟩ | exact ⟨rfl, _, Eq.trans (World.drewN_drewN _ _ _) (congrArg (World.drewN _) (Nat.add_assoc _ _ _))⟩)))
      repeat (go_quiet (first | (go_at_call 33; (with_reducible refine (spec_l1Name.calls k a0_0 true _ A4.out).mono ?_); rintro e w' ⟨rfl, ⟨nd, rfl⟩⟩; (try first | exact ⟨rfl, _, World.drewN_drewN _ _ _⟩ | exact ⟨rfl, _, Eq.trans (World.drewN_drewN _ _ _) (congrArg (World.drewN _) (Nat.add_assoc _ _ _))⟩))); try go_wp2_with (first | (go_at_call 33; (with_reducible refine (spec_l1Name.calls k a0_0 true _ A4.out).mono ?_); rintro e w' ⟨rfl, ⟨nd, rfl⟩⟩; (try first | exact ⟨rfl, _, World.drewN_drewN _ _ _⟩ | exact ⟨rfl, _, Eq.trans (World.drewN_drewN _ _ _) (congrArg (World.drewN _) (Nat.add_assoc _ _ _))⟩))))
      go_meet
      case rel => exact ⟨_, (true), z4458, H', ⟨zb79b⟩, ⟨bkZ⟩, ⟨zcb41⟩⟩
    · rw [if_neg c6] at H
      have c6b0 : decide (4 < (l0_1.length : Int)) = false := decide_eq_false c6
      have c6b1 : decide (4 < l0_1.length) = false := decide_eq_false (by omega)
      clear c6
      (first | rw [c6b0] | (simp only [i64_w, i32_w]; rw [c6b0]) | skip)
      replace H := Option.bind_eq_some_iff.mp H
      obtain ⟨t103, A80, H⟩ := H
      try dsimp only at H
      have A8 := aM A80
      clear A80
      have H' := aM H
      clear H
      obtain ⟨hcz9_0, hcz9_1, hcz9_2, hfz9_0, hfz9_1, hfz9_2⟩ := cellsZ3 BK101.out
      go_wp2_with (first | (go_at_call 33; (with_reducible refine (spec_l1Name.calls k a0_0 true _ A4.out).mono ?_); rintro e w' ⟨rfl, ⟨nd, rfl⟩⟩; (try first | exact ⟨rfl, _, World.drewN_drewN _ _ _⟩ | exact ⟨rfl, _, Eq.trans (World.drewN_drewN _ _ _) (congrArg (World.drewN _) (Nat.add_assoc _ _ _))⟩)) | (go_at_call 34; (with_reducible refine (spec_l1In.calls a0_2 0 1000000000 t103 _ A8.out).mono ?_); rintro e w' ⟨rfl, ⟨nd, rfl⟩⟩; (try first | exact ⟨rfl, _, World.drewN_drewN _ _ _⟩ | exact ⟨rfl, _, Eq.trans (World.drewN_drewN _ _ _) (congrArg (World.drewN _) (Nat.add_assoc _ _ _))⟩)))
      repeat (go_quiet (first | (go_at_call 33; (with_reducible refine (spec_l1Name.calls k a0_0 true _ A4.out).mono ?_); rintro e w' ⟨rfl, ⟨nd, rfl⟩⟩; (try first | exact ⟨rfl, _, World.drewN_drewN _ _ _⟩ | exact ⟨rfl, _, Eq.trans (World.drewN_drewN _ _ _) (congrArg (World.drewN _) (Nat.add_assoc _ _ _))⟩)) | (go_at_call 34; (with_reducible refine (spec_l1In.calls a0_2 0 1000000000 t103 _ A8.out).mono ?_); rintro e w' ⟨rfl, ⟨nd, rfl⟩⟩; (try first | exact ⟨rfl, _, World.drewN_drewN _ _ _⟩ | exact ⟨rfl, _, Eq.trans (World.drewN_drewN _ _ _) (congrArg (World.drewN _) (Nat.add_assoc _ _ _))⟩))); try go_wp2_with (first | (go_at_call 33; (with_reducible refine (spec_l1Name.calls k a0_0 true _ A4.out).mono ?_); rintro e w' ⟨rfl, ⟨nd, rfl⟩⟩; (try first | exact ⟨rfl, _, World.drewN_drewN _ _ _⟩ | exact ⟨rfl, _, Eq.trans (World.drewN_drewN _ _ _) (congrArg (World.drewN _) (Nat.add_assoc _ _ _))⟩)) | (go_at_call 34; (with_reducible refine (spec_l1In.calls a0_2 0 1000000000 t103 _ A8.out).mono ?_); rintro e w' ⟨rfl, ⟨nd, rfl⟩⟩; (try first | exact ⟨rfl, _, World.drewN_drewN _ _ _⟩ | exact ⟨rfl, _, Eq.trans (World.drewN_drewN _ _ _) (congrArg (World.drewN _) (Nat.add_assoc _ _ _))⟩))))
      go_meet
      case rel => exact ⟨_, (!t103), z4458, H', ⟨zb79b⟩, ⟨bkZ⟩, ⟨zcb41⟩⟩
  · replace c5 := Bool.eq_false_iff.mpr c5
    subst c5
    have H1 : (spec_GoodKey.j0 k true a0_0 l0_1 a0_2) = some r := by rw [if_neg (show ¬ (false = true) by decide)] at H; exact H
    clear H
    have H := H1
    clear H1
    have H' := aM H
    clear H
    obtain ⟨hcz10_0, hcz10_1, hcz10_2, hfz10_0, hfz10_1, hfz10_2⟩ := cellsZ3 BK101.out
    go_wp2_with (first | (go_at_call 33; (with_reducible refine (spec_l1Name.calls k a0_0 false _ A4.out).mono ?_); rintro e w' ⟨rfl, ⟨nd, rfl⟩⟩; (try first | exact ⟨rfl, _, World.drewN_drewN _ _ _⟩ | exact ⟨rfl, _, Eq.trans (World.drewN_drewN _ _ _) (congrArg (World.drewN _) (Nat.add_assoc _ _ _))⟩)))
    repeat (go_quiet (first | (go_at_call 33; (with_reducible refine (spec_l1Name.calls k a0_0 false _ A4.out).mono ?_); rintro e w' ⟨rfl, ⟨nd, rfl⟩⟩; (try first | exact ⟨rfl, _, World.drewN_drewN _ _ _⟩ | exact ⟨rfl, _, Eq.trans (World.drewN_drewN _ _ _) (congrArg (World.drewN _) (Nat.add_assoc _ _ _))⟩))); try go_wp2_with (first | (go_at_call 33; (with_reducible refine (spec_l1Name.calls k a0_0 false _ A4.out).mono ?_); rintro e w' ⟨rfl, ⟨nd, rfl⟩⟩; (try first | exact ⟨rfl, _, World.drewN_drewN _ _ _⟩ | exact ⟨rfl, _, Eq.trans (World.drewN_drewN _ _ _) (congrArg (World.drewN _) (Nat.add_assoc _ _ _))⟩))))
    go_meet
    case rel => exact ⟨_, (true), z4458, H', ⟨zb79b⟩, ⟨bkZ⟩, ⟨zcb41⟩⟩
 case rest =>
  clear HC2
  try clear c1
  try clear p2
  try clear c5
  try clear c6
  try clear c6b0
  try clear c6b1
  try clear c10
  try clear hcz10_0 hcz10_1 hcz10_2
  try clear hcz7_0 hcz7_1 hcz7_2
  try clear hcz9_0 hcz9_1 hcz9_2
  try clear hfz10_0 hfz10_1 hfz10_2
  try clear hfz7_0 hfz7_1 hfz7_2
  try clear hfz9_0 hfz9_1 hfz9_2
  obtain ⟨kq, x20_1, rfl, HA, HJ1, BK101, HB⟩ := hcut
  cases kq with
  | zero => exact absurd HA.out (by simp [spec_GoodKey.j0])
  | succ kj1 =>
   have H := HA.out
   clear HA
   simp only [spec_GoodKey.j0] at H
   by_cases c11 : x20_1 = true
   · subst c11
     have H1 : (some false) = some r := by rw [if_pos rfl] at H; exact H
     clear H
     have H := H1
     clear H1
     obtain rfl := Option.some.inj H
     go_wp2
     repeat (go_quiet (fail); try go_wp2)
     go_ret
     exact ⟨z674d, zcb41⟩
   · replace c11 := Bool.eq_false_iff.mpr c11
     subst c11
     have H1 : (spec_GoodKey.l0 kj1 l0_1 (l0_1.length : Int) 0 a0_0 l0_1 a0_2) = some r := by rw [if_neg (show ¬ (false = true) by decide)] at H; exact H
     clear H
     have H := H1
     clear H1
     have H' := aM H
     clear H
     obtain ⟨hcz12_0, hcz12_1, hcz12_2, hfz12_0, hfz12_1, hfz12_2⟩ := cellsZ3 BK101.out
     go_wp2
     repeat (go_quiet (fail); try go_wp2)
     go_loopg [24] kj1 (fun kq v24 w' => ∃ (x24_2 : Int), v24 = .int .i64 x24_2 ∧ Aside0 (spec_GoodKey.l0 kq l0_1 (l0_1.length : Int) x24_2 a0_0 l0_1 a0_2 = some r) ∧ Aside0 (kq ≤ kj1) ∧ Aside0 (w'.heap[gb101]? = some (.cells #[.string a0_0, (.slice A0_1 l0_1.length c0_1), .int .i64 a0_2] 25 (0, 0))) ∧ Aside0 (Below w.heap.size w w'))
     case atStart => exact ⟨(0), z4458, H', ⟨Nat.le_refl _⟩, ⟨bkZ⟩, ⟨zcb41⟩⟩
     case round =>
      clear H'
      try clear c1
      try clear p2
      try clear c5
      try clear c6
      try clear c6b0
      try clear c6b1
      try clear c10
      try clear c11
      try clear hcz10_0 hcz10_1 hcz10_2
      try clear hcz12_0 hcz12_1 hcz12_2
      try clear hcz7_0 hcz7_1 hcz7_2
      try clear hcz9_0 hcz9_1 hcz9_2
      try clear hfz10_0 hfz10_1 hfz10_2
      try clear hfz12_0 hfz12_1 hfz12_2
      try clear hfz7_0 hfz7_1 hfz7_2
      try clear hfz9_0 hfz9_1 hfz9_2
      try clear p2
      obtain ⟨x24_2, rfl, HA, HK2, BK101, HB⟩ := hrel
      cases gk with
      | zero => exact absurd HA.out (by simp [spec_GoodKey.l0])
      | succ k2 =>
       have H := HA.out
       clear HA
       simp only [spec_GoodKey.l0] at H
       by_cases c13 : x24_2 < (l0_1.length : Int)
       · rw [if_pos c13] at H
         have c13b0 : decide (x24_2 < (l0_1.length : Int)) = true := decide_eq_true c13
         clear c13
         by_cases c14 : 0 ≤ x24_2
         · rw [if_pos c14] at H
           have c14b0 : decide (0 ≤ x24_2) = true := decide_eq_true c14
           clear c14
           by_cases c15 : x24_2 < (l0_1.length : Int)
           · rw [if_pos c15] at H
             have c15b0 : decide (x24_2 < (l0_1.length : Int)) = true := decide_eq_true c15
             clear c15
             replace H := Option.bind_eq_some_iff.mp H
             obtain ⟨t106, A160, H⟩ := H
             try dsimp only at H
             have A16 := aM A160
             clear A160
             by_cases c17 : t106 = true
             · subst c17
               have H1 : ((spec_l1Name.f k2 ((rd_T69 l0_1 x24_2).f1)).bind fun t107 => (if t107 = true then (if x24_2 > 0 then (if 0 ≤ (wrap64 (x24_2 - 1)) then (if (wrap64 (x24_2 - 1)) < (l0_1.length : Int) then (if ((Op.bytesLess (((rd_T69 l0_1 (wrap64 (x24_2 - 1))).f0).toList) (((rd_T69 l0_1 x24_2).f0).toList)) = true) then (spec_GoodKey.l0 k2 l0_1 (l0_1.length : Int) (wrap64 (x24_2 + 1)) a0_0 l0_1 a0_2) else (some false)) else (none)) else (none)) else (spec_GoodKey.l0 k2 l0_1 (l0_1.length : Int) (wrap64 (x24_2 + 1)) a0_0 l0_1 a0_2)) else (some false))) = some r := by rw [if_pos rfl] at H; exact H
               clear H
               have H := H1
               clear H1
               replace H := Option.bind_eq_some_iff.mp H
               obtain ⟨t107, A180, H⟩ := H
               try dsimp only at H
               have A18 := aM A180
               clear A180
               by_cases c19 : t107 = true
               · subst c19
                 have H1 : (if x24_2 > 0 then (if 0 ≤ (wrap64 (x24_2 - 1)) then (if (wrap64 (x24_2 - 1)) < (l0_1.length : Int) then (if ((Op.bytesLess (((rd_T69 l0_1 (wrap64 (x24_2 - 1))).f0).toList) (((rd_T69 l0_1 x24_2).f0).toList)) = true) then (spec_GoodKey.l0 k2 l0_1 (l0_1.length : Int) (wrap64 (x24_2 + 1)) a0_0 l0_1 a0_2) else (some false)) else (none)) else (none)) else (spec_GoodKey.l0 k2 l0_1 (l0_1.length : Int) (wrap64 (x24_2 + 1)) a0_0 l0_1 a0_2)) = some r := by rw [if_pos rfl] at H; exact H
                 clear H
                 have H := H1
                 clear H1
                 by_cases c20 : x24_2 > 0
                 · rw [if_pos c20] at H
                   have c20b0 : decide (0 < x24_2) = true := decide_eq_true c20
                   clear c20
                   obtain ⟨ji21, hji21⟩ : ∃ j_ : Int, (wrap64 (x24_2 - 1)) = j_ := ⟨_, rfl⟩
                   replace H : (if 0 ≤ (ji21) then (if (ji21) < (l0_1.length : Int) then (if ((Op.bytesLess (((rd_T69 l0_1 (ji21)).f0).toList) (((rd_T69 l0_1 x24_2).f0).toList)) = true) then (spec_GoodKey.l0 k2 l0_1 (l0_1.length : Int) (wrap64 (x24_2 + 1)) a0_0 l0_1 a0_2) else (some false)) else (none)) else (none)) = some r := by first | (rw [hji21] at H; exact H) | (simp only [hji21] at H ⊢; exact H)
                   (try rw [hji21] at A16)
                   (try rw [hji21] at A18)
                   have hji21w : (IntKind.i64.wrap (x24_2 - 1)) = ji21 := (i64_w _).trans hji21
                   by_cases c22 : 0 ≤ (ji21)
                   · rw [if_pos c22] at H
                     have c22b0 : decide (0 ≤ (ji21)) = true := decide_eq_true c22
                     clear c22
                     by_cases c23 : (ji21) < (l0_1.length : Int)
                     · rw [if_pos c23] at H
                       have c23b0 : decide ((ji21) < (l0_1.length : Int)) = true := decide_eq_true c23
                       clear c23
                       by_cases c24 : ((Op.bytesLess (((rd_T69 l0_1 (ji21)).f0).toList) (((rd_T69 l0_1 x24_2).f0).toList)) = true)
                       · rw [if_pos c24] at H
                         have c24b0 : (Op.bytesLess (((rd_T69 l0_1 (ji21)).f0).toList) (((rd_T69 l0_1 x24_2).f0).toList)) = true := c24
                         clear c24
                         have H' := aM H
                         clear H
                         have p104 : 0 ≤ (x24_2 : Int) := of_decide_eq_true z1200
                         have q104 : x24_2 < (l0_1.length : Int) := of_decide_eq_true z1200
                         obtain ⟨ad104, e104, hx104_0, hx104_1⟩ := at_T69 HR0_1.out x24_2 p104 q104
                         cases e104
                         replace hx104_0 := (HB.out.cell (World.block_lt_of_cell? w _ hx104_0)).trans hx104_0
                         replace hx104_1 := (HB.out.cell (World.block_lt_of_cell? w _ hx104_1)).trans hx104_1
                         replace p104 := eq_true p104
                         replace q104 := eq_true q104
                         go_wp2_with (first | ((with_reducible refine gate_dst (N := 4) rfl ?_); (try (refine gate_guard (by rfl) ?_; dsimp only)); refine box_event ?hg (N := 4) ?hd (cs := #[.string (⟨#[]⟩ : ByteArray), .string (⟨#[]⟩ : ByteArray)]) (t := 69) ?hr ?_; (case hd => rfl); (case hg => rfl); (case hr => first | (go_simp; done) | (go_simp; rfl)); intro gb105 hg w25 hbox hb; have _ := bB gb101 hb; have _ := aM (below_step hbZ hb); have _ := aM hbox; have _ := szZ hg; have _ := szZ hg; have ⟨_, _⟩ := nbB gb101 hg; clear BK101 HB; rename_i BK101 HB BK105 GW105 GE105 NB101_105 NB105_101; clear hb hbox hg; have hnb26 := NB105_101.out; have hnc26 := NB101_105.out; obtain ⟨hcz27_0, hcz27_1, hfz27_0, hfz27_1⟩ := cellsZ2 BK105.out) | (go_at_call 33; (with_reducible refine (spec_l1Name.calls k2 ((rd_T69 l0_1 x24_2).f0) true _ A16.out).mono ?_); rintro e w' ⟨rfl, ⟨nd, rfl⟩⟩; (try first | exact ⟨rfl, _, World.drewN_drewN _ _ _⟩ | exact ⟨rfl, _, Eq.trans (World.drewN_drewN _ _ _) (congrArg (World.drewN _) (Nat.add_assoc _ _ _))⟩)) | (go_at_call 33; (with_reducible refine (spec_l1Name.calls k2 ((rd_T69 l0_1 x24_2).f1) true _ A18.out).mono ?_); rintro e w' ⟨rfl, ⟨nd, rfl⟩⟩; (try first | exact ⟨rfl, _, World.drewN_drewN _ _ _⟩ | exact ⟨rfl, _, Eq.trans (World.drewN_drewN _ _ _) (congrArg (World.drewN _) (Nat.add_assoc _ _ _))⟩); obtain ⟨hcz28_0, hcz28_1, hcz28_2, hfz28_0, hfz28_1, hfz28_2⟩ := cellsZ3 BK101.out; have p108 : 0 ≤ ((ji21) : Int) := of_decide_eq_true z1200; have q108 : (ji21) < (l0_1.length : Int) := of_decide_eq_true z1200; obtain ⟨ad108, e108, hx108_0, hx108_1⟩ := at_T69 HR0_1.out (ji21) p108 q108; obtain rfl : ad104 = ad108 := (by injection e108); have hn108_0 : ad104.block ≠ gb105 := Nat.ne_of_lt (Nat.lt_of_lt_of_le (by have := World.block_lt_of_cell? _ _ hx108_0; first | rwa [add_block] at this | exact this) GW105.out); have hn108_1 : ad104.block ≠ gb105 := Nat.ne_of_lt (Nat.lt_of_lt_of_le (by have := World.block_lt_of_cell? _ _ hx108_0; first | rwa [add_block] at this | exact this) GW105.out); replace hx108_0 := (HB.out.cell (World.block_lt_of_cell? w _ hx108_0)).trans hx108_0; replace hx108_1 := (HB.out.cell (World.block_lt_of_cell? w _ hx108_1)).trans hx108_1; replace hx108_0 := (cell_far (p := ⟨gb105, 0, none⟩) (by first | (rw [add_block]; exact hn108_0) | (show (Addr.add _ _).block ≠ _; rw [add_block]; exact hn108_0) | exact hn108_0) (.string ((rd_T69 l0_1 x24_2).f0))).trans hx108_0; replace hx108_1 := (cell_far (p := ⟨gb105, 0, none⟩) (by first | (rw [add_block]; exact hn108_0) | (show (Addr.add _ _).block ≠ _; rw [add_block]; exact hn108_0) | exact hn108_0) (.string ((rd_T69 l0_1 x24_2).f0))).trans hx108_1; replace hx108_0 := (cell_far (p := ⟨gb105, 1, none⟩) (by first | (rw [add_block]; exact hn108_1) | (show (Addr.add _ _).block ≠ _; rw [add_block]; exact hn108_1) | exact hn108_1) (.string ((rd_T69 l0_1 x24_2).f1))).trans hx108_0; replace hx108_1 := (cell_far (p := ⟨gb105, 1, none⟩) (by first | (rw [add_block]; exact hn108_1) | (show (Addr.add _ _).block ≠ _; rw [add_block]; exact hn108_1) | exact hn108_1) (.string ((rd_T69 l0_1 x24_2).f1))).trans hx108_1; (try have hy108_0 := fun (n_ : Nat) => (show ((((w25.drewN n_).setCell ⟨gb105, 0, none⟩ (.string ((rd_T69 l0_1 x24_2).f0))).setCell ⟨gb105, 1, none⟩ (.string ((rd_T69 l0_1 x24_2).f1)))).cell? _ = some _ from hx108_0)); (try have hy108_1 := fun (n_ : Nat) => (show ((((w25.drewN n_).setCell ⟨gb105, 0, none⟩ (.string ((rd_T69 l0_1 x24_2).f0))).setCell ⟨gb105, 1, none⟩ (.string ((rd_T69 l0_1 x24_2).f1)))).cell? _ = some _ from hx108_1)); clear hn108_0 hn108_1; replace p108 := eq_true p108; replace q108 := eq_true q108))
                         repeat (go_quiet (first | ((with_reducible refine gate_dst (N := 4) rfl ?_); (try (refine gate_guard (by rfl) ?_; dsimp only)); refine box_event ?hg (N := 4) ?hd (cs := #[.string (⟨#[]⟩ : ByteArray), .string (⟨#[]⟩ : ByteArray)]) (t := 69) ?hr ?_; (case hd => rfl); (case hg => rfl); (case hr => first | (go_simp; done) | (go_simp; rfl)); intro gb105 hg w25 hbox hb; have _ := bB gb101 hb; have _ := aM (below_step hbZ hb); have _ := aM hbox; have _ := szZ hg; have _ := szZ hg; have ⟨_, _⟩ := nbB gb101 hg; clear BK101 HB; rename_i BK101 HB BK105 GW105 GE105 NB101_105 NB105_101; clear hb hbox hg; have hnb26 := NB105_101.out; have hnc26 := NB101_105.out; obtain ⟨hcz27_0, hcz27_1, hfz27_0, hfz27_1⟩ := cellsZ2 BK105.out) | (go_at_call 33; (with_reducible refine (spec_l1Name.calls k2 ((rd_T69 l0_1 x24_2).f0) true _ A16.out).mono ?_); rintro e w' ⟨rfl, ⟨nd, rfl⟩⟩; (try first | exact ⟨rfl, _, World.drewN_drewN _ _ _⟩ | exact ⟨rfl, _, Eq.trans (World.drewN_drewN _ _ _) (congrArg (World.drewN _) (Nat.add_assoc _ _ _))⟩)) | (go_at_call 33; (with_reducible refine (spec_l1Name.calls k2 ((rd_T69 l0_1 x24_2).f1) true _ A18.out).mono ?_); rintro e w' ⟨rfl, ⟨nd, rfl⟩⟩; (try first | exact ⟨rfl, _, World.drewN_drewN _ _ _⟩ | exact ⟨rfl, _, Eq.trans (World.drewN_drewN _ _ _) (congrArg (World.drewN _) (Nat.add_assoc _ _ _))⟩); obtain ⟨hcz28_0, hcz28_1, hcz28_2, hfz28_0, hfz28_1, hfz28_2⟩ := cellsZ3 BK101.out; have p108 : 0 ≤ ((ji21) : Int) := of_decide_eq_true z1200; have q108 : (ji21) < (l0_1.length : Int) := of_decide_eq_true z1200; obtain ⟨ad108, e108, hx108_0, hx108_1⟩ := at_T69 HR0_1.out (ji21) p108 q108; obtain rfl : ad104 = ad108 := (by injection e108); have hn108_0 : ad104.block ≠ gb105 := Nat.ne_of_lt (Nat.lt_of_lt_of_le (by have := World.block_lt_of_cell? _ _ hx108_0; first | rwa [add_block] at this | exact this) GW105.out); have hn108_1 : ad104.block ≠ gb105 := Nat.ne_of_lt (Nat.lt_of_lt_of_le (by have := World.block_lt_of_cell? _ _ hx108_0; first | rwa [add_block] at this | exact this) GW105.out); replace hx108_0 := (HB.out.cell (World.block_lt_of_cell? w _ hx108_0)).trans hx108_0; replace hx108_1 := (HB.out.cell (World.block_lt_of_cell? w _ hx108_1)).trans hx108_1; replace hx108_0 := (cell_far (p := ⟨gb105, 0, none⟩) (by first | (rw [add_block]; exact hn108_0) | (show (Addr.add _ _).block ≠ _; rw [add_block]; exact hn108_0) | exact hn108_0) (.string ((rd_T69 l0_1 x24_2).f0))).trans hx108_0; replace hx108_1 := (cell_far (p := ⟨gb105, 0, none⟩) (by first | (rw [add_block]; exact hn108_0) | (show (Addr.add _ _).block ≠ _; rw [add_block]; exact hn108_0) | exact hn108_0) (.string ((rd_T69 l0_1 x24_2).f0))).trans hx108_1; replace hx108_0 := (cell_far (p := ⟨gb105, 1, none⟩) (by first | (rw [add_block]; exact hn108_1) | (show (Addr.add _ _).block ≠ _; rw [add_block]; exact hn108_1) | exact hn108_1) (.string ((rd_T69 l0_1 x24_2).f1))).trans hx108_0; replace hx108_1 := (cell_far (p := ⟨gb105, 1, none⟩) (by first | (rw [add_block]; exact hn108_1) | (show (Addr.add _ _).block ≠ _; rw [add_block]; exact hn108_1) | exact hn108_1) (.string ((rd_T69 l0_1 x24_2).f1))).trans hx108_1; (try have hy108_0 := fun (n_ : Nat) => (show ((((w25.drewN n_).setCell ⟨gb105, 0, none⟩ (.string ((rd_T69 l0_1 x24_2).f0))).setCell ⟨gb105, 1, none⟩ (.string ((rd_T69 l0_1 x24_2).f1)))).cell? _ = some _ from hx108_0)); (try have hy108_1 := fun (n_ : Nat) => (show ((((w25.drewN n_).setCell ⟨gb105, 0, none⟩ (.string ((rd_T69 l0_1 x24_2).f0))).setCell ⟨gb105, 1, none⟩ (.string ((rd_T69 l0_1 x24_2).f1)))).cell? _ = some _ from hx108_1)); clear hn108_0 hn108_1; replace p108 := eq_true p108; replace q108 := eq_true q108)); try go_wp2_with (first | ((with_reducible refine gate_dst (N := 4) rfl ?_); (try (refine gate_guard (by rfl) ?_; dsimp only)); refine box_event ?hg (N := 4) ?hd (cs := #[.string (⟨#[]⟩ : ByteArray), .string (⟨#[]⟩ : ByteArray)]) (t := 69) ?hr ?_; (case hd => rfl); (case hg => rfl); (case hr => first | (go_simp; done) | (go_simp; rfl)); intro gb105 hg w25 hbox hb; have _ := bB gb101 hb; have _ := aM (below_step hbZ hb); have _ := aM hbox; have _ := szZ hg; have _ := szZ hg; have ⟨_, _⟩ := nbB gb101 hg; clear BK101 HB; rename_i BK101 HB BK105 GW105 GE105 NB101_105 NB105_101; clear hb hbox hg; have hnb26 := NB105_101.out; have hnc26 := NB101_105.out; obtain ⟨hcz27_0, hcz27_1, hfz27_0, hfz27_1⟩ := cellsZ2 BK105.out) | (go_at_call 33; (with_reducible refine (spec_l1Name.calls k2 ((rd_T69 l0_1 x24_2).f0) true _ A16.out).mono ?_); rintro e w' ⟨rfl, ⟨nd, rfl⟩⟩; (try first | exact ⟨rfl, _, World.drewN_drewN _ _ _⟩ | exact ⟨rfl, _, Eq.trans (World.drewN_drewN _ _ _) (congrArg (World.drewN _) (Nat.add_assoc _ _ _))⟩)) | (go_at_call 33; (with_reducible refine (spec_l1Name.calls k2 ((rd_T69 l0_1 x24_2).f1) true _ A18.out).mono ?_); rintro e w' ⟨rfl, ⟨nd, rfl⟩⟩; (try first | exact ⟨rfl, _, World.drewN_drewN _ _ _⟩ | exact ⟨rfl, _, Eq.trans (World.drewN_drewN _ _ _) (congrArg (World.drewN _) (Nat.add_assoc _ _ _))⟩); obtain ⟨hcz28_0, hcz28_1, hcz28_2, hfz28_0, hfz28_1, hfz28_2⟩ := cellsZ3 BK101.out; have p108 : 0 ≤ ((ji21) : Int) := of_decide_eq_true z1200; have q108 : (ji21) < (l0_1.length : Int) := of_decide_eq_true z1200; obtain ⟨ad108, e108, hx108_0, hx108_1⟩ := at_T69 HR0_1.out (ji21) p108 q108; obtain rfl : ad104 = ad108 := (by injection e108); have hn108_0 : ad104.block ≠ gb105 := Nat.ne_of_lt (Nat.lt_of_lt_of_le (by have := World.block_lt_of_cell? _ _ hx108_0; first | rwa [add_block] at this | exact this) GW105.out); have hn108_1 : ad104.block ≠ gb105 := Nat.ne_of_lt (Nat.lt_of_lt_of_le (by have := World.block_lt_of_cell? _ _ hx108_0; first | rwa [add_block] at this | exact this) GW105.out); replace hx108_0 := (HB.out.cell (World.block_lt_of_cell? w _ hx108_0)).trans hx108_0; replace hx108_1 := (HB.out.cell (World.block_lt_of_cell? w _ hx108_1)).trans hx108_1; replace hx108_0 := (cell_far (p := ⟨gb105, 0, none⟩) (by first | (rw [add_block]; exact hn108_0) | (show (Addr.add _ _).block ≠ _; rw [add_block]; exact hn108_0) | exact hn108_0) (.string ((rd_T69 l0_1 x24_2).f0))).trans hx108_0; replace hx108_1 := (cell_far (p := ⟨gb105, 0, none⟩) (by first | (rw [add_block]; exact hn108_0) | (show (Addr.add _ _).block ≠ _; rw [add_block]; exact hn108_0) | exact hn108_0) (.string ((rd_T69 l0_1 x24_2).f0))).trans hx108_1; replace hx108_0 := (cell_far (p := ⟨gb105, 1, none⟩) (by first | (rw [add_block]; exact hn108_1) | (show (Addr.add _ _).block ≠ _; rw [add_block]; exact hn108_1) | exact hn108_1) (.string ((rd_T69 l0_1 x24_2).f1))).trans hx108_0; replace hx108_1 := (cell_far (p := ⟨gb105, 1, none⟩) (by first | (rw [add_block]; exact hn108_1) | (show (Addr.add _ _).block ≠ _; rw [add_block]; exact hn108_1) | exact hn108_1) (.string ((rd_T69 l0_1 x24_2).f1))).trans hx108_1; (try have hy108_0 := fun (n_ : Nat) => (show ((((w25.drewN n_).setCell ⟨gb105, 0, none⟩ (.string ((rd_T69 l0_1 x24_2).f0))).setCell ⟨gb105, 1, none⟩ (.string ((rd_T69 l0_1 x24_2).f1)))).cell? _ = some _ from hx108_0)); (try have hy108_1 := fun (n_ : Nat) => (show ((((w25.drewN n_).setCell ⟨gb105, 0, none⟩ (.string ((rd_T69 l0_1 x24_2).f0))).setCell ⟨gb105, 1, none⟩ (.string ((rd_T69 l0_1 x24_2).f1)))).cell? _ = some _ from hx108_1)); clear hn108_0 hn108_1; replace p108 := eq_true p108; replace q108 := eq_true q108)))
                         go_roundg k2
                         case measure => have := HJ1.out; have := HK2.out; omega
                         case rel => exact ⟨(wrap64 (x24_2 + 1)), z4458, H', ⟨by have := HJ1.out; have := HK2.out; omega⟩, ⟨bkZ⟩, ⟨zcb41⟩⟩
                       · rw [if_neg c24] at H
                         have c24b0 : (Op.bytesLess (((rd_T69 l0_1 (ji21)).f0).toList) (((rd_T69 l0_1 x24_2).f0).toList)) = false := by simpa using c24
                         clear c24
                         obtain rfl := Option.some.inj H
                         have p104 : 0 ≤ (x24_2 : Int) := of_decide_eq_true z1200
                         have q104 : x24_2 < (l0_1.length : Int) := of_decide_eq_true z1200
                         obtain ⟨ad104, e104, hx104_0, hx104_1⟩ := at_T69 HR0_1.out x24_2 p104 q104
                         cases e104
                         replace hx104_0 := (HB.out.cell (World.block_lt_of_cell? w _ hx104_0)).trans hx104_0
                         replace hx104_1 := (HB.out.cell (World.block_lt_of_cell? w _ hx104_1)).trans hx104_1
                         replace p104 := eq_true p104
                         replace q104 := eq_true q104
                         go_wp2_with (first | ((with_reducible refine gate_dst (N := 4) rfl ?_); (try (refine gate_guard (by rfl) ?_; dsimp only)); refine box_event ?hg (N := 4) ?hd (cs := #[.string (⟨#[]⟩ : ByteArray), .string (⟨#[]⟩ : ByteArray)]) (t := 69) ?hr ?_; (case hd => rfl); (case hg => rfl); (case hr => first | (go_simp; done) | (go_simp; rfl)); intro gb105 hg w29 hbox hb; have _ := bB gb101 hb; have _ := aM (below_step hbZ hb); have _ := aM hbox; have _ := szZ hg; have _ := szZ hg; have ⟨_, _⟩ := nbB gb101 hg; clear BK101 HB; rename_i BK101 HB BK105 GW105 GE105 NB101_105 NB105_101; clear hb hbox hg; have hnb30 := NB105_101.out; have hnc30 := NB101_105.out; obtain ⟨hcz31_0, hcz31_1, hfz31_0, hfz31_1⟩ := cellsZ2 BK105.out) | (go_at_call 33; (with_reducible refine (spec_l1Name.calls k2 ((rd_T69 l0_1 x24_2).f0) true _ A16.out).mono ?_); rintro e w' ⟨rfl, ⟨nd, rfl⟩⟩; (try first | exact ⟨rfl, _, World.drewN_drewN _ _ _⟩ | exact ⟨rfl, _, Eq.trans (World.drewN_drewN _ _ _) (congrArg (World.drewN _) (Nat.add_assoc _ _ _))⟩)) | (go_at_call 33; (with_reducible refine (spec_l1Name.calls k2 ((rd_T69 l0_1 x24_2).f1) true _ A18.out).mono ?_); rintro e w' ⟨rfl, ⟨nd, rfl⟩⟩; (try first | exact ⟨rfl, _, World.drewN_drewN _ _ _⟩ | exact ⟨rfl, _, Eq.trans (World.drewN_drewN _ _ _) (congrArg (World.drewN _) (Nat.add_assoc _ _ _))⟩); obtain ⟨hcz32_0, hcz32_1, hcz32_2, hfz32_0, hfz32_1, hfz32_2⟩ := cellsZ3 BK101.out; have p108 : 0 ≤ ((ji21) : Int) := of_decide_eq_true z1200; have q108 : (ji21) < (l0_1.length : Int) := of_decide_eq_true z1200; obtain ⟨ad108, e108, hx108_0, hx108_1⟩ := at_T69 HR0_1.out (ji21) p108 q108; obtain rfl : ad104 = ad108 := (by injection e108); have hn108_0 : ad104.block ≠ gb105 := Nat.ne_of_lt (Nat.lt_of_lt_of_le (by have := World.block_lt_of_cell? _ _ hx108_0; first | rwa [add_block] at this | exact this) GW105.out); have hn108_1 : ad104.block ≠ gb105 := Nat.ne_of_lt (Nat.lt_of_lt_of_le (by have := World.block_lt_of_cell? _ _ hx108_0; first | rwa [add_block] at this | exact this) GW105.out); replace hx108_0 := (HB.out.cell (World.block_lt_of_cell? w _ hx108_0)).trans hx108_0; replace hx108_1 := (HB.out.cell (World.block_lt_of_cell? w _ hx108_1)).trans hx108_1; replace hx108_0 := (cell_far (p := ⟨gb105, 0, none⟩) (by first | (rw [add_block]; exact hn108_0) | (show (Addr.add _ _).block ≠ _; rw [add_block]; exact hn108_0) | exact hn108_0) (.string ((rd_T69 l0_1 x24_2).f0))).trans hx108_0; replace hx108_1 := (cell_far (p := ⟨gb105, 0, none⟩) (by first | (rw [add_block]; exact hn108_0) | (show (Addr.add _ _).block ≠ _; rw [add_block]; exact hn108_0) | exact hn108_0) (.string ((rd_T69 l0_1 x24_2).f0))).trans hx108_1; replace hx108_0 := (cell_far (p := ⟨gb105, 1, none⟩) (by first | (rw [add_block]; exact hn108_1) | (show (Addr.add _ _).block ≠ _; rw [add_block]; exact hn108_1) | exact hn108_1) (.string ((rd_T69 l0_1 x24_2).f1))).trans hx108_0; replace hx108_1 := (cell_far (p := ⟨gb105, 1, none⟩) (by first | (rw [add_block]; exact hn108_1) | (show (Addr.add _ _).block ≠ _; rw [add_block]; exact hn108_1) | exact hn108_1) (.string ((rd_T69 l0_1 x24_2).f1))).trans hx108_1; (try have hy108_0 := fun (n_ : Nat) => (show ((((w29.drewN n_).setCell ⟨gb105, 0, none⟩ (.string ((rd_T69 l0_1 x24_2).f0))).setCell ⟨gb105, 1, none⟩ (.string ((rd_T69 l0_1 x24_2).f1)))).cell? _ = some _ from hx108_0)); (try have hy108_1 := fun (n_ : Nat) => (show ((((w29.drewN n_).setCell ⟨gb105, 0, none⟩ (.string ((rd_T69 l0_1 x24_2).f0))).setCell ⟨gb105, 1, none⟩ (.string ((rd_T69 l0_1 x24_2).f1)))).cell? _ = some _ from hx108_1)); clear hn108_0 hn108_1; replace p108 := eq_true p108; replace q108 := eq_true q108))
                         repeat (go_quiet (first | ((with_reducible refine gate_dst (N := 4) rfl ?_); (try (refine gate_guard (by rfl) ?_; dsimp only)); refine box_event ?hg (N := 4) ?hd (cs := #[.string (⟨#[]⟩ : ByteArray), .string (⟨#[]⟩ : ByteArray)]) (t := 69) ?hr ?_; (case hd => rfl); (case hg => rfl); (case hr => first | (go_simp; done) | (go_simp; rfl)); intro gb105 hg w29 hbox hb; have _ := bB gb101 hb; have _ := aM (below_step hbZ hb); have _ := aM hbox; have _ := szZ hg; have _ := szZ hg; have ⟨_, _⟩ := nbB gb101 hg; clear BK101 HB; rename_i BK101 HB BK105 GW105 GE105 NB101_105 NB105_101; clear hb hbox hg; have hnb30 := NB105_101.out; have hnc30 := NB101_105.out; obtain ⟨hcz31_0, hcz31_1, hfz31_0, hfz31_1⟩ := cellsZ2 BK105.out) | (go_at_call 33; (with_reducible refine (spec_l1Name.calls k2 ((rd_T69 l0_1 x24_2).f0) true _ A16.out).mono ?_); rintro e w' ⟨rfl, ⟨nd, rfl⟩⟩; (try first | exact ⟨rfl, _, World.drewN_drewN _ _ _⟩ | exact ⟨rfl, _, Eq.trans (World.drewN_drewN _ _ _) (congrArg (World.drewN _) (Nat.add_assoc _ _ _))⟩)) | (go_at_call 33; (with_reducible refine (spec_l1Name.calls k2 ((rd_T69 l0_1 x24_2).f1) true _ A18.out).mono ?_); rintro e w' ⟨rfl, ⟨nd, rfl⟩⟩; (try first | exact ⟨rfl, _, World.drewN_drewN _ _ _⟩ | exact ⟨rfl, _, Eq.trans (World.drewN_drewN _ _ _) (congrArg (World.drewN _) (Nat.add_assoc _ _ _))⟩); obtain ⟨hcz32_0, hcz32_1, hcz32_2, hfz32_0, hfz32_1, hfz32_2⟩ := cellsZ3 BK101.out; have p108 : 0 ≤ ((ji21) : Int) := of_decide_eq_true z1200; have q108 : (ji21) < (l0_1.length : Int) := of_decide_eq_true z1200; obtain ⟨ad108, e108, hx108_0, hx108_1⟩ := at_T69 HR0_1.out (ji21) p108 q108; obtain rfl : ad104 = ad108 := (by injection e108); have hn108_0 : ad104.block ≠ gb105 := Nat.ne_of_lt (Nat.lt_of_lt_of_le (by have := World.block_lt_of_cell? _ _ hx108_0; first | rwa [add_block] at this | exact this) GW105.out); have hn108_1 : ad104.block ≠ gb105 := Nat.ne_of_lt (Nat.lt_of_lt_of_le (by have := World.block_lt_of_cell? _ _ hx108_0; first | rwa [add_block] at this | exact this) GW105.out); replace hx108_0 := (HB.out.cell (World.block_lt_of_cell? w _ hx108_0)).trans hx108_0; replace hx108_1 := (HB.out.cell (World.block_lt_of_cell? w _ hx108_1)).trans hx108_1; replace hx108_0 := (cell_far (p := ⟨gb105, 0, none⟩) (by first | (rw [add_block]; exact hn108_0) | (show (Addr.add _ _).block ≠ _; rw [add_block]; exact hn108_0) | exact hn108_0) (.string ((rd_T69 l0_1 x24_2).f0))).trans hx108_0; replace hx108_1 := (cell_far (p := ⟨gb105, 0, none⟩) (by first | (rw [add_block]; exact hn108_0) | (show (Addr.add _ _).block ≠ _; rw [add_block]; exact hn108_0) | exact hn108_0) (.string ((rd_T69 l0_1 x24_2).f0))).trans hx108_1; replace hx108_0 := (cell_far (p := ⟨gb105, 1, none⟩) (by first | (rw [add_block]; exact hn108_1) | (show (Addr.add _ _).block ≠ _; rw [add_block]; exact hn108_1) | exact hn108_1) (.string ((rd_T69 l0_1 x24_2).f1))).trans hx108_0; replace hx108_1 := (cell_far (p := ⟨gb105, 1, none⟩) (by first | (rw [add_block]; exact hn108_1) | (show (Addr.add _ _).block ≠ _; rw [add_block]; exact hn108_1) | exact hn108_1) (.string ((rd_T69 l0_1 x24_2).f1))).trans hx108_1; (try have hy108_0 := fun (n_ : Nat) => (show ((((w29.drewN n_).setCell ⟨gb105, 0, none⟩ (.string ((rd_T69 l0_1 x24_2).f0))).setCell ⟨gb105, 1, none⟩ (.string ((rd_T69 l0_1 x24_2).f1)))).cell? _ = some _ from hx108_0)); (try have hy108_1 := fun (n_ : Nat) => (show ((((w29.drewN n_).setCell ⟨gb105, 0, none⟩ (.string ((rd_T69 l0_1 x24_2).f0))).setCell ⟨gb105, 1, none⟩ (.string ((rd_T69 l0_1 x24_2).f1)))).cell? _ = some _ from hx108_1)); clear hn108_0 hn108_1; replace p108 := eq_true p108; replace q108 := eq_true q108)); try go_wp2_with (first | ((with_reducible refine gate_dst (N := 4) rfl ?_); (try (refine gate_guard (by rfl) ?_; dsimp only)); refine box_event ?hg (N := 4) ?hd (cs := #[.string (⟨#[]⟩ : ByteArray), .string (⟨#[]⟩ : ByteArray)]) (t := 69) ?hr ?_; (case hd => rfl); (case hg => rfl); (case hr => first | (go_simp; done) | (go_simp; rfl)); intro gb105 hg w29 hbox hb; have _ := bB gb101 hb; have _ := aM (below_step hbZ hb); have _ := aM hbox; have _ := szZ hg; have _ := szZ hg; have ⟨_, _⟩ := nbB gb101 hg; clear BK101 HB; rename_i BK101 HB BK105 GW105 GE105 NB101_105 NB105_101; clear hb hbox hg; have hnb30 := NB105_101.out; have hnc30 := NB101_105.out; obtain ⟨hcz31_0, hcz31_1, hfz31_0, hfz31_1⟩ := cellsZ2 BK105.out) | (go_at_call 33; (with_reducible refine (spec_l1Name.calls k2 ((rd_T69 l0_1 x24_2).f0) true _ A16.out).mono ?_); rintro e w' ⟨rfl, ⟨nd, rfl⟩⟩; (try first | exact ⟨rfl, _, World.drewN_drewN _ _ _⟩ | exact ⟨rfl, _, Eq.trans (World.drewN_drewN _ _ _) (congrArg (World.drewN _) (Nat.add_assoc _ _ _))⟩)) | (go_at_call 33; (with_reducible refine (spec_l1Name.calls k2 ((rd_T69 l0_1 x24_2).f1) true _ A18.out).mono ?_); rintro e w' ⟨rfl, ⟨nd, rfl⟩⟩; (try first | exact ⟨rfl, _, World.drewN_drewN _ _ _⟩ | exact ⟨rfl, _, Eq.trans (World.drewN_drewN _ _ _) (congrArg (World.drewN _) (Nat.add_assoc _ _ _))⟩); obtain ⟨hcz32_0, hcz32_1, hcz32_2, hfz32_0, hfz32_1, hfz32_2⟩ := cellsZ3 BK101.out; have p108 : 0 ≤ ((ji21) : Int) := of_decide_eq_true z1200; have q108 : (ji21) < (l0_1.length : Int) := of_decide_eq_true z1200; obtain ⟨ad108, e108, hx108_0, hx108_1⟩ := at_T69 HR0_1.out (ji21) p108 q108; obtain rfl : ad104 = ad108 := (by injection e108); have hn108_0 : ad104.block ≠ gb105 := Nat.ne_of_lt (Nat.lt_of_lt_of_le (by have := World.block_lt_of_cell? _ _ hx108_0; first | rwa [add_block] at this | exact this) GW105.out); have hn108_1 : ad104.block ≠ gb105 := Nat.ne_of_lt (Nat.lt_of_lt_of_le (by have := World.block_lt_of_cell? _ _ hx108_0; first | rwa [add_block] at this | exact this) GW105.out); replace hx108_0 := (HB.out.cell (World.block_lt_of_cell? w _ hx108_0)).trans hx108_0; replace hx108_1 := (HB.out.cell (World.block_lt_of_cell? w _ hx108_1)).trans hx108_1; replace hx108_0 := (cell_far (p := ⟨gb105, 0, none⟩) (by first | (rw [add_block]; exact hn108_0) | (show (Addr.add _ _).block ≠ _; rw [add_block]; exact hn108_0) | exact hn108_0) (.string ((rd_T69 l0_1 x24_2).f0))).trans hx108_0; replace hx108_1 := (cell_far (p := ⟨gb105, 0, none⟩) (by first | (rw [add_block]; exact hn108_0) | (show (Addr.add _ _).block ≠ _; rw [add_block]; exact hn108_0) | exact hn108_0) (.string ((rd_T69 l0_1 x24_2).f0))).trans hx108_1; replace hx108_0 := (cell_far (p := ⟨gb105, 1, none⟩) (by first | (rw [add_block]; exact hn108_1) | (show (Addr.add _ _).block ≠ _; rw [add_block]; exact hn108_1) | exact hn108_1) (.string ((rd_T69 l0_1 x24_2).f1))).trans hx108_0; replace hx108_1 := (cell_far (p := ⟨gb105, 1, none⟩) (by first | (rw [add_block]; exact hn108_1) | (show (Addr.add _ _).block ≠ _; rw [add_block]; exact hn108_1) | exact hn108_1) (.string ((rd_T69 l0_1 x24_2).f1))).trans hx108_1; (try have hy108_0 := fun (n_ : Nat) => (show ((((w29.drewN n_).setCell ⟨gb105, 0, none⟩ (.string ((rd_T69 l0_1 x24_2).f0))).setCell ⟨gb105, 1, none⟩ (.string ((rd_T69 l0_1 x24_2).f1)))).cell? _ = some _ from hx108_0)); (try have hy108_1 := fun (n_ : Nat) => (show ((((w29.drewN n_).setCell ⟨gb105, 0, none⟩ (.string ((rd_T69 l0_1 x24_2).f0))).setCell ⟨gb105, 1, none⟩ (.string ((rd_T69 l0_1 x24_2).f1)))).cell? _ = some _ from hx108_1)); clear hn108_0 hn108_1; replace p108 := eq_true p108; replace q108 := eq_true q108)))
                         go_ret
                         exact ⟨by first | rfl | (simp [errW_none, errW_some] <;> rfl) | (simp only [← hji21]; first | rfl | (simp [errW_none, errW_some] <;> rfl)) | (simp [*, errW_none, errW_some] <;> rfl), zcb41⟩
                     · rw [if_neg c23] at H
                       exact absurd H (by simp)
                   · rw [if_neg c22] at H
                     exact absurd H (by simp)
                 · rw [if_neg c20] at H
                   have c20b0 : decide (0 < x24_2) = false := decide_eq_false c20
                   clear c20
                   have H' := aM H
                   clear H
                   have p104 : 0 ≤ (x24_2 : Int) := of_decide_eq_true z1200
                   have q104 : x24_2 < (l0_1.length : Int) := of_decide_eq_true z1200
                   obtain ⟨ad104, e104, hx104_0, hx104_1⟩ := at_T69 HR0_1.out x24_2 p104 q104
                   cases e104
                   replace hx104_0 := (HB.out.cell (World.block_lt_of_cell? w _ hx104_0)).trans hx104_0
                   replace hx104_1 := (HB.out.cell (World.block_lt_of_cell? w _ hx104_1)).trans hx104_1
                   replace p104 := eq_true p104
                   replace q104 := eq_true q104
                   go_wp2_with (first | ((with_reducible refine gate_dst (N := 4) rfl ?_); (try (refine gate_guard (by rfl) ?_; dsimp only)); refine box_event ?hg (N := 4) ?hd (cs := #[.string (⟨#[]⟩ : ByteArray), .string (⟨#[]⟩ : ByteArray)]) (t := 69) ?hr ?_; (case hd => rfl); (case hg => rfl); (case hr => first | (go_simp; done) | (go_simp; rfl)); intro gb105 hg w33 hbox hb; have _ := bB gb101 hb; have _ := aM (below_step hbZ hb); have _ := aM hbox; have _ := szZ hg; have _ := szZ hg; have ⟨_, _⟩ := nbB gb101 hg; clear BK101 HB; rename_i BK101 HB BK105 GW105 GE105 NB101_105 NB105_101; clear hb hbox hg; have hnb34 := NB105_101.out; have hnc34 := NB101_105.out; obtain ⟨hcz35_0, hcz35_1, hfz35_0, hfz35_1⟩ := cellsZ2 BK105.out) | (go_at_call 33; (with_reducible refine (spec_l1Name.calls k2 ((rd_T69 l0_1 x24_2).f0) true _ A16.out).mono ?_); rintro e w' ⟨rfl, ⟨nd, rfl⟩⟩; (try first | exact ⟨rfl, _, World.drewN_drewN _ _ _⟩ | exact ⟨rfl, _, Eq.trans (World.drewN_drewN _ _ _) (congrArg (World.drewN _) (Nat.add_assoc _ _ _))⟩)) | (go_at_call 33; (with_reducible refine (spec_l1Name.calls k2 ((rd_T69 l0_1 x24_2).f1) true _ A18.out).mono ?_); rintro e w' ⟨rfl, ⟨nd, rfl⟩⟩; (try first | exact ⟨rfl, _, World.drewN_drewN _ _ _⟩ | exact ⟨rfl, _, Eq.trans (World.drewN_drewN _ _ _) (congrArg (World.drewN _) (Nat.add_assoc _ _ _))⟩)))
                   repeat (go_quiet (first | ((with_reducible refine gate_dst (N := 4) rfl ?_); (try (refine gate_guard (by rfl) ?_; dsimp only)); refine box_event ?hg (N := 4) ?hd (cs := #[.string (⟨#[]⟩ : ByteArray), .string (⟨#[]⟩ : ByteArray)]) (t := 69) ?hr ?_; (case hd => rfl); (case hg => rfl); (case hr => first | (go_simp; done) | (go_simp; rfl)); intro gb105 hg w33 hbox hb; have _ := bB gb101 hb; have _ := aM (below_step hbZ hb); have _ := aM hbox; have _ := szZ hg; have _ := szZ hg; have ⟨_, _⟩ := nbB gb101 hg; clear BK101 HB; rename_i BK101 HB BK105 GW105 GE105 NB101_105 NB105_101; clear hb hbox hg; have hnb34 := NB105_101.out; have hnc34 := NB101_105.out; obtain ⟨hcz35_0, hcz35_1, hfz35_0, hfz35_1⟩ := cellsZ2 BK105.out) | (go_at_call 33; (with_reducible refine (spec_l1Name.calls k2 ((rd_T69 l0_1 x24_2).f0) true _ A16.out).mono ?_); rintro e w' ⟨rfl, ⟨nd, rfl⟩⟩; (try first | exact ⟨rfl, _, World.drewN_drewN _ _ _⟩ | exact ⟨rfl, _, Eq.trans (World.drewN_drewN _ _ _) (congrArg (World.drewN _) (Nat.add_assoc _ _ _))⟩)) | (go_at_call 33; (with_reducible refine (spec_l1Name.calls k2 ((rd_T69 l0_1 x24_2).f1) true _ A18.out).mono ?_); rintro e w' ⟨rfl, ⟨nd, rfl⟩⟩; (try first | exact ⟨rfl, _, World.drewN_drewN _ _ _⟩ | exact ⟨rfl, _, Eq.trans (World.drewN_drewN _ _ _) (congrArg (World.drewN _) (Nat.add_assoc _ _ _))⟩))); try go_wp2_with (first | ((with_reducible refine gate_dst (N := 4) rfl ?_); (try (refine gate_guard (by rfl) ?_; dsimp only)); refine box_event ?hg (N := 4) ?hd (cs := #[.string (⟨#[]⟩ : ByteArray), .string (⟨#[]⟩ : ByteArray)]) (t := 69) ?hr ?_; (case hd => rfl); (case hg => rfl); (case hr => first | (go_simp; done) | (go_simp; rfl)); intro gb105 hg w33 hbox hb; have _ := bB gb101 hb; have _ := aM (below_step hbZ hb); have _ := aM hbox; have _ := szZ hg; have _ := szZ hg; have ⟨_, _⟩ := nbB gb101 hg; clear BK101 HB; rename_i BK101 HB BK105 GW105 GE105 NB101_105 NB105_101; clear hb hbox hg; have hnb34 := NB105_101.out; have hnc34 := NB101_105.out; obtain ⟨hcz35_0, hcz35_1, hfz35_0, hfz35_1⟩ := cellsZ2 BK105.out) | (go_at_call 33; (with_reducible refine (spec_l1Name.calls k2 ((rd_T69 l0_1 x24_2).f0) true _ A16.out).mono ?_); rintro e w' ⟨rfl, ⟨nd, rfl⟩⟩; (try first | exact ⟨rfl, _, World.drewN_drewN _ _ _⟩ | exact ⟨rfl, _, Eq.trans (World.drewN_drewN _ _ _) (congrArg (World.drewN _) (Nat.add_assoc _ _ _))⟩)) | (go_at_call 33; (with_reducible refine (spec_l1Name.calls k2 ((rd_T69 l0_1 x24_2).f1) true _ A18.out).mono ?_); rintro e w' ⟨rfl, ⟨nd, rfl⟩⟩; (try first | exact ⟨rfl, _, World.drewN_drewN _ _ _⟩ | exact ⟨rfl, _, Eq.trans (World.drewN_drewN _ _ _) (congrArg (World.drewN _) (Nat.add_assoc _ _ _))⟩))))
                   go_roundg k2
                   case measure => have := HJ1.out; have := HK2.out; omega
                   case rel => exact ⟨(wrap64 (x24_2 + 1)), z4458, H', ⟨by have := HJ1.out; have := HK2.out; omega⟩, ⟨bkZ⟩, ⟨zcb41⟩⟩
               · replace c19 := Bool.eq_false_iff.mpr c19
                 subst c19
                 have H1 : (some false) = some r := by rw [if_neg (show ¬ (false = true) by decide)] at H; exact H
                 clear H
                 have H := H1
                 clear H1
                 obtain rfl := Option.some.inj H
                 have p104 : 0 ≤ (x24_2 : Int) := of_decide_eq_true z1200
                 have q104 : x24_2 < (l0_1.length : Int) := of_decide_eq_true z1200
                 obtain ⟨ad104, e104, hx104_0, hx104_1⟩ := at_T69 HR0_1.out x24_2 p104 q104
                 cases e104
                 replace hx104_0 := (HB.out.cell (World.block_lt_of_cell? w _ hx104_0)).trans hx104_0
                 replace hx104_1 := (HB.out.cell (World.block_lt_of_cell? w _ hx104_1)).trans hx104_1
                 replace p104 := eq_true p104
                 replace q104 := eq_true q104
                 go_wp2_with (first | ((with_reducible refine gate_dst (N := 4) rfl ?_); (try (refine gate_guard (by rfl) ?_; dsimp only)); refine box_event ?hg (N := 4) ?hd (cs := #[.string (⟨#[]⟩ : ByteArray), .string (⟨#[]⟩ : ByteArray)]) (t := 69) ?hr ?_; (case hd => rfl); (case hg => rfl); (case hr => first | (go_simp; done) | (go_simp; rfl)); intro gb105 hg w36 hbox hb; have _ := bB gb101 hb; have _ := aM (below_step hbZ hb); have _ := aM hbox; have _ := szZ hg; have _ := szZ hg; have ⟨_, _⟩ := nbB gb101 hg; clear BK101 HB; rename_i BK101 HB BK105 GW105 GE105 NB101_105 NB105_101; clear hb hbox hg; have hnb37 := NB105_101.out; have hnc37 := NB101_105.out; obtain ⟨hcz38_0, hcz38_1, hfz38_0, hfz38_1⟩ := cellsZ2 BK105.out) | (go_at_call 33; (with_reducible refine (spec_l1Name.calls k2 ((rd_T69 l0_1 x24_2).f0) true _ A16.out).mono ?_); rintro e w' ⟨rfl, ⟨nd, rfl⟩⟩; (try first | exact ⟨rfl, _, World.drewN_drewN _ _ _⟩ | exact ⟨rfl, _, Eq.trans (World.drewN_drewN _ _ _) (congrArg (World.drewN _) (Nat.add_assoc _ _ _))⟩)) | (go_at_call 33; (with_reducible refine (spec_l1Name.calls k2 ((rd_T69 l0_1 x24_2).f1) false _ A18.out).mono ?_); rintro e w' ⟨rfl, ⟨nd, rfl⟩⟩; (try first | exact ⟨rfl, _, World.drewN_drewN _ _ _⟩ | exact ⟨rfl, _, Eq.trans (World.drewN_drewN _ _ _) (congrArg (World.drewN _) (Nat.add_assoc _ _ _))⟩)))
                 repeat (go_quiet (first | ((with_reducible refine gate_dst (N := 4) rfl ?_); (try (refine gate_guard (by rfl) ?_; dsimp only)); refine box_event ?hg (N := 4) ?hd (cs := #[.string (⟨#[]⟩ : ByteArray), .string (⟨#[]⟩ : ByteArray)]) (t := 69) ?hr ?_; (case hd => rfl); (case hg => rfl); (case hr => first | (go_simp; done) | (go_simp; rfl)); intro gb105 hg w36 hbox hb; have _ := bB gb101 hb; have _ := aM (below_step hbZ hb); have _ := aM hbox; have _ := szZ hg; have _ := szZ hg; have ⟨_, _⟩ := nbB gb101 hg; clear BK101 HB; rename_i BK101 HB BK105 GW105 GE105 NB101_105 NB105_101; clear hb hbox hg; have hnb37 := NB105_101.out; have hnc37 := NB101_105.out; obtain ⟨hcz38_0, hcz38_1, hfz38_0, hfz38_1⟩ := cellsZ2 BK105.out) | (go_at_call 33; (with_reducible refine (spec_l1Name.calls k2 ((rd_T69 l0_1 x24_2).f0) true _ A16.out).mono ?_); rintro e w' ⟨rfl, ⟨nd, rfl⟩⟩; (try first | exact ⟨rfl, _, World.drewN_drewN _ _ _⟩ | exact ⟨rfl, _, Eq.trans (World.drewN_drewN _ _ _) (congrArg (World.drewN _) (Nat.add_assoc _ _ _))⟩)) | (go_at_call 33; (with_reducible refine (spec_l1Name.calls k2 ((rd_T69 l0_1 x24_2).f1) false _ A18.out).mono ?_); rintro e w' ⟨rfl, ⟨nd, rfl⟩⟩; (try first | exact ⟨rfl, _, World.drewN_drewN _ _ _⟩ | exact ⟨rfl, _, Eq.trans (World.drewN_drewN _ _ _) (congrArg (World.drewN _) (Nat.add_assoc _ _ _))⟩))); try go_wp2_with (first | ((with_reducible refine gate_dst (N := 4) rfl ?_); (try (refine gate_guard (by rfl) ?_; dsimp only)); refine box_event ?hg (N := 4) ?hd (cs := #[.string (⟨#[]⟩ : ByteArray), .string (⟨#[]⟩ : ByteArray)]) (t := 69) ?hr ?_; (case hd => rfl); (case hg => rfl); (case hr => first | (go_simp; done) | (go_simp; rfl)); intro gb105 hg w36 hbox hb; have _ := bB gb101 hb; have _ := aM (below_step hbZ hb); have _ := aM hbox; have _ := szZ hg; have _ := szZ hg; have ⟨_, _⟩ := nbB gb101 hg; clear BK101 HB; rename_i BK101 HB BK105 GW105 GE105 NB101_105 NB105_101; clear hb hbox hg; have hnb37 := NB105_101.out; have hnc37 := NB101_105.out; obtain ⟨hcz38_0, hcz38_1, hfz38_0, hfz38_1⟩ := cellsZ2 BK105.out) | (go_at_call 33; (with_reducible refine (spec_l1Name.calls k2 ((rd_T69 l0_1 x24_2).f0) true _ A16.out).mono ?_); rintro e w' ⟨rfl, ⟨nd, rfl⟩⟩; (try first | exact ⟨rfl, _, World.drewN_drewN _ _ _⟩ | exact ⟨rfl, _, Eq.trans (World.drewN_drewN _ _ _) (congrArg (World.drewN _) (Nat.add_assoc _ _ _))⟩)) | (go_at_call 33; (with_reducible refine (spec_l1Name.calls k2 ((rd_T69 l0_1 x24_2).f1) false _ A18.out).mono ?_); rintro e w' ⟨rfl, ⟨nd, rfl⟩⟩; (try first | exact ⟨rfl, _, World.drewN_drewN _ _ _⟩ | exact ⟨rfl, _, Eq.trans (World.drewN_drewN _ _ _) (congrArg (World.drewN _) (Nat.add_assoc _ _ _))⟩))))
                 go_ret
                 exact ⟨z674d, zcb41⟩
             · replace c17 := Bool.eq_false_iff.mpr c17
               subst c17
               have H1 : (some false) = some r := by rw [if_neg (show ¬ (false = true) by decide)] at H; exact H
               clear H
               have H := H1
               clear H1
               obtain rfl := Option.some.inj H
               have p104 : 0 ≤ (x24_2 : Int) := of_decide_eq_true z1200
               have q104 : x24_2 < (l0_1.length : Int) := of_decide_eq_true z1200
               obtain ⟨ad104, e104, hx104_0, hx104_1⟩ := at_T69 HR0_1.out x24_2 p104 q104
               cases e104
               replace hx104_0 := (HB.out.cell (World.block_lt_of_cell? w _ hx104_0)).trans hx104_0
               replace hx104_1 := (HB.out.cell (World.block_lt_of_cell? w _ hx104_1)).trans hx104_1
               replace p104 := eq_true p104
               replace q104 := eq_true q104
               go_wp2_with (first | ((with_reducible refine gate_dst (N := 4) rfl ?_); (try (refine gate_guard (by rfl) ?_; dsimp only)); refine box_event ?hg (N := 4) ?hd (cs := #[.string (⟨#[]⟩ : ByteArray), .string (⟨#[]⟩ : ByteArray)]) (t := 69) ?hr ?_; (case hd => rfl); (case hg => rfl); (case hr => first | (go_simp; done) | (go_simp; rfl)); intro gb105 hg w39 hbox hb; have _ := bB gb101 hb; have _ := aM (below_step hbZ hb); have _ := aM hbox; have _ := szZ hg; have _ := szZ hg; have ⟨_, _⟩ := nbB gb101 hg; clear BK101 HB; rename_i BK101 HB BK105 GW105 GE105 NB101_105 NB105_101; clear hb hbox hg; have hnb40 := NB105_101.out; have hnc40 := NB101_105.out; obtain ⟨hcz41_0, hcz41_1, hfz41_0, hfz41_1⟩ := cellsZ2 BK105.out) | (go_at_call 33; (with_reducible refine (spec_l1Name.calls k2 ((rd_T69 l0_1 x24_2).f0) false _ A16.out).mono ?_); rintro e w' ⟨rfl, ⟨nd, rfl⟩⟩; (try first | exact ⟨rfl, _, World.drewN_drewN _ _ _⟩ | exact ⟨rfl, _, Eq.trans (World.drewN_drewN _ _ _) (congrArg (World.drewN _) (Nat.add_assoc _ _ _))⟩)))
               repeat (go_quiet (first | ((with_reducible refine gate_dst (N := 4) rfl ?_); (try (refine gate_guard (by rfl) ?_; dsimp only)); refine box_event ?hg (N := 4) ?hd (cs := #[.string (⟨#[]⟩ : ByteArray), .string (⟨#[]⟩ : ByteArray)]) (t := 69) ?hr ?_; (case hd => rfl); (case hg => rfl); (case hr => first | (go_simp; done) | (go_simp; rfl)); intro gb105 hg w39 hbox hb; have _ := bB gb101 hb; have _ := aM (below_step hbZ hb); have _ := aM hbox; have _ := szZ hg; have _ := szZ hg; have ⟨_, _⟩ := nbB gb101 hg; clear BK101 HB; rename_i BK101 HB BK105 GW105 GE105 NB101_105 NB105_101; clear hb hbox hg; have hnb40 := NB105_101.out; have hnc40 := NB101_105.out; obtain ⟨hcz41_0, hcz41_1, hfz41_0, hfz41_1⟩ := cellsZ2 BK105.out) | (go_at_call 33; (with_reducible refine (spec_l1Name.calls k2 ((rd_T69 l0_1 x24_2).f0) false _ A16.out).mono ?_); rintro e w' ⟨rfl, ⟨nd, rfl⟩⟩; (try first | exact ⟨rfl, _, World.drewN_drewN _ _ _⟩ | exact ⟨rfl, _, Eq.trans (World.drewN_drewN _ _ _) (congrArg (World.drewN _) (Nat.add_assoc _ _ _))⟩))); try go_wp2_with (first | ((with_reducible refine gate_dst (N := 4) rfl ?_); (try (refine gate_guard (by rfl) ?_; dsimp only)); refine box_event ?hg (N := 4) ?hd (cs := #[.string (⟨#[]⟩ : ByteArray), .string (⟨#[]⟩ : ByteArray)]) (t := 69) ?hr ?_; (case hd => rfl); (case hg => rfl); (case hr => first | (go_simp; done) | (go_simp; rfl)); intro gb105 hg w39 hbox hb; have _ := bB gb101 hb; have _ := aM (below_step hbZ hb); have _ := aM hbox; have _ := szZ hg; have _ := szZ hg; have ⟨_, _⟩ := nbB gb101 hg; clear BK101 HB; rename_i BK101 HB BK105 GW105 GE105 NB101_105 NB105_101; clear hb hbox hg; have hnb40 := NB105_101.out; have hnc40 := NB101_105.out; obtain ⟨hcz41_0, hcz41_1, hfz41_0, hfz41_1⟩ := cellsZ2 BK105.out) | (go_at_call 33; (with_reducible refine (spec_l1Name.calls k2 ((rd_T69 l0_1 x24_2).f0) false _ A16.out).mono ?_); rintro e w' ⟨rfl, ⟨nd, rfl⟩⟩; (try first | exact ⟨rfl, _, World.drewN_drewN _ _ _⟩ | exact ⟨rfl, _, Eq.trans (World.drewN_drewN _ _ _) (congrArg (World.drewN _) (Nat.add_assoc _ _ _))⟩))))
               go_ret
               exact ⟨z674d, zcb41⟩
           · rw [if_neg c15] at H
             exact absurd H (by simp)
         · rw [if_neg c14] at H
           exact absurd H (by simp)
       · rw [if_neg c13] at H
         have c13b0 : decide (x24_2 < (l0_1.length : Int)) = false := decide_eq_false c13
         clear c13
         obtain rfl := Option.some.inj H
         go_wp2
         repeat (go_quiet (fail); try go_wp2)
         go_ret
         exact ⟨z674d, zcb41⟩

end Go.Proofs.YteogadaloebdaaaDoor.P

-- written by a program of this session's (wip/pp)
namespace Go.Proofs.YteogadaloebdaaaDoor.P
open Go.RowKit Go.Proofs.YteogadaloebdaaaDoorW.PrintWords Go.Proofs.YteogadaloebdaaaDoorW.PrintLast Go.Proofs.YteogadaloebdaaaDoorW.PrintMore
attribute [local go_sem] max2_int min2_int max_two min_two max_three min_three max_four min_four str_geq str_gtr str_leq   -- for this text's walks alone
set_option linter.unusedVariables false
set_option linter.unusedSimpArgs false

/-! ### cmp_Or_int: function 37 -/
def cmp_Or_int.l0 : Nat → Int → List Int → Int → Int → Option (Int)
 | 0, _, _, _, _ => none
 | k + 1, x3, x6, x7, x8 => if x8 < x7 then (if 0 ≤ x8 then (if x8 < (x6.length : Int) then (if (rd x6 x8) = x3 then (cmp_Or_int.l0 k x3 x6 x7 (wrap64 (x8 + 1))) else (some (rd x6 x8))) else (none)) else (none)) else (some x3)
def cmp_Or_int.f (k : Nat) (l0 : List Int) : Option (Int) := cmp_Or_int.l0 k 0 l0 (l0.length : Int) 0
theorem cmp_Or_int.mono_l : ∀ k, (∀ y0 y1 y2 y3, LeO (cmp_Or_int.l0 k y0 y1 y2 y3) (cmp_Or_int.l0 (k + 1) y0 y1 y2 y3))
 | 0 => fun _ _ _ _ r h => by simp [cmp_Or_int.l0] at h
 | k + 1 => by
  have ih0 := cmp_Or_int.mono_l k
  · intro y0 y1 y2 y3
    unfold cmp_Or_int.l0
    repeat' first
     | (with_reducible first | exact ih0 .. | exact LeO.refl _ | exact LeO.none _ | refine LeO.ite ?_ ?_ | refine LeO.bind ?_ (fun _ => ?_))
     | exact LeO.none _
     | refine LeO.ite ?_ ?_
     | refine LeO.bind ?_ (fun _ => ?_)
theorem cmp_Or_int.mono : ∀ a0 k, LeO (cmp_Or_int.f k a0) (cmp_Or_int.f (k + 1) a0) := by
 intro a0 k
 have ih0 := cmp_Or_int.mono_l k
 unfold cmp_Or_int.f
 repeat' first
  | (with_reducible first | exact ih0 .. | exact LeO.refl _ | exact LeO.none _ | refine LeO.ite ?_ ?_ | refine LeO.bind ?_ (fun _ => ?_))
  | exact LeO.none _
  | refine LeO.ite ?_ ?_
  | refine LeO.bind ?_ (fun _ => ?_)
set_option maxHeartbeats 8000000 in
set_option maxRecDepth 100000 in
theorem cmp_Or_int.calls (k : Nat) (A0 : Option Addr) (c0 : Nat) (l0 : List Int) (r : Int) (w : World) (hr0 : Kd.C (Kd.int .i64) w A0 l0.length l0) (hc0 : l0.length ≤ c0) (h : cmp_Or_int.f k l0 = some r) :
 Calls Tryd.prog 37 #[.slice A0 l0.length c0] w fun e w' => e = .returned (.int .i64 r) ∧ Drawn0 w w' := by
 have HR0 := aM hr0
 have HC0 := aM hc0
 clear hr0 hc0
 have H : (cmp_Or_int.l0 k 0 l0 (l0.length : Int) 0) = some r := h
 clear h
 have H' := aM H
 clear H
 go_enter Tryd.func37, Tryd.ntmps37
 go_wp2
 go_loopg [8] k (fun kq v8 w' => ∃ (x8_1 : Int), v8 = .int .i64 x8_1 ∧ Aside0 (cmp_Or_int.l0 kq 0 l0 (l0.length : Int) x8_1 = some r) ∧ Aside0 (kq ≤ k) ∧ Drawn0 w w')
 case atStart => exact ⟨(0), z4458, H', ⟨Nat.le_refl _⟩, za9de⟩
 case round =>
  clear H'
  obtain ⟨x8_1, rfl, HA, HK1, ⟨m1, rfl⟩⟩ := hrel
  cases gk with
  | zero => exact absurd HA.out (by simp [cmp_Or_int.l0])
  | succ k1 =>
   have H := HA.out
   clear HA
   simp only [cmp_Or_int.l0] at H
   by_cases c2 : x8_1 < (l0.length : Int)
   · rw [if_pos c2] at H
     have c2b0 : decide (x8_1 < (l0.length : Int)) = true := decide_eq_true c2
     clear c2
     by_cases c3 : 0 ≤ x8_1
     · rw [if_pos c3] at H
       have c3b0 : decide (0 ≤ x8_1) = true := decide_eq_true c3
       clear c3
       by_cases c4 : x8_1 < (l0.length : Int)
       · rw [if_pos c4] at H
         have c4b0 : decide (x8_1 < (l0.length : Int)) = true := decide_eq_true c4
         clear c4
         by_cases c5 : (rd l0 x8_1) = 0
         · rw [if_pos c5] at H
           have c5b0 : ((rd l0 x8_1) == 0) = true := beq_iff_eq.mpr c5
           have c5b1 : ((rd l0 x8_1) != 0) = false := bne_eq_false_iff_eq.mpr c5
           clear c5
           have H' := aM H
           clear H
           have p101 : 0 ≤ (x8_1 : Int) := of_decide_eq_true z1200
           have q101 : x8_1 < (l0.length : Int) := of_decide_eq_true z1200
           obtain ⟨ad101, e101, hx101_0⟩ := Kd.at_int HR0.out x8_1 p101 q101
           cases e101
           replace p101 := eq_true p101
           replace q101 := eq_true q101
           go_wp2
           go_roundg k1
           case measure => have := HK1.out; omega
           case rel => exact ⟨(wrap64 (x8_1 + 1)), z4458, H', ⟨zfb39⟩, za9de⟩
         · rw [if_neg c5] at H
           have c5b0 : ((rd l0 x8_1) == 0) = false := beq_eq_false_iff_ne.mpr c5
           have c5b1 : ((rd l0 x8_1) != 0) = true := bne_iff_ne.mpr c5
           obtain rfl := Option.some.inj H
           have p101 : 0 ≤ (x8_1 : Int) := of_decide_eq_true z1200
           have q101 : x8_1 < (l0.length : Int) := of_decide_eq_true z1200
           obtain ⟨ad101, e101, hx101_0⟩ := Kd.at_int HR0.out x8_1 p101 q101
           cases e101
           replace p101 := eq_true p101
           replace q101 := eq_true q101
           go_wp2
           go_ret
           exact ⟨z4458, za9de⟩
       · rw [if_neg c4] at H
         exact absurd H (by simp)
     · rw [if_neg c3] at H
       exact absurd H (by simp)
   · rw [if_neg c2] at H
     have c2b0 : decide (x8_1 < (l0.length : Int)) = false := decide_eq_false c2
     clear c2
     obtain rfl := Option.some.inj H
     go_wp2
     go_ret
     exact ⟨z4458, za9de⟩

end Go.Proofs.YteogadaloebdaaaDoor.P

-- written by a program of this session's (wip/pp)
namespace Go.Proofs.YteogadaloebdaaaDoor.P
open Go.RowKit Go.Proofs.YteogadaloebdaaaDoorW.PrintWords Go.Proofs.YteogadaloebdaaaDoorW.PrintLast Go.Proofs.YteogadaloebdaaaDoorW.PrintMore
attribute [local go_sem] max2_int min2_int max_two min_two max_three min_three max_four min_four str_geq str_gtr str_leq   -- for this text's walks alone
set_option linter.unusedVariables false
set_option linter.unusedSimpArgs false

/-! ### cmp_isNaN_string: function 70 -/
def cmp_isNaN_string.f (a0 : ByteArray) : Option (Bool) := some (a0.toList != a0.toList)
set_option maxHeartbeats 8000000 in
set_option maxRecDepth 100000 in
theorem cmp_isNaN_string.calls (a0 : ByteArray) (r : Bool) (w : World) (h : cmp_isNaN_string.f a0 = some r) :
 Calls Tryd.prog 70 #[.string a0] w fun e w' => e = .returned (.bool r) ∧ Drawn0 w w' := by
 have H : (some (a0.toList != a0.toList)) = some r := h
 clear h
 obtain rfl := Option.some.inj H
 go_enter Tryd.func70, Tryd.ntmps70
 go_wp2
 go_ret
 exact ⟨z4458, za9de⟩

end Go.Proofs.YteogadaloebdaaaDoor.P

-- written by a program of this session's (wip/pp)
namespace Go.Proofs.YteogadaloebdaaaDoor.P
open Go.RowKit Go.Proofs.YteogadaloebdaaaDoorW.PrintWords Go.Proofs.YteogadaloebdaaaDoorW.PrintLast Go.Proofs.YteogadaloebdaaaDoorW.PrintMore
attribute [local go_sem] max2_int min2_int max_two min_two max_three min_three max_four min_four str_geq str_gtr str_leq   -- for this text's walks alone
set_option linter.unusedVariables false
set_option linter.unusedSimpArgs false

/-! ### cmp_Compare_string: function 38 -/
def cmp_Compare_string.f (a0 : ByteArray) (a1 : ByteArray) : Option (Int) := (cmp_isNaN_string.f a0).bind fun t101 => ((cmp_isNaN_string.f a1).bind fun t102 => (if t101 = true then (if t102 = true then (some 0) else (some (-1))) else (if t102 = true then (some 1) else (if (Op.bytesLess a0.toList a1.toList) = true then (some (-1)) else (if (Op.bytesLess a1.toList a0.toList) = true then (some 1) else (some 0))))))
set_option maxHeartbeats 8000000 in
set_option maxRecDepth 100000 in
theorem cmp_Compare_string.calls (a0 : ByteArray) (a1 : ByteArray) (r : Int) (w : World) (h : cmp_Compare_string.f a0 a1 = some r) :
 Calls Tryd.prog 38 #[.string a0, .string a1] w fun e w' => e = .returned (.int .i64 r) ∧ Drawn0 w w' := by
 have H : ((cmp_isNaN_string.f a0).bind fun t101 => ((cmp_isNaN_string.f a1).bind fun t102 => (if t101 = true then (if t102 = true then (some 0) else (some (-1))) else (if t102 = true then (some 1) else (if (Op.bytesLess a0.toList a1.toList) = true then (some (-1)) else (if (Op.bytesLess a1.toList a0.toList) = true then (some 1) else (some 0))))))) = some r := h
 clear h
 replace H := Option.bind_eq_some_iff.mp H
 obtain ⟨t101, A30, H⟩ := H
 try dsimp only at H
 have A3 := aM A30
 clear A30
 replace H := Option.bind_eq_some_iff.mp H
 obtain ⟨t102, A40, H⟩ := H
 try dsimp only at H
 have A4 := aM A40
 clear A40
 by_cases c5 : t101 = true
 · subst c5
   have H1 : (if t102 = true then (some 0) else (some (-1))) = some r := by rw [if_pos rfl] at H; exact H
   clear H
   have H := H1
   clear H1
   by_cases c6 : t102 = true
   · subst c6
     have H1 : (some 0) = some r := by rw [if_pos rfl] at H; exact H
     clear H
     have H := H1
     clear H1
     obtain rfl := Option.some.inj H
     go_enter Tryd.func38, Tryd.ntmps38
     go_wp2_with (first | ((with_reducible refine gate_callee (f := 70) rfl ?_); refine goesL_ (some 8) rfl rfl Tryd.func70 (by kernel_rfl) rfl #[.string a0] rfl zee81 ?_; (with_reducible refine (cmp_isNaN_string.calls a0 true _ A3.out).mono ?_); rintro e w' ⟨rfl, ⟨nd, rfl⟩⟩; refine ⟨_, rfl, ?_⟩) | ((with_reducible refine gate_callee (f := 70) rfl ?_); refine goesL_ (some 10) rfl rfl Tryd.func70 (by kernel_rfl) rfl #[.string a1] rfl zee81 ?_; (with_reducible refine (cmp_isNaN_string.calls a1 true _ A4.out).mono ?_); rintro e w' ⟨rfl, ⟨nd, rfl⟩⟩; refine ⟨_, rfl, ?_⟩))
     go_ret
     exact ⟨z4458, za9de⟩
   · replace c6 := Bool.eq_false_iff.mpr c6
     subst c6
     have H1 : (some (-1)) = some r := by rw [if_neg (show ¬ (false = true) by decide)] at H; exact H
     clear H
     have H := H1
     clear H1
     obtain rfl := Option.some.inj H
     go_enter Tryd.func38, Tryd.ntmps38
     go_wp2_with (first | ((with_reducible refine gate_callee (f := 70) rfl ?_); refine goesL_ (some 8) rfl rfl Tryd.func70 (by kernel_rfl) rfl #[.string a0] rfl zee81 ?_; (with_reducible refine (cmp_isNaN_string.calls a0 true _ A3.out).mono ?_); rintro e w' ⟨rfl, ⟨nd, rfl⟩⟩; refine ⟨_, rfl, ?_⟩) | ((with_reducible refine gate_callee (f := 70) rfl ?_); refine goesL_ (some 10) rfl rfl Tryd.func70 (by kernel_rfl) rfl #[.string a1] rfl zee81 ?_; (with_reducible refine (cmp_isNaN_string.calls a1 false _ A4.out).mono ?_); rintro e w' ⟨rfl, ⟨nd, rfl⟩⟩; refine ⟨_, rfl, ?_⟩))
     go_ret
     exact ⟨z4458, za9de⟩
 · replace c5 := Bool.eq_false_iff.mpr c5
   subst c5
   have H1 : (if t102 = true then (some 1) else (if (Op.bytesLess a0.toList a1.toList) = true then (some (-1)) else (if (Op.bytesLess a1.toList a0.toList) = true then (some 1) else (some 0)))) = some r := by rw [if_neg (show ¬ (false = true) by decide)] at H; exact H
   clear H
   have H := H1
   clear H1
   by_cases c7 : t102 = true
   · subst c7
     have H1 : (some 1) = some r := by rw [if_pos rfl] at H; exact H
     clear H
     have H := H1
     clear H1
     obtain rfl := Option.some.inj H
     go_enter Tryd.func38, Tryd.ntmps38
     go_wp2_with (first | ((with_reducible refine gate_callee (f := 70) rfl ?_); refine goesL_ (some 8) rfl rfl Tryd.func70 (by kernel_rfl) rfl #[.string a0] rfl zee81 ?_; (with_reducible refine (cmp_isNaN_string.calls a0 false _ A3.out).mono ?_); rintro e w' ⟨rfl, ⟨nd, rfl⟩⟩; refine ⟨_, rfl, ?_⟩) | ((with_reducible refine gate_callee (f := 70) rfl ?_); refine goesL_ (some 10) rfl rfl Tryd.func70 (by kernel_rfl) rfl #[.string a1] rfl zee81 ?_; (with_reducible refine (cmp_isNaN_string.calls a1 true _ A4.out).mono ?_); rintro e w' ⟨rfl, ⟨nd, rfl⟩⟩; refine ⟨_, rfl, ?_⟩))
     go_ret
     exact ⟨z4458, za9de⟩
   · replace c7 := Bool.eq_false_iff.mpr c7
     subst c7
     have H1 : (if (Op.bytesLess a0.toList a1.toList) = true then (some (-1)) else (if (Op.bytesLess a1.toList a0.toList) = true then (some 1) else (some 0))) = some r := by rw [if_neg (show ¬ (false = true) by decide)] at H; exact H
     clear H
     have H := H1
     clear H1
     by_cases c8 : (Op.bytesLess a0.toList a1.toList) = true
     · rw [if_pos c8] at H
       have c8b0 : (Op.bytesLess a0.toList a1.toList) = true := c8
       clear c8
       obtain rfl := Option.some.inj H
       go_enter Tryd.func38, Tryd.ntmps38
       go_wp2_with (first | ((with_reducible refine gate_callee (f := 70) rfl ?_); refine goesL_ (some 8) rfl rfl Tryd.func70 (by kernel_rfl) rfl #[.string a0] rfl zee81 ?_; (with_reducible refine (cmp_isNaN_string.calls a0 false _ A3.out).mono ?_); rintro e w' ⟨rfl, ⟨nd, rfl⟩⟩; refine ⟨_, rfl, ?_⟩) | ((with_reducible refine gate_callee (f := 70) rfl ?_); refine goesL_ (some 10) rfl rfl Tryd.func70 (by kernel_rfl) rfl #[.string a1] rfl zee81 ?_; (with_reducible refine (cmp_isNaN_string.calls a1 false _ A4.out).mono ?_); rintro e w' ⟨rfl, ⟨nd, rfl⟩⟩; refine ⟨_, rfl, ?_⟩))
       go_ret
       exact ⟨z4458, za9de⟩
     · rw [if_neg c8] at H
       have c8b0 : (Op.bytesLess a0.toList a1.toList) = false := by simpa using c8
       clear c8
       by_cases c9 : (Op.bytesLess a1.toList a0.toList) = true
       · rw [if_pos c9] at H
         have c9b0 : (Op.bytesLess a1.toList a0.toList) = true := c9
         clear c9
         obtain rfl := Option.some.inj H
         go_enter Tryd.func38, Tryd.ntmps38
         go_wp2_with (first | ((with_reducible refine gate_callee (f := 70) rfl ?_); refine goesL_ (some 8) rfl rfl Tryd.func70 (by kernel_rfl) rfl #[.string a0] rfl zee81 ?_; (with_reducible refine (cmp_isNaN_string.calls a0 false _ A3.out).mono ?_); rintro e w' ⟨rfl, ⟨nd, rfl⟩⟩; refine ⟨_, rfl, ?_⟩) | ((with_reducible refine gate_callee (f := 70) rfl ?_); refine goesL_ (some 10) rfl rfl Tryd.func70 (by kernel_rfl) rfl #[.string a1] rfl zee81 ?_; (with_reducible refine (cmp_isNaN_string.calls a1 false _ A4.out).mono ?_); rintro e w' ⟨rfl, ⟨nd, rfl⟩⟩; refine ⟨_, rfl, ?_⟩))
         go_ret
         exact ⟨z4458, za9de⟩
       · rw [if_neg c9] at H
         have c9b0 : (Op.bytesLess a1.toList a0.toList) = false := by simpa using c9
         clear c9
         obtain rfl := Option.some.inj H
         go_enter Tryd.func38, Tryd.ntmps38
         go_wp2_with (first | ((with_reducible refine gate_callee (f := 70) rfl ?_); refine goesL_ (some 8) rfl rfl Tryd.func70 (by kernel_rfl) rfl #[.string a0] rfl zee81 ?_; (with_reducible refine (cmp_isNaN_string.calls a0 false _ A3.out).mono ?_); rintro e w' ⟨rfl, ⟨nd, rfl⟩⟩; refine ⟨_, rfl, ?_⟩) | ((with_reducible refine gate_callee (f := 70) rfl ?_); refine goesL_ (some 10) rfl rfl Tryd.func70 (by kernel_rfl) rfl #[.string a1] rfl zee81 ?_; (with_reducible refine (cmp_isNaN_string.calls a1 false _ A4.out).mono ?_); rintro e w' ⟨rfl, ⟨nd, rfl⟩⟩; refine ⟨_, rfl, ?_⟩))
         go_ret
         exact ⟨z4458, za9de⟩

end Go.Proofs.YteogadaloebdaaaDoor.P

-- written by a program of this session's (wip/pp)
namespace Go.Proofs.YteogadaloebdaaaDoor.P
open Go.RowKit Go.Proofs.YteogadaloebdaaaDoorW.PrintWords Go.Proofs.YteogadaloebdaaaDoorW.PrintLast Go.Proofs.YteogadaloebdaaaDoorW.PrintMore
attribute [local go_sem] max2_int min2_int max_two min_two max_three min_three max_four min_four str_geq str_gtr str_leq   -- for this text's walks alone
set_option linter.unusedVariables false
set_option linter.unusedSimpArgs false

/-! ### cmp_isNaN_int: function 71 -/
def cmp_isNaN_int.f (a0 : Int) : Option (Bool) := some (a0 != a0)
set_option maxHeartbeats 8000000 in
set_option maxRecDepth 100000 in
theorem cmp_isNaN_int.calls (a0 : Int) (r : Bool) (w : World) (h : cmp_isNaN_int.f a0 = some r) :
 Calls Tryd.prog 71 #[.int .i64 a0] w fun e w' => e = .returned (.bool r) ∧ Drawn0 w w' := by
 have H : (some (a0 != a0)) = some r := h
 clear h
 obtain rfl := Option.some.inj H
 go_enter Tryd.func71, Tryd.ntmps71
 go_wp2
 go_ret
 exact ⟨z4458, za9de⟩

end Go.Proofs.YteogadaloebdaaaDoor.P

-- written by a program of this session's (wip/pp)
namespace Go.Proofs.YteogadaloebdaaaDoor.P
open Go.RowKit Go.Proofs.YteogadaloebdaaaDoorW.PrintWords Go.Proofs.YteogadaloebdaaaDoorW.PrintLast Go.Proofs.YteogadaloebdaaaDoorW.PrintMore
attribute [local go_sem] max2_int min2_int max_two min_two max_three min_three max_four min_four str_geq str_gtr str_leq   -- for this text's walks alone
set_option linter.unusedVariables false
set_option linter.unusedSimpArgs false

/-! ### cmp_Compare_int: function 39 -/
def cmp_Compare_int.f (a0 : Int) (a1 : Int) : Option (Int) := (cmp_isNaN_int.f a0).bind fun t101 => ((cmp_isNaN_int.f a1).bind fun t102 => (if t101 = true then (if t102 = true then (some 0) else (some (-1))) else (if t102 = true then (some 1) else (if a0 < a1 then (some (-1)) else (if a0 > a1 then (some 1) else (some 0))))))
set_option maxHeartbeats 8000000 in
set_option maxRecDepth 100000 in
theorem cmp_Compare_int.calls (a0 : Int) (a1 : Int) (r : Int) (w : World) (h : cmp_Compare_int.f a0 a1 = some r) :
 Calls Tryd.prog 39 #[.int .i64 a0, .int .i64 a1] w fun e w' => e = .returned (.int .i64 r) ∧ Drawn0 w w' := by
 have H : ((cmp_isNaN_int.f a0).bind fun t101 => ((cmp_isNaN_int.f a1).bind fun t102 => (if t101 = true then (if t102 = true then (some 0) else (some (-1))) else (if t102 = true then (some 1) else (if a0 < a1 then (some (-1)) else (if a0 > a1 then (some 1) else (some 0))))))) = some r := h
 clear h
 replace H := Option.bind_eq_some_iff.mp H
 obtain ⟨t101, A30, H⟩ := H
 try dsimp only at H
 have A3 := aM A30
 clear A30
 replace H := Option.bind_eq_some_iff.mp H
 obtain ⟨t102, A40, H⟩ := H
 try dsimp only at H
 have A4 := aM A40
 clear A40
 by_cases c5 : t101 = true
 · subst c5
   have H1 : (if t102 = true then (some 0) else (some (-1))) = some r := by rw [if_pos rfl] at H; exact H
   clear H
   have H := H1
   clear H1
   by_cases c6 : t102 = true
   · subst c6
     have H1 : (some 0) = some r := by rw [if_pos rfl] at H; exact H
     clear H
     have H := H1
     clear H1
     obtain rfl := Option.some.inj H
     go_enter Tryd.func39, Tryd.ntmps39
     go_wp2_with (first | ((with_reducible refine gate_callee (f := 71) rfl ?_); refine goesL_ (some 8) rfl rfl Tryd.func71 (by kernel_rfl) rfl #[.int .i64 a0] rfl zee81 ?_; (with_reducible refine (cmp_isNaN_int.calls a0 true _ A3.out).mono ?_); rintro e w' ⟨rfl, ⟨nd, rfl⟩⟩; refine ⟨_, rfl, ?_⟩) | ((with_reducible refine gate_callee (f := 71) rfl ?_); refine goesL_ (some 10) rfl rfl Tryd.func71 (by kernel_rfl) rfl #[.int .i64 a1] rfl zee81 ?_; (with_reducible refine (cmp_isNaN_int.calls a1 true _ A4.out).mono ?_); rintro e w' ⟨rfl, ⟨nd, rfl⟩⟩; refine ⟨_, rfl, ?_⟩))
     go_ret
     exact ⟨z4458, za9de⟩
   · replace c6 := Bool.eq_false_iff.mpr c6
     subst c6
     have H1 : (some (-1)) = some r := by rw [if_neg (show ¬ (false = true) by decide)] at H; exact H
     clear H
     have H := H1
     clear H1
     obtain rfl := Option.some.inj H
     go_enter Tryd.func39, Tryd.ntmps39
     go_wp2_with (first | ((with_reducible refine gate_callee (f := 71) rfl ?_); refine goesL_ (some 8) rfl rfl Tryd.func71 (by kernel_rfl) rfl #[.int .i64 a0] rfl zee81 ?_; (with_reducible refine (cmp_isNaN_int.calls a0 true _ A3.out).mono ?_); rintro e w' ⟨rfl, ⟨nd, rfl⟩⟩; refine ⟨_, rfl, ?_⟩) | ((with_reducible refine gate_callee (f := 71) rfl ?_); refine goesL_ (some 10) rfl rfl Tryd.func71 (by kernel_rfl) rfl #[.int .i64 a1] rfl zee81 ?_; (with_reducible refine (cmp_isNaN_int.calls a1 false _ A4.out).mono ?_); rintro e w' ⟨rfl, ⟨nd, rfl⟩⟩; refine ⟨_, rfl, ?_⟩))
     go_ret
     exact ⟨z4458, za9de⟩
 · replace c5 := Bool.eq_false_iff.mpr c5
   subst c5
   have H1 : (if t102 = true then (some 1) else (if a0 < a1 then (some (-1)) else (if a0 > a1 then (some 1) else (some 0)))) = some r := by rw [if_neg (show ¬ (false = true) by decide)] at H; exact H
   clear H
   have H := H1
   clear H1
   by_cases c7 : t102 = true
   · subst c7
     have H1 : (some 1) = some r := by rw [if_pos rfl] at H; exact H
     clear H
     have H := H1
     clear H1
     obtain rfl := Option.some.inj H
     go_enter Tryd.func39, Tryd.ntmps39
     go_wp2_with (first | ((with_reducible refine gate_callee (f := 71) rfl ?_); refine goesL_ (some 8) rfl rfl Tryd.func71 (by kernel_rfl) rfl #[.int .i64 a0] rfl zee81 ?_; (with_reducible refine (cmp_isNaN_int.calls a0 false _ A3.out).mono ?_); rintro e w' ⟨rfl, ⟨nd, rfl⟩⟩; refine ⟨_, rfl, ?_⟩) | ((with_reducible refine gate_callee (f := 71) rfl ?_); refine goesL_ (some 10) rfl rfl Tryd.func71 (by kernel_rfl) rfl #[.int .i64 a1] rfl zee81 ?_; (with_reducible refine (cmp_isNaN_int.calls a1 true _ A4.out).mono ?_); rintro e w' ⟨rfl, ⟨nd, rfl⟩⟩; refine ⟨_, rfl, ?_⟩))
     go_ret
     exact ⟨z4458, za9de⟩
   · replace c7 := Bool.eq_false_iff.mpr c7
     subst c7
     have H1 : (if a0 < a1 then (some (-1)) else (if a0 > a1 then (some 1) else (some 0))) = some r := by rw [if_neg (show ¬ (false = true) by decide)] at H; exact H
     clear H
     have H := H1
     clear H1
     by_cases c8 : a0 < a1
     · rw [if_pos c8] at H
       have c8b0 : decide (a0 < a1) = true := decide_eq_true c8
       clear c8
       obtain rfl := Option.some.inj H
       go_enter Tryd.func39, Tryd.ntmps39
       go_wp2_with (first | ((with_reducible refine gate_callee (f := 71) rfl ?_); refine goesL_ (some 8) rfl rfl Tryd.func71 (by kernel_rfl) rfl #[.int .i64 a0] rfl zee81 ?_; (with_reducible refine (cmp_isNaN_int.calls a0 false _ A3.out).mono ?_); rintro e w' ⟨rfl, ⟨nd, rfl⟩⟩; refine ⟨_, rfl, ?_⟩) | ((with_reducible refine gate_callee (f := 71) rfl ?_); refine goesL_ (some 10) rfl rfl Tryd.func71 (by kernel_rfl) rfl #[.int .i64 a1] rfl zee81 ?_; (with_reducible refine (cmp_isNaN_int.calls a1 false _ A4.out).mono ?_); rintro e w' ⟨rfl, ⟨nd, rfl⟩⟩; refine ⟨_, rfl, ?_⟩))
       go_ret
       exact ⟨z4458, za9de⟩
     · rw [if_neg c8] at H
       have c8b0 : decide (a0 < a1) = false := decide_eq_false c8
       clear c8
       by_cases c9 : a0 > a1
       · rw [if_pos c9] at H
         have c9b0 : decide (a1 < a0) = true := decide_eq_true c9
         clear c9
         obtain rfl := Option.some.inj H
         go_enter Tryd.func39, Tryd.ntmps39
         go_wp2_with (first | ((with_reducible refine gate_callee (f := 71) rfl ?_); refine goesL_ (some 8) rfl rfl Tryd.func71 (by kernel_rfl) rfl #[.int .i64 a0] rfl zee81 ?_; (with_reducible refine (cmp_isNaN_int.calls a0 false _ A3.out).mono ?_); rintro e w' ⟨rfl, ⟨nd, rfl⟩⟩; refine ⟨_, rfl, ?_⟩) | ((with_reducible refine gate_callee (f := 71) rfl ?_); refine goesL_ (some 10) rfl rfl Tryd.func71 (by kernel_rfl) rfl #[.int .i64 a1] rfl zee81 ?_; (with_reducible refine (cmp_isNaN_int.calls a1 false _ A4.out).mono ?_); rintro e w' ⟨rfl, ⟨nd, rfl⟩⟩; refine ⟨_, rfl, ?_⟩))
         go_ret
         exact ⟨z4458, za9de⟩
       · rw [if_neg c9] at H
         have c9b0 : decide (a1 < a0) = false := decide_eq_false c9
         clear c9
         obtain rfl := Option.some.inj H
         go_enter Tryd.func39, Tryd.ntmps39
         go_wp2_with (first | ((with_reducible refine gate_callee (f := 71) rfl ?_); refine goesL_ (some 8) rfl rfl Tryd.func71 (by kernel_rfl) rfl #[.int .i64 a0] rfl zee81 ?_; (with_reducible refine (cmp_isNaN_int.calls a0 false _ A3.out).mono ?_); rintro e w' ⟨rfl, ⟨nd, rfl⟩⟩; refine ⟨_, rfl, ?_⟩) | ((with_reducible refine gate_callee (f := 71) rfl ?_); refine goesL_ (some 10) rfl rfl Tryd.func71 (by kernel_rfl) rfl #[.int .i64 a1] rfl zee81 ?_; (with_reducible refine (cmp_isNaN_int.calls a1 false _ A4.out).mono ?_); rintro e w' ⟨rfl, ⟨nd, rfl⟩⟩; refine ⟨_, rfl, ?_⟩))
         go_ret
         exact ⟨z4458, za9de⟩

end Go.Proofs.YteogadaloebdaaaDoor.P

-- written by a program of this session's (wip/pp)
namespace Go.Proofs.YteogadaloebdaaaDoor.P
open Go.RowKit Go.Proofs.YteogadaloebdaaaDoorW.PrintWords Go.Proofs.YteogadaloebdaaaDoorW.PrintLast Go.Proofs.YteogadaloebdaaaDoorW.PrintMore
attribute [local go_sem] max2_int min2_int max_two min_two max_three min_three max_four min_four str_geq str_gtr str_leq   -- for this text's walks alone
set_option linter.unusedVariables false
set_option linter.unusedSimpArgs false

/-! ### impl_CompareKeys_1: function 36 -/
def impl_CompareKeys_1.f (k : Nat) (a0_0 : ByteArray) (a0_1 : ByteArray) (a1_0 : ByteArray) (a1_1 : ByteArray) : Option (Int) := (cmp_Compare_string.f a0_0 a1_0).bind fun t103 => ((cmp_Compare_string.f a0_1 a1_1).bind fun t104 => ((cmp_Or_int.f k (([t103, t104] : List Int))).bind fun t108 => (some t108)))
theorem impl_CompareKeys_1.mono : ∀ a0 a1 a2 a3 k, LeO (impl_CompareKeys_1.f k a0 a1 a2 a3) (impl_CompareKeys_1.f (k + 1) a0 a1 a2 a3) := by
 intro a0 a1 a2 a3 k
 unfold impl_CompareKeys_1.f
 repeat' first
  | (with_reducible first | exact cmp_Or_int.mono .. | exact LeO.refl _ | exact LeO.none _ | refine LeO.ite ?_ ?_ | refine LeO.bind ?_ (fun _ => ?_))
  | exact LeO.none _
  | refine LeO.ite ?_ ?_
  | refine LeO.bind ?_ (fun _ => ?_)
def impl_CompareKeys_1.T1 : Bool × List (List Nat × List Nat) := (true, [([], []), ([0], [0]), ([], []), ([2], [2]), ([1, 3], [1, 3]), ([], []), ([5], [5]), ([], []), ([7], [7]), ([6, 8, 4], [6, 8]), ([4, 9], [4, 9]), ([10, 9], [10]), ([11, 11, 0, 1, 2, 3, 4, 5, 6, 7, 8, 9, 10, 11], [11])])
def impl_CompareKeys_1.B1 : List Nat := [0, 1, 0, 4, 15, 0, 32, 0, 128, 511, 1023, 2047, 4095]
theorem impl_CompareKeys_1.tab1 : rtab .any (opsOf Tryd.f36 1) = impl_CompareKeys_1.T1 := by kernel_rfl
theorem impl_CompareKeys_1.bits1 : waitsOk impl_CompareKeys_1.T1.2 impl_CompareKeys_1.B1 = true := by kernel_rfl
set_option maxHeartbeats 8000000 in
set_option maxRecDepth 100000 in
theorem impl_CompareKeys_1.calls (k : Nat) (a0_0 : ByteArray) (a0_1 : ByteArray) (a1_0 : ByteArray) (a1_1 : ByteArray) (r : Int) (w : World) (h : impl_CompareKeys_1.f k a0_0 a0_1 a1_0 a1_1 = some r) :
 Calls Tryd.prog 36 #[.agg #[.string a0_0, .string a0_1], .agg #[.string a1_0, .string a1_1]] w fun e w' => e = .returned (.int .i64 r) ∧ Below w.heap.size w w' := by
 have hu69 := Tryd.underlying69
 have HB := aM (Below.refl w.heap.size w)
 have H : ((cmp_Compare_string.f a0_0 a1_0).bind fun t103 => ((cmp_Compare_string.f a0_1 a1_1).bind fun t104 => ((cmp_Or_int.f k (([t103, t104] : List Int))).bind fun t108 => (some t108)))) = some r := h
 clear h
 replace H := Option.bind_eq_some_iff.mp H
 obtain ⟨t103, A30, H⟩ := H
 try dsimp only at H
 have A3 := aM A30
 clear A30
 replace H := Option.bind_eq_some_iff.mp H
 obtain ⟨t104, A40, H⟩ := H
 try dsimp only at H
 have A4 := aM A40
 clear A40
 obtain ⟨y105, hy105⟩ : ∃ y_ : List Int, y_ = (([t103, t104] : List Int)) := ⟨_, rfl⟩
 replace H : ((cmp_Or_int.f k y105).bind fun t108 => (some t108)) = some r := by first | (rw [hy105]; with_reducible exact H) | (have H2_ := (Option.bind_some _ _).symm.trans H; rw [hy105]; with_reducible exact H2_) | (have H2_ := (Option.bind_some _ _).symm.trans H; with_reducible exact H2_) | with_reducible exact H | (rw [hy105]; exact H) | exact H
 have Ny105 := aM hy105
 clear hy105
 replace H := Option.bind_eq_some_iff.mp H
 obtain ⟨t108, A50, H⟩ := H
 try dsimp only at H
 have A5 := aM A50
 clear A50
 obtain rfl := Option.some.inj H
 go_enter Tryd.func36, Tryd.ntmps36
 try go_wp2_with (first | ((with_reducible refine gate_dst (N := 2) rfl ?_); refine box_event ?hg (N := 2) ?hd (cs := #[.string a0_0, .string a0_1]) (t := 69) ?hr ?_; (case hd => rfl); (case hg => rfl); (case hr => first | (go_simp; done) | (go_simp; rfl)); intro gb101 hg w6 hbox hb; have _ := aM (below_step hbZ hb); have _ := aM hbox; have _ := szZ hg; have _ := szZ hg; clear HB; rename_i HB BK101 GW101 GE101; clear hb hbox hg) | ((with_reducible refine gate_dst (N := 3) rfl ?_); refine box_event ?hg (N := 3) ?hd (cs := #[.string a1_0, .string a1_1]) (t := 69) ?hr ?_; (case hd => rfl); (case hg => rfl); (case hr => first | (go_simp; done) | (go_simp; rfl)); intro gb102 hg w7 hbox hb; have _ := bB gb101 hb; have _ := aM (below_step hbZ hb); have _ := aM hbox; have _ := szZ hg; have _ := szZ hg; have ⟨_, _⟩ := nbB gb101 hg; clear BK101 HB; rename_i BK101 HB BK102 GW102 GE102 NB101_102 NB102_101; clear hb hbox hg))
 have _ := aM (blk_drew BK101.out)
 have _ := aM (blk_drew BK102.out)
 have _ := aM (below_drew1 HB.out)
 clear BK101
 clear BK102
 clear HB
 rename_i BK101 BK102 HB
 refine start_ (n := 13) (S := fun w' => w'.cell? ⟨gb101, 0, none⟩ = some (.string a0_0) ∧ w'.cell? ⟨gb101, 1, none⟩ = some (.string a0_1) ∧ w'.cell? ⟨gb102, 0, none⟩ = some (.string a1_0) ∧ w'.cell? ⟨gb102, 1, none⟩ = some (.string a1_1)) (ds := []) #[false, false, false, false, false, false, false, false, false, false, false, false, false] (by kernel_rfl) rfl rfl ⟨(blk_cell BK101.out 0).trans rfl, (blk_cell BK101.out 1).trans rfl, (blk_cell BK102.out 0).trans rfl, (blk_cell BK102.out 1).trans rfl⟩ (fun hHeld => ?_); refine with_tabW impl_CompareKeys_1.tab1 impl_CompareKeys_1.bits1 (fun HT_ HW_ => ?_)
 generalize w7.drew = w8 at BK101 BK102 HB hHeld ⊢
 refine pure_ (i := 0) (N := some 5) (v := ?_) (a' := ?_) #[true, false, false, false, false, false, false, false, false, false, false, false, false] rfl rfl (any_of HT_.out (by kernel_rfl)) (fun _ _ _ h => h) (Or.inl ⟨by rfl, ?_⟩) ?_ ?_
 rotate_left
 · intro w'
   go_simp
   with_reducible rfl
 rotate_left
 · simp only [Act.put, List.setIfInBounds_toArray, List.set_cons_zero, List.set_cons_succ, i64_w, i32_w]
   rfl
 refine pure_ (i := 2) (N := some 7) (v := ?_) (a' := ?_) #[true, false, true, false, false, false, false, false, false, false, false, false, false] rfl rfl (any_of HT_.out (by kernel_rfl)) (fun _ _ _ h => h) (Or.inl ⟨by rfl, ?_⟩) ?_ ?_
 rotate_left
 · intro w'
   go_simp
   with_reducible rfl
 rotate_left
 · simp only [Act.put, List.setIfInBounds_toArray, List.set_cons_zero, List.set_cons_succ, i64_w, i32_w]
   rfl
 refine pure_ (i := 5) (N := some 10) (v := ?_) (a' := ?_) #[true, false, true, false, false, true, false, false, false, false, false, false, false] rfl rfl (any_of HT_.out (by kernel_rfl)) (fun _ _ _ h => h) (Or.inl ⟨by rfl, ?_⟩) ?_ ?_
 rotate_left
 · intro w'
   go_simp
   with_reducible rfl
 rotate_left
 · simp only [Act.put, List.setIfInBounds_toArray, List.set_cons_zero, List.set_cons_succ, i64_w, i32_w]
   rfl
 refine pure_ (i := 7) (N := some 12) (v := ?_) (a' := ?_) #[true, false, true, false, false, true, false, true, false, false, false, false, false] rfl rfl (any_of HT_.out (by kernel_rfl)) (fun _ _ _ h => h) (Or.inl ⟨by rfl, ?_⟩) ?_ ?_
 rotate_left
 · intro w'
   go_simp
   with_reducible rfl
 rotate_left
 · simp only [Act.put, List.setIfInBounds_toArray, List.set_cons_zero, List.set_cons_succ, i64_w, i32_w]
   rfl
 refine take_ (i := 1) (N := some 6) (v := ?_) (a' := ?_) #[true, true, true, false, false, true, false, true, false, false, false, false, false] rfl rfl (take_ofW HT_.out HW_.out (by kernel_rfl)) (fun _ _ _ h => h) (Or.inl ⟨by rfl, ?_⟩) hHeld ?_ ?_
 rotate_left
 · rintro w' ⟨s0, s1, s2, s3⟩
   go_simp
   with_reducible rfl
 rotate_left
 · simp only [Act.put, List.setIfInBounds_toArray, List.set_cons_zero, List.set_cons_succ, i64_w, i32_w]
   rfl
 refine take_ (i := 3) (N := some 8) (v := ?_) (a' := ?_) #[true, true, true, true, false, true, false, true, false, false, false, false, false] rfl rfl (take_ofW HT_.out HW_.out (by kernel_rfl)) (fun _ _ _ h => h) (Or.inl ⟨by rfl, ?_⟩) hHeld ?_ ?_
 rotate_left
 · rintro w' ⟨s0, s1, s2, s3⟩
   go_simp
   with_reducible rfl
 rotate_left
 · simp only [Act.put, List.setIfInBounds_toArray, List.set_cons_zero, List.set_cons_succ, i64_w, i32_w]
   rfl
 refine take_ (i := 6) (N := some 11) (v := ?_) (a' := ?_) #[true, true, true, true, false, true, true, true, false, false, false, false, false] rfl rfl (take_ofW HT_.out HW_.out (by kernel_rfl)) (fun _ _ _ h => h) (Or.inl ⟨by rfl, ?_⟩) hHeld ?_ ?_
 rotate_left
 · rintro w' ⟨s0, s1, s2, s3⟩
   go_simp
   with_reducible rfl
 rotate_left
 · simp only [Act.put, List.setIfInBounds_toArray, List.set_cons_zero, List.set_cons_succ, i64_w, i32_w]
   rfl
 refine take_ (i := 8) (N := some 13) (v := ?_) (a' := ?_) #[true, true, true, true, false, true, true, true, true, false, false, false, false] rfl rfl (take_ofW HT_.out HW_.out (by kernel_rfl)) (fun _ _ _ h => h) (Or.inl ⟨by rfl, ?_⟩) hHeld ?_ ?_
 rotate_left
 · rintro w' ⟨s0, s1, s2, s3⟩
   go_simp
   with_reducible rfl
 rotate_left
 · simp only [Act.put, List.setIfInBounds_toArray, List.set_cons_zero, List.set_cons_succ, i64_w, i32_w]
   rfl
 refine one_ (i := 4) (N := some 9) #[true, true, true, true, true, true, true, true, true, false, false, false, false] rfl rfl (one_of HT_.out (by kernel_rfl)) (by decide) (fun K hK => ?_)
 refine goes_ Tryd.func38 (by kernel_rfl) rfl #[.string a0_0, .string a1_0] (by rfl) rfl rfl zee81 ?_
 with_reducible refine (cmp_Compare_string.calls a0_0 a1_0 t103 _ A3.out).mono ?_
 rintro e w' ⟨rfl, ⟨nd, rfl⟩⟩
 refine ⟨_, rfl, ?_⟩
 refine hK.out _ _ ⟨(blk_cell BK101.out 0).trans rfl, (blk_cell BK101.out 1).trans rfl, (blk_cell BK102.out 0).trans rfl, (blk_cell BK102.out 1).trans rfl⟩ (fun hHeld => ?_)
 clear hK K
 refine norm_ (a' := ?_) ?_ ?_
 rotate_left
 · show Act.put _ (some 9) _ = _
   simp only [Act.put, List.setIfInBounds_toArray, List.set_cons_zero, List.set_cons_succ, i64_w, i32_w]
   rfl
 refine one_ (i := 9) (N := some 14) #[true, true, true, true, true, true, true, true, true, true, false, false, false] rfl rfl (one_of HT_.out (by kernel_rfl)) (by decide) (fun K hK => ?_)
 refine goes_ Tryd.func38 (by kernel_rfl) rfl #[.string a0_1, .string a1_1] (by rfl) rfl rfl zee81 ?_
 with_reducible refine (cmp_Compare_string.calls a0_1 a1_1 t104 _ A4.out).mono ?_
 rintro e w' ⟨rfl, ⟨nd, rfl⟩⟩
 refine ⟨_, rfl, ?_⟩
 refine hK.out _ _ ⟨(blk_cell BK101.out 0).trans rfl, (blk_cell BK101.out 1).trans rfl, (blk_cell BK102.out 0).trans rfl, (blk_cell BK102.out 1).trans rfl⟩ (fun hHeld => ?_)
 clear hK K
 refine norm_ (a' := ?_) ?_ ?_
 rotate_left
 · show Act.put _ (some 14) _ = _
   simp only [Act.put, List.setIfInBounds_toArray, List.set_cons_zero, List.set_cons_succ, i64_w, i32_w]
   rfl
 refine one_ (i := 10) (N := some 15) #[true, true, true, true, true, true, true, true, true, true, true, false, false] rfl rfl (one_of HT_.out (by kernel_rfl)) (by decide) (fun K hK => ?_)
 refine Kd.R_lit_step (Kd.int .i64) _ 3 ?hg (N := 15) ?hd (xs := ([t103, t104] : List Int)) (inner := [.int .i64 t103, .int .i64 t104]) (ok := fun _ => True) (okp := fun _ => True) ?hr ?hp (fun _ hk => hk) trivial (Below.refl _ _) (Nat.le_refl _) (by simp) ?_; (case hd => rfl); (case hg => rfl); (case hr => first | (go_simp; done) | (go_simp; rfl)); (case hp => exact (Reps.one (show Kd.M (Kd.int .i64) _ _ _ t103 [.int .i64 t103] from rfl) (Reps.one (show Kd.M (Kd.int .i64) _ _ _ t104 [.int .i64 t104] from rfl) (Reps.none _ _))))
 intro v106 w9 ho10 hb hg_ hnew_
 clear hg_ hnew_
 (first | rw [← Ny105.out] at ho10 | (simp only [Int.reduceToNat] at ho10; rw [← Ny105.out] at ho10))
 have _ := aM (Kd.R_lower ho10 (below_size hbZ))
 have _ := bB gb101 hb
 have _ := bB gb102 hb
 have _ := aM (below_step hbZ hb)
 clear BK101
 clear BK102
 clear HB
 rename_i HO107 BK101 BK102 HB
 clear hb ho10
 obtain ⟨Ao11, co11, eo11⟩ := Kd.R_slice HO107.out
 (first | subst eo11 | (injection eo11 with f1_ f2_ f3_; have f4_ := f1_.symm; have f5_ := f3_.symm; clear f1_ f2_ f3_; subst f4_; subst f5_))
 refine hK.out _ _ ⟨(blk_cell BK101.out 0).trans rfl, (blk_cell BK101.out 1).trans rfl, (blk_cell BK102.out 0).trans rfl, (blk_cell BK102.out 1).trans rfl⟩ (fun hHeld => ?_)
 clear hK K
 refine norm_ (a' := ?_) ?_ ?_
 rotate_left
 · show Act.put _ (some 15) _ = _
   simp only [Act.put, List.setIfInBounds_toArray, List.set_cons_zero, List.set_cons_succ, i64_w, i32_w]
   rfl
 refine one_ (i := 11) (N := some 16) #[true, true, true, true, true, true, true, true, true, true, true, true, false] rfl rfl (one_of HT_.out (by kernel_rfl)) (by decide) (fun K hK => ?_)
 refine goes_ Tryd.func37 (by kernel_rfl) rfl #[.slice Ao11 y105.length co11] (by rfl) rfl rfl zee81 ?_
 with_reducible refine (cmp_Or_int.calls k _ _ y105 t108 _ ?side1 ?side2 A5.out).mono ?_
 (case side1 => exact (by repeat (first | exact (Kd.R_reads' HO107.out).2.2 | (with_reducible refine Kd.C_alloc ?_ _) | (with_reducible refine Kd.C_drewN ?_ _) | (with_reducible refine Kd.C_drew ?_))))
 (case side2 => exact (Kd.R_reads' HO107.out).2.1)
 rintro e w' ⟨rfl, ⟨nd, rfl⟩⟩
 refine ⟨_, rfl, ?_⟩
 refine hK.out _ _ ⟨(blk_cell BK101.out 0).trans rfl, (blk_cell BK101.out 1).trans rfl, (blk_cell BK102.out 0).trans rfl, (blk_cell BK102.out 1).trans rfl⟩ (fun hHeld => ?_)
 clear hK K
 refine norm_ (a' := ?_) ?_ ?_
 rotate_left
 · show Act.put _ (some 16) _ = _
   simp only [Act.put, List.setIfInBounds_toArray, List.set_cons_zero, List.set_cons_succ, i64_w, i32_w]
   rfl
 refine pure_ (i := 12) (N := some 4) (v := ?_) (a' := ?_) #[true, true, true, true, true, true, true, true, true, true, true, true, true] rfl rfl (any_of HT_.out (by kernel_rfl)) (fun _ _ _ h => h) (Or.inl ⟨by rfl, ?_⟩) ?_ ?_
 rotate_left
 · intro w'
   go_simp
   with_reducible rfl
 rotate_left
 · simp only [Act.put, List.setIfInBounds_toArray, List.set_cons_zero, List.set_cons_succ, i64_w, i32_w]
   rfl
 refine done_ (done_of HT_.out (by kernel_rfl)) ?_
 try go_wp2
 go_ret
 exact ⟨z674d, zcb41⟩

end Go.Proofs.YteogadaloebdaaaDoor.P

-- written by a program of this session's (wip/pp)
namespace Go.Proofs.YteogadaloebdaaaDoor.P
open Go.RowKit Go.Proofs.YteogadaloebdaaaDoorW.PrintWords Go.Proofs.YteogadaloebdaaaDoorW.PrintLast Go.Proofs.YteogadaloebdaaaDoorW.PrintMore
attribute [local go_sem] max2_int min2_int max_two min_two max_three min_three max_four min_four str_geq str_gtr str_leq   -- for this text's walks alone
set_option linter.unusedVariables false
set_option linter.unusedSimpArgs false

/-! ### impl_Tag_with_impl_CompareKeys_1: function 10035036 -/
def impl_Tag_with_impl_CompareKeys_1.l0 : Nat → List (S69) → List (S69) → List (S69) → Int → Int → Option (Int)
 | 0, _, _, _, _, _ => none
 | k + 1, x0, x1, x11, x12, x13 => if x13 < x12 then (if 0 ≤ x13 then (if x13 < (x11.length : Int) then (if x13 ≥ (x1.length : Int) then (some 1) else (if x13 < (x1.length : Int) then ((impl_CompareKeys_1.f k ((rd_T69 x11 x13).f0) ((rd_T69 x11 x13).f1) ((rd_T69 x1 x13).f0) ((rd_T69 x1 x13).f1)).bind fun t105 => (if t105 = 0 then (impl_Tag_with_impl_CompareKeys_1.l0 k x0 x1 x11 x12 (wrap64 (x13 + 1))) else (some t105))) else (none))) else (none)) else (none)) else (if (x0.length : Int) < (x1.length : Int) then (some (-1)) else (some 0))
def impl_Tag_with_impl_CompareKeys_1.f (k : Nat) (l0 : List (S69)) (l1 : List (S69))  : Option (Int) := impl_Tag_with_impl_CompareKeys_1.l0 k l0 l1 l0 (l0.length : Int) 0
theorem impl_Tag_with_impl_CompareKeys_1.mono_l : ∀ k, (∀ y0 y1 y2 y3 y4, LeO (impl_Tag_with_impl_CompareKeys_1.l0 k y0 y1 y2 y3 y4) (impl_Tag_with_impl_CompareKeys_1.l0 (k + 1) y0 y1 y2 y3 y4))
 | 0 => fun _ _ _ _ _ r h => by simp [impl_Tag_with_impl_CompareKeys_1.l0] at h
 | k + 1 => by
  have ih0 := impl_Tag_with_impl_CompareKeys_1.mono_l k
  · intro y0 y1 y2 y3 y4
    unfold impl_Tag_with_impl_CompareKeys_1.l0
    repeat' first
     | (with_reducible first | exact ih0 .. | exact impl_CompareKeys_1.mono .. | exact LeO.refl _ | exact LeO.none _ | refine LeO.ite ?_ ?_ | refine LeO.bind ?_ (fun _ => ?_))
     | exact LeO.none _
     | refine LeO.ite ?_ ?_
     | refine LeO.bind ?_ (fun _ => ?_)
theorem impl_Tag_with_impl_CompareKeys_1.mono : ∀ a0 a1 k, LeO (impl_Tag_with_impl_CompareKeys_1.f k a0 a1) (impl_Tag_with_impl_CompareKeys_1.f (k + 1) a0 a1) := by
 intro a0 a1 k
 have ih0 := impl_Tag_with_impl_CompareKeys_1.mono_l k
 unfold impl_Tag_with_impl_CompareKeys_1.f
 repeat' first
  | (with_reducible first | exact ih0 .. | exact impl_CompareKeys_1.mono .. | exact LeO.refl _ | exact LeO.none _ | refine LeO.ite ?_ ?_ | refine LeO.bind ?_ (fun _ => ?_))
  | exact LeO.none _
  | refine LeO.ite ?_ ?_
  | refine LeO.bind ?_ (fun _ => ?_)
set_option maxHeartbeats 8000000 in
set_option maxRecDepth 100000 in
theorem impl_Tag_with_impl_CompareKeys_1.calls (k : Nat) (A0 : Option Addr) (c0 : Nat) (l0 : List (S69)) (A1 : Option Addr) (c1 : Nat) (l1 : List (S69))  (r : Int) (w : World) (hr0 : Kd.C k69 w A0 l0.length l0) (hc0 : l0.length ≤ c0) (hr1 : Kd.C k69 w A1 l1.length l1) (hc1 : l1.length ≤ c1) (h : impl_Tag_with_impl_CompareKeys_1.f k l0 l1 = some r) :
 Calls Tryd.prog 35 #[.slice A0 l0.length c0, .slice A1 l1.length c1, .func (.func 36) #[] #[]] w fun e w' => e = .returned (.int .i64 r) ∧ Below w.heap.size w w' := by
 have hu69 := Tryd.underlying69
 have HR0 := aM hr0
 have HC0 := aM hc0
 clear hr0 hc0
 have HR1 := aM hr1
 have HC1 := aM hc1
 clear hr1 hc1
 have HB := aM (Below.refl w.heap.size w)
 have H : (impl_Tag_with_impl_CompareKeys_1.l0 k l0 l1 l0 (l0.length : Int) 0) = some r := h
 clear h
 have H' := aM H
 clear H
 go_enter Tryd.func35, Tryd.ntmps35
 go_wp2
 go_loopg [13] k (fun kq v13 w' => ∃ (x13_1 : Int), v13 = .int .i64 x13_1 ∧ Aside0 (impl_Tag_with_impl_CompareKeys_1.l0 kq l0 l1 l0 (l0.length : Int) x13_1 = some r) ∧ Aside0 (kq ≤ k) ∧ Aside0 (Below w.heap.size w w'))
 case atStart => exact ⟨(0), z4458, H', ⟨Nat.le_refl _⟩, ⟨z5acd⟩⟩
 case round =>
  clear H'
  try clear c1
  try clear p2
  try clear c3
  obtain ⟨x13_1, rfl, HA, HK1, HB⟩ := hrel
  cases gk with
  | zero => exact absurd HA.out (by simp [impl_Tag_with_impl_CompareKeys_1.l0])
  | succ k1 =>
   have H := HA.out
   clear HA
   simp only [impl_Tag_with_impl_CompareKeys_1.l0] at H
   by_cases c4 : x13_1 < (l0.length : Int)
   · rw [if_pos c4] at H
     have c4b0 : decide (x13_1 < (l0.length : Int)) = true := decide_eq_true c4
     clear c4
     by_cases c5 : 0 ≤ x13_1
     · rw [if_pos c5] at H
       have c5b0 : decide (0 ≤ x13_1) = true := decide_eq_true c5
       clear c5
       by_cases c6 : x13_1 < (l0.length : Int)
       · rw [if_pos c6] at H
         have c6b0 : decide (x13_1 < (l0.length : Int)) = true := decide_eq_true c6
         clear c6
         by_cases c7 : x13_1 ≥ (l1.length : Int)
         · rw [if_pos c7] at H
           have c7b0 : decide ((l1.length : Int) ≤ x13_1) = true := decide_eq_true c7
           clear c7
           obtain rfl := Option.some.inj H
           have p101 : 0 ≤ (x13_1 : Int) := of_decide_eq_true z1200
           have q101 : x13_1 < (l0.length : Int) := of_decide_eq_true z1200
           obtain ⟨ad101, e101, hx101_0, hx101_1⟩ := at_T69 HR0.out x13_1 p101 q101
           cases e101
           replace hx101_0 := (HB.out.cell (World.block_lt_of_cell? w _ hx101_0)).trans hx101_0
           replace hx101_1 := (HB.out.cell (World.block_lt_of_cell? w _ hx101_1)).trans hx101_1
           replace p101 := eq_true p101
           replace q101 := eq_true q101
           go_wp2_with (first | ((with_reducible refine gate_dst (N := 8) rfl ?_); refine box_event ?hg (N := 8) ?hd (cs := #[.string (⟨#[]⟩ : ByteArray), .string (⟨#[]⟩ : ByteArray)]) (t := 69) ?hr ?_; (case hd => rfl); (case hg => rfl); (case hr => first | (go_simp; done) | (go_simp; rfl)); intro gb102 hg w8 hbox hb; have _ := aM (below_step hbZ hb); have _ := aM hbox; have _ := szZ hg; have _ := szZ hg; clear HB; rename_i HB BK102 GW102 GE102; clear hb hbox hg; obtain ⟨hcz9_0, hcz9_1, hfz9_0, hfz9_1⟩ := cellsZ2 BK102.out))
           go_ret
           exact ⟨z674d, zcb41⟩
         · rw [if_neg c7] at H
           have c7b0 : decide ((l1.length : Int) ≤ x13_1) = false := decide_eq_false c7
           clear c7
           by_cases c10 : x13_1 < (l1.length : Int)
           · rw [if_pos c10] at H
             have c10b0 : decide (x13_1 < (l1.length : Int)) = true := decide_eq_true c10
             clear c10
             replace H := Option.bind_eq_some_iff.mp H
             obtain ⟨t105, A110, H⟩ := H
             try dsimp only at H
             have A11 := aM A110
             clear A110
             by_cases c12 : t105 = 0
             · rw [if_pos c12] at H
               have c12b0 : (t105 == 0) = true := beq_iff_eq.mpr c12
               have c12b1 : (t105 != 0) = false := bne_eq_false_iff_eq.mpr c12
               clear c12
               have H' := aM H
               clear H
               have p101 : 0 ≤ (x13_1 : Int) := of_decide_eq_true z1200
               have q101 : x13_1 < (l0.length : Int) := of_decide_eq_true z1200
               obtain ⟨ad101, e101, hx101_0, hx101_1⟩ := at_T69 HR0.out x13_1 p101 q101
               cases e101
               replace hx101_0 := (HB.out.cell (World.block_lt_of_cell? w _ hx101_0)).trans hx101_0
               replace hx101_1 := (HB.out.cell (World.block_lt_of_cell? w _ hx101_1)).trans hx101_1
               replace p101 := eq_true p101
               replace q101 := eq_true q101
               go_wp2_with (first | ((with_reducible refine gate_dst (N := 8) rfl ?_); refine box_event ?hg (N := 8) ?hd (cs := #[.string (⟨#[]⟩ : ByteArray), .string (⟨#[]⟩ : ByteArray)]) (t := 69) ?hr ?_; (case hd => rfl); (case hg => rfl); (case hr => first | (go_simp; done) | (go_simp; rfl)); intro gb102 hg w13 hbox hb; have _ := aM (below_step hbZ hb); have _ := aM hbox; have _ := szZ hg; have _ := szZ hg; clear HB; rename_i HB BK102 GW102 GE102; clear hb hbox hg; obtain ⟨hcz14_0, hcz14_1, hfz14_0, hfz14_1⟩ := cellsZ2 BK102.out; have p103 : 0 ≤ (x13_1 : Int) := of_decide_eq_true z1200; have q103 : x13_1 < (l1.length : Int) := of_decide_eq_true z1200; obtain ⟨ad103, e103, hx103_0, hx103_1⟩ := at_T69 HR1.out x13_1 p103 q103; cases e103; have hn103_0 : ad103.block ≠ gb102 := Nat.ne_of_lt (Nat.lt_of_lt_of_le (by have := World.block_lt_of_cell? _ _ hx103_0; first | rwa [add_block] at this | exact this) GW102.out); have hn103_1 : ad103.block ≠ gb102 := Nat.ne_of_lt (Nat.lt_of_lt_of_le (by have := World.block_lt_of_cell? _ _ hx103_0; first | rwa [add_block] at this | exact this) GW102.out); replace hx103_0 := (HB.out.cell (World.block_lt_of_cell? w _ hx103_0)).trans hx103_0; replace hx103_1 := (HB.out.cell (World.block_lt_of_cell? w _ hx103_1)).trans hx103_1; replace hx103_0 := (cell_far (p := ⟨gb102, 0, none⟩) (by first | (rw [add_block]; exact hn103_0) | (show (Addr.add _ _).block ≠ _; rw [add_block]; exact hn103_0) | exact hn103_0) (.string ((rd_T69 l0 x13_1).f0))).trans hx103_0; replace hx103_1 := (cell_far (p := ⟨gb102, 0, none⟩) (by first | (rw [add_block]; exact hn103_0) | (show (Addr.add _ _).block ≠ _; rw [add_block]; exact hn103_0) | exact hn103_0) (.string ((rd_T69 l0 x13_1).f0))).trans hx103_1; replace hx103_0 := (cell_far (p := ⟨gb102, 1, none⟩) (by first | (rw [add_block]; exact hn103_1) | (show (Addr.add _ _).block ≠ _; rw [add_block]; exact hn103_1) | exact hn103_1) (.string ((rd_T69 l0 x13_1).f1))).trans hx103_0; replace hx103_1 := (cell_far (p := ⟨gb102, 1, none⟩) (by first | (rw [add_block]; exact hn103_1) | (show (Addr.add _ _).block ≠ _; rw [add_block]; exact hn103_1) | exact hn103_1) (.string ((rd_T69 l0 x13_1).f1))).trans hx103_1; clear hn103_0 hn103_1; replace p103 := eq_true p103; replace q103 := eq_true q103) | ((with_reducible refine gate_dst (N := 9) rfl ?_); refine box_event ?hg (N := 9) ?hd (cs := #[.string (⟨#[]⟩ : ByteArray), .string (⟨#[]⟩ : ByteArray)]) (t := 69) ?hr ?_; (case hd => rfl); (case hg => rfl); (case hr => first | (go_simp; done) | (go_simp; rfl)); intro gb104 hg w15 hbox hb; have _ := aM (blk_below (g := gb102) (o := .cells #[.string ((rd_T69 l0 x13_1).f0), .string ((rd_T69 l0 x13_1).f1)] 69 (0, 0)) bkZ hb); have _ := aM (below_step hbZ hb); have _ := aM hbox; have _ := szZ hg; have _ := szZ hg; have ⟨_, _⟩ := nbB gb102 hg; clear BK102 HB; rename_i BK102 HB BK104 GW104 GE104 NB102_104 NB104_102; clear hb hbox hg; have hnb16 := NB104_102.out; have hnc16 := NB102_104.out; obtain ⟨hcz17_0, hcz17_1, hfz17_0, hfz17_1⟩ := cellsZ2 BK104.out; obtain ⟨hcz18_0, hcz18_1, hfz18_0, hfz18_1⟩ := cellsZ2 BK102.out) | (go_at_call 36; (with_reducible refine (impl_CompareKeys_1.calls k1 ((rd_T69 l0 x13_1).f0) ((rd_T69 l0 x13_1).f1) ((rd_T69 l1 x13_1).f0) ((rd_T69 l1 x13_1).f1) t105 _ A11.out).mono ?_); rintro e w19 ⟨rfl, hb⟩; have _ := bB gb102 hb; have _ := aM (blk_below (g := gb104) (o := .cells #[.string ((rd_T69 l1 x13_1).f0), .string ((rd_T69 l1 x13_1).f1)] 69 (0, 0)) bkZ hb); have _ := aM (below_step hbZ hb); clear BK102 BK104 HB; rename_i BK102 BK104 HB; (try clear hb)))
               go_roundg k1
               case measure => have := HK1.out; omega
               case rel => exact ⟨(wrap64 (x13_1 + 1)), z4458, H', ⟨zfb39⟩, ⟨zcb41⟩⟩
             · rw [if_neg c12] at H
               have c12b0 : (t105 == 0) = false := beq_eq_false_iff_ne.mpr c12
               have c12b1 : (t105 != 0) = true := bne_iff_ne.mpr c12
               obtain rfl := Option.some.inj H
               have p101 : 0 ≤ (x13_1 : Int) := of_decide_eq_true z1200
               have q101 : x13_1 < (l0.length : Int) := of_decide_eq_true z1200
               obtain ⟨ad101, e101, hx101_0, hx101_1⟩ := at_T69 HR0.out x13_1 p101 q101
               cases e101
               replace hx101_0 := (HB.out.cell (World.block_lt_of_cell? w _ hx101_0)).trans hx101_0
               replace hx101_1 := (HB.out.cell (World.block_lt_of_cell? w _ hx101_1)).trans hx101_1
               replace p101 := eq_true p101
               replace q101 := eq_true q101
               go_wp2_with (first | ((with_reducible refine gate_dst (N := 8) rfl ?_); refine box_event ?hg (N := 8) ?hd (cs := #[.string (⟨#[]⟩ : ByteArray), .string (⟨#[]⟩ : ByteArray)]) (t := 69) ?hr ?_; (case hd => rfl); (case hg => rfl); (case hr => first | (go_simp; done) | (go_simp; rfl)); intro gb102 hg w20 hbox hb; have _ := aM (below_step hbZ hb); have _ := aM hbox; have _ := szZ hg; have _ := szZ hg; clear HB; rename_i HB BK102 GW102 GE102; clear hb hbox hg; obtain ⟨hcz21_0, hcz21_1, hfz21_0, hfz21_1⟩ := cellsZ2 BK102.out; have p103 : 0 ≤ (x13_1 : Int) := of_decide_eq_true z1200; have q103 : x13_1 < (l1.length : Int) := of_decide_eq_true z1200; obtain ⟨ad103, e103, hx103_0, hx103_1⟩ := at_T69 HR1.out x13_1 p103 q103; cases e103; have hn103_0 : ad103.block ≠ gb102 := Nat.ne_of_lt (Nat.lt_of_lt_of_le (by have := World.block_lt_of_cell? _ _ hx103_0; first | rwa [add_block] at this | exact this) GW102.out); have hn103_1 : ad103.block ≠ gb102 := Nat.ne_of_lt (Nat.lt_of_lt_of_le (by have := World.block_lt_of_cell? _ _ hx103_0; first | rwa [add_block] at this | exact this) GW102.out); replace hx103_0 := (HB.out.cell (World.block_lt_of_cell? w _ hx103_0)).trans hx103_0; replace hx103_1 := (HB.out.cell (World.block_lt_of_cell? w _ hx103_1)).trans hx103_1; replace hx103_0 := (cell_far (p := ⟨gb102, 0, none⟩) (by first | (rw [add_block]; exact hn103_0) | (show (Addr.add _ _).block ≠ _; rw [add_block]; exact hn103_0) | exact hn103_0) (.string ((rd_T69 l0 x13_1).f0))).trans hx103_0; replace hx103_1 := (cell_far (p := ⟨gb102, 0, none⟩) (by first | (rw [add_block]; exact hn103_0) | (show (Addr.add _ _).block ≠ _; rw [add_block]; exact hn103_0) | exact hn103_0) (.string ((rd_T69 l0 x13_1).f0))).trans hx103_1; replace hx103_0 := (cell_far (p := ⟨gb102, 1, none⟩) (by first | (rw [add_block]; exact hn103_1) | (show (Addr.add _ _).block ≠ _; rw [add_block]; exact hn103_1) | exact hn103_1) (.string ((rd_T69 l0 x13_1).f1))).trans hx103_0; replace hx103_1 := (cell_far (p := ⟨gb102, 1, none⟩) (by first | (rw [add_block]; exact hn103_1) | (show (Addr.add _ _).block ≠ _; rw [add_block]; exact hn103_1) | exact hn103_1) (.string ((rd_T69 l0 x13_1).f1))).trans hx103_1; clear hn103_0 hn103_1; replace p103 := eq_true p103; replace q103 := eq_true q103) | ((with_reducible refine gate_dst (N := 9) rfl ?_); refine box_event ?hg (N := 9) ?hd (cs := #[.string (⟨#[]⟩ : ByteArray), .string (⟨#[]⟩ : ByteArray)]) (t := 69) ?hr ?_; (case hd => rfl); (case hg => rfl); (case hr => first | (go_simp; done) | (go_simp; rfl)); intro gb104 hg w22 hbox hb; have _ := aM (blk_below (g := gb102) (o := .cells #[.string ((rd_T69 l0 x13_1).f0), .string ((rd_T69 l0 x13_1).f1)] 69 (0, 0)) bkZ hb); have _ := aM (below_step hbZ hb); have _ := aM hbox; have _ := szZ hg; have _ := szZ hg; have ⟨_, _⟩ := nbB gb102 hg; clear BK102 HB; rename_i BK102 HB BK104 GW104 GE104 NB102_104 NB104_102; clear hb hbox hg; have hnb23 := NB104_102.out; have hnc23 := NB102_104.out; obtain ⟨hcz24_0, hcz24_1, hfz24_0, hfz24_1⟩ := cellsZ2 BK104.out; obtain ⟨hcz25_0, hcz25_1, hfz25_0, hfz25_1⟩ := cellsZ2 BK102.out) | (go_at_call 36; (with_reducible refine (impl_CompareKeys_1.calls k1 ((rd_T69 l0 x13_1).f0) ((rd_T69 l0 x13_1).f1) ((rd_T69 l1 x13_1).f0) ((rd_T69 l1 x13_1).f1) t105 _ A11.out).mono ?_); rintro e w26 ⟨rfl, hb⟩; have _ := bB gb102 hb; have _ := aM (blk_below (g := gb104) (o := .cells #[.string ((rd_T69 l1 x13_1).f0), .string ((rd_T69 l1 x13_1).f1)] 69 (0, 0)) bkZ hb); have _ := aM (below_step hbZ hb); clear BK102 BK104 HB; rename_i BK102 BK104 HB; (try clear hb)))
               go_ret
               exact ⟨z674d, zcb41⟩
           · rw [if_neg c10] at H
             exact absurd H (by simp)
       · rw [if_neg c6] at H
         exact absurd H (by simp)
     · rw [if_neg c5] at H
       exact absurd H (by simp)
   · rw [if_neg c4] at H
     have c4b0 : decide (x13_1 < (l0.length : Int)) = false := decide_eq_false c4
     clear c4
     by_cases c27 : (l0.length : Int) < (l1.length : Int)
     · rw [if_pos c27] at H
       have c27b0 : decide ((l0.length : Int) < (l1.length : Int)) = true := decide_eq_true c27
       have c27b1 : decide (l0.length < l1.length) = true := decide_eq_true (Int.ofNat_lt.mp c27)
       clear c27
       obtain rfl := Option.some.inj H
       go_wp2
       go_ret
       exact ⟨z674d, z5acd⟩
     · rw [if_neg c27] at H
       have c27b0 : decide ((l0.length : Int) < (l1.length : Int)) = false := decide_eq_false c27
       have c27b1 : decide (l0.length < l1.length) = false := decide_eq_false (fun h => c27 (Int.ofNat_lt.mpr h))
       clear c27
       obtain rfl := Option.some.inj H
       go_wp2
       go_ret
       exact ⟨z674d, z5acd⟩

end Go.Proofs.YteogadaloebdaaaDoor.P

-- written by a program of this session's (wip/pp)
namespace Go.Proofs.YteogadaloebdaaaDoor.P
open Go.RowKit Go.Proofs.YteogadaloebdaaaDoorW.PrintWords Go.Proofs.YteogadaloebdaaaDoorW.PrintLast Go.Proofs.YteogadaloebdaaaDoorW.PrintMore
attribute [local go_sem] max2_int min2_int max_two min_two max_three min_three max_four min_four str_geq str_gtr str_leq   -- for this text's walks alone
set_option linter.unusedVariables false
set_option linter.unusedSimpArgs false

/-! ### impl_CompareKeys: function 11 -/
def impl_CompareKeys.j0 : Nat → Bool → ByteArray → List (S69) → Int → ByteArray → List (S69) → Int → Option (Int)
 | 0, _, _, _, _, _, _, _ => none
 | k + 1, x13, x102000, x102001, x102002, x103000, x103001, x103002 => if x13 = true then (some 0) else ((impl_Tag_with_impl_CompareKeys_1.f k x102001 x103001).bind fun t105 => ((cmp_Compare_string.f x102000 x103000).bind fun t106 => ((cmp_Compare_int.f x102002 x103002).bind fun t107 => ((cmp_Or_int.f k (([t106, t105, t107] : List Int))).bind fun t111 => (some t111)))))
def impl_CompareKeys.f (k : Nat) (a0_0 : ByteArray) (l0_1 : List (S69)) (a0_2 : Int) (a1_0 : ByteArray) (l1_1 : List (S69)) (a1_2 : Int) : Option (Int) := (impl_GoodKey.f k a0_0 l0_1 a0_2).bind fun t103 => (if t103 = true then ((impl_GoodKey.f k a1_0 l1_1 a1_2).bind fun t104 => (impl_CompareKeys.j0 k (!t104) a0_0 l0_1 a0_2 a1_0 l1_1 a1_2)) else (impl_CompareKeys.j0 k true a0_0 l0_1 a0_2 a1_0 l1_1 a1_2))
theorem impl_CompareKeys.mono_l : ∀ k, (∀ y0 y1 y2 y3 y4 y5 y6, LeO (impl_CompareKeys.j0 k y0 y1 y2 y3 y4 y5 y6) (impl_CompareKeys.j0 (k + 1) y0 y1 y2 y3 y4 y5 y6))
 | 0 => fun _ _ _ _ _ _ _ r h => by simp [impl_CompareKeys.j0] at h
 | k + 1 => by
  have ih0 := impl_CompareKeys.mono_l k
  · intro y0 y1 y2 y3 y4 y5 y6
    unfold impl_CompareKeys.j0
    repeat' first
     | (with_reducible first | exact ih0 .. | exact cmp_Or_int.mono .. | exact impl_GoodKey.mono .. | exact impl_Tag_with_impl_CompareKeys_1.mono .. | exact LeO.refl _ | exact LeO.none _ | refine LeO.ite ?_ ?_ | refine LeO.bind ?_ (fun _ => ?_))
     | exact LeO.none _
     | refine LeO.ite ?_ ?_
     | refine LeO.bind ?_ (fun _ => ?_)
theorem impl_CompareKeys.mono : ∀ a0 a1 a2 a3 a4 a5 k, LeO (impl_CompareKeys.f k a0 a1 a2 a3 a4 a5) (impl_CompareKeys.f (k + 1) a0 a1 a2 a3 a4 a5) := by
 intro a0 a1 a2 a3 a4 a5 k
 have ih0 := impl_CompareKeys.mono_l k
 unfold impl_CompareKeys.f
 repeat' first
  | (with_reducible first | exact ih0 .. | exact cmp_Or_int.mono .. | exact impl_GoodKey.mono .. | exact impl_Tag_with_impl_CompareKeys_1.mono .. | exact LeO.refl _ | exact LeO.none _ | refine LeO.ite ?_ ?_ | refine LeO.bind ?_ (fun _ => ?_))
  | exact LeO.none _
  | refine LeO.ite ?_ ?_
  | refine LeO.bind ?_ (fun _ => ?_)
def impl_CompareKeys.T4 : Bool × List (List Nat × List Nat) := (true, [([], []), ([0], [0]), ([], []), ([2], [2]), ([1, 3], [1, 3]), ([], []), ([], []), ([6], [6]), ([], []), ([8], [8]), ([7, 9, 4], [7, 9]), ([4, 5, 10], [4, 5, 10]), ([11, 10], [11]), ([12, 12, 0, 1, 2, 3, 4, 5, 6, 7, 8, 9, 10, 11, 12], [12])])
def impl_CompareKeys.B4 : List Nat := [0, 1, 0, 4, 15, 0, 0, 64, 0, 256, 991, 2047, 4095, 8191]
theorem impl_CompareKeys.tab4 : rtab .any (opsOf Tryd.f11 4) = impl_CompareKeys.T4 := by kernel_rfl
theorem impl_CompareKeys.bits4 : waitsOk impl_CompareKeys.T4.2 impl_CompareKeys.B4 = true := by kernel_rfl
set_option maxHeartbeats 8000000 in
set_option maxRecDepth 100000 in
theorem impl_CompareKeys.calls (k : Nat) (a0_0 : ByteArray) (A0_1 : Option Addr) (c0_1 : Nat) (l0_1 : List (S69)) (a0_2 : Int) (a1_0 : ByteArray) (A1_1 : Option Addr) (c1_1 : Nat) (l1_1 : List (S69)) (a1_2 : Int) (r : Int) (w : World) (hr0_1 : Kd.C k69 w A0_1 l0_1.length l0_1) (hc0_1 : l0_1.length ≤ c0_1) (hr1_1 : Kd.C k69 w A1_1 l1_1.length l1_1) (hc1_1 : l1_1.length ≤ c1_1) (h : impl_CompareKeys.f k a0_0 l0_1 a0_2 a1_0 l1_1 a1_2 = some r) :
 Calls Tryd.prog 11 #[.agg #[.string a0_0, .slice A0_1 l0_1.length c0_1, .int .i64 a0_2], .agg #[.string a1_0, .slice A1_1 l1_1.length c1_1, .int .i64 a1_2]] w fun e w' => e = .returned (.int .i64 r) ∧ Below w.heap.size w w' := by
 have hu25 := Tryd.underlying25
 have HR0_1 := aM hr0_1
 have HC0_1 := aM hc0_1
 clear hr0_1 hc0_1
 have HR1_1 := aM hr1_1
 have HC1_1 := aM hc1_1
 clear hr1_1 hc1_1
 have HB := aM (Below.refl w.heap.size w)
 have H : ((impl_GoodKey.f k a0_0 l0_1 a0_2).bind fun t103 => (if t103 = true then ((impl_GoodKey.f k a1_0 l1_1 a1_2).bind fun t104 => (impl_CompareKeys.j0 k (!t104) a0_0 l0_1 a0_2 a1_0 l1_1 a1_2)) else (impl_CompareKeys.j0 k true a0_0 l0_1 a0_2 a1_0 l1_1 a1_2))) = some r := h
 clear h
 have HC3 := aM H
 clear H
 go_enter Tryd.func11, Tryd.ntmps11
 go_upto_region 1 with (first | ((with_reducible refine gate_dst (N := 2) rfl ?_); refine box_event ?hg (N := 2) ?hd (cs := #[.string a0_0, .slice A0_1 l0_1.length c0_1, .int .i64 a0_2]) (t := 25) ?hr ?_; (case hd => rfl); (case hg => rfl); (case hr => first | (go_simp; done) | (go_simp; rfl)); intro gb101 hg w4 hbox hb; have _ := aM (below_step hbZ hb); have _ := aM hbox; have _ := szZ hg; have _ := szZ hg; clear HB; rename_i HB BK101 GW101 GE101; clear hb hbox hg) | ((with_reducible refine gate_dst (N := 3) rfl ?_); refine box_event ?hg (N := 3) ?hd (cs := #[.string a1_0, .slice A1_1 l1_1.length c1_1, .int .i64 a1_2]) (t := 25) ?hr ?_; (case hd => rfl); (case hg => rfl); (case hr => first | (go_simp; done) | (go_simp; rfl)); intro gb102 hg w5 hbox hb; have _ := bB gb101 hb; have _ := aM (below_step hbZ hb); have _ := aM hbox; have _ := szZ hg; have _ := szZ hg; have ⟨_, _⟩ := nbB gb101 hg; clear BK101 HB; rename_i BK101 HB BK102 GW102 GE102 NB101_102 NB102_101; clear hb hbox hg))
 (try simp only [Act.put, List.setIfInBounds_toArray, List.set_cons_zero, List.set_cons_succ])
 go_cut [13] (fun v13 wc => ∃ (kq : Nat) (x13_2 : Bool), v13 = .bool x13_2 ∧ Aside0 (impl_CompareKeys.j0 kq x13_2 a0_0 l0_1 a0_2 a1_0 l1_1 a1_2 = some r) ∧ Aside0 (kq ≤ k) ∧ Aside0 (wc.heap[gb101]? = some (.cells #[.string a0_0, (.slice A0_1 l0_1.length c0_1), .int .i64 a0_2] 25 (0, 0))) ∧ Aside0 (wc.heap[gb102]? = some (.cells #[.string a1_0, (.slice A1_1 l1_1.length c1_1), .int .i64 a1_2] 25 (0, 0))) ∧ Aside0 (Below w.heap.size w wc))
 case first =>
  have H := HC3.out
  clear HC3
  replace H := Option.bind_eq_some_iff.mp H
  obtain ⟨t103, A60, H⟩ := H
  try dsimp only at H
  have A6 := aM A60
  clear A60
  by_cases c7 : t103 = true
  · subst c7
    have H1 : ((impl_GoodKey.f k a1_0 l1_1 a1_2).bind fun t104 => (impl_CompareKeys.j0 k (!t104) a0_0 l0_1 a0_2 a1_0 l1_1 a1_2)) = some r := by rw [if_pos rfl] at H; exact H
    clear H
    have H := H1
    clear H1
    replace H := Option.bind_eq_some_iff.mp H
    obtain ⟨t104, A80, H⟩ := H
    try dsimp only at H
    have A8 := aM A80
    clear A80
    have H' := aM H
    clear H
    have hnb9 := NB101_102.out
    have hnc9 := NB102_101.out
    obtain ⟨hcz10_0, hcz10_1, hcz10_2, hfz10_0, hfz10_1, hfz10_2⟩ := cellsZ3 BK101.out
    go_wp2_with (first | ((with_reducible refine gate_callee (f := 31) rfl ?_); refine goesL_ (some 7) rfl rfl Tryd.func31 (by kernel_rfl) rfl #[.agg #[.string a0_0, .slice A0_1 l0_1.length c0_1, .int .i64 a0_2]] rfl zee81 ?_; (with_reducible refine (impl_GoodKey.calls k a0_0 _ _ l0_1 a0_2 true _ ?side1 ?side2 A6.out).mono ?_); (case side1 => exact (cZ (Kd.C_below HR0_1.out HB.out))); (case side2 => exact HC0_1.out); rintro e w11 ⟨rfl, hb⟩; refine ⟨_, rfl, ?_⟩; have _ := bB gb101 hb; have _ := bB gb102 hb; have _ := aM (below_step hbZ hb); clear BK101 BK102 HB; rename_i BK101 BK102 HB; (try clear hb); obtain ⟨hcz12_0, hcz12_1, hcz12_2, hfz12_0, hfz12_1, hfz12_2⟩ := cellsZ3 BK102.out) | (go_at_call 31; (with_reducible refine (impl_GoodKey.calls k a1_0 _ _ l1_1 a1_2 t104 _ ?side1 ?side2 A8.out).mono ?_); (case side1 => exact (cZ (Kd.C_below HR1_1.out HB.out))); (case side2 => exact HC1_1.out); rintro e w13 ⟨rfl, hb⟩; have _ := bB gb101 hb; have _ := bB gb102 hb; have _ := aM (below_step hbZ hb); clear BK101 BK102 HB; rename_i BK101 BK102 HB; (try clear hb)))
    go_meet
    case rel => exact ⟨_, (!t104), z4458, H', ⟨zb79b⟩, ⟨bkZ⟩, ⟨bkZ⟩, ⟨zcb41⟩⟩
  · replace c7 := Bool.eq_false_iff.mpr c7
    subst c7
    have H1 : (impl_CompareKeys.j0 k true a0_0 l0_1 a0_2 a1_0 l1_1 a1_2) = some r := by rw [if_neg (show ¬ (false = true) by decide)] at H; exact H
    clear H
    have H := H1
    clear H1
    have H' := aM H
    clear H
    have hnb14 := NB101_102.out
    have hnc14 := NB102_101.out
    obtain ⟨hcz15_0, hcz15_1, hcz15_2, hfz15_0, hfz15_1, hfz15_2⟩ := cellsZ3 BK101.out
    go_wp2_with (first | ((with_reducible refine gate_callee (f := 31) rfl ?_); refine goesL_ (some 7) rfl rfl Tryd.func31 (by kernel_rfl) rfl #[.agg #[.string a0_0, .slice A0_1 l0_1.length c0_1, .int .i64 a0_2]] rfl zee81 ?_; (with_reducible refine (impl_GoodKey.calls k a0_0 _ _ l0_1 a0_2 false _ ?side1 ?side2 A6.out).mono ?_); (case side1 => exact (cZ (Kd.C_below HR0_1.out HB.out))); (case side2 => exact HC0_1.out); rintro e w16 ⟨rfl, hb⟩; refine ⟨_, rfl, ?_⟩; have _ := bB gb101 hb; have _ := bB gb102 hb; have _ := aM (below_step hbZ hb); clear BK101 BK102 HB; rename_i BK101 BK102 HB; (try clear hb)))
    go_meet
    case rel => exact ⟨_, (true), z4458, H', ⟨zb79b⟩, ⟨bkZ⟩, ⟨bkZ⟩, ⟨zcb41⟩⟩
 case rest =>
  clear HC3
  try clear c1
  try clear p2
  try clear c3
  try clear c7
  try clear c9
  try clear c11
  try clear c14
  try clear hcz10_0 hcz10_1 hcz10_2
  try clear hcz12_0 hcz12_1 hcz12_2
  try clear hcz15_0 hcz15_1 hcz15_2
  try clear hfz10_0 hfz10_1 hfz10_2
  try clear hfz12_0 hfz12_1 hfz12_2
  try clear hfz15_0 hfz15_1 hfz15_2
  obtain ⟨kq, x13_2, rfl, HA, HJ2, BK101, BK102, HB⟩ := hcut
  cases kq with
  | zero => exact absurd HA.out (by simp [impl_CompareKeys.j0])
  | succ kj2 =>
   have H := HA.out
   clear HA
   simp only [impl_CompareKeys.j0] at H
   by_cases c17 : x13_2 = true
   · subst c17
     have H1 : (some 0) = some r := by rw [if_pos rfl] at H; exact H
     clear H
     have H := H1
     clear H1
     obtain rfl := Option.some.inj H
     go_wp2
     go_ret
     exact ⟨z674d, zcb41⟩
   · replace c17 := Bool.eq_false_iff.mpr c17
     subst c17
     have H1 : ((impl_Tag_with_impl_CompareKeys_1.f kj2 l0_1 l1_1).bind fun t105 => ((cmp_Compare_string.f a0_0 a1_0).bind fun t106 => ((cmp_Compare_int.f a0_2 a1_2).bind fun t107 => ((cmp_Or_int.f kj2 (([t106, t105, t107] : List Int))).bind fun t111 => (some t111))))) = some r := by rw [if_neg (show ¬ (false = true) by decide)] at H; exact H
     clear H
     have H := H1
     clear H1
     replace H := Option.bind_eq_some_iff.mp H
     obtain ⟨t105, A180, H⟩ := H
     try dsimp only at H
     have A18 := aM A180
     clear A180
     replace H := Option.bind_eq_some_iff.mp H
     obtain ⟨t106, A190, H⟩ := H
     try dsimp only at H
     have A19 := aM A190
     clear A190
     replace H := Option.bind_eq_some_iff.mp H
     obtain ⟨t107, A200, H⟩ := H
     try dsimp only at H
     have A20 := aM A200
     clear A200
     obtain ⟨y108, hy108⟩ : ∃ y_ : List Int, y_ = (([t106, t105, t107] : List Int)) := ⟨_, rfl⟩
     replace H : ((cmp_Or_int.f kj2 y108).bind fun t111 => (some t111)) = some r := by first | (rw [hy108]; with_reducible exact H) | (have H2_ := (Option.bind_some _ _).symm.trans H; rw [hy108]; with_reducible exact H2_) | (have H2_ := (Option.bind_some _ _).symm.trans H; with_reducible exact H2_) | with_reducible exact H | (rw [hy108]; exact H) | exact H
     have Ny108 := aM hy108
     clear hy108
     replace H := Option.bind_eq_some_iff.mp H
     obtain ⟨t111, A210, H⟩ := H
     try dsimp only at H
     have A21 := aM A210
     clear A210
     obtain rfl := Option.some.inj H
     have hnb22 := NB101_102.out
     have hnc22 := NB102_101.out
     obtain ⟨hcz23_0, hcz23_1, hcz23_2, hfz23_0, hfz23_1, hfz23_2⟩ := cellsZ3 BK101.out
     obtain ⟨hcz24_0, hcz24_1, hcz24_2, hfz24_0, hfz24_1, hfz24_2⟩ := cellsZ3 BK102.out
     try go_wp2_with (first | ((with_reducible refine gate_callee (f := 35) rfl ?_); refine goesL_ (some 18) rfl rfl Tryd.func35 (by kernel_rfl) rfl #[.slice A0_1 l0_1.length c0_1, .slice A1_1 l1_1.length c1_1, .func (.func 36) #[] #[]] rfl zee81 ?_; (with_reducible refine (impl_Tag_with_impl_CompareKeys_1.calls kj2 _ _ l0_1 _ _ l1_1  t105 _ ?side1 ?side2 ?side3 ?side4 A18.out).mono ?_); (case side1 => exact (cZ (Kd.C_below HR0_1.out HB.out))); (case side2 => exact HC0_1.out); (case side3 => exact (cZ (Kd.C_below HR1_1.out HB.out))); (case side4 => exact HC1_1.out); rintro e w25 ⟨rfl, hb⟩; refine ⟨_, rfl, ?_⟩; have _ := bB gb101 hb; have _ := bB gb102 hb; have _ := aM (below_step hbZ hb); clear BK101 BK102 HB; rename_i BK101 BK102 HB; (try clear hb)))
     have _ := aM (blk_drew BK101.out)
     have _ := aM (blk_drew BK102.out)
     have _ := aM (below_drew1 HB.out)
     clear BK101
     clear BK102
     clear HB
     rename_i BK101 BK102 HB
     refine start_ (n := 14) (S := fun w' => w'.cell? ⟨gb101, 0, none⟩ = some (.string a0_0) ∧ w'.cell? ⟨gb101, 1, none⟩ = some (.slice A0_1 l0_1.length c0_1) ∧ w'.cell? ⟨gb101, 2, none⟩ = some (.int .i64 a0_2) ∧ w'.cell? ⟨gb102, 0, none⟩ = some (.string a1_0) ∧ w'.cell? ⟨gb102, 1, none⟩ = some (.slice A1_1 l1_1.length c1_1) ∧ w'.cell? ⟨gb102, 2, none⟩ = some (.int .i64 a1_2)) (ds := []) #[false, false, false, false, false, false, false, false, false, false, false, false, false, false] (by kernel_rfl) rfl rfl ⟨(blk_cell BK101.out 0).trans rfl, (blk_cell BK101.out 1).trans rfl, (blk_cell BK101.out 2).trans rfl, (blk_cell BK102.out 0).trans rfl, (blk_cell BK102.out 1).trans rfl, (blk_cell BK102.out 2).trans rfl⟩ (fun hHeld => ?_); refine with_tabW impl_CompareKeys.tab4 impl_CompareKeys.bits4 (fun HT_ HW_ => ?_)
     generalize w25.drew = w26 at BK101 BK102 HB hHeld ⊢
     refine pure_ (i := 0) (N := some 19) (v := ?_) (a' := ?_) #[true, false, false, false, false, false, false, false, false, false, false, false, false, false] rfl rfl (any_of HT_.out (by kernel_rfl)) (fun _ _ _ h => h) (Or.inl ⟨by rfl, ?_⟩) ?_ ?_
     rotate_left
     · intro w'
       go_simp
       with_reducible rfl
     rotate_left
     · simp only [Act.put, List.setIfInBounds_toArray, List.set_cons_zero, List.set_cons_succ, i64_w, i32_w]
       rfl
     refine pure_ (i := 2) (N := some 21) (v := ?_) (a' := ?_) #[true, false, true, false, false, false, false, false, false, false, false, false, false, false] rfl rfl (any_of HT_.out (by kernel_rfl)) (fun _ _ _ h => h) (Or.inl ⟨by rfl, ?_⟩) ?_ ?_
     rotate_left
     · intro w'
       go_simp
       with_reducible rfl
     rotate_left
     · simp only [Act.put, List.setIfInBounds_toArray, List.set_cons_zero, List.set_cons_succ, i64_w, i32_w]
       rfl
     refine pure_ (i := 5) (N := some 24) (v := ?_) (a' := ?_) #[true, false, true, false, false, true, false, false, false, false, false, false, false, false] rfl rfl (any_of HT_.out (by kernel_rfl)) (fun _ _ _ h => h) (Or.inl ⟨by rfl, ?_⟩) ?_ ?_
     rotate_left
     · intro w'
       go_simp
       with_reducible rfl
     rotate_left
     · simp only [Act.put, List.setIfInBounds_toArray, List.set_cons_zero, List.set_cons_succ, i64_w, i32_w]
       rfl
     refine pure_ (i := 6) (N := some 25) (v := ?_) (a' := ?_) #[true, false, true, false, false, true, true, false, false, false, false, false, false, false] rfl rfl (any_of HT_.out (by kernel_rfl)) (fun _ _ _ h => h) (Or.inl ⟨by rfl, ?_⟩) ?_ ?_
     rotate_left
     · intro w'
       go_simp
       with_reducible rfl
     rotate_left
     · simp only [Act.put, List.setIfInBounds_toArray, List.set_cons_zero, List.set_cons_succ, i64_w, i32_w]
       rfl
     refine pure_ (i := 8) (N := some 27) (v := ?_) (a' := ?_) #[true, false, true, false, false, true, true, false, true, false, false, false, false, false] rfl rfl (any_of HT_.out (by kernel_rfl)) (fun _ _ _ h => h) (Or.inl ⟨by rfl, ?_⟩) ?_ ?_
     rotate_left
     · intro w'
       go_simp
       with_reducible rfl
     rotate_left
     · simp only [Act.put, List.setIfInBounds_toArray, List.set_cons_zero, List.set_cons_succ, i64_w, i32_w]
       rfl
     refine take_ (i := 1) (N := some 20) (v := ?_) (a' := ?_) #[true, true, true, false, false, true, true, false, true, false, false, false, false, false] rfl rfl (take_ofW HT_.out HW_.out (by kernel_rfl)) (fun _ _ _ h => h) (Or.inl ⟨by rfl, ?_⟩) hHeld ?_ ?_
     rotate_left
     · rintro w' ⟨s0, s1, s2, s3, s4, s5⟩
       go_simp
       with_reducible rfl
     rotate_left
     · simp only [Act.put, List.setIfInBounds_toArray, List.set_cons_zero, List.set_cons_succ, i64_w, i32_w]
       rfl
     refine take_ (i := 3) (N := some 22) (v := ?_) (a' := ?_) #[true, true, true, true, false, true, true, false, true, false, false, false, false, false] rfl rfl (take_ofW HT_.out HW_.out (by kernel_rfl)) (fun _ _ _ h => h) (Or.inl ⟨by rfl, ?_⟩) hHeld ?_ ?_
     rotate_left
     · rintro w' ⟨s0, s1, s2, s3, s4, s5⟩
       go_simp
       with_reducible rfl
     rotate_left
     · simp only [Act.put, List.setIfInBounds_toArray, List.set_cons_zero, List.set_cons_succ, i64_w, i32_w]
       rfl
     refine take_ (i := 7) (N := some 26) (v := ?_) (a' := ?_) #[true, true, true, true, false, true, true, true, true, false, false, false, false, false] rfl rfl (take_ofW HT_.out HW_.out (by kernel_rfl)) (fun _ _ _ h => h) (Or.inl ⟨by rfl, ?_⟩) hHeld ?_ ?_
     rotate_left
     · rintro w' ⟨s0, s1, s2, s3, s4, s5⟩
       go_simp
       with_reducible rfl
     rotate_left
     · simp only [Act.put, List.setIfInBounds_toArray, List.set_cons_zero, List.set_cons_succ, i64_w, i32_w]
       rfl
     refine take_ (i := 9) (N := some 28) (v := ?_) (a' := ?_) #[true, true, true, true, false, true, true, true, true, true, false, false, false, false] rfl rfl (take_ofW HT_.out HW_.out (by kernel_rfl)) (fun _ _ _ h => h) (Or.inl ⟨by rfl, ?_⟩) hHeld ?_ ?_
     rotate_left
     · rintro w' ⟨s0, s1, s2, s3, s4, s5⟩
       go_simp
       with_reducible rfl
     rotate_left
     · simp only [Act.put, List.setIfInBounds_toArray, List.set_cons_zero, List.set_cons_succ, i64_w, i32_w]
       rfl
     refine one_ (i := 4) (N := some 23) #[true, true, true, true, true, true, true, true, true, true, false, false, false, false] rfl rfl (one_of HT_.out (by kernel_rfl)) (by decide) (fun K hK => ?_)
     refine goes_ Tryd.func38 (by kernel_rfl) rfl #[.string a0_0, .string a1_0] (by rfl) rfl rfl zee81 ?_
     with_reducible refine (cmp_Compare_string.calls a0_0 a1_0 t106 _ A19.out).mono ?_
     rintro e w' ⟨rfl, ⟨nd, rfl⟩⟩
     refine ⟨_, rfl, ?_⟩
     refine hK.out _ _ ⟨(blk_cell BK101.out 0).trans rfl, (blk_cell BK101.out 1).trans rfl, (blk_cell BK101.out 2).trans rfl, (blk_cell BK102.out 0).trans rfl, (blk_cell BK102.out 1).trans rfl, (blk_cell BK102.out 2).trans rfl⟩ (fun hHeld => ?_)
     clear hK K
     refine norm_ (a' := ?_) ?_ ?_
     rotate_left
     · show Act.put _ (some 23) _ = _
       simp only [Act.put, List.setIfInBounds_toArray, List.set_cons_zero, List.set_cons_succ, i64_w, i32_w]
       rfl
     refine one_ (i := 10) (N := some 29) #[true, true, true, true, true, true, true, true, true, true, true, false, false, false] rfl rfl (one_of HT_.out (by kernel_rfl)) (by decide) (fun K hK => ?_)
     refine goes_ Tryd.func39 (by kernel_rfl) rfl #[.int .i64 a0_2, .int .i64 a1_2] (by rfl) rfl rfl zee81 ?_
     with_reducible refine (cmp_Compare_int.calls a0_2 a1_2 t107 _ A20.out).mono ?_
     rintro e w' ⟨rfl, ⟨nd, rfl⟩⟩
     refine ⟨_, rfl, ?_⟩
     refine hK.out _ _ ⟨(blk_cell BK101.out 0).trans rfl, (blk_cell BK101.out 1).trans rfl, (blk_cell BK101.out 2).trans rfl, (blk_cell BK102.out 0).trans rfl, (blk_cell BK102.out 1).trans rfl, (blk_cell BK102.out 2).trans rfl⟩ (fun hHeld => ?_)
     clear hK K
     refine norm_ (a' := ?_) ?_ ?_
     rotate_left
     · show Act.put _ (some 29) _ = _
       simp only [Act.put, List.setIfInBounds_toArray, List.set_cons_zero, List.set_cons_succ, i64_w, i32_w]
       rfl
     refine one_ (i := 11) (N := some 30) #[true, true, true, true, true, true, true, true, true, true, true, true, false, false] rfl rfl (one_of HT_.out (by kernel_rfl)) (by decide) (fun K hK => ?_)
     refine Kd.R_lit_step (Kd.int .i64) _ 3 ?hg (N := 30) ?hd (xs := ([t106, t105, t107] : List Int)) (inner := [.int .i64 t106, .int .i64 t105, .int .i64 t107]) (ok := fun _ => True) (okp := fun _ => True) ?hr ?hp (fun _ hk => hk) trivial (Below.refl _ _) (Nat.le_refl _) (by simp) ?_; (case hd => rfl); (case hg => rfl); (case hr => first | (go_simp; done) | (go_simp; rfl)); (case hp => exact (Reps.one (show Kd.M (Kd.int .i64) _ _ _ t106 [.int .i64 t106] from rfl) (Reps.one (show Kd.M (Kd.int .i64) _ _ _ t105 [.int .i64 t105] from rfl) (Reps.one (show Kd.M (Kd.int .i64) _ _ _ t107 [.int .i64 t107] from rfl) (Reps.none _ _)))))
     intro v109 w27 ho28 hb hg_ hnew_
     clear hg_ hnew_
     (first | rw [← Ny108.out] at ho28 | (simp only [Int.reduceToNat] at ho28; rw [← Ny108.out] at ho28))
     have _ := aM (Kd.R_lower ho28 (below_size hbZ))
     have _ := bB gb101 hb
     have _ := bB gb102 hb
     have _ := aM (below_step hbZ hb)
     clear BK101
     clear BK102
     clear HB
     rename_i HO110 BK101 BK102 HB
     clear hb ho28
     obtain ⟨Ao29, co29, eo29⟩ := Kd.R_slice HO110.out
     (first | subst eo29 | (injection eo29 with f1_ f2_ f3_; have f4_ := f1_.symm; have f5_ := f3_.symm; clear f1_ f2_ f3_; subst f4_; subst f5_))
     refine hK.out _ _ ⟨(blk_cell BK101.out 0).trans rfl, (blk_cell BK101.out 1).trans rfl, (blk_cell BK101.out 2).trans rfl, (blk_cell BK102.out 0).trans rfl, (blk_cell BK102.out 1).trans rfl, (blk_cell BK102.out 2).trans rfl⟩ (fun hHeld => ?_)
     clear hK K
     refine norm_ (a' := ?_) ?_ ?_
     rotate_left
     · show Act.put _ (some 30) _ = _
       simp only [Act.put, List.setIfInBounds_toArray, List.set_cons_zero, List.set_cons_succ, i64_w, i32_w]
       rfl
     refine one_ (i := 12) (N := some 31) #[true, true, true, true, true, true, true, true, true, true, true, true, true, false] rfl rfl (one_of HT_.out (by kernel_rfl)) (by decide) (fun K hK => ?_)
     refine goes_ Tryd.func37 (by kernel_rfl) rfl #[.slice Ao29 y108.length co29] (by rfl) rfl rfl zee81 ?_
     with_reducible refine (cmp_Or_int.calls kj2 _ _ y108 t111 _ ?side1 ?side2 A21.out).mono ?_
     (case side1 => exact (by repeat (first | exact (Kd.R_reads' HO110.out).2.2 | (with_reducible refine Kd.C_alloc ?_ _) | (with_reducible refine Kd.C_drewN ?_ _) | (with_reducible refine Kd.C_drew ?_))))
     (case side2 => exact (Kd.R_reads' HO110.out).2.1)
     rintro e w' ⟨rfl, ⟨nd, rfl⟩⟩
     refine ⟨_, rfl, ?_⟩
     refine hK.out _ _ ⟨(blk_cell BK101.out 0).trans rfl, (blk_cell BK101.out 1).trans rfl, (blk_cell BK101.out 2).trans rfl, (blk_cell BK102.out 0).trans rfl, (blk_cell BK102.out 1).trans rfl, (blk_cell BK102.out 2).trans rfl⟩ (fun hHeld => ?_)
     clear hK K
     refine norm_ (a' := ?_) ?_ ?_
     rotate_left
     · show Act.put _ (some 31) _ = _
       simp only [Act.put, List.setIfInBounds_toArray, List.set_cons_zero, List.set_cons_succ, i64_w, i32_w]
       rfl
     refine pure_ (i := 13) (N := some 4) (v := ?_) (a' := ?_) #[true, true, true, true, true, true, true, true, true, true, true, true, true, true] rfl rfl (any_of HT_.out (by kernel_rfl)) (fun _ _ _ h => h) (Or.inl ⟨by rfl, ?_⟩) ?_ ?_
     rotate_left
     · intro w'
       go_simp
       with_reducible rfl
     rotate_left
     · simp only [Act.put, List.setIfInBounds_toArray, List.set_cons_zero, List.set_cons_succ, i64_w, i32_w]
       rfl
     refine done_ (done_of HT_.out (by kernel_rfl)) ?_
     try go_wp2
     go_ret
     exact ⟨z674d, zcb41⟩

end Go.Proofs.YteogadaloebdaaaDoor.P

-- written by a program of this session's (wip/pp)
namespace Go.Proofs.YteogadaloebdaaaDoor.P
open Go.RowKit Go.Proofs.YteogadaloebdaaaDoorW.PrintWords Go.Proofs.YteogadaloebdaaaDoorW.PrintLast Go.Proofs.YteogadaloebdaaaDoorW.PrintMore
attribute [local go_sem] max2_int min2_int max_two min_two max_three min_three max_four min_four str_geq str_gtr str_leq   -- for this text's walks alone
set_option linter.unusedVariables false
set_option linter.unusedSimpArgs false

/-! ### impl_ReadFixed: function 40 -/
mutual
def impl_ReadFixed.j0 : Nat → List Int → Int → Int → Bool → Option (Int × Bool)
 | 0, _, _, _, _ => none
 | k + 1, x0, x1, x2, x22 => if x22 = true then (some (0, false)) else (if 0 ≤ x1 then (if x1 ≤ (wrap64 (x1 + x2)) then (if (wrap64 (x1 + x2)) ≤ (x0.length : Int) then ((some ((x0.take ((wrap64 (x1 + x2)) : Int).toNat).drop (x1 : Int).toNat : List Int)).bind fun y103 => (impl_ReadFixed.l0 k 0 y103 (y103.length : Int) 0)) else (none)) else (none)) else (none))
def impl_ReadFixed.l0 : Nat → Int → List Int → Int → Int → Option (Int × Bool)
 | 0, _, _, _, _ => none
 | k + 1, x8, x28, x29, x30 => if x30 < x29 then (if 0 ≤ x30 then (if x30 < (x28.length : Int) then (impl_ReadFixed.l0 k (Go.bits .or .u64 (IntKind.u64.wrap (x8 * 256)) (IntKind.u64.wrap (rd x28 x30))) x28 x29 (wrap64 (x30 + 1))) else (none)) else (none)) else (if (x8 / 9223372036854775808) = 0 then (some (wrap64 (x8), true)) else (some (0, false)))
end
def impl_ReadFixed.f (k : Nat) (l0 : List Int) (a1 : Int) (a2 : Int) : Option (Int × Bool) := (impl_within.f a2 1 8).bind fun t101 => (if t101 = true then ((impl_within.f a1 0 (wrap64 ((l0.length : Int) - a2))).bind fun t102 => (impl_ReadFixed.j0 k l0 a1 a2 (!t102))) else (impl_ReadFixed.j0 k l0 a1 a2 true))
theorem impl_ReadFixed.mono_l : ∀ k, (∀ y0 y1 y2 y3, LeO (impl_ReadFixed.j0 k y0 y1 y2 y3) (impl_ReadFixed.j0 (k + 1) y0 y1 y2 y3)) ∧ (∀ y0 y1 y2 y3, LeO (impl_ReadFixed.l0 k y0 y1 y2 y3) (impl_ReadFixed.l0 (k + 1) y0 y1 y2 y3))
 | 0 => ⟨fun _ _ _ _ r h => by simp [impl_ReadFixed.j0] at h, fun _ _ _ _ r h => by simp [impl_ReadFixed.l0] at h⟩
 | k + 1 => by
  obtain ⟨ih0, ih1⟩ := impl_ReadFixed.mono_l k
  refine ⟨?_, ?_⟩
  · intro y0 y1 y2 y3
    unfold impl_ReadFixed.j0
    repeat' first
     | (with_reducible first | exact ih0 .. | exact ih1 .. | exact LeO.refl _ | exact LeO.none _ | refine LeO.ite ?_ ?_ | refine LeO.bind ?_ (fun _ => ?_))
     | exact LeO.none _
     | refine LeO.ite ?_ ?_
     | refine LeO.bind ?_ (fun _ => ?_)
  · intro y0 y1 y2 y3
    unfold impl_ReadFixed.l0
    repeat' first
     | (with_reducible first | exact ih0 .. | exact ih1 .. | exact LeO.refl _ | exact LeO.none _ | refine LeO.ite ?_ ?_ | refine LeO.bind ?_ (fun _ => ?_))
     | exact LeO.none _
     | refine LeO.ite ?_ ?_
     | refine LeO.bind ?_ (fun _ => ?_)
theorem impl_ReadFixed.mono : ∀ a0 a1 a2 k, LeO (impl_ReadFixed.f k a0 a1 a2) (impl_ReadFixed.f (k + 1) a0 a1 a2) := by
 intro a0 a1 a2 k
 obtain ⟨ih0, ih1⟩ := impl_ReadFixed.mono_l k
 unfold impl_ReadFixed.f
 repeat' first
  | (with_reducible first | exact ih0 .. | exact ih1 .. | exact LeO.refl _ | exact LeO.none _ | refine LeO.ite ?_ ?_ | refine LeO.bind ?_ (fun _ => ?_))
  | exact LeO.none _
  | refine LeO.ite ?_ ?_
  | refine LeO.bind ?_ (fun _ => ?_)
set_option maxHeartbeats 8000000 in
set_option maxRecDepth 100000 in
theorem impl_ReadFixed.calls (k : Nat) (A0 : Option Addr) (c0 : Nat) (l0 : List Int) (a1 : Int) (a2 : Int) (r1 : Int) (r2 : Bool) (w : World) (hr0 : Kd.C (Kd.int .u8) w A0 l0.length l0) (hc0 : l0.length ≤ c0) (h : impl_ReadFixed.f k l0 a1 a2 = some (r1, r2)) :
 Calls Tryd.prog 40 #[.slice A0 l0.length c0, .int .i64 a1, .int .i64 a2] w fun e w' => e = .returned (.tuple #[.int .i64 r1, .bool r2]) ∧ Drawn0 w w' := by
 have HR0 := aM hr0
 have HC0 := aM hc0
 clear hr0 hc0
 have H : ((impl_within.f a2 1 8).bind fun t101 => (if t101 = true then ((impl_within.f a1 0 (wrap64 ((l0.length : Int) - a2))).bind fun t102 => (impl_ReadFixed.j0 k l0 a1 a2 (!t102))) else (impl_ReadFixed.j0 k l0 a1 a2 true))) = some (r1, r2) := h
 clear h
 have HC4 := aM H
 clear H
 go_enter Tryd.func40, Tryd.ntmps40
 go_upto_region 1 with (fail)
 go_cut [22] (fun v22 wc => ∃ (kq : Nat) (x22_3 : Bool), v22 = .bool x22_3 ∧ Aside0 (impl_ReadFixed.j0 kq l0 a1 a2 x22_3 = some (r1, r2)) ∧ Aside0 (kq ≤ k) ∧ Drawn0 w wc)
 case first =>
  have H := HC4.out
  clear HC4
  replace H := Option.bind_eq_some_iff.mp H
  obtain ⟨t101, A50, H⟩ := H
  try dsimp only at H
  have A5 := aM A50
  clear A50
  by_cases c6 : t101 = true
  · subst c6
    have H1 : ((impl_within.f a1 0 (wrap64 ((l0.length : Int) - a2))).bind fun t102 => (impl_ReadFixed.j0 k l0 a1 a2 (!t102))) = some (r1, r2) := by rw [if_pos rfl] at H; exact H
    clear H
    have H := H1
    clear H1
    replace H := Option.bind_eq_some_iff.mp H
    obtain ⟨t102, A70, H⟩ := H
    try dsimp only at H
    have A7 := aM A70
    clear A70
    have H' := aM H
    clear H
    go_wp2_with (first | ((with_reducible refine gate_callee (f := 61) rfl ?_); refine goesL_ (some 12) rfl rfl Tryd.func61 (by kernel_rfl) rfl #[.int .i64 a2, .int .i64 1, .int .i64 8] rfl zee81 ?_; (with_reducible refine (impl_within.calls a2 1 8 true _ A5.out).mono ?_); rintro e w' ⟨rfl, ⟨nd, rfl⟩⟩; refine ⟨_, rfl, ?_⟩) | (go_at_call 61; (with_reducible refine (impl_within.calls a1 0 (wrap64 ((l0.length : Int) - a2)) t102 _ A7.out).mono ?_); rintro e w' ⟨rfl, ⟨nd, rfl⟩⟩))
    go_meet
    case rel => exact ⟨_, (!t102), z4458, H', ⟨zb79b⟩, za9de⟩
  · replace c6 := Bool.eq_false_iff.mpr c6
    subst c6
    have H1 : (impl_ReadFixed.j0 k l0 a1 a2 true) = some (r1, r2) := by rw [if_neg (show ¬ (false = true) by decide)] at H; exact H
    clear H
    have H := H1
    clear H1
    have H' := aM H
    clear H
    go_wp2_with (first | ((with_reducible refine gate_callee (f := 61) rfl ?_); refine goesL_ (some 12) rfl rfl Tryd.func61 (by kernel_rfl) rfl #[.int .i64 a2, .int .i64 1, .int .i64 8] rfl zee81 ?_; (with_reducible refine (impl_within.calls a2 1 8 false _ A5.out).mono ?_); rintro e w' ⟨rfl, ⟨nd, rfl⟩⟩; refine ⟨_, rfl, ?_⟩))
    go_meet
    case rel => exact ⟨_, (true), z4458, H', ⟨zb79b⟩, za9de⟩
 case rest =>
  clear HC4
  try clear p2
  try clear c4
  try clear c6
  try clear p6
  obtain ⟨kq, x22_3, rfl, HA, HJ3, ⟨mc3, rfl⟩⟩ := hcut
  cases kq with
  | zero => exact absurd HA.out (by simp [impl_ReadFixed.j0])
  | succ kj3 =>
   have H := HA.out
   clear HA
   simp only [impl_ReadFixed.j0] at H
   by_cases c8 : x22_3 = true
   · subst c8
     have H1 : (some (0, false)) = some (r1, r2) := by rw [if_pos rfl] at H; exact H
     clear H
     have H := H1
     clear H1
     simp only [Option.some.injEq, Prod.mk.injEq] at H
     obtain ⟨rfl, rfl⟩ := H
     go_wp2
     go_ret2
     exact ⟨z4458, za9de⟩
   · replace c8 := Bool.eq_false_iff.mpr c8
     subst c8
     have H1 : (if 0 ≤ a1 then (if a1 ≤ (wrap64 (a1 + a2)) then (if (wrap64 (a1 + a2)) ≤ (l0.length : Int) then ((some ((l0.take ((wrap64 (a1 + a2)) : Int).toNat).drop (a1 : Int).toNat : List Int)).bind fun y103 => (impl_ReadFixed.l0 kj3 0 y103 (y103.length : Int) 0)) else (none)) else (none)) else (none)) = some (r1, r2) := by rw [if_neg (show ¬ (false = true) by decide)] at H; exact H
     clear H
     have H := H1
     clear H1
     by_cases c9 : 0 ≤ a1
     · rw [if_pos c9] at H
       have c9b0 := eq_true c9
       have c9b1 : decide (0 ≤ a1) = true := decide_eq_true c9
       clear c9
       by_cases c10 : a1 ≤ (wrap64 (a1 + a2))
       · rw [if_pos c10] at H
         have c10b0 := eq_true c10
         have c10b1 : decide (a1 ≤ (wrap64 (a1 + a2))) = true := decide_eq_true c10
         by_cases c11 : (wrap64 (a1 + a2)) ≤ (l0.length : Int)
         · rw [if_pos c11] at H
           have c11b0 := eq_true c11
           have c11b1 : decide ((wrap64 (a1 + a2)) ≤ (l0.length : Int)) = true := decide_eq_true c11
           obtain ⟨y103, hy103⟩ : ∃ y_ : List Int, y_ = ((l0.take ((wrap64 (a1 + a2)) : Int).toNat).drop (a1 : Int).toNat) := ⟨_, rfl⟩
           replace H : (impl_ReadFixed.l0 kj3 0 y103 (y103.length : Int) 0) = some (r1, r2) := by first | (rw [hy103]; with_reducible exact H) | (have H2_ := (Option.bind_some _ _).symm.trans H; rw [hy103]; with_reducible exact H2_) | (have H2_ := (Option.bind_some _ _).symm.trans H; with_reducible exact H2_) | with_reducible exact H | (rw [hy103]; exact H) | exact H
           have Ny103 := aM hy103
           clear hy103
           have H' := aM H
           clear H
           have q12 : ((wrap64 (a1 + a2)) : Int) ≤ ((l0.length : Int) : Int) := of_decide_eq_true z1200
           obtain ⟨i012, hi012, _, hsz12, _⟩ := info_parts info5
           have hroom12 : l0.length ≤ c0 := HC0.out
           have hC12 : Kd.C (Kd.int .u8) _ A0 l0.length l0 := HR0.out
           have ql12 : (a1 : Int) ≤ ((wrap64 (a1 + a2)) : Int) := of_decide_eq_true z1200
           have q012 : (0 : Int) ≤ (a1 : Int) := of_decide_eq_true z1200
           have hcut12 := cut_mid (P := Tryd.prog) 22 5 .i64 .i64 Tryd.underlying22 hi012 1 hsz12 A0 l0.length c0 a1 (wrap64 (a1 + a2)) q012 ql12 q12 hroom12
           have hr12 := Kd.C_mid (lo := (a1 : Int).toNat) (hi := ((wrap64 (a1 + a2)) : Int).toNat) (c := c0) hC12 (by omega) (by omega) hroom12
           obtain ⟨A12, hA12⟩ : ∃ A1, A1 = (if c0 = (a1 : Int).toNat then A0 else (A0 : Option Addr).map (·.add ((a1 : Int).toNat * 1))) := ⟨_, rfl⟩
           obtain ⟨c12, hc12⟩ : ∃ c1, c1 = c0 - (a1 : Int).toNat := ⟨_, rfl⟩
           have hy12 : y103.length = ((wrap64 (a1 + a2)) : Int).toNat - (a1 : Int).toNat := (by rw [Ny103.out, List.length_drop, List.length_take] <;> omega)
           rw [show ((l0).take ((wrap64 (a1 + a2)) : Int).toNat).drop (a1 : Int).toNat = y103 from Ny103.out.symm] at hr12
           replace hr12 : Kd.C (Kd.int .u8) _ A12 y103.length y103 := (by rw [hA12]; exact hr12)
           rw [← hy12, ← hA12, ← hc12] at hcut12
           have HR106 := aM hr12
           have HC106 := aM (show y103.length ≤ c12 from by rw [hy12, hc12]; exact Nat.sub_le_sub_right (Nat.le_trans (by omega) hroom12) _)
           clear hr12 hC12 hroom12 hi012 hsz12 hc12
           have KY12 := aM hy12
           have KA12 := aM hA12
           clear hy12 hA12
           replace q12 := eq_true q12
           go_wp2
           go_loopg [8, 30] kj3 (fun kq v8 v30 w' => ∃ (x8_2 : Int) (x30_2 : Int), v8 = .int .u64 x8_2 ∧ v30 = .int .i64 x30_2 ∧ Aside0 (impl_ReadFixed.l0 kq x8_2 y103 (y103.length : Int) x30_2 = some (r1, r2)) ∧ Aside0 (kq ≤ kj3) ∧ Drawn0 w w')
           case atStart => exact ⟨(0), (0), z4458, z4458, H', ⟨Nat.le_refl _⟩, za9de⟩
           case round =>
            clear H'
            try clear c1
            try clear q1
            try clear p2
            try clear c3
            try clear c4
            try clear c6
            try clear p6
            try clear c8
            try clear c9
            try clear c9b0
            try clear c9b1
            try clear c10
            try clear c10b0
            try clear c10b1
            try clear c11
            try clear c11b0
            try clear c11b1
            try clear c12
            try clear q12
            try clear p2
            try clear p6
            try clear q012
            try clear q12
            obtain ⟨x8_2, x30_2, rfl, rfl, HA, HK2, ⟨m2, rfl⟩⟩ := hrel
            cases gk with
            | zero => exact absurd HA.out (by simp [impl_ReadFixed.l0])
            | succ k2 =>
             have H := HA.out
             clear HA
             simp only [impl_ReadFixed.l0] at H
             by_cases c13 : x30_2 < (y103.length : Int)
             · rw [if_pos c13] at H
               have c13b0 : decide (x30_2 < (y103.length : Int)) = true := decide_eq_true c13
               clear c13
               by_cases c14 : 0 ≤ x30_2
               · rw [if_pos c14] at H
                 have c14b0 : decide (0 ≤ x30_2) = true := decide_eq_true c14
                 clear c14
                 by_cases c15 : x30_2 < (y103.length : Int)
                 · rw [if_pos c15] at H
                   have c15b0 : decide (x30_2 < (y103.length : Int)) = true := decide_eq_true c15
                   clear c15
                   have H' := aM H
                   clear H
                   have p107 : 0 ≤ (x30_2 : Int) := of_decide_eq_true z1200
                   have q107 : x30_2 < (y103.length : Int) := of_decide_eq_true z1200
                   obtain ⟨ad107, e107, hx107_0⟩ := Kd.at_int HR106.out x30_2 p107 q107
                   cases e107
                   replace p107 := eq_true p107
                   replace q107 := eq_true q107
                   go_wp2
                   go_roundg k2
                   case measure => have := HJ3.out; have := HK2.out; omega
                   case rel => exact ⟨(Go.bits .or .u64 (IntKind.u64.wrap (x8_2 * 256)) (IntKind.u64.wrap (rd y103 x30_2))), (wrap64 (x30_2 + 1)), z4458, z4458, H', ⟨by have := HJ3.out; have := HK2.out; omega⟩, za9de⟩
                 · rw [if_neg c15] at H
                   exact absurd H (by simp)
               · rw [if_neg c14] at H
                 exact absurd H (by simp)
             · rw [if_neg c13] at H
               have c13b0 : decide (x30_2 < (y103.length : Int)) = false := decide_eq_false c13
               clear c13
               by_cases c16 : (x8_2 / 9223372036854775808) = 0
               · rw [if_pos c16] at H
                 have c16b0 : ((x8_2 / 9223372036854775808) == 0) = true := beq_iff_eq.mpr c16
                 have c16b1 : ((x8_2 / 9223372036854775808) != 0) = false := bne_eq_false_iff_eq.mpr c16
                 clear c16
                 simp only [Option.some.injEq, Prod.mk.injEq] at H
                 obtain ⟨rfl, rfl⟩ := H
                 go_wp2
                 go_ret2
                 exact ⟨z4458, za9de⟩
               · rw [if_neg c16] at H
                 have c16b0 : ((x8_2 / 9223372036854775808) == 0) = false := beq_eq_false_iff_ne.mpr c16
                 have c16b1 : ((x8_2 / 9223372036854775808) != 0) = true := bne_iff_ne.mpr c16
                 simp only [Option.some.injEq, Prod.mk.injEq] at H
                 obtain ⟨rfl, rfl⟩ := H
                 go_wp2
                 go_ret2
                 exact ⟨z4458, za9de⟩
         · rw [if_neg c11] at H
           exact absurd H (by simp)
       · rw [if_neg c10] at H
         exact absurd H (by simp)
     · rw [if_neg c9] at H
       exact absurd H (by simp)

end Go.Proofs.YteogadaloebdaaaDoor.P

/- What start-up leaves in internal/bytealg.MaxLen: some number. -/
namespace Go.Proofs.YteogadaloebdaaaDoor.P
open Go Go.RowKit
def TabM_ (w : World) : Prop := ∃ m, w.cell? ⟨0, 0, none⟩ = some (.int .i64 m)
theorem TabM_.stays {w w' : World} (h : TabM_ w) (hb : Below w.heap.size w w') : TabM_ w' := by
  obtain ⟨m, h⟩ := h
  exact ⟨m, (hb.cell (World.block_lt_of_cell? w _ h)).trans h⟩
theorem drewN_below (w : World) (n : Nat) : Below w.heap.size w (w.drewN n) := Go.Proofs.YteogadaloebdaaaDoorW.PrintWords.pw_below_drewN (Below.refl w.heap.size w) n
end Go.Proofs.YteogadaloebdaaaDoor.P

-- written by a program of this session's (wip/pp)
namespace Go.Proofs.YteogadaloebdaaaDoor.P
open Go.RowKit Go.Proofs.YteogadaloebdaaaDoorW.PrintWords Go.Proofs.YteogadaloebdaaaDoorW.PrintLast Go.Proofs.YteogadaloebdaaaDoorW.PrintMore
attribute [local go_sem] max2_int min2_int max_two min_two max_three min_three max_four min_four str_geq str_gtr str_leq   -- for this text's walks alone
set_option linter.unusedVariables false
set_option linter.unusedSimpArgs false

/-! ### strings_Cut: function 41 -/
def strings_Cut.f (a0 a1 : ByteArray) : Option (ByteArray × ByteArray × Bool) := if a0.size < 4294967281 then some (⟨(Go.Lib.cut a0.data.toList a1.data.toList).1.toArray⟩, ⟨(Go.Lib.cut a0.data.toList a1.data.toList).2.1.toArray⟩, (Go.Lib.cut a0.data.toList a1.data.toList).2.2) else none
theorem strings_Cut.calls (a0 a1 : ByteArray) (r1 r2 : ByteArray) (r3 : Bool) (w : World) (hTabM_ : TabM_ w) (h : strings_Cut.f a0 a1 = some (r1, r2, r3)) :
 Calls Tryd.prog 41 #[.string a0, .string a1] w fun e w' => e = .returned (.tuple #[.string r1, .string r2, .bool r3]) ∧ Below w.heap.size w w' := by
 obtain ⟨m, hm⟩ := hTabM_
 unfold strings_Cut.f at h
 split at h
 · rename_i hb
   simp only [Option.some.injEq, Prod.mk.injEq] at h
   obtain ⟨rfl, rfl, rfl⟩ := h
   refine (Tryd.strings_Cut a0 a1 m w hb hm).mono ?_
   rintro e w' ⟨rfl, n, rfl⟩
   exact ⟨rfl, drewN_below w n⟩
 · cases h

end Go.Proofs.YteogadaloebdaaaDoor.P

-- written by a program of this session's (wip/pp)
namespace Go.Proofs.YteogadaloebdaaaDoor.P
open Go.RowKit Go.Proofs.YteogadaloebdaaaDoorW.PrintWords Go.Proofs.YteogadaloebdaaaDoorW.PrintLast Go.Proofs.YteogadaloebdaaaDoorW.PrintMore
attribute [local go_sem] max2_int min2_int max_two min_two max_three min_three max_four min_four str_geq str_gtr str_leq   -- for this text's walks alone
set_option linter.unusedVariables false
set_option linter.unusedSimpArgs false

/-! ### stringslite_HasPrefix: function 93 -/
def stringslite_HasPrefix.f (a0 : ByteArray) (a1 : ByteArray) : Option (Bool) := if (a0.size : Int) ≥ (a1.size : Int) then (if 0 ≤ (a1.size : Int) then (if (a1.size : Int) ≤ (a0.size : Int) then (some ((a0.extract 0 ((a1.size : Int) : Int).toNat).toList == a1.toList)) else (none)) else (none)) else (some false)
set_option maxHeartbeats 8000000 in
set_option maxRecDepth 100000 in
theorem stringslite_HasPrefix.calls (a0 : ByteArray) (a1 : ByteArray) (r : Bool) (w : World) (h : stringslite_HasPrefix.f a0 a1 = some r) :
 Calls Tryd.prog 93 #[.string a0, .string a1] w fun e w' => e = .returned (.bool r) ∧ Drawn0 w w' := by
 have H : (if (a0.size : Int) ≥ (a1.size : Int) then (if 0 ≤ (a1.size : Int) then (if (a1.size : Int) ≤ (a0.size : Int) then (some ((a0.extract 0 ((a1.size : Int) : Int).toNat).toList == a1.toList)) else (none)) else (none)) else (some false)) = some r := h
 clear h
 by_cases c3 : (a0.size : Int) ≥ (a1.size : Int)
 · rw [if_pos c3] at H
   have c3b0 : decide ((a1.size : Int) ≤ (a0.size : Int)) = true := decide_eq_true c3
   have c3b1 : decide (a1.size ≤ a0.size) = true := decide_eq_true (Int.ofNat_le.mp c3)
   clear c3
   by_cases c4 : 0 ≤ (a1.size : Int)
   · rw [if_pos c4] at H
     have c4b0 := eq_true c4
     have c4b1 : decide (0 ≤ (a1.size : Int)) = true := decide_eq_true c4
     clear c4
     by_cases c5 : (a1.size : Int) ≤ (a0.size : Int)
     · rw [if_pos c5] at H
       have c5b0 := eq_true c5
       have c5b1 : decide ((a1.size : Int) ≤ (a0.size : Int)) = true := decide_eq_true c5
       clear c5
       obtain rfl := Option.some.inj H
       go_enter Tryd.func93, Tryd.ntmps93
       go_wp2
       go_ret
       exact ⟨z4458, za9de⟩
     · rw [if_neg c5] at H
       exact absurd H (by simp)
   · rw [if_neg c4] at H
     exact absurd H (by simp)
 · rw [if_neg c3] at H
   have c3b0 : decide ((a1.size : Int) ≤ (a0.size : Int)) = false := decide_eq_false c3
   have c3b1 : decide (a1.size ≤ a0.size) = false := decide_eq_false (fun h => c3 (Int.ofNat_le.mpr h))
   clear c3
   obtain rfl := Option.some.inj H
   go_enter Tryd.func93, Tryd.ntmps93
   go_wp2
   go_ret
   exact ⟨z4458, za9de⟩

end Go.Proofs.YteogadaloebdaaaDoor.P

-- written by a program of this session's (wip/pp)
namespace Go.Proofs.YteogadaloebdaaaDoor.P
open Go.RowKit Go.Proofs.YteogadaloebdaaaDoorW.PrintWords Go.Proofs.YteogadaloebdaaaDoorW.PrintLast Go.Proofs.YteogadaloebdaaaDoorW.PrintMore
attribute [local go_sem] max2_int min2_int max_two min_two max_three min_three max_four min_four str_geq str_gtr str_leq   -- for this text's walks alone
set_option linter.unusedVariables false
set_option linter.unusedSimpArgs false

/-! ### stringslite_TrimPrefix: function 73 -/
def stringslite_TrimPrefix.f (a0 : ByteArray) (a1 : ByteArray) : Option (ByteArray) := (stringslite_HasPrefix.f a0 a1).bind fun t101 => (if t101 = true then (if 0 ≤ (a1.size : Int) then (if (a1.size : Int) ≤ (a0.size : Int) then (some (a0.extract ((a1.size : Int) : Int).toNat a0.size)) else (none)) else (none)) else (some a0))
set_option maxHeartbeats 8000000 in
set_option maxRecDepth 100000 in
theorem stringslite_TrimPrefix.calls (a0 : ByteArray) (a1 : ByteArray) (r : ByteArray) (w : World) (h : stringslite_TrimPrefix.f a0 a1 = some r) :
 Calls Tryd.prog 73 #[.string a0, .string a1] w fun e w' => e = .returned (.string r) ∧ Drawn0 w w' := by
 have H : ((stringslite_HasPrefix.f a0 a1).bind fun t101 => (if t101 = true then (if 0 ≤ (a1.size : Int) then (if (a1.size : Int) ≤ (a0.size : Int) then (some (a0.extract ((a1.size : Int) : Int).toNat a0.size)) else (none)) else (none)) else (some a0))) = some r := h
 clear h
 replace H := Option.bind_eq_some_iff.mp H
 obtain ⟨t101, A30, H⟩ := H
 try dsimp only at H
 have A3 := aM A30
 clear A30
 by_cases c4 : t101 = true
 · subst c4
   have H1 : (if 0 ≤ (a1.size : Int) then (if (a1.size : Int) ≤ (a0.size : Int) then (some (a0.extract ((a1.size : Int) : Int).toNat a0.size)) else (none)) else (none)) = some r := by rw [if_pos rfl] at H; exact H
   clear H
   have H := H1
   clear H1
   by_cases c5 : 0 ≤ (a1.size : Int)
   · rw [if_pos c5] at H
     have c5b0 := eq_true c5
     have c5b1 : decide (0 ≤ (a1.size : Int)) = true := decide_eq_true c5
     clear c5
     by_cases c6 : (a1.size : Int) ≤ (a0.size : Int)
     · rw [if_pos c6] at H
       have c6b0 := eq_true c6
       have c6b1 : decide ((a1.size : Int) ≤ (a0.size : Int)) = true := decide_eq_true c6
       clear c6
       obtain rfl := Option.some.inj H
       go_enter Tryd.func73, Tryd.ntmps73
       go_wp2_with (first | ((with_reducible refine gate_callee (f := 93) rfl ?_); refine goesL_ (some 7) rfl rfl Tryd.func93 (by kernel_rfl) rfl #[.string a0, .string a1] rfl zee81 ?_; (with_reducible refine (stringslite_HasPrefix.calls a0 a1 true _ A3.out).mono ?_); rintro e w' ⟨rfl, ⟨nd, rfl⟩⟩; refine ⟨_, rfl, ?_⟩))
       go_ret
       exact ⟨z4458, za9de⟩
     · rw [if_neg c6] at H
       exact absurd H (by simp)
   · rw [if_neg c5] at H
     exact absurd H (by simp)
 · replace c4 := Bool.eq_false_iff.mpr c4
   subst c4
   have H1 : (some a0) = some r := by rw [if_neg (show ¬ (false = true) by decide)] at H; exact H
   clear H
   have H := H1
   clear H1
   obtain rfl := Option.some.inj H
   go_enter Tryd.func73, Tryd.ntmps73
   go_wp2_with (first | ((with_reducible refine gate_callee (f := 93) rfl ?_); refine goesL_ (some 7) rfl rfl Tryd.func93 (by kernel_rfl) rfl #[.string a0, .string a1] rfl zee81 ?_; (with_reducible refine (stringslite_HasPrefix.calls a0 a1 false _ A3.out).mono ?_); rintro e w' ⟨rfl, ⟨nd, rfl⟩⟩; refine ⟨_, rfl, ?_⟩))
   go_ret
   exact ⟨z4458, za9de⟩

end Go.Proofs.YteogadaloebdaaaDoor.P

-- written by a program of this session's (wip/pp)
namespace Go.Proofs.YteogadaloebdaaaDoor.P
open Go.RowKit Go.Proofs.YteogadaloebdaaaDoorW.PrintWords Go.Proofs.YteogadaloebdaaaDoorW.PrintLast Go.Proofs.YteogadaloebdaaaDoorW.PrintMore
attribute [local go_sem] max2_int min2_int max_two min_two max_three min_three max_four min_four str_geq str_gtr str_leq   -- for this text's walks alone
set_option linter.unusedVariables false
set_option linter.unusedSimpArgs false

/-! ### strings_TrimPrefix: function 42 -/
def strings_TrimPrefix.f (a0 : ByteArray) (a1 : ByteArray) : Option (ByteArray) := (stringslite_TrimPrefix.f a0 a1).bind fun t101 => (some t101)
set_option maxHeartbeats 8000000 in
set_option maxRecDepth 100000 in
theorem strings_TrimPrefix.calls (a0 : ByteArray) (a1 : ByteArray) (r : ByteArray) (w : World) (h : strings_TrimPrefix.f a0 a1 = some r) :
 Calls Tryd.prog 42 #[.string a0, .string a1] w fun e w' => e = .returned (.string r) ∧ Drawn0 w w' := by
 have H : ((stringslite_TrimPrefix.f a0 a1).bind fun t101 => (some t101)) = some r := h
 clear h
 replace H := Option.bind_eq_some_iff.mp H
 obtain ⟨t101, A30, H⟩ := H
 try dsimp only at H
 have A3 := aM A30
 clear A30
 obtain rfl := Option.some.inj H
 go_enter Tryd.func42, Tryd.ntmps42
 go_wp2_with (first | ((with_reducible refine gate_callee (f := 73) rfl ?_); refine goesL_ (some 7) rfl rfl Tryd.func73 (by kernel_rfl) rfl #[.string a0, .string a1] rfl zee81 ?_; (with_reducible refine (stringslite_TrimPrefix.calls a0 a1 t101 _ A3.out).mono ?_); rintro e w' ⟨rfl, ⟨nd, rfl⟩⟩; refine ⟨_, rfl, ?_⟩))
 go_ret
 exact ⟨z4458, za9de⟩

end Go.Proofs.YteogadaloebdaaaDoor.P

-- written by a program of this session's (wip/pp)
namespace Go.Proofs.YteogadaloebdaaaDoor.P
open Go.RowKit Go.Proofs.YteogadaloebdaaaDoorW.PrintWords Go.Proofs.YteogadaloebdaaaDoorW.PrintLast Go.Proofs.YteogadaloebdaaaDoorW.PrintMore
attribute [local go_sem] max2_int min2_int max_two min_two max_three min_three max_four min_four str_geq str_gtr str_leq   -- for this text's walks alone
set_option linter.unusedVariables false
set_option linter.unusedSimpArgs false

/-! ### bytes_Equal: function 43 -/
def bytes_Equal.f (l0 : List Int) (l1 : List Int) : Option (Bool) := some ((strOfNums l0).toList == (strOfNums l1).toList)
set_option maxHeartbeats 8000000 in
set_option maxRecDepth 100000 in
theorem bytes_Equal.calls (A0 : Option Addr) (c0 : Nat) (l0 : List Int) (A1 : Option Addr) (c1 : Nat) (l1 : List Int) (r : Bool) (w : World) (hr0 : Kd.C (Kd.int .u8) w A0 l0.length l0) (hc0 : l0.length ≤ c0) (hr1 : Kd.C (Kd.int .u8) w A1 l1.length l1) (hc1 : l1.length ≤ c1) (h : bytes_Equal.f l0 l1 = some r) :
 Calls Tryd.prog 43 #[.slice A0 l0.length c0, .slice A1 l1.length c1] w fun e w' => e = .returned (.bool r) ∧ Drawn0 w w' := by
 have HR0 := aM hr0
 have HC0 := aM hc0
 clear hr0 hc0
 have HR1 := aM hr1
 have HC1 := aM hc1
 clear hr1 hc1
 have H : (some ((strOfNums l0).toList == (strOfNums l1).toList)) = some r := h
 clear h
 obtain rfl := Option.some.inj H
 have hcv3 := Kd.C_string (P := Tryd.prog) (A := A0) (c := c0) Tryd.underlying22 Tryd.underlying5 Tryd.underlying9 HR0.out
 have hcv4 := Kd.C_string (P := Tryd.prog) (A := A1) (c := c1) Tryd.underlying22 Tryd.underlying5 Tryd.underlying9 HR1.out
 go_enter Tryd.func43, Tryd.ntmps43
 go_wp2
 go_ret
 exact ⟨z4458, za9de⟩

end Go.Proofs.YteogadaloebdaaaDoor.P

-- written by a program of this session's (wip/pp)
namespace Go.Proofs.YteogadaloebdaaaDoor.P
open Go.RowKit Go.Proofs.YteogadaloebdaaaDoorW.PrintWords Go.Proofs.YteogadaloebdaaaDoorW.PrintLast Go.Proofs.YteogadaloebdaaaDoorW.PrintMore
attribute [local go_sem] max2_int min2_int max_two min_two max_three min_three max_four min_four str_geq str_gtr str_leq   -- for this text's walks alone
set_option linter.unusedVariables false
set_option linter.unusedSimpArgs false

/-! ### impl_ReadKey: function 12 -/
mutual
def impl_ReadKey.j0 : Nat → List Int → Int → Int → Bool → Option (ByteArray × (List (S69)) × Int × Bool)
 | 0, _, _, _, _ => none
 | k + 1, x0, x4, x5, x30 => if x30 = true then (some ((⟨#[]⟩ : ByteArray), ([] : List (S69)), 0, false)) else (if 0 ≤ x4 then (if x4 ≤ (x0.length : Int) then ((strings_Cut.f (strOfNums (x0.take (x4 : Int).toNat)) (⟨#[0]⟩ : ByteArray)).bind fun bt108 => (impl_ReadKey.l0 k x0 bt108.2.1 bt108.1 ([] : List (S69)) x5)) else (none)) else (none))
def impl_ReadKey.l0 : Nat → List Int → ByteArray → ByteArray → List (S69) → Int → Option (ByteArray × (List (S69)) × Int × Bool)
 | 0, _, _, _, _, _ => none
 | k + 1, x0, x8, x112000, x112001, x112002 => if x8.toList = ([] : List UInt8) then (impl_ReadKey.j2 k x0 x8 false x112000 x112001 x112002) else (impl_ReadKey.j2 k x0 x8 (decide ((x112001.length : Int) ≤ 4)) x112000 x112001 x112002)
def impl_ReadKey.j2 : Nat → List Int → ByteArray → Bool → ByteArray → List (S69) → Int → Option (ByteArray × (List (S69)) × Int × Bool)
 | 0, _, _, _, _, _, _ => none
 | k + 1, x0, x8, x51, x112000, x112001, x112002 => if x51 = true then ((strings_Cut.f x8 (⟨#[0]⟩ : ByteArray)).bind fun bt112 => ((strings_TrimPrefix.f bt112.1 (⟨#[2]⟩ : ByteArray)).bind fun t115 => ((strings_Cut.f t115 (⟨#[1]⟩ : ByteArray)).bind fun bt116 => (if x112001.length < 4398046511104 then (impl_ReadKey.l0 k x0 bt112.2.1 x112000 (x112001 ++ [(⟨bt116.1, bt116.2.1⟩ : S69)]) x112002) else (none))))) else ((impl_GoodKey.f k x112000 x112001 x112002).bind fun t122 => (if t122 = true then ((impl_keyBytes.f k x112000 x112001 x112002).bind fun t123 => ((bytes_Equal.f t123 x0).bind fun t126 => (if t126 = true then (some (x112000, x112001, x112002, true)) else (some ((⟨#[]⟩ : ByteArray), ([] : List (S69)), 0, false))))) else (some ((⟨#[]⟩ : ByteArray), ([] : List (S69)), 0, false))))
end
def impl_ReadKey.f (k : Nat) (l0 : List Int) : Option (ByteArray × (List (S69)) × Int × Bool) := (impl_ReadFixed.f k l0 (wrap64 ((wrap64 ((l0.length : Int) - 9)) + 1)) 8).bind fun bt102 => (if bt102.2 = true then (impl_ReadKey.j0 k l0 (wrap64 ((l0.length : Int) - 9)) bt102.1 (decide ((wrap64 ((l0.length : Int) - 9)) < 0))) else (impl_ReadKey.j0 k l0 (wrap64 ((l0.length : Int) - 9)) bt102.1 true))
theorem impl_ReadKey.mono_l : ∀ k, (∀ y0 y1 y2 y3, LeO (impl_ReadKey.j0 k y0 y1 y2 y3) (impl_ReadKey.j0 (k + 1) y0 y1 y2 y3)) ∧ (∀ y0 y1 y2 y3 y4, LeO (impl_ReadKey.l0 k y0 y1 y2 y3 y4) (impl_ReadKey.l0 (k + 1) y0 y1 y2 y3 y4)) ∧ (∀ y0 y1 y2 y3 y4 y5, LeO (impl_ReadKey.j2 k y0 y1 y2 y3 y4 y5) (impl_ReadKey.j2 (k + 1) y0 y1 y2 y3 y4 y5))
 | 0 => ⟨fun _ _ _ _ r h => by simp [impl_ReadKey.j0] at h, fun _ _ _ _ _ r h => by simp [impl_ReadKey.l0] at h, fun _ _ _ _ _ _ r h => by simp [impl_ReadKey.j2] at h⟩
 | k + 1 => by
  obtain ⟨ih0, ih1, ih2⟩ := impl_ReadKey.mono_l k
  refine ⟨?_, ?_, ?_⟩
  · intro y0 y1 y2 y3
    unfold impl_ReadKey.j0
    repeat' first
     | (with_reducible first | exact ih0 .. | exact ih1 .. | exact ih2 .. | exact impl_GoodKey.mono .. | exact impl_ReadFixed.mono .. | exact impl_keyBytes.mono .. | exact LeO.refl _ | exact LeO.none _ | refine LeO.ite ?_ ?_ | refine LeO.bind ?_ (fun _ => ?_))
     | exact LeO.none _
     | refine LeO.ite ?_ ?_
     | refine LeO.bind ?_ (fun _ => ?_)
  · intro y0 y1 y2 y3 y4
    unfold impl_ReadKey.l0
    repeat' first
     | (with_reducible first | exact ih0 .. | exact ih1 .. | exact ih2 .. | exact impl_GoodKey.mono .. | exact impl_ReadFixed.mono .. | exact impl_keyBytes.mono .. | exact LeO.refl _ | exact LeO.none _ | refine LeO.ite ?_ ?_ | refine LeO.bind ?_ (fun _ => ?_))
     | exact LeO.none _
     | refine LeO.ite ?_ ?_
     | refine LeO.bind ?_ (fun _ => ?_)
  · intro y0 y1 y2 y3 y4 y5
    unfold impl_ReadKey.j2
    repeat' first
     | (with_reducible first | exact ih0 .. | exact ih1 .. | exact ih2 .. | exact impl_GoodKey.mono .. | exact impl_ReadFixed.mono .. | exact impl_keyBytes.mono .. | exact LeO.refl _ | exact LeO.none _ | refine LeO.ite ?_ ?_ | refine LeO.bind ?_ (fun _ => ?_))
     | exact LeO.none _
     | refine LeO.ite ?_ ?_
     | refine LeO.bind ?_ (fun _ => ?_)
theorem impl_ReadKey.mono : ∀ a0 k, LeO (impl_ReadKey.f k a0) (impl_ReadKey.f (k + 1) a0) := by
 intro a0 k
 obtain ⟨ih0, ih1, ih2⟩ := impl_ReadKey.mono_l k
 unfold impl_ReadKey.f
 repeat' first
  | (with_reducible first | exact ih0 .. | exact ih1 .. | exact ih2 .. | exact impl_GoodKey.mono .. | exact impl_ReadFixed.mono .. | exact impl_keyBytes.mono .. | exact LeO.refl _ | exact LeO.none _ | refine LeO.ite ?_ ?_ | refine LeO.bind ?_ (fun _ => ?_))
  | exact LeO.none _
  | refine LeO.ite ?_ ?_
  | refine LeO.bind ?_ (fun _ => ?_)
set_option maxHeartbeats 8000000 in
set_option maxRecDepth 100000 in
theorem impl_ReadKey.calls (k : Nat) (A0 : Option Addr) (c0 : Nat) (l0 : List Int) (r1 : ByteArray) (r2 : List (S69)) (r3 : Int) (r4 : Bool) (w : World) (hr0 : Kd.C (Kd.int .u8) w A0 l0.length l0) (hc0 : l0.length ≤ c0) (hTabM_ : TabM_ w) (h : impl_ReadKey.f k l0 = some (r1, r2, r3, r4)) :
 Calls Tryd.prog 12 #[.slice A0 l0.length c0] w fun e w' => ∃ v1_ : Value, e = .returned (.tuple #[.agg #[.string r1, v1_, .int .i64 r3], .bool r4]) ∧ Kd.R k69 69 w' w.heap.size (fun _ => True) v1_ r2 ∧ Below w.heap.size w w' := by
 have hu25 := Tryd.underlying25
 have hu69 := Tryd.underlying69
 have HR0 := aM hr0
 have HC0 := aM hc0
 clear hr0 hc0
 have HTabM_ := aM hTabM_
 clear hTabM_
 have HB := aM (Below.refl w.heap.size w)
 have H : ((impl_ReadFixed.f k l0 (wrap64 ((wrap64 ((l0.length : Int) - 9)) + 1)) 8).bind fun bt102 => (if bt102.2 = true then (impl_ReadKey.j0 k l0 (wrap64 ((l0.length : Int) - 9)) bt102.1 (decide ((wrap64 ((l0.length : Int) - 9)) < 0))) else (impl_ReadKey.j0 k l0 (wrap64 ((l0.length : Int) - 9)) bt102.1 true))) = some (r1, r2, r3, r4) := h
 clear h
 replace H := Option.bind_eq_some_iff.mp H
 obtain ⟨⟨t102, t103⟩, A20, H⟩ := H
 try dsimp only at H
 have A2 := aM A20
 clear A20
 have HC3 := aM H
 clear H
 go_enter Tryd.func12, Tryd.ntmps12
 go_upto_region 3 with (first | ((with_reducible refine gate_dst (N := 2) rfl ?_); (try (refine gate_guard (by rfl) ?_; dsimp only)); refine box_event ?hg (N := 2) ?hd (cs := #[.string (⟨#[]⟩ : ByteArray), .slice none 0 0, .int .i64 0]) (t := 25) ?hr ?_; (case hd => rfl); (case hg => rfl); (case hr => first | (go_simp; done) | (go_simp; rfl)); intro gb101 hg w4 hbox hb; have _ := aM (below_step hbZ hb); have _ := aM hbox; have _ := szZ hg; have _ := szZ hg; clear HB; rename_i HB BK101 GW101 GE101; clear hb hbox hg) | ((with_reducible refine gate_callee (f := 40) rfl ?_); refine goesL_ (some 22) rfl rfl Tryd.func40 (by kernel_rfl) rfl #[.slice A0 l0.length c0, .int .i64 (wrap64 ((wrap64 ((l0.length : Int) - 9)) + 1)), .int .i64 8] rfl zee81 ?_; (with_reducible refine (impl_ReadFixed.calls k _ _ l0 (wrap64 ((wrap64 ((l0.length : Int) - 9)) + 1)) 8 t102 t103 _ ?side1 ?side2 A2.out).mono ?_); (case side1 => exact (cZ (Kd.C_below HR0.out HB.out))); (case side2 => exact HC0.out); rintro e w' ⟨rfl, ⟨nd, rfl⟩⟩; refine ⟨_, rfl, ?_⟩))
 (try simp only [Act.put, List.setIfInBounds_toArray, List.set_cons_zero, List.set_cons_succ])
 go_cut [30] (fun v30 wc => ∃ (kq : Nat) (x30_2 : Bool), v30 = .bool x30_2 ∧ Aside0 (impl_ReadKey.j0 kq l0 (wrap64 ((l0.length : Int) - 9)) t102 x30_2 = some (r1, r2, r3, r4)) ∧ Aside0 (kq ≤ k) ∧ Aside0 (wc.heap[gb101]? = some (.cells #[.string (⟨#[]⟩ : ByteArray), (.slice none 0 0), .int .i64 0] 25 (0, 0))) ∧ Aside0 (Below w.heap.size w wc))
 case first =>
  have H := HC3.out
  clear HC3
  by_cases c5 : t103 = true
  · subst c5
    have H1 : (impl_ReadKey.j0 k l0 (wrap64 ((l0.length : Int) - 9)) t102 (decide ((wrap64 ((l0.length : Int) - 9)) < 0))) = some (r1, r2, r3, r4) := by rw [if_pos rfl] at H; exact H
    clear H
    have H := H1
    clear H1
    have H' := aM H
    clear H
    go_wp2
    go_meet
    case rel => exact ⟨_, (decide ((wrap64 ((l0.length : Int) - 9)) < 0)), z4458, H', ⟨zb79b⟩, ⟨bkZ⟩, ⟨zcb41⟩⟩
  · replace c5 := Bool.eq_false_iff.mpr c5
    subst c5
    have H1 : (impl_ReadKey.j0 k l0 (wrap64 ((l0.length : Int) - 9)) t102 true) = some (r1, r2, r3, r4) := by rw [if_neg (show ¬ (false = true) by decide)] at H; exact H
    clear H
    have H := H1
    clear H1
    have H' := aM H
    clear H
    go_wp2
    go_meet
    case rel => exact ⟨_, (true), z4458, H', ⟨zb79b⟩, ⟨bkZ⟩, ⟨zcb41⟩⟩
 case rest =>
  clear HC3
  try clear c1
  try clear p2
  try clear c4
  try clear c5
  obtain ⟨kq, x30_2, rfl, HA, HJ2, BK101, HB⟩ := hcut
  cases kq with
  | zero => exact absurd HA.out (by simp [impl_ReadKey.j0])
  | succ kj2 =>
   have H := HA.out
   clear HA
   simp only [impl_ReadKey.j0] at H
   by_cases c6 : x30_2 = true
   · subst c6
     have H1 : (some ((⟨#[]⟩ : ByteArray), ([] : List (S69)), 0, false)) = some (r1, r2, r3, r4) := by rw [if_pos rfl] at H; exact H
     clear H
     have H := H1
     clear H1
     simp only [Option.some.injEq, Prod.mk.injEq] at H
     obtain ⟨rfl, rfl, rfl, rfl⟩ := H
     obtain ⟨hcz7_0, hcz7_1, hcz7_2, hfz7_0, hfz7_1, hfz7_2⟩ := cellsZ3 BK101.out
     go_wp2
     refine bodyPost_ret (results_ct rfl _ _ gb101 25 #[.string (⟨#[]⟩ : ByteArray), .slice none 0 0, .int .i64 0] (0, 0) _ rfl bkZ Tryd.underlying25 rfl (by kernel_rfl)) rfl ?_
     exact ⟨_, z674d, z02fa, zcb41⟩
   · replace c6 := Bool.eq_false_iff.mpr c6
     subst c6
     have H1 : (if 0 ≤ (wrap64 ((l0.length : Int) - 9)) then (if (wrap64 ((l0.length : Int) - 9)) ≤ (l0.length : Int) then ((strings_Cut.f (strOfNums (l0.take ((wrap64 ((l0.length : Int) - 9)) : Int).toNat)) (⟨#[0]⟩ : ByteArray)).bind fun bt108 => (impl_ReadKey.l0 kj2 l0 bt108.2.1 bt108.1 ([] : List (S69)) t102)) else (none)) else (none)) = some (r1, r2, r3, r4) := by rw [if_neg (show ¬ (false = true) by decide)] at H; exact H
     clear H
     have H := H1
     clear H1
     obtain ⟨ji8, hji8⟩ : ∃ j_ : Int, (wrap64 ((l0.length : Int) - 9)) = j_ := ⟨_, rfl⟩
     replace H : (if 0 ≤ (ji8) then (if (ji8) ≤ (l0.length : Int) then ((strings_Cut.f (strOfNums (l0.take ((ji8) : Int).toNat)) (⟨#[0]⟩ : ByteArray)).bind fun bt108 => (impl_ReadKey.l0 kj2 l0 bt108.2.1 bt108.1 ([] : List (S69)) t102)) else (none)) else (none)) = some (r1, r2, r3, r4) := by first | (rw [hji8] at H; exact H) | (simp only [hji8] at H ⊢; exact H)
     have hji8w : (IntKind.i64.wrap ((l0.length : Int) - 9)) = ji8 := (i64_w _).trans hji8
     by_cases c9 : 0 ≤ (ji8)
     · rw [if_pos c9] at H
       have c9b0 := eq_true c9
       have c9b1 : decide (0 ≤ (ji8)) = true := decide_eq_true c9
       clear c9
       by_cases c10 : (ji8) ≤ (l0.length : Int)
       · rw [if_pos c10] at H
         have c10b0 := eq_true c10
         have c10b1 : decide ((ji8) ≤ (l0.length : Int)) = true := decide_eq_true c10
         clear c10
         obtain ⟨y104, hy104⟩ : ∃ y_ : List Int, y_ = (l0.take ((ji8) : Int).toNat) := ⟨_, rfl⟩
         replace H : ((strings_Cut.f (strOfNums y104) (⟨#[0]⟩ : ByteArray)).bind fun bt108 => (impl_ReadKey.l0 kj2 l0 bt108.2.1 bt108.1 ([] : List (S69)) t102)) = some (r1, r2, r3, r4) := by first | (rw [hy104]; with_reducible exact H) | (have H2_ := (Option.bind_some _ _).symm.trans H; rw [hy104]; with_reducible exact H2_) | (have H2_ := (Option.bind_some _ _).symm.trans H; with_reducible exact H2_) | with_reducible exact H | (rw [hy104]; exact H) | exact H
         have Ny104 := aM hy104
         clear hy104
         replace H := Option.bind_eq_some_iff.mp H
         obtain ⟨⟨t108, t109, t110⟩, A110, H⟩ := H
         try dsimp only at H
         have A11 := aM A110
         clear A110
         have H' := aM H
         clear H
         have q12 : ((ji8) : Int) ≤ ((l0.length : Int) : Int) := of_decide_eq_true z1200
         obtain ⟨i012, hi012, _, hsz12, _⟩ := info_parts info5
         have hroom12 : l0.length ≤ c0 := HC0.out
         have hC12 : Kd.C (Kd.int .u8) _ A0 l0.length l0 := HR0.out
         have hcut12 := cut_to (P := Tryd.prog) 22 5 .i64 Tryd.underlying22 hi012 A0 l0.length c0 (ji8) (of_decide_eq_true z1200) q12 hroom12
         have hr12 := Kd.C_take (m := ((ji8) : Int).toNat) hC12 (by omega)
         have hy12 : y104.length = ((ji8) : Int).toNat := (by rw [Ny104.out, List.length_take]; omega)
         rw [← Ny104.out] at hr12
         rw [← hy12] at hcut12
         have HR107 := aM hr12
         have HC107 := aM (show y104.length ≤ c0 from by omega)
         clear hr12 hC12 hroom12 hi012 hsz12
         have KY12 := aM hy12
         clear hy12
         replace q12 := eq_true q12
         have hcv13 := Kd.C_string (P := Tryd.prog) (A := A0) (c := c0) Tryd.underlying22 Tryd.underlying5 Tryd.underlying9 (Kd.C_below HR107.out HB.out)
         go_wp2_with (first | ((with_reducible refine gate_callee (f := 41) rfl ?_); refine goesL_ (some 37) rfl rfl Tryd.func41 (by kernel_rfl) rfl #[.string (strOfNums y104), .string (⟨#[0]⟩ : ByteArray)] rfl zee81 ?_; (with_reducible refine (strings_Cut.calls (strOfNums y104) (⟨#[0]⟩ : ByteArray) t108 t109 t110 _ ?side1 A11.out).mono ?_); (case side1 => exact TabM_.stays HTabM_.out hbZ); rintro e w14 ⟨rfl, hb⟩; refine ⟨_, rfl, ?_⟩; have _ := bB gb101 hb; have _ := aM (below_step hbZ hb); clear BK101 HB; rename_i BK101 HB; (try clear hb)) | ((with_reducible refine gate_dst (N := 10) rfl ?_); (try (refine gate_guard (by rfl) ?_; dsimp only)); refine box_event ?hg (N := 10) ?hd (cs := #[.string (⟨#[]⟩ : ByteArray), .slice none 0 0, .int .i64 0]) (t := 25) ?hr ?_; (case hd => rfl); (case hg => rfl); (case hr => first | (go_simp; done) | (go_simp; rfl)); intro gb111 hg w15 hbox hb; have _ := bB gb101 hb; have _ := aM (below_step hbZ hb); have _ := aM hbox; have _ := szZ hg; have _ := szZ hg; have ⟨_, _⟩ := nbB gb101 hg; clear BK101 HB; rename_i BK101 HB BK111 GW111 GE111 NB101_111 NB111_101; clear hb hbox hg; have hnb16 := NB111_101.out; have hnc16 := NB101_111.out; obtain ⟨hcz17_0, hcz17_1, hcz17_2, hfz17_0, hfz17_1, hfz17_2⟩ := cellsZ3 BK111.out))
         go_loopg [8] kj2 (fun kq v8 w' => ∃ (x8_2 : ByteArray) (x112001_2 : List (S69)) (u112001 : Value), v8 = .string x8_2 ∧ Aside0 (impl_ReadKey.l0 kq l0 x8_2 t108 x112001_2 t102 = some (r1, r2, r3, r4)) ∧ Aside0 (kq ≤ kj2) ∧ Aside0 (Kd.R k69 69 w' w.heap.size (fun _ => True) u112001 x112001_2) ∧ Aside0 (w'.heap[gb101]? = some (.cells #[.string (⟨#[]⟩ : ByteArray), (.slice none 0 0), .int .i64 0] 25 (0, 0))) ∧ Aside0 (w'.heap[gb111]? = some (.cells #[.string t108, u112001, .int .i64 t102] 25 (0, 0))) ∧ Aside0 (Below w.heap.size w w'))
         case atStart => exact ⟨(t109), (([] : List (S69))), (.slice none 0 0), z4458, H', ⟨Nat.le_refl _⟩, ⟨z02fa⟩, ⟨bkZ⟩, ⟨bkZ⟩, ⟨zcb41⟩⟩
         case round =>
          clear H'
          try clear c1
          try clear q1
          try clear hcv1
          try clear p2
          try clear c4
          try clear c5
          try clear c6
          try clear p6
          try clear c9
          try clear c9b0
          try clear c9b1
          try clear c10
          try clear c10b0
          try clear c10b1
          try clear c12
          try clear q12
          try clear hcv13
          try clear c16
          try clear hcz17_0 hcz17_1 hcz17_2
          try clear hcz7_0 hcz7_1 hcz7_2
          try clear hfz17_0 hfz17_1 hfz17_2
          try clear hfz7_0 hfz7_1 hfz7_2
          try clear p2
          try clear q12
          obtain ⟨x8_2, x112001_2, u112001, rfl, HA, HK2, HO_112001, BK101, BK111, HB⟩ := hrel
          cases gk with
          | zero => exact absurd HA.out (by simp [impl_ReadKey.l0])
          | succ k2 =>
           have H := HA.out
           clear HA
           simp only [impl_ReadKey.l0] at H
           have HC18 := aM H
           clear H
           go_upto_region 7 with (fail)
           go_cut [51] (fun v51 wc => ∃ (kq : Nat) (x51_17 : Bool), v51 = .bool x51_17 ∧ Aside0 (impl_ReadKey.j2 kq l0 x8_2 x51_17 t108 x112001_2 t102 = some (r1, r2, r3, r4)) ∧ Aside0 (kq ≤ k2) ∧ Aside0 (Kd.R k69 69 wc w.heap.size (fun _ => True) u112001 x112001_2) ∧ Aside0 (wc.heap[gb101]? = some (.cells #[.string (⟨#[]⟩ : ByteArray), (.slice none 0 0), .int .i64 0] 25 (0, 0))) ∧ Aside0 (wc.heap[gb111]? = some (.cells #[.string t108, u112001, .int .i64 t102] 25 (0, 0))) ∧ Aside0 (Below w.heap.size w wc))
           case first =>
            have H := HC18.out
            clear HC18
            by_cases c19 : x8_2.toList = ([] : List UInt8)
            · rw [if_pos c19] at H
              have c19b0 : (x8_2.toList == ([] : List UInt8)) = true := beq_iff_eq.mpr c19
              have c19b1 : (x8_2.toList != ([] : List UInt8)) = false := bne_eq_false_iff_eq.mpr c19
              clear c19
              (first | rw [c19b0] | (simp only [i64_w, i32_w]; rw [c19b0]) | skip)
              have H' := aM H
              clear H
              go_wp2
              go_meet
              case rel => exact ⟨_, (false), z4458, H', ⟨by have := HJ2.out; have := HK2.out; first | omega | exact Nat.le_refl _⟩, ⟨rZ HO_112001.out⟩, ⟨bkZ⟩, ⟨bkZ⟩, ⟨zcb41⟩⟩
            · rw [if_neg c19] at H
              have c19b0 : (x8_2.toList == ([] : List UInt8)) = false := beq_eq_false_iff_ne.mpr c19
              have c19b1 : (x8_2.toList != ([] : List UInt8)) = true := bne_iff_ne.mpr c19
              (first | rw [c19b0] | (simp only [i64_w, i32_w]; rw [c19b0]) | skip)
              have H' := aM H
              clear H
              have hnb20 := NB111_101.out
              have hnc20 := NB101_111.out
              obtain ⟨hcz21_0, hcz21_1, hcz21_2, hfz21_0, hfz21_1, hfz21_2⟩ := cellsZ3 BK111.out
              obtain ⟨Ao22, co22, eo22⟩ := Kd.R_slice HO_112001.out
              subst eo22
              go_wp2
              go_meet
              case rel => exact ⟨_, (decide ((x112001_2.length : Int) ≤ 4)), z4458, H', ⟨by have := HJ2.out; have := HK2.out; first | omega | exact Nat.le_refl _⟩, ⟨rZ HO_112001.out⟩, ⟨bkZ⟩, ⟨bkZ⟩, ⟨zcb41⟩⟩
           case rest =>
            clear HC18
            try clear c1
            try clear q1
            try clear hcv1
            try clear c2
            try clear p2
            try clear c4
            try clear c5
            try clear c6
            try clear p6
            try clear c9
            try clear c9b0
            try clear c9b1
            try clear c10
            try clear c10b0
            try clear c10b1
            try clear c12
            try clear q12
            try clear hcv13
            try clear c16
            try clear c19
            try clear c19b0
            try clear c19b1
            try clear c20
            try clear hcz17_0 hcz17_1 hcz17_2
            try clear hcz21_0 hcz21_1 hcz21_2
            try clear hcz7_0 hcz7_1 hcz7_2
            try clear hfz17_0 hfz17_1 hfz17_2
            try clear hfz21_0 hfz21_1 hfz21_2
            try clear hfz7_0 hfz7_1 hfz7_2
            try clear p2
            try clear p6
            try clear q1
            try clear q12
            obtain ⟨kq, x51_17, rfl, HA, HJ17, HO_112001, BK101, BK111, HB⟩ := hcut
            cases kq with
            | zero => exact absurd HA.out (by simp [impl_ReadKey.j2])
            | succ kj17 =>
             have H := HA.out
             clear HA
             simp only [impl_ReadKey.j2] at H
             by_cases c23 : x51_17 = true
             · subst c23
               have H1 : ((strings_Cut.f x8_2 (⟨#[0]⟩ : ByteArray)).bind fun bt112 => ((strings_TrimPrefix.f bt112.1 (⟨#[2]⟩ : ByteArray)).bind fun t115 => ((strings_Cut.f t115 (⟨#[1]⟩ : ByteArray)).bind fun bt116 => (if x112001_2.length < 4398046511104 then (impl_ReadKey.l0 kj17 l0 bt112.2.1 t108 (x112001_2 ++ [(⟨bt116.1, bt116.2.1⟩ : S69)]) t102) else (none))))) = some (r1, r2, r3, r4) := by rw [if_pos rfl] at H; exact H
               clear H
               have H := H1
               clear H1
               replace H := Option.bind_eq_some_iff.mp H
               obtain ⟨⟨t112, t113, t114⟩, A240, H⟩ := H
               try dsimp only at H
               have A24 := aM A240
               clear A240
               replace H := Option.bind_eq_some_iff.mp H
               obtain ⟨t115, A250, H⟩ := H
               try dsimp only at H
               have A25 := aM A250
               clear A250
               replace H := Option.bind_eq_some_iff.mp H
               obtain ⟨⟨t116, t117, t118⟩, A260, H⟩ := H
               try dsimp only at H
               have A26 := aM A260
               clear A260
               by_cases c27 : x112001_2.length < 4398046511104
               · rw [if_pos c27] at H
                 have LMc27 := aM c27
                 clear c27
                 obtain ⟨y119, hy119⟩ : ∃ y_ : List (S69), y_ = (x112001_2 ++ [(⟨t116, t117⟩ : S69)]) := ⟨_, rfl⟩
                 replace H : (impl_ReadKey.l0 kj17 l0 t113 t108 y119 t102) = some (r1, r2, r3, r4) := by first | (rw [hy119]; with_reducible exact H) | (have H2_ := (Option.bind_some _ _).symm.trans H; rw [hy119]; with_reducible exact H2_) | (have H2_ := (Option.bind_some _ _).symm.trans H; with_reducible exact H2_) | with_reducible exact H | (rw [hy119]; exact H) | exact H
                 have Ny119 := aM hy119
                 clear hy119
                 have H' := aM H
                 clear H
                 go_wp2_with (first | ((with_reducible refine gate_callee (f := 41) rfl ?_); refine goesL_ (some 54) rfl rfl Tryd.func41 (by kernel_rfl) rfl #[.string x8_2, .string (⟨#[0]⟩ : ByteArray)] rfl zee81 ?_; (with_reducible refine (strings_Cut.calls x8_2 (⟨#[0]⟩ : ByteArray) t112 t113 t114 _ ?side1 A24.out).mono ?_); (case side1 => exact TabM_.stays HTabM_.out hbZ); rintro e w28 ⟨rfl, hb⟩; refine ⟨_, rfl, ?_⟩; have _ := aM (Kd.R_below (rZ HO_112001.out) hb); have _ := bB gb101 hb; have _ := bB gb111 hb; have _ := aM (below_step hbZ hb); clear HO_112001 BK101 BK111 HB; rename_i HO_112001 BK101 BK111 HB; (try clear hb)) | ((with_reducible refine gate_callee (f := 42) rfl ?_); refine goesL_ (some 60) rfl rfl Tryd.func42 (by kernel_rfl) rfl #[.string t112, .string (⟨#[2]⟩ : ByteArray)] rfl zee81 ?_; (with_reducible refine (strings_TrimPrefix.calls t112 (⟨#[2]⟩ : ByteArray) t115 _ A25.out).mono ?_); rintro e w' ⟨rfl, ⟨nd, rfl⟩⟩; refine ⟨_, rfl, ?_⟩; (try (rw [drewN_self w28]; generalize hq_ : World.drewN w28 _ = w28; have _ : Aside0 (Kd.R k69 69 w28 w.heap.size (fun _ => True) u112001 x112001_2) := ⟨by rw [← hq_]; exact (rZ HO_112001.out)⟩; have _ : Aside0 (w28.heap[gb101]? = some (.cells #[.string (⟨#[]⟩ : ByteArray), .slice none 0 0, .int .i64 0] 25 (0, 0))) := ⟨by rw [← hq_]; exact bkZ⟩; have _ : Aside0 (w28.heap[gb111]? = some (.cells #[.string t108, u112001, .int .i64 t102] 25 (0, 0))) := ⟨by rw [← hq_]; exact bkZ⟩; have _ : Aside0 (Below w.heap.size w w28) := ⟨by rw [← hq_]; exact hbZ⟩; clear HO_112001 BK101 BK111 HB hq_; rename_i HO_112001 BK101 BK111 HB))) | ((with_reducible refine gate_callee (f := 41) rfl ?_); refine goesL_ (some 61) rfl rfl Tryd.func41 (by kernel_rfl) rfl #[.string t115, .string (⟨#[1]⟩ : ByteArray)] rfl zee81 ?_; (with_reducible refine (strings_Cut.calls t115 (⟨#[1]⟩ : ByteArray) t116 t117 t118 _ ?side1 A26.out).mono ?_); (case side1 => exact TabM_.stays HTabM_.out hbZ); rintro e w29 ⟨rfl, hb⟩; refine ⟨_, rfl, ?_⟩; have _ := aM (Kd.R_below (rZ HO_112001.out) hb); have _ := bB gb101 hb; have _ := bB gb111 hb; have _ := aM (below_step hbZ hb); clear HO_112001 BK101 BK111 HB; rename_i HO_112001 BK101 BK111 HB; (try clear hb); have hnb30 := NB111_101.out; have hnc30 := NB101_111.out; obtain ⟨hcz31_0, hcz31_1, hcz31_2, hfz31_0, hfz31_1, hfz31_2⟩ := cellsZ3 BK111.out) | ((with_reducible refine gate_builtin (b := .append) (xs := #[.tmp 66, .tmp 70]) rfl ?_); (try (refine gate_guard (by rfl) ?_; dsimp only)); at_builtin; refine Kd.R_append k69 (w0 := w) w.heap.size rfl (.tmp 66) (.tmp 70) 23 69 (.agg #[(.string ⟨#[]⟩), (.string ⟨#[]⟩)]) 32 rfl Tryd.underlying23 info69 rfl (by decide) (by omega) u112001 x112001_2 (⟨t116, t117⟩ : S69) [.string t116, .string t117] (fun _ => True) (fun _ => False) rfl rfl ?aP (fun _ hk => hk.elim) ?aF ?aO ?aB ?aS ?aL ?_; (case aP => exact k69_mkM _ _ _ (⟨t116, t117⟩ : S69)); (case aB => exact hbZ); (case aF => exact (fun _ _ => trivial)); (case aO => exact (rZ HO_112001.out)); (case aS => exact (below_size hbZ)); (case aL => have := LMc27.out; omega); intro v120 w32 ho hb hg hat; rw [← Ny119.out] at ho; have _ := aM (blk_grown (g := gb101) bkZ hg (Kd.R_ne HO_112001.out BK101.out (by decide))); have _ := aM (blk_grown (g := gb111) bkZ hg (Kd.R_ne HO_112001.out BK111.out (by decide))); have _ := aM hb; have _ := aM ho; clear BK101 BK111 HB HO_112001; rename_i BK101 BK111 HB HO121; clear ho hb hg hat; obtain ⟨Ao33, co33, eo33⟩ := Kd.R_slice HO121.out; subst eo33; obtain ⟨hcz34_0, hcz34_1, hcz34_2, hfz34_0, hfz34_1, hfz34_2⟩ := cellsZ3 BK111.out))
                 go_roundg kj17
                 case measure => have := HJ2.out; have := HK2.out; have := HJ17.out; omega
                 case rel => exact ⟨(t113), (y119), (.slice Ao33 y119.length co33), z4458, H', ⟨by have := HJ2.out; have := HK2.out; have := HJ17.out; omega⟩, ⟨by (with_reducible repeat (first | apply Kd.R_alloc | apply Kd.R_drewN | apply Kd.R_drew)); exact Kd.R_mono (Kd.R_far (p := ⟨gb111, 1, none⟩) (Kd.R_types HO121.out BK111.out (by decide)) (fun _ hk => hk.2) (.slice Ao33 y119.length co33)) (fun _ hk => trivial)⟩, ⟨bkZ⟩, ⟨bkZ⟩, ⟨zcb41⟩⟩
               · rw [if_neg c27] at H
                 exact absurd H (by simp)
             · replace c23 := Bool.eq_false_iff.mpr c23
               subst c23
               have H1 : ((impl_GoodKey.f kj17 t108 x112001_2 t102).bind fun t122 => (if t122 = true then ((impl_keyBytes.f kj17 t108 x112001_2 t102).bind fun t123 => ((bytes_Equal.f t123 l0).bind fun t126 => (if t126 = true then (some (t108, x112001_2, t102, true)) else (some ((⟨#[]⟩ : ByteArray), ([] : List (S69)), 0, false))))) else (some ((⟨#[]⟩ : ByteArray), ([] : List (S69)), 0, false)))) = some (r1, r2, r3, r4) := by rw [if_neg (show ¬ (false = true) by decide)] at H; exact H
               clear H
               have H := H1
               clear H1
               replace H := Option.bind_eq_some_iff.mp H
               obtain ⟨t122, A350, H⟩ := H
               try dsimp only at H
               have A35 := aM A350
               clear A350
               by_cases c36 : t122 = true
               · subst c36
                 have H1 : ((impl_keyBytes.f kj17 t108 x112001_2 t102).bind fun t123 => ((bytes_Equal.f t123 l0).bind fun t126 => (if t126 = true then (some (t108, x112001_2, t102, true)) else (some ((⟨#[]⟩ : ByteArray), ([] : List (S69)), 0, false))))) = some (r1, r2, r3, r4) := by rw [if_pos rfl] at H; exact H
                 clear H
                 have H := H1
                 clear H1
                 replace H := Option.bind_eq_some_iff.mp H
                 obtain ⟨t123, A370, H⟩ := H
                 try dsimp only at H
                 have A37 := aM A370
                 clear A370
                 replace H := Option.bind_eq_some_iff.mp H
                 obtain ⟨t126, A380, H⟩ := H
                 try dsimp only at H
                 have A38 := aM A380
                 clear A380
                 by_cases c39 : t126 = true
                 · subst c39
                   have H1 : (some (t108, x112001_2, t102, true)) = some (r1, r2, r3, r4) := by rw [if_pos rfl] at H; exact H
                   clear H
                   have H := H1
                   clear H1
                   simp only [Option.some.injEq, Prod.mk.injEq] at H
                   obtain ⟨rfl, rfl, rfl, rfl⟩ := H
                   have hnb40 := NB111_101.out
                   have hnc40 := NB101_111.out
                   obtain ⟨hcz41_0, hcz41_1, hcz41_2, hfz41_0, hfz41_1, hfz41_2⟩ := cellsZ3 BK111.out
                   obtain ⟨Ao42, co42, eo42⟩ := Kd.R_slice HO_112001.out
                   subst eo42
                   go_wp2_with (first | ((with_reducible refine gate_callee (f := 31) rfl ?_); refine goesL_ (some 74) rfl rfl Tryd.func31 (by kernel_rfl) rfl #[.agg #[.string t108, .slice Ao42 x112001_2.length co42, .int .i64 t102]] rfl zee81 ?_; (with_reducible refine (impl_GoodKey.calls kj17 t108 _ _ x112001_2 t102 true _ ?side1 ?side2 A35.out).mono ?_); (case side1 => exact (by repeat (first | exact (Kd.R_reads' HO_112001.out).2.2 | (with_reducible refine Kd.C_alloc ?_ _) | (with_reducible refine Kd.C_drewN ?_ _) | (with_reducible refine Kd.C_drew ?_)))); (case side2 => exact (Kd.R_reads' HO_112001.out).2.1); rintro e w43 ⟨rfl, hb⟩; refine ⟨_, rfl, ?_⟩; have _ := aM (Kd.R_below (rZ HO_112001.out) hb); have _ := bB gb101 hb; have _ := bB gb111 hb; have _ := aM (below_step hbZ hb); clear HO_112001 BK101 BK111 HB; rename_i HO_112001 BK101 BK111 HB; (try clear hb); obtain ⟨hcz44_0, hcz44_1, hcz44_2, hfz44_0, hfz44_1, hfz44_2⟩ := cellsZ3 BK111.out) | (go_at_call 32; (with_reducible refine (impl_keyBytes.calls kj17 t108 _ _ x112001_2 t102 t123 _ ?side1 ?side2 A37.out).mono ?_); (case side1 => exact (by repeat (first | exact (Kd.R_reads' HO_112001.out).2.2 | (with_reducible refine Kd.C_alloc ?_ _) | (with_reducible refine Kd.C_drewN ?_ _) | (with_reducible refine Kd.C_drew ?_)))); (case side2 => exact (Kd.R_reads' HO_112001.out).2.1); rintro e w45 ⟨v124, rfl, ho0, hb⟩; have _ := aM (Kd.R_below (rZ HO_112001.out) hb); have _ := aM (Kd.V_lower (Kd.V_mono (ok' := fun k_ => some k_ ≠ (.slice Ao42 x112001_2.length co42 : Value).ownBlock ∧ k_ ≠ gb101 ∧ k_ ≠ gb111) ho0 (fun k_ hk_ => ⟨(Kd.fresh' (Kd.R_lt (rZ HO_112001.out)) k_ hk_), (Kd.freshB (g := gb101) bkZ k_ hk_), (Kd.freshB (g := gb111) bkZ k_ hk_)⟩)) (below_size hbZ)); have _ := bB gb101 hb; have _ := bB gb111 hb; have _ := aM (below_step hbZ hb); clear HO_112001 BK101 BK111 HB; rename_i HO_112001 HO125 BK101 BK111 HB; (try clear hb); (try clear ho0); obtain ⟨Ao46, co46, eo46⟩ := Kd.V_slice HO125.out; subst eo46) | (go_at_call 43; (with_reducible refine (bytes_Equal.calls _ _ t123 _ _ l0 true _ ?side1 ?side2 ?side3 ?side4 A38.out).mono ?_); (case side1 => exact (by repeat (first | exact (Kd.V_reads' HO125.out).2.2 | (with_reducible refine Kd.C_alloc ?_ _) | (with_reducible refine Kd.C_drewN ?_ _) | (with_reducible refine Kd.C_drew ?_)))); (case side2 => exact (Kd.V_reads' HO125.out).2.1); (case side3 => exact (cZ (Kd.C_below HR0.out HB.out))); (case side4 => exact HC0.out); rintro e w' ⟨rfl, ⟨nd, rfl⟩⟩; (try (rw [drewN_self w45]; generalize hq_ : World.drewN w45 _ = w45; have _ : Aside0 (Kd.V (Kd.int .u8) 5 w45 w.heap.size (fun k_ => some k_ ≠ (.slice Ao42 x112001_2.length co42 : Value).ownBlock ∧ k_ ≠ gb101 ∧ k_ ≠ gb111) (.slice Ao46 t123.length co46) t123) := ⟨by rw [← hq_]; exact (vZ HO125.out)⟩; have _ : Aside0 (Kd.R k69 69 w45 w.heap.size (fun _ => True) (.slice Ao42 x112001_2.length co42) x112001_2) := ⟨by rw [← hq_]; exact (rZ HO_112001.out)⟩; have _ : Aside0 (w45.heap[gb101]? = some (.cells #[.string (⟨#[]⟩ : ByteArray), .slice none 0 0, .int .i64 0] 25 (0, 0))) := ⟨by rw [← hq_]; exact bkZ⟩; have _ : Aside0 (w45.heap[gb111]? = some (.cells #[.string t108, .slice Ao42 x112001_2.length co42, .int .i64 t102] 25 (0, 0))) := ⟨by rw [← hq_]; exact bkZ⟩; have _ : Aside0 (Below w.heap.size w w45) := ⟨by rw [← hq_]; exact hbZ⟩; clear HO125 HO_112001 BK101 BK111 HB hq_; rename_i HO125 HO_112001 BK101 BK111 HB)); obtain ⟨hcz47_0, hcz47_1, hcz47_2, hfz47_0, hfz47_1, hfz47_2⟩ := cellsZ3 BK111.out; obtain ⟨hcz48_0, hcz48_1, hcz48_2, hfz48_0, hfz48_1, hfz48_2⟩ := cellsZ3 BK101.out))
                   refine bodyPost_ret (results_ct rfl _ _ gb101 25 #[.string t108, .slice Ao42 x112001_2.length co42, .int .i64 t102] (0, 0) _ rfl bkZ Tryd.underlying25 rfl (by kernel_rfl)) rfl ?_
                   exact ⟨_, by first | rfl | (simp [errW_none, errW_some] <;> rfl) | (simp only [← hji8]; first | rfl | (simp [errW_none, errW_some] <;> rfl)) | (simp [*, errW_none, errW_some] <;> rfl), by (with_reducible repeat (first | apply Kd.R_alloc | apply Kd.R_drewN | apply Kd.R_drew)); exact Kd.R_mono (Kd.R_far (p := ⟨gb101, 2, none⟩) (Kd.R_far (p := ⟨gb101, 1, none⟩) (Kd.R_far (p := ⟨gb101, 0, none⟩) (Kd.R_types HO_112001.out BK101.out (by decide)) (fun _ hk => hk.2) (.string t108)) (fun _ hk => hk.2) (.slice Ao42 x112001_2.length co42)) (fun _ hk => hk.2) (.int .i64 t102)) (fun _ hk => trivial), zcb41⟩
                 · replace c39 := Bool.eq_false_iff.mpr c39
                   subst c39
                   have H1 : (some ((⟨#[]⟩ : ByteArray), ([] : List (S69)), 0, false)) = some (r1, r2, r3, r4) := by rw [if_neg (show ¬ (false = true) by decide)] at H; exact H
                   clear H
                   have H := H1
                   clear H1
                   simp only [Option.some.injEq, Prod.mk.injEq] at H
                   obtain ⟨rfl, rfl, rfl, rfl⟩ := H
                   have hnb49 := NB111_101.out
                   have hnc49 := NB101_111.out
                   obtain ⟨hcz50_0, hcz50_1, hcz50_2, hfz50_0, hfz50_1, hfz50_2⟩ := cellsZ3 BK111.out
                   obtain ⟨Ao51, co51, eo51⟩ := Kd.R_slice HO_112001.out
                   subst eo51
                   go_wp2_with (first | ((with_reducible refine gate_callee (f := 31) rfl ?_); refine goesL_ (some 74) rfl rfl Tryd.func31 (by kernel_rfl) rfl #[.agg #[.string t108, .slice Ao51 x112001_2.length co51, .int .i64 t102]] rfl zee81 ?_; (with_reducible refine (impl_GoodKey.calls kj17 t108 _ _ x112001_2 t102 true _ ?side1 ?side2 A35.out).mono ?_); (case side1 => exact (by repeat (first | exact (Kd.R_reads' HO_112001.out).2.2 | (with_reducible refine Kd.C_alloc ?_ _) | (with_reducible refine Kd.C_drewN ?_ _) | (with_reducible refine Kd.C_drew ?_)))); (case side2 => exact (Kd.R_reads' HO_112001.out).2.1); rintro e w52 ⟨rfl, hb⟩; refine ⟨_, rfl, ?_⟩; have _ := aM (Kd.R_below (rZ HO_112001.out) hb); have _ := bB gb101 hb; have _ := bB gb111 hb; have _ := aM (below_step hbZ hb); clear HO_112001 BK101 BK111 HB; rename_i HO_112001 BK101 BK111 HB; (try clear hb); obtain ⟨hcz53_0, hcz53_1, hcz53_2, hfz53_0, hfz53_1, hfz53_2⟩ := cellsZ3 BK111.out) | (go_at_call 32; (with_reducible refine (impl_keyBytes.calls kj17 t108 _ _ x112001_2 t102 t123 _ ?side1 ?side2 A37.out).mono ?_); (case side1 => exact (by repeat (first | exact (Kd.R_reads' HO_112001.out).2.2 | (with_reducible refine Kd.C_alloc ?_ _) | (with_reducible refine Kd.C_drewN ?_ _) | (with_reducible refine Kd.C_drew ?_)))); (case side2 => exact (Kd.R_reads' HO_112001.out).2.1); rintro e w54 ⟨v124, rfl, ho0, hb⟩; have _ := aM (Kd.R_below (rZ HO_112001.out) hb); have _ := aM (Kd.V_lower (Kd.V_mono (ok' := fun k_ => some k_ ≠ (.slice Ao51 x112001_2.length co51 : Value).ownBlock ∧ k_ ≠ gb101 ∧ k_ ≠ gb111) ho0 (fun k_ hk_ => ⟨(Kd.fresh' (Kd.R_lt (rZ HO_112001.out)) k_ hk_), (Kd.freshB (g := gb101) bkZ k_ hk_), (Kd.freshB (g := gb111) bkZ k_ hk_)⟩)) (below_size hbZ)); have _ := bB gb101 hb; have _ := bB gb111 hb; have _ := aM (below_step hbZ hb); clear HO_112001 BK101 BK111 HB; rename_i HO_112001 HO125 BK101 BK111 HB; (try clear hb); (try clear ho0); obtain ⟨Ao55, co55, eo55⟩ := Kd.V_slice HO125.out; subst eo55) | (go_at_call 43; (with_reducible refine (bytes_Equal.calls _ _ t123 _ _ l0 false _ ?side1 ?side2 ?side3 ?side4 A38.out).mono ?_); (case side1 => exact (by repeat (first | exact (Kd.V_reads' HO125.out).2.2 | (with_reducible refine Kd.C_alloc ?_ _) | (with_reducible refine Kd.C_drewN ?_ _) | (with_reducible refine Kd.C_drew ?_)))); (case side2 => exact (Kd.V_reads' HO125.out).2.1); (case side3 => exact (cZ (Kd.C_below HR0.out HB.out))); (case side4 => exact HC0.out); rintro e w' ⟨rfl, ⟨nd, rfl⟩⟩; (try (rw [drewN_self w54]; generalize hq_ : World.drewN w54 _ = w54; have _ : Aside0 (Kd.V (Kd.int .u8) 5 w54 w.heap.size (fun k_ => some k_ ≠ (.slice Ao51 x112001_2.length co51 : Value).ownBlock ∧ k_ ≠ gb101 ∧ k_ ≠ gb111) (.slice Ao55 t123.length co55) t123) := ⟨by rw [← hq_]; exact (vZ HO125.out)⟩; have _ : Aside0 (Kd.R k69 69 w54 w.heap.size (fun _ => True) (.slice Ao51 x112001_2.length co51) x112001_2) := ⟨by rw [← hq_]; exact (rZ HO_112001.out)⟩; have _ : Aside0 (w54.heap[gb101]? = some (.cells #[.string (⟨#[]⟩ : ByteArray), .slice none 0 0, .int .i64 0] 25 (0, 0))) := ⟨by rw [← hq_]; exact bkZ⟩; have _ : Aside0 (w54.heap[gb111]? = some (.cells #[.string t108, .slice Ao51 x112001_2.length co51, .int .i64 t102] 25 (0, 0))) := ⟨by rw [← hq_]; exact bkZ⟩; have _ : Aside0 (Below w.heap.size w w54) := ⟨by rw [← hq_]; exact hbZ⟩; clear HO125 HO_112001 BK101 BK111 HB hq_; rename_i HO125 HO_112001 BK101 BK111 HB)); obtain ⟨hcz56_0, hcz56_1, hcz56_2, hfz56_0, hfz56_1, hfz56_2⟩ := cellsZ3 BK101.out))
                   refine bodyPost_ret (results_ct rfl _ _ gb101 25 #[.string (⟨#[]⟩ : ByteArray), .slice none 0 0, .int .i64 0] (0, 0) _ rfl bkZ Tryd.underlying25 rfl (by kernel_rfl)) rfl ?_
                   exact ⟨_, by first | rfl | (simp [errW_none, errW_some] <;> rfl) | (simp only [← hji8]; first | rfl | (simp [errW_none, errW_some] <;> rfl)) | (simp [*, errW_none, errW_some] <;> rfl), z02fa, zcb41⟩
               · replace c36 := Bool.eq_false_iff.mpr c36
                 subst c36
                 have H1 : (some ((⟨#[]⟩ : ByteArray), ([] : List (S69)), 0, false)) = some (r1, r2, r3, r4) := by rw [if_neg (show ¬ (false = true) by decide)] at H; exact H
                 clear H
                 have H := H1
                 clear H1
                 simp only [Option.some.injEq, Prod.mk.injEq] at H
                 obtain ⟨rfl, rfl, rfl, rfl⟩ := H
                 have hnb57 := NB111_101.out
                 have hnc57 := NB101_111.out
                 obtain ⟨hcz58_0, hcz58_1, hcz58_2, hfz58_0, hfz58_1, hfz58_2⟩ := cellsZ3 BK111.out
                 obtain ⟨Ao59, co59, eo59⟩ := Kd.R_slice HO_112001.out
                 subst eo59
                 go_wp2_with (first | ((with_reducible refine gate_callee (f := 31) rfl ?_); refine goesL_ (some 74) rfl rfl Tryd.func31 (by kernel_rfl) rfl #[.agg #[.string t108, .slice Ao59 x112001_2.length co59, .int .i64 t102]] rfl zee81 ?_; (with_reducible refine (impl_GoodKey.calls kj17 t108 _ _ x112001_2 t102 false _ ?side1 ?side2 A35.out).mono ?_); (case side1 => exact (by repeat (first | exact (Kd.R_reads' HO_112001.out).2.2 | (with_reducible refine Kd.C_alloc ?_ _) | (with_reducible refine Kd.C_drewN ?_ _) | (with_reducible refine Kd.C_drew ?_)))); (case side2 => exact (Kd.R_reads' HO_112001.out).2.1); rintro e w60 ⟨rfl, hb⟩; refine ⟨_, rfl, ?_⟩; have _ := aM (Kd.R_below (rZ HO_112001.out) hb); have _ := bB gb101 hb; have _ := bB gb111 hb; have _ := aM (below_step hbZ hb); clear HO_112001 BK101 BK111 HB; rename_i HO_112001 BK101 BK111 HB; (try clear hb); obtain ⟨hcz61_0, hcz61_1, hcz61_2, hfz61_0, hfz61_1, hfz61_2⟩ := cellsZ3 BK101.out))
                 refine bodyPost_ret (results_ct rfl _ _ gb101 25 #[.string (⟨#[]⟩ : ByteArray), .slice none 0 0, .int .i64 0] (0, 0) _ rfl bkZ Tryd.underlying25 rfl (by kernel_rfl)) rfl ?_
                 exact ⟨_, by first | rfl | (simp [errW_none, errW_some] <;> rfl) | (simp only [← hji8]; first | rfl | (simp [errW_none, errW_some] <;> rfl)) | (simp [*, errW_none, errW_some] <;> rfl), z02fa, zcb41⟩
       · rw [if_neg c10] at H
         exact absurd H (by simp)
     · rw [if_neg c9] at H
       exact absurd H (by simp)

end Go.Proofs.YteogadaloebdaaaDoor.P
