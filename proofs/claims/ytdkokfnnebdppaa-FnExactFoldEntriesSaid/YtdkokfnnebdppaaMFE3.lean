/- Part 3 of the walks and words that FE uses. No conditions of its own. -/
import Derived.Test.YtdkokfnnebdppaaMFE2

-- written by a program of this session's (wip/pp)
namespace Go.Proofs.Ytdkokfnnebdppaa.P
open Go.RowKit Go.Proofs.YtdkokfnnebdppaaW.PrintWords Go.Proofs.YtdkokfnnebdppaaW.PrintLast Go.Proofs.YtdkokfnnebdppaaW.PrintMore
attribute [local go_sem] max2_int min2_int max_two min_two max_three min_three max_four min_four str_geq str_gtr str_leq   -- for this text's walks alone
set_option linter.unusedVariables false
set_option linter.unusedSimpArgs false

/-! ### impl_joined: function 73 -/
mutual
def impl_joined.j0 : Nat → Int → Int → Int → Int → List Int → Bool → Int → Int → Int → Int → List Int → Bool → Int → Int → Int → Int → List Int → Bool → Option (Int × Int × Int × Int × List Int × Bool)
 | 0, _, _, _, _, _, _, _, _, _, _, _, _, _, _, _, _, _, _ => none
 | k + 1, x102000, x102001, x102002, x102003, x102004, x102005, x103000, x103001, x103002, x103003, x103004, x103005, x113000, x113001, x113002, x113003, x113004, x113005 => (impl_joined_1.f (wrap64 (x102000 + x103000)) x113005).bind fun bt113 => (impl_joined.l0 k (x113004.length : Int) 0 x102000 x102001 x102002 x102003 x102004 x102005 x103000 x103001 x103002 x103003 x103004 x103005 bt113.1 x113001 x113002 x113003 x113004 bt113.2)
def impl_joined.l0 : Nat → Int → Int → Int → Int → Int → Int → List Int → Bool → Int → Int → Int → Int → List Int → Bool → Int → Int → Int → Int → List Int → Bool → Option (Int × Int × Int × Int × List Int × Bool)
 | 0, _, _, _, _, _, _, _, _, _, _, _, _, _, _, _, _, _, _, _, _ => none
 | k + 1, x27, x28, x102000, x102001, x102002, x102003, x102004, x102005, x103000, x103001, x103002, x103003, x103004, x103005, x113000, x113001, x113002, x113003, x113004, x113005 => if x28 < x27 then (if 0 ≤ x28 then (if x28 < (x102004.length : Int) then (if x28 < (x103004.length : Int) then ((impl_joined_1.f (wrap64 ((rd x102004 x28) + (rd x103004 x28))) x113005).bind fun bt117 => (if x28 < (x113004.length : Int) then (impl_joined.l0 k x27 (wrap64 (x28 + 1)) x102000 x102001 x102002 x102003 x102004 x102005 x103000 x103001 x103002 x103003 x103004 x103005 x113000 x113001 x113002 x113003 (x113004.set (x28 : Int).toNat bt117.1) bt117.2) else (none))) else (none)) else (none)) else (none)) else (if x102000 = 0 then (if x113005 = true then (some (x113000, x113001, x103002, x103003, x113004, x113005)) else (some (x113000, wrap64 (x102001 + x103001), x103002, x103003, x113004, x113005))) else (if x103000 = 0 then (if x113005 = true then (some (x113000, x113001, x102002, x102003, x113004, x113005)) else (some (x113000, wrap64 (x102001 + x103001), x102002, x102003, x113004, x113005))) else (if x113005 = true then (some (x113000, x113001, mn x102002 x103002, mx x102003 x103003, x113004, x113005)) else (some (x113000, wrap64 (x102001 + x103001), mn x102002 x103002, mx x102003 x103003, x113004, x113005)))))
end
def impl_joined.f (k : Nat) (a0_0 : Int) (a0_1 : Int) (a0_2 : Int) (a0_3 : Int) (l0_4 : List Int) (a0_5 : Bool) (a1_0 : Int) (a1_1 : Int) (a1_2 : Int) (a1_3 : Int) (l1_4 : List Int) (a1_5 : Bool) : Option (Int × Int × Int × Int × List Int × Bool) := (impl_noAgg.f).bind fun bt104 => (if a0_5 = true then (impl_joined.j0 k a0_0 a0_1 a0_2 a0_3 l0_4 a0_5 a1_0 a1_1 a1_2 a1_3 l1_4 a1_5 bt104.1 bt104.2.1 bt104.2.2.1 bt104.2.2.2.1 bt104.2.2.2.2.1 true) else (impl_joined.j0 k a0_0 a0_1 a0_2 a0_3 l0_4 a0_5 a1_0 a1_1 a1_2 a1_3 l1_4 a1_5 bt104.1 bt104.2.1 bt104.2.2.1 bt104.2.2.2.1 bt104.2.2.2.2.1 a1_5))
theorem impl_joined.mono_l : ∀ k, (∀ y0 y1 y2 y3 y4 y5 y6 y7 y8 y9 y10 y11 y12 y13 y14 y15 y16 y17, LeO (impl_joined.j0 k y0 y1 y2 y3 y4 y5 y6 y7 y8 y9 y10 y11 y12 y13 y14 y15 y16 y17) (impl_joined.j0 (k + 1) y0 y1 y2 y3 y4 y5 y6 y7 y8 y9 y10 y11 y12 y13 y14 y15 y16 y17)) ∧ (∀ y0 y1 y2 y3 y4 y5 y6 y7 y8 y9 y10 y11 y12 y13 y14 y15 y16 y17 y18 y19, LeO (impl_joined.l0 k y0 y1 y2 y3 y4 y5 y6 y7 y8 y9 y10 y11 y12 y13 y14 y15 y16 y17 y18 y19) (impl_joined.l0 (k + 1) y0 y1 y2 y3 y4 y5 y6 y7 y8 y9 y10 y11 y12 y13 y14 y15 y16 y17 y18 y19))
 | 0 => ⟨fun _ _ _ _ _ _ _ _ _ _ _ _ _ _ _ _ _ _ r h => by simp [impl_joined.j0] at h, fun _ _ _ _ _ _ _ _ _ _ _ _ _ _ _ _ _ _ _ _ r h => by simp [impl_joined.l0] at h⟩
 | k + 1 => by
  obtain ⟨ih0, ih1⟩ := impl_joined.mono_l k
  refine ⟨?_, ?_⟩
  · intro y0 y1 y2 y3 y4 y5 y6 y7 y8 y9 y10 y11 y12 y13 y14 y15 y16 y17
    unfold impl_joined.j0
    repeat' first
     | (with_reducible first | exact ih0 .. | exact ih1 .. | exact LeO.refl _ | exact LeO.none _ | refine LeO.ite ?_ ?_ | refine LeO.bind ?_ (fun _ => ?_))
     | exact LeO.none _
     | refine LeO.ite ?_ ?_
     | refine LeO.bind ?_ (fun _ => ?_)
  · intro y0 y1 y2 y3 y4 y5 y6 y7 y8 y9 y10 y11 y12 y13 y14 y15 y16 y17 y18 y19
    unfold impl_joined.l0
    repeat' first
     | (with_reducible first | exact ih0 .. | exact ih1 .. | exact LeO.refl _ | exact LeO.none _ | refine LeO.ite ?_ ?_ | refine LeO.bind ?_ (fun _ => ?_))
     | exact LeO.none _
     | refine LeO.ite ?_ ?_
     | refine LeO.bind ?_ (fun _ => ?_)
theorem impl_joined.mono : ∀ a0 a1 a2 a3 a4 a5 a6 a7 a8 a9 a10 a11 k, LeO (impl_joined.f k a0 a1 a2 a3 a4 a5 a6 a7 a8 a9 a10 a11) (impl_joined.f (k + 1) a0 a1 a2 a3 a4 a5 a6 a7 a8 a9 a10 a11) := by
 intro a0 a1 a2 a3 a4 a5 a6 a7 a8 a9 a10 a11 k
 obtain ⟨ih0, ih1⟩ := impl_joined.mono_l k
 unfold impl_joined.f
 repeat' first
  | (with_reducible first | exact ih0 .. | exact ih1 .. | exact LeO.refl _ | exact LeO.none _ | refine LeO.ite ?_ ?_ | refine LeO.bind ?_ (fun _ => ?_))
  | exact LeO.none _
  | refine LeO.ite ?_ ?_
  | refine LeO.bind ?_ (fun _ => ?_)
def impl_joined.T8 : Bool × List (List Nat × List Nat) := (true, [([], []), ([0], [0]), ([], []), ([], []), ([], []), ([4], [4]), ([], []), ([5, 6], [5, 6]), ([7], [7]), ([], []), ([9], [9]), ([], []), ([10, 11], [10, 11]), ([12], [12]), ([8, 13], [8, 13]), ([3, 14], [3, 14]), ([1, 2, 0, 1, 2, 3, 4, 5, 6, 7, 8, 9, 10, 11, 12, 13, 14, 15], [1, 2]), ([16, 15, 15, 0, 1, 2, 3, 4, 5, 6, 7, 8, 9, 10, 11, 12, 13, 14, 15], [15, 16])])
def impl_joined.B8 : List Nat := [0, 1, 0, 0, 0, 16, 0, 112, 240, 0, 512, 0, 3584, 7680, 16368, 32760, 65535, 131071]
theorem impl_joined.tab8 : rtab .any (opsOf Try.f73 8) = impl_joined.T8 := by kernel_rfl
theorem impl_joined.bits8 : waitsOk impl_joined.T8.2 impl_joined.B8 = true := by kernel_rfl
def impl_joined.T10 : Bool × List (List Nat × List Nat) := (true, [([], []), ([0], [0]), ([], []), ([2], [2]), ([1, 3], [1, 3]), ([], []), ([5], [5]), ([], []), ([7], [7]), ([6, 8], [6, 8]), ([0, 1, 2, 3, 4], []), ([10, 4, 0, 1, 2, 3, 4], [4, 10]), ([0, 1, 2, 3, 4, 5, 6, 7, 8, 9, 10, 11], []), ([12, 9, 11, 0, 1, 2, 3, 4, 5, 6, 7, 8, 9, 10, 11], [9, 12])])
def impl_joined.B10 : List Nat := [0, 1, 0, 4, 15, 0, 32, 0, 128, 480, 31, 1055, 4095, 8191]
theorem impl_joined.tab10 : rtab .any (opsOf Try.f73 10) = impl_joined.T10 := by kernel_rfl
theorem impl_joined.bits10 : waitsOk impl_joined.T10.2 impl_joined.B10 = true := by kernel_rfl
def impl_joined.T12 : Bool × List (List Nat × List Nat) := (true, [([], []), ([0], [0]), ([], []), ([2], [2]), ([0, 1], []), ([4, 1, 0, 1], [1, 4]), ([0, 1, 2, 3, 4, 5], []), ([6, 3, 5, 0, 1, 2, 3, 4, 5], [3, 6])])
def impl_joined.B12 : List Nat := [0, 1, 0, 4, 3, 19, 63, 127]
theorem impl_joined.tab12 : rtab .any (opsOf Try.f73 12) = impl_joined.T12 := by kernel_rfl
theorem impl_joined.bits12 : waitsOk impl_joined.T12.2 impl_joined.B12 = true := by kernel_rfl
def impl_joined.T14 : Bool × List (List Nat × List Nat) := (true, [([], []), ([0], [0]), ([], []), ([2], [2]), ([0, 1], []), ([4, 1, 0, 1], [1, 4]), ([0, 1, 2, 3, 4, 5], []), ([6, 3, 5, 0, 1, 2, 3, 4, 5], [3, 6])])
def impl_joined.B14 : List Nat := [0, 1, 0, 4, 3, 19, 63, 127]
theorem impl_joined.tab14 : rtab .any (opsOf Try.f73 14) = impl_joined.T14 := by kernel_rfl
theorem impl_joined.bits14 : waitsOk impl_joined.T14.2 impl_joined.B14 = true := by kernel_rfl
set_option maxHeartbeats 8000000 in
set_option maxRecDepth 100000 in
theorem impl_joined.calls (k : Nat) (a0_0 : Int) (a0_1 : Int) (a0_2 : Int) (a0_3 : Int) (A0_4 : Option Addr) (c0_4 : Nat) (l0_4 : List Int) (a0_5 : Bool) (a1_0 : Int) (a1_1 : Int) (a1_2 : Int) (a1_3 : Int) (A1_4 : Option Addr) (c1_4 : Nat) (l1_4 : List Int) (a1_5 : Bool) (r1 : Int) (r2 : Int) (r3 : Int) (r4 : Int) (r5 : List Int) (r6 : Bool) (w : World) (hr0_4 : Kd.C (Kd.int .i64) w A0_4 l0_4.length l0_4) (hc0_4 : l0_4.length ≤ c0_4) (hr1_4 : Kd.C (Kd.int .i64) w A1_4 l1_4.length l1_4) (hc1_4 : l1_4.length ≤ c1_4) (h : impl_joined.f k a0_0 a0_1 a0_2 a0_3 l0_4 a0_5 a1_0 a1_1 a1_2 a1_3 l1_4 a1_5 = some (r1, r2, r3, r4, r5, r6)) :
 Calls Try.prog 73 #[.agg #[.int .i64 a0_0, .int .i64 a0_1, .int .i64 a0_2, .int .i64 a0_3, .slice A0_4 l0_4.length c0_4, .bool a0_5], .agg #[.int .i64 a1_0, .int .i64 a1_1, .int .i64 a1_2, .int .i64 a1_3, .slice A1_4 l1_4.length c1_4, .bool a1_5]] w fun e w' => ∃ v4_ : Value, e = .returned (.agg #[.int .i64 r1, .int .i64 r2, .int .i64 r3, .int .i64 r4, v4_, .bool r6]) ∧ Kd.R (Kd.int .i64) 3 w' w.heap.size (fun _ => True) v4_ r5 ∧ Below w.heap.size w w' := by
 have hu26 := Try.underlying26
 have HR0_4 := aM hr0_4
 have HC0_4 := aM hc0_4
 clear hr0_4 hc0_4
 have HR1_4 := aM hr1_4
 have HC1_4 := aM hc1_4
 clear hr1_4 hc1_4
 have HB := aM (Below.refl w.heap.size w)
 have H : ((impl_noAgg.f).bind fun bt104 => (if a0_5 = true then (impl_joined.j0 k a0_0 a0_1 a0_2 a0_3 l0_4 a0_5 a1_0 a1_1 a1_2 a1_3 l1_4 a1_5 bt104.1 bt104.2.1 bt104.2.2.1 bt104.2.2.2.1 bt104.2.2.2.2.1 true) else (impl_joined.j0 k a0_0 a0_1 a0_2 a0_3 l0_4 a0_5 a1_0 a1_1 a1_2 a1_3 l1_4 a1_5 bt104.1 bt104.2.1 bt104.2.2.1 bt104.2.2.2.1 bt104.2.2.2.2.1 a1_5))) = some (r1, r2, r3, r4, r5, r6) := h
 clear h
 replace H := Option.bind_eq_some_iff.mp H
 obtain ⟨⟨t104, t105, t106, t107, t108, t111⟩, A30, H⟩ := H
 try dsimp only at H
 have A3 := aM A30
 clear A30
 have HC4 := aM H
 clear H
 go_enter Try.func73, Try.ntmps73
 go_upto_region 2 with (first | ((with_reducible refine gate_dst (N := 2) rfl ?_); refine box_event ?hg (N := 2) ?hd (cs := #[.int .i64 a0_0, .int .i64 a0_1, .int .i64 a0_2, .int .i64 a0_3, .slice A0_4 l0_4.length c0_4, .bool a0_5]) (t := 26) ?hr ?_; (case hd => rfl); (case hg => rfl); (case hr => first | (go_simp; done) | (go_simp; rfl)); intro gb101 hg w5 hbox hb; have _ := aM (below_step hbZ hb); have _ := aM hbox; have _ := szZ hg; have _ := szZ hg; clear HB; rename_i HB BK101 GW101 GE101; clear hb hbox hg) | ((with_reducible refine gate_dst (N := 3) rfl ?_); refine box_event ?hg (N := 3) ?hd (cs := #[.int .i64 a1_0, .int .i64 a1_1, .int .i64 a1_2, .int .i64 a1_3, .slice A1_4 l1_4.length c1_4, .bool a1_5]) (t := 26) ?hr ?_; (case hd => rfl); (case hg => rfl); (case hr => first | (go_simp; done) | (go_simp; rfl)); intro gb102 hg w6 hbox hb; have _ := bB gb101 hb; have _ := aM (below_step hbZ hb); have _ := aM hbox; have _ := szZ hg; have _ := szZ hg; have ⟨_, _⟩ := nbB gb101 hg; clear BK101 HB; rename_i BK101 HB BK102 GW102 GE102 NB101_102 NB102_101; clear hb hbox hg) | ((with_reducible refine gate_dst (N := 4) rfl ?_); refine box_event ?hg (N := 4) ?hd (cs := #[.int .i64 0, .int .i64 0, .int .i64 0, .int .i64 0, .slice none 0 0, .bool false]) (t := 26) ?hr ?_; (case hd => rfl); (case hg => rfl); (case hr => first | (go_simp; done) | (go_simp; rfl)); intro gb103 hg w7 hbox hb; have _ := bB gb101 hb; have _ := bB gb102 hb; have _ := aM (below_step hbZ hb); have _ := aM hbox; have _ := szZ hg; have _ := szZ hg; have ⟨_, _⟩ := nbB gb101 hg; have ⟨_, _⟩ := nbB gb102 hg; clear BK101 BK102 HB; rename_i BK101 BK102 HB BK103 GW103 GE103 NB101_103 NB103_101 NB102_103 NB103_102; clear hb hbox hg) | ((with_reducible refine gate_callee (f := 71) rfl ?_); refine goesL_ (some 8) rfl rfl Try.func71 (by kernel_rfl) rfl #[] rfl zee81 ?_; (with_reducible refine (impl_noAgg.calls  t104 t105 t106 t107 t108 t111 _ A3.out).mono ?_); rintro e w8 ⟨v109, rfl, ho0, hb⟩; refine ⟨_, rfl, ?_⟩; have _ := aM (Kd.R_lower ho0 (below_size hbZ)); have _ := bB gb101 hb; have _ := bB gb102 hb; have _ := bB gb103 hb; have _ := aM (below_step hbZ hb); clear BK101 BK102 BK103 HB; rename_i HO110 BK101 BK102 BK103 HB; (try clear hb); (try clear ho0)) | ((with_reducible refine gate_dst (N := 5) rfl ?_); refine box_event ?hg (N := 5) ?hd (cs := #[.int .i64 0, .int .i64 0, .int .i64 0, .int .i64 0, .slice none 0 0, .bool false]) (t := 26) ?hr ?_; (case hd => rfl); (case hg => rfl); (case hr => first | (go_simp; done) | (go_simp; rfl)); intro gb112 hg w9 hbox hb; have _ := aM (Kd.R_below (rZ HO110.out) hb); have _ := bB gb101 hb; have _ := bB gb102 hb; have _ := bB gb103 hb; have _ := aM (below_step hbZ hb); have _ := aM hbox; have _ := szZ hg; have _ := szZ hg; have ⟨_, _⟩ := nbB gb101 hg; have ⟨_, _⟩ := nbB gb102 hg; have ⟨_, _⟩ := nbB gb103 hg; clear HO110 BK101 BK102 BK103 HB; rename_i HO110 BK101 BK102 BK103 HB BK112 GW112 GE112 NB101_112 NB112_101 NB102_112 NB112_102 NB103_112 NB112_103; clear hb hbox hg; have hnb10 := NB112_101.out; have hnc10 := NB101_112.out; have hnb11 := NB112_102.out; have hnc11 := NB102_112.out; have hnb12 := NB112_103.out; have hnc12 := NB103_112.out; obtain ⟨hcz13_0, hcz13_1, hcz13_2, hcz13_3, hcz13_4, hcz13_5, hfz13_0, hfz13_1, hfz13_2, hfz13_3, hfz13_4, hfz13_5⟩ := cellsZ6 BK112.out; obtain ⟨Ao14, co14, eo14⟩ := Kd.R_slice HO110.out; subst eo14))
 (try simp only [Act.put, List.setIfInBounds_toArray, List.set_cons_zero, List.set_cons_succ])
 go_cut [] (fun wc => ∃ (kq : Nat) (x113005_3 : Bool), Aside0 (impl_joined.j0 kq a0_0 a0_1 a0_2 a0_3 l0_4 a0_5 a1_0 a1_1 a1_2 a1_3 l1_4 a1_5 t104 t105 t106 t107 t108 x113005_3 = some (r1, r2, r3, r4, r5, r6)) ∧ Aside0 (kq ≤ k) ∧ Aside0 (Kd.R (Kd.int .i64) 3 wc w.heap.size (fun _ => True) (.slice Ao14 t108.length co14) t108) ∧ Aside0 (wc.heap[gb101]? = some (.cells #[.int .i64 a0_0, .int .i64 a0_1, .int .i64 a0_2, .int .i64 a0_3, (.slice A0_4 l0_4.length c0_4), .bool a0_5] 26 (0, 0))) ∧ Aside0 (wc.heap[gb102]? = some (.cells #[.int .i64 a1_0, .int .i64 a1_1, .int .i64 a1_2, .int .i64 a1_3, (.slice A1_4 l1_4.length c1_4), .bool a1_5] 26 (0, 0))) ∧ Aside0 (wc.heap[gb103]? = some (.cells #[.int .i64 0, .int .i64 0, .int .i64 0, .int .i64 0, (.slice none 0 0), .bool false] 26 (0, 0))) ∧ Aside0 (wc.heap[gb112]? = some (.cells #[.int .i64 t104, .int .i64 t105, .int .i64 t106, .int .i64 t107, (.slice Ao14 t108.length co14), .bool x113005_3] 26 (0, 0))) ∧ Aside0 (Below w.heap.size w wc))
 case first =>
  have H := HC4.out
  clear HC4
  by_cases c15 : a0_5 = true
  · subst c15
    rw [if_pos rfl] at H
    have H' := aM H
    clear H
    have hnb16 := NB101_102.out
    have hnc16 := NB102_101.out
    have hnb17 := NB101_103.out
    have hnc17 := NB103_101.out
    have hnb18 := NB101_112.out
    have hnc18 := NB112_101.out
    obtain ⟨hcz19_0, hcz19_1, hcz19_2, hcz19_3, hcz19_4, hcz19_5, hfz19_0, hfz19_1, hfz19_2, hfz19_3, hfz19_4, hfz19_5⟩ := cellsZ6 BK101.out
    have hnb20 := NB112_102.out
    have hnc20 := NB102_112.out
    have hnb21 := NB112_103.out
    have hnc21 := NB103_112.out
    obtain ⟨hcz22_0, hcz22_1, hcz22_2, hcz22_3, hcz22_4, hcz22_5, hfz22_0, hfz22_1, hfz22_2, hfz22_3, hfz22_4, hfz22_5⟩ := cellsZ6 BK112.out
    go_wp2
    go_meet
    case rel => exact ⟨_, (true), H', ⟨zb79b⟩, ⟨by (with_reducible repeat (first | apply Kd.R_alloc | apply Kd.R_drewN | apply Kd.R_drew)); exact Kd.R_mono (Kd.R_far (p := ⟨gb112, 5, none⟩) (Kd.R_far (p := ⟨gb112, 5, none⟩) (Kd.R_far (p := ⟨gb112, 4, none⟩) (Kd.R_far (p := ⟨gb112, 3, none⟩) (Kd.R_far (p := ⟨gb112, 2, none⟩) (Kd.R_far (p := ⟨gb112, 1, none⟩) (Kd.R_far (p := ⟨gb112, 0, none⟩) (Kd.R_types HO110.out BK112.out (by decide)) (fun _ hk => hk.2) (.int .i64 t104)) (fun _ hk => hk.2) (.int .i64 t105)) (fun _ hk => hk.2) (.int .i64 t106)) (fun _ hk => hk.2) (.int .i64 t107)) (fun _ hk => hk.2) (.slice Ao14 t108.length co14)) (fun _ hk => hk.2) (.bool t111)) (fun _ hk => hk.2) (.bool true)) (fun _ hk => trivial)⟩, ⟨bkZ⟩, ⟨bkZ⟩, ⟨bkZ⟩, ⟨bkZ⟩, ⟨zcb41⟩⟩
  · replace c15 := Bool.eq_false_iff.mpr c15
    subst c15
    rw [if_neg (show ¬ (false = true) by decide)] at H
    have H' := aM H
    clear H
    have hnb23 := NB101_102.out
    have hnc23 := NB102_101.out
    have hnb24 := NB101_103.out
    have hnc24 := NB103_101.out
    have hnb25 := NB101_112.out
    have hnc25 := NB112_101.out
    obtain ⟨hcz26_0, hcz26_1, hcz26_2, hcz26_3, hcz26_4, hcz26_5, hfz26_0, hfz26_1, hfz26_2, hfz26_3, hfz26_4, hfz26_5⟩ := cellsZ6 BK101.out
    have hnb27 := NB102_103.out
    have hnc27 := NB103_102.out
    have hnb28 := NB102_112.out
    have hnc28 := NB112_102.out
    obtain ⟨hcz29_0, hcz29_1, hcz29_2, hcz29_3, hcz29_4, hcz29_5, hfz29_0, hfz29_1, hfz29_2, hfz29_3, hfz29_4, hfz29_5⟩ := cellsZ6 BK102.out
    have hnb30 := NB112_103.out
    have hnc30 := NB103_112.out
    obtain ⟨hcz31_0, hcz31_1, hcz31_2, hcz31_3, hcz31_4, hcz31_5, hfz31_0, hfz31_1, hfz31_2, hfz31_3, hfz31_4, hfz31_5⟩ := cellsZ6 BK112.out
    go_wp2
    go_meet
    case rel => exact ⟨_, (a1_5), H', ⟨zb79b⟩, ⟨by (with_reducible repeat (first | apply Kd.R_alloc | apply Kd.R_drewN | apply Kd.R_drew)); exact Kd.R_mono (Kd.R_far (p := ⟨gb112, 5, none⟩) (Kd.R_far (p := ⟨gb112, 5, none⟩) (Kd.R_far (p := ⟨gb112, 4, none⟩) (Kd.R_far (p := ⟨gb112, 3, none⟩) (Kd.R_far (p := ⟨gb112, 2, none⟩) (Kd.R_far (p := ⟨gb112, 1, none⟩) (Kd.R_far (p := ⟨gb112, 0, none⟩) (Kd.R_types HO110.out BK112.out (by decide)) (fun _ hk => hk.2) (.int .i64 t104)) (fun _ hk => hk.2) (.int .i64 t105)) (fun _ hk => hk.2) (.int .i64 t106)) (fun _ hk => hk.2) (.int .i64 t107)) (fun _ hk => hk.2) (.slice Ao14 t108.length co14)) (fun _ hk => hk.2) (.bool t111)) (fun _ hk => hk.2) (.bool a1_5)) (fun _ hk => trivial)⟩, ⟨bkZ⟩, ⟨bkZ⟩, ⟨bkZ⟩, ⟨bkZ⟩, ⟨zcb41⟩⟩
 case rest =>
  clear HC4
  try clear c1
  try clear c2
  try clear p2
  try clear c3
  try clear c7
  try clear c10
  try clear c11
  try clear c12
  try clear c15
  try clear c16
  try clear c17
  try clear c18
  try clear c20
  try clear c21
  try clear c23
  try clear c24
  try clear c25
  try clear c27
  try clear c28
  try clear c30
  try clear hcz13_0 hcz13_1 hcz13_2 hcz13_3 hcz13_4 hcz13_5
  try clear hcz19_0 hcz19_1 hcz19_2 hcz19_3 hcz19_4 hcz19_5
  try clear hcz22_0 hcz22_1 hcz22_2 hcz22_3 hcz22_4 hcz22_5
  try clear hcz26_0 hcz26_1 hcz26_2 hcz26_3 hcz26_4 hcz26_5
  try clear hcz29_0 hcz29_1 hcz29_2 hcz29_3 hcz29_4 hcz29_5
  try clear hcz31_0 hcz31_1 hcz31_2 hcz31_3 hcz31_4 hcz31_5
  try clear hfz13_0 hfz13_1 hfz13_2 hfz13_3 hfz13_4 hfz13_5
  try clear hfz19_0 hfz19_1 hfz19_2 hfz19_3 hfz19_4 hfz19_5
  try clear hfz22_0 hfz22_1 hfz22_2 hfz22_3 hfz22_4 hfz22_5
  try clear hfz26_0 hfz26_1 hfz26_2 hfz26_3 hfz26_4 hfz26_5
  try clear hfz29_0 hfz29_1 hfz29_2 hfz29_3 hfz29_4 hfz29_5
  try clear hfz31_0 hfz31_1 hfz31_2 hfz31_3 hfz31_4 hfz31_5
  obtain ⟨kq, x113005_3, HA, HJ3, HO_113004, BK101, BK102, BK103, BK112, HB⟩ := hcut
  cases kq with
  | zero => exact absurd HA.out (by simp [impl_joined.j0])
  | succ kj3 =>
   have H := HA.out
   clear HA
   simp only [impl_joined.j0] at H
   replace H := Option.bind_eq_some_iff.mp H
   obtain ⟨⟨t113, t114⟩, A320, H⟩ := H
   try dsimp only at H
   have A32 := aM A320
   clear A320
   have H' := aM H
   clear H
   have hnb33 := NB101_102.out
   have hnc33 := NB102_101.out
   have hnb34 := NB101_103.out
   have hnc34 := NB103_101.out
   have hnb35 := NB101_112.out
   have hnc35 := NB112_101.out
   obtain ⟨hcz36_0, hcz36_1, hcz36_2, hcz36_3, hcz36_4, hcz36_5, hfz36_0, hfz36_1, hfz36_2, hfz36_3, hfz36_4, hfz36_5⟩ := cellsZ6 BK101.out
   have hnb37 := NB102_103.out
   have hnc37 := NB103_102.out
   have hnb38 := NB102_112.out
   have hnc38 := NB112_102.out
   obtain ⟨hcz39_0, hcz39_1, hcz39_2, hcz39_3, hcz39_4, hcz39_5, hfz39_0, hfz39_1, hfz39_2, hfz39_3, hfz39_4, hfz39_5⟩ := cellsZ6 BK102.out
   have hnb40 := NB112_103.out
   have hnc40 := NB103_112.out
   obtain ⟨hcz41_0, hcz41_1, hcz41_2, hcz41_3, hcz41_4, hcz41_5, hfz41_0, hfz41_1, hfz41_2, hfz41_3, hfz41_4, hfz41_5⟩ := cellsZ6 BK112.out
   go_wp2_with (first | (go_at_call 93; (with_reducible refine (impl_joined_1.calls (wrap64 (a0_0 + a1_0)) gb112 (.int .i64 t104) (.int .i64 t105) (.int .i64 t106) (.int .i64 t107) (.slice Ao14 t108.length co14) x113005_3 t113 t114 _ ?side1 A32.out).mono ?_); (case side1 => exact bkZ); rintro e w' ⟨rfl, rfl⟩))
   go_loopg [28] kj3 (fun kq v28 w' => ∃ (x28_2 : Int) (x113004_2 : List Int) (x113005_2 : Bool) (u113004 : Value), v28 = .int .i64 x28_2 ∧ Aside0 (impl_joined.l0 kq (t108.length : Int) x28_2 a0_0 a0_1 a0_2 a0_3 l0_4 a0_5 a1_0 a1_1 a1_2 a1_3 l1_4 a1_5 t113 t105 t106 t107 x113004_2 x113005_2 = some (r1, r2, r3, r4, r5, r6)) ∧ Aside0 (kq ≤ kj3) ∧ Aside0 (Kd.R (Kd.int .i64) 3 w' w.heap.size (fun _ => True) u113004 x113004_2) ∧ Aside0 (w'.heap[gb101]? = some (.cells #[.int .i64 a0_0, .int .i64 a0_1, .int .i64 a0_2, .int .i64 a0_3, (.slice A0_4 l0_4.length c0_4), .bool a0_5] 26 (0, 0))) ∧ Aside0 (w'.heap[gb102]? = some (.cells #[.int .i64 a1_0, .int .i64 a1_1, .int .i64 a1_2, .int .i64 a1_3, (.slice A1_4 l1_4.length c1_4), .bool a1_5] 26 (0, 0))) ∧ Aside0 (w'.heap[gb103]? = some (.cells #[.int .i64 0, .int .i64 0, .int .i64 0, .int .i64 0, (.slice none 0 0), .bool false] 26 (0, 0))) ∧ Aside0 (w'.heap[gb112]? = some (.cells #[.int .i64 t113, .int .i64 t105, .int .i64 t106, .int .i64 t107, u113004, .bool x113005_2] 26 (0, 0))) ∧ Aside0 (Below w.heap.size w w'))
   case atStart => exact ⟨(0), (t108), (t114), (.slice Ao14 t108.length co14), z4458, H', ⟨Nat.le_refl _⟩, ⟨by (with_reducible repeat (first | apply Kd.R_alloc | apply Kd.R_drewN | apply Kd.R_drew)); exact Kd.R_mono (Kd.R_far (p := ⟨gb112, 0, none⟩) (Kd.R_far (p := ⟨gb112, 5, none⟩) (Kd.R_types HO_113004.out BK112.out (by decide)) (fun _ hk => hk.2) (.bool t114)) (fun _ hk => hk.2) (.int .i64 t113)) (fun _ hk => trivial)⟩, ⟨bkZ⟩, ⟨bkZ⟩, ⟨bkZ⟩, ⟨bkZ⟩, ⟨zcb41⟩⟩
   case round =>
    clear H'
    try clear c1
    try clear c2
    try clear p2
    try clear c3
    try clear c4
    try clear p6
    try clear c7
    try clear c10
    try clear c11
    try clear c12
    try clear c15
    try clear c16
    try clear c17
    try clear c18
    try clear c20
    try clear c21
    try clear c23
    try clear c24
    try clear c25
    try clear c27
    try clear c28
    try clear c30
    try clear c33
    try clear c34
    try clear c35
    try clear c37
    try clear c38
    try clear c40
    try clear hcz13_0 hcz13_1 hcz13_2 hcz13_3 hcz13_4 hcz13_5
    try clear hcz19_0 hcz19_1 hcz19_2 hcz19_3 hcz19_4 hcz19_5
    try clear hcz22_0 hcz22_1 hcz22_2 hcz22_3 hcz22_4 hcz22_5
    try clear hcz26_0 hcz26_1 hcz26_2 hcz26_3 hcz26_4 hcz26_5
    try clear hcz29_0 hcz29_1 hcz29_2 hcz29_3 hcz29_4 hcz29_5
    try clear hcz31_0 hcz31_1 hcz31_2 hcz31_3 hcz31_4 hcz31_5
    try clear hcz36_0 hcz36_1 hcz36_2 hcz36_3 hcz36_4 hcz36_5
    try clear hcz39_0 hcz39_1 hcz39_2 hcz39_3 hcz39_4 hcz39_5
    try clear hcz41_0 hcz41_1 hcz41_2 hcz41_3 hcz41_4 hcz41_5
    try clear hfz13_0 hfz13_1 hfz13_2 hfz13_3 hfz13_4 hfz13_5
    try clear hfz19_0 hfz19_1 hfz19_2 hfz19_3 hfz19_4 hfz19_5
    try clear hfz22_0 hfz22_1 hfz22_2 hfz22_3 hfz22_4 hfz22_5
    try clear hfz26_0 hfz26_1 hfz26_2 hfz26_3 hfz26_4 hfz26_5
    try clear hfz29_0 hfz29_1 hfz29_2 hfz29_3 hfz29_4 hfz29_5
    try clear hfz31_0 hfz31_1 hfz31_2 hfz31_3 hfz31_4 hfz31_5
    try clear hfz36_0 hfz36_1 hfz36_2 hfz36_3 hfz36_4 hfz36_5
    try clear hfz39_0 hfz39_1 hfz39_2 hfz39_3 hfz39_4 hfz39_5
    try clear hfz41_0 hfz41_1 hfz41_2 hfz41_3 hfz41_4 hfz41_5
    try clear p2
    obtain ⟨x28_2, x113004_2, x113005_2, u113004, rfl, HA, HK2, HO_113004, BK101, BK102, BK103, BK112, HB⟩ := hrel
    cases gk with
    | zero => exact absurd HA.out (by simp [impl_joined.l0])
    | succ k2 =>
     have H := HA.out
     clear HA
     simp only [impl_joined.l0] at H
     by_cases c42 : x28_2 < (t108.length : Int)
     · rw [if_pos c42] at H
       have c42b0 : decide (x28_2 < (t108.length : Int)) = true := decide_eq_true c42
       clear c42
       replace H := ifS H; obtain ⟨c43, H⟩ := H
       have c43b0 : decide (0 ≤ x28_2) = true := decide_eq_true c43
       clear c43
       replace H := ifS H; obtain ⟨c44, H⟩ := H
       have c44b0 : decide (x28_2 < (l0_4.length : Int)) = true := decide_eq_true c44
       clear c44
       replace H := ifS H; obtain ⟨c45, H⟩ := H
       have c45b0 : decide (x28_2 < (l1_4.length : Int)) = true := decide_eq_true c45
       clear c45
       replace H := Option.bind_eq_some_iff.mp H
       obtain ⟨⟨t117, t118⟩, A460, H⟩ := H
       try dsimp only at H
       have A46 := aM A460
       clear A460
       replace H := ifS H; obtain ⟨c47, H⟩ := H
       have c47b0 : decide (x28_2 < (x113004_2.length : Int)) = true := decide_eq_true c47
       clear c47
       obtain ⟨y119, hy119⟩ : ∃ y_ : List Int, y_ = (x113004_2.set (x28_2 : Int).toNat t117) := ⟨_, rfl⟩
       first | (replace H := bindS H; rw [← hy119] at H; try dsimp only at H) | rw [← hy119] at H
       have Ny119 := aM hy119
       clear hy119
       have H' := aM H
       clear H
       try go_wp2
       have _ := aM (Kd.R_drew HO_113004.out)
       have _ := aM (blk_drew BK101.out)
       have _ := aM (blk_drew BK102.out)
       have _ := aM (blk_drew BK103.out)
       have _ := aM (blk_drew BK112.out)
       have _ := aM (below_drew1 HB.out)
       clear HO_113004
       clear BK101
       clear BK102
       clear BK103
       clear BK112
       clear HB
       rename_i HO_113004 BK101 BK102 BK103 BK112 HB
       have p115 : 0 ≤ (x28_2 : Int) := of_decide_eq_true z1200
       have q115 : x28_2 < (l0_4.length : Int) := of_decide_eq_true z1200
       obtain ⟨ad115, e115, hx115_0⟩ := Kd.at_int HR0_4.out x28_2 p115 q115
       have hw115_0 := hx115_0
       cases e115
       replace hx115_0 := (HB.out.cell (World.block_lt_of_cell? w _ hx115_0)).trans hx115_0
       replace p115 := eq_true p115
       replace q115 := eq_true q115
       have p116 : 0 ≤ (x28_2 : Int) := of_decide_eq_true z1200
       have q116 : x28_2 < (l1_4.length : Int) := of_decide_eq_true z1200
       obtain ⟨ad116, e116, hx116_0⟩ := Kd.at_int HR1_4.out x28_2 p116 q116
       have hw116_0 := hx116_0
       cases e116
       replace hx116_0 := (HB.out.cell (World.block_lt_of_cell? w _ hx116_0)).trans hx116_0
       replace p116 := eq_true p116
       replace q116 := eq_true q116
       have p48 : 0 ≤ (x28_2 : Int) := of_decide_eq_true z1200
       have q48 : (x28_2 : Int) < ((x113004_2.length : Int) : Int) := of_decide_eq_true z1200
       obtain ⟨go48, co48, eo48, gb48, gl48, cl48, HG48⟩ := Kd.R_form HO_113004.out (by omega)
       (first | cases eo48 | (injection eo48 with ea_ en_ ec_; (first | subst ea_ | (injection ea_ with ea_; subst ea_)); subst ec_; clear en_))
       have GB48 := aM gb48
       have GG48 := aM HG48
       clear gb48 gl48 HG48
       obtain ⟨hx48_0, hf48_0⟩ := Kd.R_celln 0 (Kd.R_far (p := ⟨gb112, 5, none⟩) (Kd.R_types HO_113004.out BK112.out (by decide)) (fun _ hk => hk.2) (.bool t118)) (x28_2 : Int) p48 q48
       replace p48 := eq_true p48
       replace q48 := eq_true q48
       have HP51 := Kd.R_putn (Kd.R_far (p := ⟨gb112, 5, none⟩) (Kd.R_types HO_113004.out BK112.out (by decide)) (fun _ hk => hk.2) (.bool t118)) (x28_2 : Int) t117
       rw [← Ny119.out] at HP51
       have HQ51 := aM HP51
       clear HP51
       refine sA 18 impl_joined.tab8 impl_joined.bits8 (fun w' => w'.cell? ⟨gb112, 0, none⟩ = some (.int .i64 t113) ∧ w'.cell? ⟨gb112, 1, none⟩ = some (.int .i64 t105) ∧ w'.cell? ⟨gb112, 2, none⟩ = some (.int .i64 t106) ∧ w'.cell? ⟨gb112, 3, none⟩ = some (.int .i64 t107) ∧ w'.cell? ⟨gb112, 4, none⟩ = some (.slice (some ⟨go48, 0, none⟩) x113004_2.length co48) ∧ w'.cell? ⟨gb101, 0, none⟩ = some (.int .i64 a0_0) ∧ w'.cell? ⟨gb101, 1, none⟩ = some (.int .i64 a0_1) ∧ w'.cell? ⟨gb101, 2, none⟩ = some (.int .i64 a0_2) ∧ w'.cell? ⟨gb101, 3, none⟩ = some (.int .i64 a0_3) ∧ w'.cell? ⟨gb101, 4, none⟩ = some (.slice (some ad115) l0_4.length c0_4) ∧ w'.cell? ⟨gb101, 5, none⟩ = some (.bool a0_5) ∧ w'.cell? ⟨gb102, 0, none⟩ = some (.int .i64 a1_0) ∧ w'.cell? ⟨gb102, 1, none⟩ = some (.int .i64 a1_1) ∧ w'.cell? ⟨gb102, 2, none⟩ = some (.int .i64 a1_2) ∧ w'.cell? ⟨gb102, 3, none⟩ = some (.int .i64 a1_3) ∧ w'.cell? ⟨gb102, 4, none⟩ = some (.slice (some ad116) l1_4.length c1_4) ∧ w'.cell? ⟨gb102, 5, none⟩ = some (.bool a1_5) ∧ w'.cell? (ad115.add (x28_2).toNat) = some (.int .i64 (rd l0_4 x28_2)) ∧ w'.cell? (ad116.add (x28_2).toNat) = some (.int .i64 (rd l1_4 x28_2))) [17] (fun hHeld HT_ HW_ => ?_)
       generalize wr.drew = w49 at HO_113004 BK101 BK102 BK103 BK112 HB GG48 HQ51 hf48_0 hx115_0 hx116_0 hx48_0 hHeld ⊢
       refine pA 0 31 HT_ ?_; refine pA 2 33 HT_ ?_; refine pA 3 34 HT_ ?_; refine pA 4 35 HT_ ?_; refine pA 6 37 HT_ ?_; refine pA 9 40 HT_ ?_; refine pA 11 42 HT_ ?_; refine tA 1 32 HT_ HW_ hHeld ?_; refine tA 5 36 HT_ HW_ hHeld ?_; refine pA 7 38 HT_ ?_; refine tA 8 39 HT_ HW_ hHeld ?_; refine tA 10 41 HT_ HW_ hHeld ?_; refine pA 12 43 HT_ ?_; refine tA 13 44 HT_ HW_ hHeld ?_; refine pA 14 45 HT_ ?_; refine oA 15 46 HT_ (fun K hK => ?_)
       refine call_ 93 #[.int .i64 (wrap64 ((rd l0_4 x28_2) + (rd l1_4 x28_2))), .pointer (some ⟨gb112, 0, none⟩)] (by rfl) rfl (impl_joined_1.run Try.func93 (by kernel_rfl) rfl #[.int .i64 (wrap64 ((rd l0_4 x28_2) + (rd l1_4 x28_2))), .pointer (some ⟨gb112, 0, none⟩)] (by rfl) (by rfl) (by first | rfl | (simp only [List.map_toArray, List.map_cons, List.map_nil]; rfl))) ?_
       with_reducible refine (impl_joined_1.calls (wrap64 ((rd l0_4 x28_2) + (rd l1_4 x28_2))) gb112 (.int .i64 t113) (.int .i64 t105) (.int .i64 t106) (.int .i64 t107) (.slice (some ⟨go48, 0, none⟩) x113004_2.length co48) x113005_2 t117 t118 _ ?side1 A46.out).mono ?_
       (case side1 => exact bkZ)
       rintro e w' ⟨rfl, rfl⟩
       refine ⟨_, rfl, ?_⟩
       refine hK.out _ _ ⟨(blk_cell (blk_put (cs := #[.int .i64 t113, .int .i64 t105, .int .i64 t106, .int .i64 t107, .slice (some ⟨go48, 0, none⟩) x113004_2.length co48, .bool x113005_2]) BK112.out 5 _ rfl) 0).trans rfl, (blk_cell (blk_put (cs := #[.int .i64 t113, .int .i64 t105, .int .i64 t106, .int .i64 t107, .slice (some ⟨go48, 0, none⟩) x113004_2.length co48, .bool x113005_2]) BK112.out 5 _ rfl) 1).trans rfl, (blk_cell (blk_put (cs := #[.int .i64 t113, .int .i64 t105, .int .i64 t106, .int .i64 t107, .slice (some ⟨go48, 0, none⟩) x113004_2.length co48, .bool x113005_2]) BK112.out 5 _ rfl) 2).trans rfl, (blk_cell (blk_put (cs := #[.int .i64 t113, .int .i64 t105, .int .i64 t106, .int .i64 t107, .slice (some ⟨go48, 0, none⟩) x113004_2.length co48, .bool x113005_2]) BK112.out 5 _ rfl) 3).trans rfl, (blk_cell (blk_put (cs := #[.int .i64 t113, .int .i64 t105, .int .i64 t106, .int .i64 t107, .slice (some ⟨go48, 0, none⟩) x113004_2.length co48, .bool x113005_2]) BK112.out 5 _ rfl) 4).trans rfl, ((cell_far (p := ⟨gb112, _, none⟩) NB101_112.out _).trans (hHeld.2.2.2.2.2.1)), ((cell_far (p := ⟨gb112, _, none⟩) NB101_112.out _).trans (hHeld.2.2.2.2.2.2.1)), ((cell_far (p := ⟨gb112, _, none⟩) NB101_112.out _).trans (hHeld.2.2.2.2.2.2.2.1)), ((cell_far (p := ⟨gb112, _, none⟩) NB101_112.out _).trans (hHeld.2.2.2.2.2.2.2.2.1)), ((cell_far (p := ⟨gb112, _, none⟩) NB101_112.out _).trans (hHeld.2.2.2.2.2.2.2.2.2.1)), ((cell_far (p := ⟨gb112, _, none⟩) NB101_112.out _).trans (hHeld.2.2.2.2.2.2.2.2.2.2.1)), ((cell_far (p := ⟨gb112, _, none⟩) NB102_112.out _).trans (hHeld.2.2.2.2.2.2.2.2.2.2.2.1)), ((cell_far (p := ⟨gb112, _, none⟩) NB102_112.out _).trans (hHeld.2.2.2.2.2.2.2.2.2.2.2.2.1)), ((cell_far (p := ⟨gb112, _, none⟩) NB102_112.out _).trans (hHeld.2.2.2.2.2.2.2.2.2.2.2.2.2.1)), ((cell_far (p := ⟨gb112, _, none⟩) NB102_112.out _).trans (hHeld.2.2.2.2.2.2.2.2.2.2.2.2.2.2.1)), ((cell_far (p := ⟨gb112, _, none⟩) NB102_112.out _).trans (hHeld.2.2.2.2.2.2.2.2.2.2.2.2.2.2.2.1)), ((cell_far (p := ⟨gb112, _, none⟩) NB102_112.out _).trans (hHeld.2.2.2.2.2.2.2.2.2.2.2.2.2.2.2.2.1)), ((cell_far (p := ⟨gb112, _, none⟩) (by first | exact Nat.ne_of_lt (Nat.lt_of_lt_of_le (by have := World.block_lt_of_cell? _ _ hw115_0; first | rwa [add_block] at this | exact this) GW112.out) | (rw [add_block]; exact Nat.ne_of_lt (Nat.lt_of_lt_of_le (by have := World.block_lt_of_cell? _ _ hw115_0; first | rwa [add_block] at this | exact this) GW112.out)) | (show (Addr.add _ _).block ≠ _; rw [add_block]; exact Nat.ne_of_lt (Nat.lt_of_lt_of_le (by have := World.block_lt_of_cell? _ _ hw115_0; first | rwa [add_block] at this | exact this) GW112.out)) | (dsimp only; exact Nat.ne_of_lt (Nat.lt_of_lt_of_le (by have := World.block_lt_of_cell? _ _ hw115_0; first | rwa [add_block] at this | exact this) GW112.out))) _).trans (hHeld.2.2.2.2.2.2.2.2.2.2.2.2.2.2.2.2.2.1)), ((cell_far (p := ⟨gb112, _, none⟩) (by first | exact Nat.ne_of_lt (Nat.lt_of_lt_of_le (by have := World.block_lt_of_cell? _ _ hw116_0; first | rwa [add_block] at this | exact this) GW112.out) | (rw [add_block]; exact Nat.ne_of_lt (Nat.lt_of_lt_of_le (by have := World.block_lt_of_cell? _ _ hw116_0; first | rwa [add_block] at this | exact this) GW112.out)) | (show (Addr.add _ _).block ≠ _; rw [add_block]; exact Nat.ne_of_lt (Nat.lt_of_lt_of_le (by have := World.block_lt_of_cell? _ _ hw116_0; first | rwa [add_block] at this | exact this) GW112.out)) | (dsimp only; exact Nat.ne_of_lt (Nat.lt_of_lt_of_le (by have := World.block_lt_of_cell? _ _ hw116_0; first | rwa [add_block] at this | exact this) GW112.out))) _).trans (hHeld.2.2.2.2.2.2.2.2.2.2.2.2.2.2.2.2.2.2))⟩ (fun hHeld => ?_)
       clear hK K
       refine nA 46 ?_; refine pA 16 47 HT_ ?_
       refine last_ (i := 17) (N := none) #[true, true, true, true, true, true, true, true, true, true, true, true, true, true, true, true, true, true] rfl rfl (one_of HT_.out (by kernel_rfl)) (by decide) (fun K hK => ?_)
       refine skip_ (w1 := ?_) (by rfl) rfl ?_ ?_
       rotate_left
       · go_simp
         rfl
       refine hK.out _ _ ?_
       clear hK K
       refine done_ (done_of HT_.out (by kernel_rfl)) ?_
       try go_wp2
       go_roundg k2
       case measure => have := HJ3.out; have := HK2.out; omega
       case rel => exact ⟨(wrap64 (x28_2 + 1)), (y119), (t118), (.slice (some ⟨go48, 0, none⟩) x113004_2.length co48), z4458, H', ⟨by have := HJ3.out; have := HK2.out; omega⟩, ⟨by (with_reducible repeat (first | apply Kd.R_alloc | apply Kd.R_drewN | apply Kd.R_drew)); exact Kd.R_mono HQ51.out (fun _ hk => trivial)⟩, ⟨by (with_reducible repeat (first | refine blk_drewN ?_ _ | refine blk_drew ?_ | refine blk_alloc ?_ _)); refine blk_far ?_ (by have h_ := Kd.R_ne HO_113004.out BK101.out (by decide); intro e_; exact h_ (by rw [e_]; rfl)) _; (with_reducible repeat (first | refine blk_drewN ?_ _ | refine blk_drew ?_ | refine blk_alloc ?_ _)); refine blk_far ?_ NB101_112.out _; (with_reducible repeat (first | refine blk_drewN ?_ _ | refine blk_drew ?_ | refine blk_alloc ?_ _)); exact BK101.out⟩, ⟨by (with_reducible repeat (first | refine blk_drewN ?_ _ | refine blk_drew ?_ | refine blk_alloc ?_ _)); refine blk_far ?_ (by have h_ := Kd.R_ne HO_113004.out BK102.out (by decide); intro e_; exact h_ (by rw [e_]; rfl)) _; (with_reducible repeat (first | refine blk_drewN ?_ _ | refine blk_drew ?_ | refine blk_alloc ?_ _)); refine blk_far ?_ NB102_112.out _; (with_reducible repeat (first | refine blk_drewN ?_ _ | refine blk_drew ?_ | refine blk_alloc ?_ _)); exact BK102.out⟩, ⟨by (with_reducible repeat (first | refine blk_drewN ?_ _ | refine blk_drew ?_ | refine blk_alloc ?_ _)); refine blk_far ?_ (by have h_ := Kd.R_ne HO_113004.out BK103.out (by decide); intro e_; exact h_ (by rw [e_]; rfl)) _; (with_reducible repeat (first | refine blk_drewN ?_ _ | refine blk_drew ?_ | refine blk_alloc ?_ _)); refine blk_far ?_ NB103_112.out _; (with_reducible repeat (first | refine blk_drewN ?_ _ | refine blk_drew ?_ | refine blk_alloc ?_ _)); exact BK103.out⟩, ⟨by (with_reducible repeat (first | refine blk_drewN ?_ _ | refine blk_drew ?_ | refine blk_alloc ?_ _)); refine blk_far ?_ (by have h_ := Kd.R_ne HO_113004.out BK112.out (by decide); intro e_; exact h_ (by rw [e_]; rfl)) _; (with_reducible repeat (first | refine blk_drewN ?_ _ | refine blk_drew ?_ | refine blk_alloc ?_ _)); refine blk_put (cs := #[.int .i64 t113, .int .i64 t105, .int .i64 t106, .int .i64 t107, .slice (some ⟨go48, 0, none⟩) x113004_2.length co48, .bool x113005_2]) ?_ 5 _ rfl; (with_reducible repeat (first | refine blk_drewN ?_ _ | refine blk_drew ?_ | refine blk_alloc ?_ _)); exact BK112.out⟩, ⟨by repeat (first | (with_reducible first | exact HB.out | apply below_alloc | apply pw_below_drewN | apply below_drew1 | refine below_set ?_ GB48.out | refine below_set ?_ (Aside0.out (by assumption))) | exact HB.out)⟩⟩
     · rw [if_neg c42] at H
       have c42b0 : decide (x28_2 < (t108.length : Int)) = false := decide_eq_false c42
       clear c42
       by_cases c52 : a0_0 = 0
       · rw [if_pos c52] at H
         have c52b0 : (a0_0 == 0) = true := beq_iff_eq.mpr c52
         have c52b1 : (a0_0 != 0) = false := bne_eq_false_iff_eq.mpr c52
         clear c52
         by_cases c53 : x113005_2 = true
         · subst c53
           rw [if_pos rfl] at H
           simp only [Option.some.injEq, Prod.mk.injEq] at H
           obtain ⟨rfl, rfl, rfl, rfl, rfl, rfl⟩ := H
           have hnb54 := NB101_102.out
           have hnc54 := NB102_101.out
           have hnb55 := NB101_103.out
           have hnc55 := NB103_101.out
           have hnb56 := NB101_112.out
           have hnc56 := NB112_101.out
           obtain ⟨hcz57_0, hcz57_1, hcz57_2, hcz57_3, hcz57_4, hcz57_5, hfz57_0, hfz57_1, hfz57_2, hfz57_3, hfz57_4, hfz57_5⟩ := cellsZ6 BK101.out
           try go_wp2
           have _ := aM (Kd.R_drew HO_113004.out)
           have _ := aM (blk_drew BK101.out)
           have _ := aM (blk_drew BK102.out)
           have _ := aM (blk_drew BK103.out)
           have _ := aM (blk_drew BK112.out)
           have _ := aM (below_drew1 HB.out)
           clear HO_113004
           clear BK101
           clear BK102
           clear BK103
           clear BK112
           clear HB
           rename_i HO_113004 BK101 BK102 BK103 BK112 HB
           refine sA 8 impl_joined.tab12 impl_joined.bits12 (fun w' => w'.cell? ⟨gb102, 0, none⟩ = some (.int .i64 a1_0) ∧ w'.cell? ⟨gb102, 1, none⟩ = some (.int .i64 a1_1) ∧ w'.cell? ⟨gb102, 2, none⟩ = some (.int .i64 a1_2) ∧ w'.cell? ⟨gb102, 3, none⟩ = some (.int .i64 a1_3) ∧ w'.cell? ⟨gb102, 4, none⟩ = some (.slice A1_4 l1_4.length c1_4) ∧ w'.cell? ⟨gb102, 5, none⟩ = some (.bool a1_5)) [] (fun hHeld HT_ HW_ => ?_)
           generalize wr.drew = w58 at HO_113004 BK101 BK102 BK103 BK112 HB hHeld ⊢
           refine pA 0 65 HT_ ?_; refine pA 2 67 HT_ ?_; refine tA 1 66 HT_ HW_ hHeld ?_; refine pA 4 69 HT_ ?_; refine tA 3 68 HT_ HW_ hHeld ?_
           refine one_ (i := 5) (N := none) #[true, true, true, true, true, true, false, false] rfl rfl (one_of HT_.out (by kernel_rfl)) (by decide) (fun K hK => ?_)
           have hs59 : w58.cell? ⟨gb112, 2, none⟩ = some (.int .i64 t106) := (blk_cell BK112.out 2).trans rfl
           have hfs59 := blk_frozen BK112.out 2
           have hns59_0 := NB101_112.out
           have hns59_1 := NB102_112.out
           have hns59_2 := NB103_112.out
           have hms59_0 := NB112_101.out
           have hms59_1 := NB112_102.out
           have hms59_2 := NB112_103.out
           refine skip_ (w1 := ?_) (by rfl) rfl ?_ ?_
           rotate_left
           · go_simp
             rfl
           refine hK.out _ _ ⟨((cell_far (p := ⟨gb112, _, none⟩) NB102_112.out _).trans (hHeld.1)), ((cell_far (p := ⟨gb112, _, none⟩) NB102_112.out _).trans (hHeld.2.1)), ((cell_far (p := ⟨gb112, _, none⟩) NB102_112.out _).trans (hHeld.2.2.1)), ((cell_far (p := ⟨gb112, _, none⟩) NB102_112.out _).trans (hHeld.2.2.2.1)), ((cell_far (p := ⟨gb112, _, none⟩) NB102_112.out _).trans (hHeld.2.2.2.2.1)), ((cell_far (p := ⟨gb112, _, none⟩) NB102_112.out _).trans (hHeld.2.2.2.2.2))⟩ (fun hHeld => ?_)
           clear hK K
           refine pA 6 70 HT_ ?_
           refine one_ (i := 7) (N := none) #[true, true, true, true, true, true, true, true] rfl rfl (one_of HT_.out (by kernel_rfl)) (by decide) (fun K hK => ?_)
           have hs60 : w58.cell? ⟨gb112, 3, none⟩ = some (.int .i64 t107) := (blk_cell BK112.out 3).trans rfl
           have hfs60 := blk_frozen BK112.out 3
           have hns60_0 := NB101_112.out
           have hns60_1 := NB102_112.out
           have hns60_2 := NB103_112.out
           have hms60_0 := NB112_101.out
           have hms60_1 := NB112_102.out
           have hms60_2 := NB112_103.out
           refine skip_ (w1 := ?_) (by rfl) rfl ?_ ?_
           rotate_left
           · go_simp
             rfl
           refine hK.out _ _ ⟨((cell_far (p := ⟨gb112, _, none⟩) NB102_112.out _).trans (hHeld.1)), ((cell_far (p := ⟨gb112, _, none⟩) NB102_112.out _).trans (hHeld.2.1)), ((cell_far (p := ⟨gb112, _, none⟩) NB102_112.out _).trans (hHeld.2.2.1)), ((cell_far (p := ⟨gb112, _, none⟩) NB102_112.out _).trans (hHeld.2.2.2.1)), ((cell_far (p := ⟨gb112, _, none⟩) NB102_112.out _).trans (hHeld.2.2.2.2.1)), ((cell_far (p := ⟨gb112, _, none⟩) NB102_112.out _).trans (hHeld.2.2.2.2.2))⟩ (fun hHeld => ?_)
           clear hK K
           refine done_ (done_of HT_.out (by kernel_rfl)) ?_
           have hnb61 := NB112_102.out
           have hnc61 := NB102_112.out
           have hnb62 := NB112_103.out
           have hnc62 := NB103_112.out
           obtain ⟨hcz63_0, hcz63_1, hcz63_2, hcz63_3, hcz63_4, hcz63_5, hfz63_0, hfz63_1, hfz63_2, hfz63_3, hfz63_4, hfz63_5⟩ := cellsZ6 BK112.out
           have hnb64 := NB103_102.out
           have hnc64 := NB102_103.out
           obtain ⟨hcz65_0, hcz65_1, hcz65_2, hcz65_3, hcz65_4, hcz65_5, hfz65_0, hfz65_1, hfz65_2, hfz65_3, hfz65_4, hfz65_5⟩ := cellsZ6 BK103.out
           obtain ⟨Ao66, co66, eo66⟩ := Kd.R_slice HO_113004.out
           subst eo66
           try go_wp2
           refine bodyPost_ret (results_cell_row rfl _ _ gb103 26 #[.int .i64 t113, .int .i64 t105, .int .i64 a1_2, .int .i64 a1_3, .slice Ao66 x113004_2.length co66, .bool true] (0, 0) _ rfl bkZ Try.underlying26 rfl (by kernel_rfl)) rfl ?_
           exact ⟨_, z674d, by (with_reducible repeat (first | apply Kd.R_alloc | apply Kd.R_drewN | apply Kd.R_drew)); exact Kd.R_mono (Kd.R_far (p := ⟨gb103, 5, none⟩) (Kd.R_far (p := ⟨gb103, 4, none⟩) (Kd.R_far (p := ⟨gb103, 3, none⟩) (Kd.R_far (p := ⟨gb103, 2, none⟩) (Kd.R_far (p := ⟨gb103, 1, none⟩) (Kd.R_far (p := ⟨gb103, 0, none⟩) (Kd.R_far (p := ⟨gb112, 3, none⟩) (Kd.R_far (p := ⟨gb112, 2, none⟩) (Kd.R_types (Kd.R_types HO_113004.out BK112.out (by decide)) BK103.out (by decide)) (fun _ hk => hk.1.2) (.int .i64 a1_2)) (fun _ hk => hk.1.2) (.int .i64 a1_3)) (fun _ hk => hk.2) (.int .i64 t113)) (fun _ hk => hk.2) (.int .i64 t105)) (fun _ hk => hk.2) (.int .i64 a1_2)) (fun _ hk => hk.2) (.int .i64 a1_3)) (fun _ hk => hk.2) (.slice Ao66 x113004_2.length co66)) (fun _ hk => hk.2) (.bool true)) (fun _ hk => trivial), zcb41⟩
         · replace c53 := Bool.eq_false_iff.mpr c53
           subst c53
           rw [if_neg (show ¬ (false = true) by decide)] at H
           simp only [Option.some.injEq, Prod.mk.injEq] at H
           obtain ⟨rfl, rfl, rfl, rfl, rfl, rfl⟩ := H
           have hnb67 := NB101_102.out
           have hnc67 := NB102_101.out
           have hnb68 := NB101_103.out
           have hnc68 := NB103_101.out
           have hnb69 := NB101_112.out
           have hnc69 := NB112_101.out
           obtain ⟨hcz70_0, hcz70_1, hcz70_2, hcz70_3, hcz70_4, hcz70_5, hfz70_0, hfz70_1, hfz70_2, hfz70_3, hfz70_4, hfz70_5⟩ := cellsZ6 BK101.out
           try go_wp2
           have _ := aM (Kd.R_drew HO_113004.out)
           have _ := aM (blk_drew BK101.out)
           have _ := aM (blk_drew BK102.out)
           have _ := aM (blk_drew BK103.out)
           have _ := aM (blk_drew BK112.out)
           have _ := aM (below_drew1 HB.out)
           clear HO_113004
           clear BK101
           clear BK102
           clear BK103
           clear BK112
           clear HB
           rename_i HO_113004 BK101 BK102 BK103 BK112 HB
           refine sA 8 impl_joined.tab12 impl_joined.bits12 (fun w' => w'.cell? ⟨gb102, 0, none⟩ = some (.int .i64 a1_0) ∧ w'.cell? ⟨gb102, 1, none⟩ = some (.int .i64 a1_1) ∧ w'.cell? ⟨gb102, 2, none⟩ = some (.int .i64 a1_2) ∧ w'.cell? ⟨gb102, 3, none⟩ = some (.int .i64 a1_3) ∧ w'.cell? ⟨gb102, 4, none⟩ = some (.slice A1_4 l1_4.length c1_4) ∧ w'.cell? ⟨gb102, 5, none⟩ = some (.bool a1_5)) [] (fun hHeld HT_ HW_ => ?_)
           generalize wr.drew = w71 at HO_113004 BK101 BK102 BK103 BK112 HB hHeld ⊢
           refine pA 0 65 HT_ ?_; refine pA 2 67 HT_ ?_; refine tA 1 66 HT_ HW_ hHeld ?_; refine pA 4 69 HT_ ?_; refine tA 3 68 HT_ HW_ hHeld ?_
           refine one_ (i := 5) (N := none) #[true, true, true, true, true, true, false, false] rfl rfl (one_of HT_.out (by kernel_rfl)) (by decide) (fun K hK => ?_)
           have hs72 : w71.cell? ⟨gb112, 2, none⟩ = some (.int .i64 t106) := (blk_cell BK112.out 2).trans rfl
           have hfs72 := blk_frozen BK112.out 2
           have hns72_0 := NB101_112.out
           have hns72_1 := NB102_112.out
           have hns72_2 := NB103_112.out
           have hms72_0 := NB112_101.out
           have hms72_1 := NB112_102.out
           have hms72_2 := NB112_103.out
           refine skip_ (w1 := ?_) (by rfl) rfl ?_ ?_
           rotate_left
           · go_simp
             rfl
           refine hK.out _ _ ⟨((cell_far (p := ⟨gb112, _, none⟩) NB102_112.out _).trans (hHeld.1)), ((cell_far (p := ⟨gb112, _, none⟩) NB102_112.out _).trans (hHeld.2.1)), ((cell_far (p := ⟨gb112, _, none⟩) NB102_112.out _).trans (hHeld.2.2.1)), ((cell_far (p := ⟨gb112, _, none⟩) NB102_112.out _).trans (hHeld.2.2.2.1)), ((cell_far (p := ⟨gb112, _, none⟩) NB102_112.out _).trans (hHeld.2.2.2.2.1)), ((cell_far (p := ⟨gb112, _, none⟩) NB102_112.out _).trans (hHeld.2.2.2.2.2))⟩ (fun hHeld => ?_)
           clear hK K
           refine pA 6 70 HT_ ?_
           refine one_ (i := 7) (N := none) #[true, true, true, true, true, true, true, true] rfl rfl (one_of HT_.out (by kernel_rfl)) (by decide) (fun K hK => ?_)
           have hs73 : w71.cell? ⟨gb112, 3, none⟩ = some (.int .i64 t107) := (blk_cell BK112.out 3).trans rfl
           have hfs73 := blk_frozen BK112.out 3
           have hns73_0 := NB101_112.out
           have hns73_1 := NB102_112.out
           have hns73_2 := NB103_112.out
           have hms73_0 := NB112_101.out
           have hms73_1 := NB112_102.out
           have hms73_2 := NB112_103.out
           refine skip_ (w1 := ?_) (by rfl) rfl ?_ ?_
           rotate_left
           · go_simp
             rfl
           refine hK.out _ _ ⟨((cell_far (p := ⟨gb112, _, none⟩) NB102_112.out _).trans (hHeld.1)), ((cell_far (p := ⟨gb112, _, none⟩) NB102_112.out _).trans (hHeld.2.1)), ((cell_far (p := ⟨gb112, _, none⟩) NB102_112.out _).trans (hHeld.2.2.1)), ((cell_far (p := ⟨gb112, _, none⟩) NB102_112.out _).trans (hHeld.2.2.2.1)), ((cell_far (p := ⟨gb112, _, none⟩) NB102_112.out _).trans (hHeld.2.2.2.2.1)), ((cell_far (p := ⟨gb112, _, none⟩) NB102_112.out _).trans (hHeld.2.2.2.2.2))⟩ (fun hHeld => ?_)
           clear hK K
           refine done_ (done_of HT_.out (by kernel_rfl)) ?_
           have hnb74 := NB112_102.out
           have hnc74 := NB102_112.out
           have hnb75 := NB112_103.out
           have hnc75 := NB103_112.out
           obtain ⟨hcz76_0, hcz76_1, hcz76_2, hcz76_3, hcz76_4, hcz76_5, hfz76_0, hfz76_1, hfz76_2, hfz76_3, hfz76_4, hfz76_5⟩ := cellsZ6 BK112.out
           obtain ⟨hcz77_0, hcz77_1, hcz77_2, hcz77_3, hcz77_4, hcz77_5, hfz77_0, hfz77_1, hfz77_2, hfz77_3, hfz77_4, hfz77_5⟩ := cellsZ6 BK101.out
           have hnb78 := NB102_103.out
           have hnc78 := NB103_102.out
           obtain ⟨hcz79_0, hcz79_1, hcz79_2, hcz79_3, hcz79_4, hcz79_5, hfz79_0, hfz79_1, hfz79_2, hfz79_3, hfz79_4, hfz79_5⟩ := cellsZ6 BK102.out
           obtain ⟨hcz80_0, hcz80_1, hcz80_2, hcz80_3, hcz80_4, hcz80_5, hfz80_0, hfz80_1, hfz80_2, hfz80_3, hfz80_4, hfz80_5⟩ := cellsZ6 BK103.out
           obtain ⟨Ao81, co81, eo81⟩ := Kd.R_slice HO_113004.out
           subst eo81
           try go_wp2
           refine bodyPost_ret (results_cell_row rfl _ _ gb103 26 #[.int .i64 t113, .int .i64 (wrap64 (a0_1 + a1_1)), .int .i64 a1_2, .int .i64 a1_3, .slice Ao81 x113004_2.length co81, .bool false] (0, 0) _ rfl bkZ Try.underlying26 rfl (by kernel_rfl)) rfl ?_
           exact ⟨_, z674d, by (with_reducible repeat (first | apply Kd.R_alloc | apply Kd.R_drewN | apply Kd.R_drew)); exact Kd.R_mono (Kd.R_far (p := ⟨gb103, 5, none⟩) (Kd.R_far (p := ⟨gb103, 4, none⟩) (Kd.R_far (p := ⟨gb103, 3, none⟩) (Kd.R_far (p := ⟨gb103, 2, none⟩) (Kd.R_far (p := ⟨gb103, 1, none⟩) (Kd.R_far (p := ⟨gb103, 0, none⟩) (Kd.R_far (p := ⟨gb112, 1, none⟩) (Kd.R_far (p := ⟨gb112, 3, none⟩) (Kd.R_far (p := ⟨gb112, 2, none⟩) (Kd.R_types (Kd.R_types HO_113004.out BK112.out (by decide)) BK103.out (by decide)) (fun _ hk => hk.1.2) (.int .i64 a1_2)) (fun _ hk => hk.1.2) (.int .i64 a1_3)) (fun _ hk => hk.1.2) (.int .i64 (wrap64 (a0_1 + a1_1)))) (fun _ hk => hk.2) (.int .i64 t113)) (fun _ hk => hk.2) (.int .i64 (wrap64 (a0_1 + a1_1)))) (fun _ hk => hk.2) (.int .i64 a1_2)) (fun _ hk => hk.2) (.int .i64 a1_3)) (fun _ hk => hk.2) (.slice Ao81 x113004_2.length co81)) (fun _ hk => hk.2) (.bool false)) (fun _ hk => trivial), zcb41⟩
       · rw [if_neg c52] at H
         have c52b0 : (a0_0 == 0) = false := beq_eq_false_iff_ne.mpr c52
         have c52b1 : (a0_0 != 0) = true := bne_iff_ne.mpr c52
         by_cases c82 : a1_0 = 0
         · rw [if_pos c82] at H
           have c82b0 : (a1_0 == 0) = true := beq_iff_eq.mpr c82
           have c82b1 : (a1_0 != 0) = false := bne_eq_false_iff_eq.mpr c82
           clear c82
           by_cases c83 : x113005_2 = true
           · subst c83
             rw [if_pos rfl] at H
             simp only [Option.some.injEq, Prod.mk.injEq] at H
             obtain ⟨rfl, rfl, rfl, rfl, rfl, rfl⟩ := H
             have hnb84 := NB101_102.out
             have hnc84 := NB102_101.out
             have hnb85 := NB101_103.out
             have hnc85 := NB103_101.out
             have hnb86 := NB101_112.out
             have hnc86 := NB112_101.out
             obtain ⟨hcz87_0, hcz87_1, hcz87_2, hcz87_3, hcz87_4, hcz87_5, hfz87_0, hfz87_1, hfz87_2, hfz87_3, hfz87_4, hfz87_5⟩ := cellsZ6 BK101.out
             have hnb88 := NB102_103.out
             have hnc88 := NB103_102.out
             have hnb89 := NB102_112.out
             have hnc89 := NB112_102.out
             obtain ⟨hcz90_0, hcz90_1, hcz90_2, hcz90_3, hcz90_4, hcz90_5, hfz90_0, hfz90_1, hfz90_2, hfz90_3, hfz90_4, hfz90_5⟩ := cellsZ6 BK102.out
             try go_wp2
             have _ := aM (Kd.R_drew HO_113004.out)
             have _ := aM (blk_drew BK101.out)
             have _ := aM (blk_drew BK102.out)
             have _ := aM (blk_drew BK103.out)
             have _ := aM (blk_drew BK112.out)
             have _ := aM (below_drew1 HB.out)
             clear HO_113004
             clear BK101
             clear BK102
             clear BK103
             clear BK112
             clear HB
             rename_i HO_113004 BK101 BK102 BK103 BK112 HB
             refine sA 8 impl_joined.tab14 impl_joined.bits14 (fun w' => w'.cell? ⟨gb101, 0, none⟩ = some (.int .i64 a0_0) ∧ w'.cell? ⟨gb101, 1, none⟩ = some (.int .i64 a0_1) ∧ w'.cell? ⟨gb101, 2, none⟩ = some (.int .i64 a0_2) ∧ w'.cell? ⟨gb101, 3, none⟩ = some (.int .i64 a0_3) ∧ w'.cell? ⟨gb101, 4, none⟩ = some (.slice A0_4 l0_4.length c0_4) ∧ w'.cell? ⟨gb101, 5, none⟩ = some (.bool a0_5)) [] (fun hHeld HT_ HW_ => ?_)
             generalize wr.drew = w91 at HO_113004 BK101 BK102 BK103 BK112 HB hHeld ⊢
             refine pA 0 75 HT_ ?_; refine pA 2 77 HT_ ?_; refine tA 1 76 HT_ HW_ hHeld ?_; refine pA 4 79 HT_ ?_; refine tA 3 78 HT_ HW_ hHeld ?_
             refine one_ (i := 5) (N := none) #[true, true, true, true, true, true, false, false] rfl rfl (one_of HT_.out (by kernel_rfl)) (by decide) (fun K hK => ?_)
             have hs92 : w91.cell? ⟨gb112, 2, none⟩ = some (.int .i64 t106) := (blk_cell BK112.out 2).trans rfl
             have hfs92 := blk_frozen BK112.out 2
             have hns92_0 := NB101_112.out
             have hns92_1 := NB102_112.out
             have hns92_2 := NB103_112.out
             have hms92_0 := NB112_101.out
             have hms92_1 := NB112_102.out
             have hms92_2 := NB112_103.out
             refine skip_ (w1 := ?_) (by rfl) rfl ?_ ?_
             rotate_left
             · go_simp
               rfl
             refine hK.out _ _ ⟨((cell_far (p := ⟨gb112, _, none⟩) NB101_112.out _).trans (hHeld.1)), ((cell_far (p := ⟨gb112, _, none⟩) NB101_112.out _).trans (hHeld.2.1)), ((cell_far (p := ⟨gb112, _, none⟩) NB101_112.out _).trans (hHeld.2.2.1)), ((cell_far (p := ⟨gb112, _, none⟩) NB101_112.out _).trans (hHeld.2.2.2.1)), ((cell_far (p := ⟨gb112, _, none⟩) NB101_112.out _).trans (hHeld.2.2.2.2.1)), ((cell_far (p := ⟨gb112, _, none⟩) NB101_112.out _).trans (hHeld.2.2.2.2.2))⟩ (fun hHeld => ?_)
             clear hK K
             refine pA 6 80 HT_ ?_
             refine one_ (i := 7) (N := none) #[true, true, true, true, true, true, true, true] rfl rfl (one_of HT_.out (by kernel_rfl)) (by decide) (fun K hK => ?_)
             have hs93 : w91.cell? ⟨gb112, 3, none⟩ = some (.int .i64 t107) := (blk_cell BK112.out 3).trans rfl
             have hfs93 := blk_frozen BK112.out 3
             have hns93_0 := NB101_112.out
             have hns93_1 := NB102_112.out
             have hns93_2 := NB103_112.out
             have hms93_0 := NB112_101.out
             have hms93_1 := NB112_102.out
             have hms93_2 := NB112_103.out
             refine skip_ (w1 := ?_) (by rfl) rfl ?_ ?_
             rotate_left
             · go_simp
               rfl
             refine hK.out _ _ ⟨((cell_far (p := ⟨gb112, _, none⟩) NB101_112.out _).trans (hHeld.1)), ((cell_far (p := ⟨gb112, _, none⟩) NB101_112.out _).trans (hHeld.2.1)), ((cell_far (p := ⟨gb112, _, none⟩) NB101_112.out _).trans (hHeld.2.2.1)), ((cell_far (p := ⟨gb112, _, none⟩) NB101_112.out _).trans (hHeld.2.2.2.1)), ((cell_far (p := ⟨gb112, _, none⟩) NB101_112.out _).trans (hHeld.2.2.2.2.1)), ((cell_far (p := ⟨gb112, _, none⟩) NB101_112.out _).trans (hHeld.2.2.2.2.2))⟩ (fun hHeld => ?_)
             clear hK K
             refine done_ (done_of HT_.out (by kernel_rfl)) ?_
             have hnb94 := NB112_103.out
             have hnc94 := NB103_112.out
             obtain ⟨hcz95_0, hcz95_1, hcz95_2, hcz95_3, hcz95_4, hcz95_5, hfz95_0, hfz95_1, hfz95_2, hfz95_3, hfz95_4, hfz95_5⟩ := cellsZ6 BK112.out
             obtain ⟨hcz96_0, hcz96_1, hcz96_2, hcz96_3, hcz96_4, hcz96_5, hfz96_0, hfz96_1, hfz96_2, hfz96_3, hfz96_4, hfz96_5⟩ := cellsZ6 BK103.out
             obtain ⟨Ao97, co97, eo97⟩ := Kd.R_slice HO_113004.out
             subst eo97
             try go_wp2
             refine bodyPost_ret (results_cell_row rfl _ _ gb103 26 #[.int .i64 t113, .int .i64 t105, .int .i64 a0_2, .int .i64 a0_3, .slice Ao97 x113004_2.length co97, .bool true] (0, 0) _ rfl bkZ Try.underlying26 rfl (by kernel_rfl)) rfl ?_
             exact ⟨_, z674d, by (with_reducible repeat (first | apply Kd.R_alloc | apply Kd.R_drewN | apply Kd.R_drew)); exact Kd.R_mono (Kd.R_far (p := ⟨gb103, 5, none⟩) (Kd.R_far (p := ⟨gb103, 4, none⟩) (Kd.R_far (p := ⟨gb103, 3, none⟩) (Kd.R_far (p := ⟨gb103, 2, none⟩) (Kd.R_far (p := ⟨gb103, 1, none⟩) (Kd.R_far (p := ⟨gb103, 0, none⟩) (Kd.R_far (p := ⟨gb112, 3, none⟩) (Kd.R_far (p := ⟨gb112, 2, none⟩) (Kd.R_types (Kd.R_types HO_113004.out BK112.out (by decide)) BK103.out (by decide)) (fun _ hk => hk.1.2) (.int .i64 a0_2)) (fun _ hk => hk.1.2) (.int .i64 a0_3)) (fun _ hk => hk.2) (.int .i64 t113)) (fun _ hk => hk.2) (.int .i64 t105)) (fun _ hk => hk.2) (.int .i64 a0_2)) (fun _ hk => hk.2) (.int .i64 a0_3)) (fun _ hk => hk.2) (.slice Ao97 x113004_2.length co97)) (fun _ hk => hk.2) (.bool true)) (fun _ hk => trivial), zcb41⟩
           · replace c83 := Bool.eq_false_iff.mpr c83
             subst c83
             rw [if_neg (show ¬ (false = true) by decide)] at H
             simp only [Option.some.injEq, Prod.mk.injEq] at H
             obtain ⟨rfl, rfl, rfl, rfl, rfl, rfl⟩ := H
             have hnb98 := NB101_102.out
             have hnc98 := NB102_101.out
             have hnb99 := NB101_103.out
             have hnc99 := NB103_101.out
             have hnb100 := NB101_112.out
             have hnc100 := NB112_101.out
             obtain ⟨hcz101_0, hcz101_1, hcz101_2, hcz101_3, hcz101_4, hcz101_5, hfz101_0, hfz101_1, hfz101_2, hfz101_3, hfz101_4, hfz101_5⟩ := cellsZ6 BK101.out
             have hnb102 := NB102_103.out
             have hnc102 := NB103_102.out
             have hnb103 := NB102_112.out
             have hnc103 := NB112_102.out
             obtain ⟨hcz104_0, hcz104_1, hcz104_2, hcz104_3, hcz104_4, hcz104_5, hfz104_0, hfz104_1, hfz104_2, hfz104_3, hfz104_4, hfz104_5⟩ := cellsZ6 BK102.out
             try go_wp2
             have _ := aM (Kd.R_drew HO_113004.out)
             have _ := aM (blk_drew BK101.out)
             have _ := aM (blk_drew BK102.out)
             have _ := aM (blk_drew BK103.out)
             have _ := aM (blk_drew BK112.out)
             have _ := aM (below_drew1 HB.out)
             clear HO_113004
             clear BK101
             clear BK102
             clear BK103
             clear BK112
             clear HB
             rename_i HO_113004 BK101 BK102 BK103 BK112 HB
             refine sA 8 impl_joined.tab14 impl_joined.bits14 (fun w' => w'.cell? ⟨gb101, 0, none⟩ = some (.int .i64 a0_0) ∧ w'.cell? ⟨gb101, 1, none⟩ = some (.int .i64 a0_1) ∧ w'.cell? ⟨gb101, 2, none⟩ = some (.int .i64 a0_2) ∧ w'.cell? ⟨gb101, 3, none⟩ = some (.int .i64 a0_3) ∧ w'.cell? ⟨gb101, 4, none⟩ = some (.slice A0_4 l0_4.length c0_4) ∧ w'.cell? ⟨gb101, 5, none⟩ = some (.bool a0_5)) [] (fun hHeld HT_ HW_ => ?_)
             generalize wr.drew = w105 at HO_113004 BK101 BK102 BK103 BK112 HB hHeld ⊢
             refine pA 0 75 HT_ ?_; refine pA 2 77 HT_ ?_; refine tA 1 76 HT_ HW_ hHeld ?_; refine pA 4 79 HT_ ?_; refine tA 3 78 HT_ HW_ hHeld ?_
             refine one_ (i := 5) (N := none) #[true, true, true, true, true, true, false, false] rfl rfl (one_of HT_.out (by kernel_rfl)) (by decide) (fun K hK => ?_)
             have hs106 : w105.cell? ⟨gb112, 2, none⟩ = some (.int .i64 t106) := (blk_cell BK112.out 2).trans rfl
             have hfs106 := blk_frozen BK112.out 2
             have hns106_0 := NB101_112.out
             have hns106_1 := NB102_112.out
             have hns106_2 := NB103_112.out
             have hms106_0 := NB112_101.out
             have hms106_1 := NB112_102.out
             have hms106_2 := NB112_103.out
             refine skip_ (w1 := ?_) (by rfl) rfl ?_ ?_
             rotate_left
             · go_simp
               rfl
             refine hK.out _ _ ⟨((cell_far (p := ⟨gb112, _, none⟩) NB101_112.out _).trans (hHeld.1)), ((cell_far (p := ⟨gb112, _, none⟩) NB101_112.out _).trans (hHeld.2.1)), ((cell_far (p := ⟨gb112, _, none⟩) NB101_112.out _).trans (hHeld.2.2.1)), ((cell_far (p := ⟨gb112, _, none⟩) NB101_112.out _).trans (hHeld.2.2.2.1)), ((cell_far (p := ⟨gb112, _, none⟩) NB101_112.out _).trans (hHeld.2.2.2.2.1)), ((cell_far (p := ⟨gb112, _, none⟩) NB101_112.out _).trans (hHeld.2.2.2.2.2))⟩ (fun hHeld => ?_)
             clear hK K
             refine pA 6 80 HT_ ?_
             refine one_ (i := 7) (N := none) #[true, true, true, true, true, true, true, true] rfl rfl (one_of HT_.out (by kernel_rfl)) (by decide) (fun K hK => ?_)
             have hs107 : w105.cell? ⟨gb112, 3, none⟩ = some (.int .i64 t107) := (blk_cell BK112.out 3).trans rfl
             have hfs107 := blk_frozen BK112.out 3
             have hns107_0 := NB101_112.out
             have hns107_1 := NB102_112.out
             have hns107_2 := NB103_112.out
             have hms107_0 := NB112_101.out
             have hms107_1 := NB112_102.out
             have hms107_2 := NB112_103.out
             refine skip_ (w1 := ?_) (by rfl) rfl ?_ ?_
             rotate_left
             · go_simp
               rfl
             refine hK.out _ _ ⟨((cell_far (p := ⟨gb112, _, none⟩) NB101_112.out _).trans (hHeld.1)), ((cell_far (p := ⟨gb112, _, none⟩) NB101_112.out _).trans (hHeld.2.1)), ((cell_far (p := ⟨gb112, _, none⟩) NB101_112.out _).trans (hHeld.2.2.1)), ((cell_far (p := ⟨gb112, _, none⟩) NB101_112.out _).trans (hHeld.2.2.2.1)), ((cell_far (p := ⟨gb112, _, none⟩) NB101_112.out _).trans (hHeld.2.2.2.2.1)), ((cell_far (p := ⟨gb112, _, none⟩) NB101_112.out _).trans (hHeld.2.2.2.2.2))⟩ (fun hHeld => ?_)
             clear hK K
             refine done_ (done_of HT_.out (by kernel_rfl)) ?_
             have hnb108 := NB112_103.out
             have hnc108 := NB103_112.out
             obtain ⟨hcz109_0, hcz109_1, hcz109_2, hcz109_3, hcz109_4, hcz109_5, hfz109_0, hfz109_1, hfz109_2, hfz109_3, hfz109_4, hfz109_5⟩ := cellsZ6 BK112.out
             obtain ⟨hcz110_0, hcz110_1, hcz110_2, hcz110_3, hcz110_4, hcz110_5, hfz110_0, hfz110_1, hfz110_2, hfz110_3, hfz110_4, hfz110_5⟩ := cellsZ6 BK101.out
             obtain ⟨hcz111_0, hcz111_1, hcz111_2, hcz111_3, hcz111_4, hcz111_5, hfz111_0, hfz111_1, hfz111_2, hfz111_3, hfz111_4, hfz111_5⟩ := cellsZ6 BK102.out
             obtain ⟨hcz112_0, hcz112_1, hcz112_2, hcz112_3, hcz112_4, hcz112_5, hfz112_0, hfz112_1, hfz112_2, hfz112_3, hfz112_4, hfz112_5⟩ := cellsZ6 BK103.out
             obtain ⟨Ao113, co113, eo113⟩ := Kd.R_slice HO_113004.out
             subst eo113
             try go_wp2
             refine bodyPost_ret (results_cell_row rfl _ _ gb103 26 #[.int .i64 t113, .int .i64 (wrap64 (a0_1 + a1_1)), .int .i64 a0_2, .int .i64 a0_3, .slice Ao113 x113004_2.length co113, .bool false] (0, 0) _ rfl bkZ Try.underlying26 rfl (by kernel_rfl)) rfl ?_
             exact ⟨_, z674d, by (with_reducible repeat (first | apply Kd.R_alloc | apply Kd.R_drewN | apply Kd.R_drew)); exact Kd.R_mono (Kd.R_far (p := ⟨gb103, 5, none⟩) (Kd.R_far (p := ⟨gb103, 4, none⟩) (Kd.R_far (p := ⟨gb103, 3, none⟩) (Kd.R_far (p := ⟨gb103, 2, none⟩) (Kd.R_far (p := ⟨gb103, 1, none⟩) (Kd.R_far (p := ⟨gb103, 0, none⟩) (Kd.R_far (p := ⟨gb112, 1, none⟩) (Kd.R_far (p := ⟨gb112, 3, none⟩) (Kd.R_far (p := ⟨gb112, 2, none⟩) (Kd.R_types (Kd.R_types HO_113004.out BK112.out (by decide)) BK103.out (by decide)) (fun _ hk => hk.1.2) (.int .i64 a0_2)) (fun _ hk => hk.1.2) (.int .i64 a0_3)) (fun _ hk => hk.1.2) (.int .i64 (wrap64 (a0_1 + a1_1)))) (fun _ hk => hk.2) (.int .i64 t113)) (fun _ hk => hk.2) (.int .i64 (wrap64 (a0_1 + a1_1)))) (fun _ hk => hk.2) (.int .i64 a0_2)) (fun _ hk => hk.2) (.int .i64 a0_3)) (fun _ hk => hk.2) (.slice Ao113 x113004_2.length co113)) (fun _ hk => hk.2) (.bool false)) (fun _ hk => trivial), zcb41⟩
         · rw [if_neg c82] at H
           have c82b0 : (a1_0 == 0) = false := beq_eq_false_iff_ne.mpr c82
           have c82b1 : (a1_0 != 0) = true := bne_iff_ne.mpr c82
           obtain ⟨ji114, hji114⟩ : ∃ j_ : Int, (mn a0_2 a1_2) = j_ := ⟨_, rfl⟩
           replace H : (if x113005_2 = true then (some (t113, t105, ji114, mx a0_3 a1_3, x113004_2, x113005_2)) else (some (t113, wrap64 (a0_1 + a1_1), ji114, mx a0_3 a1_3, x113004_2, x113005_2))) = some (r1, r2, r3, r4, r5, r6) := by first | (rw [hji114] at H; exact H) | (simp only [hji114] at H ⊢; exact H)
           have hji114_ : (if a1_2 < a0_2 then a1_2 else a0_2) = ji114 := hji114
           obtain ⟨ji115, hji115⟩ : ∃ j_ : Int, (mx a0_3 a1_3) = j_ := ⟨_, rfl⟩
           replace H : (if x113005_2 = true then (some (t113, t105, ji114, ji115, x113004_2, x113005_2)) else (some (t113, wrap64 (a0_1 + a1_1), ji114, ji115, x113004_2, x113005_2))) = some (r1, r2, r3, r4, r5, r6) := by first | (rw [hji115] at H; exact H) | (simp only [hji115] at H ⊢; exact H)
           have hji115_ : (if a0_3 < a1_3 then a1_3 else a0_3) = ji115 := hji115
           by_cases c116 : x113005_2 = true
           · subst c116
             rw [if_pos rfl] at H
             simp only [Option.some.injEq, Prod.mk.injEq] at H
             obtain ⟨rfl, rfl, rfl, rfl, rfl, rfl⟩ := H
             have hnb117 := NB101_102.out
             have hnc117 := NB102_101.out
             have hnb118 := NB101_103.out
             have hnc118 := NB103_101.out
             have hnb119 := NB101_112.out
             have hnc119 := NB112_101.out
             obtain ⟨hcz120_0, hcz120_1, hcz120_2, hcz120_3, hcz120_4, hcz120_5, hfz120_0, hfz120_1, hfz120_2, hfz120_3, hfz120_4, hfz120_5⟩ := cellsZ6 BK101.out
             have hnb121 := NB102_103.out
             have hnc121 := NB103_102.out
             have hnb122 := NB102_112.out
             have hnc122 := NB112_102.out
             obtain ⟨hcz123_0, hcz123_1, hcz123_2, hcz123_3, hcz123_4, hcz123_5, hfz123_0, hfz123_1, hfz123_2, hfz123_3, hfz123_4, hfz123_5⟩ := cellsZ6 BK102.out
             try go_wp2
             have _ := aM (Kd.R_drew HO_113004.out)
             have _ := aM (blk_drew BK101.out)
             have _ := aM (blk_drew BK102.out)
             have _ := aM (blk_drew BK103.out)
             have _ := aM (blk_drew BK112.out)
             have _ := aM (below_drew1 HB.out)
             clear HO_113004
             clear BK101
             clear BK102
             clear BK103
             clear BK112
             clear HB
             rename_i HO_113004 BK101 BK102 BK103 BK112 HB
             refine sA 14 impl_joined.tab10 impl_joined.bits10 (fun w' => w'.cell? ⟨gb101, 0, none⟩ = some (.int .i64 a0_0) ∧ w'.cell? ⟨gb101, 1, none⟩ = some (.int .i64 a0_1) ∧ w'.cell? ⟨gb101, 2, none⟩ = some (.int .i64 a0_2) ∧ w'.cell? ⟨gb101, 3, none⟩ = some (.int .i64 a0_3) ∧ w'.cell? ⟨gb101, 4, none⟩ = some (.slice A0_4 l0_4.length c0_4) ∧ w'.cell? ⟨gb101, 5, none⟩ = some (.bool a0_5) ∧ w'.cell? ⟨gb102, 0, none⟩ = some (.int .i64 a1_0) ∧ w'.cell? ⟨gb102, 1, none⟩ = some (.int .i64 a1_1) ∧ w'.cell? ⟨gb102, 2, none⟩ = some (.int .i64 a1_2) ∧ w'.cell? ⟨gb102, 3, none⟩ = some (.int .i64 a1_3) ∧ w'.cell? ⟨gb102, 4, none⟩ = some (.slice A1_4 l1_4.length c1_4) ∧ w'.cell? ⟨gb102, 5, none⟩ = some (.bool a1_5)) [] (fun hHeld HT_ HW_ => ?_)
             generalize wr.drew = w124 at HO_113004 BK101 BK102 BK103 BK112 HB hHeld ⊢
             refine pA 0 49 HT_ ?_; refine pA 2 51 HT_ ?_; refine pA 5 54 HT_ ?_; refine pA 7 56 HT_ ?_; refine tA 1 50 HT_ HW_ hHeld ?_; refine tA 3 52 HT_ HW_ hHeld ?_; refine pA 4 53 HT_ ?_; refine pA 10 59 HT_ ?_; refine tA 6 55 HT_ HW_ hHeld ?_; refine tA 8 57 HT_ HW_ hHeld ?_; refine pA 9 58 HT_ ?_
             refine one_ (i := 11) (N := none) #[true, true, true, true, true, true, true, true, true, true, true, true, false, false] rfl rfl (one_of HT_.out (by kernel_rfl)) (by decide) (fun K hK => ?_)
             have hs125 : w124.cell? ⟨gb112, 2, none⟩ = some (.int .i64 t106) := (blk_cell BK112.out 2).trans rfl
             have hfs125 := blk_frozen BK112.out 2
             have hns125_0 := NB101_112.out
             have hns125_1 := NB102_112.out
             have hns125_2 := NB103_112.out
             have hms125_0 := NB112_101.out
             have hms125_1 := NB112_102.out
             have hms125_2 := NB112_103.out
             refine skip_ (w1 := ?_) (by rfl) rfl ?_ ?_
             rotate_left
             · go_simp
               rfl
             refine hK.out _ _ ⟨((cell_far (p := ⟨gb112, _, none⟩) NB101_112.out _).trans (hHeld.1)), ((cell_far (p := ⟨gb112, _, none⟩) NB101_112.out _).trans (hHeld.2.1)), ((cell_far (p := ⟨gb112, _, none⟩) NB101_112.out _).trans (hHeld.2.2.1)), ((cell_far (p := ⟨gb112, _, none⟩) NB101_112.out _).trans (hHeld.2.2.2.1)), ((cell_far (p := ⟨gb112, _, none⟩) NB101_112.out _).trans (hHeld.2.2.2.2.1)), ((cell_far (p := ⟨gb112, _, none⟩) NB101_112.out _).trans (hHeld.2.2.2.2.2.1)), ((cell_far (p := ⟨gb112, _, none⟩) NB102_112.out _).trans (hHeld.2.2.2.2.2.2.1)), ((cell_far (p := ⟨gb112, _, none⟩) NB102_112.out _).trans (hHeld.2.2.2.2.2.2.2.1)), ((cell_far (p := ⟨gb112, _, none⟩) NB102_112.out _).trans (hHeld.2.2.2.2.2.2.2.2.1)), ((cell_far (p := ⟨gb112, _, none⟩) NB102_112.out _).trans (hHeld.2.2.2.2.2.2.2.2.2.1)), ((cell_far (p := ⟨gb112, _, none⟩) NB102_112.out _).trans (hHeld.2.2.2.2.2.2.2.2.2.2.1)), ((cell_far (p := ⟨gb112, _, none⟩) NB102_112.out _).trans (hHeld.2.2.2.2.2.2.2.2.2.2.2))⟩ (fun hHeld => ?_)
             clear hK K
             refine pA 12 60 HT_ ?_
             refine one_ (i := 13) (N := none) #[true, true, true, true, true, true, true, true, true, true, true, true, true, true] rfl rfl (one_of HT_.out (by kernel_rfl)) (by decide) (fun K hK => ?_)
             have hs126 : w124.cell? ⟨gb112, 3, none⟩ = some (.int .i64 t107) := (blk_cell BK112.out 3).trans rfl
             have hfs126 := blk_frozen BK112.out 3
             have hns126_0 := NB101_112.out
             have hns126_1 := NB102_112.out
             have hns126_2 := NB103_112.out
             have hms126_0 := NB112_101.out
             have hms126_1 := NB112_102.out
             have hms126_2 := NB112_103.out
             refine skip_ (w1 := ?_) (by rfl) rfl ?_ ?_
             rotate_left
             · go_simp
               rfl
             refine hK.out _ _ ⟨((cell_far (p := ⟨gb112, _, none⟩) NB101_112.out _).trans (hHeld.1)), ((cell_far (p := ⟨gb112, _, none⟩) NB101_112.out _).trans (hHeld.2.1)), ((cell_far (p := ⟨gb112, _, none⟩) NB101_112.out _).trans (hHeld.2.2.1)), ((cell_far (p := ⟨gb112, _, none⟩) NB101_112.out _).trans (hHeld.2.2.2.1)), ((cell_far (p := ⟨gb112, _, none⟩) NB101_112.out _).trans (hHeld.2.2.2.2.1)), ((cell_far (p := ⟨gb112, _, none⟩) NB101_112.out _).trans (hHeld.2.2.2.2.2.1)), ((cell_far (p := ⟨gb112, _, none⟩) NB102_112.out _).trans (hHeld.2.2.2.2.2.2.1)), ((cell_far (p := ⟨gb112, _, none⟩) NB102_112.out _).trans (hHeld.2.2.2.2.2.2.2.1)), ((cell_far (p := ⟨gb112, _, none⟩) NB102_112.out _).trans (hHeld.2.2.2.2.2.2.2.2.1)), ((cell_far (p := ⟨gb112, _, none⟩) NB102_112.out _).trans (hHeld.2.2.2.2.2.2.2.2.2.1)), ((cell_far (p := ⟨gb112, _, none⟩) NB102_112.out _).trans (hHeld.2.2.2.2.2.2.2.2.2.2.1)), ((cell_far (p := ⟨gb112, _, none⟩) NB102_112.out _).trans (hHeld.2.2.2.2.2.2.2.2.2.2.2))⟩ (fun hHeld => ?_)
             clear hK K
             refine done_ (done_of HT_.out (by kernel_rfl)) ?_
             have hnb127 := NB112_103.out
             have hnc127 := NB103_112.out
             obtain ⟨hcz128_0, hcz128_1, hcz128_2, hcz128_3, hcz128_4, hcz128_5, hfz128_0, hfz128_1, hfz128_2, hfz128_3, hfz128_4, hfz128_5⟩ := cellsZ6 BK112.out
             obtain ⟨hcz129_0, hcz129_1, hcz129_2, hcz129_3, hcz129_4, hcz129_5, hfz129_0, hfz129_1, hfz129_2, hfz129_3, hfz129_4, hfz129_5⟩ := cellsZ6 BK103.out
             obtain ⟨Ao130, co130, eo130⟩ := Kd.R_slice HO_113004.out
             subst eo130
             try go_wp2
             refine bodyPost_ret (results_cell_row rfl _ _ gb103 26 #[.int .i64 t113, .int .i64 t105, .int .i64 ji114, .int .i64 ji115, .slice Ao130 x113004_2.length co130, .bool true] (0, 0) _ rfl bkZ Try.underlying26 rfl (by kernel_rfl)) rfl ?_
             exact ⟨_, by first | rfl | (simp [errW_none, errW_some] <;> rfl) | (simp only [← hji114, ← hji115]; first | rfl | (simp [errW_none, errW_some] <;> rfl)) | (simp [*, errW_none, errW_some] <;> rfl), by (with_reducible repeat (first | apply Kd.R_alloc | apply Kd.R_drewN | apply Kd.R_drew)); exact Kd.R_mono (Kd.R_far (p := ⟨gb103, 5, none⟩) (Kd.R_far (p := ⟨gb103, 4, none⟩) (Kd.R_far (p := ⟨gb103, 3, none⟩) (Kd.R_far (p := ⟨gb103, 2, none⟩) (Kd.R_far (p := ⟨gb103, 1, none⟩) (Kd.R_far (p := ⟨gb103, 0, none⟩) (Kd.R_far (p := ⟨gb112, 3, none⟩) (Kd.R_far (p := ⟨gb112, 2, none⟩) (Kd.R_types (Kd.R_types HO_113004.out BK112.out (by decide)) BK103.out (by decide)) (fun _ hk => hk.1.2) (.int .i64 ji114)) (fun _ hk => hk.1.2) (.int .i64 ji115)) (fun _ hk => hk.2) (.int .i64 t113)) (fun _ hk => hk.2) (.int .i64 t105)) (fun _ hk => hk.2) (.int .i64 ji114)) (fun _ hk => hk.2) (.int .i64 ji115)) (fun _ hk => hk.2) (.slice Ao130 x113004_2.length co130)) (fun _ hk => hk.2) (.bool true)) (fun _ hk => trivial), zcb41⟩
           · replace c116 := Bool.eq_false_iff.mpr c116
             subst c116
             rw [if_neg (show ¬ (false = true) by decide)] at H
             simp only [Option.some.injEq, Prod.mk.injEq] at H
             obtain ⟨rfl, rfl, rfl, rfl, rfl, rfl⟩ := H
             have hnb131 := NB101_102.out
             have hnc131 := NB102_101.out
             have hnb132 := NB101_103.out
             have hnc132 := NB103_101.out
             have hnb133 := NB101_112.out
             have hnc133 := NB112_101.out
             obtain ⟨hcz134_0, hcz134_1, hcz134_2, hcz134_3, hcz134_4, hcz134_5, hfz134_0, hfz134_1, hfz134_2, hfz134_3, hfz134_4, hfz134_5⟩ := cellsZ6 BK101.out
             have hnb135 := NB102_103.out
             have hnc135 := NB103_102.out
             have hnb136 := NB102_112.out
             have hnc136 := NB112_102.out
             obtain ⟨hcz137_0, hcz137_1, hcz137_2, hcz137_3, hcz137_4, hcz137_5, hfz137_0, hfz137_1, hfz137_2, hfz137_3, hfz137_4, hfz137_5⟩ := cellsZ6 BK102.out
             try go_wp2
             have _ := aM (Kd.R_drew HO_113004.out)
             have _ := aM (blk_drew BK101.out)
             have _ := aM (blk_drew BK102.out)
             have _ := aM (blk_drew BK103.out)
             have _ := aM (blk_drew BK112.out)
             have _ := aM (below_drew1 HB.out)
             clear HO_113004
             clear BK101
             clear BK102
             clear BK103
             clear BK112
             clear HB
             rename_i HO_113004 BK101 BK102 BK103 BK112 HB
             refine sA 14 impl_joined.tab10 impl_joined.bits10 (fun w' => w'.cell? ⟨gb101, 0, none⟩ = some (.int .i64 a0_0) ∧ w'.cell? ⟨gb101, 1, none⟩ = some (.int .i64 a0_1) ∧ w'.cell? ⟨gb101, 2, none⟩ = some (.int .i64 a0_2) ∧ w'.cell? ⟨gb101, 3, none⟩ = some (.int .i64 a0_3) ∧ w'.cell? ⟨gb101, 4, none⟩ = some (.slice A0_4 l0_4.length c0_4) ∧ w'.cell? ⟨gb101, 5, none⟩ = some (.bool a0_5) ∧ w'.cell? ⟨gb102, 0, none⟩ = some (.int .i64 a1_0) ∧ w'.cell? ⟨gb102, 1, none⟩ = some (.int .i64 a1_1) ∧ w'.cell? ⟨gb102, 2, none⟩ = some (.int .i64 a1_2) ∧ w'.cell? ⟨gb102, 3, none⟩ = some (.int .i64 a1_3) ∧ w'.cell? ⟨gb102, 4, none⟩ = some (.slice A1_4 l1_4.length c1_4) ∧ w'.cell? ⟨gb102, 5, none⟩ = some (.bool a1_5)) [] (fun hHeld HT_ HW_ => ?_)
             generalize wr.drew = w138 at HO_113004 BK101 BK102 BK103 BK112 HB hHeld ⊢
             refine pA 0 49 HT_ ?_; refine pA 2 51 HT_ ?_; refine pA 5 54 HT_ ?_; refine pA 7 56 HT_ ?_; refine tA 1 50 HT_ HW_ hHeld ?_; refine tA 3 52 HT_ HW_ hHeld ?_; refine pA 4 53 HT_ ?_; refine pA 10 59 HT_ ?_; refine tA 6 55 HT_ HW_ hHeld ?_; refine tA 8 57 HT_ HW_ hHeld ?_; refine pA 9 58 HT_ ?_
             refine one_ (i := 11) (N := none) #[true, true, true, true, true, true, true, true, true, true, true, true, false, false] rfl rfl (one_of HT_.out (by kernel_rfl)) (by decide) (fun K hK => ?_)
             have hs139 : w138.cell? ⟨gb112, 2, none⟩ = some (.int .i64 t106) := (blk_cell BK112.out 2).trans rfl
             have hfs139 := blk_frozen BK112.out 2
             have hns139_0 := NB101_112.out
             have hns139_1 := NB102_112.out
             have hns139_2 := NB103_112.out
             have hms139_0 := NB112_101.out
             have hms139_1 := NB112_102.out
             have hms139_2 := NB112_103.out
             refine skip_ (w1 := ?_) (by rfl) rfl ?_ ?_
             rotate_left
             · go_simp
               rfl
             refine hK.out _ _ ⟨((cell_far (p := ⟨gb112, _, none⟩) NB101_112.out _).trans (hHeld.1)), ((cell_far (p := ⟨gb112, _, none⟩) NB101_112.out _).trans (hHeld.2.1)), ((cell_far (p := ⟨gb112, _, none⟩) NB101_112.out _).trans (hHeld.2.2.1)), ((cell_far (p := ⟨gb112, _, none⟩) NB101_112.out _).trans (hHeld.2.2.2.1)), ((cell_far (p := ⟨gb112, _, none⟩) NB101_112.out _).trans (hHeld.2.2.2.2.1)), ((cell_far (p := ⟨gb112, _, none⟩) NB101_112.out _).trans (hHeld.2.2.2.2.2.1)), ((cell_far (p := ⟨gb112, _, none⟩) NB102_112.out _).trans (hHeld.2.2.2.2.2.2.1)), ((cell_far (p := ⟨gb112, _, none⟩) NB102_112.out _).trans (hHeld.2.2.2.2.2.2.2.1)), ((cell_far (p := ⟨gb112, _, none⟩) NB102_112.out _).trans (hHeld.2.2.2.2.2.2.2.2.1)), ((cell_far (p := ⟨gb112, _, none⟩) NB102_112.out _).trans (hHeld.2.2.2.2.2.2.2.2.2.1)), ((cell_far (p := ⟨gb112, _, none⟩) NB102_112.out _).trans (hHeld.2.2.2.2.2.2.2.2.2.2.1)), ((cell_far (p := ⟨gb112, _, none⟩) NB102_112.out _).trans (hHeld.2.2.2.2.2.2.2.2.2.2.2))⟩ (fun hHeld => ?_)
             clear hK K
             refine pA 12 60 HT_ ?_
             refine one_ (i := 13) (N := none) #[true, true, true, true, true, true, true, true, true, true, true, true, true, true] rfl rfl (one_of HT_.out (by kernel_rfl)) (by decide) (fun K hK => ?_)
             have hs140 : w138.cell? ⟨gb112, 3, none⟩ = some (.int .i64 t107) := (blk_cell BK112.out 3).trans rfl
             have hfs140 := blk_frozen BK112.out 3
             have hns140_0 := NB101_112.out
             have hns140_1 := NB102_112.out
             have hns140_2 := NB103_112.out
             have hms140_0 := NB112_101.out
             have hms140_1 := NB112_102.out
             have hms140_2 := NB112_103.out
             refine skip_ (w1 := ?_) (by rfl) rfl ?_ ?_
             rotate_left
             · go_simp
               rfl
             refine hK.out _ _ ⟨((cell_far (p := ⟨gb112, _, none⟩) NB101_112.out _).trans (hHeld.1)), ((cell_far (p := ⟨gb112, _, none⟩) NB101_112.out _).trans (hHeld.2.1)), ((cell_far (p := ⟨gb112, _, none⟩) NB101_112.out _).trans (hHeld.2.2.1)), ((cell_far (p := ⟨gb112, _, none⟩) NB101_112.out _).trans (hHeld.2.2.2.1)), ((cell_far (p := ⟨gb112, _, none⟩) NB101_112.out _).trans (hHeld.2.2.2.2.1)), ((cell_far (p := ⟨gb112, _, none⟩) NB101_112.out _).trans (hHeld.2.2.2.2.2.1)), ((cell_far (p := ⟨gb112, _, none⟩) NB102_112.out _).trans (hHeld.2.2.2.2.2.2.1)), ((cell_far (p := ⟨gb112, _, none⟩) NB102_112.out _).trans (hHeld.2.2.2.2.2.2.2.1)), ((cell_far (p := ⟨gb112, _, none⟩) NB102_112.out _).trans (hHeld.2.2.2.2.2.2.2.2.1)), ((cell_far (p := ⟨gb112, _, none⟩) NB102_112.out _).trans (hHeld.2.2.2.2.2.2.2.2.2.1)), ((cell_far (p := ⟨gb112, _, none⟩) NB102_112.out _).trans (hHeld.2.2.2.2.2.2.2.2.2.2.1)), ((cell_far (p := ⟨gb112, _, none⟩) NB102_112.out _).trans (hHeld.2.2.2.2.2.2.2.2.2.2.2))⟩ (fun hHeld => ?_)
             clear hK K
             refine done_ (done_of HT_.out (by kernel_rfl)) ?_
             have hnb141 := NB112_103.out
             have hnc141 := NB103_112.out
             obtain ⟨hcz142_0, hcz142_1, hcz142_2, hcz142_3, hcz142_4, hcz142_5, hfz142_0, hfz142_1, hfz142_2, hfz142_3, hfz142_4, hfz142_5⟩ := cellsZ6 BK112.out
             obtain ⟨hcz143_0, hcz143_1, hcz143_2, hcz143_3, hcz143_4, hcz143_5, hfz143_0, hfz143_1, hfz143_2, hfz143_3, hfz143_4, hfz143_5⟩ := cellsZ6 BK101.out
             obtain ⟨hcz144_0, hcz144_1, hcz144_2, hcz144_3, hcz144_4, hcz144_5, hfz144_0, hfz144_1, hfz144_2, hfz144_3, hfz144_4, hfz144_5⟩ := cellsZ6 BK102.out
             obtain ⟨hcz145_0, hcz145_1, hcz145_2, hcz145_3, hcz145_4, hcz145_5, hfz145_0, hfz145_1, hfz145_2, hfz145_3, hfz145_4, hfz145_5⟩ := cellsZ6 BK103.out
             obtain ⟨Ao146, co146, eo146⟩ := Kd.R_slice HO_113004.out
             subst eo146
             try go_wp2
             refine bodyPost_ret (results_cell_row rfl _ _ gb103 26 #[.int .i64 t113, .int .i64 (wrap64 (a0_1 + a1_1)), .int .i64 ji114, .int .i64 ji115, .slice Ao146 x113004_2.length co146, .bool false] (0, 0) _ rfl bkZ Try.underlying26 rfl (by kernel_rfl)) rfl ?_
             exact ⟨_, by first | rfl | (simp [errW_none, errW_some] <;> rfl) | (simp only [← hji114, ← hji115]; first | rfl | (simp [errW_none, errW_some] <;> rfl)) | (simp [*, errW_none, errW_some] <;> rfl), by (with_reducible repeat (first | apply Kd.R_alloc | apply Kd.R_drewN | apply Kd.R_drew)); exact Kd.R_mono (Kd.R_far (p := ⟨gb103, 5, none⟩) (Kd.R_far (p := ⟨gb103, 4, none⟩) (Kd.R_far (p := ⟨gb103, 3, none⟩) (Kd.R_far (p := ⟨gb103, 2, none⟩) (Kd.R_far (p := ⟨gb103, 1, none⟩) (Kd.R_far (p := ⟨gb103, 0, none⟩) (Kd.R_far (p := ⟨gb112, 1, none⟩) (Kd.R_far (p := ⟨gb112, 3, none⟩) (Kd.R_far (p := ⟨gb112, 2, none⟩) (Kd.R_types (Kd.R_types HO_113004.out BK112.out (by decide)) BK103.out (by decide)) (fun _ hk => hk.1.2) (.int .i64 ji114)) (fun _ hk => hk.1.2) (.int .i64 ji115)) (fun _ hk => hk.1.2) (.int .i64 (wrap64 (a0_1 + a1_1)))) (fun _ hk => hk.2) (.int .i64 t113)) (fun _ hk => hk.2) (.int .i64 (wrap64 (a0_1 + a1_1)))) (fun _ hk => hk.2) (.int .i64 ji114)) (fun _ hk => hk.2) (.int .i64 ji115)) (fun _ hk => hk.2) (.slice Ao146 x113004_2.length co146)) (fun _ hk => hk.2) (.bool false)) (fun _ hk => trivial), zcb41⟩

end Go.Proofs.Ytdkokfnnebdppaa.P

-- written by a program of this session's (wip/pp)
namespace Go.Proofs.Ytdkokfnnebdppaa.P
open Go.RowKit Go.Proofs.YtdkokfnnebdppaaW.PrintWords Go.Proofs.YtdkokfnnebdppaaW.PrintLast Go.Proofs.YtdkokfnnebdppaaW.PrintMore
attribute [local go_sem] max2_int min2_int max_two min_two max_three min_three max_four min_four str_geq str_gtr str_leq   -- for this text's walks alone
set_option linter.unusedVariables false
set_option linter.unusedSimpArgs false

/-! ### impl_fold_1: function 70 -/
def impl_fold_1.f (a0_0 : ByteArray) (a0_1 : Int) (a0_2 : Int) (a0_3 : Int) (a0_4 : Int) (a0_5 : Int) (a0_6 : Int) (l0_7 : List Int) (a0_8 : Bool) : Option (Bool) := some (a0_2 != 3)
set_option maxHeartbeats 8000000 in
set_option maxRecDepth 100000 in
theorem impl_fold_1.calls (a0_0 : ByteArray) (a0_1 : Int) (a0_2 : Int) (a0_3 : Int) (a0_4 : Int) (a0_5 : Int) (a0_6 : Int) (A0_7 : Option Addr) (c0_7 : Nat) (l0_7 : List Int) (a0_8 : Bool) (r : Bool) (w : World) (hr0_7 : Kd.C (Kd.int .i64) w A0_7 l0_7.length l0_7) (hc0_7 : l0_7.length ≤ c0_7) (h : impl_fold_1.f a0_0 a0_1 a0_2 a0_3 a0_4 a0_5 a0_6 l0_7 a0_8 = some r) :
 Calls Try.prog 70 #[.agg #[.string a0_0, .int .i64 a0_1, .int .i64 a0_2, .int .i64 a0_3, .int .i64 a0_4, .int .i64 a0_5, .int .i64 a0_6, .slice A0_7 l0_7.length c0_7, .bool a0_8]] w fun e w' => e = .returned (.bool r) ∧ Below w.heap.size w w' := by
 have hu45 := Try.underlying45
 have HR0_7 := aM hr0_7
 have HC0_7 := aM hc0_7
 clear hr0_7 hc0_7
 have HB := aM (Below.refl w.heap.size w)
 have H : (some (a0_2 != 3)) = some r := h
 clear h
 obtain rfl := Option.some.inj H
 go_enter Try.func70, Try.ntmps70
 go_wp2_with (first | ((with_reducible refine gate_dst (N := 1) rfl ?_); refine box_event ?hg (N := 1) ?hd (cs := #[.string a0_0, .int .i64 a0_1, .int .i64 a0_2, .int .i64 a0_3, .int .i64 a0_4, .int .i64 a0_5, .int .i64 a0_6, .slice A0_7 l0_7.length c0_7, .bool a0_8]) (t := 45) ?hr ?_; (case hd => rfl); (case hg => rfl); (case hr => first | (go_simp; done) | (go_simp; rfl)); intro gb101 hg w2 hbox hb; have _ := aM (below_step hbZ hb); have _ := aM hbox; have _ := szZ hg; have _ := szZ hg; clear HB; rename_i HB BK101 GW101 GE101; clear hb hbox hg; obtain ⟨hcz3_0, hcz3_1, hcz3_2, hcz3_3, hcz3_4, hcz3_5, hcz3_6, hcz3_7, hcz3_8, hfz3_0, hfz3_1, hfz3_2, hfz3_3, hfz3_4, hfz3_5, hfz3_6, hfz3_7, hfz3_8⟩ := cellsZ9 BK101.out))
 go_ret
 exact ⟨z674d, zcb41⟩

end Go.Proofs.Ytdkokfnnebdppaa.P

-- written by a program of this session's (wip/pp)
namespace Go.Proofs.Ytdkokfnnebdppaa.P
open Go.RowKit Go.Proofs.YtdkokfnnebdppaaW.PrintWords Go.Proofs.YtdkokfnnebdppaaW.PrintLast Go.Proofs.YtdkokfnnebdppaaW.PrintMore
attribute [local go_sem] max2_int min2_int max_two min_two max_three min_three max_four min_four str_geq str_gtr str_leq   -- for this text's walks alone
set_option linter.unusedVariables false
set_option linter.unusedSimpArgs false

/-! ### impl_Entry_with_impl_fold_1: function 10069070 -/
def impl_Entry_with_impl_fold_1.l0 : Nat → List (S45) → Int → Int → Option (Int)
 | 0, _, _, _ => none
 | k + 1, x0, x7, x8 => if x8 < x7 then (if 0 ≤ x8 then (if x8 < (x0.length : Int) then ((impl_fold_1.f ((rd_T45 x0 x8).f0) ((rd_T45 x0 x8).f1) ((rd_T45 x0 x8).f2) ((rd_T45 x0 x8).f3.f0) ((rd_T45 x0 x8).f3.f1) ((rd_T45 x0 x8).f3.f2) ((rd_T45 x0 x8).f3.f3) ((rd_T45 x0 x8).f3.f4) ((rd_T45 x0 x8).f3.f5)).bind fun t102 => (if t102 = true then (some x8) else (impl_Entry_with_impl_fold_1.l0 k x0 x7 (wrap64 (x8 + 1))))) else (none)) else (none)) else (some (-1))
def impl_Entry_with_impl_fold_1.f (k : Nat) (l0 : List (S45))  : Option (Int) := impl_Entry_with_impl_fold_1.l0 k l0 (l0.length : Int) 0
theorem impl_Entry_with_impl_fold_1.mono_l : ∀ k, (∀ y0 y1 y2, LeO (impl_Entry_with_impl_fold_1.l0 k y0 y1 y2) (impl_Entry_with_impl_fold_1.l0 (k + 1) y0 y1 y2))
 | 0 => fun _ _ _ r h => by simp [impl_Entry_with_impl_fold_1.l0] at h
 | k + 1 => by
  have ih0 := impl_Entry_with_impl_fold_1.mono_l k
  · intro y0 y1 y2
    unfold impl_Entry_with_impl_fold_1.l0
    repeat' first
     | (with_reducible first | exact ih0 .. | exact LeO.refl _ | exact LeO.none _ | refine LeO.ite ?_ ?_ | refine LeO.bind ?_ (fun _ => ?_))
     | exact LeO.none _
     | refine LeO.ite ?_ ?_
     | refine LeO.bind ?_ (fun _ => ?_)
theorem impl_Entry_with_impl_fold_1.mono : ∀ a0 k, LeO (impl_Entry_with_impl_fold_1.f k a0) (impl_Entry_with_impl_fold_1.f (k + 1) a0) := by
 intro a0 k
 have ih0 := impl_Entry_with_impl_fold_1.mono_l k
 unfold impl_Entry_with_impl_fold_1.f
 repeat' first
  | (with_reducible first | exact ih0 .. | exact LeO.refl _ | exact LeO.none _ | refine LeO.ite ?_ ?_ | refine LeO.bind ?_ (fun _ => ?_))
  | exact LeO.none _
  | refine LeO.ite ?_ ?_
  | refine LeO.bind ?_ (fun _ => ?_)
set_option maxHeartbeats 8000000 in
set_option maxRecDepth 100000 in
theorem impl_Entry_with_impl_fold_1.calls (k : Nat) (A0 : Option Addr) (c0 : Nat) (l0 : List (S45))  (r : Int) (w : World) (hr0 : Kd.C k45 w A0 l0.length l0) (hc0 : l0.length ≤ c0) (h : impl_Entry_with_impl_fold_1.f k l0 = some r) :
 Calls Try.prog 69 #[.slice A0 l0.length c0, .func (.func 70) #[] #[]] w fun e w' => e = .returned (.int .i64 r) ∧ Below w.heap.size w w' := by
 have hu45 := Try.underlying45
 have HR0 := aM hr0
 have HC0 := aM hc0
 clear hr0 hc0
 have HB := aM (Below.refl w.heap.size w)
 have H : (impl_Entry_with_impl_fold_1.l0 k l0 (l0.length : Int) 0) = some r := h
 clear h
 have H' := aM H
 clear H
 go_enter Try.func69, Try.ntmps69
 go_wp2
 go_loopg [8] k (fun kq v8 w' => ∃ (x8_1 : Int), v8 = .int .i64 x8_1 ∧ Aside0 (impl_Entry_with_impl_fold_1.l0 kq l0 (l0.length : Int) x8_1 = some r) ∧ Aside0 (kq ≤ k) ∧ Aside0 (Below w.heap.size w w'))
 case atStart => exact ⟨(0), z4458, H', ⟨Nat.le_refl _⟩, ⟨z5acd⟩⟩
 case round =>
  clear H'
  try clear p2
  obtain ⟨x8_1, rfl, HA, HK1, HB⟩ := hrel
  cases gk with
  | zero => exact absurd HA.out (by simp [impl_Entry_with_impl_fold_1.l0])
  | succ k1 =>
   have H := HA.out
   clear HA
   simp only [impl_Entry_with_impl_fold_1.l0] at H
   by_cases c3 : x8_1 < (l0.length : Int)
   · rw [if_pos c3] at H
     have c3b0 : decide (x8_1 < (l0.length : Int)) = true := decide_eq_true c3
     clear c3
     replace H := ifS H; obtain ⟨c4, H⟩ := H
     have c4b0 : decide (0 ≤ x8_1) = true := decide_eq_true c4
     clear c4
     replace H := ifS H; obtain ⟨c5, H⟩ := H
     have c5b0 : decide (x8_1 < (l0.length : Int)) = true := decide_eq_true c5
     clear c5
     replace H := Option.bind_eq_some_iff.mp H
     obtain ⟨t102, A60, H⟩ := H
     try dsimp only at H
     have A6 := aM A60
     clear A60
     by_cases c7 : t102 = true
     · subst c7
       rw [if_pos rfl] at H
       obtain rfl := Option.some.inj H
       have p101 : 0 ≤ (x8_1 : Int) := of_decide_eq_true z1200
       have q101 : x8_1 < (l0.length : Int) := of_decide_eq_true z1200
       obtain ⟨ad101, A101_7, c101_7, e101, hx101_0, hx101_1, hx101_2, hx101_3, hx101_4, hx101_5, hx101_6, hx101_7, hx101_8, hl101_7, hi101_7⟩ := at_T45 HR0.out x8_1 p101 q101
       cases e101
       have TW101_7 := aM hx101_7
       replace hx101_0 := (HB.out.cell (World.block_lt_of_cell? w _ hx101_0)).trans hx101_0
       replace hx101_1 := (HB.out.cell (World.block_lt_of_cell? w _ hx101_1)).trans hx101_1
       replace hx101_2 := (HB.out.cell (World.block_lt_of_cell? w _ hx101_2)).trans hx101_2
       replace hx101_3 := (HB.out.cell (World.block_lt_of_cell? w _ hx101_3)).trans hx101_3
       replace hx101_4 := (HB.out.cell (World.block_lt_of_cell? w _ hx101_4)).trans hx101_4
       replace hx101_5 := (HB.out.cell (World.block_lt_of_cell? w _ hx101_5)).trans hx101_5
       replace hx101_6 := (HB.out.cell (World.block_lt_of_cell? w _ hx101_6)).trans hx101_6
       replace hx101_7 := (HB.out.cell (World.block_lt_of_cell? w _ hx101_7)).trans hx101_7
       replace hx101_8 := (HB.out.cell (World.block_lt_of_cell? w _ hx101_8)).trans hx101_8
       have HR101_7 := aM hi101_7
       have HC101_7 := aM hl101_7
       clear hi101_7 hl101_7
       replace p101 := eq_true p101
       replace q101 := eq_true q101
       go_wp2_with (first | (go_at_call 70; (with_reducible refine (impl_fold_1.calls ((rd_T45 l0 x8_1).f0) ((rd_T45 l0 x8_1).f1) ((rd_T45 l0 x8_1).f2) ((rd_T45 l0 x8_1).f3.f0) ((rd_T45 l0 x8_1).f3.f1) ((rd_T45 l0 x8_1).f3.f2) ((rd_T45 l0 x8_1).f3.f3) _ _ ((rd_T45 l0 x8_1).f3.f4) ((rd_T45 l0 x8_1).f3.f5) true _ ?side1 ?side2 A6.out).mono ?_); (case side1 => exact (cZ (Kd.C_below HR101_7.out HB.out))); (case side2 => exact HC101_7.out); rintro e w8 ⟨rfl, hb⟩; have _ := aM (below_step hbZ hb); clear HB; rename_i HB; (try clear hb)))
       go_ret
       exact ⟨z674d, z5acd⟩
     · replace c7 := Bool.eq_false_iff.mpr c7
       subst c7
       rw [if_neg (show ¬ (false = true) by decide)] at H
       have H' := aM H
       clear H
       have p101 : 0 ≤ (x8_1 : Int) := of_decide_eq_true z1200
       have q101 : x8_1 < (l0.length : Int) := of_decide_eq_true z1200
       obtain ⟨ad101, A101_7, c101_7, e101, hx101_0, hx101_1, hx101_2, hx101_3, hx101_4, hx101_5, hx101_6, hx101_7, hx101_8, hl101_7, hi101_7⟩ := at_T45 HR0.out x8_1 p101 q101
       cases e101
       have TW101_7 := aM hx101_7
       replace hx101_0 := (HB.out.cell (World.block_lt_of_cell? w _ hx101_0)).trans hx101_0
       replace hx101_1 := (HB.out.cell (World.block_lt_of_cell? w _ hx101_1)).trans hx101_1
       replace hx101_2 := (HB.out.cell (World.block_lt_of_cell? w _ hx101_2)).trans hx101_2
       replace hx101_3 := (HB.out.cell (World.block_lt_of_cell? w _ hx101_3)).trans hx101_3
       replace hx101_4 := (HB.out.cell (World.block_lt_of_cell? w _ hx101_4)).trans hx101_4
       replace hx101_5 := (HB.out.cell (World.block_lt_of_cell? w _ hx101_5)).trans hx101_5
       replace hx101_6 := (HB.out.cell (World.block_lt_of_cell? w _ hx101_6)).trans hx101_6
       replace hx101_7 := (HB.out.cell (World.block_lt_of_cell? w _ hx101_7)).trans hx101_7
       replace hx101_8 := (HB.out.cell (World.block_lt_of_cell? w _ hx101_8)).trans hx101_8
       have HR101_7 := aM hi101_7
       have HC101_7 := aM hl101_7
       clear hi101_7 hl101_7
       replace p101 := eq_true p101
       replace q101 := eq_true q101
       go_wp2_with (first | (go_at_call 70; (with_reducible refine (impl_fold_1.calls ((rd_T45 l0 x8_1).f0) ((rd_T45 l0 x8_1).f1) ((rd_T45 l0 x8_1).f2) ((rd_T45 l0 x8_1).f3.f0) ((rd_T45 l0 x8_1).f3.f1) ((rd_T45 l0 x8_1).f3.f2) ((rd_T45 l0 x8_1).f3.f3) _ _ ((rd_T45 l0 x8_1).f3.f4) ((rd_T45 l0 x8_1).f3.f5) false _ ?side1 ?side2 A6.out).mono ?_); (case side1 => exact (cZ (Kd.C_below HR101_7.out HB.out))); (case side2 => exact HC101_7.out); rintro e w9 ⟨rfl, hb⟩; have _ := aM (below_step hbZ hb); clear HB; rename_i HB; (try clear hb)))
       go_roundg k1
       case measure => have := HK1.out; omega
       case rel => exact ⟨(wrap64 (x8_1 + 1)), z4458, H', ⟨zfb39⟩, ⟨z5acd⟩⟩
   · rw [if_neg c3] at H
     have c3b0 : decide (x8_1 < (l0.length : Int)) = false := decide_eq_false c3
     clear c3
     obtain rfl := Option.some.inj H
     go_wp2
     go_ret
     exact ⟨z674d, z5acd⟩

end Go.Proofs.Ytdkokfnnebdppaa.P

-- written by a program of this session's (wip/pp)
namespace Go.Proofs.Ytdkokfnnebdppaa.P
open Go.RowKit Go.Proofs.YtdkokfnnebdppaaW.PrintWords Go.Proofs.YtdkokfnnebdppaaW.PrintLast Go.Proofs.YtdkokfnnebdppaaW.PrintMore
attribute [local go_sem] max2_int min2_int max_two min_two max_three min_three max_four min_four str_geq str_gtr str_leq   -- for this text's walks alone
set_option linter.unusedVariables false
set_option linter.unusedSimpArgs false

/-! ### impl_fold: function 35 -/
mutual
def impl_fold.j0 : Nat → List (S45) → Int → Option (Int × Int × Int × Int × List Int × Bool × Bool)
 | 0, _, _ => none
 | k + 1, x0, x4 => (impl_noAgg.f).bind fun bt103 => (if x4 < (x0.length : Int) then (if 0 ≤ x4 then (impl_fold.j1 k x0 x4 (((rd_T45 x0 x4).f2) == 1) bt103.1 bt103.2.1 bt103.2.2.1 bt103.2.2.2.1 bt103.2.2.2.2.1 bt103.2.2.2.2.2) else (none)) else (impl_fold.j1 k x0 x4 false bt103.1 bt103.2.1 bt103.2.2.1 bt103.2.2.2.1 bt103.2.2.2.2.1 bt103.2.2.2.2.2))
def impl_fold.j2 : Nat → List (S45) → Int → Int → Int → Int → Int → List Int → Bool → Option (Int × Int × Int × Int × List Int × Bool × Bool)
 | 0, _, _, _, _, _, _, _, _ => none
 | k + 1, x0, x4, x112000, x112001, x112002, x112003, x112004, x112005 => impl_fold.l0 k x0 (wrap64 (x4 - 1)) x112000 x112001 x112002 x112003 x112004 x112005
def impl_fold.l0 : Nat → List (S45) → Int → Int → Int → Int → Int → List Int → Bool → Option (Int × Int × Int × Int × List Int × Bool × Bool)
 | 0, _, _, _, _, _, _, _, _ => none
 | k + 1, x0, x6, x112000, x112001, x112002, x112003, x112004, x112005 => if x6 ≥ 0 then (if 0 ≤ x6 then (if x6 < (x0.length : Int) then ((impl_joined.f k x112000 x112001 x112002 x112003 x112004 x112005 ((rd_T45 x0 x6).f3.f0) ((rd_T45 x0 x6).f3.f1) ((rd_T45 x0 x6).f3.f2) ((rd_T45 x0 x6).f3.f3) ((rd_T45 x0 x6).f3.f4) ((rd_T45 x0 x6).f3.f5)).bind fun bt126 => (impl_fold.l0 k x0 (wrap64 (x6 - 1)) bt126.1 bt126.2.1 bt126.2.2.1 bt126.2.2.2.1 bt126.2.2.2.2.1 bt126.2.2.2.2.2)) else (none)) else (none)) else (some (x112000, x112001, x112002, x112003, x112004, x112005, true))
def impl_fold.j1 : Nat → List (S45) → Int → Bool → Int → Int → Int → Int → List Int → Bool → Option (Int × Int × Int × Int × List Int × Bool × Bool)
 | 0, _, _, _, _, _, _, _, _, _ => none
 | k + 1, x0, x4, x14, x112000, x112001, x112002, x112003, x112004, x112005 => if x14 = true then (if 0 ≤ x4 then (if x4 < (x0.length : Int) then ((impl_Entry_cloned.f ((rd_T45 x0 x4).f0) ((rd_T45 x0 x4).f1) ((rd_T45 x0 x4).f2) ((rd_T45 x0 x4).f3.f0) ((rd_T45 x0 x4).f3.f1) ((rd_T45 x0 x4).f3.f2) ((rd_T45 x0 x4).f3.f3) ((rd_T45 x0 x4).f3.f4) ((rd_T45 x0 x4).f3.f5)).bind fun bt114 => (impl_fold.j2 k x0 x4 bt114.2.2.2.1 bt114.2.2.2.2.1 bt114.2.2.2.2.2.1 bt114.2.2.2.2.2.2.1 bt114.2.2.2.2.2.2.2.1 bt114.2.2.2.2.2.2.2.2)) else (none)) else (none)) else (if x4 = 0 then (some (0, 0, 0, 0, ([] : List Int), false, false)) else (impl_fold.j2 k x0 x4 x112000 x112001 x112002 x112003 x112004 x112005))
end
def impl_fold.f (k : Nat) (l0 : List (S45)) : Option (Int × Int × Int × Int × List Int × Bool × Bool) := (impl_Entry_with_impl_fold_1.f k l0).bind fun t102 => (if t102 < 0 then (impl_fold.j0 k l0 (l0.length : Int)) else (impl_fold.j0 k l0 t102))
theorem impl_fold.mono_l : ∀ k, (∀ y0 y1, LeO (impl_fold.j0 k y0 y1) (impl_fold.j0 (k + 1) y0 y1)) ∧ (∀ y0 y1 y2 y3 y4 y5 y6 y7, LeO (impl_fold.j2 k y0 y1 y2 y3 y4 y5 y6 y7) (impl_fold.j2 (k + 1) y0 y1 y2 y3 y4 y5 y6 y7)) ∧ (∀ y0 y1 y2 y3 y4 y5 y6 y7, LeO (impl_fold.l0 k y0 y1 y2 y3 y4 y5 y6 y7) (impl_fold.l0 (k + 1) y0 y1 y2 y3 y4 y5 y6 y7)) ∧ (∀ y0 y1 y2 y3 y4 y5 y6 y7 y8, LeO (impl_fold.j1 k y0 y1 y2 y3 y4 y5 y6 y7 y8) (impl_fold.j1 (k + 1) y0 y1 y2 y3 y4 y5 y6 y7 y8))
 | 0 => ⟨fun _ _ r h => by simp [impl_fold.j0] at h, fun _ _ _ _ _ _ _ _ r h => by simp [impl_fold.j2] at h, fun _ _ _ _ _ _ _ _ r h => by simp [impl_fold.l0] at h, fun _ _ _ _ _ _ _ _ _ r h => by simp [impl_fold.j1] at h⟩
 | k + 1 => by
  obtain ⟨ih0, ih1, ih2, ih3⟩ := impl_fold.mono_l k
  refine ⟨?_, ?_, ?_, ?_⟩
  · intro y0 y1
    unfold impl_fold.j0
    repeat' first
     | (with_reducible first | exact ih0 .. | exact ih1 .. | exact ih2 .. | exact ih3 .. | exact impl_Entry_with_impl_fold_1.mono .. | exact impl_joined.mono .. | exact LeO.refl _ | exact LeO.none _ | refine LeO.ite ?_ ?_ | refine LeO.bind ?_ (fun _ => ?_))
     | exact LeO.none _
     | refine LeO.ite ?_ ?_
     | refine LeO.bind ?_ (fun _ => ?_)
  · intro y0 y1 y2 y3 y4 y5 y6 y7
    unfold impl_fold.j2
    repeat' first
     | (with_reducible first | exact ih0 .. | exact ih1 .. | exact ih2 .. | exact ih3 .. | exact impl_Entry_with_impl_fold_1.mono .. | exact impl_joined.mono .. | exact LeO.refl _ | exact LeO.none _ | refine LeO.ite ?_ ?_ | refine LeO.bind ?_ (fun _ => ?_))
     | exact LeO.none _
     | refine LeO.ite ?_ ?_
     | refine LeO.bind ?_ (fun _ => ?_)
  · intro y0 y1 y2 y3 y4 y5 y6 y7
    unfold impl_fold.l0
    repeat' first
     | (with_reducible first | exact ih0 .. | exact ih1 .. | exact ih2 .. | exact ih3 .. | exact impl_Entry_with_impl_fold_1.mono .. | exact impl_joined.mono .. | exact LeO.refl _ | exact LeO.none _ | refine LeO.ite ?_ ?_ | refine LeO.bind ?_ (fun _ => ?_))
     | exact LeO.none _
     | refine LeO.ite ?_ ?_
     | refine LeO.bind ?_ (fun _ => ?_)
  · intro y0 y1 y2 y3 y4 y5 y6 y7 y8
    unfold impl_fold.j1
    repeat' first
     | (with_reducible first | exact ih0 .. | exact ih1 .. | exact ih2 .. | exact ih3 .. | exact impl_Entry_with_impl_fold_1.mono .. | exact impl_joined.mono .. | exact LeO.refl _ | exact LeO.none _ | refine LeO.ite ?_ ?_ | refine LeO.bind ?_ (fun _ => ?_))
     | exact LeO.none _
     | refine LeO.ite ?_ ?_
     | refine LeO.bind ?_ (fun _ => ?_)
theorem impl_fold.mono : ∀ a0 k, LeO (impl_fold.f k a0) (impl_fold.f (k + 1) a0) := by
 intro a0 k
 obtain ⟨ih0, ih1, ih2, ih3⟩ := impl_fold.mono_l k
 unfold impl_fold.f
 repeat' first
  | (with_reducible first | exact ih0 .. | exact ih1 .. | exact ih2 .. | exact ih3 .. | exact impl_Entry_with_impl_fold_1.mono .. | exact impl_joined.mono .. | exact LeO.refl _ | exact LeO.none _ | refine LeO.ite ?_ ?_ | refine LeO.bind ?_ (fun _ => ?_))
  | exact LeO.none _
  | refine LeO.ite ?_ ?_
  | refine LeO.bind ?_ (fun _ => ?_)
def impl_fold.T12 : Bool × List (List Nat × List Nat) := (true, [([], []), ([], []), ([], []), ([1, 2], [1, 2]), ([3], [3]), ([4], [4]), ([0, 5], [0, 5]), ([6, 6, 0, 1, 2, 3, 4, 5, 6], [6])])
def impl_fold.B12 : List Nat := [0, 0, 0, 6, 14, 30, 63, 127]
theorem impl_fold.tab12 : rtab .any (opsOf Try.f35 12) = impl_fold.T12 := by kernel_rfl
theorem impl_fold.bits12 : waitsOk impl_fold.T12.2 impl_fold.B12 = true := by kernel_rfl
set_option maxHeartbeats 8000000 in
set_option maxRecDepth 100000 in
theorem impl_fold.calls (k : Nat) (A0 : Option Addr) (c0 : Nat) (l0 : List (S45)) (r1 : Int) (r2 : Int) (r3 : Int) (r4 : Int) (r5 : List Int) (r6 : Bool) (r7 : Bool) (w : World) (hr0 : Kd.C k45 w A0 l0.length l0) (hc0 : l0.length ≤ c0) (h : impl_fold.f k l0 = some (r1, r2, r3, r4, r5, r6, r7)) :
 Calls Try.prog 35 #[.slice A0 l0.length c0] w fun e w' => ∃ v4_ : Value, e = .returned (.tuple #[.agg #[.int .i64 r1, .int .i64 r2, .int .i64 r3, .int .i64 r4, v4_, .bool r6], .bool r7]) ∧ Kd.R (Kd.int .i64) 3 w' w.heap.size (fun _ => True) v4_ r5 ∧ Below w.heap.size w w' := by
 have hu26 := Try.underlying26
 have hu45 := Try.underlying45
 have HR0 := aM hr0
 have HC0 := aM hc0
 clear hr0 hc0
 have HB := aM (Below.refl w.heap.size w)
 have H : ((impl_Entry_with_impl_fold_1.f k l0).bind fun t102 => (if t102 < 0 then (impl_fold.j0 k l0 (l0.length : Int)) else (impl_fold.j0 k l0 t102))) = some (r1, r2, r3, r4, r5, r6, r7) := h
 clear h
 replace H := Option.bind_eq_some_iff.mp H
 obtain ⟨t102, A20, H⟩ := H
 try dsimp only at H
 have A2 := aM A20
 clear A20
 have HC3 := aM H
 clear H
 go_enter Try.func35, Try.ntmps35
 go_upto_if 10 with (first | ((with_reducible refine gate_dst (N := 2) rfl ?_); refine box_event ?hg (N := 2) ?hd (cs := #[.int .i64 0, .int .i64 0, .int .i64 0, .int .i64 0, .slice none 0 0, .bool false]) (t := 26) ?hr ?_; (case hd => rfl); (case hg => rfl); (case hr => first | (go_simp; done) | (go_simp; rfl)); intro gb101 hg w4 hbox hb; have _ := aM (below_step hbZ hb); have _ := aM hbox; have _ := szZ hg; have _ := szZ hg; clear HB; rename_i HB BK101 GW101 GE101; clear hb hbox hg) | ((with_reducible refine gate_callee (f := 69) rfl ?_); refine goesL_ (some 8) rfl rfl Try.func69 (by kernel_rfl) rfl #[.slice A0 l0.length c0, .func (.func 70) #[] #[]] rfl zee81 ?_; (with_reducible refine (impl_Entry_with_impl_fold_1.calls k _ _ l0  t102 _ ?side1 ?side2 A2.out).mono ?_); (case side1 => exact (cZ (Kd.C_below HR0.out HB.out))); (case side2 => exact HC0.out); rintro e w5 ⟨rfl, hb⟩; refine ⟨_, rfl, ?_⟩; have _ := bB gb101 hb; have _ := aM (below_step hbZ hb); clear BK101 HB; rename_i BK101 HB; (try clear hb)))
 (try simp only [Act.put, List.setIfInBounds_toArray, List.set_cons_zero, List.set_cons_succ])
 go_cut [4] (fun v4 wc => ∃ (kq : Nat) (x4_2 : Int), v4 = .int .i64 x4_2 ∧ Aside0 (impl_fold.j0 kq l0 x4_2 = some (r1, r2, r3, r4, r5, r6, r7)) ∧ Aside0 (kq ≤ k) ∧ Aside0 (wc.heap[gb101]? = some (.cells #[.int .i64 0, .int .i64 0, .int .i64 0, .int .i64 0, (.slice none 0 0), .bool false] 26 (0, 0))) ∧ Aside0 (Below w.heap.size w wc))
 case first =>
  have H := HC3.out
  clear HC3
  by_cases c6 : t102 < 0
  · rw [if_pos c6] at H
    have c6b0 : decide (t102 < 0) = true := decide_eq_true c6
    clear c6
    (first | rw [c6b0] | (simp only [i64_w, i32_w]; rw [c6b0]) | skip)
    have H' := aM H
    clear H
    go_wp2
    go_meet
    case rel => exact ⟨_, ((l0.length : Int)), z4458, H', ⟨zb79b⟩, ⟨bkZ⟩, ⟨zcb41⟩⟩
  · rw [if_neg c6] at H
    have c6b0 : decide (t102 < 0) = false := decide_eq_false c6
    clear c6
    (first | rw [c6b0] | (simp only [i64_w, i32_w]; rw [c6b0]) | skip)
    have H' := aM H
    clear H
    go_wp2
    go_meet
    case rel => exact ⟨_, (t102), z4458, H', ⟨zb79b⟩, ⟨bkZ⟩, ⟨zcb41⟩⟩
 case rest =>
  clear HC3
  try clear p2
  try clear c3
  try clear c6
  try clear c6b0
  obtain ⟨kq, x4_2, rfl, HA, HJ2, BK101, HB⟩ := hcut
  cases kq with
  | zero => exact absurd HA.out (by simp [impl_fold.j0])
  | succ kj2 =>
   have H := HA.out
   clear HA
   simp only [impl_fold.j0] at H
   replace H := Option.bind_eq_some_iff.mp H
   obtain ⟨⟨t103, t104, t105, t106, t107, t110⟩, A70, H⟩ := H
   try dsimp only at H
   have A7 := aM A70
   clear A70
   have HC8 := aM H
   clear H
   go_upto_block 0 with (first | ((with_reducible refine gate_callee (f := 71) rfl ?_); refine goesL_ (some 13) rfl rfl Try.func71 (by kernel_rfl) rfl #[] rfl zee81 ?_; (with_reducible refine (impl_noAgg.calls  t103 t104 t105 t106 t107 t110 _ A7.out).mono ?_); rintro e w9 ⟨v108, rfl, ho0, hb⟩; refine ⟨_, rfl, ?_⟩; have _ := aM (Kd.R_lower ho0 (below_size hbZ)); have _ := bB gb101 hb; have _ := aM (below_step hbZ hb); clear BK101 HB; rename_i HO109 BK101 HB; (try clear hb); (try clear ho0)) | ((with_reducible refine gate_dst (N := 5) rfl ?_); refine box_event ?hg (N := 5) ?hd (cs := #[.int .i64 0, .int .i64 0, .int .i64 0, .int .i64 0, .slice none 0 0, .bool false]) (t := 26) ?hr ?_; (case hd => rfl); (case hg => rfl); (case hr => first | (go_simp; done) | (go_simp; rfl)); intro gb111 hg w10 hbox hb; have _ := aM (Kd.R_below (rZ HO109.out) hb); have _ := bB gb101 hb; have _ := aM (below_step hbZ hb); have _ := aM hbox; have _ := szZ hg; have _ := szZ hg; have ⟨_, _⟩ := nbB gb101 hg; clear HO109 BK101 HB; rename_i HO109 BK101 HB BK111 GW111 GE111 NB101_111 NB111_101; clear hb hbox hg; have hnb11 := NB111_101.out; have hnc11 := NB101_111.out; obtain ⟨hcz12_0, hcz12_1, hcz12_2, hcz12_3, hcz12_4, hcz12_5, hfz12_0, hfz12_1, hfz12_2, hfz12_3, hfz12_4, hfz12_5⟩ := cellsZ6 BK111.out; obtain ⟨Ao13, co13, eo13⟩ := Kd.R_slice HO109.out; subst eo13))
   (try simp only [Act.put, List.setIfInBounds_toArray, List.set_cons_zero, List.set_cons_succ])
   go_cut [] (fun wc => ∃ (kq : Nat) (x102000_7 : Int) (x102001_7 : Int) (x102002_7 : Int) (x102003_7 : Int) (x102005_7 : Bool) (x112000_7 : Int) (x112001_7 : Int) (x112002_7 : Int) (x112003_7 : Int) (x112004_7 : List Int) (x112005_7 : Bool) (u112004 : Value), Aside0 (impl_fold.j2 kq l0 x4_2 x112000_7 x112001_7 x112002_7 x112003_7 x112004_7 x112005_7 = some (r1, r2, r3, r4, r5, r6, r7)) ∧ Aside0 (kq ≤ kj2) ∧ Aside0 (Kd.R (Kd.int .i64) 3 wc w.heap.size (fun _ => True) u112004 x112004_7) ∧ Aside0 (wc.heap[gb101]? = some (.cells #[.int .i64 x102000_7, .int .i64 x102001_7, .int .i64 x102002_7, .int .i64 x102003_7, (.slice none 0 0), .bool x102005_7] 26 (0, 0))) ∧ Aside0 (wc.heap[gb111]? = some (.cells #[.int .i64 x112000_7, .int .i64 x112001_7, .int .i64 x112002_7, .int .i64 x112003_7, u112004, .bool x112005_7] 26 (0, 0))) ∧ Aside0 (Below w.heap.size w wc))
   case first =>
    have H := HC8.out
    clear HC8
    have HC14 := aM H
    clear H
    go_upto_region 5 with (fail)
    go_cut [14] (fun v14 wc => ∃ (kq : Nat) (x14_13 : Bool), v14 = .bool x14_13 ∧ Aside0 (impl_fold.j1 kq l0 x4_2 x14_13 t103 t104 t105 t106 t107 t110 = some (r1, r2, r3, r4, r5, r6, r7)) ∧ Aside0 (kq ≤ kj2) ∧ Aside0 (Kd.R (Kd.int .i64) 3 wc w.heap.size (fun _ => True) (.slice Ao13 t107.length co13) t107) ∧ Aside0 (wc.heap[gb101]? = some (.cells #[.int .i64 0, .int .i64 0, .int .i64 0, .int .i64 0, (.slice none 0 0), .bool false] 26 (0, 0))) ∧ Aside0 (wc.heap[gb111]? = some (.cells #[.int .i64 t103, .int .i64 t104, .int .i64 t105, .int .i64 t106, (.slice Ao13 t107.length co13), .bool t110] 26 (0, 0))) ∧ Aside0 (Below w.heap.size w wc))
    case first =>
     have H := HC14.out
     clear HC14
     by_cases c15 : x4_2 < (l0.length : Int)
     · rw [if_pos c15] at H
       have c15b0 : decide (x4_2 < (l0.length : Int)) = true := decide_eq_true c15
       clear c15
       (first | rw [c15b0] | (simp only [i64_w, i32_w]; rw [c15b0]) | skip)
       replace H := ifS H; obtain ⟨c16, H⟩ := H
       have c16b0 : decide (0 ≤ x4_2) = true := decide_eq_true c16
       clear c16
       have H' := aM H
       clear H
       have p112 : 0 ≤ (x4_2 : Int) := of_decide_eq_true z1200
       have q112 : x4_2 < (l0.length : Int) := of_decide_eq_true z1200
       obtain ⟨ad112, A112_7, c112_7, e112, hx112_0, hx112_1, hx112_2, hx112_3, hx112_4, hx112_5, hx112_6, hx112_7, hx112_8, hl112_7, hi112_7⟩ := at_T45 HR0.out x4_2 p112 q112
       cases e112
       have hn112_0 : ad112.block ≠ gb111 := Nat.ne_of_lt (Nat.lt_of_lt_of_le (by have := World.block_lt_of_cell? _ _ hx112_0; first | rwa [add_block] at this | exact this) GW111.out)
       have hn112_1 : ad112.block ≠ gb111 := Nat.ne_of_lt (Nat.lt_of_lt_of_le (by have := World.block_lt_of_cell? _ _ hx112_0; first | rwa [add_block] at this | exact this) GW111.out)
       have hn112_2 : ad112.block ≠ gb111 := Nat.ne_of_lt (Nat.lt_of_lt_of_le (by have := World.block_lt_of_cell? _ _ hx112_0; first | rwa [add_block] at this | exact this) GW111.out)
       have hn112_3 : ad112.block ≠ gb111 := Nat.ne_of_lt (Nat.lt_of_lt_of_le (by have := World.block_lt_of_cell? _ _ hx112_0; first | rwa [add_block] at this | exact this) GW111.out)
       have hn112_4 : ad112.block ≠ gb111 := Nat.ne_of_lt (Nat.lt_of_lt_of_le (by have := World.block_lt_of_cell? _ _ hx112_0; first | rwa [add_block] at this | exact this) GW111.out)
       have hn112_5 : ad112.block ≠ gb111 := Nat.ne_of_lt (Nat.lt_of_lt_of_le (by have := World.block_lt_of_cell? _ _ hx112_0; first | rwa [add_block] at this | exact this) GW111.out)
       replace hx112_0 := (HB.out.cell (World.block_lt_of_cell? w _ hx112_0)).trans hx112_0
       replace hx112_1 := (HB.out.cell (World.block_lt_of_cell? w _ hx112_1)).trans hx112_1
       replace hx112_2 := (HB.out.cell (World.block_lt_of_cell? w _ hx112_2)).trans hx112_2
       replace hx112_3 := (HB.out.cell (World.block_lt_of_cell? w _ hx112_3)).trans hx112_3
       replace hx112_4 := (HB.out.cell (World.block_lt_of_cell? w _ hx112_4)).trans hx112_4
       replace hx112_5 := (HB.out.cell (World.block_lt_of_cell? w _ hx112_5)).trans hx112_5
       replace hx112_6 := (HB.out.cell (World.block_lt_of_cell? w _ hx112_6)).trans hx112_6
       replace hx112_7 := (HB.out.cell (World.block_lt_of_cell? w _ hx112_7)).trans hx112_7
       replace hx112_8 := (HB.out.cell (World.block_lt_of_cell? w _ hx112_8)).trans hx112_8
       have HR112_7 := aM hi112_7
       have HC112_7 := aM hl112_7
       clear hi112_7 hl112_7
       replace hx112_0 := (cell_far (p := ⟨gb111, 0, none⟩) (by first | (rw [add_block]; exact hn112_0) | (show (Addr.add _ _).block ≠ _; rw [add_block]; exact hn112_0) | exact hn112_0) (.int .i64 t103)).trans hx112_0
       replace hx112_1 := (cell_far (p := ⟨gb111, 0, none⟩) (by first | (rw [add_block]; exact hn112_0) | (show (Addr.add _ _).block ≠ _; rw [add_block]; exact hn112_0) | exact hn112_0) (.int .i64 t103)).trans hx112_1
       replace hx112_2 := (cell_far (p := ⟨gb111, 0, none⟩) (by first | (rw [add_block]; exact hn112_0) | (show (Addr.add _ _).block ≠ _; rw [add_block]; exact hn112_0) | exact hn112_0) (.int .i64 t103)).trans hx112_2
       replace hx112_3 := (cell_far (p := ⟨gb111, 0, none⟩) (by first | (rw [add_block]; exact hn112_0) | (show (Addr.add _ _).block ≠ _; rw [add_block]; exact hn112_0) | exact hn112_0) (.int .i64 t103)).trans hx112_3
       replace hx112_4 := (cell_far (p := ⟨gb111, 0, none⟩) (by first | (rw [add_block]; exact hn112_0) | (show (Addr.add _ _).block ≠ _; rw [add_block]; exact hn112_0) | exact hn112_0) (.int .i64 t103)).trans hx112_4
       replace hx112_5 := (cell_far (p := ⟨gb111, 0, none⟩) (by first | (rw [add_block]; exact hn112_0) | (show (Addr.add _ _).block ≠ _; rw [add_block]; exact hn112_0) | exact hn112_0) (.int .i64 t103)).trans hx112_5
       replace hx112_6 := (cell_far (p := ⟨gb111, 0, none⟩) (by first | (rw [add_block]; exact hn112_0) | (show (Addr.add _ _).block ≠ _; rw [add_block]; exact hn112_0) | exact hn112_0) (.int .i64 t103)).trans hx112_6
       replace hx112_7 := (cell_far (p := ⟨gb111, 0, none⟩) (by first | (rw [add_block]; exact hn112_0) | (show (Addr.add _ _).block ≠ _; rw [add_block]; exact hn112_0) | exact hn112_0) (.int .i64 t103)).trans hx112_7
       replace hx112_8 := (cell_far (p := ⟨gb111, 0, none⟩) (by first | (rw [add_block]; exact hn112_0) | (show (Addr.add _ _).block ≠ _; rw [add_block]; exact hn112_0) | exact hn112_0) (.int .i64 t103)).trans hx112_8
       replace hx112_0 := (cell_far (p := ⟨gb111, 1, none⟩) (by first | (rw [add_block]; exact hn112_1) | (show (Addr.add _ _).block ≠ _; rw [add_block]; exact hn112_1) | exact hn112_1) (.int .i64 t104)).trans hx112_0
       replace hx112_1 := (cell_far (p := ⟨gb111, 1, none⟩) (by first | (rw [add_block]; exact hn112_1) | (show (Addr.add _ _).block ≠ _; rw [add_block]; exact hn112_1) | exact hn112_1) (.int .i64 t104)).trans hx112_1
       replace hx112_2 := (cell_far (p := ⟨gb111, 1, none⟩) (by first | (rw [add_block]; exact hn112_1) | (show (Addr.add _ _).block ≠ _; rw [add_block]; exact hn112_1) | exact hn112_1) (.int .i64 t104)).trans hx112_2
       replace hx112_3 := (cell_far (p := ⟨gb111, 1, none⟩) (by first | (rw [add_block]; exact hn112_1) | (show (Addr.add _ _).block ≠ _; rw [add_block]; exact hn112_1) | exact hn112_1) (.int .i64 t104)).trans hx112_3
       replace hx112_4 := (cell_far (p := ⟨gb111, 1, none⟩) (by first | (rw [add_block]; exact hn112_1) | (show (Addr.add _ _).block ≠ _; rw [add_block]; exact hn112_1) | exact hn112_1) (.int .i64 t104)).trans hx112_4
       replace hx112_5 := (cell_far (p := ⟨gb111, 1, none⟩) (by first | (rw [add_block]; exact hn112_1) | (show (Addr.add _ _).block ≠ _; rw [add_block]; exact hn112_1) | exact hn112_1) (.int .i64 t104)).trans hx112_5
       replace hx112_6 := (cell_far (p := ⟨gb111, 1, none⟩) (by first | (rw [add_block]; exact hn112_1) | (show (Addr.add _ _).block ≠ _; rw [add_block]; exact hn112_1) | exact hn112_1) (.int .i64 t104)).trans hx112_6
       replace hx112_7 := (cell_far (p := ⟨gb111, 1, none⟩) (by first | (rw [add_block]; exact hn112_1) | (show (Addr.add _ _).block ≠ _; rw [add_block]; exact hn112_1) | exact hn112_1) (.int .i64 t104)).trans hx112_7
       replace hx112_8 := (cell_far (p := ⟨gb111, 1, none⟩) (by first | (rw [add_block]; exact hn112_1) | (show (Addr.add _ _).block ≠ _; rw [add_block]; exact hn112_1) | exact hn112_1) (.int .i64 t104)).trans hx112_8
       replace hx112_0 := (cell_far (p := ⟨gb111, 2, none⟩) (by first | (rw [add_block]; exact hn112_2) | (show (Addr.add _ _).block ≠ _; rw [add_block]; exact hn112_2) | exact hn112_2) (.int .i64 t105)).trans hx112_0
       replace hx112_1 := (cell_far (p := ⟨gb111, 2, none⟩) (by first | (rw [add_block]; exact hn112_2) | (show (Addr.add _ _).block ≠ _; rw [add_block]; exact hn112_2) | exact hn112_2) (.int .i64 t105)).trans hx112_1
       replace hx112_2 := (cell_far (p := ⟨gb111, 2, none⟩) (by first | (rw [add_block]; exact hn112_2) | (show (Addr.add _ _).block ≠ _; rw [add_block]; exact hn112_2) | exact hn112_2) (.int .i64 t105)).trans hx112_2
       replace hx112_3 := (cell_far (p := ⟨gb111, 2, none⟩) (by first | (rw [add_block]; exact hn112_2) | (show (Addr.add _ _).block ≠ _; rw [add_block]; exact hn112_2) | exact hn112_2) (.int .i64 t105)).trans hx112_3
       replace hx112_4 := (cell_far (p := ⟨gb111, 2, none⟩) (by first | (rw [add_block]; exact hn112_2) | (show (Addr.add _ _).block ≠ _; rw [add_block]; exact hn112_2) | exact hn112_2) (.int .i64 t105)).trans hx112_4
       replace hx112_5 := (cell_far (p := ⟨gb111, 2, none⟩) (by first | (rw [add_block]; exact hn112_2) | (show (Addr.add _ _).block ≠ _; rw [add_block]; exact hn112_2) | exact hn112_2) (.int .i64 t105)).trans hx112_5
       replace hx112_6 := (cell_far (p := ⟨gb111, 2, none⟩) (by first | (rw [add_block]; exact hn112_2) | (show (Addr.add _ _).block ≠ _; rw [add_block]; exact hn112_2) | exact hn112_2) (.int .i64 t105)).trans hx112_6
       replace hx112_7 := (cell_far (p := ⟨gb111, 2, none⟩) (by first | (rw [add_block]; exact hn112_2) | (show (Addr.add _ _).block ≠ _; rw [add_block]; exact hn112_2) | exact hn112_2) (.int .i64 t105)).trans hx112_7
       replace hx112_8 := (cell_far (p := ⟨gb111, 2, none⟩) (by first | (rw [add_block]; exact hn112_2) | (show (Addr.add _ _).block ≠ _; rw [add_block]; exact hn112_2) | exact hn112_2) (.int .i64 t105)).trans hx112_8
       replace hx112_0 := (cell_far (p := ⟨gb111, 3, none⟩) (by first | (rw [add_block]; exact hn112_3) | (show (Addr.add _ _).block ≠ _; rw [add_block]; exact hn112_3) | exact hn112_3) (.int .i64 t106)).trans hx112_0
       replace hx112_1 := (cell_far (p := ⟨gb111, 3, none⟩) (by first | (rw [add_block]; exact hn112_3) | (show (Addr.add _ _).block ≠ _; rw [add_block]; exact hn112_3) | exact hn112_3) (.int .i64 t106)).trans hx112_1
       replace hx112_2 := (cell_far (p := ⟨gb111, 3, none⟩) (by first | (rw [add_block]; exact hn112_3) | (show (Addr.add _ _).block ≠ _; rw [add_block]; exact hn112_3) | exact hn112_3) (.int .i64 t106)).trans hx112_2
       replace hx112_3 := (cell_far (p := ⟨gb111, 3, none⟩) (by first | (rw [add_block]; exact hn112_3) | (show (Addr.add _ _).block ≠ _; rw [add_block]; exact hn112_3) | exact hn112_3) (.int .i64 t106)).trans hx112_3
       replace hx112_4 := (cell_far (p := ⟨gb111, 3, none⟩) (by first | (rw [add_block]; exact hn112_3) | (show (Addr.add _ _).block ≠ _; rw [add_block]; exact hn112_3) | exact hn112_3) (.int .i64 t106)).trans hx112_4
       replace hx112_5 := (cell_far (p := ⟨gb111, 3, none⟩) (by first | (rw [add_block]; exact hn112_3) | (show (Addr.add _ _).block ≠ _; rw [add_block]; exact hn112_3) | exact hn112_3) (.int .i64 t106)).trans hx112_5
       replace hx112_6 := (cell_far (p := ⟨gb111, 3, none⟩) (by first | (rw [add_block]; exact hn112_3) | (show (Addr.add _ _).block ≠ _; rw [add_block]; exact hn112_3) | exact hn112_3) (.int .i64 t106)).trans hx112_6
       replace hx112_7 := (cell_far (p := ⟨gb111, 3, none⟩) (by first | (rw [add_block]; exact hn112_3) | (show (Addr.add _ _).block ≠ _; rw [add_block]; exact hn112_3) | exact hn112_3) (.int .i64 t106)).trans hx112_7
       replace hx112_8 := (cell_far (p := ⟨gb111, 3, none⟩) (by first | (rw [add_block]; exact hn112_3) | (show (Addr.add _ _).block ≠ _; rw [add_block]; exact hn112_3) | exact hn112_3) (.int .i64 t106)).trans hx112_8
       replace hx112_0 := (cell_far (p := ⟨gb111, 4, none⟩) (by first | (rw [add_block]; exact hn112_4) | (show (Addr.add _ _).block ≠ _; rw [add_block]; exact hn112_4) | exact hn112_4) (.slice Ao13 t107.length co13)).trans hx112_0
       replace hx112_1 := (cell_far (p := ⟨gb111, 4, none⟩) (by first | (rw [add_block]; exact hn112_4) | (show (Addr.add _ _).block ≠ _; rw [add_block]; exact hn112_4) | exact hn112_4) (.slice Ao13 t107.length co13)).trans hx112_1
       replace hx112_2 := (cell_far (p := ⟨gb111, 4, none⟩) (by first | (rw [add_block]; exact hn112_4) | (show (Addr.add _ _).block ≠ _; rw [add_block]; exact hn112_4) | exact hn112_4) (.slice Ao13 t107.length co13)).trans hx112_2
       replace hx112_3 := (cell_far (p := ⟨gb111, 4, none⟩) (by first | (rw [add_block]; exact hn112_4) | (show (Addr.add _ _).block ≠ _; rw [add_block]; exact hn112_4) | exact hn112_4) (.slice Ao13 t107.length co13)).trans hx112_3
       replace hx112_4 := (cell_far (p := ⟨gb111, 4, none⟩) (by first | (rw [add_block]; exact hn112_4) | (show (Addr.add _ _).block ≠ _; rw [add_block]; exact hn112_4) | exact hn112_4) (.slice Ao13 t107.length co13)).trans hx112_4
       replace hx112_5 := (cell_far (p := ⟨gb111, 4, none⟩) (by first | (rw [add_block]; exact hn112_4) | (show (Addr.add _ _).block ≠ _; rw [add_block]; exact hn112_4) | exact hn112_4) (.slice Ao13 t107.length co13)).trans hx112_5
       replace hx112_6 := (cell_far (p := ⟨gb111, 4, none⟩) (by first | (rw [add_block]; exact hn112_4) | (show (Addr.add _ _).block ≠ _; rw [add_block]; exact hn112_4) | exact hn112_4) (.slice Ao13 t107.length co13)).trans hx112_6
       replace hx112_7 := (cell_far (p := ⟨gb111, 4, none⟩) (by first | (rw [add_block]; exact hn112_4) | (show (Addr.add _ _).block ≠ _; rw [add_block]; exact hn112_4) | exact hn112_4) (.slice Ao13 t107.length co13)).trans hx112_7
       replace hx112_8 := (cell_far (p := ⟨gb111, 4, none⟩) (by first | (rw [add_block]; exact hn112_4) | (show (Addr.add _ _).block ≠ _; rw [add_block]; exact hn112_4) | exact hn112_4) (.slice Ao13 t107.length co13)).trans hx112_8
       replace hx112_0 := (cell_far (p := ⟨gb111, 5, none⟩) (by first | (rw [add_block]; exact hn112_5) | (show (Addr.add _ _).block ≠ _; rw [add_block]; exact hn112_5) | exact hn112_5) (.bool t110)).trans hx112_0
       replace hx112_1 := (cell_far (p := ⟨gb111, 5, none⟩) (by first | (rw [add_block]; exact hn112_5) | (show (Addr.add _ _).block ≠ _; rw [add_block]; exact hn112_5) | exact hn112_5) (.bool t110)).trans hx112_1
       replace hx112_2 := (cell_far (p := ⟨gb111, 5, none⟩) (by first | (rw [add_block]; exact hn112_5) | (show (Addr.add _ _).block ≠ _; rw [add_block]; exact hn112_5) | exact hn112_5) (.bool t110)).trans hx112_2
       replace hx112_3 := (cell_far (p := ⟨gb111, 5, none⟩) (by first | (rw [add_block]; exact hn112_5) | (show (Addr.add _ _).block ≠ _; rw [add_block]; exact hn112_5) | exact hn112_5) (.bool t110)).trans hx112_3
       replace hx112_4 := (cell_far (p := ⟨gb111, 5, none⟩) (by first | (rw [add_block]; exact hn112_5) | (show (Addr.add _ _).block ≠ _; rw [add_block]; exact hn112_5) | exact hn112_5) (.bool t110)).trans hx112_4
       replace hx112_5 := (cell_far (p := ⟨gb111, 5, none⟩) (by first | (rw [add_block]; exact hn112_5) | (show (Addr.add _ _).block ≠ _; rw [add_block]; exact hn112_5) | exact hn112_5) (.bool t110)).trans hx112_5
       replace hx112_6 := (cell_far (p := ⟨gb111, 5, none⟩) (by first | (rw [add_block]; exact hn112_5) | (show (Addr.add _ _).block ≠ _; rw [add_block]; exact hn112_5) | exact hn112_5) (.bool t110)).trans hx112_6
       replace hx112_7 := (cell_far (p := ⟨gb111, 5, none⟩) (by first | (rw [add_block]; exact hn112_5) | (show (Addr.add _ _).block ≠ _; rw [add_block]; exact hn112_5) | exact hn112_5) (.bool t110)).trans hx112_7
       replace hx112_8 := (cell_far (p := ⟨gb111, 5, none⟩) (by first | (rw [add_block]; exact hn112_5) | (show (Addr.add _ _).block ≠ _; rw [add_block]; exact hn112_5) | exact hn112_5) (.bool t110)).trans hx112_8
       clear hn112_0
       clear hn112_1
       clear hn112_2
       clear hn112_3
       clear hn112_4
       clear hn112_5
       replace p112 := eq_true p112
       replace q112 := eq_true q112
       go_wp2
       go_meet
       case rel => exact ⟨_, ((((rd_T45 l0 x4_2).f2) == 1)), z4458, H', ⟨by have := HJ2.out; first | omega | exact Nat.le_refl _⟩, ⟨by (with_reducible repeat (first | apply Kd.R_alloc | apply Kd.R_drewN | apply Kd.R_drew)); exact Kd.R_mono (Kd.R_far (p := ⟨gb111, 5, none⟩) (Kd.R_far (p := ⟨gb111, 4, none⟩) (Kd.R_far (p := ⟨gb111, 3, none⟩) (Kd.R_far (p := ⟨gb111, 2, none⟩) (Kd.R_far (p := ⟨gb111, 1, none⟩) (Kd.R_far (p := ⟨gb111, 0, none⟩) (Kd.R_types HO109.out BK111.out (by decide)) (fun _ hk => hk.2) (.int .i64 t103)) (fun _ hk => hk.2) (.int .i64 t104)) (fun _ hk => hk.2) (.int .i64 t105)) (fun _ hk => hk.2) (.int .i64 t106)) (fun _ hk => hk.2) (.slice Ao13 t107.length co13)) (fun _ hk => hk.2) (.bool t110)) (fun _ hk => trivial)⟩, ⟨bkZ⟩, ⟨bkZ⟩, ⟨zcb41⟩⟩
     · rw [if_neg c15] at H
       have c15b0 : decide (x4_2 < (l0.length : Int)) = false := decide_eq_false c15
       clear c15
       (first | rw [c15b0] | (simp only [i64_w, i32_w]; rw [c15b0]) | skip)
       have H' := aM H
       clear H
       go_wp2
       go_meet
       case rel => exact ⟨_, (false), z4458, H', ⟨by have := HJ2.out; first | omega | exact Nat.le_refl _⟩, ⟨by (with_reducible repeat (first | apply Kd.R_alloc | apply Kd.R_drewN | apply Kd.R_drew)); exact Kd.R_mono (Kd.R_far (p := ⟨gb111, 5, none⟩) (Kd.R_far (p := ⟨gb111, 4, none⟩) (Kd.R_far (p := ⟨gb111, 3, none⟩) (Kd.R_far (p := ⟨gb111, 2, none⟩) (Kd.R_far (p := ⟨gb111, 1, none⟩) (Kd.R_far (p := ⟨gb111, 0, none⟩) (Kd.R_types HO109.out BK111.out (by decide)) (fun _ hk => hk.2) (.int .i64 t103)) (fun _ hk => hk.2) (.int .i64 t104)) (fun _ hk => hk.2) (.int .i64 t105)) (fun _ hk => hk.2) (.int .i64 t106)) (fun _ hk => hk.2) (.slice Ao13 t107.length co13)) (fun _ hk => hk.2) (.bool t110)) (fun _ hk => trivial)⟩, ⟨bkZ⟩, ⟨bkZ⟩, ⟨zcb41⟩⟩
    case rest =>
     clear HC14
     try clear c1
     try clear p1
     try clear q1
     try clear hx1
     try clear p2
     try clear c3
     try clear c6
     try clear c6b0
     try clear c7
     try clear c11
     try clear p11
     try clear q11
     try clear hx11
     try clear c15
     try clear c15b0
     try clear c16
     try clear c16b0
     try clear hcz12_0 hcz12_1 hcz12_2 hcz12_3 hcz12_4 hcz12_5 hfz12_0 hfz12_1 hfz12_2 hfz12_3 hfz12_4 hfz12_5
     try clear hx112_0
     try clear hx112_1
     try clear hx112_2
     try clear hx112_3
     try clear hx112_4
     try clear hx112_5
     try clear hx112_6
     try clear hx112_7
     try clear hx112_8
     try clear p112
     try clear p2
     try clear q112
     obtain ⟨kq, x14_13, rfl, HA, HJ13, HO_112004, BK101, BK111, HB⟩ := hcut
     cases kq with
     | zero => exact absurd HA.out (by simp [impl_fold.j1])
     | succ kj13 =>
      have H := HA.out
      clear HA
      simp only [impl_fold.j1] at H
      by_cases c17 : x14_13 = true
      · subst c17
        rw [if_pos rfl] at H
        replace H := ifS H; obtain ⟨c18, H⟩ := H
        have c18b0 : decide (0 ≤ x4_2) = true := decide_eq_true c18
        clear c18
        replace H := ifS H; obtain ⟨c19, H⟩ := H
        have c19b0 : decide (x4_2 < (l0.length : Int)) = true := decide_eq_true c19
        clear c19
        replace H := Option.bind_eq_some_iff.mp H
        obtain ⟨⟨t114, t115, t116, t117, t118, t119, t120, t121, t124⟩, A200, H⟩ := H
        try dsimp only at H
        have A20 := aM A200
        clear A200
        have H' := aM H
        clear H
        have p113 : 0 ≤ (x4_2 : Int) := of_decide_eq_true z1200
        have q113 : x4_2 < (l0.length : Int) := of_decide_eq_true z1200
        obtain ⟨ad113, A113_7, c113_7, e113, hx113_0, hx113_1, hx113_2, hx113_3, hx113_4, hx113_5, hx113_6, hx113_7, hx113_8, hl113_7, hi113_7⟩ := at_T45 HR0.out x4_2 p113 q113
        cases e113
        have TW113_7 := aM hx113_7
        replace hx113_0 := (HB.out.cell (World.block_lt_of_cell? w _ hx113_0)).trans hx113_0
        replace hx113_1 := (HB.out.cell (World.block_lt_of_cell? w _ hx113_1)).trans hx113_1
        replace hx113_2 := (HB.out.cell (World.block_lt_of_cell? w _ hx113_2)).trans hx113_2
        replace hx113_3 := (HB.out.cell (World.block_lt_of_cell? w _ hx113_3)).trans hx113_3
        replace hx113_4 := (HB.out.cell (World.block_lt_of_cell? w _ hx113_4)).trans hx113_4
        replace hx113_5 := (HB.out.cell (World.block_lt_of_cell? w _ hx113_5)).trans hx113_5
        replace hx113_6 := (HB.out.cell (World.block_lt_of_cell? w _ hx113_6)).trans hx113_6
        replace hx113_7 := (HB.out.cell (World.block_lt_of_cell? w _ hx113_7)).trans hx113_7
        replace hx113_8 := (HB.out.cell (World.block_lt_of_cell? w _ hx113_8)).trans hx113_8
        have HR113_7 := aM hi113_7
        have HC113_7 := aM hl113_7
        clear hi113_7 hl113_7
        replace p113 := eq_true p113
        replace q113 := eq_true q113
        go_wp2_with (first | ((with_reducible refine gate_callee (f := 72) rfl ?_); refine goesL_ (some 31) rfl rfl Try.func72 (by kernel_rfl) rfl #[.agg #[.string ((rd_T45 l0 x4_2).f0), .int .i64 ((rd_T45 l0 x4_2).f1), .int .i64 ((rd_T45 l0 x4_2).f2), .int .i64 ((rd_T45 l0 x4_2).f3.f0), .int .i64 ((rd_T45 l0 x4_2).f3.f1), .int .i64 ((rd_T45 l0 x4_2).f3.f2), .int .i64 ((rd_T45 l0 x4_2).f3.f3), .slice A113_7 ((rd_T45 l0 x4_2).f3.f4).length c113_7, .bool ((rd_T45 l0 x4_2).f3.f5)]] rfl zee81 ?_; (with_reducible refine (impl_Entry_cloned.calls ((rd_T45 l0 x4_2).f0) ((rd_T45 l0 x4_2).f1) ((rd_T45 l0 x4_2).f2) ((rd_T45 l0 x4_2).f3.f0) ((rd_T45 l0 x4_2).f3.f1) ((rd_T45 l0 x4_2).f3.f2) ((rd_T45 l0 x4_2).f3.f3) _ _ ((rd_T45 l0 x4_2).f3.f4) ((rd_T45 l0 x4_2).f3.f5) t114 t115 t116 t117 t118 t119 t120 t121 t124 _ ?side1 ?side2 A20.out).mono ?_); (case side1 => exact (cZ (Kd.C_below HR113_7.out HB.out))); (case side2 => exact HC113_7.out); rintro e w21 ⟨v122, rfl, ho0, hb⟩; refine ⟨_, rfl, ?_⟩; have _ := aM (Kd.R_elder' (rZ HO_112004.out) (Kd.R_base ho0) hb); have _ := aM (Kd.R_lower (Kd.R_new' ho0 (Kd.R_lt (rZ HO_112004.out))) (below_size hbZ)); have _ := bB gb101 hb; have _ := bB gb111 hb; have _ := aM (below_step hbZ hb); clear HO_112004 BK101 BK111 HB; rename_i HO_112004 HO123 BK101 BK111 HB; (try clear hb); (try clear ho0); have hnb22 := NB111_101.out; have hnc22 := NB101_111.out; obtain ⟨hcz23_0, hcz23_1, hcz23_2, hcz23_3, hcz23_4, hcz23_5, hfz23_0, hfz23_1, hfz23_2, hfz23_3, hfz23_4, hfz23_5⟩ := cellsZ6 BK111.out; obtain ⟨Ao24, co24, eo24⟩ := Kd.R_slice HO123.out; subst eo24))
        have hf_ : Sem.run Try.prog (Instr.field 45 (Value.agg #[.string t114, .int .i64 t115, .int .i64 t116, .int .i64 t117, .int .i64 t118, .int .i64 t119, .int .i64 t120, .slice Ao24 t121.length co24, .bool t124]) 3) w21 = .ok (.agg #[.int .i64 t117, .int .i64 t118, .int .i64 t119, .int .i64 t120, .slice Ao24 t121.length co24, .bool t124]) w21 := by kernel_rfl
        rw [hf_]
        clear hf_
        go_wp2
        go_meet
        case rel => exact ⟨_, (0), (0), (0), (0), (false), (t117), (t118), (t119), (t120), (t121), (t124), (.slice Ao24 t121.length co24), H', ⟨by have := HJ2.out; have := HJ13.out; first | omega | exact Nat.le_refl _⟩, ⟨by (with_reducible repeat (first | apply Kd.R_alloc | apply Kd.R_drewN | apply Kd.R_drew)); exact Kd.R_mono (Kd.R_far (p := ⟨gb111, 5, none⟩) (Kd.R_far (p := ⟨gb111, 4, none⟩) (Kd.R_far (p := ⟨gb111, 3, none⟩) (Kd.R_far (p := ⟨gb111, 2, none⟩) (Kd.R_far (p := ⟨gb111, 1, none⟩) (Kd.R_far (p := ⟨gb111, 0, none⟩) (Kd.R_types HO123.out BK111.out (by decide)) (fun _ hk => hk.2) (.int .i64 t117)) (fun _ hk => hk.2) (.int .i64 t118)) (fun _ hk => hk.2) (.int .i64 t119)) (fun _ hk => hk.2) (.int .i64 t120)) (fun _ hk => hk.2) (.slice Ao24 t121.length co24)) (fun _ hk => hk.2) (.bool t124)) (fun _ hk => trivial)⟩, ⟨bkZ⟩, ⟨bkZ⟩, ⟨zcb41⟩⟩
      · replace c17 := Bool.eq_false_iff.mpr c17
        subst c17
        rw [if_neg (show ¬ (false = true) by decide)] at H
        by_cases c25 : x4_2 = 0
        · rw [if_pos c25] at H
          have c25b0 : (x4_2 == 0) = true := beq_iff_eq.mpr c25
          have c25b1 : (x4_2 != 0) = false := bne_eq_false_iff_eq.mpr c25
          clear c25
          simp only [Option.some.injEq, Prod.mk.injEq] at H
          obtain ⟨rfl, rfl, rfl, rfl, rfl, rfl, rfl⟩ := H
          have hnb26 := NB101_111.out
          have hnc26 := NB111_101.out
          obtain ⟨hcz27_0, hcz27_1, hcz27_2, hcz27_3, hcz27_4, hcz27_5, hfz27_0, hfz27_1, hfz27_2, hfz27_3, hfz27_4, hfz27_5⟩ := cellsZ6 BK101.out
          go_wp2
          refine bodyPost_ret (results_ct rfl _ _ gb101 26 #[.int .i64 0, .int .i64 0, .int .i64 0, .int .i64 0, .slice none 0 0, .bool false] (0, 0) _ rfl bkZ Try.underlying26 rfl (by kernel_rfl)) rfl ?_
          exact ⟨_, z674d, z02fa, zcb41⟩
        · rw [if_neg c25] at H
          have c25b0 : (x4_2 == 0) = false := beq_eq_false_iff_ne.mpr c25
          have c25b1 : (x4_2 != 0) = true := bne_iff_ne.mpr c25
          have H' := aM H
          clear H
          go_wp2
          go_meet
          case rel => exact ⟨_, (0), (0), (0), (0), (false), (t103), (t104), (t105), (t106), (t107), (t110), (.slice Ao13 t107.length co13), H', ⟨by have := HJ2.out; have := HJ13.out; first | omega | exact Nat.le_refl _⟩, ⟨rZ HO_112004.out⟩, ⟨bkZ⟩, ⟨bkZ⟩, ⟨zcb41⟩⟩
   case rest =>
    clear HC8
    try clear c1
    try clear p1
    try clear q1
    try clear hx1
    try clear c2
    try clear p2
    try clear c3
    try clear c6
    try clear c6b0
    try clear c7
    try clear c11
    try clear p11
    try clear q11
    try clear hx11
    try clear c15
    try clear c15b0
    try clear c16
    try clear c16b0
    try clear c17
    try clear c18
    try clear c18b0
    try clear c19
    try clear c19b0
    try clear c22
    try clear c25
    try clear c25b0
    try clear c25b1
    try clear c26
    try clear hcz12_0 hcz12_1 hcz12_2 hcz12_3 hcz12_4 hcz12_5
    try clear hcz23_0 hcz23_1 hcz23_2 hcz23_3 hcz23_4 hcz23_5
    try clear hcz27_0 hcz27_1 hcz27_2 hcz27_3 hcz27_4 hcz27_5
    try clear hfz12_0 hfz12_1 hfz12_2 hfz12_3 hfz12_4 hfz12_5
    try clear hfz23_0 hfz23_1 hfz23_2 hfz23_3 hfz23_4 hfz23_5
    try clear hfz27_0 hfz27_1 hfz27_2 hfz27_3 hfz27_4 hfz27_5
    try clear hx112_0
    try clear hx112_1
    try clear hx112_2
    try clear hx112_3
    try clear hx112_4
    try clear hx112_5
    try clear hx112_6
    try clear hx112_7
    try clear hx112_8
    try clear hx113_0
    try clear hx113_1
    try clear hx113_2
    try clear hx113_3
    try clear hx113_4
    try clear hx113_5
    try clear hx113_6
    try clear hx113_7
    try clear hx113_8
    try clear p1
    try clear p11
    try clear p112
    try clear p113
    try clear p2
    try clear q1
    try clear q11
    try clear q112
    try clear q113
    obtain ⟨kq, x102000_7, x102001_7, x102002_7, x102003_7, x102005_7, x112000_7, x112001_7, x112002_7, x112003_7, x112004_7, x112005_7, u112004, HA, HJ7, HO_112004, BK101, BK111, HB⟩ := hcut
    cases kq with
    | zero => exact absurd HA.out (by simp [impl_fold.j2])
    | succ kj7 =>
     have H := HA.out
     clear HA
     simp only [impl_fold.j2] at H
     have H' := aM H
     clear H
     go_wp2
     go_loopg [6] kj7 (fun kq v6 w' => ∃ (x6_3 : Int) (x112000_3 : Int) (x112001_3 : Int) (x112002_3 : Int) (x112003_3 : Int) (x112004_3 : List Int) (x112005_3 : Bool) (u112004 : Value), v6 = .int .i64 x6_3 ∧ Aside0 (impl_fold.l0 kq l0 x6_3 x112000_3 x112001_3 x112002_3 x112003_3 x112004_3 x112005_3 = some (r1, r2, r3, r4, r5, r6, r7)) ∧ Aside0 (kq ≤ kj7) ∧ Aside0 (Kd.R (Kd.int .i64) 3 w' w.heap.size (fun _ => True) u112004 x112004_3) ∧ Aside0 (w'.heap[gb101]? = some (.cells #[.int .i64 x102000_7, .int .i64 x102001_7, .int .i64 x102002_7, .int .i64 x102003_7, (.slice none 0 0), .bool x102005_7] 26 (0, 0))) ∧ Aside0 (w'.heap[gb111]? = some (.cells #[.int .i64 x112000_3, .int .i64 x112001_3, .int .i64 x112002_3, .int .i64 x112003_3, u112004, .bool x112005_3] 26 (0, 0))) ∧ Aside0 (Below w.heap.size w w'))
     case atStart => exact ⟨(wrap64 (x4_2 - 1)), (x112000_7), (x112001_7), (x112002_7), (x112003_7), (x112004_7), (x112005_7), (u112004), z4458, H', ⟨Nat.le_refl _⟩, ⟨rZ HO_112004.out⟩, ⟨bkZ⟩, ⟨bkZ⟩, ⟨zcb41⟩⟩
     case round =>
      clear H'
      try clear c1
      try clear p1
      try clear q1
      try clear hx1
      try clear c2
      try clear p2
      try clear c3
      try clear c6
      try clear c6b0
      try clear p6
      try clear c7
      try clear c11
      try clear p11
      try clear q11
      try clear hx11
      try clear c15
      try clear c15b0
      try clear c16
      try clear c16b0
      try clear c17
      try clear c18
      try clear c18b0
      try clear c19
      try clear c19b0
      try clear c22
      try clear c25
      try clear c25b0
      try clear c25b1
      try clear c26
      try clear hcz12_0 hcz12_1 hcz12_2 hcz12_3 hcz12_4 hcz12_5
      try clear hcz23_0 hcz23_1 hcz23_2 hcz23_3 hcz23_4 hcz23_5
      try clear hcz27_0 hcz27_1 hcz27_2 hcz27_3 hcz27_4 hcz27_5
      try clear hfz12_0 hfz12_1 hfz12_2 hfz12_3 hfz12_4 hfz12_5
      try clear hfz23_0 hfz23_1 hfz23_2 hfz23_3 hfz23_4 hfz23_5
      try clear hfz27_0 hfz27_1 hfz27_2 hfz27_3 hfz27_4 hfz27_5
      try clear hx112_0
      try clear hx112_1
      try clear hx112_2
      try clear hx112_3
      try clear hx112_4
      try clear hx112_5
      try clear hx112_6
      try clear hx112_7
      try clear hx112_8
      try clear hx113_0
      try clear hx113_1
      try clear hx113_2
      try clear hx113_3
      try clear hx113_4
      try clear hx113_5
      try clear hx113_6
      try clear hx113_7
      try clear hx113_8
      try clear p1
      try clear p11
      try clear p112
      try clear p113
      try clear p2
      try clear q1
      try clear q11
      try clear q112
      try clear q113
      obtain ⟨x6_3, x112000_3, x112001_3, x112002_3, x112003_3, x112004_3, x112005_3, u112004, rfl, HA, HK3, HO_112004, BK101, BK111, HB⟩ := hrel
      cases gk with
      | zero => exact absurd HA.out (by simp [impl_fold.l0])
      | succ k3 =>
       have H := HA.out
       clear HA
       simp only [impl_fold.l0] at H
       by_cases c28 : x6_3 ≥ 0
       · rw [if_pos c28] at H
         have c28b0 : decide (0 ≤ x6_3) = true := decide_eq_true c28
         clear c28
         replace H := ifS H; obtain ⟨c29, H⟩ := H
         have c29b0 : decide (0 ≤ x6_3) = true := decide_eq_true c29
         clear c29
         replace H := ifS H; obtain ⟨c30, H⟩ := H
         have c30b0 : decide (x6_3 < (l0.length : Int)) = true := decide_eq_true c30
         clear c30
         replace H := Option.bind_eq_some_iff.mp H
         obtain ⟨⟨t126, t127, t128, t129, t130, t133⟩, A310, H⟩ := H
         try dsimp only at H
         have A31 := aM A310
         clear A310
         have H' := aM H
         clear H
         try go_wp2
         have _ := aM (Kd.R_drew HO_112004.out)
         have _ := aM (blk_drew BK101.out)
         have _ := aM (blk_drew BK111.out)
         have _ := aM (below_drew1 HB.out)
         clear HO_112004
         clear BK101
         clear BK111
         clear HB
         rename_i HO_112004 BK101 BK111 HB
         have p125 : 0 ≤ (x6_3 : Int) := of_decide_eq_true z1200
         have q125 : x6_3 < (l0.length : Int) := of_decide_eq_true z1200
         obtain ⟨ad125, A125_7, c125_7, e125, hx125_0, hx125_1, hx125_2, hx125_3, hx125_4, hx125_5, hx125_6, hx125_7, hx125_8, hl125_7, hi125_7⟩ := at_T45 HR0.out x6_3 p125 q125
         have hw125_8 := hx125_8
         have hw125_7 := hx125_7
         have hw125_6 := hx125_6
         have hw125_5 := hx125_5
         have hw125_4 := hx125_4
         have hw125_3 := hx125_3
         have hw125_2 := hx125_2
         have hw125_1 := hx125_1
         have hw125_0 := hx125_0
         cases e125
         have TW125_7 := aM hx125_7
         replace hx125_0 := (HB.out.cell (World.block_lt_of_cell? w _ hx125_0)).trans hx125_0
         replace hx125_1 := (HB.out.cell (World.block_lt_of_cell? w _ hx125_1)).trans hx125_1
         replace hx125_2 := (HB.out.cell (World.block_lt_of_cell? w _ hx125_2)).trans hx125_2
         replace hx125_3 := (HB.out.cell (World.block_lt_of_cell? w _ hx125_3)).trans hx125_3
         replace hx125_4 := (HB.out.cell (World.block_lt_of_cell? w _ hx125_4)).trans hx125_4
         replace hx125_5 := (HB.out.cell (World.block_lt_of_cell? w _ hx125_5)).trans hx125_5
         replace hx125_6 := (HB.out.cell (World.block_lt_of_cell? w _ hx125_6)).trans hx125_6
         replace hx125_7 := (HB.out.cell (World.block_lt_of_cell? w _ hx125_7)).trans hx125_7
         replace hx125_8 := (HB.out.cell (World.block_lt_of_cell? w _ hx125_8)).trans hx125_8
         have HR125_7 := aM hi125_7
         have HC125_7 := aM hl125_7
         clear hi125_7 hl125_7
         replace p125 := eq_true p125
         replace q125 := eq_true q125
         obtain ⟨Ao33, co33, eo33⟩ := Kd.R_slice HO_112004.out
         (first | subst eo33 | (injection eo33 with f1_ f2_ f3_; have f4_ := f1_.symm; have f5_ := f3_.symm; clear f1_ f2_ f3_; subst f4_; subst f5_))
         refine sA 8 impl_fold.tab12 impl_fold.bits12 (fun w' => w'.cell? ⟨gb111, 0, none⟩ = some (.int .i64 x112000_3) ∧ w'.cell? ⟨gb111, 1, none⟩ = some (.int .i64 x112001_3) ∧ w'.cell? ⟨gb111, 2, none⟩ = some (.int .i64 x112002_3) ∧ w'.cell? ⟨gb111, 3, none⟩ = some (.int .i64 x112003_3) ∧ w'.cell? ⟨gb111, 4, none⟩ = some (.slice Ao33 x112004_3.length co33) ∧ w'.cell? ⟨gb111, 5, none⟩ = some (.bool x112005_3) ∧ w'.cell? (ad125.add ((x6_3).toNat * 9)) = some (.string ((rd_T45 l0 x6_3).f0)) ∧ w'.cell? ⟨(ad125.add ((x6_3).toNat * 9)).block, (ad125.add ((x6_3).toNat * 9)).off + 1, none⟩ = some (.int .i64 ((rd_T45 l0 x6_3).f1)) ∧ w'.cell? ⟨(ad125.add ((x6_3).toNat * 9)).block, (ad125.add ((x6_3).toNat * 9)).off + 2, none⟩ = some (.int .i64 ((rd_T45 l0 x6_3).f2)) ∧ w'.cell? ⟨(ad125.add ((x6_3).toNat * 9)).block, (ad125.add ((x6_3).toNat * 9)).off + 3, none⟩ = some (.int .i64 ((rd_T45 l0 x6_3).f3.f0)) ∧ w'.cell? ⟨(ad125.add ((x6_3).toNat * 9)).block, (ad125.add ((x6_3).toNat * 9)).off + 4, none⟩ = some (.int .i64 ((rd_T45 l0 x6_3).f3.f1)) ∧ w'.cell? ⟨(ad125.add ((x6_3).toNat * 9)).block, (ad125.add ((x6_3).toNat * 9)).off + 5, none⟩ = some (.int .i64 ((rd_T45 l0 x6_3).f3.f2)) ∧ w'.cell? ⟨(ad125.add ((x6_3).toNat * 9)).block, (ad125.add ((x6_3).toNat * 9)).off + 6, none⟩ = some (.int .i64 ((rd_T45 l0 x6_3).f3.f3)) ∧ w'.cell? ⟨(ad125.add ((x6_3).toNat * 9)).block, (ad125.add ((x6_3).toNat * 9)).off + 7, none⟩ = some (.slice A125_7 ((rd_T45 l0 x6_3).f3.f4).length c125_7) ∧ w'.cell? ⟨(ad125.add ((x6_3).toNat * 9)).block, (ad125.add ((x6_3).toNat * 9)).off + 8, none⟩ = some (.bool ((rd_T45 l0 x6_3).f3.f5))) [7] (fun hHeld HT_ HW_ => ?_)
         generalize wr.drew = w32 at HO_112004 BK101 BK111 HB HR125_7 hx125_0 hx125_1 hx125_2 hx125_3 hx125_4 hx125_5 hx125_6 hx125_7 hx125_8 hHeld ⊢
         refine pA 1 44 HT_ ?_; refine pA 2 45 HT_ ?_; refine pA 3 46 HT_ ?_; refine pA 4 47 HT_ ?_; refine tA 0 43 HT_ HW_ hHeld ?_; refine tA 5 48 HT_ HW_ hHeld ?_; refine oA 6 49 HT_ (fun K hK => ?_)
         refine goes_ Try.func73 (by kernel_rfl) rfl #[.agg #[.int .i64 x112000_3, .int .i64 x112001_3, .int .i64 x112002_3, .int .i64 x112003_3, .slice Ao33 x112004_3.length co33, .bool x112005_3], .agg #[.int .i64 ((rd_T45 l0 x6_3).f3.f0), .int .i64 ((rd_T45 l0 x6_3).f3.f1), .int .i64 ((rd_T45 l0 x6_3).f3.f2), .int .i64 ((rd_T45 l0 x6_3).f3.f3), .slice A125_7 ((rd_T45 l0 x6_3).f3.f4).length c125_7, .bool ((rd_T45 l0 x6_3).f3.f5)]] (by rfl) rfl rfl zee81 ?_
         with_reducible refine (impl_joined.calls k3 x112000_3 x112001_3 x112002_3 x112003_3 _ _ x112004_3 x112005_3 ((rd_T45 l0 x6_3).f3.f0) ((rd_T45 l0 x6_3).f3.f1) ((rd_T45 l0 x6_3).f3.f2) ((rd_T45 l0 x6_3).f3.f3) _ _ ((rd_T45 l0 x6_3).f3.f4) ((rd_T45 l0 x6_3).f3.f5) t126 t127 t128 t129 t130 t133 _ ?side1 ?side2 ?side3 ?side4 A31.out).mono ?_
         (case side1 => exact (by repeat (first | exact (Kd.R_reads' HO_112004.out).2.2 | (with_reducible refine Kd.C_alloc ?_ _) | (with_reducible refine Kd.C_drewN ?_ _) | (with_reducible refine Kd.C_drew ?_))))
         (case side2 => exact (Kd.R_reads' HO_112004.out).2.1)
         (case side3 => exact (cZ (Kd.C_below HR125_7.out HB.out)))
         (case side4 => exact HC125_7.out)
         rintro e w34 ⟨v131, rfl, ho0, hb⟩
         refine ⟨_, rfl, ?_⟩
         have _ := aM (Kd.R_elder' (rZ HO_112004.out) (Kd.R_base ho0) hb)
         have _ := aM (Kd.R_lower (Kd.R_new' ho0 (Kd.R_lt (rZ HO_112004.out))) (below_size hbZ))
         have _ := bB gb101 hb
         have _ := bB gb111 hb
         have _ := aM (below_step hbZ hb)
         clear HO_112004
         clear BK101
         clear BK111
         clear HB
         rename_i HO_112004 HO132 BK101 BK111 HB
         (try clear hb)
         (try clear hb2)
         (try clear hk)
         (try clear hi)
         (try clear ho0)
         obtain ⟨Ao39, co39, eo39⟩ := Kd.R_slice HO132.out
         (first | subst eo39 | (injection eo39 with f1_ f2_ f3_; have f4_ := f1_.symm; have f5_ := f3_.symm; clear f1_ f2_ f3_; subst f4_; subst f5_))
         refine hK.out _ _ sZ (fun hHeld => ?_)
         clear hK K
         refine nA 49 ?_
         refine last_ (i := 7) (N := none) #[true, true, true, true, true, true, true, true] rfl rfl (one_of HT_.out (by kernel_rfl)) (by decide) (fun K hK => ?_)
         have hs35 : w34.cell? ⟨gb111, 0, none⟩ = some (.int .i64 x112000_3) := (blk_cell BK111.out 0).trans rfl
         have hfs35 := blk_frozen BK111.out 0
         have hns35_0 := NB101_111.out
         have hms35_0 := NB111_101.out
         have hs36 : w34.cell? ⟨gb111, 1, none⟩ = some (.int .i64 x112001_3) := (blk_cell BK111.out 1).trans rfl
         have hfs36 := blk_frozen BK111.out 1
         have hns36_0 := NB101_111.out
         have hms36_0 := NB111_101.out
         have hs37 : w34.cell? ⟨gb111, 2, none⟩ = some (.int .i64 x112002_3) := (blk_cell BK111.out 2).trans rfl
         have hfs37 := blk_frozen BK111.out 2
         have hns37_0 := NB101_111.out
         have hms37_0 := NB111_101.out
         have hs38 : w34.cell? ⟨gb111, 3, none⟩ = some (.int .i64 x112003_3) := (blk_cell BK111.out 3).trans rfl
         have hfs38 := blk_frozen BK111.out 3
         have hns38_0 := NB101_111.out
         have hms38_0 := NB111_101.out
         have hs40 : w34.cell? ⟨gb111, 4, none⟩ = some (.slice Ao33 x112004_3.length co33) := (blk_cell BK111.out 4).trans rfl
         have hfs40 := blk_frozen BK111.out 4
         have hns40_0 := NB101_111.out
         have hms40_0 := NB111_101.out
         have hs41 : w34.cell? ⟨gb111, 5, none⟩ = some (.bool x112005_3) := (blk_cell BK111.out 5).trans rfl
         have hfs41 := blk_frozen BK111.out 5
         have hns41_0 := NB101_111.out
         have hms41_0 := NB111_101.out
         refine skip_ (w1 := ?_) (by rfl) rfl ?_ ?_
         rotate_left
         · go_simp
           rfl
         refine hK.out _ _ ?_
         clear hK K
         refine done_ (done_of HT_.out (by kernel_rfl)) ?_
         try go_wp2
         go_roundg k3
         case measure => have := HJ2.out; have := HJ7.out; have := HK3.out; omega
         case rel => exact ⟨(wrap64 (x6_3 - 1)), (t126), (t127), (t128), (t129), (t130), (t133), (.slice Ao39 t130.length co39), z4458, H', ⟨by have := HJ2.out; have := HJ7.out; have := HK3.out; omega⟩, ⟨by (with_reducible repeat (first | apply Kd.R_alloc | apply Kd.R_drewN | apply Kd.R_drew)); exact Kd.R_mono (Kd.R_far (p := ⟨gb111, 5, none⟩) (Kd.R_far (p := ⟨gb111, 4, none⟩) (Kd.R_far (p := ⟨gb111, 3, none⟩) (Kd.R_far (p := ⟨gb111, 2, none⟩) (Kd.R_far (p := ⟨gb111, 1, none⟩) (Kd.R_far (p := ⟨gb111, 0, none⟩) (Kd.R_types HO132.out BK111.out (by decide)) (fun _ hk => hk.2) (.int .i64 t126)) (fun _ hk => hk.2) (.int .i64 t127)) (fun _ hk => hk.2) (.int .i64 t128)) (fun _ hk => hk.2) (.int .i64 t129)) (fun _ hk => hk.2) (.slice Ao39 t130.length co39)) (fun _ hk => hk.2) (.bool t133)) (fun _ hk => trivial)⟩, ⟨bkZ⟩, ⟨bkZ⟩, ⟨zcb41⟩⟩
       · rw [if_neg c28] at H
         have c28b0 : decide (0 ≤ x6_3) = false := decide_eq_false c28
         clear c28
         simp only [Option.some.injEq, Prod.mk.injEq] at H
         obtain ⟨rfl, rfl, rfl, rfl, rfl, rfl, rfl⟩ := H
         have hnb42 := NB111_101.out
         have hnc42 := NB101_111.out
         obtain ⟨hcz43_0, hcz43_1, hcz43_2, hcz43_3, hcz43_4, hcz43_5, hfz43_0, hfz43_1, hfz43_2, hfz43_3, hfz43_4, hfz43_5⟩ := cellsZ6 BK111.out
         obtain ⟨hcz44_0, hcz44_1, hcz44_2, hcz44_3, hcz44_4, hcz44_5, hfz44_0, hfz44_1, hfz44_2, hfz44_3, hfz44_4, hfz44_5⟩ := cellsZ6 BK101.out
         obtain ⟨Ao45, co45, eo45⟩ := Kd.R_slice HO_112004.out
         subst eo45
         go_wp2
         refine bodyPost_ret (results_ct rfl _ _ gb101 26 #[.int .i64 x112000_3, .int .i64 x112001_3, .int .i64 x112002_3, .int .i64 x112003_3, .slice Ao45 x112004_3.length co45, .bool x112005_3] (0, 0) _ rfl bkZ Try.underlying26 rfl (by kernel_rfl)) rfl ?_
         exact ⟨_, z674d, by (with_reducible repeat (first | apply Kd.R_alloc | apply Kd.R_drewN | apply Kd.R_drew)); exact Kd.R_mono (Kd.R_far (p := ⟨gb101, 5, none⟩) (Kd.R_far (p := ⟨gb101, 4, none⟩) (Kd.R_far (p := ⟨gb101, 3, none⟩) (Kd.R_far (p := ⟨gb101, 2, none⟩) (Kd.R_far (p := ⟨gb101, 1, none⟩) (Kd.R_far (p := ⟨gb101, 0, none⟩) (Kd.R_types HO_112004.out BK101.out (by decide)) (fun _ hk => hk.2) (.int .i64 x112000_3)) (fun _ hk => hk.2) (.int .i64 x112001_3)) (fun _ hk => hk.2) (.int .i64 x112002_3)) (fun _ hk => hk.2) (.int .i64 x112003_3)) (fun _ hk => hk.2) (.slice Ao45 x112004_3.length co45)) (fun _ hk => hk.2) (.bool x112005_3)) (fun _ hk => trivial), zcb41⟩

end Go.Proofs.Ytdkokfnnebdppaa.P

-- written by a program of this session's (wip/pp)
namespace Go.Proofs.Ytdkokfnnebdppaa.P
open Go.RowKit Go.Proofs.YtdkokfnnebdppaaW.PrintWords Go.Proofs.YtdkokfnnebdppaaW.PrintLast Go.Proofs.YtdkokfnnebdppaaW.PrintMore
attribute [local go_sem] max2_int min2_int max_two min_two max_three min_three max_four min_four str_geq str_gtr str_leq   -- for this text's walks alone
set_option linter.unusedVariables false
set_option linter.unusedSimpArgs false

/-! ### impl_FoldEntries: function 10 -/
def impl_FoldEntries.f (k : Nat) (l0 : List (S45)) : Option (Int × Int × Int × Int × List Int × Bool × Bool × Bool) := (impl_GoodEntries.f k l0).bind fun t102 => (if t102 = true then (if (l0.length : Int) > 0 then (if 0 < (l0.length : Int) then (if 0 ≤ (wrap64 ((l0.length : Int) - 1)) then (if (wrap64 ((l0.length : Int) - 1)) < (l0.length : Int) then (if ((rd_T45 l0 0).f0).toList = ((rd_T45 l0 (wrap64 ((l0.length : Int) - 1))).f0).toList then ((impl_fold.f k l0).bind fun bt105 => (some (bt105.1, bt105.2.1, bt105.2.2.1, bt105.2.2.2.1, bt105.2.2.2.2.1, bt105.2.2.2.2.2.1, bt105.2.2.2.2.2.2, true))) else (some (0, 0, 0, 0, ([] : List Int), false, false, false))) else (none)) else (none)) else (none)) else ((impl_fold.f k l0).bind fun bt115 => (some (bt115.1, bt115.2.1, bt115.2.2.1, bt115.2.2.2.1, bt115.2.2.2.2.1, bt115.2.2.2.2.2.1, bt115.2.2.2.2.2.2, true)))) else (some (0, 0, 0, 0, ([] : List Int), false, false, false)))
theorem impl_FoldEntries.mono : ∀ a0 k, LeO (impl_FoldEntries.f k a0) (impl_FoldEntries.f (k + 1) a0) := by
 intro a0 k
 unfold impl_FoldEntries.f
 repeat' first
  | (with_reducible first | exact impl_GoodEntries.mono .. | exact impl_fold.mono .. | exact LeO.refl _ | exact LeO.none _ | refine LeO.ite ?_ ?_ | refine LeO.bind ?_ (fun _ => ?_))
  | exact LeO.none _
  | refine LeO.ite ?_ ?_
  | refine LeO.bind ?_ (fun _ => ?_)
def impl_FoldEntries.T1 : Bool × List (List Nat × List Nat) := (true, [([], []), ([0], [0]), ([1], [1]), ([2, 1], [2]), ([3], [3]), ([4, 3], [3, 4]), ([5, 3], [3, 5]), ([6, 3, 3], [3, 6]), ([7], [7]), ([8, 7], [7, 8]), ([9, 7], [7, 9]), ([10, 7], [7, 10]), ([7], [7]), ([7], [7]), ([13, 7], [7, 13]), ([14, 7], [7, 14]), ([12, 15, 7], [7, 12, 15]), ([16, 7], [7, 16]), ([17, 7], [7, 17]), ([11, 18, 7], [7, 11, 18]), ([7, 19, 3], [3, 7, 19]), ([3, 20], [3, 20])])
def impl_FoldEntries.B1 : List Nat := [0, 1, 3, 7, 15, 31, 63, 127, 255, 511, 1023, 2047, 255, 255, 8447, 24831, 61695, 127231, 258303, 524287, 1048575, 2097151]
theorem impl_FoldEntries.tab1 : rtab .any (opsOf Try.f10 1) = impl_FoldEntries.T1 := by kernel_rfl
theorem impl_FoldEntries.bits1 : waitsOk impl_FoldEntries.T1.2 impl_FoldEntries.B1 = true := by kernel_rfl
set_option maxHeartbeats 8000000 in
set_option maxRecDepth 100000 in
theorem impl_FoldEntries.calls (k : Nat) (A0 : Option Addr) (c0 : Nat) (l0 : List (S45)) (r1 : Int) (r2 : Int) (r3 : Int) (r4 : Int) (r5 : List Int) (r6 : Bool) (r7 : Bool) (r8 : Bool) (w : World) (hr0 : Kd.C k45 w A0 l0.length l0) (hc0 : l0.length ≤ c0) (h : impl_FoldEntries.f k l0 = some (r1, r2, r3, r4, r5, r6, r7, r8)) :
 Calls Try.prog 10 #[.slice A0 l0.length c0] w fun e w' => ∃ v4_ : Value, e = .returned (.tuple #[.agg #[.int .i64 r1, .int .i64 r2, .int .i64 r3, .int .i64 r4, v4_, .bool r6], .bool r7, .bool r8]) ∧ Kd.R (Kd.int .i64) 3 w' w.heap.size (fun _ => True) v4_ r5 ∧ Below w.heap.size w w' := by
 have hu26 := Try.underlying26
 have HR0 := aM hr0
 have HC0 := aM hc0
 clear hr0 hc0
 have HB := aM (Below.refl w.heap.size w)
 have H : ((impl_GoodEntries.f k l0).bind fun t102 => (if t102 = true then (if (l0.length : Int) > 0 then (if 0 < (l0.length : Int) then (if 0 ≤ (wrap64 ((l0.length : Int) - 1)) then (if (wrap64 ((l0.length : Int) - 1)) < (l0.length : Int) then (if ((rd_T45 l0 0).f0).toList = ((rd_T45 l0 (wrap64 ((l0.length : Int) - 1))).f0).toList then ((impl_fold.f k l0).bind fun bt105 => (some (bt105.1, bt105.2.1, bt105.2.2.1, bt105.2.2.2.1, bt105.2.2.2.2.1, bt105.2.2.2.2.2.1, bt105.2.2.2.2.2.2, true))) else (some (0, 0, 0, 0, ([] : List Int), false, false, false))) else (none)) else (none)) else (none)) else ((impl_fold.f k l0).bind fun bt115 => (some (bt115.1, bt115.2.1, bt115.2.2.1, bt115.2.2.2.1, bt115.2.2.2.2.1, bt115.2.2.2.2.2.1, bt115.2.2.2.2.2.2, true)))) else (some (0, 0, 0, 0, ([] : List Int), false, false, false)))) = some (r1, r2, r3, r4, r5, r6, r7, r8) := h
 clear h
 replace H := Option.bind_eq_some_iff.mp H
 obtain ⟨t102, A20, H⟩ := H
 try dsimp only at H
 have A2 := aM A20
 clear A20
 by_cases c3 : t102 = true
 · subst c3
   rw [if_pos rfl] at H
   by_cases c4 : (l0.length : Int) > 0
   · rw [if_pos c4] at H
     have c4b0 : decide (0 < (l0.length : Int)) = true := decide_eq_true c4
     have c4b1 : decide (0 < l0.length) = true := decide_eq_true (by omega)
     clear c4
     replace H := ifS H; obtain ⟨c5, H⟩ := H
     have c5b0 : decide (0 < (l0.length : Int)) = true := decide_eq_true c5
     have c5b1 : decide (0 < l0.length) = true := decide_eq_true (by omega)
     clear c5
     obtain ⟨ji6, hji6⟩ : ∃ j_ : Int, (wrap64 ((l0.length : Int) - 1)) = j_ := ⟨_, rfl⟩
     replace H : (if 0 ≤ (ji6) then (if (ji6) < (l0.length : Int) then (if ((rd_T45 l0 0).f0).toList = ((rd_T45 l0 (ji6)).f0).toList then ((impl_fold.f k l0).bind fun bt105 => (some (bt105.1, bt105.2.1, bt105.2.2.1, bt105.2.2.2.1, bt105.2.2.2.2.1, bt105.2.2.2.2.2.1, bt105.2.2.2.2.2.2, true))) else (some (0, 0, 0, 0, ([] : List Int), false, false, false))) else (none)) else (none)) = some (r1, r2, r3, r4, r5, r6, r7, r8) := by first | (rw [hji6] at H; exact H) | (simp only [hji6] at H ⊢; exact H)
     (try rw [hji6] at A2)
     have hji6w : (IntKind.i64.wrap ((l0.length : Int) - 1)) = ji6 := (i64_w _).trans hji6
     replace H := ifS H; obtain ⟨c7, H⟩ := H
     have c7b0 : decide (0 ≤ (ji6)) = true := decide_eq_true c7
     clear c7
     replace H := ifS H; obtain ⟨c8, H⟩ := H
     have c8b0 : decide ((ji6) < (l0.length : Int)) = true := decide_eq_true c8
     clear c8
     by_cases c9 : ((rd_T45 l0 0).f0).toList = ((rd_T45 l0 (ji6)).f0).toList
     · rw [if_pos c9] at H
       have c9b0 : (((rd_T45 l0 0).f0).toList == ((rd_T45 l0 (ji6)).f0).toList) = true := beq_iff_eq.mpr c9
       have c9b1 : (((rd_T45 l0 0).f0).toList != ((rd_T45 l0 (ji6)).f0).toList) = false := bne_eq_false_iff_eq.mpr c9
       clear c9
       replace H := Option.bind_eq_some_iff.mp H
       obtain ⟨⟨t105, t106, t107, t108, t109, t112, t113⟩, A100, H⟩ := H
       try dsimp only at H
       have A10 := aM A100
       clear A100
       simp only [Option.some.injEq, Prod.mk.injEq] at H
       obtain ⟨rfl, rfl, rfl, rfl, rfl, rfl, rfl, rfl⟩ := H
       go_enter Try.func10, Try.ntmps10
       try go_wp2_with (first | ((with_reducible refine gate_dst (N := 2) rfl ?_); (try (refine gate_guard (by rfl) ?_; dsimp only)); refine box_event ?hg (N := 2) ?hd (cs := #[.int .i64 0, .int .i64 0, .int .i64 0, .int .i64 0, .slice none 0 0, .bool false]) (t := 26) ?hr ?_; (case hd => rfl); (case hg => rfl); (case hr => first | (go_simp; done) | (go_simp; rfl)); intro gb101 hg w11 hbox hb; have _ := aM (below_step hbZ hb); have _ := aM hbox; have _ := szZ hg; have _ := szZ hg; clear HB; rename_i HB BK101 GW101 GE101; clear hb hbox hg))
       have _ := aM (blk_drew BK101.out)
       have _ := aM (below_drew1 HB.out)
       clear BK101
       clear HB
       rename_i BK101 HB
       have p103 : 0 ≤ (0 : Int) := (by omega)
       have q103 : 0 < (l0.length : Int) := of_decide_eq_true z1200
       obtain ⟨ad103, A103_7, c103_7, e103, hx103_0, hx103_1, hx103_2, hx103_3, hx103_4, hx103_5, hx103_6, hx103_7, hx103_8, hl103_7, hi103_7⟩ := at_T45 HR0.out 0 p103 q103
       have hw103_8 := hx103_8
       (try rw [show ((0 : Int)).toNat = 0 from rfl] at hw103_8)
       (try rw [show 0 * 9 = 0 from rfl] at hw103_8)
       (try rw [Addr.add_zero'] at hw103_8)
       have hw103_7 := hx103_7
       (try rw [show ((0 : Int)).toNat = 0 from rfl] at hw103_7)
       (try rw [show 0 * 9 = 0 from rfl] at hw103_7)
       (try rw [Addr.add_zero'] at hw103_7)
       have hw103_6 := hx103_6
       (try rw [show ((0 : Int)).toNat = 0 from rfl] at hw103_6)
       (try rw [show 0 * 9 = 0 from rfl] at hw103_6)
       (try rw [Addr.add_zero'] at hw103_6)
       have hw103_5 := hx103_5
       (try rw [show ((0 : Int)).toNat = 0 from rfl] at hw103_5)
       (try rw [show 0 * 9 = 0 from rfl] at hw103_5)
       (try rw [Addr.add_zero'] at hw103_5)
       have hw103_4 := hx103_4
       (try rw [show ((0 : Int)).toNat = 0 from rfl] at hw103_4)
       (try rw [show 0 * 9 = 0 from rfl] at hw103_4)
       (try rw [Addr.add_zero'] at hw103_4)
       have hw103_3 := hx103_3
       (try rw [show ((0 : Int)).toNat = 0 from rfl] at hw103_3)
       (try rw [show 0 * 9 = 0 from rfl] at hw103_3)
       (try rw [Addr.add_zero'] at hw103_3)
       have hw103_2 := hx103_2
       (try rw [show ((0 : Int)).toNat = 0 from rfl] at hw103_2)
       (try rw [show 0 * 9 = 0 from rfl] at hw103_2)
       (try rw [Addr.add_zero'] at hw103_2)
       have hw103_1 := hx103_1
       (try rw [show ((0 : Int)).toNat = 0 from rfl] at hw103_1)
       (try rw [show 0 * 9 = 0 from rfl] at hw103_1)
       (try rw [Addr.add_zero'] at hw103_1)
       have hw103_0 := hx103_0
       (try rw [show ((0 : Int)).toNat = 0 from rfl] at hw103_0)
       (try rw [show 0 * 9 = 0 from rfl] at hw103_0)
       (try rw [Addr.add_zero'] at hw103_0)
       cases e103
       have qi103 : (0 < l0.length) = True := eq_true (by omega)
       (try rw [show ((0 : Int)).toNat = 0 from rfl] at hx103_0)
       (try rw [show 0 * 9 = 0 from rfl] at hx103_0)
       (try rw [Addr.add_zero'] at hx103_0)
       (try rw [show ((0 : Int)).toNat = 0 from rfl] at hx103_1)
       (try rw [show 0 * 9 = 0 from rfl] at hx103_1)
       (try rw [Addr.add_zero'] at hx103_1)
       (try rw [show ((0 : Int)).toNat = 0 from rfl] at hx103_2)
       (try rw [show 0 * 9 = 0 from rfl] at hx103_2)
       (try rw [Addr.add_zero'] at hx103_2)
       (try rw [show ((0 : Int)).toNat = 0 from rfl] at hx103_3)
       (try rw [show 0 * 9 = 0 from rfl] at hx103_3)
       (try rw [Addr.add_zero'] at hx103_3)
       (try rw [show ((0 : Int)).toNat = 0 from rfl] at hx103_4)
       (try rw [show 0 * 9 = 0 from rfl] at hx103_4)
       (try rw [Addr.add_zero'] at hx103_4)
       (try rw [show ((0 : Int)).toNat = 0 from rfl] at hx103_5)
       (try rw [show 0 * 9 = 0 from rfl] at hx103_5)
       (try rw [Addr.add_zero'] at hx103_5)
       (try rw [show ((0 : Int)).toNat = 0 from rfl] at hx103_6)
       (try rw [show 0 * 9 = 0 from rfl] at hx103_6)
       (try rw [Addr.add_zero'] at hx103_6)
       (try rw [show ((0 : Int)).toNat = 0 from rfl] at hx103_7)
       (try rw [show 0 * 9 = 0 from rfl] at hx103_7)
       (try rw [Addr.add_zero'] at hx103_7)
       (try rw [show ((0 : Int)).toNat = 0 from rfl] at hx103_8)
       (try rw [show 0 * 9 = 0 from rfl] at hx103_8)
       (try rw [Addr.add_zero'] at hx103_8)
       have TW103_7 := aM hx103_7
       replace hx103_0 := (HB.out.cell (World.block_lt_of_cell? w _ hx103_0)).trans hx103_0
       replace hx103_1 := (HB.out.cell (World.block_lt_of_cell? w _ hx103_1)).trans hx103_1
       replace hx103_2 := (HB.out.cell (World.block_lt_of_cell? w _ hx103_2)).trans hx103_2
       replace hx103_3 := (HB.out.cell (World.block_lt_of_cell? w _ hx103_3)).trans hx103_3
       replace hx103_4 := (HB.out.cell (World.block_lt_of_cell? w _ hx103_4)).trans hx103_4
       replace hx103_5 := (HB.out.cell (World.block_lt_of_cell? w _ hx103_5)).trans hx103_5
       replace hx103_6 := (HB.out.cell (World.block_lt_of_cell? w _ hx103_6)).trans hx103_6
       replace hx103_7 := (HB.out.cell (World.block_lt_of_cell? w _ hx103_7)).trans hx103_7
       replace hx103_8 := (HB.out.cell (World.block_lt_of_cell? w _ hx103_8)).trans hx103_8
       have HR103_7 := aM hi103_7
       have HC103_7 := aM hl103_7
       clear hi103_7 hl103_7
       replace p103 := eq_true p103
       replace q103 := eq_true q103
       have p104 : 0 ≤ ((ji6) : Int) := of_decide_eq_true z1200
       have q104 : (ji6) < (l0.length : Int) := of_decide_eq_true z1200
       obtain ⟨ad104, A104_7, c104_7, e104, hx104_0, hx104_1, hx104_2, hx104_3, hx104_4, hx104_5, hx104_6, hx104_7, hx104_8, hl104_7, hi104_7⟩ := at_T45 HR0.out (ji6) p104 q104
       have hw104_8 := hx104_8
       have hw104_7 := hx104_7
       have hw104_6 := hx104_6
       have hw104_5 := hx104_5
       have hw104_4 := hx104_4
       have hw104_3 := hx104_3
       have hw104_2 := hx104_2
       have hw104_1 := hx104_1
       have hw104_0 := hx104_0
       obtain rfl : ad103 = ad104 := (by injection e104)
       have TW104_7 := aM hx104_7
       replace hx104_0 := (HB.out.cell (World.block_lt_of_cell? w _ hx104_0)).trans hx104_0
       replace hx104_1 := (HB.out.cell (World.block_lt_of_cell? w _ hx104_1)).trans hx104_1
       replace hx104_2 := (HB.out.cell (World.block_lt_of_cell? w _ hx104_2)).trans hx104_2
       replace hx104_3 := (HB.out.cell (World.block_lt_of_cell? w _ hx104_3)).trans hx104_3
       replace hx104_4 := (HB.out.cell (World.block_lt_of_cell? w _ hx104_4)).trans hx104_4
       replace hx104_5 := (HB.out.cell (World.block_lt_of_cell? w _ hx104_5)).trans hx104_5
       replace hx104_6 := (HB.out.cell (World.block_lt_of_cell? w _ hx104_6)).trans hx104_6
       replace hx104_7 := (HB.out.cell (World.block_lt_of_cell? w _ hx104_7)).trans hx104_7
       replace hx104_8 := (HB.out.cell (World.block_lt_of_cell? w _ hx104_8)).trans hx104_8
       have HR104_7 := aM hi104_7
       have HC104_7 := aM hl104_7
       clear hi104_7 hl104_7
       replace p104 := eq_true p104
       replace q104 := eq_true q104
       refine sA 22 impl_FoldEntries.tab1 impl_FoldEntries.bits1 (fun w' => w'.cell? ad103 = some (.string ((rd_T45 l0 0).f0)) ∧ w'.cell? ⟨ad103.block, ad103.off + 1, none⟩ = some (.int .i64 ((rd_T45 l0 0).f1)) ∧ w'.cell? ⟨ad103.block, ad103.off + 2, none⟩ = some (.int .i64 ((rd_T45 l0 0).f2)) ∧ w'.cell? ⟨ad103.block, ad103.off + 3, none⟩ = some (.int .i64 ((rd_T45 l0 0).f3.f0)) ∧ w'.cell? ⟨ad103.block, ad103.off + 4, none⟩ = some (.int .i64 ((rd_T45 l0 0).f3.f1)) ∧ w'.cell? ⟨ad103.block, ad103.off + 5, none⟩ = some (.int .i64 ((rd_T45 l0 0).f3.f2)) ∧ w'.cell? ⟨ad103.block, ad103.off + 6, none⟩ = some (.int .i64 ((rd_T45 l0 0).f3.f3)) ∧ w'.cell? ⟨ad103.block, ad103.off + 7, none⟩ = some (.slice A103_7 ((rd_T45 l0 0).f3.f4).length c103_7) ∧ w'.cell? ⟨ad103.block, ad103.off + 8, none⟩ = some (.bool ((rd_T45 l0 0).f3.f5)) ∧ w'.cell? (ad103.add (((ji6)).toNat * 9)) = some (.string ((rd_T45 l0 (ji6)).f0)) ∧ w'.cell? ⟨(ad103.add (((ji6)).toNat * 9)).block, (ad103.add (((ji6)).toNat * 9)).off + 1, none⟩ = some (.int .i64 ((rd_T45 l0 (ji6)).f1)) ∧ w'.cell? ⟨(ad103.add (((ji6)).toNat * 9)).block, (ad103.add (((ji6)).toNat * 9)).off + 2, none⟩ = some (.int .i64 ((rd_T45 l0 (ji6)).f2)) ∧ w'.cell? ⟨(ad103.add (((ji6)).toNat * 9)).block, (ad103.add (((ji6)).toNat * 9)).off + 3, none⟩ = some (.int .i64 ((rd_T45 l0 (ji6)).f3.f0)) ∧ w'.cell? ⟨(ad103.add (((ji6)).toNat * 9)).block, (ad103.add (((ji6)).toNat * 9)).off + 4, none⟩ = some (.int .i64 ((rd_T45 l0 (ji6)).f3.f1)) ∧ w'.cell? ⟨(ad103.add (((ji6)).toNat * 9)).block, (ad103.add (((ji6)).toNat * 9)).off + 5, none⟩ = some (.int .i64 ((rd_T45 l0 (ji6)).f3.f2)) ∧ w'.cell? ⟨(ad103.add (((ji6)).toNat * 9)).block, (ad103.add (((ji6)).toNat * 9)).off + 6, none⟩ = some (.int .i64 ((rd_T45 l0 (ji6)).f3.f3)) ∧ w'.cell? ⟨(ad103.add (((ji6)).toNat * 9)).block, (ad103.add (((ji6)).toNat * 9)).off + 7, none⟩ = some (.slice A104_7 ((rd_T45 l0 (ji6)).f3.f4).length c104_7) ∧ w'.cell? ⟨(ad103.add (((ji6)).toNat * 9)).block, (ad103.add (((ji6)).toNat * 9)).off + 8, none⟩ = some (.bool ((rd_T45 l0 (ji6)).f3.f5))) [] (fun hHeld HT_ HW_ => ?_)
       generalize w11.drew = w12 at BK101 HB HR103_7 HR104_7 hx103_0 hx103_1 hx103_2 hx103_3 hx103_4 hx103_5 hx103_6 hx103_7 hx103_8 hx104_0 hx104_1 hx104_2 hx104_3 hx104_4 hx104_5 hx104_6 hx104_7 hx104_8 hHeld ⊢
       refine pA 0 7 HT_ ?_; refine oA 1 8 HT_ (fun K hK => ?_)
       refine goes_ Try.func28 (by kernel_rfl) rfl #[.slice (some ad103) l0.length c0] (by rfl) rfl rfl zee81 ?_
       with_reducible refine (impl_GoodEntries.calls k _ _ l0 true _ ?side1 ?side2 A2.out).mono ?_
       (case side1 => exact (cZ (Kd.C_below HR0.out HB.out)))
       (case side2 => exact HC0.out)
       rintro e w13 ⟨rfl, hb⟩
       refine ⟨_, rfl, ?_⟩
       have _ := bB gb101 hb
       have _ := aM (below_step hbZ hb)
       clear BK101
       clear HB
       rename_i BK101 HB
       (try clear hb)
       (try clear hb2)
       (try clear hk)
       (try clear hi)
       refine hK.out _ _ sZ (fun hHeld => ?_)
       clear hK K
       refine nA 8 ?_; refine pA 2 9 HT_ ?_; refine pA 3 10 HT_ ?_; refine pA 4 11 HT_ ?_; refine pA 5 12 HT_ ?_; refine pA 6 13 HT_ ?_; refine pA 7 14 HT_ ?_; refine pA 8 15 HT_ ?_; refine pA 9 16 HT_ ?_; refine pA 10 17 HT_ ?_; refine pA 12 19 HT_ ?_; refine pA 13 20 HT_ ?_; refine pA 14 21 HT_ ?_; refine pA 15 22 HT_ ?_; refine pA 16 23 HT_ ?_; refine pA 17 24 HT_ ?_; refine tA 11 18 HT_ HW_ hHeld ?_; refine tA 18 25 HT_ HW_ hHeld ?_; refine pA 19 26 HT_ ?_; refine pA 20 27 HT_ ?_; refine pA 21 28 HT_ ?_
       refine done_ (done_of HT_.out (by kernel_rfl)) ?_
       try go_wp2_with (first | ((with_reducible refine gate_callee (f := 35) rfl ?_); refine goesL_ (some 32) rfl rfl Try.func35 (by kernel_rfl) rfl #[.slice (some ad103) l0.length c0] rfl zee81 ?_; (with_reducible refine (impl_fold.calls k _ _ l0 t105 t106 t107 t108 t109 t112 t113 _ ?side1 ?side2 A10.out).mono ?_); (case side1 => exact (cZ (Kd.C_below HR0.out HB.out))); (case side2 => exact HC0.out); rintro e w14 ⟨v110, rfl, ho0, hb⟩; refine ⟨_, rfl, ?_⟩; have _ := aM (Kd.R_lower ho0 (below_size hbZ)); have _ := bB gb101 hb; have _ := aM (below_step hbZ hb); clear BK101 HB; rename_i HO111 BK101 HB; (try clear hb); (try clear ho0)) | ((with_reducible refine gate_dst (N := 5) rfl ?_); (try (refine gate_guard (by rfl) ?_; dsimp only)); refine box_event ?hg (N := 5) ?hd (cs := #[.int .i64 0, .int .i64 0, .int .i64 0, .int .i64 0, .slice none 0 0, .bool false]) (t := 26) ?hr ?_; (case hd => rfl); (case hg => rfl); (case hr => first | (go_simp; done) | (go_simp; rfl)); intro gb114 hg w15 hbox hb; have _ := aM (Kd.R_below (rZ HO111.out) hb); have _ := bB gb101 hb; have _ := aM (below_step hbZ hb); have _ := aM hbox; have _ := szZ hg; have _ := szZ hg; have ⟨_, _⟩ := nbB gb101 hg; clear HO111 BK101 HB; rename_i HO111 BK101 HB BK114 GW114 GE114 NB101_114 NB114_101; clear hb hbox hg; have hnb16 := NB114_101.out; have hnc16 := NB101_114.out; obtain ⟨hcz17_0, hcz17_1, hcz17_2, hcz17_3, hcz17_4, hcz17_5, hfz17_0, hfz17_1, hfz17_2, hfz17_3, hfz17_4, hfz17_5⟩ := cellsZ6 BK114.out; obtain ⟨Ao18, co18, eo18⟩ := Kd.R_slice HO111.out; subst eo18; obtain ⟨hcz19_0, hcz19_1, hcz19_2, hcz19_3, hcz19_4, hcz19_5, hfz19_0, hfz19_1, hfz19_2, hfz19_3, hfz19_4, hfz19_5⟩ := cellsZ6 BK101.out))
       refine bodyPost_ret (results_ctt rfl _ _ gb101 26 #[.int .i64 t105, .int .i64 t106, .int .i64 t107, .int .i64 t108, .slice Ao18 t109.length co18, .bool t112] (0, 0) _ rfl bkZ Try.underlying26 rfl (by kernel_rfl)) rfl ?_
       exact ⟨_, by first | rfl | (simp [errW_none, errW_some] <;> rfl) | (simp only [← hji6]; first | rfl | (simp [errW_none, errW_some] <;> rfl)) | (simp [*, errW_none, errW_some] <;> rfl), by (with_reducible repeat (first | apply Kd.R_alloc | apply Kd.R_drewN | apply Kd.R_drew)); exact Kd.R_mono (Kd.R_far (p := ⟨gb101, 5, none⟩) (Kd.R_far (p := ⟨gb101, 4, none⟩) (Kd.R_far (p := ⟨gb101, 3, none⟩) (Kd.R_far (p := ⟨gb101, 2, none⟩) (Kd.R_far (p := ⟨gb101, 1, none⟩) (Kd.R_far (p := ⟨gb101, 0, none⟩) (Kd.R_far (p := ⟨gb114, 5, none⟩) (Kd.R_far (p := ⟨gb114, 4, none⟩) (Kd.R_far (p := ⟨gb114, 3, none⟩) (Kd.R_far (p := ⟨gb114, 2, none⟩) (Kd.R_far (p := ⟨gb114, 1, none⟩) (Kd.R_far (p := ⟨gb114, 0, none⟩) (Kd.R_types (Kd.R_types HO111.out BK114.out (by decide)) BK101.out (by decide)) (fun _ hk => hk.1.2) (.int .i64 t105)) (fun _ hk => hk.1.2) (.int .i64 t106)) (fun _ hk => hk.1.2) (.int .i64 t107)) (fun _ hk => hk.1.2) (.int .i64 t108)) (fun _ hk => hk.1.2) (.slice Ao18 t109.length co18)) (fun _ hk => hk.1.2) (.bool t112)) (fun _ hk => hk.2) (.int .i64 t105)) (fun _ hk => hk.2) (.int .i64 t106)) (fun _ hk => hk.2) (.int .i64 t107)) (fun _ hk => hk.2) (.int .i64 t108)) (fun _ hk => hk.2) (.slice Ao18 t109.length co18)) (fun _ hk => hk.2) (.bool t112)) (fun _ hk => trivial), zcb41⟩
     · rw [if_neg c9] at H
       have c9b0 : (((rd_T45 l0 0).f0).toList == ((rd_T45 l0 (ji6)).f0).toList) = false := beq_eq_false_iff_ne.mpr c9
       have c9b1 : (((rd_T45 l0 0).f0).toList != ((rd_T45 l0 (ji6)).f0).toList) = true := bne_iff_ne.mpr c9
       simp only [Option.some.injEq, Prod.mk.injEq] at H
       obtain ⟨rfl, rfl, rfl, rfl, rfl, rfl, rfl, rfl⟩ := H
       go_enter Try.func10, Try.ntmps10
       try go_wp2_with (first | ((with_reducible refine gate_dst (N := 2) rfl ?_); (try (refine gate_guard (by rfl) ?_; dsimp only)); refine box_event ?hg (N := 2) ?hd (cs := #[.int .i64 0, .int .i64 0, .int .i64 0, .int .i64 0, .slice none 0 0, .bool false]) (t := 26) ?hr ?_; (case hd => rfl); (case hg => rfl); (case hr => first | (go_simp; done) | (go_simp; rfl)); intro gb101 hg w20 hbox hb; have _ := aM (below_step hbZ hb); have _ := aM hbox; have _ := szZ hg; have _ := szZ hg; clear HB; rename_i HB BK101 GW101 GE101; clear hb hbox hg))
       have _ := aM (blk_drew BK101.out)
       have _ := aM (below_drew1 HB.out)
       clear BK101
       clear HB
       rename_i BK101 HB
       have p103 : 0 ≤ (0 : Int) := (by omega)
       have q103 : 0 < (l0.length : Int) := of_decide_eq_true z1200
       obtain ⟨ad103, A103_7, c103_7, e103, hx103_0, hx103_1, hx103_2, hx103_3, hx103_4, hx103_5, hx103_6, hx103_7, hx103_8, hl103_7, hi103_7⟩ := at_T45 HR0.out 0 p103 q103
       have hw103_8 := hx103_8
       (try rw [show ((0 : Int)).toNat = 0 from rfl] at hw103_8)
       (try rw [show 0 * 9 = 0 from rfl] at hw103_8)
       (try rw [Addr.add_zero'] at hw103_8)
       have hw103_7 := hx103_7
       (try rw [show ((0 : Int)).toNat = 0 from rfl] at hw103_7)
       (try rw [show 0 * 9 = 0 from rfl] at hw103_7)
       (try rw [Addr.add_zero'] at hw103_7)
       have hw103_6 := hx103_6
       (try rw [show ((0 : Int)).toNat = 0 from rfl] at hw103_6)
       (try rw [show 0 * 9 = 0 from rfl] at hw103_6)
       (try rw [Addr.add_zero'] at hw103_6)
       have hw103_5 := hx103_5
       (try rw [show ((0 : Int)).toNat = 0 from rfl] at hw103_5)
       (try rw [show 0 * 9 = 0 from rfl] at hw103_5)
       (try rw [Addr.add_zero'] at hw103_5)
       have hw103_4 := hx103_4
       (try rw [show ((0 : Int)).toNat = 0 from rfl] at hw103_4)
       (try rw [show 0 * 9 = 0 from rfl] at hw103_4)
       (try rw [Addr.add_zero'] at hw103_4)
       have hw103_3 := hx103_3
       (try rw [show ((0 : Int)).toNat = 0 from rfl] at hw103_3)
       (try rw [show 0 * 9 = 0 from rfl] at hw103_3)
       (try rw [Addr.add_zero'] at hw103_3)
       have hw103_2 := hx103_2
       (try rw [show ((0 : Int)).toNat = 0 from rfl] at hw103_2)
       (try rw [show 0 * 9 = 0 from rfl] at hw103_2)
       (try rw [Addr.add_zero'] at hw103_2)
       have hw103_1 := hx103_1
       (try rw [show ((0 : Int)).toNat = 0 from rfl] at hw103_1)
       (try rw [show 0 * 9 = 0 from rfl] at hw103_1)
       (try rw [Addr.add_zero'] at hw103_1)
       have hw103_0 := hx103_0
       (try rw [show ((0 : Int)).toNat = 0 from rfl] at hw103_0)
       (try rw [show 0 * 9 = 0 from rfl] at hw103_0)
       (try rw [Addr.add_zero'] at hw103_0)
       cases e103
       have qi103 : (0 < l0.length) = True := eq_true (by omega)
       (try rw [show ((0 : Int)).toNat = 0 from rfl] at hx103_0)
       (try rw [show 0 * 9 = 0 from rfl] at hx103_0)
       (try rw [Addr.add_zero'] at hx103_0)
       (try rw [show ((0 : Int)).toNat = 0 from rfl] at hx103_1)
       (try rw [show 0 * 9 = 0 from rfl] at hx103_1)
       (try rw [Addr.add_zero'] at hx103_1)
       (try rw [show ((0 : Int)).toNat = 0 from rfl] at hx103_2)
       (try rw [show 0 * 9 = 0 from rfl] at hx103_2)
       (try rw [Addr.add_zero'] at hx103_2)
       (try rw [show ((0 : Int)).toNat = 0 from rfl] at hx103_3)
       (try rw [show 0 * 9 = 0 from rfl] at hx103_3)
       (try rw [Addr.add_zero'] at hx103_3)
       (try rw [show ((0 : Int)).toNat = 0 from rfl] at hx103_4)
       (try rw [show 0 * 9 = 0 from rfl] at hx103_4)
       (try rw [Addr.add_zero'] at hx103_4)
       (try rw [show ((0 : Int)).toNat = 0 from rfl] at hx103_5)
       (try rw [show 0 * 9 = 0 from rfl] at hx103_5)
       (try rw [Addr.add_zero'] at hx103_5)
       (try rw [show ((0 : Int)).toNat = 0 from rfl] at hx103_6)
       (try rw [show 0 * 9 = 0 from rfl] at hx103_6)
       (try rw [Addr.add_zero'] at hx103_6)
       (try rw [show ((0 : Int)).toNat = 0 from rfl] at hx103_7)
       (try rw [show 0 * 9 = 0 from rfl] at hx103_7)
       (try rw [Addr.add_zero'] at hx103_7)
       (try rw [show ((0 : Int)).toNat = 0 from rfl] at hx103_8)
       (try rw [show 0 * 9 = 0 from rfl] at hx103_8)
       (try rw [Addr.add_zero'] at hx103_8)
       have TW103_7 := aM hx103_7
       replace hx103_0 := (HB.out.cell (World.block_lt_of_cell? w _ hx103_0)).trans hx103_0
       replace hx103_1 := (HB.out.cell (World.block_lt_of_cell? w _ hx103_1)).trans hx103_1
       replace hx103_2 := (HB.out.cell (World.block_lt_of_cell? w _ hx103_2)).trans hx103_2
       replace hx103_3 := (HB.out.cell (World.block_lt_of_cell? w _ hx103_3)).trans hx103_3
       replace hx103_4 := (HB.out.cell (World.block_lt_of_cell? w _ hx103_4)).trans hx103_4
       replace hx103_5 := (HB.out.cell (World.block_lt_of_cell? w _ hx103_5)).trans hx103_5
       replace hx103_6 := (HB.out.cell (World.block_lt_of_cell? w _ hx103_6)).trans hx103_6
       replace hx103_7 := (HB.out.cell (World.block_lt_of_cell? w _ hx103_7)).trans hx103_7
       replace hx103_8 := (HB.out.cell (World.block_lt_of_cell? w _ hx103_8)).trans hx103_8
       have HR103_7 := aM hi103_7
       have HC103_7 := aM hl103_7
       clear hi103_7 hl103_7
       replace p103 := eq_true p103
       replace q103 := eq_true q103
       have p104 : 0 ≤ ((ji6) : Int) := of_decide_eq_true z1200
       have q104 : (ji6) < (l0.length : Int) := of_decide_eq_true z1200
       obtain ⟨ad104, A104_7, c104_7, e104, hx104_0, hx104_1, hx104_2, hx104_3, hx104_4, hx104_5, hx104_6, hx104_7, hx104_8, hl104_7, hi104_7⟩ := at_T45 HR0.out (ji6) p104 q104
       have hw104_8 := hx104_8
       have hw104_7 := hx104_7
       have hw104_6 := hx104_6
       have hw104_5 := hx104_5
       have hw104_4 := hx104_4
       have hw104_3 := hx104_3
       have hw104_2 := hx104_2
       have hw104_1 := hx104_1
       have hw104_0 := hx104_0
       obtain rfl : ad103 = ad104 := (by injection e104)
       have TW104_7 := aM hx104_7
       replace hx104_0 := (HB.out.cell (World.block_lt_of_cell? w _ hx104_0)).trans hx104_0
       replace hx104_1 := (HB.out.cell (World.block_lt_of_cell? w _ hx104_1)).trans hx104_1
       replace hx104_2 := (HB.out.cell (World.block_lt_of_cell? w _ hx104_2)).trans hx104_2
       replace hx104_3 := (HB.out.cell (World.block_lt_of_cell? w _ hx104_3)).trans hx104_3
       replace hx104_4 := (HB.out.cell (World.block_lt_of_cell? w _ hx104_4)).trans hx104_4
       replace hx104_5 := (HB.out.cell (World.block_lt_of_cell? w _ hx104_5)).trans hx104_5
       replace hx104_6 := (HB.out.cell (World.block_lt_of_cell? w _ hx104_6)).trans hx104_6
       replace hx104_7 := (HB.out.cell (World.block_lt_of_cell? w _ hx104_7)).trans hx104_7
       replace hx104_8 := (HB.out.cell (World.block_lt_of_cell? w _ hx104_8)).trans hx104_8
       have HR104_7 := aM hi104_7
       have HC104_7 := aM hl104_7
       clear hi104_7 hl104_7
       replace p104 := eq_true p104
       replace q104 := eq_true q104
       refine sA 22 impl_FoldEntries.tab1 impl_FoldEntries.bits1 (fun w' => w'.cell? ad103 = some (.string ((rd_T45 l0 0).f0)) ∧ w'.cell? ⟨ad103.block, ad103.off + 1, none⟩ = some (.int .i64 ((rd_T45 l0 0).f1)) ∧ w'.cell? ⟨ad103.block, ad103.off + 2, none⟩ = some (.int .i64 ((rd_T45 l0 0).f2)) ∧ w'.cell? ⟨ad103.block, ad103.off + 3, none⟩ = some (.int .i64 ((rd_T45 l0 0).f3.f0)) ∧ w'.cell? ⟨ad103.block, ad103.off + 4, none⟩ = some (.int .i64 ((rd_T45 l0 0).f3.f1)) ∧ w'.cell? ⟨ad103.block, ad103.off + 5, none⟩ = some (.int .i64 ((rd_T45 l0 0).f3.f2)) ∧ w'.cell? ⟨ad103.block, ad103.off + 6, none⟩ = some (.int .i64 ((rd_T45 l0 0).f3.f3)) ∧ w'.cell? ⟨ad103.block, ad103.off + 7, none⟩ = some (.slice A103_7 ((rd_T45 l0 0).f3.f4).length c103_7) ∧ w'.cell? ⟨ad103.block, ad103.off + 8, none⟩ = some (.bool ((rd_T45 l0 0).f3.f5)) ∧ w'.cell? (ad103.add (((ji6)).toNat * 9)) = some (.string ((rd_T45 l0 (ji6)).f0)) ∧ w'.cell? ⟨(ad103.add (((ji6)).toNat * 9)).block, (ad103.add (((ji6)).toNat * 9)).off + 1, none⟩ = some (.int .i64 ((rd_T45 l0 (ji6)).f1)) ∧ w'.cell? ⟨(ad103.add (((ji6)).toNat * 9)).block, (ad103.add (((ji6)).toNat * 9)).off + 2, none⟩ = some (.int .i64 ((rd_T45 l0 (ji6)).f2)) ∧ w'.cell? ⟨(ad103.add (((ji6)).toNat * 9)).block, (ad103.add (((ji6)).toNat * 9)).off + 3, none⟩ = some (.int .i64 ((rd_T45 l0 (ji6)).f3.f0)) ∧ w'.cell? ⟨(ad103.add (((ji6)).toNat * 9)).block, (ad103.add (((ji6)).toNat * 9)).off + 4, none⟩ = some (.int .i64 ((rd_T45 l0 (ji6)).f3.f1)) ∧ w'.cell? ⟨(ad103.add (((ji6)).toNat * 9)).block, (ad103.add (((ji6)).toNat * 9)).off + 5, none⟩ = some (.int .i64 ((rd_T45 l0 (ji6)).f3.f2)) ∧ w'.cell? ⟨(ad103.add (((ji6)).toNat * 9)).block, (ad103.add (((ji6)).toNat * 9)).off + 6, none⟩ = some (.int .i64 ((rd_T45 l0 (ji6)).f3.f3)) ∧ w'.cell? ⟨(ad103.add (((ji6)).toNat * 9)).block, (ad103.add (((ji6)).toNat * 9)).off + 7, none⟩ = some (.slice A104_7 ((rd_T45 l0 (ji6)).f3.f4).length c104_7) ∧ w'.cell? ⟨(ad103.add (((ji6)).toNat * 9)).block, (ad103.add (((ji6)).toNat * 9)).off + 8, none⟩ = some (.bool ((rd_T45 l0 (ji6)).f3.f5))) [] (fun hHeld HT_ HW_ => ?_)
       generalize w20.drew = w21 at BK101 HB HR103_7 HR104_7 hx103_0 hx103_1 hx103_2 hx103_3 hx103_4 hx103_5 hx103_6 hx103_7 hx103_8 hx104_0 hx104_1 hx104_2 hx104_3 hx104_4 hx104_5 hx104_6 hx104_7 hx104_8 hHeld ⊢
       refine pA 0 7 HT_ ?_; refine oA 1 8 HT_ (fun K hK => ?_)
       refine goes_ Try.func28 (by kernel_rfl) rfl #[.slice (some ad103) l0.length c0] (by rfl) rfl rfl zee81 ?_
       with_reducible refine (impl_GoodEntries.calls k _ _ l0 true _ ?side1 ?side2 A2.out).mono ?_
       (case side1 => exact (cZ (Kd.C_below HR0.out HB.out)))
       (case side2 => exact HC0.out)
       rintro e w22 ⟨rfl, hb⟩
       refine ⟨_, rfl, ?_⟩
       have _ := bB gb101 hb
       have _ := aM (below_step hbZ hb)
       clear BK101
       clear HB
       rename_i BK101 HB
       (try clear hb)
       (try clear hb2)
       (try clear hk)
       (try clear hi)
       refine hK.out _ _ sZ (fun hHeld => ?_)
       clear hK K
       refine nA 8 ?_; refine pA 2 9 HT_ ?_; refine pA 3 10 HT_ ?_; refine pA 4 11 HT_ ?_; refine pA 5 12 HT_ ?_; refine pA 6 13 HT_ ?_; refine pA 7 14 HT_ ?_; refine pA 8 15 HT_ ?_; refine pA 9 16 HT_ ?_; refine pA 10 17 HT_ ?_; refine pA 12 19 HT_ ?_; refine pA 13 20 HT_ ?_; refine pA 14 21 HT_ ?_; refine pA 15 22 HT_ ?_; refine pA 16 23 HT_ ?_; refine pA 17 24 HT_ ?_; refine tA 11 18 HT_ HW_ hHeld ?_; refine tA 18 25 HT_ HW_ hHeld ?_; refine pA 19 26 HT_ ?_; refine pA 20 27 HT_ ?_; refine pA 21 28 HT_ ?_
       refine done_ (done_of HT_.out (by kernel_rfl)) ?_
       obtain ⟨hcz23_0, hcz23_1, hcz23_2, hcz23_3, hcz23_4, hcz23_5, hfz23_0, hfz23_1, hfz23_2, hfz23_3, hfz23_4, hfz23_5⟩ := cellsZ6 BK101.out
       try go_wp2
       refine bodyPost_ret (results_ctt rfl _ _ gb101 26 #[.int .i64 0, .int .i64 0, .int .i64 0, .int .i64 0, .slice none 0 0, .bool false] (0, 0) _ rfl bkZ Try.underlying26 rfl (by kernel_rfl)) rfl ?_
       exact ⟨_, by first | rfl | (simp [errW_none, errW_some] <;> rfl) | (simp only [← hji6]; first | rfl | (simp [errW_none, errW_some] <;> rfl)) | (simp [*, errW_none, errW_some] <;> rfl), z02fa, zcb41⟩
   · rw [if_neg c4] at H
     have c4b0 : decide (0 < (l0.length : Int)) = false := decide_eq_false c4
     have c4b1 : decide (0 < l0.length) = false := decide_eq_false (by omega)
     clear c4
     replace H := Option.bind_eq_some_iff.mp H
     obtain ⟨⟨t115, t116, t117, t118, t119, t122, t123⟩, A240, H⟩ := H
     try dsimp only at H
     have A24 := aM A240
     clear A240
     simp only [Option.some.injEq, Prod.mk.injEq] at H
     obtain ⟨rfl, rfl, rfl, rfl, rfl, rfl, rfl, rfl⟩ := H
     go_enter Try.func10, Try.ntmps10
     try go_wp2_with (first | ((with_reducible refine gate_dst (N := 2) rfl ?_); (try (refine gate_guard (by rfl) ?_; dsimp only)); refine box_event ?hg (N := 2) ?hd (cs := #[.int .i64 0, .int .i64 0, .int .i64 0, .int .i64 0, .slice none 0 0, .bool false]) (t := 26) ?hr ?_; (case hd => rfl); (case hg => rfl); (case hr => first | (go_simp; done) | (go_simp; rfl)); intro gb101 hg w25 hbox hb; have _ := aM (below_step hbZ hb); have _ := aM hbox; have _ := szZ hg; have _ := szZ hg; clear HB; rename_i HB BK101 GW101 GE101; clear hb hbox hg))
     have _ := aM (blk_drew BK101.out)
     have _ := aM (below_drew1 HB.out)
     clear BK101
     clear HB
     rename_i BK101 HB
     refine sA 22 impl_FoldEntries.tab1 impl_FoldEntries.bits1 (fun w' => True) [] (fun hHeld HT_ HW_ => ?_)
     generalize w25.drew = w26 at BK101 HB hHeld ⊢
     refine pA 0 7 HT_ ?_; refine oA 1 8 HT_ (fun K hK => ?_)
     refine goes_ Try.func28 (by kernel_rfl) rfl #[.slice A0 l0.length c0] (by rfl) rfl rfl zee81 ?_
     with_reducible refine (impl_GoodEntries.calls k _ _ l0 true _ ?side1 ?side2 A2.out).mono ?_
     (case side1 => exact (cZ (Kd.C_below HR0.out HB.out)))
     (case side2 => exact HC0.out)
     rintro e w27 ⟨rfl, hb⟩
     refine ⟨_, rfl, ?_⟩
     have _ := bB gb101 hb
     have _ := aM (below_step hbZ hb)
     clear BK101
     clear HB
     rename_i BK101 HB
     (try clear hb)
     (try clear hb2)
     (try clear hk)
     (try clear hi)
     refine hK.out _ _ trivial (fun hHeld => ?_)
     clear hK K
     refine nA 8 ?_; refine pA 2 9 HT_ ?_; refine pA 3 10 HT_ ?_; refine pA 4 11 HT_ ?_; refine pA 5 12 HT_ ?_; refine pA 6 13 HT_ ?_; refine pA 7 14 HT_ ?_; refine uA 8 15 HT_ ?_; refine uA 9 16 HT_ ?_; refine uA 10 17 HT_ ?_; refine uA 11 18 HT_ ?_; refine uA 12 19 HT_ ?_; refine uA 13 20 HT_ ?_; refine uA 14 21 HT_ ?_; refine uA 15 22 HT_ ?_; refine uA 16 23 HT_ ?_; refine uA 17 24 HT_ ?_; refine uA 18 25 HT_ ?_; refine uA 19 26 HT_ ?_; refine pA 20 27 HT_ ?_; refine pA 21 28 HT_ ?_
     refine done_ (done_of HT_.out (by kernel_rfl)) ?_
     try go_wp2_with (first | ((with_reducible refine gate_callee (f := 35) rfl ?_); refine goesL_ (some 32) rfl rfl Try.func35 (by kernel_rfl) rfl #[.slice A0 l0.length c0] rfl zee81 ?_; (with_reducible refine (impl_fold.calls k _ _ l0 t115 t116 t117 t118 t119 t122 t123 _ ?side1 ?side2 A24.out).mono ?_); (case side1 => exact (cZ (Kd.C_below HR0.out HB.out))); (case side2 => exact HC0.out); rintro e w28 ⟨v120, rfl, ho0, hb⟩; refine ⟨_, rfl, ?_⟩; have _ := aM (Kd.R_lower ho0 (below_size hbZ)); have _ := bB gb101 hb; have _ := aM (below_step hbZ hb); clear BK101 HB; rename_i HO121 BK101 HB; (try clear hb); (try clear ho0)) | ((with_reducible refine gate_dst (N := 5) rfl ?_); (try (refine gate_guard (by rfl) ?_; dsimp only)); refine box_event ?hg (N := 5) ?hd (cs := #[.int .i64 0, .int .i64 0, .int .i64 0, .int .i64 0, .slice none 0 0, .bool false]) (t := 26) ?hr ?_; (case hd => rfl); (case hg => rfl); (case hr => first | (go_simp; done) | (go_simp; rfl)); intro gb124 hg w29 hbox hb; have _ := aM (Kd.R_below (rZ HO121.out) hb); have _ := bB gb101 hb; have _ := aM (below_step hbZ hb); have _ := aM hbox; have _ := szZ hg; have _ := szZ hg; have ⟨_, _⟩ := nbB gb101 hg; clear HO121 BK101 HB; rename_i HO121 BK101 HB BK124 GW124 GE124 NB101_124 NB124_101; clear hb hbox hg; have hnb30 := NB124_101.out; have hnc30 := NB101_124.out; obtain ⟨hcz31_0, hcz31_1, hcz31_2, hcz31_3, hcz31_4, hcz31_5, hfz31_0, hfz31_1, hfz31_2, hfz31_3, hfz31_4, hfz31_5⟩ := cellsZ6 BK124.out; obtain ⟨Ao32, co32, eo32⟩ := Kd.R_slice HO121.out; subst eo32; obtain ⟨hcz33_0, hcz33_1, hcz33_2, hcz33_3, hcz33_4, hcz33_5, hfz33_0, hfz33_1, hfz33_2, hfz33_3, hfz33_4, hfz33_5⟩ := cellsZ6 BK101.out))
     refine bodyPost_ret (results_ctt rfl _ _ gb101 26 #[.int .i64 t115, .int .i64 t116, .int .i64 t117, .int .i64 t118, .slice Ao32 t119.length co32, .bool t122] (0, 0) _ rfl bkZ Try.underlying26 rfl (by kernel_rfl)) rfl ?_
     exact ⟨_, z674d, by (with_reducible repeat (first | apply Kd.R_alloc | apply Kd.R_drewN | apply Kd.R_drew)); exact Kd.R_mono (Kd.R_far (p := ⟨gb101, 5, none⟩) (Kd.R_far (p := ⟨gb101, 4, none⟩) (Kd.R_far (p := ⟨gb101, 3, none⟩) (Kd.R_far (p := ⟨gb101, 2, none⟩) (Kd.R_far (p := ⟨gb101, 1, none⟩) (Kd.R_far (p := ⟨gb101, 0, none⟩) (Kd.R_far (p := ⟨gb124, 5, none⟩) (Kd.R_far (p := ⟨gb124, 4, none⟩) (Kd.R_far (p := ⟨gb124, 3, none⟩) (Kd.R_far (p := ⟨gb124, 2, none⟩) (Kd.R_far (p := ⟨gb124, 1, none⟩) (Kd.R_far (p := ⟨gb124, 0, none⟩) (Kd.R_types (Kd.R_types HO121.out BK124.out (by decide)) BK101.out (by decide)) (fun _ hk => hk.1.2) (.int .i64 t115)) (fun _ hk => hk.1.2) (.int .i64 t116)) (fun _ hk => hk.1.2) (.int .i64 t117)) (fun _ hk => hk.1.2) (.int .i64 t118)) (fun _ hk => hk.1.2) (.slice Ao32 t119.length co32)) (fun _ hk => hk.1.2) (.bool t122)) (fun _ hk => hk.2) (.int .i64 t115)) (fun _ hk => hk.2) (.int .i64 t116)) (fun _ hk => hk.2) (.int .i64 t117)) (fun _ hk => hk.2) (.int .i64 t118)) (fun _ hk => hk.2) (.slice Ao32 t119.length co32)) (fun _ hk => hk.2) (.bool t122)) (fun _ hk => trivial), zcb41⟩
 · replace c3 := Bool.eq_false_iff.mpr c3
   subst c3
   rw [if_neg (show ¬ (false = true) by decide)] at H
   simp only [Option.some.injEq, Prod.mk.injEq] at H
   obtain ⟨rfl, rfl, rfl, rfl, rfl, rfl, rfl, rfl⟩ := H
   go_enter Try.func10, Try.ntmps10
   try go_wp2_with (first | ((with_reducible refine gate_dst (N := 2) rfl ?_); (try (refine gate_guard (by rfl) ?_; dsimp only)); refine box_event ?hg (N := 2) ?hd (cs := #[.int .i64 0, .int .i64 0, .int .i64 0, .int .i64 0, .slice none 0 0, .bool false]) (t := 26) ?hr ?_; (case hd => rfl); (case hg => rfl); (case hr => first | (go_simp; done) | (go_simp; rfl)); intro gb101 hg w34 hbox hb; have _ := aM (below_step hbZ hb); have _ := aM hbox; have _ := szZ hg; have _ := szZ hg; clear HB; rename_i HB BK101 GW101 GE101; clear hb hbox hg))
   have _ := aM (blk_drew BK101.out)
   have _ := aM (below_drew1 HB.out)
   clear BK101
   clear HB
   rename_i BK101 HB
   refine sA 22 impl_FoldEntries.tab1 impl_FoldEntries.bits1 (fun w' => True) [] (fun hHeld HT_ HW_ => ?_)
   generalize w34.drew = w35 at BK101 HB hHeld ⊢
   refine pA 0 7 HT_ ?_; refine oA 1 8 HT_ (fun K hK => ?_)
   refine goes_ Try.func28 (by kernel_rfl) rfl #[.slice A0 l0.length c0] (by rfl) rfl rfl zee81 ?_
   with_reducible refine (impl_GoodEntries.calls k _ _ l0 false _ ?side1 ?side2 A2.out).mono ?_
   (case side1 => exact (cZ (Kd.C_below HR0.out HB.out)))
   (case side2 => exact HC0.out)
   rintro e w36 ⟨rfl, hb⟩
   refine ⟨_, rfl, ?_⟩
   have _ := bB gb101 hb
   have _ := aM (below_step hbZ hb)
   clear BK101
   clear HB
   rename_i BK101 HB
   (try clear hb)
   (try clear hb2)
   (try clear hk)
   (try clear hi)
   refine hK.out _ _ trivial (fun hHeld => ?_)
   clear hK K
   refine nA 8 ?_; refine pA 2 9 HT_ ?_; refine pA 3 10 HT_ ?_; refine uA 4 11 HT_ ?_; refine uA 5 12 HT_ ?_; refine uA 6 13 HT_ ?_; refine uA 7 14 HT_ ?_; refine uA 8 15 HT_ ?_; refine uA 9 16 HT_ ?_; refine uA 10 17 HT_ ?_; refine uA 11 18 HT_ ?_; refine uA 12 19 HT_ ?_; refine uA 13 20 HT_ ?_; refine uA 14 21 HT_ ?_; refine uA 15 22 HT_ ?_; refine uA 16 23 HT_ ?_; refine uA 17 24 HT_ ?_; refine uA 18 25 HT_ ?_; refine uA 19 26 HT_ ?_; refine uA 20 27 HT_ ?_; refine pA 21 28 HT_ ?_
   refine done_ (done_of HT_.out (by kernel_rfl)) ?_
   obtain ⟨hcz37_0, hcz37_1, hcz37_2, hcz37_3, hcz37_4, hcz37_5, hfz37_0, hfz37_1, hfz37_2, hfz37_3, hfz37_4, hfz37_5⟩ := cellsZ6 BK101.out
   try go_wp2
   refine bodyPost_ret (results_ctt rfl _ _ gb101 26 #[.int .i64 0, .int .i64 0, .int .i64 0, .int .i64 0, .slice none 0 0, .bool false] (0, 0) _ rfl bkZ Try.underlying26 rfl (by kernel_rfl)) rfl ?_
   exact ⟨_, z674d, z02fa, zcb41⟩

end Go.Proofs.Ytdkokfnnebdppaa.P

-- written by a program of this session's (wip/pp)
namespace Go.Proofs.Ytdkokfnnebdppaa.P
open Go.RowKit Go.Proofs.YtdkokfnnebdppaaW.PrintWords Go.Proofs.YtdkokfnnebdppaaW.PrintLast Go.Proofs.YtdkokfnnebdppaaW.PrintMore
attribute [local go_sem] max2_int min2_int max_two min_two max_three min_three max_four min_four str_geq str_gtr str_leq   -- for this text's walks alone
set_option linter.unusedVariables false
set_option linter.unusedSimpArgs false

/-! ### laws_eqIntS: function 36 -/
def laws_eqIntS.l0 : Nat → List Int → List Int → Int → Option (Bool)
 | 0, _, _, _ => none
 | k + 1, x0, x1, x5 => if x5 < (x0.length : Int) then (if 0 ≤ x5 then (if x5 < (x1.length : Int) then (if (rd x0 x5) = (rd x1 x5) then (laws_eqIntS.l0 k x0 x1 (wrap64 (x5 + 1))) else (none)) else (none)) else (none)) else (some true)
def laws_eqIntS.f (k : Nat) (l0 : List Int) (l1 : List Int) : Option (Bool) := if (l0.length : Int) = (l1.length : Int) then (laws_eqIntS.l0 k l0 l1 0) else (none)
theorem laws_eqIntS.mono_l : ∀ k, (∀ y0 y1 y2, LeO (laws_eqIntS.l0 k y0 y1 y2) (laws_eqIntS.l0 (k + 1) y0 y1 y2))
 | 0 => fun _ _ _ r h => by simp [laws_eqIntS.l0] at h
 | k + 1 => by
  have ih0 := laws_eqIntS.mono_l k
  · intro y0 y1 y2
    unfold laws_eqIntS.l0
    repeat' first
     | (with_reducible first | exact ih0 .. | exact LeO.refl _ | exact LeO.none _ | refine LeO.ite ?_ ?_ | refine LeO.bind ?_ (fun _ => ?_))
     | exact LeO.none _
     | refine LeO.ite ?_ ?_
     | refine LeO.bind ?_ (fun _ => ?_)
theorem laws_eqIntS.mono : ∀ a0 a1 k, LeO (laws_eqIntS.f k a0 a1) (laws_eqIntS.f (k + 1) a0 a1) := by
 intro a0 a1 k
 have ih0 := laws_eqIntS.mono_l k
 unfold laws_eqIntS.f
 repeat' first
  | (with_reducible first | exact ih0 .. | exact LeO.refl _ | exact LeO.none _ | refine LeO.ite ?_ ?_ | refine LeO.bind ?_ (fun _ => ?_))
  | exact LeO.none _
  | refine LeO.ite ?_ ?_
  | refine LeO.bind ?_ (fun _ => ?_)
set_option maxHeartbeats 8000000 in
set_option maxRecDepth 100000 in
theorem laws_eqIntS.calls (k : Nat) (A0 : Option Addr) (c0 : Nat) (l0 : List Int) (A1 : Option Addr) (c1 : Nat) (l1 : List Int) (r : Bool) (w : World) (hr0 : Kd.C (Kd.int .i64) w A0 l0.length l0) (hc0 : l0.length ≤ c0) (hr1 : Kd.C (Kd.int .i64) w A1 l1.length l1) (hc1 : l1.length ≤ c1) (h : laws_eqIntS.f k l0 l1 = some r) :
 Calls Try.prog 36 #[.slice A0 l0.length c0, .slice A1 l1.length c1] w fun e w' => e = .returned (.bool r) ∧ Drawn0 w w' := by
 have HR0 := aM hr0
 have HC0 := aM hc0
 clear hr0 hc0
 have HR1 := aM hr1
 have HC1 := aM hc1
 clear hr1 hc1
 have H : (if (l0.length : Int) = (l1.length : Int) then (laws_eqIntS.l0 k l0 l1 0) else (none)) = some r := h
 clear h
 replace H := ifS H; obtain ⟨c3, H⟩ := H
 have c3b0 : ((l0.length : Int) == (l1.length : Int)) = true := beq_iff_eq.mpr c3
 have c3b1 : ((l0.length : Int) != (l1.length : Int)) = false := bne_eq_false_iff_eq.mpr c3
 have c3b2 : (l0.length == l1.length) = true := by first | simpa using c3 | (simp at c3 ⊢; omega)
 clear c3
 have H' := aM H
 clear H
 go_enter Try.func36, Try.ntmps36
 go_wp2
 repeat (go_quiet (fail); try go_wp2)
 go_loopg [5] k (fun kq v5 w' => ∃ (x5_1 : Int), v5 = .int .i64 x5_1 ∧ Aside0 (laws_eqIntS.l0 kq l0 l1 x5_1 = some r) ∧ Aside0 (kq ≤ k) ∧ Drawn0 w w')
 case atStart => exact ⟨(0), z4458, H', ⟨Nat.le_refl _⟩, za9de⟩
 case round =>
  clear H'
  try clear c1
  try clear p2
  try clear c3
  try clear c3b0
  try clear c3b1
  try clear c3b2
  obtain ⟨x5_1, rfl, HA, HK1, ⟨m1, rfl⟩⟩ := hrel
  cases gk with
  | zero => exact absurd HA.out (by simp [laws_eqIntS.l0])
  | succ k1 =>
   have H := HA.out
   clear HA
   simp only [laws_eqIntS.l0] at H
   by_cases c4 : x5_1 < (l0.length : Int)
   · rw [if_pos c4] at H
     have c4b0 : decide (x5_1 < (l0.length : Int)) = true := decide_eq_true c4
     clear c4
     replace H := ifS H; obtain ⟨c5, H⟩ := H
     have c5b0 : decide (0 ≤ x5_1) = true := decide_eq_true c5
     clear c5
     replace H := ifS H; obtain ⟨c6, H⟩ := H
     have c6b0 : decide (x5_1 < (l1.length : Int)) = true := decide_eq_true c6
     clear c6
     replace H := ifS H; obtain ⟨c7, H⟩ := H
     have c7b0 : ((rd l0 x5_1) == (rd l1 x5_1)) = true := beq_iff_eq.mpr c7
     have c7b1 : ((rd l0 x5_1) != (rd l1 x5_1)) = false := bne_eq_false_iff_eq.mpr c7
     clear c7
     have H' := aM H
     clear H
     have p101 : 0 ≤ (x5_1 : Int) := of_decide_eq_true z1200
     have q101 : x5_1 < (l0.length : Int) := of_decide_eq_true z1200
     obtain ⟨ad101, e101, hx101_0⟩ := Kd.at_int HR0.out x5_1 p101 q101
     cases e101
     replace p101 := eq_true p101
     replace q101 := eq_true q101
     have p102 : 0 ≤ (x5_1 : Int) := of_decide_eq_true z1200
     have q102 : x5_1 < (l1.length : Int) := of_decide_eq_true z1200
     obtain ⟨ad102, e102, hx102_0⟩ := Kd.at_int HR1.out x5_1 p102 q102
     cases e102
     replace p102 := eq_true p102
     replace q102 := eq_true q102
     go_wp2
     repeat (go_quiet (fail); try go_wp2)
     go_roundg k1
     case measure => have := HK1.out; omega
     case rel => exact ⟨(wrap64 (x5_1 + 1)), z4458, H', ⟨zfb39⟩, za9de⟩
   · rw [if_neg c4] at H
     have c4b0 : decide (x5_1 < (l0.length : Int)) = false := decide_eq_false c4
     clear c4
     obtain rfl := Option.some.inj H
     go_wp2
     repeat (go_quiet (fail); try go_wp2)
     go_ret
     exact ⟨z4458, za9de⟩
end Go.Proofs.Ytdkokfnnebdppaa.P

-- written by a program of this session's (wip/pp)
namespace Go.Proofs.Ytdkokfnnebdppaa.P
open Go.RowKit Go.Proofs.YtdkokfnnebdppaaW.PrintWords Go.Proofs.YtdkokfnnebdppaaW.PrintLast Go.Proofs.YtdkokfnnebdppaaW.PrintMore
attribute [local go_sem] max2_int min2_int max_two min_two max_three min_three max_four min_four str_geq str_gtr str_leq   -- for this text's walks alone
set_option linter.unusedVariables false
set_option linter.unusedSimpArgs false

/-! ### laws_eqAgg: function 11 -/
def laws_eqAgg.f (k : Nat) (a0_0 : Int) (a0_1 : Int) (a0_2 : Int) (a0_3 : Int) (l0_4 : List Int) (a0_5 : Bool) (a1_0 : Int) (a1_1 : Int) (a1_2 : Int) (a1_3 : Int) (l1_4 : List Int) (a1_5 : Bool) : Option (Bool) := if a0_0 = a1_0 then (if a0_1 = a1_1 then (if a0_2 = a1_2 then (if a0_3 = a1_3 then ((laws_eqIntS.f k l0_4 l1_4).bind fun t103 => (if t103 = true then (if (a0_5 != a1_5) = true then (none) else (some true)) else (none))) else (none)) else (none)) else (none)) else (none)
theorem laws_eqAgg.mono : ∀ a0 a1 a2 a3 a4 a5 a6 a7 a8 a9 a10 a11 k, LeO (laws_eqAgg.f k a0 a1 a2 a3 a4 a5 a6 a7 a8 a9 a10 a11) (laws_eqAgg.f (k + 1) a0 a1 a2 a3 a4 a5 a6 a7 a8 a9 a10 a11) := by
 intro a0 a1 a2 a3 a4 a5 a6 a7 a8 a9 a10 a11 k
 unfold laws_eqAgg.f
 repeat' first
  | (with_reducible first | exact laws_eqIntS.mono .. | exact LeO.refl _ | exact LeO.none _ | refine LeO.ite ?_ ?_ | refine LeO.bind ?_ (fun _ => ?_))
  | exact LeO.none _
  | refine LeO.ite ?_ ?_
  | refine LeO.bind ?_ (fun _ => ?_)
set_option maxHeartbeats 8000000 in
set_option maxRecDepth 100000 in
theorem laws_eqAgg.calls (k : Nat) (a0_0 : Int) (a0_1 : Int) (a0_2 : Int) (a0_3 : Int) (A0_4 : Option Addr) (c0_4 : Nat) (l0_4 : List Int) (a0_5 : Bool) (a1_0 : Int) (a1_1 : Int) (a1_2 : Int) (a1_3 : Int) (A1_4 : Option Addr) (c1_4 : Nat) (l1_4 : List Int) (a1_5 : Bool) (r : Bool) (w : World) (hr0_4 : Kd.C (Kd.int .i64) w A0_4 l0_4.length l0_4) (hc0_4 : l0_4.length ≤ c0_4) (hr1_4 : Kd.C (Kd.int .i64) w A1_4 l1_4.length l1_4) (hc1_4 : l1_4.length ≤ c1_4) (h : laws_eqAgg.f k a0_0 a0_1 a0_2 a0_3 l0_4 a0_5 a1_0 a1_1 a1_2 a1_3 l1_4 a1_5 = some r) :
 Calls Try.prog 11 #[.agg #[.int .i64 a0_0, .int .i64 a0_1, .int .i64 a0_2, .int .i64 a0_3, .slice A0_4 l0_4.length c0_4, .bool a0_5], .agg #[.int .i64 a1_0, .int .i64 a1_1, .int .i64 a1_2, .int .i64 a1_3, .slice A1_4 l1_4.length c1_4, .bool a1_5]] w fun e w' => e = .returned (.bool r) ∧ Below w.heap.size w w' := by
 have hu26 := Try.underlying26
 have HR0_4 := aM hr0_4
 have HC0_4 := aM hc0_4
 clear hr0_4 hc0_4
 have HR1_4 := aM hr1_4
 have HC1_4 := aM hc1_4
 clear hr1_4 hc1_4
 have HB := aM (Below.refl w.heap.size w)
 have H : (if a0_0 = a1_0 then (if a0_1 = a1_1 then (if a0_2 = a1_2 then (if a0_3 = a1_3 then ((laws_eqIntS.f k l0_4 l1_4).bind fun t103 => (if t103 = true then (if (a0_5 != a1_5) = true then (none) else (some true)) else (none))) else (none)) else (none)) else (none)) else (none)) = some r := h
 clear h
 replace H := ifS H; obtain ⟨c3, H⟩ := H
 have c3b0 : (a0_0 == a1_0) = true := beq_iff_eq.mpr c3
 have c3b1 : (a0_0 != a1_0) = false := bne_eq_false_iff_eq.mpr c3
 clear c3
 replace H := ifS H; obtain ⟨c4, H⟩ := H
 have c4b0 : (a0_1 == a1_1) = true := beq_iff_eq.mpr c4
 have c4b1 : (a0_1 != a1_1) = false := bne_eq_false_iff_eq.mpr c4
 clear c4
 replace H := ifS H; obtain ⟨c5, H⟩ := H
 have c5b0 : (a0_2 == a1_2) = true := beq_iff_eq.mpr c5
 have c5b1 : (a0_2 != a1_2) = false := bne_eq_false_iff_eq.mpr c5
 clear c5
 replace H := ifS H; obtain ⟨c6, H⟩ := H
 have c6b0 : (a0_3 == a1_3) = true := beq_iff_eq.mpr c6
 have c6b1 : (a0_3 != a1_3) = false := bne_eq_false_iff_eq.mpr c6
 clear c6
 replace H := Option.bind_eq_some_iff.mp H
 obtain ⟨t103, A70, H⟩ := H
 try dsimp only at H
 have A7 := aM A70
 clear A70
 by_cases c8 : t103 = true
 · subst c8
   rw [if_pos rfl] at H
   replace H := ifN H; obtain ⟨c9, H⟩ := H
   have c9b0 : (a0_5 != a1_5) = false := by simpa using c9
   (try (have c9b1 : decide (a0_5 = a1_5) = true := by simpa using c9))
   (try (have c9b2 : (a0_5 == a1_5) = true := by simpa using c9))
   clear c9
   obtain rfl := Option.some.inj H
   go_enter Try.func11, Try.ntmps11
   go_wp2_with (first | ((with_reducible refine gate_dst (N := 2) rfl ?_); refine box_event ?hg (N := 2) ?hd (cs := #[.int .i64 a0_0, .int .i64 a0_1, .int .i64 a0_2, .int .i64 a0_3, .slice A0_4 l0_4.length c0_4, .bool a0_5]) (t := 26) ?hr ?_; (case hd => rfl); (case hg => rfl); (case hr => first | (go_simp; done) | (go_simp; rfl)); intro gb101 hg w10 hbox hb; have _ := aM (below_step hbZ hb); have _ := aM hbox; have _ := szZ hg; have _ := szZ hg; clear HB; rename_i HB BK101 GW101 GE101; clear hb hbox hg) | ((with_reducible refine gate_dst (N := 3) rfl ?_); refine box_event ?hg (N := 3) ?hd (cs := #[.int .i64 a1_0, .int .i64 a1_1, .int .i64 a1_2, .int .i64 a1_3, .slice A1_4 l1_4.length c1_4, .bool a1_5]) (t := 26) ?hr ?_; (case hd => rfl); (case hg => rfl); (case hr => first | (go_simp; done) | (go_simp; rfl)); intro gb102 hg w11 hbox hb; have _ := bB gb101 hb; have _ := aM (below_step hbZ hb); have _ := aM hbox; have _ := szZ hg; have _ := szZ hg; have ⟨_, _⟩ := nbB gb101 hg; clear BK101 HB; rename_i BK101 HB BK102 GW102 GE102 NB101_102 NB102_101; clear hb hbox hg; have hnb12 := NB101_102.out; have hnc12 := NB102_101.out; obtain ⟨hcz13_0, hcz13_1, hcz13_2, hcz13_3, hcz13_4, hcz13_5, hfz13_0, hfz13_1, hfz13_2, hfz13_3, hfz13_4, hfz13_5⟩ := cellsZ6 BK101.out; obtain ⟨hcz14_0, hcz14_1, hcz14_2, hcz14_3, hcz14_4, hcz14_5, hfz14_0, hfz14_1, hfz14_2, hfz14_3, hfz14_4, hfz14_5⟩ := cellsZ6 BK102.out) | ((with_reducible refine gate_callee (f := 36) rfl ?_); refine goesL_ (some 29) rfl rfl Try.func36 (by kernel_rfl) rfl #[.slice A0_4 l0_4.length c0_4, .slice A1_4 l1_4.length c1_4] rfl zee81 ?_; (with_reducible refine (laws_eqIntS.calls k _ _ l0_4 _ _ l1_4 true _ ?side1 ?side2 ?side3 ?side4 A7.out).mono ?_); (case side1 => exact (cZ (Kd.C_below HR0_4.out HB.out))); (case side2 => exact HC0_4.out); (case side3 => exact (cZ (Kd.C_below HR1_4.out HB.out))); (case side4 => exact HC1_4.out); rintro e w' ⟨rfl, ⟨nd, rfl⟩⟩; refine ⟨_, rfl, ?_⟩))
   go_ret
   exact ⟨z674d, zcb41⟩
 · replace c8 := Bool.eq_false_iff.mpr c8
   subst c8
   rw [if_neg (show ¬ (false = true) by decide)] at H
   exact absurd H (by simp)
end Go.Proofs.Ytdkokfnnebdppaa.P

-- written by a program of this session's (wip/pp)
namespace Go.Proofs.Ytdkokfnnebdppaa.P
open Go.RowKit Go.Proofs.YtdkokfnnebdppaaW.PrintWords Go.Proofs.YtdkokfnnebdppaaW.PrintLast Go.Proofs.YtdkokfnnebdppaaW.PrintMore
attribute [local go_sem] max2_int min2_int max_two min_two max_three min_three max_four min_four str_geq str_gtr str_leq   -- for this text's walks alone
set_option linter.unusedVariables false
set_option linter.unusedSimpArgs false

/-! ### laws_eqEntry: function 23 -/
def laws_eqEntry.f (k : Nat) (a0_0 : ByteArray) (a0_1 : Int) (a0_2 : Int) (a0_3 : Int) (a0_4 : Int) (a0_5 : Int) (a0_6 : Int) (l0_7 : List Int) (a0_8 : Bool) (a1_0 : ByteArray) (a1_1 : Int) (a1_2 : Int) (a1_3 : Int) (a1_4 : Int) (a1_5 : Int) (a1_6 : Int) (l1_7 : List Int) (a1_8 : Bool) : Option (Bool) := if a0_0.toList = a1_0.toList then (if a0_1 = a1_1 then (if a0_2 = a1_2 then ((laws_eqAgg.f k a0_3 a0_4 a0_5 a0_6 l0_7 a0_8 a1_3 a1_4 a1_5 a1_6 l1_7 a1_8).bind fun t103 => (if t103 = true then (some true) else (none))) else (none)) else (none)) else (none)
theorem laws_eqEntry.mono : ∀ a0 a1 a2 a3 a4 a5 a6 a7 a8 a9 a10 a11 a12 a13 a14 a15 a16 a17 k, LeO (laws_eqEntry.f k a0 a1 a2 a3 a4 a5 a6 a7 a8 a9 a10 a11 a12 a13 a14 a15 a16 a17) (laws_eqEntry.f (k + 1) a0 a1 a2 a3 a4 a5 a6 a7 a8 a9 a10 a11 a12 a13 a14 a15 a16 a17) := by
 intro a0 a1 a2 a3 a4 a5 a6 a7 a8 a9 a10 a11 a12 a13 a14 a15 a16 a17 k
 unfold laws_eqEntry.f
 repeat' first
  | (with_reducible first | exact laws_eqAgg.mono .. | exact LeO.refl _ | exact LeO.none _ | refine LeO.ite ?_ ?_ | refine LeO.bind ?_ (fun _ => ?_))
  | exact LeO.none _
  | refine LeO.ite ?_ ?_
  | refine LeO.bind ?_ (fun _ => ?_)
set_option maxHeartbeats 8000000 in
set_option maxRecDepth 100000 in
theorem laws_eqEntry.calls (k : Nat) (a0_0 : ByteArray) (a0_1 : Int) (a0_2 : Int) (a0_3 : Int) (a0_4 : Int) (a0_5 : Int) (a0_6 : Int) (A0_7 : Option Addr) (c0_7 : Nat) (l0_7 : List Int) (a0_8 : Bool) (a1_0 : ByteArray) (a1_1 : Int) (a1_2 : Int) (a1_3 : Int) (a1_4 : Int) (a1_5 : Int) (a1_6 : Int) (A1_7 : Option Addr) (c1_7 : Nat) (l1_7 : List Int) (a1_8 : Bool) (r : Bool) (w : World) (hr0_7 : Kd.C (Kd.int .i64) w A0_7 l0_7.length l0_7) (hc0_7 : l0_7.length ≤ c0_7) (hr1_7 : Kd.C (Kd.int .i64) w A1_7 l1_7.length l1_7) (hc1_7 : l1_7.length ≤ c1_7) (h : laws_eqEntry.f k a0_0 a0_1 a0_2 a0_3 a0_4 a0_5 a0_6 l0_7 a0_8 a1_0 a1_1 a1_2 a1_3 a1_4 a1_5 a1_6 l1_7 a1_8 = some r) :
 Calls Try.prog 23 #[.agg #[.string a0_0, .int .i64 a0_1, .int .i64 a0_2, .int .i64 a0_3, .int .i64 a0_4, .int .i64 a0_5, .int .i64 a0_6, .slice A0_7 l0_7.length c0_7, .bool a0_8], .agg #[.string a1_0, .int .i64 a1_1, .int .i64 a1_2, .int .i64 a1_3, .int .i64 a1_4, .int .i64 a1_5, .int .i64 a1_6, .slice A1_7 l1_7.length c1_7, .bool a1_8]] w fun e w' => e = .returned (.bool r) ∧ Below w.heap.size w w' := by
 have hu45 := Try.underlying45
 have hu26 := Try.underlying26
 have HR0_7 := aM hr0_7
 have HC0_7 := aM hc0_7
 clear hr0_7 hc0_7
 have HR1_7 := aM hr1_7
 have HC1_7 := aM hc1_7
 clear hr1_7 hc1_7
 have HB := aM (Below.refl w.heap.size w)
 have H : (if a0_0.toList = a1_0.toList then (if a0_1 = a1_1 then (if a0_2 = a1_2 then ((laws_eqAgg.f k a0_3 a0_4 a0_5 a0_6 l0_7 a0_8 a1_3 a1_4 a1_5 a1_6 l1_7 a1_8).bind fun t103 => (if t103 = true then (some true) else (none))) else (none)) else (none)) else (none)) = some r := h
 clear h
 replace H := ifS H; obtain ⟨c3, H⟩ := H
 have c3b0 : (a0_0.toList == a1_0.toList) = true := beq_iff_eq.mpr c3
 have c3b1 : (a0_0.toList != a1_0.toList) = false := bne_eq_false_iff_eq.mpr c3
 clear c3
 replace H := ifS H; obtain ⟨c4, H⟩ := H
 have c4b0 : (a0_1 == a1_1) = true := beq_iff_eq.mpr c4
 have c4b1 : (a0_1 != a1_1) = false := bne_eq_false_iff_eq.mpr c4
 clear c4
 replace H := ifS H; obtain ⟨c5, H⟩ := H
 have c5b0 : (a0_2 == a1_2) = true := beq_iff_eq.mpr c5
 have c5b1 : (a0_2 != a1_2) = false := bne_eq_false_iff_eq.mpr c5
 clear c5
 replace H := Option.bind_eq_some_iff.mp H
 obtain ⟨t103, A60, H⟩ := H
 try dsimp only at H
 have A6 := aM A60
 clear A60
 by_cases c7 : t103 = true
 · subst c7
   rw [if_pos rfl] at H
   obtain rfl := Option.some.inj H
   go_enter Try.func23, Try.ntmps23
   go_wp2_with (first | ((with_reducible refine gate_dst (N := 2) rfl ?_); refine box_event ?hg (N := 2) ?hd (cs := #[.string a0_0, .int .i64 a0_1, .int .i64 a0_2, .int .i64 a0_3, .int .i64 a0_4, .int .i64 a0_5, .int .i64 a0_6, .slice A0_7 l0_7.length c0_7, .bool a0_8]) (t := 45) ?hr ?_; (case hd => rfl); (case hg => rfl); (case hr => first | (go_simp; done) | (go_simp; rfl)); intro gb101 hg w8 hbox hb; have _ := aM (below_step hbZ hb); have _ := aM hbox; have _ := szZ hg; have _ := szZ hg; clear HB; rename_i HB BK101 GW101 GE101; clear hb hbox hg) | ((with_reducible refine gate_dst (N := 3) rfl ?_); refine box_event ?hg (N := 3) ?hd (cs := #[.string a1_0, .int .i64 a1_1, .int .i64 a1_2, .int .i64 a1_3, .int .i64 a1_4, .int .i64 a1_5, .int .i64 a1_6, .slice A1_7 l1_7.length c1_7, .bool a1_8]) (t := 45) ?hr ?_; (case hd => rfl); (case hg => rfl); (case hr => first | (go_simp; done) | (go_simp; rfl)); intro gb102 hg w9 hbox hb; have _ := bB gb101 hb; have _ := aM (below_step hbZ hb); have _ := aM hbox; have _ := szZ hg; have _ := szZ hg; have ⟨_, _⟩ := nbB gb101 hg; clear BK101 HB; rename_i BK101 HB BK102 GW102 GE102 NB101_102 NB102_101; clear hb hbox hg; have hnb10 := NB101_102.out; have hnc10 := NB102_101.out; obtain ⟨hcz11_0, hcz11_1, hcz11_2, hcz11_3, hcz11_4, hcz11_5, hcz11_6, hcz11_7, hcz11_8, hfz11_0, hfz11_1, hfz11_2, hfz11_3, hfz11_4, hfz11_5, hfz11_6, hfz11_7, hfz11_8⟩ := cellsZ9 BK101.out; obtain ⟨hcz12_0, hcz12_1, hcz12_2, hcz12_3, hcz12_4, hcz12_5, hcz12_6, hcz12_7, hcz12_8, hfz12_0, hfz12_1, hfz12_2, hfz12_3, hfz12_4, hfz12_5, hfz12_6, hfz12_7, hfz12_8⟩ := cellsZ9 BK102.out) | ((with_reducible refine gate_callee (f := 11) rfl ?_); refine goesL_ (some 24) rfl rfl Try.func11 (by kernel_rfl) rfl #[.agg #[.int .i64 a0_3, .int .i64 a0_4, .int .i64 a0_5, .int .i64 a0_6, .slice A0_7 l0_7.length c0_7, .bool a0_8], .agg #[.int .i64 a1_3, .int .i64 a1_4, .int .i64 a1_5, .int .i64 a1_6, .slice A1_7 l1_7.length c1_7, .bool a1_8]] rfl zee81 ?_; (with_reducible refine (laws_eqAgg.calls k a0_3 a0_4 a0_5 a0_6 _ _ l0_7 a0_8 a1_3 a1_4 a1_5 a1_6 _ _ l1_7 a1_8 true _ ?side1 ?side2 ?side3 ?side4 A6.out).mono ?_); (case side1 => exact (cZ (Kd.C_below HR0_7.out HB.out))); (case side2 => exact HC0_7.out); (case side3 => exact (cZ (Kd.C_below HR1_7.out HB.out))); (case side4 => exact HC1_7.out); rintro e w13 ⟨rfl, hb⟩; refine ⟨_, rfl, ?_⟩; have _ := bB gb101 hb; have _ := bB gb102 hb; have _ := aM (below_step hbZ hb); clear BK101 BK102 HB; rename_i BK101 BK102 HB; (try clear hb)))
   go_ret
   exact ⟨z674d, zcb41⟩
 · replace c7 := Bool.eq_false_iff.mpr c7
   subst c7
   rw [if_neg (show ¬ (false = true) by decide)] at H
   exact absurd H (by simp)
end Go.Proofs.Ytdkokfnnebdppaa.P

-- written by a program of this session's (wip/pp)
namespace Go.Proofs.Ytdkokfnnebdppaa.P
open Go.RowKit Go.Proofs.YtdkokfnnebdppaaW.PrintWords Go.Proofs.YtdkokfnnebdppaaW.PrintLast Go.Proofs.YtdkokfnnebdppaaW.PrintMore
attribute [local go_sem] max2_int min2_int max_two min_two max_three min_three max_four min_four str_geq str_gtr str_leq   -- for this text's walks alone
set_option linter.unusedVariables false
set_option linter.unusedSimpArgs false

/-! ### laws_eqEntryS: function 12 -/
def laws_eqEntryS.l0 : Nat → List (S45) → List (S45) → Int → Option (Bool)
 | 0, _, _, _ => none
 | k + 1, x0, x1, x5 => if x5 < (x0.length : Int) then (if 0 ≤ x5 then (if x5 < (x1.length : Int) then ((laws_eqEntry.f k ((rd_T45 x0 x5).f0) ((rd_T45 x0 x5).f1) ((rd_T45 x0 x5).f2) ((rd_T45 x0 x5).f3.f0) ((rd_T45 x0 x5).f3.f1) ((rd_T45 x0 x5).f3.f2) ((rd_T45 x0 x5).f3.f3) ((rd_T45 x0 x5).f3.f4) ((rd_T45 x0 x5).f3.f5) ((rd_T45 x1 x5).f0) ((rd_T45 x1 x5).f1) ((rd_T45 x1 x5).f2) ((rd_T45 x1 x5).f3.f0) ((rd_T45 x1 x5).f3.f1) ((rd_T45 x1 x5).f3.f2) ((rd_T45 x1 x5).f3.f3) ((rd_T45 x1 x5).f3.f4) ((rd_T45 x1 x5).f3.f5)).bind fun t103 => (if t103 = true then (laws_eqEntryS.l0 k x0 x1 (wrap64 (x5 + 1))) else (none))) else (none)) else (none)) else (some true)
def laws_eqEntryS.f (k : Nat) (l0 : List (S45)) (l1 : List (S45)) : Option (Bool) := if (l0.length : Int) = (l1.length : Int) then (laws_eqEntryS.l0 k l0 l1 0) else (none)
theorem laws_eqEntryS.mono_l : ∀ k, (∀ y0 y1 y2, LeO (laws_eqEntryS.l0 k y0 y1 y2) (laws_eqEntryS.l0 (k + 1) y0 y1 y2))
 | 0 => fun _ _ _ r h => by simp [laws_eqEntryS.l0] at h
 | k + 1 => by
  have ih0 := laws_eqEntryS.mono_l k
  · intro y0 y1 y2
    unfold laws_eqEntryS.l0
    repeat' first
     | (with_reducible first | exact ih0 .. | exact laws_eqEntry.mono .. | exact LeO.refl _ | exact LeO.none _ | refine LeO.ite ?_ ?_ | refine LeO.bind ?_ (fun _ => ?_))
     | exact LeO.none _
     | refine LeO.ite ?_ ?_
     | refine LeO.bind ?_ (fun _ => ?_)
theorem laws_eqEntryS.mono : ∀ a0 a1 k, LeO (laws_eqEntryS.f k a0 a1) (laws_eqEntryS.f (k + 1) a0 a1) := by
 intro a0 a1 k
 have ih0 := laws_eqEntryS.mono_l k
 unfold laws_eqEntryS.f
 repeat' first
  | (with_reducible first | exact ih0 .. | exact laws_eqEntry.mono .. | exact LeO.refl _ | exact LeO.none _ | refine LeO.ite ?_ ?_ | refine LeO.bind ?_ (fun _ => ?_))
  | exact LeO.none _
  | refine LeO.ite ?_ ?_
  | refine LeO.bind ?_ (fun _ => ?_)
def laws_eqEntryS.T6 : Bool × List (List Nat × List Nat) := (true, [([], []), ([], []), ([0, 1], [0, 1]), ([2], [2]), ([], []), ([], []), ([4, 5], [4, 5]), ([6], [6]), ([3, 7], [3, 7]), ([8], [8])])
def laws_eqEntryS.B6 : List Nat := [0, 0, 3, 7, 0, 0, 48, 112, 255, 511]
theorem laws_eqEntryS.tab6 : rtab .any (opsOf Try.f12 6) = laws_eqEntryS.T6 := by kernel_rfl
theorem laws_eqEntryS.bits6 : waitsOk laws_eqEntryS.T6.2 laws_eqEntryS.B6 = true := by kernel_rfl
set_option maxHeartbeats 8000000 in
set_option maxRecDepth 100000 in
theorem laws_eqEntryS.calls (k : Nat) (A0 : Option Addr) (c0 : Nat) (l0 : List (S45)) (A1 : Option Addr) (c1 : Nat) (l1 : List (S45)) (r : Bool) (w : World) (hr0 : Kd.C k45 w A0 l0.length l0) (hc0 : l0.length ≤ c0) (hr1 : Kd.C k45 w A1 l1.length l1) (hc1 : l1.length ≤ c1) (h : laws_eqEntryS.f k l0 l1 = some r) :
 Calls Try.prog 12 #[.slice A0 l0.length c0, .slice A1 l1.length c1] w fun e w' => e = .returned (.bool r) ∧ Below w.heap.size w w' := by
 have hu45 := Try.underlying45
 have HR0 := aM hr0
 have HC0 := aM hc0
 clear hr0 hc0
 have HR1 := aM hr1
 have HC1 := aM hc1
 clear hr1 hc1
 have HB := aM (Below.refl w.heap.size w)
 have H : (if (l0.length : Int) = (l1.length : Int) then (laws_eqEntryS.l0 k l0 l1 0) else (none)) = some r := h
 clear h
 replace H := ifS H; obtain ⟨c3, H⟩ := H
 have c3b0 : ((l0.length : Int) == (l1.length : Int)) = true := beq_iff_eq.mpr c3
 have c3b1 : ((l0.length : Int) != (l1.length : Int)) = false := bne_eq_false_iff_eq.mpr c3
 have c3b2 : (l0.length == l1.length) = true := by first | simpa using c3 | (simp at c3 ⊢; omega)
 clear c3
 have H' := aM H
 clear H
 go_enter Try.func12, Try.ntmps12
 go_wp2
 go_loopg [5] k (fun kq v5 w' => ∃ (x5_1 : Int), v5 = .int .i64 x5_1 ∧ Aside0 (laws_eqEntryS.l0 kq l0 l1 x5_1 = some r) ∧ Aside0 (kq ≤ k) ∧ Aside0 (Below w.heap.size w w'))
 case atStart => exact ⟨(0), z4458, H', ⟨Nat.le_refl _⟩, ⟨z5acd⟩⟩
 case round =>
  clear H'
  try clear c1
  try clear p2
  try clear c3
  try clear c3b0
  try clear c3b1
  try clear c3b2
  obtain ⟨x5_1, rfl, HA, HK1, HB⟩ := hrel
  cases gk with
  | zero => exact absurd HA.out (by simp [laws_eqEntryS.l0])
  | succ k1 =>
   have H := HA.out
   clear HA
   simp only [laws_eqEntryS.l0] at H
   by_cases c4 : x5_1 < (l0.length : Int)
   · rw [if_pos c4] at H
     have c4b0 : decide (x5_1 < (l0.length : Int)) = true := decide_eq_true c4
     clear c4
     replace H := ifS H; obtain ⟨c5, H⟩ := H
     have c5b0 : decide (0 ≤ x5_1) = true := decide_eq_true c5
     clear c5
     replace H := ifS H; obtain ⟨c6, H⟩ := H
     have c6b0 : decide (x5_1 < (l1.length : Int)) = true := decide_eq_true c6
     clear c6
     replace H := Option.bind_eq_some_iff.mp H
     obtain ⟨t103, A70, H⟩ := H
     try dsimp only at H
     have A7 := aM A70
     clear A70
     by_cases c8 : t103 = true
     · subst c8
       rw [if_pos rfl] at H
       have H' := aM H
       clear H
       try go_wp2
       have _ := aM (below_drew1 HB.out)
       clear HB
       rename_i HB
       have p101 : 0 ≤ (x5_1 : Int) := of_decide_eq_true z1200
       have q101 : x5_1 < (l0.length : Int) := of_decide_eq_true z1200
       obtain ⟨ad101, A101_7, c101_7, e101, hx101_0, hx101_1, hx101_2, hx101_3, hx101_4, hx101_5, hx101_6, hx101_7, hx101_8, hl101_7, hi101_7⟩ := at_T45 HR0.out x5_1 p101 q101
       have hw101_8 := hx101_8
       have hw101_7 := hx101_7
       have hw101_6 := hx101_6
       have hw101_5 := hx101_5
       have hw101_4 := hx101_4
       have hw101_3 := hx101_3
       have hw101_2 := hx101_2
       have hw101_1 := hx101_1
       have hw101_0 := hx101_0
       cases e101
       have TW101_7 := aM hx101_7
       replace hx101_0 := (HB.out.cell (World.block_lt_of_cell? w _ hx101_0)).trans hx101_0
       replace hx101_1 := (HB.out.cell (World.block_lt_of_cell? w _ hx101_1)).trans hx101_1
       replace hx101_2 := (HB.out.cell (World.block_lt_of_cell? w _ hx101_2)).trans hx101_2
       replace hx101_3 := (HB.out.cell (World.block_lt_of_cell? w _ hx101_3)).trans hx101_3
       replace hx101_4 := (HB.out.cell (World.block_lt_of_cell? w _ hx101_4)).trans hx101_4
       replace hx101_5 := (HB.out.cell (World.block_lt_of_cell? w _ hx101_5)).trans hx101_5
       replace hx101_6 := (HB.out.cell (World.block_lt_of_cell? w _ hx101_6)).trans hx101_6
       replace hx101_7 := (HB.out.cell (World.block_lt_of_cell? w _ hx101_7)).trans hx101_7
       replace hx101_8 := (HB.out.cell (World.block_lt_of_cell? w _ hx101_8)).trans hx101_8
       have HR101_7 := aM hi101_7
       have HC101_7 := aM hl101_7
       clear hi101_7 hl101_7
       replace p101 := eq_true p101
       replace q101 := eq_true q101
       have p102 : 0 ≤ (x5_1 : Int) := of_decide_eq_true z1200
       have q102 : x5_1 < (l1.length : Int) := of_decide_eq_true z1200
       obtain ⟨ad102, A102_7, c102_7, e102, hx102_0, hx102_1, hx102_2, hx102_3, hx102_4, hx102_5, hx102_6, hx102_7, hx102_8, hl102_7, hi102_7⟩ := at_T45 HR1.out x5_1 p102 q102
       have hw102_8 := hx102_8
       have hw102_7 := hx102_7
       have hw102_6 := hx102_6
       have hw102_5 := hx102_5
       have hw102_4 := hx102_4
       have hw102_3 := hx102_3
       have hw102_2 := hx102_2
       have hw102_1 := hx102_1
       have hw102_0 := hx102_0
       cases e102
       have TW102_7 := aM hx102_7
       replace hx102_0 := (HB.out.cell (World.block_lt_of_cell? w _ hx102_0)).trans hx102_0
       replace hx102_1 := (HB.out.cell (World.block_lt_of_cell? w _ hx102_1)).trans hx102_1
       replace hx102_2 := (HB.out.cell (World.block_lt_of_cell? w _ hx102_2)).trans hx102_2
       replace hx102_3 := (HB.out.cell (World.block_lt_of_cell? w _ hx102_3)).trans hx102_3
       replace hx102_4 := (HB.out.cell (World.block_lt_of_cell? w _ hx102_4)).trans hx102_4
       replace hx102_5 := (HB.out.cell (World.block_lt_of_cell? w _ hx102_5)).trans hx102_5
       replace hx102_6 := (HB.out.cell (World.block_lt_of_cell? w _ hx102_6)).trans hx102_6
       replace hx102_7 := (HB.out.cell (World.block_lt_of_cell? w _ hx102_7)).trans hx102_7
       replace hx102_8 := (HB.out.cell (World.block_lt_of_cell? w _ hx102_8)).trans hx102_8
       have HR102_7 := aM hi102_7
       have HC102_7 := aM hl102_7
       clear hi102_7 hl102_7
       replace p102 := eq_true p102
       replace q102 := eq_true q102
       refine sA 10 laws_eqEntryS.tab6 laws_eqEntryS.bits6 (fun w' => w'.cell? (ad101.add ((x5_1).toNat * 9)) = some (.string ((rd_T45 l0 x5_1).f0)) ∧ w'.cell? ⟨(ad101.add ((x5_1).toNat * 9)).block, (ad101.add ((x5_1).toNat * 9)).off + 1, none⟩ = some (.int .i64 ((rd_T45 l0 x5_1).f1)) ∧ w'.cell? ⟨(ad101.add ((x5_1).toNat * 9)).block, (ad101.add ((x5_1).toNat * 9)).off + 2, none⟩ = some (.int .i64 ((rd_T45 l0 x5_1).f2)) ∧ w'.cell? ⟨(ad101.add ((x5_1).toNat * 9)).block, (ad101.add ((x5_1).toNat * 9)).off + 3, none⟩ = some (.int .i64 ((rd_T45 l0 x5_1).f3.f0)) ∧ w'.cell? ⟨(ad101.add ((x5_1).toNat * 9)).block, (ad101.add ((x5_1).toNat * 9)).off + 4, none⟩ = some (.int .i64 ((rd_T45 l0 x5_1).f3.f1)) ∧ w'.cell? ⟨(ad101.add ((x5_1).toNat * 9)).block, (ad101.add ((x5_1).toNat * 9)).off + 5, none⟩ = some (.int .i64 ((rd_T45 l0 x5_1).f3.f2)) ∧ w'.cell? ⟨(ad101.add ((x5_1).toNat * 9)).block, (ad101.add ((x5_1).toNat * 9)).off + 6, none⟩ = some (.int .i64 ((rd_T45 l0 x5_1).f3.f3)) ∧ w'.cell? ⟨(ad101.add ((x5_1).toNat * 9)).block, (ad101.add ((x5_1).toNat * 9)).off + 7, none⟩ = some (.slice A101_7 ((rd_T45 l0 x5_1).f3.f4).length c101_7) ∧ w'.cell? ⟨(ad101.add ((x5_1).toNat * 9)).block, (ad101.add ((x5_1).toNat * 9)).off + 8, none⟩ = some (.bool ((rd_T45 l0 x5_1).f3.f5)) ∧ w'.cell? (ad102.add ((x5_1).toNat * 9)) = some (.string ((rd_T45 l1 x5_1).f0)) ∧ w'.cell? ⟨(ad102.add ((x5_1).toNat * 9)).block, (ad102.add ((x5_1).toNat * 9)).off + 1, none⟩ = some (.int .i64 ((rd_T45 l1 x5_1).f1)) ∧ w'.cell? ⟨(ad102.add ((x5_1).toNat * 9)).block, (ad102.add ((x5_1).toNat * 9)).off + 2, none⟩ = some (.int .i64 ((rd_T45 l1 x5_1).f2)) ∧ w'.cell? ⟨(ad102.add ((x5_1).toNat * 9)).block, (ad102.add ((x5_1).toNat * 9)).off + 3, none⟩ = some (.int .i64 ((rd_T45 l1 x5_1).f3.f0)) ∧ w'.cell? ⟨(ad102.add ((x5_1).toNat * 9)).block, (ad102.add ((x5_1).toNat * 9)).off + 4, none⟩ = some (.int .i64 ((rd_T45 l1 x5_1).f3.f1)) ∧ w'.cell? ⟨(ad102.add ((x5_1).toNat * 9)).block, (ad102.add ((x5_1).toNat * 9)).off + 5, none⟩ = some (.int .i64 ((rd_T45 l1 x5_1).f3.f2)) ∧ w'.cell? ⟨(ad102.add ((x5_1).toNat * 9)).block, (ad102.add ((x5_1).toNat * 9)).off + 6, none⟩ = some (.int .i64 ((rd_T45 l1 x5_1).f3.f3)) ∧ w'.cell? ⟨(ad102.add ((x5_1).toNat * 9)).block, (ad102.add ((x5_1).toNat * 9)).off + 7, none⟩ = some (.slice A102_7 ((rd_T45 l1 x5_1).f3.f4).length c102_7) ∧ w'.cell? ⟨(ad102.add ((x5_1).toNat * 9)).block, (ad102.add ((x5_1).toNat * 9)).off + 8, none⟩ = some (.bool ((rd_T45 l1 x5_1).f3.f5))) [] (fun hHeld HT_ HW_ => ?_)
       generalize wr.drew = w9 at HB HR101_7 HR102_7 hx101_0 hx101_1 hx101_2 hx101_3 hx101_4 hx101_5 hx101_6 hx101_7 hx101_8 hx102_0 hx102_1 hx102_2 hx102_3 hx102_4 hx102_5 hx102_6 hx102_7 hx102_8 hHeld ⊢
       refine pA 0 17 HT_ ?_; refine pA 1 18 HT_ ?_; refine pA 2 19 HT_ ?_; refine pA 4 21 HT_ ?_; refine pA 5 22 HT_ ?_; refine pA 6 23 HT_ ?_; refine tA 3 20 HT_ HW_ hHeld ?_; refine tA 7 24 HT_ HW_ hHeld ?_; refine oA 8 25 HT_ (fun K hK => ?_)
       refine goes_ Try.func23 (by kernel_rfl) rfl #[.agg #[.string ((rd_T45 l0 x5_1).f0), .int .i64 ((rd_T45 l0 x5_1).f1), .int .i64 ((rd_T45 l0 x5_1).f2), .int .i64 ((rd_T45 l0 x5_1).f3.f0), .int .i64 ((rd_T45 l0 x5_1).f3.f1), .int .i64 ((rd_T45 l0 x5_1).f3.f2), .int .i64 ((rd_T45 l0 x5_1).f3.f3), .slice A101_7 ((rd_T45 l0 x5_1).f3.f4).length c101_7, .bool ((rd_T45 l0 x5_1).f3.f5)], .agg #[.string ((rd_T45 l1 x5_1).f0), .int .i64 ((rd_T45 l1 x5_1).f1), .int .i64 ((rd_T45 l1 x5_1).f2), .int .i64 ((rd_T45 l1 x5_1).f3.f0), .int .i64 ((rd_T45 l1 x5_1).f3.f1), .int .i64 ((rd_T45 l1 x5_1).f3.f2), .int .i64 ((rd_T45 l1 x5_1).f3.f3), .slice A102_7 ((rd_T45 l1 x5_1).f3.f4).length c102_7, .bool ((rd_T45 l1 x5_1).f3.f5)]] (by rfl) rfl rfl zee81 ?_
       with_reducible refine (laws_eqEntry.calls k1 ((rd_T45 l0 x5_1).f0) ((rd_T45 l0 x5_1).f1) ((rd_T45 l0 x5_1).f2) ((rd_T45 l0 x5_1).f3.f0) ((rd_T45 l0 x5_1).f3.f1) ((rd_T45 l0 x5_1).f3.f2) ((rd_T45 l0 x5_1).f3.f3) _ _ ((rd_T45 l0 x5_1).f3.f4) ((rd_T45 l0 x5_1).f3.f5) ((rd_T45 l1 x5_1).f0) ((rd_T45 l1 x5_1).f1) ((rd_T45 l1 x5_1).f2) ((rd_T45 l1 x5_1).f3.f0) ((rd_T45 l1 x5_1).f3.f1) ((rd_T45 l1 x5_1).f3.f2) ((rd_T45 l1 x5_1).f3.f3) _ _ ((rd_T45 l1 x5_1).f3.f4) ((rd_T45 l1 x5_1).f3.f5) true _ ?side1 ?side2 ?side3 ?side4 A7.out).mono ?_
       (case side1 => exact (cZ (Kd.C_below HR101_7.out HB.out)))
       (case side2 => exact HC101_7.out)
       (case side3 => exact (cZ (Kd.C_below HR102_7.out HB.out)))
       (case side4 => exact HC102_7.out)
       rintro e w10 ⟨rfl, hb⟩
       refine ⟨_, rfl, ?_⟩
       have _ := aM (below_step hbZ hb)
       clear HB
       rename_i HB
       (try clear hb)
       (try clear hb2)
       (try clear hk)
       (try clear hi)
       refine hK.out _ _ sZ (fun hHeld => ?_)
       clear hK K
       refine nA 25 ?_; refine pA 9 26 HT_ ?_
       refine done_ (done_of HT_.out (by kernel_rfl)) ?_
       try go_wp2
       go_roundg k1
       case measure => have := HK1.out; omega
       case rel => exact ⟨(wrap64 (x5_1 + 1)), z4458, H', ⟨zfb39⟩, ⟨z5acd⟩⟩
     · replace c8 := Bool.eq_false_iff.mpr c8
       subst c8
       rw [if_neg (show ¬ (false = true) by decide)] at H
       exact absurd H (by simp)
   · rw [if_neg c4] at H
     have c4b0 : decide (x5_1 < (l0.length : Int)) = false := decide_eq_false c4
     clear c4
     obtain rfl := Option.some.inj H
     go_wp2
     go_ret
     exact ⟨z674d, z5acd⟩
end Go.Proofs.Ytdkokfnnebdppaa.P

-- written by a program of this session's (wip/pp)
namespace Go.Proofs.Ytdkokfnnebdppaa.P
open Go.RowKit Go.Proofs.YtdkokfnnebdppaaW.PrintWords Go.Proofs.YtdkokfnnebdppaaW.PrintLast Go.Proofs.YtdkokfnnebdppaaW.PrintMore
attribute [local go_sem] max2_int min2_int max_two min_two max_three min_three max_four min_four str_geq str_gtr str_leq   -- for this text's walks alone
set_option linter.unusedVariables false
set_option linter.unusedSimpArgs false

/-! ### laws_markAgg: function 14 -/
def laws_markAgg.f (k : Nat) (a0_0 : Int) (a0_1 : Int) (a0_2 : Int) (a0_3 : Int) (l0_4 : List Int) (a0_5 : Bool) (a1 : Int) : Option (Int × List Int) := (laws_markIntS.f k l0_4 a1).bind fun bt102 => (some (bt102.1, bt102.2))
theorem laws_markAgg.mono : ∀ a0 a1 a2 a3 a4 a5 a6 k, LeO (laws_markAgg.f k a0 a1 a2 a3 a4 a5 a6) (laws_markAgg.f (k + 1) a0 a1 a2 a3 a4 a5 a6) := by
 intro a0 a1 a2 a3 a4 a5 a6 k
 unfold laws_markAgg.f
 repeat' first
  | (with_reducible first | exact laws_markIntS.mono .. | exact LeO.refl _ | exact LeO.none _ | refine LeO.ite ?_ ?_ | refine LeO.bind ?_ (fun _ => ?_))
  | exact LeO.none _
  | refine LeO.ite ?_ ?_
  | refine LeO.bind ?_ (fun _ => ?_)
set_option maxHeartbeats 8000000 in
set_option maxRecDepth 100000 in
theorem laws_markAgg.calls (k : Nat) (a0_0 : Int) (a0_1 : Int) (a0_2 : Int) (a0_3 : Int) (P0_4_ : Nat → Prop) (u9000_ : Value) (l0_4 : List Int) (a0_5 : Bool) (a1 : Int) (r1 : Int) (r2 : List Int) (w0 w : World) (hB : Below w0.heap.size w0 w) (ho0_4 : Kd.R (Kd.int .i64) 3 w w0.heap.size P0_4_ u9000_ l0_4) (h : laws_markAgg.f k a0_0 a0_1 a0_2 a0_3 l0_4 a0_5 a1 = some (r1, r2)) :
 Calls Try.prog 14 #[.agg #[.int .i64 a0_0, .int .i64 a0_1, .int .i64 a0_2, .int .i64 a0_3, u9000_, .bool a0_5], .int .i64 a1] w fun e w' => e = .returned (.int .i64 r1) ∧ Kd.R (Kd.int .i64) 3 w' w0.heap.size (fun k_ => (P0_4_ k_ ∨ w.heap.size ≤ k_)) u9000_ r2 ∧ Below w0.heap.size w0 w' ∧ Kept w w' (fun k_ => P0_4_ k_) := by
 have hu26 := Try.underlying26
 have HO0_4 := aM (show Kd.R (Kd.int .i64) 3 w w0.heap.size (fun k_ => (P0_4_ k_ ∨ w.heap.size ≤ k_)) u9000_ l0_4 from Kd.R_mono ho0_4 (fun k_ hk => (.inl hk)))
 have HK := aM (Kept.refl w (fun k_ => P0_4_ k_))
 have HW0 := aM hB.size
 have HB := aM hB
 clear hB
 have H : ((laws_markIntS.f k l0_4 a1).bind fun bt102 => (some (bt102.1, bt102.2))) = some (r1, r2) := h
 clear h
 replace H := Option.bind_eq_some_iff.mp H
 obtain ⟨⟨t102, t103⟩, A30, H⟩ := H
 try dsimp only at H
 have A3 := aM A30
 clear A30
 simp only [Option.some.injEq, Prod.mk.injEq] at H
 obtain ⟨rfl, rfl⟩ := H
 obtain ⟨Ao4, co4, eo4⟩ := Kd.R_slice HO0_4.out
 subst eo4
 go_enter Try.func14, Try.ntmps14
 go_wp2_with (first | ((with_reducible refine gate_dst (N := 2) rfl ?_); refine box_event ?hg (N := 2) ?hd (cs := #[.int .i64 a0_0, .int .i64 a0_1, .int .i64 a0_2, .int .i64 a0_3, .slice Ao4 l0_4.length co4, .bool a0_5]) (t := 26) ?hr ?_; (case hd => rfl); (case hg => rfl); (case hr => first | (go_simp; done) | (go_simp; rfl)); intro gb101 hg w5 hbox hb; have _ := aM (Kd.R_below (rZ HO0_4.out) hb); have _ := aM (Kept.below (S := (fun k_ => P0_4_ k_)) (by repeat (first | (with_reducible first | exact HK.out | apply Kept.alloc | apply Kept.drewN | apply Kept.drew) | exact HK.out)) hb); have _ := aM (below_step hbZ hb); have _ := aM hbox; have _ := aM ((by rw [hg]; exact (by first | exact HK.out.1 | exact (show Kept w _ (fun k_ => P0_4_ k_) from by repeat (first | (with_reducible first | exact HK.out | apply Kept.alloc | apply Kept.drewN | apply Kept.drew) | exact HK.out)).1) : w.heap.size ≤ gb101)); have _ := szZ hg; clear HO0_4 HK HB; rename_i HO0_4 HK HB BK101 GW101 GE101; clear hb hbox hg; obtain ⟨hcz6_0, hcz6_1, hcz6_2, hcz6_3, hcz6_4, hcz6_5, hfz6_0, hfz6_1, hfz6_2, hfz6_3, hfz6_4, hfz6_5⟩ := cellsZ6 BK101.out) | ((with_reducible refine gate_callee (f := 38) rfl ?_); refine goesL_ (some 8) rfl rfl Try.func38 (by kernel_rfl) rfl #[.slice Ao4 l0_4.length co4, .int .i64 a1] rfl zee81 ?_; (with_reducible refine (laws_markIntS.calls k (fun k_ => some k_ = (.slice Ao4 l0_4.length co4 : Value).ownBlock) (.slice Ao4 l0_4.length co4) l0_4 a1 t102 t103 w0 _ ?side1 ?side2 A3.out).mono ?_); (case side1 => exact zcb41); (case side2 => exact Kd.R_tight rfl HO0_4.out); rintro e w7 ⟨rfl, hy0, hb, hkp⟩; refine ⟨_, rfl, ?_⟩; have _ := aM (Kd.R_reok rfl hy0 (fun k_ e_ => HO0_4.out.1 k_ e_)); have _ := aM (blk_kept bkZ hkp (fun hs_ => (fun e_ => (Kd.R_ne HO0_4.out BK101.out (by decide)) e_) hs_)); have _ := aM (Kept.then_ (S := (fun k_ => P0_4_ k_)) (by repeat (first | (with_reducible first | exact HK.out | apply Kept.alloc | apply Kept.drewN | apply Kept.drew | refine Kept.setCell ?_ (.inr GW101.out) _) | exact HK.out)) hkp (fun k_ hs_ => (fun e_ => (HO0_4.out.1 k_ e_.symm)) hs_)); have _ := aM hb; clear HO0_4 BK101 HK HB; rename_i HO0_4 BK101 HK HB; (try clear hb); (try clear hkp); (try clear hy0)))
 go_ret
 exact ⟨z674d, rZ HO0_4.out, zcb41, by repeat (first | (with_reducible first | exact HK.out | apply Kept.alloc | apply Kept.drewN | apply Kept.drew | refine Kept.setCell ?_ (.inr GW101.out) _) | exact HK.out)⟩

end Go.Proofs.Ytdkokfnnebdppaa.P

-- written by a program of this session's (wip/pp)
namespace Go.Proofs.Ytdkokfnnebdppaa.P
open Go.RowKit Go.Proofs.YtdkokfnnebdppaaW.PrintWords Go.Proofs.YtdkokfnnebdppaaW.PrintLast Go.Proofs.YtdkokfnnebdppaaW.PrintMore
attribute [local go_sem] max2_int min2_int max_two min_two max_three min_three max_four min_four str_geq str_gtr str_leq   -- for this text's walks alone
set_option linter.unusedVariables false
set_option linter.unusedSimpArgs false

/-! ### laws_heldIntS: function 39 -/
def laws_heldIntS.l0 : Nat → List Int → Int → Int → Option (Int)
 | 0, _, _, _ => none
 | k + 1, x0, x1, x5 => if x5 < (x0.length : Int) then (if 0 ≤ x5 then (if (rd x0 x5) = x1 then (laws_heldIntS.l0 k x0 (wrap64 (x1 + 1)) (wrap64 (x5 + 1))) else (none)) else (none)) else (some x1)
def laws_heldIntS.f (k : Nat) (l0 : List Int) (a1 : Int) : Option (Int) := laws_heldIntS.l0 k l0 a1 0
theorem laws_heldIntS.mono_l : ∀ k, (∀ y0 y1 y2, LeO (laws_heldIntS.l0 k y0 y1 y2) (laws_heldIntS.l0 (k + 1) y0 y1 y2))
 | 0 => fun _ _ _ r h => by simp [laws_heldIntS.l0] at h
 | k + 1 => by
  have ih0 := laws_heldIntS.mono_l k
  · intro y0 y1 y2
    unfold laws_heldIntS.l0
    repeat' first
     | (with_reducible first | exact ih0 .. | exact LeO.refl _ | exact LeO.none _ | refine LeO.ite ?_ ?_ | refine LeO.bind ?_ (fun _ => ?_))
     | exact LeO.none _
     | refine LeO.ite ?_ ?_
     | refine LeO.bind ?_ (fun _ => ?_)
theorem laws_heldIntS.mono : ∀ a0 a1 k, LeO (laws_heldIntS.f k a0 a1) (laws_heldIntS.f (k + 1) a0 a1) := by
 intro a0 a1 k
 have ih0 := laws_heldIntS.mono_l k
 unfold laws_heldIntS.f
 repeat' first
  | (with_reducible first | exact ih0 .. | exact LeO.refl _ | exact LeO.none _ | refine LeO.ite ?_ ?_ | refine LeO.bind ?_ (fun _ => ?_))
  | exact LeO.none _
  | refine LeO.ite ?_ ?_
  | refine LeO.bind ?_ (fun _ => ?_)
set_option maxHeartbeats 8000000 in
set_option maxRecDepth 100000 in
theorem laws_heldIntS.calls (k : Nat) (A0 : Option Addr) (c0 : Nat) (l0 : List Int) (a1 : Int) (r : Int) (w : World) (hr0 : Kd.C (Kd.int .i64) w A0 l0.length l0) (hc0 : l0.length ≤ c0) (h : laws_heldIntS.f k l0 a1 = some r) :
 Calls Try.prog 39 #[.slice A0 l0.length c0, .int .i64 a1] w fun e w' => e = .returned (.int .i64 r) ∧ Drawn0 w w' := by
 have HR0 := aM hr0
 have HC0 := aM hc0
 clear hr0 hc0
 have H : (laws_heldIntS.l0 k l0 a1 0) = some r := h
 clear h
 have H' := aM H
 clear H
 go_enter Try.func39, Try.ntmps39
 go_wp2
 go_loopg [1, 5] k (fun kq v1 v5 w' => ∃ (x1_1 : Int) (x5_1 : Int), v1 = .int .i64 x1_1 ∧ v5 = .int .i64 x5_1 ∧ Aside0 (laws_heldIntS.l0 kq l0 x1_1 x5_1 = some r) ∧ Aside0 (kq ≤ k) ∧ Drawn0 w w')
 case atStart => exact ⟨(a1), (0), z4458, z4458, H', ⟨Nat.le_refl _⟩, za9de⟩
 case round =>
  clear H'
  try clear p2
  obtain ⟨x1_1, x5_1, rfl, rfl, HA, HK1, ⟨m1, rfl⟩⟩ := hrel
  cases gk with
  | zero => exact absurd HA.out (by simp [laws_heldIntS.l0])
  | succ k1 =>
   have H := HA.out
   clear HA
   simp only [laws_heldIntS.l0] at H
   by_cases c3 : x5_1 < (l0.length : Int)
   · rw [if_pos c3] at H
     have c3b0 : decide (x5_1 < (l0.length : Int)) = true := decide_eq_true c3
     clear c3
     replace H := ifS H; obtain ⟨c4, H⟩ := H
     have c4b0 : decide (0 ≤ x5_1) = true := decide_eq_true c4
     clear c4
     replace H := ifS H; obtain ⟨c5, H⟩ := H
     have c5b0 : ((rd l0 x5_1) == x1_1) = true := beq_iff_eq.mpr c5
     have c5b1 : ((rd l0 x5_1) != x1_1) = false := bne_eq_false_iff_eq.mpr c5
     clear c5
     have H' := aM H
     clear H
     have p101 : 0 ≤ (x5_1 : Int) := of_decide_eq_true z1200
     have q101 : x5_1 < (l0.length : Int) := of_decide_eq_true z1200
     obtain ⟨ad101, e101, hx101_0⟩ := Kd.at_int HR0.out x5_1 p101 q101
     cases e101
     replace p101 := eq_true p101
     replace q101 := eq_true q101
     go_wp2
     go_roundg k1
     case measure => have := HK1.out; omega
     case rel => exact ⟨(wrap64 (x1_1 + 1)), (wrap64 (x5_1 + 1)), z4458, z4458, H', ⟨zfb39⟩, za9de⟩
   · rw [if_neg c3] at H
     have c3b0 : decide (x5_1 < (l0.length : Int)) = false := decide_eq_false c3
     clear c3
     obtain rfl := Option.some.inj H
     go_wp2
     go_ret
     exact ⟨z4458, za9de⟩

end Go.Proofs.Ytdkokfnnebdppaa.P

-- written by a program of this session's (wip/pp)
namespace Go.Proofs.Ytdkokfnnebdppaa.P
open Go.RowKit Go.Proofs.YtdkokfnnebdppaaW.PrintWords Go.Proofs.YtdkokfnnebdppaaW.PrintLast Go.Proofs.YtdkokfnnebdppaaW.PrintMore
attribute [local go_sem] max2_int min2_int max_two min_two max_three min_three max_four min_four str_geq str_gtr str_leq   -- for this text's walks alone
set_option linter.unusedVariables false
set_option linter.unusedSimpArgs false

/-! ### laws_heldAgg: function 15 -/
def laws_heldAgg.f (k : Nat) (a0_0 : Int) (a0_1 : Int) (a0_2 : Int) (a0_3 : Int) (l0_4 : List Int) (a0_5 : Bool) (a1 : Int) : Option (Int) := (laws_heldIntS.f k l0_4 a1).bind fun t102 => (if t102 < 0 then (none) else (some t102))
theorem laws_heldAgg.mono : ∀ a0 a1 a2 a3 a4 a5 a6 k, LeO (laws_heldAgg.f k a0 a1 a2 a3 a4 a5 a6) (laws_heldAgg.f (k + 1) a0 a1 a2 a3 a4 a5 a6) := by
 intro a0 a1 a2 a3 a4 a5 a6 k
 unfold laws_heldAgg.f
 repeat' first
  | (with_reducible first | exact laws_heldIntS.mono .. | exact LeO.refl _ | exact LeO.none _ | refine LeO.ite ?_ ?_ | refine LeO.bind ?_ (fun _ => ?_))
  | exact LeO.none _
  | refine LeO.ite ?_ ?_
  | refine LeO.bind ?_ (fun _ => ?_)
set_option maxHeartbeats 8000000 in
set_option maxRecDepth 100000 in
theorem laws_heldAgg.calls (k : Nat) (a0_0 : Int) (a0_1 : Int) (a0_2 : Int) (a0_3 : Int) (A0_4 : Option Addr) (c0_4 : Nat) (l0_4 : List Int) (a0_5 : Bool) (a1 : Int) (r : Int) (w : World) (hr0_4 : Kd.C (Kd.int .i64) w A0_4 l0_4.length l0_4) (hc0_4 : l0_4.length ≤ c0_4) (h : laws_heldAgg.f k a0_0 a0_1 a0_2 a0_3 l0_4 a0_5 a1 = some r) :
 Calls Try.prog 15 #[.agg #[.int .i64 a0_0, .int .i64 a0_1, .int .i64 a0_2, .int .i64 a0_3, .slice A0_4 l0_4.length c0_4, .bool a0_5], .int .i64 a1] w fun e w' => e = .returned (.int .i64 r) ∧ Below w.heap.size w w' := by
 have hu26 := Try.underlying26
 have HR0_4 := aM hr0_4
 have HC0_4 := aM hc0_4
 clear hr0_4 hc0_4
 have HB := aM (Below.refl w.heap.size w)
 have H : ((laws_heldIntS.f k l0_4 a1).bind fun t102 => (if t102 < 0 then (none) else (some t102))) = some r := h
 clear h
 replace H := Option.bind_eq_some_iff.mp H
 obtain ⟨t102, A30, H⟩ := H
 try dsimp only at H
 have A3 := aM A30
 clear A30
 replace H := ifN H; obtain ⟨c4, H⟩ := H
 have c4b0 : decide (t102 < 0) = false := decide_eq_false c4
 clear c4
 obtain rfl := Option.some.inj H
 go_enter Try.func15, Try.ntmps15
 go_wp2_with (first | ((with_reducible refine gate_dst (N := 2) rfl ?_); refine box_event ?hg (N := 2) ?hd (cs := #[.int .i64 a0_0, .int .i64 a0_1, .int .i64 a0_2, .int .i64 a0_3, .slice A0_4 l0_4.length c0_4, .bool a0_5]) (t := 26) ?hr ?_; (case hd => rfl); (case hg => rfl); (case hr => first | (go_simp; done) | (go_simp; rfl)); intro gb101 hg w5 hbox hb; have _ := aM (below_step hbZ hb); have _ := aM hbox; have _ := szZ hg; have _ := szZ hg; clear HB; rename_i HB BK101 GW101 GE101; clear hb hbox hg; obtain ⟨hcz6_0, hcz6_1, hcz6_2, hcz6_3, hcz6_4, hcz6_5, hfz6_0, hfz6_1, hfz6_2, hfz6_3, hfz6_4, hfz6_5⟩ := cellsZ6 BK101.out) | ((with_reducible refine gate_callee (f := 39) rfl ?_); refine goesL_ (some 8) rfl rfl Try.func39 (by kernel_rfl) rfl #[.slice A0_4 l0_4.length c0_4, .int .i64 a1] rfl zee81 ?_; (with_reducible refine (laws_heldIntS.calls k _ _ l0_4 a1 t102 _ ?side1 ?side2 A3.out).mono ?_); (case side1 => exact (cZ (Kd.C_below HR0_4.out HB.out))); (case side2 => exact HC0_4.out); rintro e w' ⟨rfl, ⟨nd, rfl⟩⟩; refine ⟨_, rfl, ?_⟩))
 go_ret
 exact ⟨z674d, zcb41⟩

end Go.Proofs.Ytdkokfnnebdppaa.P

-- written by a program of this session's (wip/pp)
namespace Go.Proofs.Ytdkokfnnebdppaa.P
open Go.RowKit Go.Proofs.YtdkokfnnebdppaaW.PrintWords Go.Proofs.YtdkokfnnebdppaaW.PrintLast Go.Proofs.YtdkokfnnebdppaaW.PrintMore
attribute [local go_sem] max2_int min2_int max_two min_two max_three min_three max_four min_four str_geq str_gtr str_leq   -- for this text's walks alone
set_option linter.unusedVariables false
set_option linter.unusedSimpArgs false

/-! ### laws_szIntS: function 75 -/
def laws_szIntS.f (l0 : List Int) (a1 : Int) : Option (Int) := if (wrap64 (a1 - (l0.length : Int))) < 0 then (some (-1)) else (some (wrap64 (a1 - (l0.length : Int))))
set_option maxHeartbeats 8000000 in
set_option maxRecDepth 100000 in
theorem laws_szIntS.calls (A0 : Option Addr) (c0 : Nat) (l0 : List Int) (a1 : Int) (r : Int) (w : World) (hr0 : Kd.C (Kd.int .i64) w A0 l0.length l0) (hc0 : l0.length ≤ c0) (h : laws_szIntS.f l0 a1 = some r) :
 Calls Try.prog 75 #[.slice A0 l0.length c0, .int .i64 a1] w fun e w' => e = .returned (.int .i64 r) ∧ Drawn0 w w' := by
 have HR0 := aM hr0
 have HC0 := aM hc0
 clear hr0 hc0
 have H : (if (wrap64 (a1 - (l0.length : Int))) < 0 then (some (-1)) else (some (wrap64 (a1 - (l0.length : Int))))) = some r := h
 clear h
 by_cases c3 : (wrap64 (a1 - (l0.length : Int))) < 0
 · rw [if_pos c3] at H
   have c3b0 : decide ((wrap64 (a1 - (l0.length : Int))) < 0) = true := decide_eq_true c3
   clear c3
   obtain rfl := Option.some.inj H
   go_enter Try.func75, Try.ntmps75
   go_wp2
   go_ret
   exact ⟨z4458, za9de⟩
 · rw [if_neg c3] at H
   have c3b0 : decide ((wrap64 (a1 - (l0.length : Int))) < 0) = false := decide_eq_false c3
   clear c3
   obtain rfl := Option.some.inj H
   go_enter Try.func75, Try.ntmps75
   go_wp2
   go_ret
   exact ⟨z4458, za9de⟩

end Go.Proofs.Ytdkokfnnebdppaa.P

-- written by a program of this session's (wip/pp)
namespace Go.Proofs.Ytdkokfnnebdppaa.P
open Go.RowKit Go.Proofs.YtdkokfnnebdppaaW.PrintWords Go.Proofs.YtdkokfnnebdppaaW.PrintLast Go.Proofs.YtdkokfnnebdppaaW.PrintMore
attribute [local go_sem] max2_int min2_int max_two min_two max_three min_three max_four min_four str_geq str_gtr str_leq   -- for this text's walks alone
set_option linter.unusedVariables false
set_option linter.unusedSimpArgs false

/-! ### laws_szAgg: function 42 -/
def laws_szAgg.f (a0_0 : Int) (a0_1 : Int) (a0_2 : Int) (a0_3 : Int) (l0_4 : List Int) (a0_5 : Bool) (a1 : Int) : Option (Int) := (laws_szIntS.f l0_4 a1).bind fun t102 => (if t102 < 0 then (some (-1)) else (some t102))
set_option maxHeartbeats 8000000 in
set_option maxRecDepth 100000 in
theorem laws_szAgg.calls (a0_0 : Int) (a0_1 : Int) (a0_2 : Int) (a0_3 : Int) (A0_4 : Option Addr) (c0_4 : Nat) (l0_4 : List Int) (a0_5 : Bool) (a1 : Int) (r : Int) (w : World) (hr0_4 : Kd.C (Kd.int .i64) w A0_4 l0_4.length l0_4) (hc0_4 : l0_4.length ≤ c0_4) (h : laws_szAgg.f a0_0 a0_1 a0_2 a0_3 l0_4 a0_5 a1 = some r) :
 Calls Try.prog 42 #[.agg #[.int .i64 a0_0, .int .i64 a0_1, .int .i64 a0_2, .int .i64 a0_3, .slice A0_4 l0_4.length c0_4, .bool a0_5], .int .i64 a1] w fun e w' => e = .returned (.int .i64 r) ∧ Below w.heap.size w w' := by
 have hu39 := Try.underlying39
 have HR0_4 := aM hr0_4
 have HC0_4 := aM hc0_4
 clear hr0_4 hc0_4
 have HB := aM (Below.refl w.heap.size w)
 have H : ((laws_szIntS.f l0_4 a1).bind fun t102 => (if t102 < 0 then (some (-1)) else (some t102))) = some r := h
 clear h
 replace H := Option.bind_eq_some_iff.mp H
 obtain ⟨t102, A30, H⟩ := H
 try dsimp only at H
 have A3 := aM A30
 clear A30
 by_cases c4 : t102 < 0
 · rw [if_pos c4] at H
   have c4b0 : decide (t102 < 0) = true := decide_eq_true c4
   clear c4
   obtain rfl := Option.some.inj H
   go_enter Try.func42, Try.ntmps42
   go_wp2_with (first | ((with_reducible refine gate_dst (N := 2) rfl ?_); refine box_event ?hg (N := 2) ?hd (cs := #[.int .i64 a0_0, .int .i64 a0_1, .int .i64 a0_2, .int .i64 a0_3, .slice A0_4 l0_4.length c0_4, .bool a0_5]) (t := 39) ?hr ?_; (case hd => rfl); (case hg => rfl); (case hr => first | (go_simp; done) | (go_simp; rfl)); intro gb101 hg w5 hbox hb; have _ := aM (below_step hbZ hb); have _ := aM hbox; have _ := szZ hg; have _ := szZ hg; clear HB; rename_i HB BK101 GW101 GE101; clear hb hbox hg; obtain ⟨hcz6_0, hcz6_1, hcz6_2, hcz6_3, hcz6_4, hcz6_5, hfz6_0, hfz6_1, hfz6_2, hfz6_3, hfz6_4, hfz6_5⟩ := cellsZ6 BK101.out) | ((with_reducible refine gate_callee (f := 75) rfl ?_); refine goesL_ (some 8) rfl rfl Try.func75 (by kernel_rfl) rfl #[.slice A0_4 l0_4.length c0_4, .int .i64 a1] rfl zee81 ?_; (with_reducible refine (laws_szIntS.calls _ _ l0_4 a1 t102 _ ?side1 ?side2 A3.out).mono ?_); (case side1 => exact (cZ (Kd.C_below HR0_4.out HB.out))); (case side2 => exact HC0_4.out); rintro e w' ⟨rfl, ⟨nd, rfl⟩⟩; refine ⟨_, rfl, ?_⟩))
   go_ret
   exact ⟨z674d, zcb41⟩
 · rw [if_neg c4] at H
   have c4b0 : decide (t102 < 0) = false := decide_eq_false c4
   clear c4
   obtain rfl := Option.some.inj H
   go_enter Try.func42, Try.ntmps42
   go_wp2_with (first | ((with_reducible refine gate_dst (N := 2) rfl ?_); refine box_event ?hg (N := 2) ?hd (cs := #[.int .i64 a0_0, .int .i64 a0_1, .int .i64 a0_2, .int .i64 a0_3, .slice A0_4 l0_4.length c0_4, .bool a0_5]) (t := 39) ?hr ?_; (case hd => rfl); (case hg => rfl); (case hr => first | (go_simp; done) | (go_simp; rfl)); intro gb101 hg w7 hbox hb; have _ := aM (below_step hbZ hb); have _ := aM hbox; have _ := szZ hg; have _ := szZ hg; clear HB; rename_i HB BK101 GW101 GE101; clear hb hbox hg; obtain ⟨hcz8_0, hcz8_1, hcz8_2, hcz8_3, hcz8_4, hcz8_5, hfz8_0, hfz8_1, hfz8_2, hfz8_3, hfz8_4, hfz8_5⟩ := cellsZ6 BK101.out) | ((with_reducible refine gate_callee (f := 75) rfl ?_); refine goesL_ (some 8) rfl rfl Try.func75 (by kernel_rfl) rfl #[.slice A0_4 l0_4.length c0_4, .int .i64 a1] rfl zee81 ?_; (with_reducible refine (laws_szIntS.calls _ _ l0_4 a1 t102 _ ?side1 ?side2 A3.out).mono ?_); (case side1 => exact (cZ (Kd.C_below HR0_4.out HB.out))); (case side2 => exact HC0_4.out); rintro e w' ⟨rfl, ⟨nd, rfl⟩⟩; refine ⟨_, rfl, ?_⟩))
   go_ret
   exact ⟨z674d, zcb41⟩

end Go.Proofs.Ytdkokfnnebdppaa.P

-- written by a program of this session's (wip/pp)
namespace Go.Proofs.Ytdkokfnnebdppaa.P
open Go.RowKit Go.Proofs.YtdkokfnnebdppaaW.PrintWords Go.Proofs.YtdkokfnnebdppaaW.PrintLast Go.Proofs.YtdkokfnnebdppaaW.PrintMore
attribute [local go_sem] max2_int min2_int max_two min_two max_three min_three max_four min_four str_geq str_gtr str_leq   -- for this text's walks alone
set_option linter.unusedVariables false
set_option linter.unusedSimpArgs false

/-! ### laws_szEntry: function 19 -/
def laws_szEntry.f (a0_0 : ByteArray) (a0_1 : Int) (a0_2 : Int) (a0_3 : Int) (a0_4 : Int) (a0_5 : Int) (a0_6 : Int) (l0_7 : List Int) (a0_8 : Bool) (a1 : Int) : Option (Int) := if (wrap64 (a1 - (a0_0.size : Int))) < 0 then (some (-1)) else ((laws_szAgg.f a0_3 a0_4 a0_5 a0_6 l0_7 a0_8 (wrap64 (a1 - (a0_0.size : Int)))).bind fun t102 => (if t102 < 0 then (some (-1)) else (some t102)))
set_option maxHeartbeats 8000000 in
set_option maxRecDepth 100000 in
theorem laws_szEntry.calls (a0_0 : ByteArray) (a0_1 : Int) (a0_2 : Int) (a0_3 : Int) (a0_4 : Int) (a0_5 : Int) (a0_6 : Int) (A0_7 : Option Addr) (c0_7 : Nat) (l0_7 : List Int) (a0_8 : Bool) (a1 : Int) (r : Int) (w : World) (hr0_7 : Kd.C (Kd.int .i64) w A0_7 l0_7.length l0_7) (hc0_7 : l0_7.length ≤ c0_7) (h : laws_szEntry.f a0_0 a0_1 a0_2 a0_3 a0_4 a0_5 a0_6 l0_7 a0_8 a1 = some r) :
 Calls Try.prog 19 #[.agg #[.string a0_0, .int .i64 a0_1, .int .i64 a0_2, .int .i64 a0_3, .int .i64 a0_4, .int .i64 a0_5, .int .i64 a0_6, .slice A0_7 l0_7.length c0_7, .bool a0_8], .int .i64 a1] w fun e w' => e = .returned (.int .i64 r) ∧ Below w.heap.size w w' := by
 have hu41 := Try.underlying41
 have hu39 := Try.underlying39
 have HR0_7 := aM hr0_7
 have HC0_7 := aM hc0_7
 clear hr0_7 hc0_7
 have HB := aM (Below.refl w.heap.size w)
 have H : (if (wrap64 (a1 - (a0_0.size : Int))) < 0 then (some (-1)) else ((laws_szAgg.f a0_3 a0_4 a0_5 a0_6 l0_7 a0_8 (wrap64 (a1 - (a0_0.size : Int)))).bind fun t102 => (if t102 < 0 then (some (-1)) else (some t102)))) = some r := h
 clear h
 by_cases c3 : (wrap64 (a1 - (a0_0.size : Int))) < 0
 · rw [if_pos c3] at H
   have c3b0 : decide ((wrap64 (a1 - (a0_0.size : Int))) < 0) = true := decide_eq_true c3
   clear c3
   obtain rfl := Option.some.inj H
   go_enter Try.func19, Try.ntmps19
   go_wp2_with (first | ((with_reducible refine gate_dst (N := 2) rfl ?_); refine box_event ?hg (N := 2) ?hd (cs := #[.string a0_0, .int .i64 a0_1, .int .i64 a0_2, .int .i64 a0_3, .int .i64 a0_4, .int .i64 a0_5, .int .i64 a0_6, .slice A0_7 l0_7.length c0_7, .bool a0_8]) (t := 41) ?hr ?_; (case hd => rfl); (case hg => rfl); (case hr => first | (go_simp; done) | (go_simp; rfl)); intro gb101 hg w4 hbox hb; have _ := aM (below_step hbZ hb); have _ := aM hbox; have _ := szZ hg; have _ := szZ hg; clear HB; rename_i HB BK101 GW101 GE101; clear hb hbox hg; obtain ⟨hcz5_0, hcz5_1, hcz5_2, hcz5_3, hcz5_4, hcz5_5, hcz5_6, hcz5_7, hcz5_8, hfz5_0, hfz5_1, hfz5_2, hfz5_3, hfz5_4, hfz5_5, hfz5_6, hfz5_7, hfz5_8⟩ := cellsZ9 BK101.out))
   go_ret
   exact ⟨z674d, zcb41⟩
 · rw [if_neg c3] at H
   have c3b0 : decide ((wrap64 (a1 - (a0_0.size : Int))) < 0) = false := decide_eq_false c3
   clear c3
   replace H := Option.bind_eq_some_iff.mp H
   obtain ⟨t102, A60, H⟩ := H
   try dsimp only at H
   have A6 := aM A60
   clear A60
   by_cases c7 : t102 < 0
   · rw [if_pos c7] at H
     have c7b0 : decide (t102 < 0) = true := decide_eq_true c7
     clear c7
     obtain rfl := Option.some.inj H
     go_enter Try.func19, Try.ntmps19
     go_wp2_with (first | ((with_reducible refine gate_dst (N := 2) rfl ?_); refine box_event ?hg (N := 2) ?hd (cs := #[.string a0_0, .int .i64 a0_1, .int .i64 a0_2, .int .i64 a0_3, .int .i64 a0_4, .int .i64 a0_5, .int .i64 a0_6, .slice A0_7 l0_7.length c0_7, .bool a0_8]) (t := 41) ?hr ?_; (case hd => rfl); (case hg => rfl); (case hr => first | (go_simp; done) | (go_simp; rfl)); intro gb101 hg w8 hbox hb; have _ := aM (below_step hbZ hb); have _ := aM hbox; have _ := szZ hg; have _ := szZ hg; clear HB; rename_i HB BK101 GW101 GE101; clear hb hbox hg; obtain ⟨hcz9_0, hcz9_1, hcz9_2, hcz9_3, hcz9_4, hcz9_5, hcz9_6, hcz9_7, hcz9_8, hfz9_0, hfz9_1, hfz9_2, hfz9_3, hfz9_4, hfz9_5, hfz9_6, hfz9_7, hfz9_8⟩ := cellsZ9 BK101.out) | ((with_reducible refine gate_callee (f := 42) rfl ?_); refine goesL_ (some 15) rfl rfl Try.func42 (by kernel_rfl) rfl #[.agg #[.int .i64 a0_3, .int .i64 a0_4, .int .i64 a0_5, .int .i64 a0_6, .slice A0_7 l0_7.length c0_7, .bool a0_8], .int .i64 (wrap64 (a1 - (a0_0.size : Int)))] rfl zee81 ?_; (with_reducible refine (laws_szAgg.calls a0_3 a0_4 a0_5 a0_6 _ _ l0_7 a0_8 (wrap64 (a1 - (a0_0.size : Int))) t102 _ ?side1 ?side2 A6.out).mono ?_); (case side1 => exact (cZ (Kd.C_below HR0_7.out HB.out))); (case side2 => exact HC0_7.out); rintro e w10 ⟨rfl, hb⟩; refine ⟨_, rfl, ?_⟩; have _ := bB gb101 hb; have _ := aM (below_step hbZ hb); clear BK101 HB; rename_i BK101 HB; (try clear hb)))
     go_ret
     exact ⟨z674d, zcb41⟩
   · rw [if_neg c7] at H
     have c7b0 : decide (t102 < 0) = false := decide_eq_false c7
     clear c7
     obtain rfl := Option.some.inj H
     go_enter Try.func19, Try.ntmps19
     go_wp2_with (first | ((with_reducible refine gate_dst (N := 2) rfl ?_); refine box_event ?hg (N := 2) ?hd (cs := #[.string a0_0, .int .i64 a0_1, .int .i64 a0_2, .int .i64 a0_3, .int .i64 a0_4, .int .i64 a0_5, .int .i64 a0_6, .slice A0_7 l0_7.length c0_7, .bool a0_8]) (t := 41) ?hr ?_; (case hd => rfl); (case hg => rfl); (case hr => first | (go_simp; done) | (go_simp; rfl)); intro gb101 hg w11 hbox hb; have _ := aM (below_step hbZ hb); have _ := aM hbox; have _ := szZ hg; have _ := szZ hg; clear HB; rename_i HB BK101 GW101 GE101; clear hb hbox hg; obtain ⟨hcz12_0, hcz12_1, hcz12_2, hcz12_3, hcz12_4, hcz12_5, hcz12_6, hcz12_7, hcz12_8, hfz12_0, hfz12_1, hfz12_2, hfz12_3, hfz12_4, hfz12_5, hfz12_6, hfz12_7, hfz12_8⟩ := cellsZ9 BK101.out) | ((with_reducible refine gate_callee (f := 42) rfl ?_); refine goesL_ (some 15) rfl rfl Try.func42 (by kernel_rfl) rfl #[.agg #[.int .i64 a0_3, .int .i64 a0_4, .int .i64 a0_5, .int .i64 a0_6, .slice A0_7 l0_7.length c0_7, .bool a0_8], .int .i64 (wrap64 (a1 - (a0_0.size : Int)))] rfl zee81 ?_; (with_reducible refine (laws_szAgg.calls a0_3 a0_4 a0_5 a0_6 _ _ l0_7 a0_8 (wrap64 (a1 - (a0_0.size : Int))) t102 _ ?side1 ?side2 A6.out).mono ?_); (case side1 => exact (cZ (Kd.C_below HR0_7.out HB.out))); (case side2 => exact HC0_7.out); rintro e w13 ⟨rfl, hb⟩; refine ⟨_, rfl, ?_⟩; have _ := bB gb101 hb; have _ := aM (below_step hbZ hb); clear BK101 HB; rename_i BK101 HB; (try clear hb)))
     go_ret
     exact ⟨z674d, zcb41⟩

end Go.Proofs.Ytdkokfnnebdppaa.P

-- written by a program of this session's (wip/pp)
namespace Go.Proofs.Ytdkokfnnebdppaa.P
open Go.RowKit Go.Proofs.YtdkokfnnebdppaaW.PrintWords Go.Proofs.YtdkokfnnebdppaaW.PrintLast Go.Proofs.YtdkokfnnebdppaaW.PrintMore
attribute [local go_sem] max2_int min2_int max_two min_two max_three min_three max_four min_four str_geq str_gtr str_leq   -- for this text's walks alone
set_option linter.unusedVariables false
set_option linter.unusedSimpArgs false

/-! ### laws_szEntryS: function 7 -/
def laws_szEntryS.l0 : Nat → List (S41) → Int → Int → Option (Int)
 | 0, _, _, _ => none
 | k + 1, x0, x1, x5 => if x5 < (x0.length : Int) then (if 0 ≤ x5 then ((laws_szEntry.f ((rd_T41 x0 x5).f0) ((rd_T41 x0 x5).f1) ((rd_T41 x0 x5).f2) ((rd_T41 x0 x5).f3.f0) ((rd_T41 x0 x5).f3.f1) ((rd_T41 x0 x5).f3.f2) ((rd_T41 x0 x5).f3.f3) ((rd_T41 x0 x5).f3.f4) ((rd_T41 x0 x5).f3.f5) x1).bind fun t102 => (if t102 < 0 then (some (-1)) else (laws_szEntryS.l0 k x0 t102 (wrap64 (x5 + 1))))) else (none)) else (some x1)
def laws_szEntryS.f (k : Nat) (l0 : List (S41)) (a1 : Int) : Option (Int) := if (wrap64 (a1 - (l0.length : Int))) < 0 then (some (-1)) else (laws_szEntryS.l0 k l0 (wrap64 (a1 - (l0.length : Int))) 0)
theorem laws_szEntryS.mono_l : ∀ k, (∀ y0 y1 y2, LeO (laws_szEntryS.l0 k y0 y1 y2) (laws_szEntryS.l0 (k + 1) y0 y1 y2))
 | 0 => fun _ _ _ r h => by simp [laws_szEntryS.l0] at h
 | k + 1 => by
  have ih0 := laws_szEntryS.mono_l k
  · intro y0 y1 y2
    unfold laws_szEntryS.l0
    repeat' first
     | (with_reducible first | exact ih0 .. | exact LeO.refl _ | exact LeO.none _ | refine LeO.ite ?_ ?_ | refine LeO.bind ?_ (fun _ => ?_))
     | exact LeO.none _
     | refine LeO.ite ?_ ?_
     | refine LeO.bind ?_ (fun _ => ?_)
theorem laws_szEntryS.mono : ∀ a0 a1 k, LeO (laws_szEntryS.f k a0 a1) (laws_szEntryS.f (k + 1) a0 a1) := by
 intro a0 a1 k
 have ih0 := laws_szEntryS.mono_l k
 unfold laws_szEntryS.f
 repeat' first
  | (with_reducible first | exact ih0 .. | exact LeO.refl _ | exact LeO.none _ | refine LeO.ite ?_ ?_ | refine LeO.bind ?_ (fun _ => ?_))
  | exact LeO.none _
  | refine LeO.ite ?_ ?_
  | refine LeO.bind ?_ (fun _ => ?_)
set_option maxHeartbeats 8000000 in
set_option maxRecDepth 100000 in
theorem laws_szEntryS.calls (k : Nat) (A0 : Option Addr) (c0 : Nat) (l0 : List (S41)) (a1 : Int) (r : Int) (w : World) (hr0 : Kd.C k41 w A0 l0.length l0) (hc0 : l0.length ≤ c0) (h : laws_szEntryS.f k l0 a1 = some r) :
 Calls Try.prog 7 #[.slice A0 l0.length c0, .int .i64 a1] w fun e w' => e = .returned (.int .i64 r) ∧ Below w.heap.size w w' := by
 have hu41 := Try.underlying41
 have HR0 := aM hr0
 have HC0 := aM hc0
 clear hr0 hc0
 have HB := aM (Below.refl w.heap.size w)
 have H : (if (wrap64 (a1 - (l0.length : Int))) < 0 then (some (-1)) else (laws_szEntryS.l0 k l0 (wrap64 (a1 - (l0.length : Int))) 0)) = some r := h
 clear h
 by_cases c3 : (wrap64 (a1 - (l0.length : Int))) < 0
 · rw [if_pos c3] at H
   have c3b0 : decide ((wrap64 (a1 - (l0.length : Int))) < 0) = true := decide_eq_true c3
   clear c3
   obtain rfl := Option.some.inj H
   go_enter Try.func7, Try.ntmps7
   go_wp2
   go_ret
   exact ⟨z674d, z5acd⟩
 · rw [if_neg c3] at H
   have c3b0 : decide ((wrap64 (a1 - (l0.length : Int))) < 0) = false := decide_eq_false c3
   clear c3
   have H' := aM H
   clear H
   go_enter Try.func7, Try.ntmps7
   go_wp2
   go_loopg [1, 5] k (fun kq v1 v5 w' => ∃ (x1_1 : Int) (x5_1 : Int), v1 = .int .i64 x1_1 ∧ v5 = .int .i64 x5_1 ∧ Aside0 (laws_szEntryS.l0 kq l0 x1_1 x5_1 = some r) ∧ Aside0 (kq ≤ k) ∧ Aside0 (Below w.heap.size w w'))
   case atStart => exact ⟨(wrap64 (a1 - (l0.length : Int))), (0), z4458, z4458, H', ⟨Nat.le_refl _⟩, ⟨z5acd⟩⟩
   case round =>
    clear H'
    try clear p2
    try clear c3
    try clear c3b0
    obtain ⟨x1_1, x5_1, rfl, rfl, HA, HK1, HB⟩ := hrel
    cases gk with
    | zero => exact absurd HA.out (by simp [laws_szEntryS.l0])
    | succ k1 =>
     have H := HA.out
     clear HA
     simp only [laws_szEntryS.l0] at H
     by_cases c4 : x5_1 < (l0.length : Int)
     · rw [if_pos c4] at H
       have c4b0 : decide (x5_1 < (l0.length : Int)) = true := decide_eq_true c4
       clear c4
       replace H := ifS H; obtain ⟨c5, H⟩ := H
       have c5b0 : decide (0 ≤ x5_1) = true := decide_eq_true c5
       clear c5
       replace H := Option.bind_eq_some_iff.mp H
       obtain ⟨t102, A60, H⟩ := H
       try dsimp only at H
       have A6 := aM A60
       clear A60
       by_cases c7 : t102 < 0
       · rw [if_pos c7] at H
         have c7b0 : decide (t102 < 0) = true := decide_eq_true c7
         clear c7
         obtain rfl := Option.some.inj H
         have p101 : 0 ≤ (x5_1 : Int) := of_decide_eq_true z1200
         have q101 : x5_1 < (l0.length : Int) := of_decide_eq_true z1200
         obtain ⟨ad101, A101_7, c101_7, e101, hx101_0, hx101_1, hx101_2, hx101_3, hx101_4, hx101_5, hx101_6, hx101_7, hx101_8, hl101_7, hi101_7⟩ := at_T41 HR0.out x5_1 p101 q101
         cases e101
         have TW101_7 := aM hx101_7
         replace hx101_0 := (HB.out.cell (World.block_lt_of_cell? w _ hx101_0)).trans hx101_0
         replace hx101_1 := (HB.out.cell (World.block_lt_of_cell? w _ hx101_1)).trans hx101_1
         replace hx101_2 := (HB.out.cell (World.block_lt_of_cell? w _ hx101_2)).trans hx101_2
         replace hx101_3 := (HB.out.cell (World.block_lt_of_cell? w _ hx101_3)).trans hx101_3
         replace hx101_4 := (HB.out.cell (World.block_lt_of_cell? w _ hx101_4)).trans hx101_4
         replace hx101_5 := (HB.out.cell (World.block_lt_of_cell? w _ hx101_5)).trans hx101_5
         replace hx101_6 := (HB.out.cell (World.block_lt_of_cell? w _ hx101_6)).trans hx101_6
         replace hx101_7 := (HB.out.cell (World.block_lt_of_cell? w _ hx101_7)).trans hx101_7
         replace hx101_8 := (HB.out.cell (World.block_lt_of_cell? w _ hx101_8)).trans hx101_8
         have HR101_7 := aM hi101_7
         have HC101_7 := aM hl101_7
         clear hi101_7 hl101_7
         replace p101 := eq_true p101
         replace q101 := eq_true q101
         go_wp2_with (first | ((with_reducible refine gate_callee (f := 19) rfl ?_); refine goesL_ (some 23) rfl rfl Try.func19 (by kernel_rfl) rfl #[.agg #[.string ((rd_T41 l0 x5_1).f0), .int .i64 ((rd_T41 l0 x5_1).f1), .int .i64 ((rd_T41 l0 x5_1).f2), .int .i64 ((rd_T41 l0 x5_1).f3.f0), .int .i64 ((rd_T41 l0 x5_1).f3.f1), .int .i64 ((rd_T41 l0 x5_1).f3.f2), .int .i64 ((rd_T41 l0 x5_1).f3.f3), .slice A101_7 ((rd_T41 l0 x5_1).f3.f4).length c101_7, .bool ((rd_T41 l0 x5_1).f3.f5)], .int .i64 x1_1] rfl zee81 ?_; (with_reducible refine (laws_szEntry.calls ((rd_T41 l0 x5_1).f0) ((rd_T41 l0 x5_1).f1) ((rd_T41 l0 x5_1).f2) ((rd_T41 l0 x5_1).f3.f0) ((rd_T41 l0 x5_1).f3.f1) ((rd_T41 l0 x5_1).f3.f2) ((rd_T41 l0 x5_1).f3.f3) _ _ ((rd_T41 l0 x5_1).f3.f4) ((rd_T41 l0 x5_1).f3.f5) x1_1 t102 _ ?side1 ?side2 A6.out).mono ?_); (case side1 => exact (cZ (Kd.C_below HR101_7.out HB.out))); (case side2 => exact HC101_7.out); rintro e w8 ⟨rfl, hb⟩; refine ⟨_, rfl, ?_⟩; have _ := aM (below_step hbZ hb); clear HB; rename_i HB; (try clear hb)))
         go_ret
         exact ⟨z674d, z5acd⟩
       · rw [if_neg c7] at H
         have c7b0 : decide (t102 < 0) = false := decide_eq_false c7
         clear c7
         have H' := aM H
         clear H
         have p101 : 0 ≤ (x5_1 : Int) := of_decide_eq_true z1200
         have q101 : x5_1 < (l0.length : Int) := of_decide_eq_true z1200
         obtain ⟨ad101, A101_7, c101_7, e101, hx101_0, hx101_1, hx101_2, hx101_3, hx101_4, hx101_5, hx101_6, hx101_7, hx101_8, hl101_7, hi101_7⟩ := at_T41 HR0.out x5_1 p101 q101
         cases e101
         have TW101_7 := aM hx101_7
         replace hx101_0 := (HB.out.cell (World.block_lt_of_cell? w _ hx101_0)).trans hx101_0
         replace hx101_1 := (HB.out.cell (World.block_lt_of_cell? w _ hx101_1)).trans hx101_1
         replace hx101_2 := (HB.out.cell (World.block_lt_of_cell? w _ hx101_2)).trans hx101_2
         replace hx101_3 := (HB.out.cell (World.block_lt_of_cell? w _ hx101_3)).trans hx101_3
         replace hx101_4 := (HB.out.cell (World.block_lt_of_cell? w _ hx101_4)).trans hx101_4
         replace hx101_5 := (HB.out.cell (World.block_lt_of_cell? w _ hx101_5)).trans hx101_5
         replace hx101_6 := (HB.out.cell (World.block_lt_of_cell? w _ hx101_6)).trans hx101_6
         replace hx101_7 := (HB.out.cell (World.block_lt_of_cell? w _ hx101_7)).trans hx101_7
         replace hx101_8 := (HB.out.cell (World.block_lt_of_cell? w _ hx101_8)).trans hx101_8
         have HR101_7 := aM hi101_7
         have HC101_7 := aM hl101_7
         clear hi101_7 hl101_7
         replace p101 := eq_true p101
         replace q101 := eq_true q101
         go_wp2_with (first | ((with_reducible refine gate_callee (f := 19) rfl ?_); refine goesL_ (some 23) rfl rfl Try.func19 (by kernel_rfl) rfl #[.agg #[.string ((rd_T41 l0 x5_1).f0), .int .i64 ((rd_T41 l0 x5_1).f1), .int .i64 ((rd_T41 l0 x5_1).f2), .int .i64 ((rd_T41 l0 x5_1).f3.f0), .int .i64 ((rd_T41 l0 x5_1).f3.f1), .int .i64 ((rd_T41 l0 x5_1).f3.f2), .int .i64 ((rd_T41 l0 x5_1).f3.f3), .slice A101_7 ((rd_T41 l0 x5_1).f3.f4).length c101_7, .bool ((rd_T41 l0 x5_1).f3.f5)], .int .i64 x1_1] rfl zee81 ?_; (with_reducible refine (laws_szEntry.calls ((rd_T41 l0 x5_1).f0) ((rd_T41 l0 x5_1).f1) ((rd_T41 l0 x5_1).f2) ((rd_T41 l0 x5_1).f3.f0) ((rd_T41 l0 x5_1).f3.f1) ((rd_T41 l0 x5_1).f3.f2) ((rd_T41 l0 x5_1).f3.f3) _ _ ((rd_T41 l0 x5_1).f3.f4) ((rd_T41 l0 x5_1).f3.f5) x1_1 t102 _ ?side1 ?side2 A6.out).mono ?_); (case side1 => exact (cZ (Kd.C_below HR101_7.out HB.out))); (case side2 => exact HC101_7.out); rintro e w9 ⟨rfl, hb⟩; refine ⟨_, rfl, ?_⟩; have _ := aM (below_step hbZ hb); clear HB; rename_i HB; (try clear hb)))
         go_roundg k1
         case measure => have := HK1.out; omega
         case rel => exact ⟨(t102), (wrap64 (x5_1 + 1)), z4458, z4458, H', ⟨zfb39⟩, ⟨z5acd⟩⟩
     · rw [if_neg c4] at H
       have c4b0 : decide (x5_1 < (l0.length : Int)) = false := decide_eq_false c4
       clear c4
       obtain rfl := Option.some.inj H
       go_wp2
       go_ret
       exact ⟨z674d, z5acd⟩

end Go.Proofs.Ytdkokfnnebdppaa.P

-- written by a program of this session's (wip/pp)
namespace Go.Proofs.Ytdkokfnnebdppaa.P
open Go.RowKit Go.Proofs.YtdkokfnnebdppaaW.PrintWords Go.Proofs.YtdkokfnnebdppaaW.PrintLast Go.Proofs.YtdkokfnnebdppaaW.PrintMore
attribute [local go_sem] max2_int min2_int max_two min_two max_three min_three max_four min_four str_geq str_gtr str_leq   -- for this text's walks alone
set_option linter.unusedVariables false
set_option linter.unusedSimpArgs false

/-! ### spec_l1In: function 64 -/
def spec_l1In.f (a0 : Int) (a1 : Int) (a2 : Int) : Option (Bool) := if a0 ≥ a1 then (some (decide (a0 ≤ a2))) else (some false)
set_option maxHeartbeats 8000000 in
set_option maxRecDepth 100000 in
theorem spec_l1In.calls (a0 : Int) (a1 : Int) (a2 : Int) (r : Bool) (w : World) (h : spec_l1In.f a0 a1 a2 = some r) :
 Calls Try.prog 64 #[.int .i64 a0, .int .i64 a1, .int .i64 a2] w fun e w' => e = .returned (.bool r) ∧ Drawn0 w w' := by
 have H : (if a0 ≥ a1 then (some (decide (a0 ≤ a2))) else (some false)) = some r := h
 clear h
 by_cases c4 : a0 ≥ a1
 · rw [if_pos c4] at H
   have c4b0 : decide (a1 ≤ a0) = true := decide_eq_true c4
   clear c4
   obtain rfl := Option.some.inj H
   go_enter Try.func64, Try.ntmps64
   go_wp2
   go_ret
   exact ⟨z4458, za9de⟩
 · rw [if_neg c4] at H
   have c4b0 : decide (a1 ≤ a0) = false := decide_eq_false c4
   clear c4
   obtain rfl := Option.some.inj H
   go_enter Try.func64, Try.ntmps64
   go_wp2
   go_ret
   exact ⟨z4458, za9de⟩

end Go.Proofs.Ytdkokfnnebdppaa.P

-- written by a program of this session's (wip/pp)
namespace Go.Proofs.Ytdkokfnnebdppaa.P
open Go.RowKit Go.Proofs.YtdkokfnnebdppaaW.PrintWords Go.Proofs.YtdkokfnnebdppaaW.PrintLast Go.Proofs.YtdkokfnnebdppaaW.PrintMore
attribute [local go_sem] max2_int min2_int max_two min_two max_three min_three max_four min_four str_geq str_gtr str_leq   -- for this text's walks alone
set_option linter.unusedVariables false
set_option linter.unusedSimpArgs false

/-! ### spec_l4Value: function 94 -/
def spec_l4Value.f (a0 : Int) : Option (Bool) := (spec_l1In.f a0 (-1000000000) 1000000000).bind fun t101 => (some t101)
set_option maxHeartbeats 8000000 in
set_option maxRecDepth 100000 in
theorem spec_l4Value.calls (a0 : Int) (r : Bool) (w : World) (h : spec_l4Value.f a0 = some r) :
 Calls Try.prog 94 #[.int .i64 a0] w fun e w' => e = .returned (.bool r) ∧ Drawn0 w w' := by
 have H : ((spec_l1In.f a0 (-1000000000) 1000000000).bind fun t101 => (some t101)) = some r := h
 clear h
 replace H := Option.bind_eq_some_iff.mp H
 obtain ⟨t101, A20, H⟩ := H
 try dsimp only at H
 have A2 := aM A20
 clear A20
 obtain rfl := Option.some.inj H
 go_enter Try.func94, Try.ntmps94
 go_wp2_with (first | ((with_reducible refine gate_callee (f := 64) rfl ?_); refine goesL_ (some 4) rfl rfl Try.func64 (by kernel_rfl) rfl #[.int .i64 a0, .int .i64 (-1000000000), .int .i64 1000000000] rfl zee81 ?_; (with_reducible refine (spec_l1In.calls a0 (-1000000000) 1000000000 t101 _ A2.out).mono ?_); rintro e w' ⟨rfl, ⟨nd, rfl⟩⟩; refine ⟨_, rfl, ?_⟩))
 go_ret
 exact ⟨z4458, za9de⟩

end Go.Proofs.Ytdkokfnnebdppaa.P
