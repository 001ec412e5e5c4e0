/- Part 5 of the walks and words that FE uses. No conditions of its own. -/
import Derived.Test.YtdkokfnnebdppaaMFE4
set_option maxHeartbeats 8000000
set_option maxRecDepth 100000
namespace Go.Proofs.Ytdkokfnnebdppaa.P
open Go.RowKit Go.Proofs.YtdkokfnnebdppaaW.PrintWords Go.Proofs.YtdkokfnnebdppaaW.PrintLast Go.Proofs.YtdkokfnnebdppaaW.PrintMore
attribute [local go_sem] max2_int min2_int max_two min_two max_three min_three max_four min_four str_geq str_gtr str_leq
set_option linter.unusedVariables false
set_option linter.unusedSimpArgs false
def spec_l1Cur_entry.j0 : Nat → List Int → Int → Int → ByteArray → Int → Int → Int → Int → Int → Int → List Int → Bool → Option (ByteArray × Int × Int × Int × Int × Int × Int × List Int × Bool × Int × Int)
 | 0, _, _, _, _, _, _, _, _, _, _, _, _ => none
 | k + 1, x1000, x1001, x1002, x115000, x115001, x115002, x115003, x115004, x115005, x115006, x115007, x115008 => (spec_l1Cur_pick.f x1000 x1001 x1002 60).bind fun bt125 => (if bt125.1 = 0 then (if 140 ≤ 281474976710656 then (if 141 ≤ 281474976710656 then ((spec_l1Cur_of.f x1000 bt125.2.1 bt125.2.2 (([(⟨#[]⟩ : ByteArray), strOfNums (List.replicate 140 0), strOfNums (List.replicate 141 0)] : List ByteArray))).bind fun bt137 => (some (bt137.1, x115001, x115002, x115003, x115004, x115005, x115006, x115007, x115008, bt137.2.1, bt137.2.2))) else (none)) else (none)) else (if bt125.1 = 1 then ((spec_l1Cur_among.f x1000 bt125.2.1 bt125.2.2 (([0, 1000000000, 1000000001] : List Int))).bind fun bt143 => (some (x115000, bt143.1, x115002, x115003, x115004, x115005, x115006, x115007, x115008, bt143.2.1, bt143.2.2))) else (if bt125.1 = 2 then ((spec_l1Cur_among.f x1000 bt125.2.1 bt125.2.2 (([0, 4] : List Int))).bind fun bt149 => (some (x115000, x115001, bt149.1, x115003, x115004, x115005, x115006, x115007, x115008, bt149.2.1, bt149.2.2))) else (some (x115000, x115001, x115002, x115003, x115004, x115005, x115006, x115007, x115008, bt125.2.1, bt125.2.2)))))
def spec_l1Cur_entry.f (k : Nat) (s0_0 : List Int) (s0_1 : Int) (s0_2 : Int) : Option (ByteArray × Int × Int × Int × Int × Int × Int × List Int × Bool × Int × Int) := (spec_l1Cur_keyText.f s0_0 s0_1 s0_2).bind fun bt102 => ((spec_l1Cur_pick.f s0_0 bt102.2.1 bt102.2.2 40).bind fun bt105 => ((spec_l1Cur_among.f s0_0 bt105.2.1 bt105.2.2 (([1, 2, 3, 3] : List Int))).bind fun bt111 => (if bt111.1 = 2 then (spec_l1Cur_entry.j0 k s0_0 bt111.2.1 bt111.2.2 bt102.1 (wrap64 (1 + bt105.1)) bt111.1 0 0 0 0 ([] : List Int) false) else ((spec_l1Cur_agg.f k s0_0 bt111.2.1 bt111.2.2).bind fun bt115 => (spec_l1Cur_entry.j0 k s0_0 bt115.2.2.2.2.2.2.1 bt115.2.2.2.2.2.2.2 bt102.1 (wrap64 (1 + bt105.1)) bt111.1 bt115.1 bt115.2.1 bt115.2.2.1 bt115.2.2.2.1 bt115.2.2.2.2.1 bt115.2.2.2.2.2.1)))))
theorem spec_l1Cur_entry.mono_l : ∀ k, (∀ y0 y1 y2 y3 y4 y5 y6 y7 y8 y9 y10 y11, LeO (spec_l1Cur_entry.j0 k y0 y1 y2 y3 y4 y5 y6 y7 y8 y9 y10 y11) (spec_l1Cur_entry.j0 (k + 1) y0 y1 y2 y3 y4 y5 y6 y7 y8 y9 y10 y11))
 | 0 => fun _ _ _ _ _ _ _ _ _ _ _ _ r h => by simp [spec_l1Cur_entry.j0] at h
 | k + 1 => by
  have ih0 := spec_l1Cur_entry.mono_l k; have m0 := @spec_l1Cur_agg.mono
  · intro y0 y1 y2 y3 y4 y5 y6 y7 y8 y9 y10 y11
    unfold spec_l1Cur_entry.j0
    exact moZ
theorem spec_l1Cur_entry.mono : ∀ a0 a1 a2 k, LeO (spec_l1Cur_entry.f k a0 a1 a2) (spec_l1Cur_entry.f (k + 1) a0 a1 a2) := by
 intro a0 a1 a2 k
 have ih0 := spec_l1Cur_entry.mono_l k
 have m0 := @spec_l1Cur_agg.mono
 unfold spec_l1Cur_entry.f
 exact moZ
def spec_l1Cur_entry.T6 : Bool × List (List Nat × List Nat) := (true, [([], []), ([], []), ([1], [1]), ([], []), ([3], [3]), ([2, 4], [2, 4]), ([0, 5], [0, 5]), ([0, 1, 2, 3, 4, 5, 6], []), ([7, 6, 6, 0, 1, 2, 3, 4, 5, 6], [6, 7])])
def spec_l1Cur_entry.B6 : List Nat := [0, 0, 2, 0, 8, 30, 63, 127, 255]
theorem spec_l1Cur_entry.tab6 : rtab .any (opsOf Try.f54 6) = spec_l1Cur_entry.T6 := by kernel_rfl
theorem spec_l1Cur_entry.bits6 : waitsOk spec_l1Cur_entry.T6.2 spec_l1Cur_entry.B6 = true := by kernel_rfl
theorem spec_l1Cur_entry.calls (k : Nat) (g : Nat) (s0_0 : List Int) (s0_1 : Int) (s0_2 : Int) (r1 : ByteArray) (r2 : Int) (r3 : Int) (r4 : Int) (r5 : Int) (r6 : Int) (r7 : Int) (r8 : List Int) (r9 : Bool) (r10 : Int) (r11 : Int) (w0 w : World) (hI : IsS76 w0 w g s0_0 s0_1 s0_2) (hB : Below w0.heap.size w0 w) (h : spec_l1Cur_entry.f k s0_0 s0_1 s0_2 = some (r1, r2, r3, r4, r5, r6, r7, r8, r9, r10, r11)) :
 Calls Try.prog 54 #[.pointer (some ⟨g, 0, none⟩)] w fun e w' => ∃ v7_ : Value, e = .returned (.agg #[.string r1, .int .i64 r2, .int .i64 r3, .int .i64 r4, .int .i64 r5, .int .i64 r6, .int .i64 r7, v7_, .bool r9]) ∧ Kd.Q (Kd.int .i64) 3 w' w.heap.size (fun _ => True) v7_ r8 ∧ IsS76 w0 w' g s0_0 r10 r11 ∧ Below w0.heap.size w0 w' ∧ KeepBut w w' g none := by
 have hu45 := Try.underlying45
 have hu26 := Try.underlying26
 have HI0 := aM hI
 have HK := aM (KeepBut.refl w g none)
 have HL := aM hB.size
 clear hI
 have HW0 := aM hB.size
 have HB := aM hB
 clear hB
 have H : ((spec_l1Cur_keyText.f s0_0 s0_1 s0_2).bind fun bt102 => ((spec_l1Cur_pick.f s0_0 bt102.2.1 bt102.2.2 40).bind fun bt105 => ((spec_l1Cur_among.f s0_0 bt105.2.1 bt105.2.2 (([1, 2, 3, 3] : List Int))).bind fun bt111 => (if bt111.1 = 2 then (spec_l1Cur_entry.j0 k s0_0 bt111.2.1 bt111.2.2 bt102.1 (wrap64 (1 + bt105.1)) bt111.1 0 0 0 0 ([] : List Int) false) else ((spec_l1Cur_agg.f k s0_0 bt111.2.1 bt111.2.2).bind fun bt115 => (spec_l1Cur_entry.j0 k s0_0 bt115.2.2.2.2.2.2.1 bt115.2.2.2.2.2.2.2 bt102.1 (wrap64 (1 + bt105.1)) bt111.1 bt115.1 bt115.2.1 bt115.2.2.1 bt115.2.2.2.1 bt115.2.2.2.2.1 bt115.2.2.2.2.2.1)))))) = some (r1, r2, r3, r4, r5, r6, r7, r8, r9, r10, r11) := h
 clear h
 obtain ⟨⟨t102, t103, t104⟩, A2, H⟩ := bS H; try dsimp only at H
 obtain ⟨⟨t105, t106, t107⟩, A3, H⟩ := bS H; try dsimp only at H
 obtain ⟨y108, hy108⟩ : ∃ y_ : List Int, y_ = (([1, 2, 3, 3] : List Int)) := ⟨_, rfl⟩
 first | (replace H := bindS H; rw [← hy108] at H; try dsimp only at H) | rw [← hy108] at H
 have Ny108 := aM hy108
 clear hy108
 obtain ⟨⟨t111, t112, t113⟩, A4, H⟩ := bS H; try dsimp only at H
 have HC5 := aM H
 clear H
 go_enter Try.func54, Try.ntmps54
 go_upto_if 15 with (first | ((with_reducible refine gate_dst (N := 2) rfl ?_); refine bX 2 45 #[.string (⟨#[]⟩ : ByteArray), .int .i64 0, .int .i64 0, .int .i64 0, .int .i64 0, .int .i64 0, .int .i64 0, .slice none 0 0, .bool false] ?_; intro gb101 hg w6 hbox hb; have _ := aM (IsS76.below z0f56 hb); have _ := aM (KeepBut.trans zcbec (KeepBut.of_below hb g none) (.inl rfl)); have _ := aM (below_step zc59d hb); have _ := aM hbox; have _ := aM ((by rw [hg]; exact (keep_size (w := w) (g := g) (row := none) zcbec) : w.heap.size ≤ gb101)); have _ := aM ((Nat.le_trans HW0.out (by rw [hg]; exact (keep_size (w := w) (g := g) (row := none) zcbec) : w.heap.size ≤ gb101) : w0.heap.size ≤ gb101)); have _ := aM ((by rw [hg]; exact Nat.ne_of_lt (IsS76.lt (show IsS76 w0 _ g s0_0 s0_1 s0_2 from by repeat (first | (with_reducible first | exact HI0.out | apply IsS76.alloc | apply IsS76.drewN | apply IsS76.drew | apply IsS76.set_1 | apply IsS76.set_2) | exact HI0.out))) : g ≠ gb101)); have _ := aM ((by rw [hg]; exact Nat.ne_of_gt (IsS76.lt (show IsS76 w0 _ g s0_0 s0_1 s0_2 from by repeat (first | (with_reducible first | exact HI0.out | apply IsS76.alloc | apply IsS76.drewN | apply IsS76.drew | apply IsS76.set_1 | apply IsS76.set_2) | exact HI0.out))) : gb101 ≠ g)); clear HI0 HK HB; rename_i HI0 HK HB BK101 GW101 GE101 NB0_101 NB101_0; clear hb hbox hg) | ((with_reducible refine gate_callee (f := 61) rfl ?_); refine gL 5 Try.func61 #[.pointer (some ⟨g, 0, none⟩)] ?_; (with_reducible refine (spec_l1Cur_keyText.calls g s0_0 s0_1 s0_2 t102 t103 t104 w0 _ ?side1 ?side2 A2.out).mono ?_); (case side1 => exact z16b9); (case side2 => exact za8af); rintro e w7 ⟨rfl, hi, hb, hk⟩; refine ⟨_, rfl, ?_⟩; have _ := aM (KeepBut.blk hk (g' := gb101) bkZ NB101_0.out (by simp)); have _ := aM (KeepBut.trans z7c8e hk (.inl rfl)); have _ := aM hb; have _ := aM hi; clear BK101 HK HB HI0; rename_i BK101 HK HB HI0; (try clear hb); (try clear hk); (try clear hi)) | ((with_reducible refine gate_callee (f := 53) rfl ?_); refine gL 7 Try.func53 #[.pointer (some ⟨g, 0, none⟩), .int .i64 40] ?_; (with_reducible refine (spec_l1Cur_pick.calls g s0_0 t103 t104 40 t105 t106 t107 w0 _ ?side1 ?side2 A3.out).mono ?_); (case side1 => exact z16b9); (case side2 => exact za8af); rintro e w8 ⟨rfl, hi, hb, hk⟩; refine ⟨_, rfl, ?_⟩; have _ := aM (KeepBut.blk hk (g' := gb101) bkZ NB101_0.out (by simp)); have _ := aM (KeepBut.trans z7c8e hk (.inl rfl)); have _ := aM hb; have _ := aM hi; clear BK101 HK HB HI0; rename_i BK101 HK HB HI0; (try clear hb); (try clear hk); (try clear hi)) | ((with_reducible refine gate_dst (N := 10) rfl ?_); refine Kd.R_lit (Kd.int .i64) _ 3 ?hg (N := 10) ?hd (xs := ([1, 2, 3, 3] : List Int)) (inner := [.int .i64 1, .int .i64 2, .int .i64 3, .int .i64 3]) (ok := fun _ => True) (okp := fun _ => True) ?hr ?hp (fun _ hk => hk) trivial (Below.refl _ _) (Nat.le_refl _) (by simp) ?_; (case hd => rfl); (case hg => rfl); (case hr => first | (go_simp; done) | (go_simp; rfl)); (case hp => exact (Reps.one (show Kd.M (Kd.int .i64) _ _ _ 1 [.int .i64 1] from rfl) (Reps.one (show Kd.M (Kd.int .i64) _ _ _ 2 [.int .i64 2] from rfl) (Reps.one (show Kd.M (Kd.int .i64) _ _ _ 3 [.int .i64 3] from rfl) (Reps.one (show Kd.M (Kd.int .i64) _ _ _ 3 [.int .i64 3] from rfl) (Reps.none _ _)))))); intro v109 w9 ho10 hb hg_ hnew_; clear hg_ hnew_; (first | rw [← Ny108.out] at ho10 | (simp only [Int.reduceToNat] at ho10; rw [← Ny108.out] at ho10)); have _ := aM (Kd.R_lower ho10 (keep_size (w := w) (g := g) (row := none) z7c8e)); have _ := aM (IsS76.below z16b9 hb); have _ := bB gb101 hb; have _ := aM (KeepBut.trans z7c8e (KeepBut.of_below hb g none) (.inl rfl)); have _ := aM (below_step za8af hb); clear HI0 BK101 HK HB; rename_i HO110 HI0 BK101 HK HB; clear hb ho10; obtain ⟨Ao11, co11, eo11⟩ := Kd.R_slice HO110.out; subst eo11) | ((with_reducible refine gate_callee (f := 60) rfl ?_); refine gL 11 Try.func60 #[.pointer (some ⟨g, 0, none⟩), .slice Ao11 y108.length co11] ?_; (with_reducible refine (spec_l1Cur_among.calls g s0_0 t106 t107 _ _ y108 t111 t112 t113 w0 _ ?side1 ?side2 ?side3 ?side4 ?side5 A4.out).mono ?_); (case side1 => exact z16b9); (case side2 => exact za8af); (case side3 => exact (by repeat (first | exact (Kd.R_reads' HO110.out).2.2 | (with_reducible refine Kd.C_alloc ?_ _) | (with_reducible refine Kd.C_drewN ?_ _) | (with_reducible refine Kd.C_drew ?_)))); (case side4 => exact (Kd.R_reads' HO110.out).2.1); (case side5 => exact far_slice (IsS76.own_ne HI0.out HO110.out (by decide))); rintro e w12 ⟨rfl, hi, hb, hk⟩; refine ⟨_, rfl, ?_⟩; have _ := aM (KeepBut.blk hk (g' := gb101) bkZ NB101_0.out (by simp)); have _ := aM (Kd.R_mono (Kd.R_keep (IsS76.apart (show IsS76 w0 _ g s0_0 t106 t107 from by repeat (first | (with_reducible first | exact HI0.out | apply IsS76.alloc | apply IsS76.drewN | apply IsS76.drew | apply IsS76.set_1 | apply IsS76.set_2 | refine IsS76.far ?_ (Aside0.out (by assumption)) _) | exact HI0.out)) (rZ HO110.out) (by decide)) hk (fun _ h => h.2)) (fun _ h => h.1)); have _ := aM (KeepBut.trans z7c8e hk (.inl rfl)); have _ := aM hb; have _ := aM hi; clear BK101 HO110 HK HB HI0; rename_i BK101 HO110 HK HB HI0; (try clear hb); (try clear hk); (try clear hi)) | ((with_reducible refine gate_dst (N := 3) rfl ?_); refine bX 3 45 #[.string (⟨#[]⟩ : ByteArray), .int .i64 0, .int .i64 0, .int .i64 0, .int .i64 0, .int .i64 0, .int .i64 0, .slice none 0 0, .bool false] ?_; intro gb114 hg w13 hbox hb; have _ := aM (Kd.R_below (rZ HO110.out) hb); have _ := aM (IsS76.below z16b9 hb); have _ := bB gb101 hb; have _ := aM (KeepBut.trans z7c8e (KeepBut.of_below hb g none) (.inl rfl)); have _ := aM (below_step za8af hb); have _ := aM hbox; have _ := aM ((by rw [hg]; exact (keep_size (w := w) (g := g) (row := none) z7c8e) : w.heap.size ≤ gb114)); have _ := aM ((Nat.le_trans HW0.out (by rw [hg]; exact (keep_size (w := w) (g := g) (row := none) z7c8e) : w.heap.size ≤ gb114) : w0.heap.size ≤ gb114)); have ⟨_, _⟩ := nbB gb101 hg; have _ := aM ((by rw [hg]; exact Nat.ne_of_lt (IsS76.lt (show IsS76 w0 _ g s0_0 t112 t113 from by repeat (first | (with_reducible first | exact HI0.out | apply IsS76.alloc | apply IsS76.drewN | apply IsS76.drew | apply IsS76.set_1 | apply IsS76.set_2 | refine IsS76.far ?_ (Aside0.out (by assumption)) _) | exact HI0.out))) : g ≠ gb114)); have _ := aM ((by rw [hg]; exact Nat.ne_of_gt (IsS76.lt (show IsS76 w0 _ g s0_0 t112 t113 from by repeat (first | (with_reducible first | exact HI0.out | apply IsS76.alloc | apply IsS76.drewN | apply IsS76.drew | apply IsS76.set_1 | apply IsS76.set_2 | refine IsS76.far ?_ (Aside0.out (by assumption)) _) | exact HI0.out))) : gb114 ≠ g)); clear HO110 HI0 BK101 HK HB; rename_i HO110 HI0 BK101 HK HB BK114 GW114 GE114 NB101_114 NB114_101 NB0_114 NB114_0; clear hb hbox hg; have hnb14 := NB114_101.out; have hnc14 := NB101_114.out; have hnb15 := NB114_0.out; have hnc15 := NB0_114.out; have hz16 := cellsZ9 BK114.out))
 (try simp only [Act.put, List.setIfInBounds_toArray, List.set_cons_zero, List.set_cons_succ])
 go_cut [] (fun wc => ∃ (kq : Nat) (x1001_4 : Int) (x1002_4 : Int) (x115003_4 : Int) (x115004_4 : Int) (x115005_4 : Int) (x115006_4 : Int) (x115007_4 : List Int) (x115008_4 : Bool) (u115007 : Value), Aside0 (spec_l1Cur_entry.j0 kq s0_0 x1001_4 x1002_4 t102 (wrap64 (1 + t105)) t111 x115003_4 x115004_4 x115005_4 x115006_4 x115007_4 x115008_4 = some (r1, r2, r3, r4, r5, r6, r7, r8, r9, r10, r11)) ∧ Aside0 (kq ≤ k) ∧ Aside0 (Kd.Q (Kd.int .i64) 3 wc w.heap.size (fun _ => True) u115007 x115007_4) ∧ Aside0 (wc.heap[gb101]? = some (.cells #[.string (⟨#[]⟩ : ByteArray), .int .i64 0, .int .i64 0, .int .i64 0, .int .i64 0, .int .i64 0, .int .i64 0, (.slice none 0 0), .bool false] 45 (0, 0))) ∧ Aside0 (wc.heap[gb114]? = some (.cells #[.string t102, .int .i64 (wrap64 (1 + t105)), .int .i64 t111, .int .i64 x115003_4, .int .i64 x115004_4, .int .i64 x115005_4, .int .i64 x115006_4, u115007, .bool x115008_4] 45 (0, 0))) ∧ Aside0 (IsS76 w0 wc g s0_0 x1001_4 x1002_4) ∧ Aside0 (KeepBut w wc g none) ∧ Aside0 (Below w0.heap.size w0 wc))
 case first =>
  have H := HC5.out
  clear HC5
  by_cases c17 : t111 = 2
  · rw [if_pos c17] at H
    have c17b0 : (t111 == 2) = true := beq_iff_eq.mpr c17
    have c17b1 : (t111 != 2) = false := bne_eq_false_iff_eq.mpr c17
    clear c17
    (first | rw [c17b0] | (simp only [i64_w, i32_w]; rw [c17b0]) | skip)
    have H' := aM H
    clear H
    go_wp2
    go_meet
    case rel => exact ⟨_, (t112), (t113), (0), (0), (0), (0), (([] : List Int)), (false), (.slice none 0 0), H', ⟨zb79b⟩, ⟨Kd.Q_of_R z02fa⟩, ⟨bkZ⟩, ⟨bkZ⟩, ⟨z16b9⟩, ⟨z7c8e⟩, ⟨za8af⟩⟩
  · rw [if_neg c17] at H
    have c17b0 : (t111 == 2) = false := beq_eq_false_iff_ne.mpr c17
    have c17b1 : (t111 != 2) = true := bne_iff_ne.mpr c17
    (first | rw [c17b0] | (simp only [i64_w, i32_w]; rw [c17b0]) | skip)
    obtain ⟨⟨t115, t116, t117, t118, t119, t122, t123, t124⟩, A18, H⟩ := bS H; try dsimp only at H
    have H' := aM H
    clear H
    go_wp2_with (first | ((with_reducible refine gate_callee (f := 85) rfl ?_); refine gL 17 Try.func85 #[.pointer (some ⟨g, 0, none⟩)] ?_; (with_reducible refine (spec_l1Cur_agg.calls k g s0_0 t112 t113 t115 t116 t117 t118 t119 t122 t123 t124 w0 _ ?side1 ?side2 A18.out).mono ?_); (case side1 => exact z16b9); (case side2 => exact za8af); rintro e w19 ⟨v120, rfl, ho0, hi, hb, hk⟩; refine ⟨_, rfl, ?_⟩; have _ := aM (KeepBut.blk hk (g' := gb101) bkZ NB101_0.out (by simp)); have _ := aM (Kd.R_mono (Kd.R_told (Kd.R_oldK (IsS76.apart (show IsS76 w0 _ g s0_0 t112 t113 from by repeat (first | (with_reducible first | exact HI0.out | apply IsS76.alloc | apply IsS76.drewN | apply IsS76.drew | apply IsS76.set_1 | apply IsS76.set_2 | refine IsS76.far ?_ (Aside0.out (by assumption)) _) | exact HI0.out)) (by (with_reducible repeat (first | apply Kd.R_alloc | apply Kd.R_drewN | apply Kd.R_drew)); exact (Kd.R_mono (Kd.R_far (p := ⟨gb114, 8, none⟩) (Kd.R_far (p := ⟨gb114, 7, none⟩) (Kd.R_far (p := ⟨gb114, 6, none⟩) (Kd.R_far (p := ⟨gb114, 5, none⟩) (Kd.R_far (p := ⟨gb114, 4, none⟩) (Kd.R_far (p := ⟨gb114, 3, none⟩) (Kd.R_far (p := ⟨gb114, 2, none⟩) (Kd.R_far (p := ⟨gb114, 1, none⟩) (Kd.R_far (p := ⟨gb114, 0, none⟩) (Kd.R_types HO110.out BK114.out (by decide)) (fun _ hk => hk.2) (.string t102)) (fun _ hk => hk.2) (.int .i64 (wrap64 (1 + t105)))) (fun _ hk => hk.2) (.int .i64 t111)) (fun _ hk => hk.2) (.int .i64 0)) (fun _ hk => hk.2) (.int .i64 0)) (fun _ hk => hk.2) (.int .i64 0)) (fun _ hk => hk.2) (.int .i64 0)) (fun _ hk => hk.2) (.slice none 0 0)) (fun _ hk => hk.2) (.bool false)) (fun _ h_ => h_.1))) (by decide)) hk) (Kd.Q_base ho0)) (fun _ h_ => h_.1)); have _ := aM (KeepBut.blk hk (g' := gb114) (o := .cells #[.string t102, .int .i64 (wrap64 (1 + t105)), .int .i64 t111, .int .i64 0, .int .i64 0, .int .i64 0, .int .i64 0, .slice none 0 0, .bool false] 45 (0, 0)) bkZ NB114_0.out (by simp)); have _ := aM (Kd.Q_lower (Kd.Q_new' ho0 (Kd.R_lt (by (with_reducible repeat (first | apply Kd.R_alloc | apply Kd.R_drewN | apply Kd.R_drew)); exact (Kd.R_mono (Kd.R_far (p := ⟨gb114, 8, none⟩) (Kd.R_far (p := ⟨gb114, 7, none⟩) (Kd.R_far (p := ⟨gb114, 6, none⟩) (Kd.R_far (p := ⟨gb114, 5, none⟩) (Kd.R_far (p := ⟨gb114, 4, none⟩) (Kd.R_far (p := ⟨gb114, 3, none⟩) (Kd.R_far (p := ⟨gb114, 2, none⟩) (Kd.R_far (p := ⟨gb114, 1, none⟩) (Kd.R_far (p := ⟨gb114, 0, none⟩) (Kd.R_types HO110.out BK114.out (by decide)) (fun _ hk => hk.2) (.string t102)) (fun _ hk => hk.2) (.int .i64 (wrap64 (1 + t105)))) (fun _ hk => hk.2) (.int .i64 t111)) (fun _ hk => hk.2) (.int .i64 0)) (fun _ hk => hk.2) (.int .i64 0)) (fun _ hk => hk.2) (.int .i64 0)) (fun _ hk => hk.2) (.int .i64 0)) (fun _ hk => hk.2) (.slice none 0 0)) (fun _ hk => hk.2) (.bool false)) (fun _ h_ => h_.1))))) (keep_size (w := w) (g := g) (row := none) z7c8e)); have _ := aM (KeepBut.trans z7c8e hk (.inl rfl)); have _ := aM hb; have _ := aM hi; clear BK101 HO110 BK114 HK HB HI0; rename_i BK101 HO110 BK114 HO121 HK HB HI0; (try clear hb); (try clear hk); (try clear hi); (try clear ho0); have hnb20 := NB114_101.out; have hnc20 := NB101_114.out; have hnb21 := NB114_0.out; have hnc21 := NB0_114.out; have hz22 := cellsZ9 BK114.out; obtain ⟨Ao23, co23, eo23, _⟩ := Kd.Q_slice HO121.out; subst eo23))
    go_meet
    case rel => exact ⟨_, (t123), (t124), (t115), (t116), (t117), (t118), (t119), (t122), (.slice Ao23 t119.length co23), H', ⟨zb79b⟩, ⟨by (with_reducible repeat (first | apply Kd.Q_alloc | apply Kd.Q_drewN | apply Kd.Q_drew)); exact Kd.Q_mono (Kd.Q_far (p := ⟨gb114, 8, none⟩) (Kd.Q_far (p := ⟨gb114, 7, none⟩) (Kd.Q_far (p := ⟨gb114, 6, none⟩) (Kd.Q_far (p := ⟨gb114, 5, none⟩) (Kd.Q_far (p := ⟨gb114, 4, none⟩) (Kd.Q_far (p := ⟨gb114, 3, none⟩) (Kd.Q_types HO121.out BK114.out (by decide)) (fun _ hk => hk.2) (.int .i64 t115)) (fun _ hk => hk.2) (.int .i64 t116)) (fun _ hk => hk.2) (.int .i64 t117)) (fun _ hk => hk.2) (.int .i64 t118)) (fun _ hk => hk.2) (.slice Ao23 t119.length co23)) (fun _ hk => hk.2) (.bool t122)) (fun _ hk => trivial)⟩, ⟨bkZ⟩, ⟨bkZ⟩, ⟨z16b9⟩, ⟨z7c8e⟩, ⟨za8af⟩⟩
 case rest =>
  clear HC5
  (try clear hz16)
  obtain ⟨kq, x1001_4, x1002_4, x115003_4, x115004_4, x115005_4, x115006_4, x115007_4, x115008_4, u115007, HA, HJ4, HO_115007, BK101, BK114, HI0, HK, HB⟩ := hcut
  cases kq with
  | zero => exact absurd HA.out (by simp [spec_l1Cur_entry.j0])
  | succ kj4 =>
   have H := HA.out
   clear HA
   simp only [spec_l1Cur_entry.j0] at H
   obtain ⟨⟨t125, t126, t127⟩, A24, H⟩ := bS H; try dsimp only at H
   by_cases c25 : t125 = 0
   · rw [if_pos c25] at H
     have c25b0 : (t125 == 0) = true := beq_iff_eq.mpr c25
     have c25b1 : (t125 != 0) = false := bne_eq_false_iff_eq.mpr c25
     clear c25
     replace H := ifS H; obtain ⟨c26, H⟩ := H
     have c26b0 := eq_true c26
     have c26b1 : decide (140 ≤ 281474976710656) = true := decide_eq_true c26
     clear c26
     obtain ⟨y128, hy128⟩ : ∃ y_ : List Int, y_ = (List.replicate 140 0) := ⟨_, rfl⟩
     first | (replace H := bindS H; rw [← hy128] at H; try dsimp only at H) | rw [← hy128] at H
     have Ny128 := aM hy128
     clear hy128
     have c27 : 141 ≤ 281474976710656 := by decide
     have c27b0 := eq_true c27
     have c27b1 : decide (141 ≤ 281474976710656) = true := decide_eq_true c27
     clear c27
     obtain ⟨y131, hy131⟩ : ∃ y_ : List Int, y_ = (List.replicate 141 0) := ⟨_, rfl⟩
     first | (replace H := bindS H; rw [← hy131] at H; try dsimp only at H) | rw [← hy131] at H
     have Ny131 := aM hy131
     clear hy131
     obtain ⟨y134, hy134⟩ : ∃ y_ : List ByteArray, y_ = (([(⟨#[]⟩ : ByteArray), strOfNums y128, strOfNums y131] : List ByteArray)) := ⟨_, rfl⟩
     first | (replace H := bindS H; rw [← hy134] at H; try dsimp only at H) | rw [← hy134] at H
     have Ny134 := aM hy134
     clear hy134
     obtain ⟨⟨t137, t138, t139⟩, A28, H⟩ := bS H; try dsimp only at H
     simp only [Option.some.injEq, Prod.mk.injEq] at H
     obtain ⟨rfl, rfl, rfl, rfl, rfl, rfl, rfl, rfl, rfl, rfl, rfl⟩ := H
     try go_wp2_with (first | ((with_reducible refine gate_callee (f := 53) rfl ?_); refine gL 20 Try.func53 #[.pointer (some ⟨g, 0, none⟩), .int .i64 60] ?_; (with_reducible refine (spec_l1Cur_pick.calls g s0_0 x1001_4 x1002_4 60 t125 t126 t127 w0 _ ?side1 ?side2 A24.out).mono ?_); (case side1 => exact z16b9); (case side2 => exact za8af); rintro e w29 ⟨rfl, hi, hb, hk⟩; refine ⟨_, rfl, ?_⟩; have _ := aM (Kd.Q_mono (Kd.Q_keep (IsS76.apartQ (show IsS76 w0 _ g s0_0 x1001_4 x1002_4 from by repeat (first | (with_reducible first | exact HI0.out | apply IsS76.alloc | apply IsS76.drewN | apply IsS76.drew | apply IsS76.set_1 | apply IsS76.set_2 | refine IsS76.far ?_ (Aside0.out (by assumption)) _) | exact HI0.out)) (kZ HO_115007.out) (by decide)) hk (fun _ h => h.2)) (fun _ h => h.1)); have _ := aM (KeepBut.blk hk (g' := gb101) bkZ NB101_0.out (by simp)); have _ := aM (KeepBut.blk hk (g' := gb114) bkZ NB114_0.out (by simp)); have _ := aM (KeepBut.trans z7c8e hk (.inl rfl)); have _ := aM hb; have _ := aM hi; clear HO_115007 BK101 BK114 HK HB HI0; rename_i HO_115007 BK101 BK114 HK HB HI0; (try clear hb); (try clear hk); (try clear hi)))
     have _ := aM (Kd.Q_drew HO_115007.out)
     have _ := aM (blk_drew BK101.out)
     have _ := aM (blk_drew BK114.out)
     have _ := aM (IsS76.drew HI0.out)
     have _ := aM (keep_drew HK.out)
     have _ := aM (below_drew1 HB.out)
     clear HO_115007
     clear BK101
     clear BK114
     clear HI0
     clear HK
     clear HB
     rename_i HO_115007 BK101 BK114 HI0 HK HB
     refine sA 9 spec_l1Cur_entry.tab6 spec_l1Cur_entry.bits6 (fun w' => True) [] (fun hHeld HT_ HW_ => ?_)
     generalize w29.drew = w30 at HO_115007 BK101 BK114 HI0 HK HB hHeld ⊢
     refine pA 0 23 HT_ ?_
     refine join_ (σ := Value × Value) 4 #[true, true, true, true, true, false, false, false, false] (fun s_ => [(24, s_.1), (25, .string (strOfNums y128)), (26, s_.2), (27, .string (strOfNums y131))]) (fun s_ w' => (Kd.R (Kd.int .u8) 5 w' w.heap.size (fun k_ => some k_ ≠ (s_.2 : Value).ownBlock) s_.1 y128) ∧ (Kd.R (Kd.int .u8) 5 w' w.heap.size (fun k_ => some k_ ≠ (s_.1 : Value).ownBlock) s_.2 y131) ∧ (Kd.Q (Kd.int .i64) 3 w' w.heap.size (fun _ => True) u115007 x115007_4) ∧ (w'.heap[gb101]? = some (.cells #[.string (⟨#[]⟩ : ByteArray), .int .i64 0, .int .i64 0, .int .i64 0, .int .i64 0, .int .i64 0, .int .i64 0, .slice none 0 0, .bool false] 45 (0, 0))) ∧ (w'.heap[gb114]? = some (.cells #[.string t102, .int .i64 (wrap64 (1 + t105)), .int .i64 t111, .int .i64 x115003_4, .int .i64 x115004_4, .int .i64 x115005_4, .int .i64 x115006_4, u115007, .bool x115008_4] 45 (0, 0))) ∧ (IsS76 w0 w' g s0_0 t126 t127) ∧ (KeepBut w w' g none) ∧ (Below w0.heap.size w0 w')) ?_ ?_
     rotate_left
     · intro hJ1_2_3_4
       refine join_ (σ := Value × Value) 5 #[true, true, true, true, false, false, false, false, false] (fun s_ => [(24, s_.1), (25, .string (strOfNums y128)), (26, s_.2)]) (fun s_ w' => (Kd.R (Kd.int .u8) 5 w' w.heap.size (fun k_ => some k_ ≠ (s_.2 : Value).ownBlock) s_.1 y128) ∧ (Kd.R (Kd.int .u8) 5 w' w.heap.size (fun k_ => some k_ ≠ (s_.1 : Value).ownBlock) s_.2 y131) ∧ (Kd.Q (Kd.int .i64) 3 w' w.heap.size (fun _ => True) u115007 x115007_4) ∧ (w'.heap[gb101]? = some (.cells #[.string (⟨#[]⟩ : ByteArray), .int .i64 0, .int .i64 0, .int .i64 0, .int .i64 0, .int .i64 0, .int .i64 0, .slice none 0 0, .bool false] 45 (0, 0))) ∧ (w'.heap[gb114]? = some (.cells #[.string t102, .int .i64 (wrap64 (1 + t105)), .int .i64 t111, .int .i64 x115003_4, .int .i64 x115004_4, .int .i64 x115005_4, .int .i64 x115006_4, u115007, .bool x115008_4] 45 (0, 0))) ∧ (IsS76 w0 w' g s0_0 t126 t127) ∧ (KeepBut w w' g none) ∧ (Below w0.heap.size w0 w')) ?_ ?_
       rotate_left
       · intro hJ1_2_3
         refine join_ (σ := Value × Value) 5 #[true, true, false, true, true, false, false, false, false] (fun s_ => [(24, s_.1), (26, s_.2), (27, .string (strOfNums y131))]) (fun s_ w' => (Kd.R (Kd.int .u8) 5 w' w.heap.size (fun k_ => some k_ ≠ (s_.2 : Value).ownBlock) s_.1 y128) ∧ (Kd.R (Kd.int .u8) 5 w' w.heap.size (fun k_ => some k_ ≠ (s_.1 : Value).ownBlock) s_.2 y131) ∧ (Kd.Q (Kd.int .i64) 3 w' w.heap.size (fun _ => True) u115007 x115007_4) ∧ (w'.heap[gb101]? = some (.cells #[.string (⟨#[]⟩ : ByteArray), .int .i64 0, .int .i64 0, .int .i64 0, .int .i64 0, .int .i64 0, .int .i64 0, .slice none 0 0, .bool false] 45 (0, 0))) ∧ (w'.heap[gb114]? = some (.cells #[.string t102, .int .i64 (wrap64 (1 + t105)), .int .i64 t111, .int .i64 x115003_4, .int .i64 x115004_4, .int .i64 x115005_4, .int .i64 x115006_4, u115007, .bool x115008_4] 45 (0, 0))) ∧ (IsS76 w0 w' g s0_0 t126 t127) ∧ (KeepBut w w' g none) ∧ (Below w0.heap.size w0 w')) ?_ ?_
         rotate_left
         · intro hJ1_3_4
           refine join_ (σ := Value) 6 #[true, true, true, false, false, false, false, false, false] (fun s_ => [(24, s_), (25, .string (strOfNums y128))]) (fun s_ w' => (Kd.R (Kd.int .u8) 5 w' w.heap.size (fun _ => True) s_ y128) ∧ (Kd.Q (Kd.int .i64) 3 w' w.heap.size (fun _ => True) u115007 x115007_4) ∧ (w'.heap[gb101]? = some (.cells #[.string (⟨#[]⟩ : ByteArray), .int .i64 0, .int .i64 0, .int .i64 0, .int .i64 0, .int .i64 0, .int .i64 0, .slice none 0 0, .bool false] 45 (0, 0))) ∧ (w'.heap[gb114]? = some (.cells #[.string t102, .int .i64 (wrap64 (1 + t105)), .int .i64 t111, .int .i64 x115003_4, .int .i64 x115004_4, .int .i64 x115005_4, .int .i64 x115006_4, u115007, .bool x115008_4] 45 (0, 0))) ∧ (IsS76 w0 w' g s0_0 t126 t127) ∧ (KeepBut w w' g none) ∧ (Below w0.heap.size w0 w')) ?_ ?_
           rotate_left
           · intro hJ1_2
             refine join_ (σ := Value × Value) 6 #[true, true, false, true, false, false, false, false, false] (fun s_ => [(24, s_.1), (26, s_.2)]) (fun s_ w' => (Kd.R (Kd.int .u8) 5 w' w.heap.size (fun k_ => some k_ ≠ (s_.2 : Value).ownBlock) s_.1 y128) ∧ (Kd.R (Kd.int .u8) 5 w' w.heap.size (fun k_ => some k_ ≠ (s_.1 : Value).ownBlock) s_.2 y131) ∧ (Kd.Q (Kd.int .i64) 3 w' w.heap.size (fun _ => True) u115007 x115007_4) ∧ (w'.heap[gb101]? = some (.cells #[.string (⟨#[]⟩ : ByteArray), .int .i64 0, .int .i64 0, .int .i64 0, .int .i64 0, .int .i64 0, .int .i64 0, .slice none 0 0, .bool false] 45 (0, 0))) ∧ (w'.heap[gb114]? = some (.cells #[.string t102, .int .i64 (wrap64 (1 + t105)), .int .i64 t111, .int .i64 x115003_4, .int .i64 x115004_4, .int .i64 x115005_4, .int .i64 x115006_4, u115007, .bool x115008_4] 45 (0, 0))) ∧ (IsS76 w0 w' g s0_0 t126 t127) ∧ (KeepBut w w' g none) ∧ (Below w0.heap.size w0 w')) ?_ ?_
             rotate_left
             · intro hJ1_3
               refine join_ (σ := Value) 6 #[true, false, false, true, true, false, false, false, false] (fun s_ => [(26, s_), (27, .string (strOfNums y131))]) (fun s_ w' => (Kd.R (Kd.int .u8) 5 w' w.heap.size (fun _ => True) s_ y131) ∧ (Kd.Q (Kd.int .i64) 3 w' w.heap.size (fun _ => True) u115007 x115007_4) ∧ (w'.heap[gb101]? = some (.cells #[.string (⟨#[]⟩ : ByteArray), .int .i64 0, .int .i64 0, .int .i64 0, .int .i64 0, .int .i64 0, .int .i64 0, .slice none 0 0, .bool false] 45 (0, 0))) ∧ (w'.heap[gb114]? = some (.cells #[.string t102, .int .i64 (wrap64 (1 + t105)), .int .i64 t111, .int .i64 x115003_4, .int .i64 x115004_4, .int .i64 x115005_4, .int .i64 x115006_4, u115007, .bool x115008_4] 45 (0, 0))) ∧ (IsS76 w0 w' g s0_0 t126 t127) ∧ (KeepBut w w' g none) ∧ (Below w0.heap.size w0 w')) ?_ ?_
               rotate_left
               · intro hJ3_4
                 refine join_ (σ := Value) 7 #[true, true, false, false, false, false, false, false, false] (fun s_ => [(24, s_)]) (fun s_ w' => (Kd.R (Kd.int .u8) 5 w' w.heap.size (fun _ => True) s_ y128) ∧ (Kd.Q (Kd.int .i64) 3 w' w.heap.size (fun _ => True) u115007 x115007_4) ∧ (w'.heap[gb101]? = some (.cells #[.string (⟨#[]⟩ : ByteArray), .int .i64 0, .int .i64 0, .int .i64 0, .int .i64 0, .int .i64 0, .int .i64 0, .slice none 0 0, .bool false] 45 (0, 0))) ∧ (w'.heap[gb114]? = some (.cells #[.string t102, .int .i64 (wrap64 (1 + t105)), .int .i64 t111, .int .i64 x115003_4, .int .i64 x115004_4, .int .i64 x115005_4, .int .i64 x115006_4, u115007, .bool x115008_4] 45 (0, 0))) ∧ (IsS76 w0 w' g s0_0 t126 t127) ∧ (KeepBut w w' g none) ∧ (Below w0.heap.size w0 w')) ?_ ?_
                 rotate_left
                 · intro hJ1
                   refine join_ (σ := Value) 7 #[true, false, false, true, false, false, false, false, false] (fun s_ => [(26, s_)]) (fun s_ w' => (Kd.R (Kd.int .u8) 5 w' w.heap.size (fun _ => True) s_ y131) ∧ (Kd.Q (Kd.int .i64) 3 w' w.heap.size (fun _ => True) u115007 x115007_4) ∧ (w'.heap[gb101]? = some (.cells #[.string (⟨#[]⟩ : ByteArray), .int .i64 0, .int .i64 0, .int .i64 0, .int .i64 0, .int .i64 0, .int .i64 0, .slice none 0 0, .bool false] 45 (0, 0))) ∧ (w'.heap[gb114]? = some (.cells #[.string t102, .int .i64 (wrap64 (1 + t105)), .int .i64 t111, .int .i64 x115003_4, .int .i64 x115004_4, .int .i64 x115005_4, .int .i64 x115006_4, u115007, .bool x115008_4] 45 (0, 0))) ∧ (IsS76 w0 w' g s0_0 t126 t127) ∧ (KeepBut w w' g none) ∧ (Below w0.heap.size w0 w')) ?_ ?_
                   rotate_left
                   · intro hJ3
                     refine two_ (i := 1) (j := 3) (Ni := some 24) (Nj := some 26) #[true, true, false, false, false, false, false, false, false] #[true, false, false, true, false, false, false, false, false] rfl rfl rfl rfl (two_of HT_.out (by kernel_rfl)) (by decide) (by decide) (fun K hK => ?_) (fun K hK => ?_)
                     · skip
                       refine Kd.R_make_step (Kd.int .u8) _ 5 (by rfl) (N := 24) rfl 50 _ _ rfl 140 rfl rfl Try.underlying50 (.int .u8 0) 1 info5 rfl (by decide) (by omega) 0 (ok := fun _ => True) (okp := fun _ => True) rfl (fun _ hk => hk) trivial (by omega) (by omega) (Below.refl _ _) (Nat.le_refl _) ?_
                       intro v129 w31 ho32 hb hg_ hnew_
                       clear hg_ hnew_
                       (first | rw [← Ny128.out] at ho32 | (simp only [Int.reduceToNat] at ho32; rw [← Ny128.out] at ho32))
                       have _ := aM (Kd.Q_below (kZ HO_115007.out) hb)
                       have _ := aM (Kd.R_lower ho32 (keep_size (w := w) (g := g) (row := none) z7c8e))
                       have _ := bB gb101 hb
                       have _ := bB gb114 hb
                       have _ := aM (IsS76.below z16b9 hb)
                       have _ := aM (KeepBut.trans z7c8e (KeepBut.of_below hb g none) (.inl rfl))
                       have _ := aM (below_step za8af hb)
                       clear HO_115007
                       clear BK101
                       clear BK114
                       clear HI0
                       clear HK
                       clear HB
                       rename_i HO_115007 HO130 BK101 BK114 HI0 HK HB
                       clear hb ho32
                       refine hK.out _ _ trivial (fun hHeld => ?_)
                       clear hK K
                       refine nA 24 ?_
                       exact norm_ zb4a0 (hJ1 (v129) _ ⟨(rZ HO130.out), (kZ HO_115007.out), bkZ, bkZ, z16b9, z7c8e, za8af⟩)
                     · skip
                       refine Kd.R_make_step (Kd.int .u8) _ 5 (by rfl) (N := 26) rfl 50 _ _ rfl 141 rfl rfl Try.underlying50 (.int .u8 0) 1 info5 rfl (by decide) (by omega) 0 (ok := fun _ => True) (okp := fun _ => True) rfl (fun _ hk => hk) trivial (by omega) (by omega) (Below.refl _ _) (Nat.le_refl _) ?_
                       intro v132 w31 ho32 hb hg_ hnew_
                       clear hg_ hnew_
                       (first | rw [← Ny131.out] at ho32 | (simp only [Int.reduceToNat] at ho32; rw [← Ny131.out] at ho32))
                       have _ := aM (Kd.Q_below (kZ HO_115007.out) hb)
                       have _ := aM (Kd.R_lower ho32 (keep_size (w := w) (g := g) (row := none) z7c8e))
                       have _ := bB gb101 hb
                       have _ := bB gb114 hb
                       have _ := aM (IsS76.below z16b9 hb)
                       have _ := aM (KeepBut.trans z7c8e (KeepBut.of_below hb g none) (.inl rfl))
                       have _ := aM (below_step za8af hb)
                       clear HO_115007
                       clear BK101
                       clear BK114
                       clear HI0
                       clear HK
                       clear HB
                       rename_i HO_115007 HO133 BK101 BK114 HI0 HK HB
                       clear hb ho32
                       refine hK.out _ _ trivial (fun hHeld => ?_)
                       clear hK K
                       refine nA 26 ?_
                       exact norm_ zb4a0 (hJ3 (v132) _ ⟨(rZ HO133.out), (kZ HO_115007.out), bkZ, bkZ, z16b9, z7c8e, za8af⟩)
                   · skip
                     rintro v132 w33 ⟨h0_, h1_, h2_, h3_, h4_, h5_, h6_⟩
                     have _ : Aside0 (Kd.R (Kd.int .u8) 5 w33 w.heap.size (fun _ => True) v132 y131) := ⟨h0_⟩
                     have _ : Aside0 (Kd.Q (Kd.int .i64) 3 w33 w.heap.size (fun _ => True) u115007 x115007_4) := ⟨h1_⟩
                     have _ : Aside0 (w33.heap[gb101]? = some (.cells #[.string (⟨#[]⟩ : ByteArray), .int .i64 0, .int .i64 0, .int .i64 0, .int .i64 0, .int .i64 0, .int .i64 0, .slice none 0 0, .bool false] 45 (0, 0))) := ⟨h2_⟩
                     have _ : Aside0 (w33.heap[gb114]? = some (.cells #[.string t102, .int .i64 (wrap64 (1 + t105)), .int .i64 t111, .int .i64 x115003_4, .int .i64 x115004_4, .int .i64 x115005_4, .int .i64 x115006_4, u115007, .bool x115008_4] 45 (0, 0))) := ⟨h3_⟩
                     have _ : Aside0 (IsS76 w0 w33 g s0_0 t126 t127) := ⟨h4_⟩
                     have _ : Aside0 (KeepBut w w33 g none) := ⟨h5_⟩
                     have _ : Aside0 (Below w0.heap.size w0 w33) := ⟨h6_⟩
                     clear HO_115007
                     clear BK101
                     clear BK114
                     clear HI0
                     clear HK
                     clear HB
                     clear h0_ h1_ h2_ h3_ h4_ h5_ h6_
                     rename_i HO133 HO_115007 BK101 BK114 HI0 HK HB
                     have hHeld := trivial
                     refine norm_ (a' := ?_) ?_ ?_
                     rotate_left
                     · simp only [putAll, Act.put, List.setIfInBounds_toArray, List.set_cons_zero, List.set_cons_succ]
                       rfl
                     refine two_ (i := 1) (j := 4) (Ni := some 24) (Nj := some 27) #[true, true, false, true, false, false, false, false, false] #[true, false, false, true, true, false, false, false, false] rfl rfl rfl rfl (two_of HT_.out (by kernel_rfl)) (by decide) (by decide) (fun K hK => ?_) (fun K hK => ?_)
                     · skip
                       refine Kd.R_make_step (Kd.int .u8) _ 5 (by rfl) (N := 24) rfl 50 _ _ rfl 140 rfl rfl Try.underlying50 (.int .u8 0) 1 info5 rfl (by decide) (by omega) 0 (ok := fun _ => True) (okp := fun _ => True) rfl (fun _ hk => hk) trivial (by omega) (by omega) (Below.refl _ _) (Nat.le_refl _) ?_
                       intro v129 w34 ho35 hb hg_ hnew_
                       clear hg_ hnew_
                       (first | rw [← Ny128.out] at ho35 | (simp only [Int.reduceToNat] at ho35; rw [← Ny128.out] at ho35))
                       have _ := aM (Kd.Q_below (kZ HO_115007.out) hb)
                       have _ := aM (Kd.R_elder' (rZ HO133.out) (Kd.R_base ho35) hb)
                       have _ := aM (Kd.R_lower (Kd.R_new' ho35 (Kd.R_lt (rZ HO133.out))) (keep_size (w := w) (g := g) (row := none) z7c8e))
                       have _ := bB gb101 hb
                       have _ := bB gb114 hb
                       have _ := aM (IsS76.below z16b9 hb)
                       have _ := aM (KeepBut.trans z7c8e (KeepBut.of_below hb g none) (.inl rfl))
                       have _ := aM (below_step za8af hb)
                       clear HO_115007
                       clear HO133
                       clear BK101
                       clear BK114
                       clear HI0
                       clear HK
                       clear HB
                       rename_i HO_115007 HO133 HO130 BK101 BK114 HI0 HK HB
                       clear hb ho35
                       refine hK.out _ _ trivial (fun hHeld => ?_)
                       clear hK K
                       refine nA 24 ?_
                       exact norm_ zb4a0 (hJ1_3 (v129, v132) _ ⟨zdaed, zec1d, (kZ HO_115007.out), bkZ, bkZ, z16b9, z7c8e, za8af⟩)
                     · skip
                       have hcv34 := own_string (P := Try.prog) Try.underlying50 Try.underlying5 Try.underlying9 (Kd.own_of_R HO133.out)
                       refine value_ (w1 := ?_) (v := ?_) (by rfl) rfl ?_ ?_
                       rotate_left 2
                       · go_simp
                         constructor
                         · rfl
                         · rfl
                       clear hcv34
                       refine hK.out _ _ trivial (fun hHeld => ?_)
                       clear hK K
                       refine nA 27 ?_
                       exact norm_ zb4a0 (hJ3_4 (v132) _ ⟨(rZ HO133.out), (kZ HO_115007.out), bkZ, bkZ, z16b9, z7c8e, za8af⟩)
                 · skip
                   rintro v129 w33 ⟨h0_, h1_, h2_, h3_, h4_, h5_, h6_⟩
                   have _ : Aside0 (Kd.R (Kd.int .u8) 5 w33 w.heap.size (fun _ => True) v129 y128) := ⟨h0_⟩
                   have _ : Aside0 (Kd.Q (Kd.int .i64) 3 w33 w.heap.size (fun _ => True) u115007 x115007_4) := ⟨h1_⟩
                   have _ : Aside0 (w33.heap[gb101]? = some (.cells #[.string (⟨#[]⟩ : ByteArray), .int .i64 0, .int .i64 0, .int .i64 0, .int .i64 0, .int .i64 0, .int .i64 0, .slice none 0 0, .bool false] 45 (0, 0))) := ⟨h2_⟩
                   have _ : Aside0 (w33.heap[gb114]? = some (.cells #[.string t102, .int .i64 (wrap64 (1 + t105)), .int .i64 t111, .int .i64 x115003_4, .int .i64 x115004_4, .int .i64 x115005_4, .int .i64 x115006_4, u115007, .bool x115008_4] 45 (0, 0))) := ⟨h3_⟩
                   have _ : Aside0 (IsS76 w0 w33 g s0_0 t126 t127) := ⟨h4_⟩
                   have _ : Aside0 (KeepBut w w33 g none) := ⟨h5_⟩
                   have _ : Aside0 (Below w0.heap.size w0 w33) := ⟨h6_⟩
                   clear HO_115007
                   clear BK101
                   clear BK114
                   clear HI0
                   clear HK
                   clear HB
                   clear h0_ h1_ h2_ h3_ h4_ h5_ h6_
                   rename_i HO130 HO_115007 BK101 BK114 HI0 HK HB
                   have hHeld := trivial
                   refine norm_ (a' := ?_) ?_ ?_
                   rotate_left
                   · simp only [putAll, Act.put, List.setIfInBounds_toArray, List.set_cons_zero, List.set_cons_succ]
                     rfl
                   refine two_ (i := 2) (j := 3) (Ni := some 25) (Nj := some 26) #[true, true, true, false, false, false, false, false, false] #[true, true, false, true, false, false, false, false, false] rfl rfl rfl rfl (two_of HT_.out (by kernel_rfl)) (by decide) (by decide) (fun K hK => ?_) (fun K hK => ?_)
                   · skip
                     have hcv34 := own_string (P := Try.prog) Try.underlying50 Try.underlying5 Try.underlying9 (Kd.own_of_R HO130.out)
                     refine value_ (w1 := ?_) (v := ?_) (by rfl) rfl ?_ ?_
                     rotate_left 2
                     · go_simp
                       constructor
                       · rfl
                       · rfl
                     clear hcv34
                     refine hK.out _ _ trivial (fun hHeld => ?_)
                     clear hK K
                     refine nA 25 ?_
                     exact norm_ zb4a0 (hJ1_2 (v129) _ ⟨(rZ HO130.out), (kZ HO_115007.out), bkZ, bkZ, z16b9, z7c8e, za8af⟩)
                   · skip
                     refine Kd.R_make_step (Kd.int .u8) _ 5 (by rfl) (N := 26) rfl 50 _ _ rfl 141 rfl rfl Try.underlying50 (.int .u8 0) 1 info5 rfl (by decide) (by omega) 0 (ok := fun _ => True) (okp := fun _ => True) rfl (fun _ hk => hk) trivial (by omega) (by omega) (Below.refl _ _) (Nat.le_refl _) ?_
                     intro v132 w34 ho35 hb hg_ hnew_
                     clear hg_ hnew_
                     (first | rw [← Ny131.out] at ho35 | (simp only [Int.reduceToNat] at ho35; rw [← Ny131.out] at ho35))
                     have _ := aM (Kd.Q_below (kZ HO_115007.out) hb)
                     have _ := aM (Kd.R_elder' (rZ HO130.out) (Kd.R_base ho35) hb)
                     have _ := aM (Kd.R_lower (Kd.R_new' ho35 (Kd.R_lt (rZ HO130.out))) (keep_size (w := w) (g := g) (row := none) z7c8e))
                     have _ := bB gb101 hb
                     have _ := bB gb114 hb
                     have _ := aM (IsS76.below z16b9 hb)
                     have _ := aM (KeepBut.trans z7c8e (KeepBut.of_below hb g none) (.inl rfl))
                     have _ := aM (below_step za8af hb)
                     clear HO_115007
                     clear HO130
                     clear BK101
                     clear BK114
                     clear HI0
                     clear HK
                     clear HB
                     rename_i HO_115007 HO130 HO133 BK101 BK114 HI0 HK HB
                     clear hb ho35
                     refine hK.out _ _ trivial (fun hHeld => ?_)
                     clear hK K
                     refine nA 26 ?_
                     exact norm_ zb4a0 (hJ1_3 (v129, v132) _ ⟨zdaed, zec1d, (kZ HO_115007.out), bkZ, bkZ, z16b9, z7c8e, za8af⟩)
               · skip
                 rintro v132 w34 ⟨h0_, h1_, h2_, h3_, h4_, h5_, h6_⟩
                 have _ : Aside0 (Kd.R (Kd.int .u8) 5 w34 w.heap.size (fun _ => True) v132 y131) := ⟨h0_⟩
                 have _ : Aside0 (Kd.Q (Kd.int .i64) 3 w34 w.heap.size (fun _ => True) u115007 x115007_4) := ⟨h1_⟩
                 have _ : Aside0 (w34.heap[gb101]? = some (.cells #[.string (⟨#[]⟩ : ByteArray), .int .i64 0, .int .i64 0, .int .i64 0, .int .i64 0, .int .i64 0, .int .i64 0, .slice none 0 0, .bool false] 45 (0, 0))) := ⟨h2_⟩
                 have _ : Aside0 (w34.heap[gb114]? = some (.cells #[.string t102, .int .i64 (wrap64 (1 + t105)), .int .i64 t111, .int .i64 x115003_4, .int .i64 x115004_4, .int .i64 x115005_4, .int .i64 x115006_4, u115007, .bool x115008_4] 45 (0, 0))) := ⟨h3_⟩
                 have _ : Aside0 (IsS76 w0 w34 g s0_0 t126 t127) := ⟨h4_⟩
                 have _ : Aside0 (KeepBut w w34 g none) := ⟨h5_⟩
                 have _ : Aside0 (Below w0.heap.size w0 w34) := ⟨h6_⟩
                 clear HO_115007
                 clear BK101
                 clear BK114
                 clear HI0
                 clear HK
                 clear HB
                 clear h0_ h1_ h2_ h3_ h4_ h5_ h6_
                 rename_i HO133 HO_115007 BK101 BK114 HI0 HK HB
                 have hHeld := trivial
                 refine norm_ (a' := ?_) ?_ ?_
                 rotate_left
                 · simp only [putAll, Act.put, List.setIfInBounds_toArray, List.set_cons_zero, List.set_cons_succ]
                   rfl
                 refine oA 1 24 HT_ (fun K hK => ?_)
                 refine Kd.R_make_step (Kd.int .u8) _ 5 (by rfl) (N := 24) rfl 50 _ _ rfl 140 rfl rfl Try.underlying50 (.int .u8 0) 1 info5 rfl (by decide) (by omega) 0 (ok := fun _ => True) (okp := fun _ => True) rfl (fun _ hk => hk) trivial (by omega) (by omega) (Below.refl _ _) (Nat.le_refl _) ?_
                 intro v129 w35 ho36 hb hg_ hnew_
                 clear hg_ hnew_
                 (first | rw [← Ny128.out] at ho36 | (simp only [Int.reduceToNat] at ho36; rw [← Ny128.out] at ho36))
                 have _ := aM (Kd.Q_below (kZ HO_115007.out) hb)
                 have _ := aM (Kd.R_elder' (rZ HO133.out) (Kd.R_base ho36) hb)
                 have _ := aM (Kd.R_lower (Kd.R_new' ho36 (Kd.R_lt (rZ HO133.out))) (keep_size (w := w) (g := g) (row := none) z7c8e))
                 have _ := bB gb101 hb
                 have _ := bB gb114 hb
                 have _ := aM (IsS76.below z16b9 hb)
                 have _ := aM (KeepBut.trans z7c8e (KeepBut.of_below hb g none) (.inl rfl))
                 have _ := aM (below_step za8af hb)
                 clear HO_115007
                 clear HO133
                 clear BK101
                 clear BK114
                 clear HI0
                 clear HK
                 clear HB
                 rename_i HO_115007 HO133 HO130 BK101 BK114 HI0 HK HB
                 clear hb ho36
                 refine hK.out _ _ trivial (fun hHeld => ?_)
                 clear hK K
                 refine nA 24 ?_
                 exact norm_ zb4a0 (hJ1_3_4 (v129, v132) _ ⟨zdaed, zec1d, (kZ HO_115007.out), bkZ, bkZ, z16b9, z7c8e, za8af⟩)
             · skip
               rintro ⟨v129, v132⟩ w35 ⟨h0_, h1_, h2_, h3_, h4_, h5_, h6_, h7_⟩
               have _ : Aside0 (Kd.R (Kd.int .u8) 5 w35 w.heap.size (fun k_ => some k_ ≠ (v132 : Value).ownBlock) v129 y128) := ⟨h0_⟩
               have _ : Aside0 (Kd.R (Kd.int .u8) 5 w35 w.heap.size (fun k_ => some k_ ≠ (v129 : Value).ownBlock) v132 y131) := ⟨h1_⟩
               have _ : Aside0 (Kd.Q (Kd.int .i64) 3 w35 w.heap.size (fun _ => True) u115007 x115007_4) := ⟨h2_⟩
               have _ : Aside0 (w35.heap[gb101]? = some (.cells #[.string (⟨#[]⟩ : ByteArray), .int .i64 0, .int .i64 0, .int .i64 0, .int .i64 0, .int .i64 0, .int .i64 0, .slice none 0 0, .bool false] 45 (0, 0))) := ⟨h3_⟩
               have _ : Aside0 (w35.heap[gb114]? = some (.cells #[.string t102, .int .i64 (wrap64 (1 + t105)), .int .i64 t111, .int .i64 x115003_4, .int .i64 x115004_4, .int .i64 x115005_4, .int .i64 x115006_4, u115007, .bool x115008_4] 45 (0, 0))) := ⟨h4_⟩
               have _ : Aside0 (IsS76 w0 w35 g s0_0 t126 t127) := ⟨h5_⟩
               have _ : Aside0 (KeepBut w w35 g none) := ⟨h6_⟩
               have _ : Aside0 (Below w0.heap.size w0 w35) := ⟨h7_⟩
               clear HO_115007
               clear BK101
               clear BK114
               clear HI0
               clear HK
               clear HB
               clear h0_ h1_ h2_ h3_ h4_ h5_ h6_ h7_
               rename_i HO130 HO133 HO_115007 BK101 BK114 HI0 HK HB
               have hHeld := trivial
               refine norm_ (a' := ?_) ?_ ?_
               rotate_left
               · simp only [putAll, Act.put, List.setIfInBounds_toArray, List.set_cons_zero, List.set_cons_succ]
                 rfl
               refine two_ (i := 2) (j := 4) (Ni := some 25) (Nj := some 27) #[true, true, true, true, false, false, false, false, false] #[true, true, false, true, true, false, false, false, false] rfl rfl rfl rfl (two_of HT_.out (by kernel_rfl)) (by decide) (by decide) (fun K hK => ?_) (fun K hK => ?_)
               · skip
                 have hcv36 := own_string (P := Try.prog) Try.underlying50 Try.underlying5 Try.underlying9 (Kd.own_of_R HO130.out)
                 refine value_ (w1 := ?_) (v := ?_) (by rfl) rfl ?_ ?_
                 rotate_left 2
                 · go_simp
                   constructor
                   · rfl
                   · rfl
                 clear hcv36
                 refine hK.out _ _ trivial (fun hHeld => ?_)
                 clear hK K
                 refine nA 25 ?_
                 exact norm_ zb4a0 (hJ1_2_3 (v129, v132) _ ⟨(rZ HO130.out), (rZ HO133.out), (kZ HO_115007.out), bkZ, bkZ, z16b9, z7c8e, za8af⟩)
               · skip
                 have hcv36 := own_string (P := Try.prog) Try.underlying50 Try.underlying5 Try.underlying9 (Kd.own_of_R HO133.out)
                 refine value_ (w1 := ?_) (v := ?_) (by rfl) rfl ?_ ?_
                 rotate_left 2
                 · go_simp
                   constructor
                   · rfl
                   · rfl
                 clear hcv36
                 refine hK.out _ _ trivial (fun hHeld => ?_)
                 clear hK K
                 refine nA 27 ?_
                 exact norm_ zb4a0 (hJ1_3_4 (v129, v132) _ ⟨(rZ HO130.out), (rZ HO133.out), (kZ HO_115007.out), bkZ, bkZ, z16b9, z7c8e, za8af⟩)
           · skip
             rintro v129 w34 ⟨h0_, h1_, h2_, h3_, h4_, h5_, h6_⟩
             have _ : Aside0 (Kd.R (Kd.int .u8) 5 w34 w.heap.size (fun _ => True) v129 y128) := ⟨h0_⟩
             have _ : Aside0 (Kd.Q (Kd.int .i64) 3 w34 w.heap.size (fun _ => True) u115007 x115007_4) := ⟨h1_⟩
             have _ : Aside0 (w34.heap[gb101]? = some (.cells #[.string (⟨#[]⟩ : ByteArray), .int .i64 0, .int .i64 0, .int .i64 0, .int .i64 0, .int .i64 0, .int .i64 0, .slice none 0 0, .bool false] 45 (0, 0))) := ⟨h2_⟩
             have _ : Aside0 (w34.heap[gb114]? = some (.cells #[.string t102, .int .i64 (wrap64 (1 + t105)), .int .i64 t111, .int .i64 x115003_4, .int .i64 x115004_4, .int .i64 x115005_4, .int .i64 x115006_4, u115007, .bool x115008_4] 45 (0, 0))) := ⟨h3_⟩
             have _ : Aside0 (IsS76 w0 w34 g s0_0 t126 t127) := ⟨h4_⟩
             have _ : Aside0 (KeepBut w w34 g none) := ⟨h5_⟩
             have _ : Aside0 (Below w0.heap.size w0 w34) := ⟨h6_⟩
             clear HO_115007
             clear BK101
             clear BK114
             clear HI0
             clear HK
             clear HB
             clear h0_ h1_ h2_ h3_ h4_ h5_ h6_
             rename_i HO130 HO_115007 BK101 BK114 HI0 HK HB
             have hHeld := trivial
             refine norm_ (a' := ?_) ?_ ?_
             rotate_left
             · simp only [putAll, Act.put, List.setIfInBounds_toArray, List.set_cons_zero, List.set_cons_succ]
               rfl
             refine oA 3 26 HT_ (fun K hK => ?_)
             refine Kd.R_make_step (Kd.int .u8) _ 5 (by rfl) (N := 26) rfl 50 _ _ rfl 141 rfl rfl Try.underlying50 (.int .u8 0) 1 info5 rfl (by decide) (by omega) 0 (ok := fun _ => True) (okp := fun _ => True) rfl (fun _ hk => hk) trivial (by omega) (by omega) (Below.refl _ _) (Nat.le_refl _) ?_
             intro v132 w35 ho36 hb hg_ hnew_
             clear hg_ hnew_
             (first | rw [← Ny131.out] at ho36 | (simp only [Int.reduceToNat] at ho36; rw [← Ny131.out] at ho36))
             have _ := aM (Kd.Q_below (kZ HO_115007.out) hb)
             have _ := aM (Kd.R_elder' (rZ HO130.out) (Kd.R_base ho36) hb)
             have _ := aM (Kd.R_lower (Kd.R_new' ho36 (Kd.R_lt (rZ HO130.out))) (keep_size (w := w) (g := g) (row := none) z7c8e))
             have _ := bB gb101 hb
             have _ := bB gb114 hb
             have _ := aM (IsS76.below z16b9 hb)
             have _ := aM (KeepBut.trans z7c8e (KeepBut.of_below hb g none) (.inl rfl))
             have _ := aM (below_step za8af hb)
             clear HO_115007
             clear HO130
             clear BK101
             clear BK114
             clear HI0
             clear HK
             clear HB
             rename_i HO_115007 HO130 HO133 BK101 BK114 HI0 HK HB
             clear hb ho36
             refine hK.out _ _ trivial (fun hHeld => ?_)
             clear hK K
             refine nA 26 ?_
             exact norm_ zb4a0 (hJ1_2_3 (v129, v132) _ ⟨zdaed, zec1d, (kZ HO_115007.out), bkZ, bkZ, z16b9, z7c8e, za8af⟩)
         · skip
           rintro ⟨v129, v132⟩ w36 ⟨h0_, h1_, h2_, h3_, h4_, h5_, h6_, h7_⟩
           have _ : Aside0 (Kd.R (Kd.int .u8) 5 w36 w.heap.size (fun k_ => some k_ ≠ (v132 : Value).ownBlock) v129 y128) := ⟨h0_⟩
           have _ : Aside0 (Kd.R (Kd.int .u8) 5 w36 w.heap.size (fun k_ => some k_ ≠ (v129 : Value).ownBlock) v132 y131) := ⟨h1_⟩
           have _ : Aside0 (Kd.Q (Kd.int .i64) 3 w36 w.heap.size (fun _ => True) u115007 x115007_4) := ⟨h2_⟩
           have _ : Aside0 (w36.heap[gb101]? = some (.cells #[.string (⟨#[]⟩ : ByteArray), .int .i64 0, .int .i64 0, .int .i64 0, .int .i64 0, .int .i64 0, .int .i64 0, .slice none 0 0, .bool false] 45 (0, 0))) := ⟨h3_⟩
           have _ : Aside0 (w36.heap[gb114]? = some (.cells #[.string t102, .int .i64 (wrap64 (1 + t105)), .int .i64 t111, .int .i64 x115003_4, .int .i64 x115004_4, .int .i64 x115005_4, .int .i64 x115006_4, u115007, .bool x115008_4] 45 (0, 0))) := ⟨h4_⟩
           have _ : Aside0 (IsS76 w0 w36 g s0_0 t126 t127) := ⟨h5_⟩
           have _ : Aside0 (KeepBut w w36 g none) := ⟨h6_⟩
           have _ : Aside0 (Below w0.heap.size w0 w36) := ⟨h7_⟩
           clear HO_115007
           clear BK101
           clear BK114
           clear HI0
           clear HK
           clear HB
           clear h0_ h1_ h2_ h3_ h4_ h5_ h6_ h7_
           rename_i HO130 HO133 HO_115007 BK101 BK114 HI0 HK HB
           have hHeld := trivial
           refine norm_ (a' := ?_) ?_ ?_
           rotate_left
           · simp only [putAll, Act.put, List.setIfInBounds_toArray, List.set_cons_zero, List.set_cons_succ]
             rfl
           refine oA 2 25 HT_ (fun K hK => ?_)
           have hcv37 := own_string (P := Try.prog) Try.underlying50 Try.underlying5 Try.underlying9 (Kd.own_of_R HO130.out)
           refine value_ (w1 := ?_) (v := ?_) (by rfl) rfl ?_ ?_
           rotate_left 2
           · go_simp
             constructor
             · rfl
             · rfl
           clear hcv37
           refine hK.out _ _ trivial (fun hHeld => ?_)
           clear hK K
           refine nA 25 ?_
           exact norm_ zb4a0 (hJ1_2_3_4 (v129, v132) _ ⟨(rZ HO130.out), (rZ HO133.out), (kZ HO_115007.out), bkZ, bkZ, z16b9, z7c8e, za8af⟩)
       · skip
         rintro ⟨v129, v132⟩ w36 ⟨h0_, h1_, h2_, h3_, h4_, h5_, h6_, h7_⟩
         have _ : Aside0 (Kd.R (Kd.int .u8) 5 w36 w.heap.size (fun k_ => some k_ ≠ (v132 : Value).ownBlock) v129 y128) := ⟨h0_⟩
         have _ : Aside0 (Kd.R (Kd.int .u8) 5 w36 w.heap.size (fun k_ => some k_ ≠ (v129 : Value).ownBlock) v132 y131) := ⟨h1_⟩
         have _ : Aside0 (Kd.Q (Kd.int .i64) 3 w36 w.heap.size (fun _ => True) u115007 x115007_4) := ⟨h2_⟩
         have _ : Aside0 (w36.heap[gb101]? = some (.cells #[.string (⟨#[]⟩ : ByteArray), .int .i64 0, .int .i64 0, .int .i64 0, .int .i64 0, .int .i64 0, .int .i64 0, .slice none 0 0, .bool false] 45 (0, 0))) := ⟨h3_⟩
         have _ : Aside0 (w36.heap[gb114]? = some (.cells #[.string t102, .int .i64 (wrap64 (1 + t105)), .int .i64 t111, .int .i64 x115003_4, .int .i64 x115004_4, .int .i64 x115005_4, .int .i64 x115006_4, u115007, .bool x115008_4] 45 (0, 0))) := ⟨h4_⟩
         have _ : Aside0 (IsS76 w0 w36 g s0_0 t126 t127) := ⟨h5_⟩
         have _ : Aside0 (KeepBut w w36 g none) := ⟨h6_⟩
         have _ : Aside0 (Below w0.heap.size w0 w36) := ⟨h7_⟩
         clear HO_115007
         clear BK101
         clear BK114
         clear HI0
         clear HK
         clear HB
         clear h0_ h1_ h2_ h3_ h4_ h5_ h6_ h7_
         rename_i HO130 HO133 HO_115007 BK101 BK114 HI0 HK HB
         have hHeld := trivial
         refine norm_ (a' := ?_) ?_ ?_
         rotate_left
         · simp only [putAll, Act.put, List.setIfInBounds_toArray, List.set_cons_zero, List.set_cons_succ]
           rfl
         refine oA 4 27 HT_ (fun K hK => ?_)
         have hcv37 := own_string (P := Try.prog) Try.underlying50 Try.underlying5 Try.underlying9 (Kd.own_of_R HO133.out)
         refine value_ (w1 := ?_) (v := ?_) (by rfl) rfl ?_ ?_
         rotate_left 2
         · go_simp
           constructor
           · rfl
           · rfl
         clear hcv37
         refine hK.out _ _ trivial (fun hHeld => ?_)
         clear hK K
         refine nA 27 ?_
         exact norm_ zb4a0 (hJ1_2_3_4 (v129, v132) _ ⟨(rZ HO130.out), (rZ HO133.out), (kZ HO_115007.out), bkZ, bkZ, z16b9, z7c8e, za8af⟩)
     rintro ⟨v129, v132⟩ w37 ⟨h0_, h1_, h2_, h3_, h4_, h5_, h6_, h7_⟩
     have _ : Aside0 (Kd.R (Kd.int .u8) 5 w37 w.heap.size (fun k_ => some k_ ≠ (v132 : Value).ownBlock) v129 y128) := ⟨h0_⟩
     have _ : Aside0 (Kd.R (Kd.int .u8) 5 w37 w.heap.size (fun k_ => some k_ ≠ (v129 : Value).ownBlock) v132 y131) := ⟨h1_⟩
     have _ : Aside0 (Kd.Q (Kd.int .i64) 3 w37 w.heap.size (fun _ => True) u115007 x115007_4) := ⟨h2_⟩
     have _ : Aside0 (w37.heap[gb101]? = some (.cells #[.string (⟨#[]⟩ : ByteArray), .int .i64 0, .int .i64 0, .int .i64 0, .int .i64 0, .int .i64 0, .int .i64 0, .slice none 0 0, .bool false] 45 (0, 0))) := ⟨h3_⟩
     have _ : Aside0 (w37.heap[gb114]? = some (.cells #[.string t102, .int .i64 (wrap64 (1 + t105)), .int .i64 t111, .int .i64 x115003_4, .int .i64 x115004_4, .int .i64 x115005_4, .int .i64 x115006_4, u115007, .bool x115008_4] 45 (0, 0))) := ⟨h4_⟩
     have _ : Aside0 (IsS76 w0 w37 g s0_0 t126 t127) := ⟨h5_⟩
     have _ : Aside0 (KeepBut w w37 g none) := ⟨h6_⟩
     have _ : Aside0 (Below w0.heap.size w0 w37) := ⟨h7_⟩
     clear HO_115007
     clear BK101
     clear BK114
     clear HI0
     clear HK
     clear HB
     clear h0_ h1_ h2_ h3_ h4_ h5_ h6_ h7_
     rename_i HO130 HO133 HO_115007 BK101 BK114 HI0 HK HB
     have hHeld := trivial
     refine norm_ (a' := ?_) ?_ ?_
     rotate_left
     · simp only [putAll, Act.put, List.setIfInBounds_toArray, List.set_cons_zero, List.set_cons_succ]
       rfl
     refine oA 5 28 HT_ (fun K hK => ?_)
     refine Kd.R_lit_step Kd.string _ 9 ?hg (N := 28) ?hd (xs := ([(⟨#[]⟩ : ByteArray), strOfNums y128, strOfNums y131] : List ByteArray)) (inner := [.string (⟨#[]⟩ : ByteArray), .string (strOfNums y128), .string (strOfNums y131)]) (ok := fun _ => True) (okp := fun _ => True) ?hr ?hp (fun _ hk => hk) trivial (Below.refl _ _) (Nat.le_refl _) (by simp) ?_; (case hd => rfl); (case hg => rfl); (case hr => first | (go_simp; done) | (go_simp; rfl)); (case hp => exact (Reps.one (show Kd.M Kd.string _ _ _ (⟨#[]⟩ : ByteArray) [.string (⟨#[]⟩ : ByteArray)] from rfl) (Reps.one (show Kd.M Kd.string _ _ _ (strOfNums y128) [.string (strOfNums y128)] from rfl) (Reps.one (show Kd.M Kd.string _ _ _ (strOfNums y131) [.string (strOfNums y131)] from rfl) (Reps.none _ _)))))
     intro v135 w38 ho39 hb hg_ hnew_
     clear hg_ hnew_
     (first | rw [← Ny134.out] at ho39 | (simp only [Int.reduceToNat] at ho39; rw [← Ny134.out] at ho39))
     have _ := aM (Kd.Q_below (kZ HO_115007.out) hb)
     have _ := aM (Kd.R_below (rZ HO130.out) hb)
     have _ := aM (Kd.R_below (rZ HO133.out) hb)
     have _ := aM (Kd.R_lower ho39 (keep_size (w := w) (g := g) (row := none) z7c8e))
     have _ := bB gb101 hb
     have _ := bB gb114 hb
     have _ := aM (IsS76.below z16b9 hb)
     have _ := aM (KeepBut.trans z7c8e (KeepBut.of_below hb g none) (.inl rfl))
     have _ := aM (below_step za8af hb)
     clear HO_115007
     clear HO130
     clear HO133
     clear BK101
     clear BK114
     clear HI0
     clear HK
     clear HB
     rename_i HO_115007 HO130 HO133 HO136 BK101 BK114 HI0 HK HB
     clear hb ho39
     obtain ⟨Ao40, co40, eo40⟩ := Kd.R_slice HO136.out
     (first | subst eo40 | (injection eo40 with f1_ f2_ f3_; have f4_ := f1_.symm; have f5_ := f3_.symm; clear f1_ f2_ f3_; subst f4_; subst f5_))
     refine hK.out _ _ trivial (fun hHeld => ?_)
     clear hK K
     refine nA 28 ?_; refine oA 6 29 HT_ (fun K hK => ?_)
     refine goes_ Try.func86 (by kernel_rfl) rfl #[.pointer (some ⟨g, 0, none⟩), .slice Ao40 y134.length co40] (by rfl) rfl rfl zee81 ?_
     with_reducible refine (spec_l1Cur_of.calls g s0_0 t126 t127 _ _ y134 t137 t138 t139 w0 _ ?side1 ?side2 ?side3 ?side4 ?side5 A28.out).mono ?_
     (case side1 => exact z16b9)
     (case side2 => exact za8af)
     (case side3 => exact z3e8a)
     (case side4 => exact (Kd.R_reads' HO136.out).2.1)
     (case side5 => exact far_slice (IsS76.own_ne HI0.out HO136.out (by decide)))
     rintro e w41 ⟨rfl, hi, hb, hk⟩
     refine ⟨_, rfl, ?_⟩
     have _ := aM (Kd.Q_mono (Kd.Q_keep (IsS76.apartQ (show IsS76 w0 _ g s0_0 t126 t127 from by repeat (first | (with_reducible first | exact HI0.out | apply IsS76.alloc | apply IsS76.drewN | apply IsS76.drew | apply IsS76.set_1 | apply IsS76.set_2 | refine IsS76.far ?_ (Aside0.out (by assumption)) _) | exact HI0.out)) (kZ HO_115007.out) (by decide)) hk (fun _ h => h.2)) (fun _ h => h.1))
     have _ := aM (KeepBut.blk hk (g' := gb101) bkZ NB101_0.out (by simp))
     have _ := aM (KeepBut.blk hk (g' := gb114) bkZ NB114_0.out (by simp))
     have _ := aM (Kd.R_mono (Kd.R_keep (IsS76.apart (show IsS76 w0 _ g s0_0 t126 t127 from by repeat (first | (with_reducible first | exact HI0.out | apply IsS76.alloc | apply IsS76.drewN | apply IsS76.drew | apply IsS76.set_1 | apply IsS76.set_2 | refine IsS76.far ?_ (Aside0.out (by assumption)) _) | exact HI0.out)) (rZ HO130.out) (by decide)) hk (fun _ h => h.2)) (fun _ h => h.1))
     have _ := aM (Kd.R_mono (Kd.R_keep (IsS76.apart (show IsS76 w0 _ g s0_0 t126 t127 from by repeat (first | (with_reducible first | exact HI0.out | apply IsS76.alloc | apply IsS76.drewN | apply IsS76.drew | apply IsS76.set_1 | apply IsS76.set_2 | refine IsS76.far ?_ (Aside0.out (by assumption)) _) | exact HI0.out)) (rZ HO133.out) (by decide)) hk (fun _ h => h.2)) (fun _ h => h.1))
     have _ := aM (Kd.R_mono (Kd.R_keep (IsS76.apart (show IsS76 w0 _ g s0_0 t126 t127 from by repeat (first | (with_reducible first | exact HI0.out | apply IsS76.alloc | apply IsS76.drewN | apply IsS76.drew | apply IsS76.set_1 | apply IsS76.set_2 | refine IsS76.far ?_ (Aside0.out (by assumption)) _) | exact HI0.out)) (rZ HO136.out) (by decide)) hk (fun _ h => h.2)) (fun _ h => h.1))
     have _ := aM (KeepBut.trans z7c8e hk (.inl rfl))
     have _ := aM hb
     have _ := aM hi
     clear HO_115007
     clear BK101
     clear BK114
     clear HO130
     clear HO133
     clear HO136
     clear HK
     clear HB
     clear HI0
     rename_i HO_115007 BK101 BK114 HO130 HO133 HO136 HK HB HI0
     (try clear hb); (try clear hk); (try clear hi)
     refine hK.out _ _ trivial (fun hHeld => ?_)
     clear hK K
     refine nA 29 ?_; refine pA 7 30 HT_ ?_
     refine one_ (i := 8) (N := none) #[true, true, true, true, true, true, true, true, true] rfl rfl (one_of HT_.out (by kernel_rfl)) (by decide) (fun K hK => ?_)
     have hs42 : w41.cell? ⟨gb114, 0, none⟩ = some (.string t102) := (blk_cell BK114.out 0).trans rfl
     have hfs42 := blk_frozen BK114.out 0
     have hns42_0 := NB101_114.out
     have hms42_0 := NB114_101.out
     refine skip_ (w1 := ?_) (by rfl) rfl ?_ ?_
     rotate_left
     · go_simp
       rfl
     refine hK.out _ _ trivial (fun hHeld => ?_)
     clear hK K
     refine done_ (done_of HT_.out (by kernel_rfl)) ?_
     have hnb43 := NB114_101.out
     have hnc43 := NB101_114.out
     have hnb44 := NB114_0.out
     have hnc44 := NB0_114.out
     have hz45 := cellsZ9 BK114.out
     have hnb46 := NB101_0.out
     have hnc46 := NB0_101.out
     have hz47 := cellsZ9 BK101.out
     obtain ⟨Ao48, co48, eo48, _⟩ := Kd.Q_slice HO_115007.out
     subst eo48
     try go_wp2
     refine bodyPost_ret (results_cell_row rfl _ _ gb101 45 #[.string t137, .int .i64 (wrap64 (1 + t105)), .int .i64 t111, .int .i64 x115003_4, .int .i64 x115004_4, .int .i64 x115005_4, .int .i64 x115006_4, .slice Ao48 x115007_4.length co48, .bool x115008_4] (0, 0) _ rfl bkZ Try.underlying45 rfl (by kernel_rfl)) rfl ?_
     exact ⟨_, z674d, by (with_reducible repeat (first | apply Kd.Q_alloc | apply Kd.Q_drewN | apply Kd.Q_drew)); exact Kd.Q_mono (Kd.Q_far (p := ⟨gb101, 8, none⟩) (Kd.Q_far (p := ⟨gb101, 7, none⟩) (Kd.Q_far (p := ⟨gb101, 6, none⟩) (Kd.Q_far (p := ⟨gb101, 5, none⟩) (Kd.Q_far (p := ⟨gb101, 4, none⟩) (Kd.Q_far (p := ⟨gb101, 3, none⟩) (Kd.Q_far (p := ⟨gb101, 2, none⟩) (Kd.Q_far (p := ⟨gb101, 1, none⟩) (Kd.Q_far (p := ⟨gb101, 0, none⟩) (Kd.Q_far (p := ⟨gb114, 0, none⟩) (Kd.Q_types (Kd.Q_types HO_115007.out BK114.out (by decide)) BK101.out (by decide)) (fun _ hk => hk.1.2) (.string t137)) (fun _ hk => hk.2) (.string t137)) (fun _ hk => hk.2) (.int .i64 (wrap64 (1 + t105)))) (fun _ hk => hk.2) (.int .i64 t111)) (fun _ hk => hk.2) (.int .i64 x115003_4)) (fun _ hk => hk.2) (.int .i64 x115004_4)) (fun _ hk => hk.2) (.int .i64 x115005_4)) (fun _ hk => hk.2) (.int .i64 x115006_4)) (fun _ hk => hk.2) (.slice Ao48 x115007_4.length co48)) (fun _ hk => hk.2) (.bool x115008_4)) (fun _ hk => trivial), z16b9, za8af, z7c8e⟩
   · rw [if_neg c25] at H
     have c25b0 := eqN c25
     by_cases c49 : t125 = 1
     · rw [if_pos c49] at H
       have c49b0 : (t125 == 1) = true := beq_iff_eq.mpr c49
       have c49b1 : (t125 != 1) = false := bne_eq_false_iff_eq.mpr c49
       clear c49
       obtain ⟨y140, hy140⟩ : ∃ y_ : List Int, y_ = (([0, 1000000000, 1000000001] : List Int)) := ⟨_, rfl⟩
       first | (replace H := bindS H; rw [← hy140] at H; try dsimp only at H) | rw [← hy140] at H
       have Ny140 := aM hy140
       clear hy140
       obtain ⟨⟨t143, t144, t145⟩, A50, H⟩ := bS H; try dsimp only at H
       simp only [Option.some.injEq, Prod.mk.injEq] at H
       obtain ⟨rfl, rfl, rfl, rfl, rfl, rfl, rfl, rfl, rfl, rfl, rfl⟩ := H
       go_wp2_with (first | ((with_reducible refine gate_callee (f := 53) rfl ?_); refine gL 20 Try.func53 #[.pointer (some ⟨g, 0, none⟩), .int .i64 60] ?_; (with_reducible refine (spec_l1Cur_pick.calls g s0_0 x1001_4 x1002_4 60 t125 t126 t127 w0 _ ?side1 ?side2 A24.out).mono ?_); (case side1 => exact z16b9); (case side2 => exact za8af); rintro e w51 ⟨rfl, hi, hb, hk⟩; refine ⟨_, rfl, ?_⟩; have _ := aM (Kd.Q_mono (Kd.Q_keep (IsS76.apartQ (show IsS76 w0 _ g s0_0 x1001_4 x1002_4 from by repeat (first | (with_reducible first | exact HI0.out | apply IsS76.alloc | apply IsS76.drewN | apply IsS76.drew | apply IsS76.set_1 | apply IsS76.set_2 | refine IsS76.far ?_ (Aside0.out (by assumption)) _) | exact HI0.out)) (kZ HO_115007.out) (by decide)) hk (fun _ h => h.2)) (fun _ h => h.1)); have _ := aM (KeepBut.blk hk (g' := gb101) bkZ NB101_0.out (by simp)); have _ := aM (KeepBut.blk hk (g' := gb114) bkZ NB114_0.out (by simp)); have _ := aM (KeepBut.trans z7c8e hk (.inl rfl)); have _ := aM hb; have _ := aM hi; clear HO_115007 BK101 BK114 HK HB HI0; rename_i HO_115007 BK101 BK114 HK HB HI0; (try clear hb); (try clear hk); (try clear hi)) | ((with_reducible refine gate_dst (N := 34) rfl ?_); refine Kd.R_lit (Kd.int .i64) _ 3 ?hg (N := 34) ?hd (xs := ([0, 1000000000, 1000000001] : List Int)) (inner := [.int .i64 0, .int .i64 1000000000, .int .i64 1000000001]) (ok := fun _ => True) (okp := fun _ => True) ?hr ?hp (fun _ hk => hk) trivial (Below.refl _ _) (Nat.le_refl _) (by simp) ?_; (case hd => rfl); (case hg => rfl); (case hr => first | (go_simp; done) | (go_simp; rfl)); (case hp => exact (Reps.one (show Kd.M (Kd.int .i64) _ _ _ 0 [.int .i64 0] from rfl) (Reps.one (show Kd.M (Kd.int .i64) _ _ _ 1000000000 [.int .i64 1000000000] from rfl) (Reps.one (show Kd.M (Kd.int .i64) _ _ _ 1000000001 [.int .i64 1000000001] from rfl) (Reps.none _ _))))); intro v141 w52 ho53 hb hg_ hnew_; clear hg_ hnew_; (first | rw [← Ny140.out] at ho53 | (simp only [Int.reduceToNat] at ho53; rw [← Ny140.out] at ho53)); have _ := aM (Kd.Q_elder' (kZ HO_115007.out) (Kd.R_base ho53) hb); have _ := aM (Kd.R_lower (Kd.R_new' ho53 (Kd.Q_lt (kZ HO_115007.out))) (keep_size (w := w) (g := g) (row := none) z7c8e)); have _ := bB gb101 hb; have _ := bB gb114 hb; have _ := aM (IsS76.below z16b9 hb); have _ := aM (KeepBut.trans z7c8e (KeepBut.of_below hb g none) (.inl rfl)); have _ := aM (below_step za8af hb); clear HO_115007 BK101 BK114 HI0 HK HB; rename_i HO_115007 HO142 BK101 BK114 HI0 HK HB; clear hb ho53; obtain ⟨Ao54, co54, eo54⟩ := Kd.R_slice HO142.out; subst eo54) | ((with_reducible refine gate_callee (f := 60) rfl ?_); refine gL 35 Try.func60 #[.pointer (some ⟨g, 0, none⟩), .slice Ao54 y140.length co54] ?_; (with_reducible refine (spec_l1Cur_among.calls g s0_0 t126 t127 _ _ y140 t143 t144 t145 w0 _ ?side1 ?side2 ?side3 ?side4 ?side5 A50.out).mono ?_); (case side1 => exact z16b9); (case side2 => exact za8af); (case side3 => exact (by repeat (first | exact (Kd.R_reads' HO142.out).2.2 | (with_reducible refine Kd.C_alloc ?_ _) | (with_reducible refine Kd.C_drewN ?_ _) | (with_reducible refine Kd.C_drew ?_)))); (case side4 => exact (Kd.R_reads' HO142.out).2.1); (case side5 => exact far_slice (IsS76.own_ne HI0.out HO142.out (by decide))); rintro e w55 ⟨rfl, hi, hb, hk⟩; refine ⟨_, rfl, ?_⟩; have _ := aM (Kd.Q_mono (Kd.Q_keep (IsS76.apartQ (show IsS76 w0 _ g s0_0 t126 t127 from by repeat (first | (with_reducible first | exact HI0.out | apply IsS76.alloc | apply IsS76.drewN | apply IsS76.drew | apply IsS76.set_1 | apply IsS76.set_2 | refine IsS76.far ?_ (Aside0.out (by assumption)) _) | exact HI0.out)) (kZ HO_115007.out) (by decide)) hk (fun _ h => h.2)) (fun _ h => h.1)); have _ := aM (KeepBut.blk hk (g' := gb101) bkZ NB101_0.out (by simp)); have _ := aM (KeepBut.blk hk (g' := gb114) bkZ NB114_0.out (by simp)); have _ := aM (Kd.R_mono (Kd.R_keep (IsS76.apart (show IsS76 w0 _ g s0_0 t126 t127 from by repeat (first | (with_reducible first | exact HI0.out | apply IsS76.alloc | apply IsS76.drewN | apply IsS76.drew | apply IsS76.set_1 | apply IsS76.set_2 | refine IsS76.far ?_ (Aside0.out (by assumption)) _) | exact HI0.out)) (rZ HO142.out) (by decide)) hk (fun _ h => h.2)) (fun _ h => h.1)); have _ := aM (KeepBut.trans z7c8e hk (.inl rfl)); have _ := aM hb; have _ := aM hi; clear HO_115007 BK101 BK114 HO142 HK HB HI0; rename_i HO_115007 BK101 BK114 HO142 HK HB HI0; (try clear hb); (try clear hk); (try clear hi); have hnb56 := NB114_101.out; have hnc56 := NB101_114.out; have hnb57 := NB114_0.out; have hnc57 := NB0_114.out; have hz58 := cellsZ9 BK114.out; have hnb59 := NB101_0.out; have hnc59 := NB0_101.out; have hz60 := cellsZ9 BK101.out; obtain ⟨Ao61, co61, eo61, _⟩ := Kd.Q_slice HO_115007.out; subst eo61))
       refine bodyPost_ret (results_cell_row rfl _ _ gb101 45 #[.string t102, .int .i64 t143, .int .i64 t111, .int .i64 x115003_4, .int .i64 x115004_4, .int .i64 x115005_4, .int .i64 x115006_4, .slice Ao61 x115007_4.length co61, .bool x115008_4] (0, 0) _ rfl bkZ Try.underlying45 rfl (by kernel_rfl)) rfl ?_
       exact ⟨_, z674d, by (with_reducible repeat (first | apply Kd.Q_alloc | apply Kd.Q_drewN | apply Kd.Q_drew)); exact Kd.Q_mono (Kd.Q_far (p := ⟨gb101, 8, none⟩) (Kd.Q_far (p := ⟨gb101, 7, none⟩) (Kd.Q_far (p := ⟨gb101, 6, none⟩) (Kd.Q_far (p := ⟨gb101, 5, none⟩) (Kd.Q_far (p := ⟨gb101, 4, none⟩) (Kd.Q_far (p := ⟨gb101, 3, none⟩) (Kd.Q_far (p := ⟨gb101, 2, none⟩) (Kd.Q_far (p := ⟨gb101, 1, none⟩) (Kd.Q_far (p := ⟨gb101, 0, none⟩) (Kd.Q_far (p := ⟨gb114, 1, none⟩) (Kd.Q_types (Kd.Q_types HO_115007.out BK114.out (by decide)) BK101.out (by decide)) (fun _ hk => hk.1.2) (.int .i64 t143)) (fun _ hk => hk.2) (.string t102)) (fun _ hk => hk.2) (.int .i64 t143)) (fun _ hk => hk.2) (.int .i64 t111)) (fun _ hk => hk.2) (.int .i64 x115003_4)) (fun _ hk => hk.2) (.int .i64 x115004_4)) (fun _ hk => hk.2) (.int .i64 x115005_4)) (fun _ hk => hk.2) (.int .i64 x115006_4)) (fun _ hk => hk.2) (.slice Ao61 x115007_4.length co61)) (fun _ hk => hk.2) (.bool x115008_4)) (fun _ hk => trivial), z16b9, za8af, z7c8e⟩
     · rw [if_neg c49] at H
       have c49b0 := eqN c49
       by_cases c62 : t125 = 2
       · rw [if_pos c62] at H
         have c62b0 : (t125 == 2) = true := beq_iff_eq.mpr c62
         have c62b1 : (t125 != 2) = false := bne_eq_false_iff_eq.mpr c62
         clear c62
         obtain ⟨y146, hy146⟩ : ∃ y_ : List Int, y_ = (([0, 4] : List Int)) := ⟨_, rfl⟩
         first | (replace H := bindS H; rw [← hy146] at H; try dsimp only at H) | rw [← hy146] at H
         have Ny146 := aM hy146
         clear hy146
         obtain ⟨⟨t149, t150, t151⟩, A63, H⟩ := bS H; try dsimp only at H
         simp only [Option.some.injEq, Prod.mk.injEq] at H
         obtain ⟨rfl, rfl, rfl, rfl, rfl, rfl, rfl, rfl, rfl, rfl, rfl⟩ := H
         go_wp2_with (first | ((with_reducible refine gate_callee (f := 53) rfl ?_); refine gL 20 Try.func53 #[.pointer (some ⟨g, 0, none⟩), .int .i64 60] ?_; (with_reducible refine (spec_l1Cur_pick.calls g s0_0 x1001_4 x1002_4 60 t125 t126 t127 w0 _ ?side1 ?side2 A24.out).mono ?_); (case side1 => exact z16b9); (case side2 => exact za8af); rintro e w64 ⟨rfl, hi, hb, hk⟩; refine ⟨_, rfl, ?_⟩; have _ := aM (Kd.Q_mono (Kd.Q_keep (IsS76.apartQ (show IsS76 w0 _ g s0_0 x1001_4 x1002_4 from by repeat (first | (with_reducible first | exact HI0.out | apply IsS76.alloc | apply IsS76.drewN | apply IsS76.drew | apply IsS76.set_1 | apply IsS76.set_2 | refine IsS76.far ?_ (Aside0.out (by assumption)) _) | exact HI0.out)) (kZ HO_115007.out) (by decide)) hk (fun _ h => h.2)) (fun _ h => h.1)); have _ := aM (KeepBut.blk hk (g' := gb101) bkZ NB101_0.out (by simp)); have _ := aM (KeepBut.blk hk (g' := gb114) bkZ NB114_0.out (by simp)); have _ := aM (KeepBut.trans z7c8e hk (.inl rfl)); have _ := aM hb; have _ := aM hi; clear HO_115007 BK101 BK114 HK HB HI0; rename_i HO_115007 BK101 BK114 HK HB HI0; (try clear hb); (try clear hk); (try clear hi)) | ((with_reducible refine gate_dst (N := 40) rfl ?_); refine Kd.R_lit (Kd.int .i64) _ 3 ?hg (N := 40) ?hd (xs := ([0, 4] : List Int)) (inner := [.int .i64 0, .int .i64 4]) (ok := fun _ => True) (okp := fun _ => True) ?hr ?hp (fun _ hk => hk) trivial (Below.refl _ _) (Nat.le_refl _) (by simp) ?_; (case hd => rfl); (case hg => rfl); (case hr => first | (go_simp; done) | (go_simp; rfl)); (case hp => exact (Reps.one (show Kd.M (Kd.int .i64) _ _ _ 0 [.int .i64 0] from rfl) (Reps.one (show Kd.M (Kd.int .i64) _ _ _ 4 [.int .i64 4] from rfl) (Reps.none _ _)))); intro v147 w65 ho66 hb hg_ hnew_; clear hg_ hnew_; (first | rw [← Ny146.out] at ho66 | (simp only [Int.reduceToNat] at ho66; rw [← Ny146.out] at ho66)); have _ := aM (Kd.Q_elder' (kZ HO_115007.out) (Kd.R_base ho66) hb); have _ := aM (Kd.R_lower (Kd.R_new' ho66 (Kd.Q_lt (kZ HO_115007.out))) (keep_size (w := w) (g := g) (row := none) z7c8e)); have _ := bB gb101 hb; have _ := bB gb114 hb; have _ := aM (IsS76.below z16b9 hb); have _ := aM (KeepBut.trans z7c8e (KeepBut.of_below hb g none) (.inl rfl)); have _ := aM (below_step za8af hb); clear HO_115007 BK101 BK114 HI0 HK HB; rename_i HO_115007 HO148 BK101 BK114 HI0 HK HB; clear hb ho66; obtain ⟨Ao67, co67, eo67⟩ := Kd.R_slice HO148.out; subst eo67) | ((with_reducible refine gate_callee (f := 60) rfl ?_); refine gL 41 Try.func60 #[.pointer (some ⟨g, 0, none⟩), .slice Ao67 y146.length co67] ?_; (with_reducible refine (spec_l1Cur_among.calls g s0_0 t126 t127 _ _ y146 t149 t150 t151 w0 _ ?side1 ?side2 ?side3 ?side4 ?side5 A63.out).mono ?_); (case side1 => exact z16b9); (case side2 => exact za8af); (case side3 => exact (by repeat (first | exact (Kd.R_reads' HO148.out).2.2 | (with_reducible refine Kd.C_alloc ?_ _) | (with_reducible refine Kd.C_drewN ?_ _) | (with_reducible refine Kd.C_drew ?_)))); (case side4 => exact (Kd.R_reads' HO148.out).2.1); (case side5 => exact far_slice (IsS76.own_ne HI0.out HO148.out (by decide))); rintro e w68 ⟨rfl, hi, hb, hk⟩; refine ⟨_, rfl, ?_⟩; have _ := aM (Kd.Q_mono (Kd.Q_keep (IsS76.apartQ (show IsS76 w0 _ g s0_0 t126 t127 from by repeat (first | (with_reducible first | exact HI0.out | apply IsS76.alloc | apply IsS76.drewN | apply IsS76.drew | apply IsS76.set_1 | apply IsS76.set_2 | refine IsS76.far ?_ (Aside0.out (by assumption)) _) | exact HI0.out)) (kZ HO_115007.out) (by decide)) hk (fun _ h => h.2)) (fun _ h => h.1)); have _ := aM (KeepBut.blk hk (g' := gb101) bkZ NB101_0.out (by simp)); have _ := aM (KeepBut.blk hk (g' := gb114) bkZ NB114_0.out (by simp)); have _ := aM (Kd.R_mono (Kd.R_keep (IsS76.apart (show IsS76 w0 _ g s0_0 t126 t127 from by repeat (first | (with_reducible first | exact HI0.out | apply IsS76.alloc | apply IsS76.drewN | apply IsS76.drew | apply IsS76.set_1 | apply IsS76.set_2 | refine IsS76.far ?_ (Aside0.out (by assumption)) _) | exact HI0.out)) (rZ HO148.out) (by decide)) hk (fun _ h => h.2)) (fun _ h => h.1)); have _ := aM (KeepBut.trans z7c8e hk (.inl rfl)); have _ := aM hb; have _ := aM hi; clear HO_115007 BK101 BK114 HO148 HK HB HI0; rename_i HO_115007 BK101 BK114 HO148 HK HB HI0; (try clear hb); (try clear hk); (try clear hi); have hnb69 := NB114_101.out; have hnc69 := NB101_114.out; have hnb70 := NB114_0.out; have hnc70 := NB0_114.out; have hz71 := cellsZ9 BK114.out; have hnb72 := NB101_0.out; have hnc72 := NB0_101.out; have hz73 := cellsZ9 BK101.out; obtain ⟨Ao74, co74, eo74, _⟩ := Kd.Q_slice HO_115007.out; subst eo74))
         refine bodyPost_ret (results_cell_row rfl _ _ gb101 45 #[.string t102, .int .i64 (wrap64 (1 + t105)), .int .i64 t149, .int .i64 x115003_4, .int .i64 x115004_4, .int .i64 x115005_4, .int .i64 x115006_4, .slice Ao74 x115007_4.length co74, .bool x115008_4] (0, 0) _ rfl bkZ Try.underlying45 rfl (by kernel_rfl)) rfl ?_
         exact ⟨_, z674d, by (with_reducible repeat (first | apply Kd.Q_alloc | apply Kd.Q_drewN | apply Kd.Q_drew)); exact Kd.Q_mono (Kd.Q_far (p := ⟨gb101, 8, none⟩) (Kd.Q_far (p := ⟨gb101, 7, none⟩) (Kd.Q_far (p := ⟨gb101, 6, none⟩) (Kd.Q_far (p := ⟨gb101, 5, none⟩) (Kd.Q_far (p := ⟨gb101, 4, none⟩) (Kd.Q_far (p := ⟨gb101, 3, none⟩) (Kd.Q_far (p := ⟨gb101, 2, none⟩) (Kd.Q_far (p := ⟨gb101, 1, none⟩) (Kd.Q_far (p := ⟨gb101, 0, none⟩) (Kd.Q_far (p := ⟨gb114, 2, none⟩) (Kd.Q_types (Kd.Q_types HO_115007.out BK114.out (by decide)) BK101.out (by decide)) (fun _ hk => hk.1.2) (.int .i64 t149)) (fun _ hk => hk.2) (.string t102)) (fun _ hk => hk.2) (.int .i64 (wrap64 (1 + t105)))) (fun _ hk => hk.2) (.int .i64 t149)) (fun _ hk => hk.2) (.int .i64 x115003_4)) (fun _ hk => hk.2) (.int .i64 x115004_4)) (fun _ hk => hk.2) (.int .i64 x115005_4)) (fun _ hk => hk.2) (.int .i64 x115006_4)) (fun _ hk => hk.2) (.slice Ao74 x115007_4.length co74)) (fun _ hk => hk.2) (.bool x115008_4)) (fun _ hk => trivial), z16b9, za8af, z7c8e⟩
       · rw [if_neg c62] at H
         have c62b0 := eqN c62
         simp only [Option.some.injEq, Prod.mk.injEq] at H
         obtain ⟨rfl, rfl, rfl, rfl, rfl, rfl, rfl, rfl, rfl, rfl, rfl⟩ := H
         go_wp2_with (first | ((with_reducible refine gate_callee (f := 53) rfl ?_); refine gL 20 Try.func53 #[.pointer (some ⟨g, 0, none⟩), .int .i64 60] ?_; (with_reducible refine (spec_l1Cur_pick.calls g s0_0 x1001_4 x1002_4 60 t125 t126 t127 w0 _ ?side1 ?side2 A24.out).mono ?_); (case side1 => exact z16b9); (case side2 => exact za8af); rintro e w75 ⟨rfl, hi, hb, hk⟩; refine ⟨_, rfl, ?_⟩; have _ := aM (Kd.Q_mono (Kd.Q_keep (IsS76.apartQ (show IsS76 w0 _ g s0_0 x1001_4 x1002_4 from by repeat (first | (with_reducible first | exact HI0.out | apply IsS76.alloc | apply IsS76.drewN | apply IsS76.drew | apply IsS76.set_1 | apply IsS76.set_2 | refine IsS76.far ?_ (Aside0.out (by assumption)) _) | exact HI0.out)) (kZ HO_115007.out) (by decide)) hk (fun _ h => h.2)) (fun _ h => h.1)); have _ := aM (KeepBut.blk hk (g' := gb101) bkZ NB101_0.out (by simp)); have _ := aM (KeepBut.blk hk (g' := gb114) bkZ NB114_0.out (by simp)); have _ := aM (KeepBut.trans z7c8e hk (.inl rfl)); have _ := aM hb; have _ := aM hi; clear HO_115007 BK101 BK114 HK HB HI0; rename_i HO_115007 BK101 BK114 HK HB HI0; (try clear hb); (try clear hk); (try clear hi); have hnb76 := NB114_101.out; have hnc76 := NB101_114.out; have hnb77 := NB114_0.out; have hnc77 := NB0_114.out; have hz78 := cellsZ9 BK114.out; have hnb79 := NB101_0.out; have hnc79 := NB0_101.out; have hz80 := cellsZ9 BK101.out; obtain ⟨Ao81, co81, eo81, _⟩ := Kd.Q_slice HO_115007.out; subst eo81))
         refine bodyPost_ret (results_cell_row rfl _ _ gb101 45 #[.string t102, .int .i64 (wrap64 (1 + t105)), .int .i64 t111, .int .i64 x115003_4, .int .i64 x115004_4, .int .i64 x115005_4, .int .i64 x115006_4, .slice Ao81 x115007_4.length co81, .bool x115008_4] (0, 0) _ rfl bkZ Try.underlying45 rfl (by kernel_rfl)) rfl ?_
         exact ⟨_, z674d, by (with_reducible repeat (first | apply Kd.Q_alloc | apply Kd.Q_drewN | apply Kd.Q_drew)); exact Kd.Q_mono (Kd.Q_far (p := ⟨gb101, 8, none⟩) (Kd.Q_far (p := ⟨gb101, 7, none⟩) (Kd.Q_far (p := ⟨gb101, 6, none⟩) (Kd.Q_far (p := ⟨gb101, 5, none⟩) (Kd.Q_far (p := ⟨gb101, 4, none⟩) (Kd.Q_far (p := ⟨gb101, 3, none⟩) (Kd.Q_far (p := ⟨gb101, 2, none⟩) (Kd.Q_far (p := ⟨gb101, 1, none⟩) (Kd.Q_far (p := ⟨gb101, 0, none⟩) (Kd.Q_types HO_115007.out BK101.out (by decide)) (fun _ hk => hk.2) (.string t102)) (fun _ hk => hk.2) (.int .i64 (wrap64 (1 + t105)))) (fun _ hk => hk.2) (.int .i64 t111)) (fun _ hk => hk.2) (.int .i64 x115003_4)) (fun _ hk => hk.2) (.int .i64 x115004_4)) (fun _ hk => hk.2) (.int .i64 x115005_4)) (fun _ hk => hk.2) (.int .i64 x115006_4)) (fun _ hk => hk.2) (.slice Ao81 x115007_4.length co81)) (fun _ hk => hk.2) (.bool x115008_4)) (fun _ hk => trivial), z16b9, za8af, z7c8e⟩
def spec_l1Cur_entries.l0 : Nat → List (S45) → Int → List Int → Int → Int → Option ((List (S45)) × Int × Int)
 | 0, _, _, _, _, _ => none
 | k + 1, x5, x6, x1000, x1001, x1002 => if x6 > 0 then ((spec_l1Cur_entry.f k x1000 x1001 x1002).bind fun bt104 => ((spec_PutEntry.f k x5 bt104.1 bt104.2.1 bt104.2.2.1 bt104.2.2.2.1 bt104.2.2.2.2.1 bt104.2.2.2.2.2.1 bt104.2.2.2.2.2.2.1 bt104.2.2.2.2.2.2.2.1 bt104.2.2.2.2.2.2.2.2.1).bind fun bt117 => (if bt117.2 = true then (spec_l1Cur_entries.l0 k bt117.1 (wrap64 (x6 - 1)) x1000 bt104.2.2.2.2.2.2.2.2.2.1 bt104.2.2.2.2.2.2.2.2.2.2) else (spec_l1Cur_entries.l0 k x5 (wrap64 (x6 - 1)) x1000 bt104.2.2.2.2.2.2.2.2.2.1 bt104.2.2.2.2.2.2.2.2.2.2)))) else ((spec_l1Cur_one.f x1000 x1001 x1002 40).bind fun bt121 => (if bt121.1 = true then ((spec_l1Cur_entry.f k x1000 bt121.2.1 bt121.2.2).bind fun bt124 => (if x5.length < 1466015503701 then (some ((x5 ++ [(⟨bt124.1, bt124.2.1, bt124.2.2.1, (⟨bt124.2.2.2.1, bt124.2.2.2.2.1, bt124.2.2.2.2.2.1, bt124.2.2.2.2.2.2.1, bt124.2.2.2.2.2.2.2.1, bt124.2.2.2.2.2.2.2.2.1⟩ : S26)⟩ : S45)]), bt124.2.2.2.2.2.2.2.2.2.1, bt124.2.2.2.2.2.2.2.2.2.2)) else (none))) else (some (x5, bt121.2.1, bt121.2.2))))
def spec_l1Cur_entries.f (k : Nat) (s0_0 : List Int) (s0_1 : Int) (s0_2 : Int) (a1 : Int) : Option ((List (S45)) × Int × Int) := (spec_l1Cur_pick.f s0_0 s0_1 s0_2 (wrap64 (a1 + 1))).bind fun bt101 => (spec_l1Cur_entries.l0 k ([] : List (S45)) bt101.1 s0_0 bt101.2.1 bt101.2.2)
theorem spec_l1Cur_entries.mono_l : ∀ k, (∀ y0 y1 y2 y3 y4, LeO (spec_l1Cur_entries.l0 k y0 y1 y2 y3 y4) (spec_l1Cur_entries.l0 (k + 1) y0 y1 y2 y3 y4))
 | 0 => fun _ _ _ _ _ r h => by simp [spec_l1Cur_entries.l0] at h
 | k + 1 => by
  have ih0 := spec_l1Cur_entries.mono_l k; have m0 := @spec_PutEntry.mono; have m1 := @spec_l1Cur_entry.mono
  · intro y0 y1 y2 y3 y4
    unfold spec_l1Cur_entries.l0
    exact moZ
theorem spec_l1Cur_entries.mono : ∀ a0 a1 a2 a3 k, LeO (spec_l1Cur_entries.f k a0 a1 a2 a3) (spec_l1Cur_entries.f (k + 1) a0 a1 a2 a3) := by
 intro a0 a1 a2 a3 k
 have ih0 := spec_l1Cur_entries.mono_l k
 have m0 := @spec_PutEntry.mono; have m1 := @spec_l1Cur_entry.mono
 unfold spec_l1Cur_entries.f
 exact moZ
theorem spec_l1Cur_entries.calls (k : Nat) (g : Nat) (s0_0 : List Int) (s0_1 : Int) (s0_2 : Int) (a1 : Int) (r1 : List (S45)) (r2 : Int) (r3 : Int) (w0 w : World) (hI : IsS76 w0 w g s0_0 s0_1 s0_2) (hB : Below w0.heap.size w0 w) (h : spec_l1Cur_entries.f k s0_0 s0_1 s0_2 a1 = some (r1, r2, r3)) :
 Calls Try.prog 51 #[.pointer (some ⟨g, 0, none⟩), .int .i64 a1] w fun e w' => ∃ v0_ : Value, e = .returned (v0_) ∧ Kd.N k45 45 w' w.heap.size (fun k_ => (w.heap.size ≤ k_)) v0_ r1 ∧ IsS76 w0 w' g s0_0 r2 r3 ∧ Below w0.heap.size w0 w' ∧ KeepBut w w' g none := by
 have HI0 := aM hI
 have HK := aM (KeepBut.refl w g none)
 have HL := aM hB.size
 clear hI
 have HW0 := aM hB.size
 have HB := aM hB
 clear hB
 have H : ((spec_l1Cur_pick.f s0_0 s0_1 s0_2 (wrap64 (a1 + 1))).bind fun bt101 => (spec_l1Cur_entries.l0 k ([] : List (S45)) bt101.1 s0_0 bt101.2.1 bt101.2.2)) = some (r1, r2, r3) := h
 clear h
 obtain ⟨⟨t101, t102, t103⟩, A3, H⟩ := bS H; try dsimp only at H
 have H' := aM H
 clear H
 go_enter Try.func51, Try.ntmps51
 go_wp2_with (first | ((with_reducible refine gate_callee (f := 53) rfl ?_); refine gL 12 Try.func53 #[.pointer (some ⟨g, 0, none⟩), .int .i64 (wrap64 (a1 + 1))] ?_; (with_reducible refine (spec_l1Cur_pick.calls g s0_0 s0_1 s0_2 (wrap64 (a1 + 1)) t101 t102 t103 w0 _ ?side1 ?side2 A3.out).mono ?_); (case side1 => exact z0f56); (case side2 => exact zc59d); rintro e w4 ⟨rfl, hi, hb, hk⟩; refine ⟨_, rfl, ?_⟩; have _ := aM (KeepBut.trans zcbec hk (.inl rfl)); have _ := aM hb; have _ := aM hi; clear HK HB HI0; rename_i HK HB HI0; (try clear hb); (try clear hk); (try clear hi)))
 go_loopg [5, 6] k (fun kq v5 v6 w' => ∃ (x5_1 : List (S45)) (x6_1 : Int) (x1001_1 : Int) (x1002_1 : Int), v6 = .int .i64 x6_1 ∧ Aside0 (spec_l1Cur_entries.l0 kq x5_1 x6_1 s0_0 x1001_1 x1002_1 = some (r1, r2, r3)) ∧ Aside0 (kq ≤ k) ∧ Aside0 (Kd.N k45 45 w' w.heap.size (fun k_ => (w.heap.size ≤ k_) ∧ k_ ≠ g) v5 x5_1) ∧ Aside0 (IsS76 w0 w' g s0_0 x1001_1 x1002_1) ∧ Aside0 (KeepBut w w' g none) ∧ Aside0 (Below w0.heap.size w0 w'))
 case atStart => exact ⟨(([] : List (S45))), (t101), (t102), (t103), z4458, H', ⟨Nat.le_refl _⟩, ⟨z2bfb⟩, ⟨z0f56⟩, ⟨zcbec⟩, ⟨zc59d⟩⟩
 case round =>
  clear H'
  obtain ⟨x5_1, x6_1, x1001_1, x1002_1, rfl, HA, HK1, HO_5, HI0, HK, HB⟩ := hrel
  cases gk with
  | zero => exact absurd HA.out (by simp [spec_l1Cur_entries.l0])
  | succ k1 =>
   have H := HA.out
   clear HA
   simp only [spec_l1Cur_entries.l0] at H
   by_cases c5 : x6_1 > 0
   · rw [if_pos c5] at H
     have c5b0 := dL c5
     clear c5
     obtain ⟨⟨t104, t105, t106, t107, t108, t109, t110, t111, t114, t115, t116⟩, A6, H⟩ := bS H; try dsimp only at H
     obtain ⟨⟨t117, t120⟩, A7, H⟩ := bS H; try dsimp only at H
     by_cases c8 : t120 = true
     · subst c8
       rw [if_pos rfl] at H
       have H' := aM H
       clear H
       go_wp2_with (first | ((with_reducible refine gate_callee (f := 54) rfl ?_); refine gL 20 Try.func54 #[.pointer (some ⟨g, 0, none⟩)] ?_; (with_reducible refine (spec_l1Cur_entry.calls k1 g s0_0 x1001_1 x1002_1 t104 t105 t106 t107 t108 t109 t110 t111 t114 t115 t116 w0 _ ?side1 ?side2 A6.out).mono ?_); (case side1 => exact z0f56); (case side2 => exact zc59d); rintro e w9 ⟨v112, rfl, ho0, hi, hb, hk⟩; refine ⟨_, rfl, ?_⟩; have _ := aM (Kd.N_mono (Kd.N_told (Kd.N_oldK (Kd.N_mono (ok := fun k_ => (((w.heap.size ≤ k_)) ∧ k_ ≠ g)) z52d0 (fun k_ hk_ => (⟨hk_, hk_.2⟩ : _ ∧ k_ ≠ g))) hk) (Kd.Q_base ho0)) (fun _ h_ => h_.1)); have _ := aM (Kd.Q_lower (Kd.Q_newM (M := fun k_ => (w.heap.size ≤ k_)) ho0 (keep_size (w := w) (g := g) (row := none) zcbec) (fun k_ h_ => h_)) (keep_size (w := w) (g := g) (row := none) zcbec)); have _ := aM (KeepBut.trans zcbec hk (.inl rfl)); have _ := aM hb; have _ := aM hi; clear HO_5 HK HB HI0; rename_i HO_5 HO113 HK HB HI0; (try clear hb); (try clear hk); (try clear hi); (try clear ho0); obtain ⟨Ao10, co10, eo10⟩ := Kd.N_slice HO_5.out; subst eo10; obtain ⟨Ao11, co11, eo11, _⟩ := Kd.Q_slice HO113.out; subst eo11) | ((with_reducible refine gate_callee (f := 20) rfl ?_); refine gL 21 Try.func20 #[.slice Ao10 x5_1.length co10, .agg #[.string t104, .int .i64 t105, .int .i64 t106, .int .i64 t107, .int .i64 t108, .int .i64 t109, .int .i64 t110, .slice Ao11 t111.length co11, .bool t114]] ?_; (with_reducible refine (spec_PutEntry.calls k1 (fun k_ => (((w.heap.size ≤ k_) ∧ k_ ≠ g) ∧ some k_ ≠ (.slice Ao11 t111.length co11 : Value).ownBlock)) _ _ x5_1 t104 t105 t106 t107 t108 t109 t110 (fun k_ => some k_ = (.slice Ao11 t111.length co11 : Value).ownBlock) _ _ t111 t114 t117 true _ ?side1 ?side2 A7.out).mono ?_); (case side1 => exact Kd.N_V (HO_5.out)); (case side2 => exact Kd.Q_V (Kd.Q_tight rfl (IsS76.apartQ HI0.out (Kd.Q_apart' (HO113.out) (Kd.N_typed HO_5.out) (by decide)) (by decide)))); rintro e w12 ⟨v118, rfl, ho0, hb⟩; refine ⟨_, rfl, ?_⟩; have _ := aM (Kd.N_elder' z52d0 (Kd.N_base ho0) hb); have _ := aM (Kd.Q_below (kZ HO113.out) hb); have _ := aM (Kd.N_lower (Kd.N_mono (ok' := fun k_ => (w.heap.size ≤ k_) ∧ k_ ≠ g) ho0 (fun k_ hk_ => ⟨Or.elim hk_ (fun hs_ => Or.elim hs_ (fun hs_ => hs_.1.1) (fun hs_ => ((IsS76.apartQ HI0.out (Kd.Q_apart' (HO113.out) (Kd.N_typed HO_5.out) (by decide)) (by decide)).1 k_ hs_.symm).1.1.1)) (fun hn_ => (Nat.le_trans (keep_size (w := w) (g := g) (row := none) zcbec) hn_)), Or.elim hk_ (fun hs_ => Or.elim hs_ (fun hs_ => hs_.1.2) (fun hs_ => ((IsS76.apartQ HI0.out (Kd.Q_apart' (HO113.out) (Kd.N_typed HO_5.out) (by decide)) (by decide)).1 k_ hs_.symm).2)) (fun hn_ => (IsS76.fresh z0f56 k_ hn_))⟩)) (keep_size (w := w) (g := g) (row := none) zcbec)); have _ := aM (IsS76.below z0f56 hb); have _ := aM (KeepBut.trans zcbec (KeepBut.of_below hb g none) (.inl rfl)); have _ := aM (below_step zc59d hb); clear HO_5 HO113 HI0 HK HB; rename_i HO_5 HO113 HO119 HI0 HK HB; (try clear hb); (try clear ho0)))
       go_roundg k1
       case measure => have := HK1.out; omega
       case rel => exact ⟨(t117), (wrap64 (x6_1 - 1)), (t115), (t116), z4458, H', ⟨zfb39⟩, ⟨by (with_reducible repeat (first | apply Kd.N_alloc | apply Kd.N_drewN | apply Kd.N_drew)); exact HO119.out⟩, ⟨z0f56⟩, ⟨zcbec⟩, ⟨zc59d⟩⟩
     · replace c8 := Bool.eq_false_iff.mpr c8
       subst c8
       rw [if_neg (show ¬ (false = true) by decide)] at H
       have H' := aM H
       clear H
       go_wp2_with (first | ((with_reducible refine gate_callee (f := 54) rfl ?_); refine gL 20 Try.func54 #[.pointer (some ⟨g, 0, none⟩)] ?_; (with_reducible refine (spec_l1Cur_entry.calls k1 g s0_0 x1001_1 x1002_1 t104 t105 t106 t107 t108 t109 t110 t111 t114 t115 t116 w0 _ ?side1 ?side2 A6.out).mono ?_); (case side1 => exact z0f56); (case side2 => exact zc59d); rintro e w13 ⟨v112, rfl, ho0, hi, hb, hk⟩; refine ⟨_, rfl, ?_⟩; have _ := aM (Kd.N_mono (Kd.N_told (Kd.N_oldK (Kd.N_mono (ok := fun k_ => (((w.heap.size ≤ k_)) ∧ k_ ≠ g)) z52d0 (fun k_ hk_ => (⟨hk_, hk_.2⟩ : _ ∧ k_ ≠ g))) hk) (Kd.Q_base ho0)) (fun _ h_ => h_.1)); have _ := aM (Kd.Q_lower (Kd.Q_newM (M := fun k_ => (w.heap.size ≤ k_)) ho0 (keep_size (w := w) (g := g) (row := none) zcbec) (fun k_ h_ => h_)) (keep_size (w := w) (g := g) (row := none) zcbec)); have _ := aM (KeepBut.trans zcbec hk (.inl rfl)); have _ := aM hb; have _ := aM hi; clear HO_5 HK HB HI0; rename_i HO_5 HO113 HK HB HI0; (try clear hb); (try clear hk); (try clear hi); (try clear ho0); obtain ⟨Ao14, co14, eo14⟩ := Kd.N_slice HO_5.out; subst eo14; obtain ⟨Ao15, co15, eo15, _⟩ := Kd.Q_slice HO113.out; subst eo15) | ((with_reducible refine gate_callee (f := 20) rfl ?_); refine gL 21 Try.func20 #[.slice Ao14 x5_1.length co14, .agg #[.string t104, .int .i64 t105, .int .i64 t106, .int .i64 t107, .int .i64 t108, .int .i64 t109, .int .i64 t110, .slice Ao15 t111.length co15, .bool t114]] ?_; (with_reducible refine (spec_PutEntry.calls k1 (fun k_ => (((w.heap.size ≤ k_) ∧ k_ ≠ g) ∧ some k_ ≠ (.slice Ao15 t111.length co15 : Value).ownBlock)) _ _ x5_1 t104 t105 t106 t107 t108 t109 t110 (fun k_ => some k_ = (.slice Ao15 t111.length co15 : Value).ownBlock) _ _ t111 t114 t117 false _ ?side1 ?side2 A7.out).mono ?_); (case side1 => exact Kd.N_V (HO_5.out)); (case side2 => exact Kd.Q_V (Kd.Q_tight rfl (IsS76.apartQ HI0.out (Kd.Q_apart' (HO113.out) (Kd.N_typed HO_5.out) (by decide)) (by decide)))); rintro e w16 ⟨v118, rfl, ho0, hb⟩; refine ⟨_, rfl, ?_⟩; have _ := aM (Kd.N_elder' z52d0 (Kd.N_base ho0) hb); have _ := aM (Kd.Q_below (kZ HO113.out) hb); have _ := aM (Kd.N_lower (Kd.N_mono (ok' := fun k_ => (w.heap.size ≤ k_) ∧ k_ ≠ g) ho0 (fun k_ hk_ => ⟨Or.elim hk_ (fun hs_ => Or.elim hs_ (fun hs_ => hs_.1.1) (fun hs_ => ((IsS76.apartQ HI0.out (Kd.Q_apart' (HO113.out) (Kd.N_typed HO_5.out) (by decide)) (by decide)).1 k_ hs_.symm).1.1.1)) (fun hn_ => (Nat.le_trans (keep_size (w := w) (g := g) (row := none) zcbec) hn_)), Or.elim hk_ (fun hs_ => Or.elim hs_ (fun hs_ => hs_.1.2) (fun hs_ => ((IsS76.apartQ HI0.out (Kd.Q_apart' (HO113.out) (Kd.N_typed HO_5.out) (by decide)) (by decide)).1 k_ hs_.symm).2)) (fun hn_ => (IsS76.fresh z0f56 k_ hn_))⟩)) (keep_size (w := w) (g := g) (row := none) zcbec)); have _ := aM (IsS76.below z0f56 hb); have _ := aM (KeepBut.trans zcbec (KeepBut.of_below hb g none) (.inl rfl)); have _ := aM (below_step zc59d hb); clear HO_5 HO113 HI0 HK HB; rename_i HO_5 HO113 HO119 HI0 HK HB; (try clear hb); (try clear ho0)))
       go_roundg k1
       case measure => have := HK1.out; omega
       case rel => exact ⟨(x5_1), (wrap64 (x6_1 - 1)), (t115), (t116), z4458, H', ⟨zfb39⟩, ⟨by (with_reducible repeat (first | apply Kd.N_alloc | apply Kd.N_drewN | apply Kd.N_drew)); exact Kd.N_mono HO_5.out (fun _ hk => ⟨hk.1.1.1, hk.1.1.2⟩)⟩, ⟨z0f56⟩, ⟨zcbec⟩, ⟨zc59d⟩⟩
   · rw [if_neg c5] at H
     have c5b0 := nL c5
     clear c5
     obtain ⟨⟨t121, t122, t123⟩, A17, H⟩ := bS H; try dsimp only at H
     by_cases c18 : t121 = true
     · subst c18
       rw [if_pos rfl] at H
       obtain ⟨⟨t124, t125, t126, t127, t128, t129, t130, t131, t134, t135, t136⟩, A19, H⟩ := bS H; try dsimp only at H
       obtain ⟨LMc20, H⟩ := sM H
       obtain ⟨y137, hy137⟩ : ∃ y_ : List (S45), y_ = (x5_1 ++ [(⟨t124, t125, t126, (⟨t127, t128, t129, t130, t131, t134⟩ : S26)⟩ : S45)]) := ⟨_, rfl⟩
       first | (replace H := bindS H; rw [← hy137] at H; try dsimp only at H) | rw [← hy137] at H
       have Ny137 := aM hy137
       clear hy137
       simp only [Option.some.injEq, Prod.mk.injEq] at H
       obtain ⟨rfl, rfl, rfl⟩ := H
       go_wp2_with (first | ((with_reducible refine gate_callee (f := 52) rfl ?_); refine gL 27 Try.func52 #[.pointer (some ⟨g, 0, none⟩), .int .i64 40] ?_; (with_reducible refine (spec_l1Cur_one.calls g s0_0 x1001_1 x1002_1 40 true t122 t123 w0 _ ?side1 ?side2 A17.out).mono ?_); (case side1 => exact z0f56); (case side2 => exact zc59d); rintro e w21 ⟨rfl, hi, hb, hk⟩; refine ⟨_, rfl, ?_⟩; have _ := aM (Kd.N_mono (Kd.N_keep (Kd.N_mono (ok := fun k_ => (((w.heap.size ≤ k_)) ∧ k_ ≠ g)) z52d0 (fun k_ hk_ => (⟨hk_, hk_.2⟩ : _ ∧ k_ ≠ g))) hk (fun _ h => h.2)) (fun _ h => h.1)); have _ := aM (KeepBut.trans zcbec hk (.inl rfl)); have _ := aM hb; have _ := aM hi; clear HO_5 HK HB HI0; rename_i HO_5 HK HB HI0; (try clear hb); (try clear hk); (try clear hi)) | ((with_reducible refine gate_callee (f := 54) rfl ?_); refine gL 30 Try.func54 #[.pointer (some ⟨g, 0, none⟩)] ?_; (with_reducible refine (spec_l1Cur_entry.calls k1 g s0_0 t122 t123 t124 t125 t126 t127 t128 t129 t130 t131 t134 t135 t136 w0 _ ?side1 ?side2 A19.out).mono ?_); (case side1 => exact z0f56); (case side2 => exact zc59d); rintro e w22 ⟨v132, rfl, ho0, hi, hb, hk⟩; refine ⟨_, rfl, ?_⟩; have _ := aM (Kd.N_mono (Kd.N_told (Kd.N_oldK (Kd.N_mono (ok := fun k_ => (((w.heap.size ≤ k_)) ∧ k_ ≠ g)) z52d0 (fun k_ hk_ => (⟨hk_, hk_.2⟩ : _ ∧ k_ ≠ g))) hk) (Kd.Q_base ho0)) (fun _ h_ => h_.1)); have _ := aM (Kd.Q_lower (Kd.Q_newM (M := fun k_ => (w.heap.size ≤ k_)) ho0 (keep_size (w := w) (g := g) (row := none) zcbec) (fun k_ h_ => h_)) (keep_size (w := w) (g := g) (row := none) zcbec)); have _ := aM (KeepBut.trans zcbec hk (.inl rfl)); have _ := aM hb; have _ := aM hi; clear HO_5 HK HB HI0; rename_i HO_5 HO133 HK HB HI0; (try clear hb); (try clear hk); (try clear hi); (try clear ho0); obtain ⟨Ao24, co24, eo24, _⟩ := Kd.Q_slice HO133.out; subst eo24) | ((with_reducible refine gate_builtin (b := .append) (xs := #[.tmp 28, .tmp 31]) rfl ?_); at_builtin; refine Kd.N_append k45 w.heap.size rfl (.tmp 28) (.tmp 31) 29 45 (.agg #[(.string ⟨#[]⟩), (.int .i64 0), (.int .i64 0), (.int .i64 0), (.int .i64 0), (.int .i64 0), (.int .i64 0), (.slice none 0 0), (.bool false)]) 96 rfl Try.underlying29 info45 rfl (by decide) (by omega) u5 x5_1 (⟨t124, t125, t126, (⟨t127, t128, t129, t130, t131, t134⟩ : S26)⟩ : S45) [.string t124, .int .i64 t125, .int .i64 t126, .int .i64 t127, .int .i64 t128, .int .i64 t129, .int .i64 t130, .slice Ao24 t131.length co24, .bool t134] (fun k_ => (w.heap.size ≤ k_) ∧ k_ ≠ g) (fun k_ => ((fun k_ => (w.heap.size ≤ k_) ∧ k_ ≠ g)) k_ ∧ some k_ ≠ (u5 : Value).ownBlock) rfl rfl ?aP (fun _ hk => hk) ?aF ?aO (Below.refl _ _) ?aS ?aL ?_; (case aP => exact (k45_mkF _ _ (⟨t124, t125, t126, (⟨t127, t128, t129, t130, t131, t134⟩ : S26)⟩ : S45) (Kd.Q_reads' (Kd.Q_mono (ok' := (fun k_ => ((fun k_ => (w.heap.size ≤ k_) ∧ k_ ≠ g)) k_ ∧ some k_ ≠ (u5 : Value).ownBlock)) (IsS76.apartQ HI0.out (Kd.Q_apart' (HO133.out) (Kd.N_typed HO_5.out) (by decide)) (by decide)) (fun k_ hk => ⟨⟨hk.1.1.1, hk.2⟩, hk.1.2⟩))).2.1 (Kd.Q_F (Kd.Q_mono (ok' := (fun k_ => ((fun k_ => (w.heap.size ≤ k_) ∧ k_ ≠ g)) k_ ∧ some k_ ≠ (u5 : Value).ownBlock)) (IsS76.apartQ HI0.out (Kd.Q_apart' (HO133.out) (Kd.N_typed HO_5.out) (by decide)) (by decide)) (fun k_ hk => ⟨⟨hk.1.1.1, hk.2⟩, hk.1.2⟩))))); (case aF => exact (fun k_ hk => ⟨(Nat.le_trans (keep_size (w := w) (g := g) (row := none) zcbec) hk), IsS76.fresh z0f56 k_ hk⟩)); (case aO => exact (by (with_reducible repeat (first | apply Kd.N_alloc | apply Kd.N_drewN | apply Kd.N_drew)); exact Kd.N_mono HO_5.out (fun _ hk => ⟨hk.1.1, hk.1.2⟩))); (case aS => exact (keep_size (w := w) (g := g) (row := none) zcbec)); (case aL => have := LMc20.out; omega); intro v138 w23 ho hb hg hat; rw [← Ny137.out] at ho; have _ := aM (IsS76.grown z0f56 hg (IsS76.own_neN HI0.out HO_5.out (by decide))); have _ := aM (below_weaken zc59d HL.out hb); have _ := aM (KeepBut.trans zcbec (KeepBut.of_grown hg g) (Kd.N_base2 HO_5.out)); have _ := aM ho; clear HI0 HB HK HO_5 HO133; rename_i HI0 HB HK HO139; clear ho hb hg hat))
       go_ret
       exact ⟨_, z674d, by (with_reducible repeat (first | apply Kd.N_alloc | apply Kd.N_drewN | apply Kd.N_drew)); exact Kd.N_mono HO139.out (fun _ hk => hk.1), z0f56, zc59d, zcbec⟩
     · replace c18 := Bool.eq_false_iff.mpr c18
       subst c18
       rw [if_neg (show ¬ (false = true) by decide)] at H
       simp only [Option.some.injEq, Prod.mk.injEq] at H
       obtain ⟨rfl, rfl, rfl⟩ := H
       go_wp2_with (first | ((with_reducible refine gate_callee (f := 52) rfl ?_); refine gL 27 Try.func52 #[.pointer (some ⟨g, 0, none⟩), .int .i64 40] ?_; (with_reducible refine (spec_l1Cur_one.calls g s0_0 x1001_1 x1002_1 40 false t122 t123 w0 _ ?side1 ?side2 A17.out).mono ?_); (case side1 => exact z0f56); (case side2 => exact zc59d); rintro e w25 ⟨rfl, hi, hb, hk⟩; refine ⟨_, rfl, ?_⟩; have _ := aM (Kd.N_mono (Kd.N_keep (Kd.N_mono (ok := fun k_ => (((w.heap.size ≤ k_)) ∧ k_ ≠ g)) z52d0 (fun k_ hk_ => (⟨hk_, hk_.2⟩ : _ ∧ k_ ≠ g))) hk (fun _ h => h.2)) (fun _ h => h.1)); have _ := aM (KeepBut.trans zcbec hk (.inl rfl)); have _ := aM hb; have _ := aM hi; clear HO_5 HK HB HI0; rename_i HO_5 HK HB HI0; (try clear hb); (try clear hk); (try clear hi)))
       go_ret
       exact ⟨_, z674d, by (with_reducible repeat (first | apply Kd.N_alloc | apply Kd.N_drewN | apply Kd.N_drew)); exact Kd.N_mono HO_5.out (fun _ hk => hk.1), z0f56, zc59d, zcbec⟩
def spec_DrawPutEntry.l0 : Nat → List (S45) → Int → List Int → Int → Int → Option ((List (S45)) × ByteArray × Int × Int × Int × Int × Int × Int × List Int × Bool)
 | 0, _, _, _, _, _ => none
 | k + 1, x5, x6, x103000, x103001, x103002 => (spec_l1Cur_pick.f x103000 x103001 x103002 2).bind fun bt111 => (if x6 < (wrap64 (60 - bt111.1)) then ((some (([(wrap64 (97 + (wrap64 (Int.tdiv x6 10)))) % 256, (wrap64 (48 + (Int.tmod x6 10))) % 256] : List Int) : List Int)).bind fun y114 => (if 1 + (strOfNums y114).size ≤ 9223372036854775807 then (if x5.length < 1466015503701 then (spec_DrawPutEntry.l0 k (x5 ++ [(⟨(⟨#[107]⟩ : ByteArray) ++ (strOfNums y114), wrap64 (100 + x6), 2, (⟨0, 0, 0, 0, ([] : List Int), false⟩ : S26)⟩ : S45)]) (wrap64 (x6 + 1)) x103000 bt111.2.1 bt111.2.2) else (none)) else (none))) else ((spec_l1Cur_entry.f k x103000 bt111.2.1 bt111.2.2).bind fun bt120 => (some (x5, bt120.1, bt120.2.1, bt120.2.2.1, bt120.2.2.2.1, bt120.2.2.2.2.1, bt120.2.2.2.2.2.1, bt120.2.2.2.2.2.2.1, bt120.2.2.2.2.2.2.2.1, bt120.2.2.2.2.2.2.2.2.1))))
def spec_DrawPutEntry.f (k : Nat) (l0 : List Int) : Option ((List (S45)) × ByteArray × Int × Int × Int × Int × Int × Int × List Int × Bool) := (spec_l1Cur_entries.f k l0 0 0 9).bind fun bt103 => ((spec_l1Cur_one.f l0 bt103.2.1 bt103.2.2 30).bind fun bt108 => (if bt108.1 = true then (spec_DrawPutEntry.l0 k ([] : List (S45)) 0 l0 bt108.2.1 bt108.2.2) else ((spec_l1Cur_entry.f k l0 bt108.2.1 bt108.2.2).bind fun bt133 => (some (bt103.1, bt133.1, bt133.2.1, bt133.2.2.1, bt133.2.2.2.1, bt133.2.2.2.2.1, bt133.2.2.2.2.2.1, bt133.2.2.2.2.2.2.1, bt133.2.2.2.2.2.2.2.1, bt133.2.2.2.2.2.2.2.2.1)))))
theorem spec_DrawPutEntry.mono_l : ∀ k, (∀ y0 y1 y2 y3 y4, LeO (spec_DrawPutEntry.l0 k y0 y1 y2 y3 y4) (spec_DrawPutEntry.l0 (k + 1) y0 y1 y2 y3 y4))
 | 0 => fun _ _ _ _ _ r h => by simp [spec_DrawPutEntry.l0] at h
 | k + 1 => by
  have ih0 := spec_DrawPutEntry.mono_l k; have m0 := @spec_l1Cur_entries.mono; have m1 := @spec_l1Cur_entry.mono
  · intro y0 y1 y2 y3 y4
    unfold spec_DrawPutEntry.l0
    exact moZ
theorem spec_DrawPutEntry.mono : ∀ a0 k, LeO (spec_DrawPutEntry.f k a0) (spec_DrawPutEntry.f (k + 1) a0) := by
 intro a0 k
 have ih0 := spec_DrawPutEntry.mono_l k
 have m0 := @spec_l1Cur_entries.mono; have m1 := @spec_l1Cur_entry.mono
 unfold spec_DrawPutEntry.f
 exact moZ
theorem spec_DrawPutEntry.calls (k : Nat) (A0 : Option Addr) (c0 : Nat) (l0 : List Int) (r1 : List (S45)) (r2 : ByteArray) (r3 : Int) (r4 : Int) (r5 : Int) (r6 : Int) (r7 : Int) (r8 : Int) (r9 : List Int) (r10 : Bool) (w : World) (hr0 : Kd.C (Kd.int .u8) w A0 l0.length l0) (hc0 : l0.length ≤ c0) (h : spec_DrawPutEntry.f k l0 = some (r1, r2, r3, r4, r5, r6, r7, r8, r9, r10)) :
 Calls Try.prog 25 #[.slice A0 l0.length c0] w fun e w' => ∃ v0_ v8_ : Value, e = .returned (.tuple #[v0_, .agg #[.string r2, .int .i64 r3, .int .i64 r4, .int .i64 r5, .int .i64 r6, .int .i64 r7, .int .i64 r8, v8_, .bool r10]]) ∧ Kd.N k45 45 w' w.heap.size (fun k_ => (w.heap.size ≤ k_) ∧ some k_ ≠ (v8_ : Value).ownBlock) v0_ r1 ∧ Kd.Q (Kd.int .i64) 3 w' w.heap.size (fun k_ => (w.heap.size ≤ k_)) v8_ r9 ∧ Below w.heap.size w w' := by
 have hu45 := Try.underlying45
 have hu76 := Try.underlying76
 have HR0 := aM hr0
 have HC0 := aM hc0
 clear hr0 hc0
 have HB := aM (Below.refl w.heap.size w)
 have H : ((spec_l1Cur_entries.f k l0 0 0 9).bind fun bt103 => ((spec_l1Cur_one.f l0 bt103.2.1 bt103.2.2 30).bind fun bt108 => (if bt108.1 = true then (spec_DrawPutEntry.l0 k ([] : List (S45)) 0 l0 bt108.2.1 bt108.2.2) else ((spec_l1Cur_entry.f k l0 bt108.2.1 bt108.2.2).bind fun bt133 => (some (bt103.1, bt133.1, bt133.2.1, bt133.2.2.1, bt133.2.2.2.1, bt133.2.2.2.2.1, bt133.2.2.2.2.2.1, bt133.2.2.2.2.2.2.1, bt133.2.2.2.2.2.2.2.1, bt133.2.2.2.2.2.2.2.2.1)))))) = some (r1, r2, r3, r4, r5, r6, r7, r8, r9, r10) := h
 clear h
 obtain ⟨⟨t103, t106, t107⟩, A2, H⟩ := bS H; try dsimp only at H
 obtain ⟨⟨t108, t109, t110⟩, A3, H⟩ := bS H; try dsimp only at H
 by_cases c4 : t108 = true
 · subst c4
   rw [if_pos rfl] at H
   have H' := aM H
   clear H
   go_enter Try.func25, Try.ntmps25
   go_wp2_with (first | ((with_reducible refine gate_dst (N := 3) rfl ?_); refine bX 3 45 #[.string (⟨#[]⟩ : ByteArray), .int .i64 0, .int .i64 0, .int .i64 0, .int .i64 0, .int .i64 0, .int .i64 0, .slice none 0 0, .bool false] ?_; intro gb101 hg w5 hbox hb; have _ := aM (below_step hbZ hb); have _ := aM hbox; have _ := szZ hg; have _ := szZ hg; clear HB; rename_i HB BK101 GW101 GE101; clear hb hbox hg) | ((with_reducible refine gate_dst (N := 9) rfl ?_); refine bX 9 76 #[.slice A0 l0.length c0, .int .i64 0, .int .u64 0] ?_; intro gb102 hg w6 hbox hb; have _ := bB gb101 hb; have _ := aM (below_step hbZ hb); have _ := szZ hg; have _ := szZ hg; have ⟨_, _⟩ := nbB gb101 hg; have _ := aM ((show IsS76 w w6 gb102 l0 0 0 from ⟨_, _, hbox, (by rw [hg]; exact (below_size hbZ) : w.heap.size ≤ gb102), HR0.out⟩)); clear BK101 HB; rename_i BK101 HB GW102 GE102 NB101_102 NB102_101 HI102; clear hb hbox hg) | ((with_reducible refine gate_callee (f := 51) rfl ?_); refine gL 11 Try.func51 #[.pointer (some ⟨gb102, 0, none⟩), .int .i64 9] ?_; (with_reducible refine (spec_l1Cur_entries.calls k gb102 l0 0 0 9 t103 t106 t107 w _ ?side1 ?side2 A2.out).mono ?_); (case side1 => exact za61f); (case side2 => exact za8af); rintro e w7 ⟨v104, rfl, ho0, hi, hb, hk⟩; refine ⟨_, rfl, ?_⟩; have _ := aM (KeepBut.blk hk (g' := gb101) bkZ NB101_102.out (by simp)); have _ := aM (Kd.N_lower (Kd.N_mono (ok' := fun k_ => (w.heap.size ≤ k_) ∧ k_ ≠ gb101 ∧ k_ ≠ gb102) ho0 (fun k_ hk_ => ⟨(Nat.le_trans (below_size za8af) hk_), (Kd.freshB (g := gb101) bkZ k_ hk_), (IsS76.fresh za61f k_ hk_)⟩)) (below_size za8af)); have _ := aM hb; have _ := aM hi; clear BK101 HB HI102; rename_i BK101 HO105 HB HI102; (try clear hb); (try clear hk); (try clear hi); (try clear ho0)) | ((with_reducible refine gate_callee (f := 52) rfl ?_); refine gL 13 Try.func52 #[.pointer (some ⟨gb102, 0, none⟩), .int .i64 30] ?_; (with_reducible refine (spec_l1Cur_one.calls gb102 l0 t106 t107 30 true t109 t110 w _ ?side1 ?side2 A3.out).mono ?_); (case side1 => exact za61f); (case side2 => exact za8af); rintro e w8 ⟨rfl, hi, hb, hk⟩; refine ⟨_, rfl, ?_⟩; have _ := aM (KeepBut.blk hk (g' := gb101) bkZ NB101_102.out (by simp)); have _ := aM (Kd.N_mono (Kd.N_keep (Kd.N_mono (ok := fun k_ => (((w.heap.size ≤ k_)) ∧ (k_ ≠ gb101 ∧ k_ ≠ gb102))) (by (with_reducible repeat (first | apply Kd.N_alloc | apply Kd.N_drewN | apply Kd.N_drew)); exact HO105.out) (fun k_ hk_ => (⟨hk_, hk_.2.2⟩ : _ ∧ k_ ≠ gb102))) hk (fun _ h => h.2)) (fun _ h => h.1)); have _ := aM hb; have _ := aM hi; clear BK101 HO105 HB HI102; rename_i BK101 HO105 HB HI102; (try clear hb); (try clear hk); (try clear hi)))
   go_loopg [5, 6] k (fun kq v5 v6 w' => ∃ (x5_1 : List (S45)) (x6_1 : Int) (x103001_1 : Int) (x103002_1 : Int), v6 = .int .i64 x6_1 ∧ Aside0 (spec_DrawPutEntry.l0 kq x5_1 x6_1 l0 x103001_1 x103002_1 = some (r1, r2, r3, r4, r5, r6, r7, r8, r9, r10)) ∧ Aside0 (kq ≤ k) ∧ Aside0 (Kd.N k45 45 w' w.heap.size (fun k_ => (w.heap.size ≤ k_) ∧ k_ ≠ gb101 ∧ k_ ≠ gb102) v5 x5_1) ∧ Aside0 (w'.heap[gb101]? = some (.cells #[.string (⟨#[]⟩ : ByteArray), .int .i64 0, .int .i64 0, .int .i64 0, .int .i64 0, .int .i64 0, .int .i64 0, (.slice none 0 0), .bool false] 45 (0, 0))) ∧ Aside0 (IsS76 w w' gb102 l0 x103001_1 x103002_1) ∧ Aside0 (Below w.heap.size w w'))
   case atStart => exact ⟨(([] : List (S45))), (0), (t109), (t110), z4458, H', ⟨Nat.le_refl _⟩, ⟨z2bfb⟩, ⟨bkZ⟩, ⟨za61f⟩, ⟨za8af⟩⟩
   case round =>
    clear H'
    (try clear c4)
    obtain ⟨x5_1, x6_1, x103001_1, x103002_1, rfl, HA, HK1, HO_5, BK101, HI102, HB⟩ := hrel
    cases gk with
    | zero => exact absurd HA.out (by simp [spec_DrawPutEntry.l0])
    | succ k1 =>
     have H := HA.out
     clear HA
     simp only [spec_DrawPutEntry.l0] at H
     obtain ⟨⟨t111, t112, t113⟩, A9, H⟩ := bS H; try dsimp only at H
     by_cases c10 : x6_1 < (wrap64 (60 - t111))
     · rw [if_pos c10] at H
       have c10b0 := dL c10
       clear c10
       obtain ⟨y114, hy114⟩ : ∃ y_ : List Int, y_ = (([(wrap64 (97 + (wrap64 (Int.tdiv x6_1 10)))) % 256, (wrap64 (48 + (Int.tmod x6_1 10))) % 256] : List Int)) := ⟨_, rfl⟩
       first | (replace H := bindS H; rw [← hy114] at H; try dsimp only at H) | rw [← hy114] at H
       have Ny114 := aM hy114
       clear hy114
       replace H := ifS H; obtain ⟨c11, H⟩ := H
       have c11b0 := eq_true c11
       have c11b1 : decide (1 + (strOfNums y114).size ≤ 9223372036854775807) = true := decide_eq_true c11
       try have c11b2 : (9223372036854775807 < 1 + (strOfNums y114).size) = False := eq_false (Nat.not_lt.2 c11)
       obtain ⟨LMc12, H⟩ := sM H
       obtain ⟨y117, hy117⟩ : ∃ y_ : List (S45), y_ = (x5_1 ++ [(⟨(⟨#[107]⟩ : ByteArray) ++ (strOfNums y114), wrap64 (100 + x6_1), 2, (⟨0, 0, 0, 0, ([] : List Int), false⟩ : S26)⟩ : S45)]) := ⟨_, rfl⟩
       first | (replace H := bindS H; rw [← hy117] at H; try dsimp only at H) | rw [← hy117] at H
       have Ny117 := aM hy117
       clear hy117
       have H' := aM H
       clear H
       go_wp2_with (first | ((with_reducible refine gate_callee (f := 53) rfl ?_); refine gL 16 Try.func53 #[.pointer (some ⟨gb102, 0, none⟩), .int .i64 2] ?_; (with_reducible refine (spec_l1Cur_pick.calls gb102 l0 x103001_1 x103002_1 2 t111 t112 t113 w _ ?side1 ?side2 A9.out).mono ?_); (case side1 => exact za61f); (case side2 => exact za8af); rintro e w13 ⟨rfl, hi, hb, hk⟩; refine ⟨_, rfl, ?_⟩; have _ := aM (Kd.N_mono (Kd.N_keep (Kd.N_mono (ok := fun k_ => (((w.heap.size ≤ k_)) ∧ (k_ ≠ gb101 ∧ k_ ≠ gb102))) z52d0 (fun k_ hk_ => (⟨hk_, hk_.2.2⟩ : _ ∧ k_ ≠ gb102))) hk (fun _ h => h.2)) (fun _ h => h.1)); have _ := aM (KeepBut.blk hk (g' := gb101) bkZ NB101_102.out (by simp)); have _ := aM hb; have _ := aM hi; clear HO_5 BK101 HB HI102; rename_i HO_5 BK101 HB HI102; (try clear hb); (try clear hk); (try clear hi)) | ((with_reducible refine gate_dst (N := 30) rfl ?_); refine Kd.R_lit (Kd.int .u8) _ 5 ?hg (N := 30) ?hd (xs := ([(wrap64 (97 + (wrap64 (Int.tdiv x6_1 10)))) % 256, (wrap64 (48 + (Int.tmod x6_1 10))) % 256] : List Int)) (inner := [.int .u8 ((wrap64 (97 + (wrap64 (Int.tdiv x6_1 10)))) % 256), .int .u8 ((wrap64 (48 + (Int.tmod x6_1 10))) % 256)]) (ok := fun _ => True) (okp := fun _ => True) ?hr ?hp (fun _ hk => hk) trivial (Below.refl _ _) (Nat.le_refl _) (by simp) ?_; (case hd => rfl); (case hg => rfl); (case hr => first | (go_simp; done) | (go_simp; rfl)); (case hp => exact (Reps.one (show Kd.M (Kd.int .u8) _ _ _ ((wrap64 (97 + (wrap64 (Int.tdiv x6_1 10)))) % 256) [.int .u8 ((wrap64 (97 + (wrap64 (Int.tdiv x6_1 10)))) % 256)] from rfl) (Reps.one (show Kd.M (Kd.int .u8) _ _ _ ((wrap64 (48 + (Int.tmod x6_1 10))) % 256) [.int .u8 ((wrap64 (48 + (Int.tmod x6_1 10))) % 256)] from rfl) (Reps.none _ _)))); intro v115 w14 ho15 hb hg_ hnew_; clear hg_ hnew_; (first | rw [← Ny114.out] at ho15 | (simp only [Int.reduceToNat] at ho15; rw [← Ny114.out] at ho15)); have _ := aM (Kd.N_elder' z52d0 (Kd.R_base ho15) hb); have _ := aM (Kd.R_lower (Kd.R_newM (M := fun k_ => (w.heap.size ≤ k_)) ho15 (below_size za8af) (fun k_ h_ => h_)) (below_size za8af)); have _ := bB gb101 hb; have _ := aM (IsS76.below za61f hb); have _ := aM (below_step za8af hb); clear HO_5 BK101 HI102 HB; rename_i HO_5 HO116 BK101 HI102 HB; clear hb ho15; have hcv16 := own_string (P := Try.prog) Try.underlying50 Try.underlying5 Try.underlying9 (Kd.own_of_R HO116.out)) | ((with_reducible refine gate_builtin (b := .append) (xs := #[.tmp 21, .tmp 36]) rfl ?_); at_builtin; refine Kd.N_append k45 (w0 := w) w.heap.size rfl (.tmp 21) (.tmp 36) 29 45 (.agg #[(.string ⟨#[]⟩), (.int .i64 0), (.int .i64 0), (.int .i64 0), (.int .i64 0), (.int .i64 0), (.int .i64 0), (.slice none 0 0), (.bool false)]) 96 rfl Try.underlying29 info45 rfl (by decide) (by omega) u5 x5_1 (⟨(⟨#[107]⟩ : ByteArray) ++ (strOfNums y114), wrap64 (100 + x6_1), 2, (⟨0, 0, 0, 0, ([] : List Int), false⟩ : S26)⟩ : S45) [.string ((⟨#[107]⟩ : ByteArray) ++ (strOfNums y114)), .int .i64 (wrap64 (100 + x6_1)), .int .i64 2, .int .i64 0, .int .i64 0, .int .i64 0, .int .i64 0, .slice none 0 0, .bool false] (fun k_ => (w.heap.size ≤ k_) ∧ some k_ ≠ (v115 : Value).ownBlock ∧ k_ ≠ gb101 ∧ k_ ≠ gb102) (fun k_ => ((fun k_ => (w.heap.size ≤ k_) ∧ some k_ ≠ (v115 : Value).ownBlock ∧ k_ ≠ gb101 ∧ k_ ≠ gb102)) k_ ∧ some k_ ≠ (u5 : Value).ownBlock) rfl rfl ?aP (fun _ hk => hk) ?aF ?aO ?aB ?aS ?aL ?_; (case aP => exact (k45_mkF _ _ (⟨(⟨#[107]⟩ : ByteArray) ++ (strOfNums y114), wrap64 (100 + x6_1), 2, (⟨0, 0, 0, 0, ([] : List Int), false⟩ : S26)⟩ : S45) (Nat.le_refl _) (Kd.F_nil _ _ _))); (case aB => exact za8af); (case aF => exact (fun k_ hk => ⟨(Nat.le_trans (below_size za8af) hk), Kd.fresh' (Kd.R_lt (rZ HO116.out)) k_ hk, Kd.freshB (g := gb101) bkZ k_ hk, IsS76.fresh za61f k_ hk⟩)); (case aO => exact (by (with_reducible repeat (first | apply Kd.N_alloc | apply Kd.N_drewN | apply Kd.N_drew)); exact Kd.N_mono HO_5.out (fun _ hk => ⟨hk.1.1, ⟨hk.2, ⟨hk.1.2.1, hk.1.2.2⟩⟩⟩))); (case aS => exact (below_size za8af)); (case aL => have := LMc12.out; omega); intro v118 w17 ho hb hg hat; rw [← Ny117.out] at ho; have _ := aM (blk_grown (g := gb101) bkZ hg (Kd.N_away HO_5.out (fun _ hk => hk.1.2.1))); have _ := aM (IsS76.grown za61f hg (IsS76.own_neN HI102.out HO_5.out (by decide))); have _ := aM (Kd.R_over' (rZ HO116.out) (Kd.N_typed z52d0) (by decide) hg); have _ := aM hb; have _ := aM ho; clear BK101 HI102 HO116 HB HO_5; rename_i BK101 HI102 HO116 HB HO119; clear ho hb hg hat))
       go_roundg k1
       case measure => have := HK1.out; omega
       case rel => exact ⟨(y117), (wrap64 (x6_1 + 1)), (t112), (t113), z4458, H', ⟨zfb39⟩, ⟨by (with_reducible repeat (first | apply Kd.N_alloc | apply Kd.N_drewN | apply Kd.N_drew)); exact Kd.N_mono HO119.out (fun _ hk => ⟨hk.1, ⟨hk.2.2.1, hk.2.2.2⟩⟩)⟩, ⟨bkZ⟩, ⟨za61f⟩, ⟨za8af⟩⟩
     · rw [if_neg c10] at H
       have c10b0 := nL c10
       clear c10
       obtain ⟨⟨t120, t121, t122, t123, t124, t125, t126, t127, t130, t131, t132⟩, A18, H⟩ := bS H; try dsimp only at H
       simp only [Option.some.injEq, Prod.mk.injEq] at H
       obtain ⟨rfl, rfl, rfl, rfl, rfl, rfl, rfl, rfl, rfl, rfl⟩ := H
       go_wp2_with (first | ((with_reducible refine gate_callee (f := 53) rfl ?_); refine gL 16 Try.func53 #[.pointer (some ⟨gb102, 0, none⟩), .int .i64 2] ?_; (with_reducible refine (spec_l1Cur_pick.calls gb102 l0 x103001_1 x103002_1 2 t111 t112 t113 w _ ?side1 ?side2 A9.out).mono ?_); (case side1 => exact za61f); (case side2 => exact za8af); rintro e w19 ⟨rfl, hi, hb, hk⟩; refine ⟨_, rfl, ?_⟩; have _ := aM (Kd.N_mono (Kd.N_keep (Kd.N_mono (ok := fun k_ => (((w.heap.size ≤ k_)) ∧ (k_ ≠ gb101 ∧ k_ ≠ gb102))) z52d0 (fun k_ hk_ => (⟨hk_, hk_.2.2⟩ : _ ∧ k_ ≠ gb102))) hk (fun _ h => h.2)) (fun _ h => h.1)); have _ := aM (KeepBut.blk hk (g' := gb101) bkZ NB101_102.out (by simp)); have _ := aM hb; have _ := aM hi; clear HO_5 BK101 HB HI102; rename_i HO_5 BK101 HB HI102; (try clear hb); (try clear hk); (try clear hi)) | ((with_reducible refine gate_callee (f := 54) rfl ?_); refine gL 40 Try.func54 #[.pointer (some ⟨gb102, 0, none⟩)] ?_; (with_reducible refine (spec_l1Cur_entry.calls k1 gb102 l0 t112 t113 t120 t121 t122 t123 t124 t125 t126 t127 t130 t131 t132 w _ ?side1 ?side2 A18.out).mono ?_); (case side1 => exact za61f); (case side2 => exact za8af); rintro e w20 ⟨v128, rfl, ho0, hi, hb, hk⟩; refine ⟨_, rfl, ?_⟩; have _ := aM (Kd.N_mono (Kd.N_told (Kd.N_oldK (Kd.N_mono (ok := fun k_ => (((w.heap.size ≤ k_)) ∧ (k_ ≠ gb101 ∧ k_ ≠ gb102))) z52d0 (fun k_ hk_ => (⟨hk_, hk_.2.2⟩ : _ ∧ k_ ≠ gb102))) hk) (Kd.Q_base ho0)) (fun _ h_ => h_.1)); have _ := aM (KeepBut.blk hk (g' := gb101) bkZ NB101_102.out (by simp)); have _ := aM (Kd.Q_lower (Kd.Q_newM (M := fun k_ => (w.heap.size ≤ k_)) ho0 (below_size za8af) (fun k_ h_ => h_)) (below_size za8af)); have _ := aM hb; have _ := aM hi; clear HO_5 BK101 HB HI102; rename_i HO_5 BK101 HO129 HB HI102; (try clear hb); (try clear hk); (try clear hi); (try clear ho0); have hnb21 := NB101_102.out; have hnc21 := NB102_101.out; have hz22 := cellsZ9 BK101.out; obtain ⟨Ao23, co23, eo23, _⟩ := Kd.Q_slice HO129.out; subst eo23))
       refine bodyPost_ret (results_tc rfl _ _ gb101 45 #[.string t120, .int .i64 t121, .int .i64 t122, .int .i64 t123, .int .i64 t124, .int .i64 t125, .int .i64 t126, .slice Ao23 t127.length co23, .bool t130] (0, 0) _ rfl bkZ Try.underlying45 rfl (by kernel_rfl)) rfl ?_
       exact ⟨_, _, z674d, by (with_reducible repeat (first | apply Kd.N_alloc | apply Kd.N_drewN | apply Kd.N_drew)); exact Kd.N_mono (Kd.N_far (p := ⟨gb101, 8, none⟩) (Kd.N_far (p := ⟨gb101, 7, none⟩) (Kd.N_far (p := ⟨gb101, 6, none⟩) (Kd.N_far (p := ⟨gb101, 5, none⟩) (Kd.N_far (p := ⟨gb101, 4, none⟩) (Kd.N_far (p := ⟨gb101, 3, none⟩) (Kd.N_far (p := ⟨gb101, 2, none⟩) (Kd.N_far (p := ⟨gb101, 1, none⟩) (Kd.N_far (p := ⟨gb101, 0, none⟩) (Kd.N_mono HO_5.out (fun k_ hk => (⟨hk, hk.1.2.1⟩ : _ ∧ k_ ≠ gb101))) (fun _ hk => hk.2) (.string t120)) (fun _ hk => hk.2) (.int .i64 t121)) (fun _ hk => hk.2) (.int .i64 t122)) (fun _ hk => hk.2) (.int .i64 t123)) (fun _ hk => hk.2) (.int .i64 t124)) (fun _ hk => hk.2) (.int .i64 t125)) (fun _ hk => hk.2) (.int .i64 t126)) (fun _ hk => hk.2) (.slice Ao23 t127.length co23)) (fun _ hk => hk.2) (.bool t130)) (fun _ hk => ⟨hk.1.1.1, hk.1.2⟩), by (with_reducible repeat (first | apply Kd.Q_alloc | apply Kd.Q_drewN | apply Kd.Q_drew)); exact Kd.Q_mono (Kd.Q_far (p := ⟨gb101, 8, none⟩) (Kd.Q_far (p := ⟨gb101, 7, none⟩) (Kd.Q_far (p := ⟨gb101, 6, none⟩) (Kd.Q_far (p := ⟨gb101, 5, none⟩) (Kd.Q_far (p := ⟨gb101, 4, none⟩) (Kd.Q_far (p := ⟨gb101, 3, none⟩) (Kd.Q_far (p := ⟨gb101, 2, none⟩) (Kd.Q_far (p := ⟨gb101, 1, none⟩) (Kd.Q_far (p := ⟨gb101, 0, none⟩) (Kd.Q_types HO129.out BK101.out (by decide)) (fun _ hk => hk.2) (.string t120)) (fun _ hk => hk.2) (.int .i64 t121)) (fun _ hk => hk.2) (.int .i64 t122)) (fun _ hk => hk.2) (.int .i64 t123)) (fun _ hk => hk.2) (.int .i64 t124)) (fun _ hk => hk.2) (.int .i64 t125)) (fun _ hk => hk.2) (.int .i64 t126)) (fun _ hk => hk.2) (.slice Ao23 t127.length co23)) (fun _ hk => hk.2) (.bool t130)) (fun _ hk => hk.1.1), za8af⟩
 · replace c4 := Bool.eq_false_iff.mpr c4
   subst c4
   rw [if_neg (show ¬ (false = true) by decide)] at H
   obtain ⟨⟨t133, t134, t135, t136, t137, t138, t139, t140, t143, t144, t145⟩, A24, H⟩ := bS H; try dsimp only at H
   simp only [Option.some.injEq, Prod.mk.injEq] at H
   obtain ⟨rfl, rfl, rfl, rfl, rfl, rfl, rfl, rfl, rfl, rfl⟩ := H
   go_enter Try.func25, Try.ntmps25
   go_wp2_with (first | ((with_reducible refine gate_dst (N := 3) rfl ?_); refine bX 3 45 #[.string (⟨#[]⟩ : ByteArray), .int .i64 0, .int .i64 0, .int .i64 0, .int .i64 0, .int .i64 0, .int .i64 0, .slice none 0 0, .bool false] ?_; intro gb101 hg w25 hbox hb; have _ := aM (below_step hbZ hb); have _ := aM hbox; have _ := szZ hg; have _ := szZ hg; clear HB; rename_i HB BK101 GW101 GE101; clear hb hbox hg) | ((with_reducible refine gate_dst (N := 9) rfl ?_); refine bX 9 76 #[.slice A0 l0.length c0, .int .i64 0, .int .u64 0] ?_; intro gb102 hg w26 hbox hb; have _ := bB gb101 hb; have _ := aM (below_step hbZ hb); have _ := szZ hg; have _ := szZ hg; have ⟨_, _⟩ := nbB gb101 hg; have _ := aM ((show IsS76 w w26 gb102 l0 0 0 from ⟨_, _, hbox, (by rw [hg]; exact (below_size hbZ) : w.heap.size ≤ gb102), HR0.out⟩)); clear BK101 HB; rename_i BK101 HB GW102 GE102 NB101_102 NB102_101 HI102; clear hb hbox hg) | ((with_reducible refine gate_callee (f := 51) rfl ?_); refine gL 11 Try.func51 #[.pointer (some ⟨gb102, 0, none⟩), .int .i64 9] ?_; (with_reducible refine (spec_l1Cur_entries.calls k gb102 l0 0 0 9 t103 t106 t107 w _ ?side1 ?side2 A2.out).mono ?_); (case side1 => exact za61f); (case side2 => exact za8af); rintro e w27 ⟨v104, rfl, ho0, hi, hb, hk⟩; refine ⟨_, rfl, ?_⟩; have _ := aM (KeepBut.blk hk (g' := gb101) bkZ NB101_102.out (by simp)); have _ := aM (Kd.N_lower (Kd.N_mono (ok' := fun k_ => (w.heap.size ≤ k_) ∧ k_ ≠ gb101 ∧ k_ ≠ gb102) ho0 (fun k_ hk_ => ⟨(Nat.le_trans (below_size za8af) hk_), (Kd.freshB (g := gb101) bkZ k_ hk_), (IsS76.fresh za61f k_ hk_)⟩)) (below_size za8af)); have _ := aM hb; have _ := aM hi; clear BK101 HB HI102; rename_i BK101 HO105 HB HI102; (try clear hb); (try clear hk); (try clear hi); (try clear ho0)) | ((with_reducible refine gate_callee (f := 52) rfl ?_); refine gL 13 Try.func52 #[.pointer (some ⟨gb102, 0, none⟩), .int .i64 30] ?_; (with_reducible refine (spec_l1Cur_one.calls gb102 l0 t106 t107 30 false t109 t110 w _ ?side1 ?side2 A3.out).mono ?_); (case side1 => exact za61f); (case side2 => exact za8af); rintro e w28 ⟨rfl, hi, hb, hk⟩; refine ⟨_, rfl, ?_⟩; have _ := aM (KeepBut.blk hk (g' := gb101) bkZ NB101_102.out (by simp)); have _ := aM (Kd.N_mono (Kd.N_keep (Kd.N_mono (ok := fun k_ => (((w.heap.size ≤ k_)) ∧ (k_ ≠ gb101 ∧ k_ ≠ gb102))) (by (with_reducible repeat (first | apply Kd.N_alloc | apply Kd.N_drewN | apply Kd.N_drew)); exact HO105.out) (fun k_ hk_ => (⟨hk_, hk_.2.2⟩ : _ ∧ k_ ≠ gb102))) hk (fun _ h => h.2)) (fun _ h => h.1)); have _ := aM hb; have _ := aM hi; clear BK101 HO105 HB HI102; rename_i BK101 HO105 HB HI102; (try clear hb); (try clear hk); (try clear hi)) | ((with_reducible refine gate_callee (f := 54) rfl ?_); refine gL 40 Try.func54 #[.pointer (some ⟨gb102, 0, none⟩)] ?_; (with_reducible refine (spec_l1Cur_entry.calls k gb102 l0 t109 t110 t133 t134 t135 t136 t137 t138 t139 t140 t143 t144 t145 w _ ?side1 ?side2 A24.out).mono ?_); (case side1 => exact za61f); (case side2 => exact za8af); rintro e w29 ⟨v141, rfl, ho0, hi, hb, hk⟩; refine ⟨_, rfl, ?_⟩; have _ := aM (KeepBut.blk hk (g' := gb101) bkZ NB101_102.out (by simp)); have _ := aM (Kd.N_mono (Kd.N_told (Kd.N_oldK (Kd.N_mono (ok := fun k_ => (((w.heap.size ≤ k_)) ∧ (k_ ≠ gb101 ∧ k_ ≠ gb102))) (by (with_reducible repeat (first | apply Kd.N_alloc | apply Kd.N_drewN | apply Kd.N_drew)); exact HO105.out) (fun k_ hk_ => (⟨hk_, hk_.2.2⟩ : _ ∧ k_ ≠ gb102))) hk) (Kd.Q_base ho0)) (fun _ h_ => h_.1)); have _ := aM (Kd.Q_lower (Kd.Q_newM (M := fun k_ => (w.heap.size ≤ k_)) ho0 (below_size za8af) (fun k_ h_ => h_)) (below_size za8af)); have _ := aM hb; have _ := aM hi; clear BK101 HO105 HB HI102; rename_i BK101 HO105 HO142 HB HI102; (try clear hb); (try clear hk); (try clear hi); (try clear ho0); have hnb30 := NB101_102.out; have hnc30 := NB102_101.out; have hz31 := cellsZ9 BK101.out; obtain ⟨Ao32, co32, eo32, _⟩ := Kd.Q_slice HO142.out; subst eo32))
   refine bodyPost_ret (results_tc rfl _ _ gb101 45 #[.string t133, .int .i64 t134, .int .i64 t135, .int .i64 t136, .int .i64 t137, .int .i64 t138, .int .i64 t139, .slice Ao32 t140.length co32, .bool t143] (0, 0) _ rfl bkZ Try.underlying45 rfl (by kernel_rfl)) rfl ?_
   exact ⟨_, _, z674d, by (with_reducible repeat (first | apply Kd.N_alloc | apply Kd.N_drewN | apply Kd.N_drew)); exact Kd.N_mono (Kd.N_far (p := ⟨gb101, 8, none⟩) (Kd.N_far (p := ⟨gb101, 7, none⟩) (Kd.N_far (p := ⟨gb101, 6, none⟩) (Kd.N_far (p := ⟨gb101, 5, none⟩) (Kd.N_far (p := ⟨gb101, 4, none⟩) (Kd.N_far (p := ⟨gb101, 3, none⟩) (Kd.N_far (p := ⟨gb101, 2, none⟩) (Kd.N_far (p := ⟨gb101, 1, none⟩) (Kd.N_far (p := ⟨gb101, 0, none⟩) (Kd.N_mono HO105.out (fun k_ hk => (⟨hk, hk.1.2.1⟩ : _ ∧ k_ ≠ gb101))) (fun _ hk => hk.2) (.string t133)) (fun _ hk => hk.2) (.int .i64 t134)) (fun _ hk => hk.2) (.int .i64 t135)) (fun _ hk => hk.2) (.int .i64 t136)) (fun _ hk => hk.2) (.int .i64 t137)) (fun _ hk => hk.2) (.int .i64 t138)) (fun _ hk => hk.2) (.int .i64 t139)) (fun _ hk => hk.2) (.slice Ao32 t140.length co32)) (fun _ hk => hk.2) (.bool t143)) (fun _ hk => ⟨hk.1.1.1, hk.1.2⟩), by (with_reducible repeat (first | apply Kd.Q_alloc | apply Kd.Q_drewN | apply Kd.Q_drew)); exact Kd.Q_mono (Kd.Q_far (p := ⟨gb101, 8, none⟩) (Kd.Q_far (p := ⟨gb101, 7, none⟩) (Kd.Q_far (p := ⟨gb101, 6, none⟩) (Kd.Q_far (p := ⟨gb101, 5, none⟩) (Kd.Q_far (p := ⟨gb101, 4, none⟩) (Kd.Q_far (p := ⟨gb101, 3, none⟩) (Kd.Q_far (p := ⟨gb101, 2, none⟩) (Kd.Q_far (p := ⟨gb101, 1, none⟩) (Kd.Q_far (p := ⟨gb101, 0, none⟩) (Kd.Q_types HO142.out BK101.out (by decide)) (fun _ hk => hk.2) (.string t133)) (fun _ hk => hk.2) (.int .i64 t134)) (fun _ hk => hk.2) (.int .i64 t135)) (fun _ hk => hk.2) (.int .i64 t136)) (fun _ hk => hk.2) (.int .i64 t137)) (fun _ hk => hk.2) (.int .i64 t138)) (fun _ hk => hk.2) (.int .i64 t139)) (fun _ hk => hk.2) (.slice Ao32 t140.length co32)) (fun _ hk => hk.2) (.bool t143)) (fun _ hk => hk.1.1), za8af⟩
def laws_sameInts.l0 : Nat → List Int → List Int → Int → Int → Option (Bool)
 | 0, _, _, _, _ => none
 | k + 1, x0, x1, x12, x13 => if x13 < x12 then (if 0 ≤ x13 then (if x13 < (x0.length : Int) then (if x13 < (x1.length : Int) then (if (rd x0 x13) = (rd x1 x13) then (laws_sameInts.l0 k x0 x1 x12 (wrap64 (x13 + 1))) else (none)) else (none)) else (none)) else (none)) else (some true)
def laws_sameInts.f (k : Nat) (l0 : List Int) (l1 : List Int) : Option (Bool) := if (l0.length : Int) = (l1.length : Int) then (laws_sameInts.l0 k l0 l1 (l0.length : Int) 0) else (none)
theorem laws_sameInts.mono_l : ∀ k, (∀ y0 y1 y2 y3, LeO (laws_sameInts.l0 k y0 y1 y2 y3) (laws_sameInts.l0 (k + 1) y0 y1 y2 y3))
 | 0 => fun _ _ _ _ r h => by simp [laws_sameInts.l0] at h
 | k + 1 => by
  have ih0 := laws_sameInts.mono_l k
  · intro y0 y1 y2 y3
    unfold laws_sameInts.l0
    exact moZ
theorem laws_sameInts.mono : ∀ a0 a1 k, LeO (laws_sameInts.f k a0 a1) (laws_sameInts.f (k + 1) a0 a1) := by
 intro a0 a1 k
 have ih0 := laws_sameInts.mono_l k
 unfold laws_sameInts.f
 exact moZ
theorem laws_sameInts.calls (k : Nat) (A0 : Option Addr) (c0 : Nat) (l0 : List Int) (A1 : Option Addr) (c1 : Nat) (l1 : List Int) (r : Bool) (w : World) (hr0 : Kd.C (Kd.int .i64) w A0 l0.length l0) (hc0 : l0.length ≤ c0) (hr1 : Kd.C (Kd.int .i64) w A1 l1.length l1) (hc1 : l1.length ≤ c1) (h : laws_sameInts.f k l0 l1 = some r) :
 Calls Try.prog 32 #[.slice A0 l0.length c0, .slice A1 l1.length c1] w fun e w' => e = .returned (.bool r) ∧ Drawn0 w w' := by
 have HR0 := aM hr0
 have HC0 := aM hc0
 clear hr0 hc0
 have HR1 := aM hr1
 have HC1 := aM hc1
 clear hr1 hc1
 have H : (if (l0.length : Int) = (l1.length : Int) then (laws_sameInts.l0 k l0 l1 (l0.length : Int) 0) else (none)) = some r := h
 clear h
 replace H := ifS H; obtain ⟨c3, H⟩ := H
 have c3b0 := eqE c3
 have c3b2 : (l0.length == l1.length) = true := by first | simpa using c3 | (simp at c3 ⊢; omega)
 clear c3
 have H' := aM H
 clear H
 go_enter Try.func32, Try.ntmps32
 go_wp2
 repeat (go_quiet (fail); try go_wp2)
 go_loopg [13] k (fun kq v13 w' => ∃ (x13_1 : Int), v13 = .int .i64 x13_1 ∧ Aside0 (laws_sameInts.l0 kq l0 l1 (l0.length : Int) x13_1 = some r) ∧ Aside0 (kq ≤ k) ∧ Drawn0 w w')
 case atStart => exact ⟨(0), z4458, H', ⟨Nat.le_refl _⟩, za9de⟩
 case round =>
  clear H'
  (try clear c1); (try clear c3b0); (try clear c3b2)
  obtain ⟨x13_1, rfl, HA, HK1, ⟨m1, rfl⟩⟩ := hrel
  cases gk with
  | zero => exact absurd HA.out (by simp [laws_sameInts.l0])
  | succ k1 =>
   have H := HA.out
   clear HA
   simp only [laws_sameInts.l0] at H
   by_cases c4 : x13_1 < (l0.length : Int)
   · rw [if_pos c4] at H
     have c4b0 := dL c4
     clear c4
     obtain ⟨c5b0, H⟩ := sE H
     obtain ⟨c6b0, H⟩ := sL H
     obtain ⟨c7b0, H⟩ := sL H
     replace H := ifS H; obtain ⟨c8, H⟩ := H
     have c8b0 := eqE c8
     clear c8
     have H' := aM H
     clear H
     have p101 : 0 ≤ (x13_1 : Int) := of_decide_eq_true z1200
     have q101 : x13_1 < (l0.length : Int) := of_decide_eq_true z1200
     obtain ⟨ad101, e101, hx101_0⟩ := Kd.at_int HR0.out x13_1 p101 q101
     cases e101
     replace p101 := eq_true p101
     replace q101 := eq_true q101
     have p102 : 0 ≤ (x13_1 : Int) := of_decide_eq_true z1200
     have q102 : x13_1 < (l1.length : Int) := of_decide_eq_true z1200
     obtain ⟨ad102, e102, hx102_0⟩ := Kd.at_int HR1.out x13_1 p102 q102
     cases e102
     replace p102 := eq_true p102
     replace q102 := eq_true q102
     go_wp2
     repeat (go_quiet (fail); try go_wp2)
     go_roundg k1
     case measure => have := HK1.out; omega
     case rel => exact ⟨(wrap64 (x13_1 + 1)), z4458, H', ⟨zfb39⟩, za9de⟩
   · rw [if_neg c4] at H
     have c4b0 := nL c4
     clear c4
     obtain rfl := Option.some.inj H
     go_wp2
     repeat (go_quiet (fail); try go_wp2)
     go_ret
     exact ⟨z4458, za9de⟩
def laws_sameAggs.f (k : Nat) (a0_0 : Int) (a0_1 : Int) (a0_2 : Int) (a0_3 : Int) (l0_4 : List Int) (a0_5 : Bool) (a1_0 : Int) (a1_1 : Int) (a1_2 : Int) (a1_3 : Int) (l1_4 : List Int) (a1_5 : Bool) : Option (Bool) := if a0_0 = a1_0 then (if a0_1 = a1_1 then (if a0_2 = a1_2 then (if a0_3 = a1_3 then (if (a0_5 == a1_5) = true then ((laws_sameInts.f k l0_4 l1_4).bind fun t103 => (some t103)) else (none)) else (none)) else (none)) else (none)) else (none)
theorem laws_sameAggs.mono : ∀ a0 a1 a2 a3 a4 a5 a6 a7 a8 a9 a10 a11 k, LeO (laws_sameAggs.f k a0 a1 a2 a3 a4 a5 a6 a7 a8 a9 a10 a11) (laws_sameAggs.f (k + 1) a0 a1 a2 a3 a4 a5 a6 a7 a8 a9 a10 a11) := by
 intro a0 a1 a2 a3 a4 a5 a6 a7 a8 a9 a10 a11 k
 have m0 := @laws_sameInts.mono
 unfold laws_sameAggs.f
 exact moZ
theorem laws_sameAggs.calls (k : Nat) (a0_0 : Int) (a0_1 : Int) (a0_2 : Int) (a0_3 : Int) (A0_4 : Option Addr) (c0_4 : Nat) (l0_4 : List Int) (a0_5 : Bool) (a1_0 : Int) (a1_1 : Int) (a1_2 : Int) (a1_3 : Int) (A1_4 : Option Addr) (c1_4 : Nat) (l1_4 : List Int) (a1_5 : Bool) (r : Bool) (w : World) (hr0_4 : Kd.C (Kd.int .i64) w A0_4 l0_4.length l0_4) (hc0_4 : l0_4.length ≤ c0_4) (hr1_4 : Kd.C (Kd.int .i64) w A1_4 l1_4.length l1_4) (hc1_4 : l1_4.length ≤ c1_4) (h : laws_sameAggs.f k a0_0 a0_1 a0_2 a0_3 l0_4 a0_5 a1_0 a1_1 a1_2 a1_3 l1_4 a1_5 = some r) :
 Calls Try.prog 55 #[.agg #[.int .i64 a0_0, .int .i64 a0_1, .int .i64 a0_2, .int .i64 a0_3, .slice A0_4 l0_4.length c0_4, .bool a0_5], .agg #[.int .i64 a1_0, .int .i64 a1_1, .int .i64 a1_2, .int .i64 a1_3, .slice A1_4 l1_4.length c1_4, .bool a1_5]] w fun e w' => e = .returned (.bool r) ∧ Below w.heap.size w w' := by
 have hu26 := Try.underlying26
 have HR0_4 := aM hr0_4
 have HC0_4 := aM hc0_4
 clear hr0_4 hc0_4
 have HR1_4 := aM hr1_4
 have HC1_4 := aM hc1_4
 clear hr1_4 hc1_4
 have HB := aM (Below.refl w.heap.size w)
 have H : (if a0_0 = a1_0 then (if a0_1 = a1_1 then (if a0_2 = a1_2 then (if a0_3 = a1_3 then (if (a0_5 == a1_5) = true then ((laws_sameInts.f k l0_4 l1_4).bind fun t103 => (some t103)) else (none)) else (none)) else (none)) else (none)) else (none)) = some r := h
 clear h
 replace H := ifS H; obtain ⟨c3, H⟩ := H
 have c3b0 := eqE c3
 clear c3
 replace H := ifS H; obtain ⟨c4, H⟩ := H
 have c4b0 := eqE c4
 clear c4
 replace H := ifS H; obtain ⟨c5, H⟩ := H
 have c5b0 := eqE c5
 clear c5
 replace H := ifS H; obtain ⟨c6, H⟩ := H
 have c6b0 := eqE c6
 clear c6
 replace H := ifS H; obtain ⟨c7, H⟩ := H
 have c7b0 : (a0_5 == a1_5) = true := c7
 (try (have c7b1 : decide (a0_5 = a1_5) = true := by simpa using c7))
 (try (have c7b2 : (a0_5 == a1_5) = true := by simpa using c7))
 clear c7
 obtain ⟨t103, A8, H⟩ := bS H; try dsimp only at H
 obtain rfl := Option.some.inj H
 go_enter Try.func55, Try.ntmps55
 go_wp2_with (first | ((with_reducible refine gate_dst (N := 2) rfl ?_); refine bX 2 26 #[.int .i64 a0_0, .int .i64 a0_1, .int .i64 a0_2, .int .i64 a0_3, .slice A0_4 l0_4.length c0_4, .bool a0_5] ?_; intro gb101 hg w9 hbox hb; have _ := aM (below_step hbZ hb); have _ := aM hbox; have _ := szZ hg; have _ := szZ hg; clear HB; rename_i HB BK101 GW101 GE101; clear hb hbox hg) | ((with_reducible refine gate_dst (N := 3) rfl ?_); refine bX 3 26 #[.int .i64 a1_0, .int .i64 a1_1, .int .i64 a1_2, .int .i64 a1_3, .slice A1_4 l1_4.length c1_4, .bool a1_5] ?_; intro gb102 hg w10 hbox hb; have _ := bB gb101 hb; have _ := aM (below_step hbZ hb); have _ := aM hbox; have _ := szZ hg; have _ := szZ hg; have ⟨_, _⟩ := nbB gb101 hg; clear BK101 HB; rename_i BK101 HB BK102 GW102 GE102 NB101_102 NB102_101; clear hb hbox hg; have hnb11 := NB101_102.out; have hnc11 := NB102_101.out; have hz12 := cellsZ6 BK101.out; have hz13 := cellsZ6 BK102.out) | (go_at_call 32; (with_reducible refine (laws_sameInts.calls k _ _ l0_4 _ _ l1_4 t103 _ ?side1 ?side2 ?side3 ?side4 A8.out).mono ?_); (case side1 => exact (cZ (Kd.C_below HR0_4.out HB.out))); (case side2 => exact HC0_4.out); (case side3 => exact (cZ (Kd.C_below HR1_4.out HB.out))); (case side4 => exact HC1_4.out); rintro e w' ⟨rfl, ⟨nd, rfl⟩⟩))
 go_ret
 exact ⟨z674d, zcb41⟩
def laws_sameEntries.l0 : Nat → List (S45) → List (S45) → Int → Int → Option (Bool)
 | 0, _, _, _, _ => none
 | k + 1, x0, x1, x12, x13 => if x13 < x12 then (if 0 ≤ x13 then (if x13 < (x0.length : Int) then (if x13 < (x1.length : Int) then (if ((rd_T45 x0 x13).f0).toList = ((rd_T45 x1 x13).f0).toList then (if ((rd_T45 x0 x13).f1) = ((rd_T45 x1 x13).f1) then (if ((rd_T45 x0 x13).f2) = ((rd_T45 x1 x13).f2) then ((laws_sameAggs.f k ((rd_T45 x0 x13).f3.f0) ((rd_T45 x0 x13).f3.f1) ((rd_T45 x0 x13).f3.f2) ((rd_T45 x0 x13).f3.f3) ((rd_T45 x0 x13).f3.f4) ((rd_T45 x0 x13).f3.f5) ((rd_T45 x1 x13).f3.f0) ((rd_T45 x1 x13).f3.f1) ((rd_T45 x1 x13).f3.f2) ((rd_T45 x1 x13).f3.f3) ((rd_T45 x1 x13).f3.f4) ((rd_T45 x1 x13).f3.f5)).bind fun t109 => (if t109 = true then (laws_sameEntries.l0 k x0 x1 x12 (wrap64 (x13 + 1))) else (none))) else (none)) else (none)) else (none)) else (none)) else (none)) else (none)) else (some true)
def laws_sameEntries.f (k : Nat) (l0 : List (S45)) (l1 : List (S45)) : Option (Bool) := if (l0.length : Int) = (l1.length : Int) then (laws_sameEntries.l0 k l0 l1 (l0.length : Int) 0) else (none)
theorem laws_sameEntries.mono_l : ∀ k, (∀ y0 y1 y2 y3, LeO (laws_sameEntries.l0 k y0 y1 y2 y3) (laws_sameEntries.l0 (k + 1) y0 y1 y2 y3))
 | 0 => fun _ _ _ _ r h => by simp [laws_sameEntries.l0] at h
 | k + 1 => by
  have ih0 := laws_sameEntries.mono_l k; have m0 := @laws_sameAggs.mono
  · intro y0 y1 y2 y3
    unfold laws_sameEntries.l0
    exact moZ
theorem laws_sameEntries.mono : ∀ a0 a1 k, LeO (laws_sameEntries.f k a0 a1) (laws_sameEntries.f (k + 1) a0 a1) := by
 intro a0 a1 k
 have ih0 := laws_sameEntries.mono_l k
 have m0 := @laws_sameAggs.mono
 unfold laws_sameEntries.f
 exact moZ
def laws_sameEntries.T6 : Bool × List (List Nat × List Nat) := (true, [([], []), ([], []), ([0, 1], [0, 1]), ([2], [2]), ([3], [3]), ([], []), ([], []), ([5, 6], [5, 6]), ([7], [7]), ([8], [8]), ([4, 9], [4, 9]), ([10], [10]), ([11], [11]), ([11], [11]), ([12, 13, 11], [11, 12, 13]), ([14, 11], [11, 14]), ([15, 11], [11, 15]), ([11], [11]), ([11], [11]), ([17, 18, 11], [11, 17, 18]), ([19, 11], [11, 19]), ([20, 11], [11, 20]), ([16, 21, 11], [11, 16, 21]), ([11, 22], [11, 22]), ([23, 11], [23]), ([24], [24]), ([24], [24]), ([25, 26, 24], [24, 25, 26]), ([27, 24], [24, 27]), ([28, 24], [24, 28]), ([24], [24]), ([24], [24]), ([30, 31, 24], [24, 30, 31]), ([32, 24], [24, 32]), ([33, 24], [24, 33]), ([29, 34, 24], [24, 29, 34]), ([24, 35], [24, 35]), ([36, 24], [36]), ([37], [37]), ([37], [37]), ([38, 39, 37], [37, 38, 39]), ([40, 37], [37, 40]), ([41, 37], [37, 41]), ([37], [37]), ([37], [37]), ([43, 44, 37], [37, 43, 44]), ([45, 37], [37, 45]), ([46, 37], [37, 46]), ([42, 47, 37, 37], [37, 42, 47]), ([48, 37], [37, 48]), ([37, 49], [37, 49])])
def laws_sameEntries.B6 : List Nat := [0, 0, 3, 7, 15, 0, 0, 96, 224, 480, 1023, 2047, 4095, 4095, 16383, 32767, 65535, 4095, 4095, 397311, 921599, 1970175, 4194303, 8388607, 16777215, 33554431, 33554431, 134217727, 268435455, 536870911, 33554431, 33554431, 3254779903, 7549747199, 16139681791, 34359738367, 68719476735, 137438953471, 274877906943, 274877906943, 1099511627775, 2199023255551, 4398046511103, 274877906943, 274877906943, 26663156973567, 61847529062399, 132216273240063, 281474976710655, 562949953421311, 1125899906842623]
theorem laws_sameEntries.tab6 : rtab .any (opsOf Try.f26 6) = laws_sameEntries.T6 := by kernel_rfl
theorem laws_sameEntries.bits6 : waitsOk laws_sameEntries.T6.2 laws_sameEntries.B6 = true := by kernel_rfl
theorem laws_sameEntries.calls (k : Nat) (A0 : Option Addr) (c0 : Nat) (l0 : List (S45)) (A1 : Option Addr) (c1 : Nat) (l1 : List (S45)) (r : Bool) (w : World) (hr0 : Kd.C k45 w A0 l0.length l0) (hc0 : l0.length ≤ c0) (hr1 : Kd.C k45 w A1 l1.length l1) (hc1 : l1.length ≤ c1) (h : laws_sameEntries.f k l0 l1 = some r) :
 Calls Try.prog 26 #[.slice A0 l0.length c0, .slice A1 l1.length c1] w fun e w' => e = .returned (.bool r) ∧ Below w.heap.size w w' := by
 have hu26 := Try.underlying26
 have HR0 := aM hr0
 have HC0 := aM hc0
 clear hr0 hc0
 have HR1 := aM hr1
 have HC1 := aM hc1
 clear hr1 hc1
 have HB := aM (Below.refl w.heap.size w)
 have H : (if (l0.length : Int) = (l1.length : Int) then (laws_sameEntries.l0 k l0 l1 (l0.length : Int) 0) else (none)) = some r := h
 clear h
 replace H := ifS H; obtain ⟨c3, H⟩ := H
 have c3b0 := eqE c3
 have c3b2 : (l0.length == l1.length) = true := by first | simpa using c3 | (simp at c3 ⊢; omega)
 clear c3
 have H' := aM H
 clear H
 go_enter Try.func26, Try.ntmps26
 go_wp2
 go_loopg [13] k (fun kq v13 w' => ∃ (x13_1 : Int), v13 = .int .i64 x13_1 ∧ Aside0 (laws_sameEntries.l0 kq l0 l1 (l0.length : Int) x13_1 = some r) ∧ Aside0 (kq ≤ k) ∧ Aside0 (Below w.heap.size w w'))
 case atStart => exact ⟨(0), z4458, H', ⟨Nat.le_refl _⟩, ⟨z5acd⟩⟩
 case round =>
  clear H'
  (try clear c1); (try clear c3b0); (try clear c3b2)
  obtain ⟨x13_1, rfl, HA, HK1, HB⟩ := hrel
  cases gk with
  | zero => exact absurd HA.out (by simp [laws_sameEntries.l0])
  | succ k1 =>
   have H := HA.out
   clear HA
   simp only [laws_sameEntries.l0] at H
   by_cases c4 : x13_1 < (l0.length : Int)
   · rw [if_pos c4] at H
     have c4b0 := dL c4
     clear c4
     obtain ⟨c5b0, H⟩ := sE H
     obtain ⟨c6b0, H⟩ := sL H
     obtain ⟨c7b0, H⟩ := sL H
     by_cases c8 : ((rd_T45 l0 x13_1).f0).toList = ((rd_T45 l1 x13_1).f0).toList
     · rw [if_pos c8] at H
       have c8b0 : (((rd_T45 l0 x13_1).f0).toList == ((rd_T45 l1 x13_1).f0).toList) = true := beq_iff_eq.mpr c8
       have c8b1 : (((rd_T45 l0 x13_1).f0).toList != ((rd_T45 l1 x13_1).f0).toList) = false := bne_eq_false_iff_eq.mpr c8
       clear c8
       by_cases c9 : ((rd_T45 l0 x13_1).f1) = ((rd_T45 l1 x13_1).f1)
       · rw [if_pos c9] at H
         have c9b0 : (((rd_T45 l0 x13_1).f1) == ((rd_T45 l1 x13_1).f1)) = true := beq_iff_eq.mpr c9
         have c9b1 : (((rd_T45 l0 x13_1).f1) != ((rd_T45 l1 x13_1).f1)) = false := bne_eq_false_iff_eq.mpr c9
         clear c9
         by_cases c10 : ((rd_T45 l0 x13_1).f2) = ((rd_T45 l1 x13_1).f2)
         · rw [if_pos c10] at H
           have c10b0 : (((rd_T45 l0 x13_1).f2) == ((rd_T45 l1 x13_1).f2)) = true := beq_iff_eq.mpr c10
           have c10b1 : (((rd_T45 l0 x13_1).f2) != ((rd_T45 l1 x13_1).f2)) = false := bne_eq_false_iff_eq.mpr c10
           clear c10
           obtain ⟨t109, A11, H⟩ := bS H; try dsimp only at H
           by_cases c12 : t109 = true
           · subst c12
             rw [if_pos rfl] at H
             have H' := aM H
             clear H
             try go_wp2
             have _ := aM (below_drew1 HB.out)
             clear HB
             rename_i HB
             have p101 : 0 ≤ (x13_1 : Int) := of_decide_eq_true z1200
             have q101 : x13_1 < (l0.length : Int) := of_decide_eq_true z1200
             obtain ⟨ad101, A101_7, c101_7, e101, hx101_0, hx101_1, hx101_2, hx101_3, hx101_4, hx101_5, hx101_6, hx101_7, hx101_8, hl101_7, hi101_7⟩ := at_T45 HR0.out x13_1 p101 q101
             have hw101_8 := hx101_8
             have hw101_7 := hx101_7
             have hw101_6 := hx101_6
             have hw101_5 := hx101_5
             have hw101_4 := hx101_4
             have hw101_3 := hx101_3
             have hw101_2 := hx101_2
             have hw101_1 := hx101_1
             have hw101_0 := hx101_0
             cases e101
             have TW101_7 := aM hx101_7
             replace hx101_0 := (HB.out.cell (World.block_lt_of_cell? w _ hx101_0)).trans hx101_0
             replace hx101_1 := (HB.out.cell (World.block_lt_of_cell? w _ hx101_1)).trans hx101_1
             replace hx101_2 := (HB.out.cell (World.block_lt_of_cell? w _ hx101_2)).trans hx101_2
             replace hx101_3 := (HB.out.cell (World.block_lt_of_cell? w _ hx101_3)).trans hx101_3
             replace hx101_4 := (HB.out.cell (World.block_lt_of_cell? w _ hx101_4)).trans hx101_4
             replace hx101_5 := (HB.out.cell (World.block_lt_of_cell? w _ hx101_5)).trans hx101_5
             replace hx101_6 := (HB.out.cell (World.block_lt_of_cell? w _ hx101_6)).trans hx101_6
             replace hx101_7 := (HB.out.cell (World.block_lt_of_cell? w _ hx101_7)).trans hx101_7
             replace hx101_8 := (HB.out.cell (World.block_lt_of_cell? w _ hx101_8)).trans hx101_8
             have HR101_7 := aM hi101_7
             have HC101_7 := aM hl101_7
             clear hi101_7 hl101_7
             replace p101 := eq_true p101
             replace q101 := eq_true q101
             have p102 : 0 ≤ (x13_1 : Int) := of_decide_eq_true z1200
             have q102 : x13_1 < (l1.length : Int) := of_decide_eq_true z1200
             obtain ⟨ad102, A102_7, c102_7, e102, hx102_0, hx102_1, hx102_2, hx102_3, hx102_4, hx102_5, hx102_6, hx102_7, hx102_8, hl102_7, hi102_7⟩ := at_T45 HR1.out x13_1 p102 q102
             have hw102_8 := hx102_8
             have hw102_7 := hx102_7
             have hw102_6 := hx102_6
             have hw102_5 := hx102_5
             have hw102_4 := hx102_4
             have hw102_3 := hx102_3
             have hw102_2 := hx102_2
             have hw102_1 := hx102_1
             have hw102_0 := hx102_0
             cases e102
             have TW102_7 := aM hx102_7
             replace hx102_0 := (HB.out.cell (World.block_lt_of_cell? w _ hx102_0)).trans hx102_0
             replace hx102_1 := (HB.out.cell (World.block_lt_of_cell? w _ hx102_1)).trans hx102_1
             replace hx102_2 := (HB.out.cell (World.block_lt_of_cell? w _ hx102_2)).trans hx102_2
             replace hx102_3 := (HB.out.cell (World.block_lt_of_cell? w _ hx102_3)).trans hx102_3
             replace hx102_4 := (HB.out.cell (World.block_lt_of_cell? w _ hx102_4)).trans hx102_4
             replace hx102_5 := (HB.out.cell (World.block_lt_of_cell? w _ hx102_5)).trans hx102_5
             replace hx102_6 := (HB.out.cell (World.block_lt_of_cell? w _ hx102_6)).trans hx102_6
             replace hx102_7 := (HB.out.cell (World.block_lt_of_cell? w _ hx102_7)).trans hx102_7
             replace hx102_8 := (HB.out.cell (World.block_lt_of_cell? w _ hx102_8)).trans hx102_8
             have HR102_7 := aM hi102_7
             have HC102_7 := aM hl102_7
             clear hi102_7 hl102_7
             replace p102 := eq_true p102
             replace q102 := eq_true q102
             have p103 : 0 ≤ (x13_1 : Int) := of_decide_eq_true z1200
             have q103 : x13_1 < (l0.length : Int) := of_decide_eq_true z1200
             obtain ⟨ad103, A103_7, c103_7, e103, hx103_0, hx103_1, hx103_2, hx103_3, hx103_4, hx103_5, hx103_6, hx103_7, hx103_8, hl103_7, hi103_7⟩ := at_T45 HR0.out x13_1 p103 q103
             have hw103_8 := hx103_8
             have hw103_7 := hx103_7
             have hw103_6 := hx103_6
             have hw103_5 := hx103_5
             have hw103_4 := hx103_4
             have hw103_3 := hx103_3
             have hw103_2 := hx103_2
             have hw103_1 := hx103_1
             have hw103_0 := hx103_0
             obtain rfl : ad101 = ad103 := (by injection e103)
             replace hx103_0 := (HB.out.cell (World.block_lt_of_cell? w _ hx103_0)).trans hx103_0
             replace hx103_1 := (HB.out.cell (World.block_lt_of_cell? w _ hx103_1)).trans hx103_1
             replace hx103_2 := (HB.out.cell (World.block_lt_of_cell? w _ hx103_2)).trans hx103_2
             replace hx103_3 := (HB.out.cell (World.block_lt_of_cell? w _ hx103_3)).trans hx103_3
             replace hx103_4 := (HB.out.cell (World.block_lt_of_cell? w _ hx103_4)).trans hx103_4
             replace hx103_5 := (HB.out.cell (World.block_lt_of_cell? w _ hx103_5)).trans hx103_5
             replace hx103_6 := (HB.out.cell (World.block_lt_of_cell? w _ hx103_6)).trans hx103_6
             replace hx103_7 := (HB.out.cell (World.block_lt_of_cell? w _ hx103_7)).trans hx103_7
             replace hx103_8 := (HB.out.cell (World.block_lt_of_cell? w _ hx103_8)).trans hx103_8
             have HR103_7 := aM hi103_7
             have HC103_7 := aM hl103_7
             clear hi103_7 hl103_7
             replace p103 := eq_true p103
             replace q103 := eq_true q103
             have ea_ := Option.some.inj (hx101_7.symm.trans hx103_7)
             injection ea_ with ea_ en_ ec_
             subst ea_
             subst ec_
             clear en_
             have p104 : 0 ≤ (x13_1 : Int) := of_decide_eq_true z1200
             have q104 : x13_1 < (l1.length : Int) := of_decide_eq_true z1200
             obtain ⟨ad104, A104_7, c104_7, e104, hx104_0, hx104_1, hx104_2, hx104_3, hx104_4, hx104_5, hx104_6, hx104_7, hx104_8, hl104_7, hi104_7⟩ := at_T45 HR1.out x13_1 p104 q104
             have hw104_8 := hx104_8
             have hw104_7 := hx104_7
             have hw104_6 := hx104_6
             have hw104_5 := hx104_5
             have hw104_4 := hx104_4
             have hw104_3 := hx104_3
             have hw104_2 := hx104_2
             have hw104_1 := hx104_1
             have hw104_0 := hx104_0
             obtain rfl : ad102 = ad104 := (by injection e104)
             replace hx104_0 := (HB.out.cell (World.block_lt_of_cell? w _ hx104_0)).trans hx104_0
             replace hx104_1 := (HB.out.cell (World.block_lt_of_cell? w _ hx104_1)).trans hx104_1
             replace hx104_2 := (HB.out.cell (World.block_lt_of_cell? w _ hx104_2)).trans hx104_2
             replace hx104_3 := (HB.out.cell (World.block_lt_of_cell? w _ hx104_3)).trans hx104_3
             replace hx104_4 := (HB.out.cell (World.block_lt_of_cell? w _ hx104_4)).trans hx104_4
             replace hx104_5 := (HB.out.cell (World.block_lt_of_cell? w _ hx104_5)).trans hx104_5
             replace hx104_6 := (HB.out.cell (World.block_lt_of_cell? w _ hx104_6)).trans hx104_6
             replace hx104_7 := (HB.out.cell (World.block_lt_of_cell? w _ hx104_7)).trans hx104_7
             replace hx104_8 := (HB.out.cell (World.block_lt_of_cell? w _ hx104_8)).trans hx104_8
             have HR104_7 := aM hi104_7
             have HC104_7 := aM hl104_7
             clear hi104_7 hl104_7
             replace p104 := eq_true p104
             replace q104 := eq_true q104
             have ea_ := Option.some.inj (hx102_7.symm.trans hx104_7)
             injection ea_ with ea_ en_ ec_
             subst ea_
             subst ec_
             clear en_
             have p105 : 0 ≤ (x13_1 : Int) := of_decide_eq_true z1200
             have q105 : x13_1 < (l0.length : Int) := of_decide_eq_true z1200
             obtain ⟨ad105, A105_7, c105_7, e105, hx105_0, hx105_1, hx105_2, hx105_3, hx105_4, hx105_5, hx105_6, hx105_7, hx105_8, hl105_7, hi105_7⟩ := at_T45 HR0.out x13_1 p105 q105
             have hw105_8 := hx105_8
             have hw105_7 := hx105_7
             have hw105_6 := hx105_6
             have hw105_5 := hx105_5
             have hw105_4 := hx105_4
             have hw105_3 := hx105_3
             have hw105_2 := hx105_2
             have hw105_1 := hx105_1
             have hw105_0 := hx105_0
             obtain rfl : ad101 = ad105 := (by injection e105)
             replace hx105_0 := (HB.out.cell (World.block_lt_of_cell? w _ hx105_0)).trans hx105_0
             replace hx105_1 := (HB.out.cell (World.block_lt_of_cell? w _ hx105_1)).trans hx105_1
             replace hx105_2 := (HB.out.cell (World.block_lt_of_cell? w _ hx105_2)).trans hx105_2
             replace hx105_3 := (HB.out.cell (World.block_lt_of_cell? w _ hx105_3)).trans hx105_3
             replace hx105_4 := (HB.out.cell (World.block_lt_of_cell? w _ hx105_4)).trans hx105_4
             replace hx105_5 := (HB.out.cell (World.block_lt_of_cell? w _ hx105_5)).trans hx105_5
             replace hx105_6 := (HB.out.cell (World.block_lt_of_cell? w _ hx105_6)).trans hx105_6
             replace hx105_7 := (HB.out.cell (World.block_lt_of_cell? w _ hx105_7)).trans hx105_7
             replace hx105_8 := (HB.out.cell (World.block_lt_of_cell? w _ hx105_8)).trans hx105_8
             have HR105_7 := aM hi105_7
             have HC105_7 := aM hl105_7
             clear hi105_7 hl105_7
             replace p105 := eq_true p105
             replace q105 := eq_true q105
             have ea_ := Option.some.inj (hx101_7.symm.trans hx105_7)
             injection ea_ with ea_ en_ ec_
             subst ea_
             subst ec_
             clear en_
             have p106 : 0 ≤ (x13_1 : Int) := of_decide_eq_true z1200
             have q106 : x13_1 < (l1.length : Int) := of_decide_eq_true z1200
             obtain ⟨ad106, A106_7, c106_7, e106, hx106_0, hx106_1, hx106_2, hx106_3, hx106_4, hx106_5, hx106_6, hx106_7, hx106_8, hl106_7, hi106_7⟩ := at_T45 HR1.out x13_1 p106 q106
             have hw106_8 := hx106_8
             have hw106_7 := hx106_7
             have hw106_6 := hx106_6
             have hw106_5 := hx106_5
             have hw106_4 := hx106_4
             have hw106_3 := hx106_3
             have hw106_2 := hx106_2
             have hw106_1 := hx106_1
             have hw106_0 := hx106_0
             obtain rfl : ad102 = ad106 := (by injection e106)
             replace hx106_0 := (HB.out.cell (World.block_lt_of_cell? w _ hx106_0)).trans hx106_0
             replace hx106_1 := (HB.out.cell (World.block_lt_of_cell? w _ hx106_1)).trans hx106_1
             replace hx106_2 := (HB.out.cell (World.block_lt_of_cell? w _ hx106_2)).trans hx106_2
             replace hx106_3 := (HB.out.cell (World.block_lt_of_cell? w _ hx106_3)).trans hx106_3
             replace hx106_4 := (HB.out.cell (World.block_lt_of_cell? w _ hx106_4)).trans hx106_4
             replace hx106_5 := (HB.out.cell (World.block_lt_of_cell? w _ hx106_5)).trans hx106_5
             replace hx106_6 := (HB.out.cell (World.block_lt_of_cell? w _ hx106_6)).trans hx106_6
             replace hx106_7 := (HB.out.cell (World.block_lt_of_cell? w _ hx106_7)).trans hx106_7
             replace hx106_8 := (HB.out.cell (World.block_lt_of_cell? w _ hx106_8)).trans hx106_8
             have HR106_7 := aM hi106_7
             have HC106_7 := aM hl106_7
             clear hi106_7 hl106_7
             replace p106 := eq_true p106
             replace q106 := eq_true q106
             have ea_ := Option.some.inj (hx102_7.symm.trans hx106_7)
             injection ea_ with ea_ en_ ec_
             subst ea_
             subst ec_
             clear en_
             have p107 : 0 ≤ (x13_1 : Int) := of_decide_eq_true z1200
             have q107 : x13_1 < (l0.length : Int) := of_decide_eq_true z1200
             obtain ⟨ad107, A107_7, c107_7, e107, hx107_0, hx107_1, hx107_2, hx107_3, hx107_4, hx107_5, hx107_6, hx107_7, hx107_8, hl107_7, hi107_7⟩ := at_T45 HR0.out x13_1 p107 q107
             have hw107_8 := hx107_8
             have hw107_7 := hx107_7
             have hw107_6 := hx107_6
             have hw107_5 := hx107_5
             have hw107_4 := hx107_4
             have hw107_3 := hx107_3
             have hw107_2 := hx107_2
             have hw107_1 := hx107_1
             have hw107_0 := hx107_0
             obtain rfl : ad101 = ad107 := (by injection e107)
             replace hx107_0 := (HB.out.cell (World.block_lt_of_cell? w _ hx107_0)).trans hx107_0
             replace hx107_1 := (HB.out.cell (World.block_lt_of_cell? w _ hx107_1)).trans hx107_1
             replace hx107_2 := (HB.out.cell (World.block_lt_of_cell? w _ hx107_2)).trans hx107_2
             replace hx107_3 := (HB.out.cell (World.block_lt_of_cell? w _ hx107_3)).trans hx107_3
             replace hx107_4 := (HB.out.cell (World.block_lt_of_cell? w _ hx107_4)).trans hx107_4
             replace hx107_5 := (HB.out.cell (World.block_lt_of_cell? w _ hx107_5)).trans hx107_5
             replace hx107_6 := (HB.out.cell (World.block_lt_of_cell? w _ hx107_6)).trans hx107_6
             replace hx107_7 := (HB.out.cell (World.block_lt_of_cell? w _ hx107_7)).trans hx107_7
             replace hx107_8 := (HB.out.cell (World.block_lt_of_cell? w _ hx107_8)).trans hx107_8
             have HR107_7 := aM hi107_7
             have HC107_7 := aM hl107_7
             clear hi107_7 hl107_7
             replace p107 := eq_true p107
             replace q107 := eq_true q107
             have ea_ := Option.some.inj (hx101_7.symm.trans hx107_7)
             injection ea_ with ea_ en_ ec_
             subst ea_
             subst ec_
             clear en_
             have p108 : 0 ≤ (x13_1 : Int) := of_decide_eq_true z1200
             have q108 : x13_1 < (l1.length : Int) := of_decide_eq_true z1200
             obtain ⟨ad108, A108_7, c108_7, e108, hx108_0, hx108_1, hx108_2, hx108_3, hx108_4, hx108_5, hx108_6, hx108_7, hx108_8, hl108_7, hi108_7⟩ := at_T45 HR1.out x13_1 p108 q108
             have hw108_8 := hx108_8
             have hw108_7 := hx108_7
             have hw108_6 := hx108_6
             have hw108_5 := hx108_5
             have hw108_4 := hx108_4
             have hw108_3 := hx108_3
             have hw108_2 := hx108_2
             have hw108_1 := hx108_1
             have hw108_0 := hx108_0
             obtain rfl : ad102 = ad108 := (by injection e108)
             replace hx108_0 := (HB.out.cell (World.block_lt_of_cell? w _ hx108_0)).trans hx108_0
             replace hx108_1 := (HB.out.cell (World.block_lt_of_cell? w _ hx108_1)).trans hx108_1
             replace hx108_2 := (HB.out.cell (World.block_lt_of_cell? w _ hx108_2)).trans hx108_2
             replace hx108_3 := (HB.out.cell (World.block_lt_of_cell? w _ hx108_3)).trans hx108_3
             replace hx108_4 := (HB.out.cell (World.block_lt_of_cell? w _ hx108_4)).trans hx108_4
             replace hx108_5 := (HB.out.cell (World.block_lt_of_cell? w _ hx108_5)).trans hx108_5
             replace hx108_6 := (HB.out.cell (World.block_lt_of_cell? w _ hx108_6)).trans hx108_6
             replace hx108_7 := (HB.out.cell (World.block_lt_of_cell? w _ hx108_7)).trans hx108_7
             replace hx108_8 := (HB.out.cell (World.block_lt_of_cell? w _ hx108_8)).trans hx108_8
             have HR108_7 := aM hi108_7
             have HC108_7 := aM hl108_7
             clear hi108_7 hl108_7
             replace p108 := eq_true p108
             replace q108 := eq_true q108
             have ea_ := Option.some.inj (hx102_7.symm.trans hx108_7)
             injection ea_ with ea_ en_ ec_
             subst ea_
             subst ec_
             clear en_
             refine sA 51 laws_sameEntries.tab6 laws_sameEntries.bits6 (fun w' => w'.cell? (ad101.add ((x13_1).toNat * 9)) = some (.string ((rd_T45 l0 x13_1).f0)) ∧ w'.cell? ⟨(ad101.add ((x13_1).toNat * 9)).block, (ad101.add ((x13_1).toNat * 9)).off + 1, none⟩ = some (.int .i64 ((rd_T45 l0 x13_1).f1)) ∧ w'.cell? ⟨(ad101.add ((x13_1).toNat * 9)).block, (ad101.add ((x13_1).toNat * 9)).off + 2, none⟩ = some (.int .i64 ((rd_T45 l0 x13_1).f2)) ∧ w'.cell? ⟨(ad101.add ((x13_1).toNat * 9)).block, (ad101.add ((x13_1).toNat * 9)).off + 3, none⟩ = some (.int .i64 ((rd_T45 l0 x13_1).f3.f0)) ∧ w'.cell? ⟨(ad101.add ((x13_1).toNat * 9)).block, (ad101.add ((x13_1).toNat * 9)).off + 4, none⟩ = some (.int .i64 ((rd_T45 l0 x13_1).f3.f1)) ∧ w'.cell? ⟨(ad101.add ((x13_1).toNat * 9)).block, (ad101.add ((x13_1).toNat * 9)).off + 5, none⟩ = some (.int .i64 ((rd_T45 l0 x13_1).f3.f2)) ∧ w'.cell? ⟨(ad101.add ((x13_1).toNat * 9)).block, (ad101.add ((x13_1).toNat * 9)).off + 6, none⟩ = some (.int .i64 ((rd_T45 l0 x13_1).f3.f3)) ∧ w'.cell? ⟨(ad101.add ((x13_1).toNat * 9)).block, (ad101.add ((x13_1).toNat * 9)).off + 7, none⟩ = some (.slice A101_7 ((rd_T45 l0 x13_1).f3.f4).length c101_7) ∧ w'.cell? ⟨(ad101.add ((x13_1).toNat * 9)).block, (ad101.add ((x13_1).toNat * 9)).off + 8, none⟩ = some (.bool ((rd_T45 l0 x13_1).f3.f5)) ∧ w'.cell? (ad102.add ((x13_1).toNat * 9)) = some (.string ((rd_T45 l1 x13_1).f0)) ∧ w'.cell? ⟨(ad102.add ((x13_1).toNat * 9)).block, (ad102.add ((x13_1).toNat * 9)).off + 1, none⟩ = some (.int .i64 ((rd_T45 l1 x13_1).f1)) ∧ w'.cell? ⟨(ad102.add ((x13_1).toNat * 9)).block, (ad102.add ((x13_1).toNat * 9)).off + 2, none⟩ = some (.int .i64 ((rd_T45 l1 x13_1).f2)) ∧ w'.cell? ⟨(ad102.add ((x13_1).toNat * 9)).block, (ad102.add ((x13_1).toNat * 9)).off + 3, none⟩ = some (.int .i64 ((rd_T45 l1 x13_1).f3.f0)) ∧ w'.cell? ⟨(ad102.add ((x13_1).toNat * 9)).block, (ad102.add ((x13_1).toNat * 9)).off + 4, none⟩ = some (.int .i64 ((rd_T45 l1 x13_1).f3.f1)) ∧ w'.cell? ⟨(ad102.add ((x13_1).toNat * 9)).block, (ad102.add ((x13_1).toNat * 9)).off + 5, none⟩ = some (.int .i64 ((rd_T45 l1 x13_1).f3.f2)) ∧ w'.cell? ⟨(ad102.add ((x13_1).toNat * 9)).block, (ad102.add ((x13_1).toNat * 9)).off + 6, none⟩ = some (.int .i64 ((rd_T45 l1 x13_1).f3.f3)) ∧ w'.cell? ⟨(ad102.add ((x13_1).toNat * 9)).block, (ad102.add ((x13_1).toNat * 9)).off + 7, none⟩ = some (.slice A102_7 ((rd_T45 l1 x13_1).f3.f4).length c102_7) ∧ w'.cell? ⟨(ad102.add ((x13_1).toNat * 9)).block, (ad102.add ((x13_1).toNat * 9)).off + 8, none⟩ = some (.bool ((rd_T45 l1 x13_1).f3.f5)) ∧ w'.cell? (ad101.add ((x13_1).toNat * 9)) = some (.string ((rd_T45 l0 x13_1).f0)) ∧ w'.cell? ⟨(ad101.add ((x13_1).toNat * 9)).block, (ad101.add ((x13_1).toNat * 9)).off + 1, none⟩ = some (.int .i64 ((rd_T45 l0 x13_1).f1)) ∧ w'.cell? ⟨(ad101.add ((x13_1).toNat * 9)).block, (ad101.add ((x13_1).toNat * 9)).off + 2, none⟩ = some (.int .i64 ((rd_T45 l0 x13_1).f2)) ∧ w'.cell? ⟨(ad101.add ((x13_1).toNat * 9)).block, (ad101.add ((x13_1).toNat * 9)).off + 3, none⟩ = some (.int .i64 ((rd_T45 l0 x13_1).f3.f0)) ∧ w'.cell? ⟨(ad101.add ((x13_1).toNat * 9)).block, (ad101.add ((x13_1).toNat * 9)).off + 4, none⟩ = some (.int .i64 ((rd_T45 l0 x13_1).f3.f1)) ∧ w'.cell? ⟨(ad101.add ((x13_1).toNat * 9)).block, (ad101.add ((x13_1).toNat * 9)).off + 5, none⟩ = some (.int .i64 ((rd_T45 l0 x13_1).f3.f2)) ∧ w'.cell? ⟨(ad101.add ((x13_1).toNat * 9)).block, (ad101.add ((x13_1).toNat * 9)).off + 6, none⟩ = some (.int .i64 ((rd_T45 l0 x13_1).f3.f3)) ∧ w'.cell? ⟨(ad101.add ((x13_1).toNat * 9)).block, (ad101.add ((x13_1).toNat * 9)).off + 7, none⟩ = some (.slice A101_7 ((rd_T45 l0 x13_1).f3.f4).length c101_7) ∧ w'.cell? ⟨(ad101.add ((x13_1).toNat * 9)).block, (ad101.add ((x13_1).toNat * 9)).off + 8, none⟩ = some (.bool ((rd_T45 l0 x13_1).f3.f5)) ∧ w'.cell? (ad102.add ((x13_1).toNat * 9)) = some (.string ((rd_T45 l1 x13_1).f0)) ∧ w'.cell? ⟨(ad102.add ((x13_1).toNat * 9)).block, (ad102.add ((x13_1).toNat * 9)).off + 1, none⟩ = some (.int .i64 ((rd_T45 l1 x13_1).f1)) ∧ w'.cell? ⟨(ad102.add ((x13_1).toNat * 9)).block, (ad102.add ((x13_1).toNat * 9)).off + 2, none⟩ = some (.int .i64 ((rd_T45 l1 x13_1).f2)) ∧ w'.cell? ⟨(ad102.add ((x13_1).toNat * 9)).block, (ad102.add ((x13_1).toNat * 9)).off + 3, none⟩ = some (.int .i64 ((rd_T45 l1 x13_1).f3.f0)) ∧ w'.cell? ⟨(ad102.add ((x13_1).toNat * 9)).block, (ad102.add ((x13_1).toNat * 9)).off + 4, none⟩ = some (.int .i64 ((rd_T45 l1 x13_1).f3.f1)) ∧ w'.cell? ⟨(ad102.add ((x13_1).toNat * 9)).block, (ad102.add ((x13_1).toNat * 9)).off + 5, none⟩ = some (.int .i64 ((rd_T45 l1 x13_1).f3.f2)) ∧ w'.cell? ⟨(ad102.add ((x13_1).toNat * 9)).block, (ad102.add ((x13_1).toNat * 9)).off + 6, none⟩ = some (.int .i64 ((rd_T45 l1 x13_1).f3.f3)) ∧ w'.cell? ⟨(ad102.add ((x13_1).toNat * 9)).block, (ad102.add ((x13_1).toNat * 9)).off + 7, none⟩ = some (.slice A102_7 ((rd_T45 l1 x13_1).f3.f4).length c102_7) ∧ w'.cell? ⟨(ad102.add ((x13_1).toNat * 9)).block, (ad102.add ((x13_1).toNat * 9)).off + 8, none⟩ = some (.bool ((rd_T45 l1 x13_1).f3.f5)) ∧ w'.cell? (ad101.add ((x13_1).toNat * 9)) = some (.string ((rd_T45 l0 x13_1).f0)) ∧ w'.cell? ⟨(ad101.add ((x13_1).toNat * 9)).block, (ad101.add ((x13_1).toNat * 9)).off + 1, none⟩ = some (.int .i64 ((rd_T45 l0 x13_1).f1)) ∧ w'.cell? ⟨(ad101.add ((x13_1).toNat * 9)).block, (ad101.add ((x13_1).toNat * 9)).off + 2, none⟩ = some (.int .i64 ((rd_T45 l0 x13_1).f2)) ∧ w'.cell? ⟨(ad101.add ((x13_1).toNat * 9)).block, (ad101.add ((x13_1).toNat * 9)).off + 3, none⟩ = some (.int .i64 ((rd_T45 l0 x13_1).f3.f0)) ∧ w'.cell? ⟨(ad101.add ((x13_1).toNat * 9)).block, (ad101.add ((x13_1).toNat * 9)).off + 4, none⟩ = some (.int .i64 ((rd_T45 l0 x13_1).f3.f1)) ∧ w'.cell? ⟨(ad101.add ((x13_1).toNat * 9)).block, (ad101.add ((x13_1).toNat * 9)).off + 5, none⟩ = some (.int .i64 ((rd_T45 l0 x13_1).f3.f2)) ∧ w'.cell? ⟨(ad101.add ((x13_1).toNat * 9)).block, (ad101.add ((x13_1).toNat * 9)).off + 6, none⟩ = some (.int .i64 ((rd_T45 l0 x13_1).f3.f3)) ∧ w'.cell? ⟨(ad101.add ((x13_1).toNat * 9)).block, (ad101.add ((x13_1).toNat * 9)).off + 7, none⟩ = some (.slice A101_7 ((rd_T45 l0 x13_1).f3.f4).length c101_7) ∧ w'.cell? ⟨(ad101.add ((x13_1).toNat * 9)).block, (ad101.add ((x13_1).toNat * 9)).off + 8, none⟩ = some (.bool ((rd_T45 l0 x13_1).f3.f5)) ∧ w'.cell? (ad102.add ((x13_1).toNat * 9)) = some (.string ((rd_T45 l1 x13_1).f0)) ∧ w'.cell? ⟨(ad102.add ((x13_1).toNat * 9)).block, (ad102.add ((x13_1).toNat * 9)).off + 1, none⟩ = some (.int .i64 ((rd_T45 l1 x13_1).f1)) ∧ w'.cell? ⟨(ad102.add ((x13_1).toNat * 9)).block, (ad102.add ((x13_1).toNat * 9)).off + 2, none⟩ = some (.int .i64 ((rd_T45 l1 x13_1).f2)) ∧ w'.cell? ⟨(ad102.add ((x13_1).toNat * 9)).block, (ad102.add ((x13_1).toNat * 9)).off + 3, none⟩ = some (.int .i64 ((rd_T45 l1 x13_1).f3.f0)) ∧ w'.cell? ⟨(ad102.add ((x13_1).toNat * 9)).block, (ad102.add ((x13_1).toNat * 9)).off + 4, none⟩ = some (.int .i64 ((rd_T45 l1 x13_1).f3.f1)) ∧ w'.cell? ⟨(ad102.add ((x13_1).toNat * 9)).block, (ad102.add ((x13_1).toNat * 9)).off + 5, none⟩ = some (.int .i64 ((rd_T45 l1 x13_1).f3.f2)) ∧ w'.cell? ⟨(ad102.add ((x13_1).toNat * 9)).block, (ad102.add ((x13_1).toNat * 9)).off + 6, none⟩ = some (.int .i64 ((rd_T45 l1 x13_1).f3.f3)) ∧ w'.cell? ⟨(ad102.add ((x13_1).toNat * 9)).block, (ad102.add ((x13_1).toNat * 9)).off + 7, none⟩ = some (.slice A102_7 ((rd_T45 l1 x13_1).f3.f4).length c102_7) ∧ w'.cell? ⟨(ad102.add ((x13_1).toNat * 9)).block, (ad102.add ((x13_1).toNat * 9)).off + 8, none⟩ = some (.bool ((rd_T45 l1 x13_1).f3.f5)) ∧ w'.cell? (ad101.add ((x13_1).toNat * 9)) = some (.string ((rd_T45 l0 x13_1).f0)) ∧ w'.cell? ⟨(ad101.add ((x13_1).toNat * 9)).block, (ad101.add ((x13_1).toNat * 9)).off + 1, none⟩ = some (.int .i64 ((rd_T45 l0 x13_1).f1)) ∧ w'.cell? ⟨(ad101.add ((x13_1).toNat * 9)).block, (ad101.add ((x13_1).toNat * 9)).off + 2, none⟩ = some (.int .i64 ((rd_T45 l0 x13_1).f2)) ∧ w'.cell? ⟨(ad101.add ((x13_1).toNat * 9)).block, (ad101.add ((x13_1).toNat * 9)).off + 3, none⟩ = some (.int .i64 ((rd_T45 l0 x13_1).f3.f0)) ∧ w'.cell? ⟨(ad101.add ((x13_1).toNat * 9)).block, (ad101.add ((x13_1).toNat * 9)).off + 4, none⟩ = some (.int .i64 ((rd_T45 l0 x13_1).f3.f1)) ∧ w'.cell? ⟨(ad101.add ((x13_1).toNat * 9)).block, (ad101.add ((x13_1).toNat * 9)).off + 5, none⟩ = some (.int .i64 ((rd_T45 l0 x13_1).f3.f2)) ∧ w'.cell? ⟨(ad101.add ((x13_1).toNat * 9)).block, (ad101.add ((x13_1).toNat * 9)).off + 6, none⟩ = some (.int .i64 ((rd_T45 l0 x13_1).f3.f3)) ∧ w'.cell? ⟨(ad101.add ((x13_1).toNat * 9)).block, (ad101.add ((x13_1).toNat * 9)).off + 7, none⟩ = some (.slice A101_7 ((rd_T45 l0 x13_1).f3.f4).length c101_7) ∧ w'.cell? ⟨(ad101.add ((x13_1).toNat * 9)).block, (ad101.add ((x13_1).toNat * 9)).off + 8, none⟩ = some (.bool ((rd_T45 l0 x13_1).f3.f5)) ∧ w'.cell? (ad102.add ((x13_1).toNat * 9)) = some (.string ((rd_T45 l1 x13_1).f0)) ∧ w'.cell? ⟨(ad102.add ((x13_1).toNat * 9)).block, (ad102.add ((x13_1).toNat * 9)).off + 1, none⟩ = some (.int .i64 ((rd_T45 l1 x13_1).f1)) ∧ w'.cell? ⟨(ad102.add ((x13_1).toNat * 9)).block, (ad102.add ((x13_1).toNat * 9)).off + 2, none⟩ = some (.int .i64 ((rd_T45 l1 x13_1).f2)) ∧ w'.cell? ⟨(ad102.add ((x13_1).toNat * 9)).block, (ad102.add ((x13_1).toNat * 9)).off + 3, none⟩ = some (.int .i64 ((rd_T45 l1 x13_1).f3.f0)) ∧ w'.cell? ⟨(ad102.add ((x13_1).toNat * 9)).block, (ad102.add ((x13_1).toNat * 9)).off + 4, none⟩ = some (.int .i64 ((rd_T45 l1 x13_1).f3.f1)) ∧ w'.cell? ⟨(ad102.add ((x13_1).toNat * 9)).block, (ad102.add ((x13_1).toNat * 9)).off + 5, none⟩ = some (.int .i64 ((rd_T45 l1 x13_1).f3.f2)) ∧ w'.cell? ⟨(ad102.add ((x13_1).toNat * 9)).block, (ad102.add ((x13_1).toNat * 9)).off + 6, none⟩ = some (.int .i64 ((rd_T45 l1 x13_1).f3.f3)) ∧ w'.cell? ⟨(ad102.add ((x13_1).toNat * 9)).block, (ad102.add ((x13_1).toNat * 9)).off + 7, none⟩ = some (.slice A102_7 ((rd_T45 l1 x13_1).f3.f4).length c102_7) ∧ w'.cell? ⟨(ad102.add ((x13_1).toNat * 9)).block, (ad102.add ((x13_1).toNat * 9)).off + 8, none⟩ = some (.bool ((rd_T45 l1 x13_1).f3.f5))) [] (fun hHeld HT_ HW_ => ?_)
             generalize wr.drew = w13 at HB HR101_7 HR102_7 HR103_7 HR104_7 HR105_7 HR106_7 HR107_7 HR108_7 hx101_0 hx101_1 hx101_2 hx101_3 hx101_4 hx101_5 hx101_6 hx101_7 hx101_8 hx102_0 hx102_1 hx102_2 hx102_3 hx102_4 hx102_5 hx102_6 hx102_7 hx102_8 hx103_0 hx103_1 hx103_2 hx103_3 hx103_4 hx103_5 hx103_6 hx103_7 hx103_8 hx104_0 hx104_1 hx104_2 hx104_3 hx104_4 hx104_5 hx104_6 hx104_7 hx104_8 hx105_0 hx105_1 hx105_2 hx105_3 hx105_4 hx105_5 hx105_6 hx105_7 hx105_8 hx106_0 hx106_1 hx106_2 hx106_3 hx106_4 hx106_5 hx106_6 hx106_7 hx106_8 hx107_0 hx107_1 hx107_2 hx107_3 hx107_4 hx107_5 hx107_6 hx107_7 hx107_8 hx108_0 hx108_1 hx108_2 hx108_3 hx108_4 hx108_5 hx108_6 hx108_7 hx108_8 hHeld ⊢
             refine pA 0 16 HT_ ?_; refine pA 1 17 HT_ ?_; refine pA 2 18 HT_ ?_; refine pA 3 19 HT_ ?_; refine pA 5 21 HT_ ?_; refine pA 6 22 HT_ ?_; refine pA 7 23 HT_ ?_; refine pA 8 24 HT_ ?_; refine tA 4 20 HT_ HW_ hHeld ?_; refine tA 9 25 HT_ HW_ hHeld ?_; refine pA 10 26 HT_ ?_; refine pA 11 27 HT_ ?_; refine pA 12 28 HT_ ?_; refine pA 13 29 HT_ ?_; refine pA 14 30 HT_ ?_; refine pA 15 31 HT_ ?_; refine pA 17 33 HT_ ?_; refine pA 18 34 HT_ ?_; refine pA 19 35 HT_ ?_; refine pA 20 36 HT_ ?_; refine tA 16 32 HT_ HW_ hHeld ?_; refine tA 21 37 HT_ HW_ hHeld ?_; refine pA 22 38 HT_ ?_; refine pA 23 39 HT_ ?_; refine pA 24 40 HT_ ?_; refine pA 25 41 HT_ ?_; refine pA 26 42 HT_ ?_; refine pA 27 43 HT_ ?_; refine pA 28 44 HT_ ?_; refine pA 30 46 HT_ ?_; refine pA 31 47 HT_ ?_; refine pA 32 48 HT_ ?_; refine pA 33 49 HT_ ?_; refine tA 29 45 HT_ HW_ hHeld ?_; refine tA 34 50 HT_ HW_ hHeld ?_; refine pA 35 51 HT_ ?_; refine pA 36 52 HT_ ?_; refine pA 37 53 HT_ ?_; refine pA 38 54 HT_ ?_; refine pA 39 55 HT_ ?_; refine pA 40 56 HT_ ?_; refine pA 41 57 HT_ ?_; refine pA 43 59 HT_ ?_; refine pA 44 60 HT_ ?_; refine pA 45 61 HT_ ?_; refine pA 46 62 HT_ ?_; refine tA 42 58 HT_ HW_ hHeld ?_; refine tA 47 63 HT_ HW_ hHeld ?_; refine oA 48 64 HT_ (fun K hK => ?_)
             refine goes_ Try.func55 (by kernel_rfl) rfl #[.agg #[.int .i64 ((rd_T45 l0 x13_1).f3.f0), .int .i64 ((rd_T45 l0 x13_1).f3.f1), .int .i64 ((rd_T45 l0 x13_1).f3.f2), .int .i64 ((rd_T45 l0 x13_1).f3.f3), .slice A101_7 ((rd_T45 l0 x13_1).f3.f4).length c101_7, .bool ((rd_T45 l0 x13_1).f3.f5)], .agg #[.int .i64 ((rd_T45 l1 x13_1).f3.f0), .int .i64 ((rd_T45 l1 x13_1).f3.f1), .int .i64 ((rd_T45 l1 x13_1).f3.f2), .int .i64 ((rd_T45 l1 x13_1).f3.f3), .slice A102_7 ((rd_T45 l1 x13_1).f3.f4).length c102_7, .bool ((rd_T45 l1 x13_1).f3.f5)]] (by rfl) rfl rfl zee81 ?_
             with_reducible refine (laws_sameAggs.calls k1 ((rd_T45 l0 x13_1).f3.f0) ((rd_T45 l0 x13_1).f3.f1) ((rd_T45 l0 x13_1).f3.f2) ((rd_T45 l0 x13_1).f3.f3) _ _ ((rd_T45 l0 x13_1).f3.f4) ((rd_T45 l0 x13_1).f3.f5) ((rd_T45 l1 x13_1).f3.f0) ((rd_T45 l1 x13_1).f3.f1) ((rd_T45 l1 x13_1).f3.f2) ((rd_T45 l1 x13_1).f3.f3) _ _ ((rd_T45 l1 x13_1).f3.f4) ((rd_T45 l1 x13_1).f3.f5) true _ ?side1 ?side2 ?side3 ?side4 A11.out).mono ?_
             (case side1 => exact (cZ (Kd.C_below HR107_7.out HB.out)))
             (case side2 => exact HC107_7.out)
             (case side3 => exact (cZ (Kd.C_below HR108_7.out HB.out)))
             (case side4 => exact HC108_7.out)
             rintro e w14 ⟨rfl, hb⟩
             refine ⟨_, rfl, ?_⟩
             have _ := aM (below_step hbZ hb)
             clear HB
             rename_i HB
             (try clear hb)
             refine hK.out _ _ sZ (fun hHeld => ?_)
             clear hK K
             refine nA 64 ?_; refine pA 49 65 HT_ ?_; refine pA 50 66 HT_ ?_
             refine done_ (done_of HT_.out (by kernel_rfl)) ?_
             try go_wp2
             go_roundg k1
             case measure => have := HK1.out; omega
             case rel => exact ⟨(wrap64 (x13_1 + 1)), z4458, H', ⟨zfb39⟩, ⟨z5acd⟩⟩
           · replace c12 := Bool.eq_false_iff.mpr c12
             subst c12
             rw [if_neg (show ¬ (false = true) by decide)] at H
             exact absurd H (by simp)
         · rw [if_neg c10] at H
           have c10b0 := eqN c10
           exact absurd H (by simp)
       · rw [if_neg c9] at H
         have c9b0 := eqN c9
         exact absurd H (by simp)
     · rw [if_neg c8] at H
       have c8b0 := eqN c8
       exact absurd H (by simp)
   · rw [if_neg c4] at H
     have c4b0 := nL c4
     clear c4
     obtain rfl := Option.some.inj H
     go_wp2
     go_ret
     exact ⟨z674d, z5acd⟩
def impl_entriesOf.l0 : Nat → ByteArray → List (S45) → List (S45) → Int → Int → Option ((List (S45)))
 | 0, _, _, _, _, _ => none
 | k + 1, x1, x5, x9, x10, x11 => if x11 < x10 then (if 0 ≤ x11 then (if x11 < (x9.length : Int) then (if ((rd_T45 x9 x11).f0).toList = x1.toList then ((impl_Entry_cloned.f ((rd_T45 x9 x11).f0) ((rd_T45 x9 x11).f1) ((rd_T45 x9 x11).f2) ((rd_T45 x9 x11).f3.f0) ((rd_T45 x9 x11).f3.f1) ((rd_T45 x9 x11).f3.f2) ((rd_T45 x9 x11).f3.f3) ((rd_T45 x9 x11).f3.f4) ((rd_T45 x9 x11).f3.f5)).bind fun bt106 => (if x5.length < 1466015503701 then (impl_entriesOf.l0 k x1 (x5 ++ [(⟨bt106.1, bt106.2.1, bt106.2.2.1, (⟨bt106.2.2.2.1, bt106.2.2.2.2.1, bt106.2.2.2.2.2.1, bt106.2.2.2.2.2.2.1, bt106.2.2.2.2.2.2.2.1, bt106.2.2.2.2.2.2.2.2⟩ : S26)⟩ : S45)]) x9 x10 (wrap64 (x11 + 1))) else (none))) else (impl_entriesOf.l0 k x1 x5 x9 x10 (wrap64 (x11 + 1)))) else (none)) else (none)) else (some x5)
def impl_entriesOf.f (k : Nat) (l0 : List (S45)) (a1 : ByteArray) : Option ((List (S45))) := impl_entriesOf.l0 k a1 (([] : List (S45))) l0 (l0.length : Int) 0
theorem impl_entriesOf.mono_l : ∀ k, (∀ y0 y1 y2 y3 y4, LeO (impl_entriesOf.l0 k y0 y1 y2 y3 y4) (impl_entriesOf.l0 (k + 1) y0 y1 y2 y3 y4))
 | 0 => fun _ _ _ _ _ r h => by simp [impl_entriesOf.l0] at h
 | k + 1 => by
  have ih0 := impl_entriesOf.mono_l k
  · intro y0 y1 y2 y3 y4
    unfold impl_entriesOf.l0
    exact moZ
theorem impl_entriesOf.mono : ∀ a0 a1 k, LeO (impl_entriesOf.f k a0 a1) (impl_entriesOf.f (k + 1) a0 a1) := by
 intro a0 a1 k
 have ih0 := impl_entriesOf.mono_l k
 unfold impl_entriesOf.f
 exact moZ
theorem impl_entriesOf.calls (k : Nat) (A0 : Option Addr) (c0 : Nat) (l0 : List (S45)) (a1 : ByteArray) (r : List (S45)) (w : World) (hr0 : Kd.C k45 w A0 l0.length l0) (hc0 : l0.length ≤ c0) (h : impl_entriesOf.f k l0 a1 = some r) :
 Calls Try.prog 56 #[.slice A0 l0.length c0, .string a1] w fun e w' => ∃ v0_ : Value, e = .returned (v0_) ∧ Kd.S k45 45 w' w.heap.size (fun _ => True) v0_ r ∧ Below w.heap.size w w' := by
 have hu45 := Try.underlying45
 have HR0 := aM hr0
 have HC0 := aM hc0
 clear hr0 hc0
 have HB := aM (Below.refl w.heap.size w)
 have H : (impl_entriesOf.l0 k a1 (([] : List (S45))) l0 (l0.length : Int) 0) = some r := h
 clear h
 obtain ⟨y101, hy101⟩ : ∃ y_ : List (S45), y_ = (([] : List (S45))) := ⟨_, rfl⟩
 first | (replace H := bindS H; rw [← hy101] at H; try dsimp only at H) | rw [← hy101] at H
 have Ny101 := aM hy101
 clear hy101
 have H' := aM H
 clear H
 go_enter Try.func56, Try.ntmps56
 go_wp2_with (first | ((with_reducible refine gate_dst (N := 8) rfl ?_); refine Kd.S_lit k45 _ 45 ?hg (N := 8) ?hd (xs := ([] : List (S45))) (inner := []) (ok := fun _ => True) (okp := fun _ => True) ?hr ?hp (fun _ hk => hk) trivial (Below.refl _ _) (Nat.le_refl _) (by simp) ?_; (case hd => rfl); (case hg => rfl); (case hr => first | (go_simp; done) | (go_simp; rfl)); (case hp => exact (Reps.none _ _)); intro v102 w3 ho4 hb hg_ hnew_; clear hg_ hnew_; (first | rw [← Ny101.out] at ho4 | (simp only [Int.reduceToNat] at ho4; rw [← Ny101.out] at ho4)); have _ := aM (Kd.S_lower ho4 (below_size hbZ)); have _ := aM (below_step hbZ hb); clear HB; rename_i HO103 HB; clear hb ho4))
 go_loopg [5, 11] k (fun kq v5 v11 w' => ∃ (x5_1 : List (S45)) (x11_1 : Int), v11 = .int .i64 x11_1 ∧ Aside0 (impl_entriesOf.l0 kq a1 x5_1 l0 (l0.length : Int) x11_1 = some r) ∧ Aside0 (kq ≤ k) ∧ Aside0 (Kd.S k45 45 w' w.heap.size (fun _ => True) v5 x5_1) ∧ Aside0 (Below w.heap.size w w'))
 case atStart => exact ⟨(y101), (0), z4458, H', ⟨Nat.le_refl _⟩, ⟨z1bd3⟩, ⟨z5acd⟩⟩
 case round =>
  clear H'
  obtain ⟨x5_1, x11_1, rfl, HA, HK1, HO_5, HB⟩ := hrel
  cases gk with
  | zero => exact absurd HA.out (by simp [impl_entriesOf.l0])
  | succ k1 =>
   have H := HA.out
   clear HA
   simp only [impl_entriesOf.l0] at H
   by_cases c5 : x11_1 < (l0.length : Int)
   · rw [if_pos c5] at H
     have c5b0 := dL c5
     clear c5
     obtain ⟨c6b0, H⟩ := sE H
     obtain ⟨c7b0, H⟩ := sL H
     by_cases c8 : ((rd_T45 l0 x11_1).f0).toList = a1.toList
     · rw [if_pos c8] at H
       have c8b0 : (((rd_T45 l0 x11_1).f0).toList == a1.toList) = true := beq_iff_eq.mpr c8
       have c8b1 : (((rd_T45 l0 x11_1).f0).toList != a1.toList) = false := bne_eq_false_iff_eq.mpr c8
       clear c8
       obtain ⟨⟨t106, t107, t108, t109, t110, t111, t112, t113, t116⟩, A9, H⟩ := bS H; try dsimp only at H
       obtain ⟨LMc10, H⟩ := sM H
       obtain ⟨y117, hy117⟩ : ∃ y_ : List (S45), y_ = (x5_1 ++ [(⟨t106, t107, t108, (⟨t109, t110, t111, t112, t113, t116⟩ : S26)⟩ : S45)]) := ⟨_, rfl⟩
       first | (replace H := bindS H; rw [← hy117] at H; try dsimp only at H) | rw [← hy117] at H
       have Ny117 := aM hy117
       clear hy117
       have H' := aM H
       clear H
       have p104 : 0 ≤ (x11_1 : Int) := of_decide_eq_true z1200
       have q104 : x11_1 < (l0.length : Int) := of_decide_eq_true z1200
       obtain ⟨ad104, A104_7, c104_7, e104, hx104_0, hx104_1, hx104_2, hx104_3, hx104_4, hx104_5, hx104_6, hx104_7, hx104_8, hl104_7, hi104_7⟩ := at_T45 HR0.out x11_1 p104 q104
       cases e104
       have TW104_7 := aM hx104_7
       replace hx104_0 := (HB.out.cell (World.block_lt_of_cell? w _ hx104_0)).trans hx104_0
       replace hx104_1 := (HB.out.cell (World.block_lt_of_cell? w _ hx104_1)).trans hx104_1
       replace hx104_2 := (HB.out.cell (World.block_lt_of_cell? w _ hx104_2)).trans hx104_2
       replace hx104_3 := (HB.out.cell (World.block_lt_of_cell? w _ hx104_3)).trans hx104_3
       replace hx104_4 := (HB.out.cell (World.block_lt_of_cell? w _ hx104_4)).trans hx104_4
       replace hx104_5 := (HB.out.cell (World.block_lt_of_cell? w _ hx104_5)).trans hx104_5
       replace hx104_6 := (HB.out.cell (World.block_lt_of_cell? w _ hx104_6)).trans hx104_6
       replace hx104_7 := (HB.out.cell (World.block_lt_of_cell? w _ hx104_7)).trans hx104_7
       replace hx104_8 := (HB.out.cell (World.block_lt_of_cell? w _ hx104_8)).trans hx104_8
       have HR104_7 := aM hi104_7
       have HC104_7 := aM hl104_7
       clear hi104_7 hl104_7
       replace p104 := eq_true p104
       replace q104 := eq_true q104
       go_wp2_with (first | ((with_reducible refine gate_dst (N := 7) rfl ?_); refine bX 7 45 #[.string (⟨#[]⟩ : ByteArray), .int .i64 0, .int .i64 0, .int .i64 0, .int .i64 0, .int .i64 0, .int .i64 0, .slice none 0 0, .bool false] ?_; intro gb105 hg w11 hbox hb; have _ := aM (Kd.S_below (Kd.S_elderB z423e gb105 (Nat.le_of_eq hg.symm)) hb); have _ := aM (below_step hbZ hb); have _ := aM hbox; have _ := szZ hg; have _ := szZ hg; clear HO_5 HB; rename_i HO_5 HB BK105 GW105 GE105; clear hb hbox hg; have hz12 := cellsZ9 BK105.out) | ((with_reducible refine gate_callee (f := 72) rfl ?_); refine gL 21 Try.func72 #[.agg #[.string ((rd_T45 l0 x11_1).f0), .int .i64 ((rd_T45 l0 x11_1).f1), .int .i64 ((rd_T45 l0 x11_1).f2), .int .i64 ((rd_T45 l0 x11_1).f3.f0), .int .i64 ((rd_T45 l0 x11_1).f3.f1), .int .i64 ((rd_T45 l0 x11_1).f3.f2), .int .i64 ((rd_T45 l0 x11_1).f3.f3), .slice A104_7 ((rd_T45 l0 x11_1).f3.f4).length c104_7, .bool ((rd_T45 l0 x11_1).f3.f5)]] ?_; (with_reducible refine (impl_Entry_cloned.calls ((rd_T45 l0 x11_1).f0) ((rd_T45 l0 x11_1).f1) ((rd_T45 l0 x11_1).f2) ((rd_T45 l0 x11_1).f3.f0) ((rd_T45 l0 x11_1).f3.f1) ((rd_T45 l0 x11_1).f3.f2) ((rd_T45 l0 x11_1).f3.f3) _ _ ((rd_T45 l0 x11_1).f3.f4) ((rd_T45 l0 x11_1).f3.f5) t106 t107 t108 t109 t110 t111 t112 t113 t116 _ ?side1 ?side2 A9.out).mono ?_); (case side1 => exact Kd.C_below HR104_7.out hbZ); (case side2 => exact HC104_7.out); rintro e w13 ⟨v114, rfl, ho0, hb⟩; refine ⟨_, rfl, ?_⟩; have _ := aM (Kd.S_elder' (by (with_reducible repeat (first | apply Kd.S_alloc | apply Kd.S_drewN | apply Kd.S_drew)); exact (Kd.S_mono (Kd.S_far (p := ⟨gb105, 8, none⟩) (Kd.S_far (p := ⟨gb105, 7, none⟩) (Kd.S_far (p := ⟨gb105, 6, none⟩) (Kd.S_far (p := ⟨gb105, 5, none⟩) (Kd.S_far (p := ⟨gb105, 4, none⟩) (Kd.S_far (p := ⟨gb105, 3, none⟩) (Kd.S_far (p := ⟨gb105, 2, none⟩) (Kd.S_far (p := ⟨gb105, 1, none⟩) (Kd.S_far (p := ⟨gb105, 0, none⟩) (Kd.S_mono HO_5.out (fun k_ hk => (⟨hk, hk.2⟩ : _ ∧ k_ ≠ gb105))) (fun _ hk => hk.2) (.string ((rd_T45 l0 x11_1).f0))) (fun _ hk => hk.2) (.int .i64 ((rd_T45 l0 x11_1).f1))) (fun _ hk => hk.2) (.int .i64 ((rd_T45 l0 x11_1).f2))) (fun _ hk => hk.2) (.int .i64 ((rd_T45 l0 x11_1).f3.f0))) (fun _ hk => hk.2) (.int .i64 ((rd_T45 l0 x11_1).f3.f1))) (fun _ hk => hk.2) (.int .i64 ((rd_T45 l0 x11_1).f3.f2))) (fun _ hk => hk.2) (.int .i64 ((rd_T45 l0 x11_1).f3.f3))) (fun _ hk => hk.2) (.slice A104_7 ((rd_T45 l0 x11_1).f3.f4).length c104_7)) (fun _ hk => hk.2) (.bool ((rd_T45 l0 x11_1).f3.f5))) (fun _ h_ => h_.1))) (Kd.R_base ho0) hb); have _ := aM (Kd.R_lower ho0 (below_size hbZ)); have _ := aM (blk_below (g := gb105) (o := .cells #[.string ((rd_T45 l0 x11_1).f0), .int .i64 ((rd_T45 l0 x11_1).f1), .int .i64 ((rd_T45 l0 x11_1).f2), .int .i64 ((rd_T45 l0 x11_1).f3.f0), .int .i64 ((rd_T45 l0 x11_1).f3.f1), .int .i64 ((rd_T45 l0 x11_1).f3.f2), .int .i64 ((rd_T45 l0 x11_1).f3.f3), .slice A104_7 ((rd_T45 l0 x11_1).f3.f4).length c104_7, .bool ((rd_T45 l0 x11_1).f3.f5)] 45 (0, 0)) bkZ hb); have _ := aM (below_step hbZ hb); clear HO_5 BK105 HB; rename_i HO_5 HO115 BK105 HB; (try clear hb); (try clear ho0); obtain ⟨Ao15, co15, eo15⟩ := Kd.R_slice HO115.out; subst eo15) | ((with_reducible refine gate_builtin (b := .append) (xs := #[.tmp 19, .tmp 22]) rfl ?_); at_builtin; refine Kd.S_append k45 (w0 := w) w.heap.size rfl (.tmp 19) (.tmp 22) 29 45 (.agg #[(.string ⟨#[]⟩), (.int .i64 0), (.int .i64 0), (.int .i64 0), (.int .i64 0), (.int .i64 0), (.int .i64 0), (.slice none 0 0), (.bool false)]) 96 rfl Try.underlying29 info45 rfl (by decide) (by omega) u5 x5_1 (⟨t106, t107, t108, (⟨t109, t110, t111, t112, t113, t116⟩ : S26)⟩ : S45) [.string t106, .int .i64 t107, .int .i64 t108, .int .i64 t109, .int .i64 t110, .int .i64 t111, .int .i64 t112, .slice Ao15 t113.length co15, .bool t116] (fun k_ => k_ ≠ gb105) (fun k_ => some k_ = (.slice Ao15 t113.length co15 : Value).ownBlock) rfl rfl ?aP (fun k_ hk_ => ((Kd.R_mono (ok' := fun k_ => ((fun k_ => k_ ≠ gb105)) k_ ∧ some k_ ≠ (u5 : Value).ownBlock) (Kd.R_types (Kd.R_apart' (HO115.out) (Kd.S_typed HO_5.out) (by decide)) BK105.out (by decide)) (fun k_ hk => ⟨hk.2, hk.1.2⟩))).1 k_ hk_.symm) ?aF ?aO ?aB ?aS ?aL ?_; (case aP => exact k45_mkM _ _ _ (⟨t106, t107, t108, (⟨t109, t110, t111, t112, t113, t116⟩ : S26)⟩ : S45) (Kd.R_mono (Kd.R_tight rfl (Kd.R_mono (ok' := fun k_ => ((fun k_ => k_ ≠ gb105)) k_ ∧ some k_ ≠ (u5 : Value).ownBlock) (Kd.R_types (Kd.R_apart' (HO115.out) (Kd.S_typed HO_5.out) (by decide)) BK105.out (by decide)) (fun k_ hk => ⟨hk.2, hk.1.2⟩))) (fun _ h_ => h_))); (case aB => exact hbZ); (case aF => exact (fun k_ hk => Kd.freshB (g := gb105) bkZ k_ hk)); (case aO => exact (by (with_reducible repeat (first | apply Kd.S_alloc | apply Kd.S_drewN | apply Kd.S_drew)); exact Kd.S_mono HO_5.out (fun k_ hk => ⟨hk.1.2, fun e_ => hk.2 e_⟩))); (case aS => exact (below_size hbZ)); (case aL => have := LMc10.out; omega); intro v118 w14 ho hb hg hat; rw [← Ny117.out] at ho; have _ := aM (blk_grown (g := gb105) bkZ hg (Kd.S_away HO_5.out (fun _ hk => hk.1.2))); have _ := aM hb; have _ := aM ho; clear BK105 HB HO_5 HO115; rename_i BK105 HB HO119; clear ho hb hg hat))
       go_roundg k1
       case measure => have := HK1.out; omega
       case rel => exact ⟨(y117), (wrap64 (x11_1 + 1)), z4458, H', ⟨zfb39⟩, ⟨by (with_reducible repeat (first | apply Kd.S_alloc | apply Kd.S_drewN | apply Kd.S_drew)); exact Kd.S_mono HO119.out (fun _ hk => trivial)⟩, ⟨zcb41⟩⟩
     · rw [if_neg c8] at H
       have c8b0 := eqN c8
       have H' := aM H
       clear H
       have p104 : 0 ≤ (x11_1 : Int) := of_decide_eq_true z1200
       have q104 : x11_1 < (l0.length : Int) := of_decide_eq_true z1200
       obtain ⟨ad104, A104_7, c104_7, e104, hx104_0, hx104_1, hx104_2, hx104_3, hx104_4, hx104_5, hx104_6, hx104_7, hx104_8, hl104_7, hi104_7⟩ := at_T45 HR0.out x11_1 p104 q104
       cases e104
       have TW104_7 := aM hx104_7
       replace hx104_0 := (HB.out.cell (World.block_lt_of_cell? w _ hx104_0)).trans hx104_0
       replace hx104_1 := (HB.out.cell (World.block_lt_of_cell? w _ hx104_1)).trans hx104_1
       replace hx104_2 := (HB.out.cell (World.block_lt_of_cell? w _ hx104_2)).trans hx104_2
       replace hx104_3 := (HB.out.cell (World.block_lt_of_cell? w _ hx104_3)).trans hx104_3
       replace hx104_4 := (HB.out.cell (World.block_lt_of_cell? w _ hx104_4)).trans hx104_4
       replace hx104_5 := (HB.out.cell (World.block_lt_of_cell? w _ hx104_5)).trans hx104_5
       replace hx104_6 := (HB.out.cell (World.block_lt_of_cell? w _ hx104_6)).trans hx104_6
       replace hx104_7 := (HB.out.cell (World.block_lt_of_cell? w _ hx104_7)).trans hx104_7
       replace hx104_8 := (HB.out.cell (World.block_lt_of_cell? w _ hx104_8)).trans hx104_8
       have HR104_7 := aM hi104_7
       have HC104_7 := aM hl104_7
       clear hi104_7 hl104_7
       replace p104 := eq_true p104
       replace q104 := eq_true q104
       go_wp2_with (first | ((with_reducible refine gate_dst (N := 7) rfl ?_); refine bX 7 45 #[.string (⟨#[]⟩ : ByteArray), .int .i64 0, .int .i64 0, .int .i64 0, .int .i64 0, .int .i64 0, .int .i64 0, .slice none 0 0, .bool false] ?_; intro gb105 hg w16 hbox hb; have _ := aM (Kd.S_below (Kd.S_elderB z423e gb105 (Nat.le_of_eq hg.symm)) hb); have _ := aM (below_step hbZ hb); have _ := aM hbox; have _ := szZ hg; have _ := szZ hg; clear HO_5 HB; rename_i HO_5 HB BK105 GW105 GE105; clear hb hbox hg; have hz17 := cellsZ9 BK105.out))
       go_roundg k1
       case measure => have := HK1.out; omega
       case rel => exact ⟨(x5_1), (wrap64 (x11_1 + 1)), z4458, H', ⟨zfb39⟩, ⟨by (with_reducible repeat (first | apply Kd.S_alloc | apply Kd.S_drewN | apply Kd.S_drew)); exact Kd.S_mono (Kd.S_far (p := ⟨gb105, 8, none⟩) (Kd.S_far (p := ⟨gb105, 7, none⟩) (Kd.S_far (p := ⟨gb105, 6, none⟩) (Kd.S_far (p := ⟨gb105, 5, none⟩) (Kd.S_far (p := ⟨gb105, 4, none⟩) (Kd.S_far (p := ⟨gb105, 3, none⟩) (Kd.S_far (p := ⟨gb105, 2, none⟩) (Kd.S_far (p := ⟨gb105, 1, none⟩) (Kd.S_far (p := ⟨gb105, 0, none⟩) (Kd.S_mono HO_5.out (fun k_ hk => (⟨hk, hk.2⟩ : _ ∧ k_ ≠ gb105))) (fun _ hk => hk.2) (.string ((rd_T45 l0 x11_1).f0))) (fun _ hk => hk.2) (.int .i64 ((rd_T45 l0 x11_1).f1))) (fun _ hk => hk.2) (.int .i64 ((rd_T45 l0 x11_1).f2))) (fun _ hk => hk.2) (.int .i64 ((rd_T45 l0 x11_1).f3.f0))) (fun _ hk => hk.2) (.int .i64 ((rd_T45 l0 x11_1).f3.f1))) (fun _ hk => hk.2) (.int .i64 ((rd_T45 l0 x11_1).f3.f2))) (fun _ hk => hk.2) (.int .i64 ((rd_T45 l0 x11_1).f3.f3))) (fun _ hk => hk.2) (.slice A104_7 ((rd_T45 l0 x11_1).f3.f4).length c104_7)) (fun _ hk => hk.2) (.bool ((rd_T45 l0 x11_1).f3.f5))) (fun _ hk => trivial)⟩, ⟨zcb41⟩⟩
   · rw [if_neg c5] at H
     have c5b0 := nL c5
     clear c5
     obtain rfl := Option.some.inj H
     go_wp2
     go_ret
     exact ⟨_, z674d, z423e, z5acd⟩
def impl_EntriesOf.f (k : Nat) (l0 : List (S45)) (a1 : ByteArray) : Option ((List (S45)) × Bool) := (impl_GoodEntries.f k l0).bind fun t101 => (if t101 = true then ((impl_entriesOf.f k l0 a1).bind fun t102 => (some (t102, true))) else (some (([] : List (S45)), false)))
theorem impl_EntriesOf.mono : ∀ a0 a1 k, LeO (impl_EntriesOf.f k a0 a1) (impl_EntriesOf.f (k + 1) a0 a1) := by
 intro a0 a1 k
 have m0 := @impl_GoodEntries.mono; have m1 := @impl_entriesOf.mono
 unfold impl_EntriesOf.f
 exact moZ
theorem impl_EntriesOf.calls (k : Nat) (A0 : Option Addr) (c0 : Nat) (l0 : List (S45)) (a1 : ByteArray) (r1 : List (S45)) (r2 : Bool) (w : World) (hr0 : Kd.C k45 w A0 l0.length l0) (hc0 : l0.length ≤ c0) (h : impl_EntriesOf.f k l0 a1 = some (r1, r2)) :
 Calls Try.prog 27 #[.slice A0 l0.length c0, .string a1] w fun e w' => ∃ v0_ : Value, e = .returned (.tuple #[v0_, .bool r2]) ∧ Kd.S k45 45 w' w.heap.size (fun _ => True) v0_ r1 ∧ Below w.heap.size w w' := by
 have HR0 := aM hr0
 have HC0 := aM hc0
 clear hr0 hc0
 have HB := aM (Below.refl w.heap.size w)
 have H : ((impl_GoodEntries.f k l0).bind fun t101 => (if t101 = true then ((impl_entriesOf.f k l0 a1).bind fun t102 => (some (t102, true))) else (some (([] : List (S45)), false)))) = some (r1, r2) := h
 clear h
 obtain ⟨t101, A3, H⟩ := bS H; try dsimp only at H
 by_cases c4 : t101 = true
 · subst c4
   rw [if_pos rfl] at H
   obtain ⟨t102, A5, H⟩ := bS H; try dsimp only at H
   simp only [Option.some.injEq, Prod.mk.injEq] at H
   obtain ⟨rfl, rfl⟩ := H
   go_enter Try.func27, Try.ntmps27
   go_wp2_with (first | ((with_reducible refine gate_callee (f := 28) rfl ?_); refine gL 7 Try.func28 #[.slice A0 l0.length c0] ?_; (with_reducible refine (impl_GoodEntries.calls k _ _ l0 true _ ?side1 ?side2 A3.out).mono ?_); (case side1 => exact z4195); (case side2 => exact HC0.out); rintro e w6 ⟨rfl, hb⟩; refine ⟨_, rfl, ?_⟩; have _ := aM (below_step hbZ hb); clear HB; rename_i HB; (try clear hb)) | ((with_reducible refine gate_callee (f := 56) rfl ?_); refine gL 11 Try.func56 #[.slice A0 l0.length c0, .string a1] ?_; (with_reducible refine (impl_entriesOf.calls k _ _ l0 a1 t102 _ ?side1 ?side2 A5.out).mono ?_); (case side1 => exact (cZ (Kd.C_below HR0.out HB.out))); (case side2 => exact HC0.out); rintro e w7 ⟨v103, rfl, ho0, hb⟩; refine ⟨_, rfl, ?_⟩; have _ := aM (Kd.S_lower ho0 (below_size hbZ)); have _ := aM (below_step hbZ hb); clear HB; rename_i HO104 HB; (try clear hb); (try clear ho0)))
   go_ret2
   exact ⟨_, z674d, by (with_reducible repeat (first | apply Kd.S_alloc | apply Kd.S_drewN | apply Kd.S_drew)); exact HO104.out, z5acd⟩
 · replace c4 := Bool.eq_false_iff.mpr c4
   subst c4
   rw [if_neg (show ¬ (false = true) by decide)] at H
   simp only [Option.some.injEq, Prod.mk.injEq] at H
   obtain ⟨rfl, rfl⟩ := H
   go_enter Try.func27, Try.ntmps27
   go_wp2_with (first | ((with_reducible refine gate_callee (f := 28) rfl ?_); refine gL 7 Try.func28 #[.slice A0 l0.length c0] ?_; (with_reducible refine (impl_GoodEntries.calls k _ _ l0 false _ ?side1 ?side2 A3.out).mono ?_); (case side1 => exact z4195); (case side2 => exact HC0.out); rintro e w8 ⟨rfl, hb⟩; refine ⟨_, rfl, ?_⟩; have _ := aM (below_step hbZ hb); clear HB; rename_i HB; (try clear hb)))
   go_ret2
   exact ⟨_, z674d, z2bfb, z5acd⟩
mutual
def spec_DrawTowerPath.l0 : Nat → List ByteArray → List Int → List ByteArray → Int → Int → List Int → Int → Int → Option (List ByteArray × List Int × ByteArray)
 | 0, _, _, _, _, _, _, _, _ => none
 | k + 1, x6, x7, x14, x15, x16, x102000, x102001, x102002 => if x16 < x15 then (if 0 ≤ x16 then (if x16 < (x14.length : Int) then ((spec_l1Cur_one.f x102000 x102001 x102002 2).bind fun bt106 => (if bt106.1 = true then (if x6.length < 8796093022208 then (spec_DrawTowerPath.l1 k (x6 ++ [rdOf ByteArray.empty x14 x16]) x7 1 x14 x15 x16 x102000 bt106.2.1 bt106.2.2) else (none)) else (spec_DrawTowerPath.l0 k x6 x7 x14 x15 (wrap64 (x16 + 1)) x102000 bt106.2.1 bt106.2.2))) else (none)) else (none)) else ((spec_l1Cur_pick.f x102000 x102001 x102002 30).bind fun bt121 => (if bt121.1 = 0 then (if x7.length < 17592186044416 then ((spec_l1Cur_keyText.f x102000 bt121.2.1 bt121.2.2).bind fun bt127 => (some (x6, (x7 ++ [1]), bt127.1))) else (none)) else (if bt121.1 = 1 then (if (x7.length : Int) > 0 then ((spec_l1Cur_among.f x102000 bt121.2.1 bt121.2.2 (([0, 7] : List Int))).bind fun bt133 => (if 0 < (x7.length : Int) then ((spec_l1Cur_keyText.f x102000 bt133.2.1 bt133.2.2).bind fun bt137 => (some (x6, (x7.set (0 : Int).toNat bt133.1), bt137.1))) else (none))) else ((spec_l1Cur_keyText.f x102000 bt121.2.1 bt121.2.2).bind fun bt140 => (some (x6, x7, bt140.1)))) else (if bt121.1 = 2 then (if x6.length < 8796093022208 then (if x7.length < 17592186044416 then ((spec_l1Cur_keyText.f x102000 bt121.2.1 bt121.2.2).bind fun bt149 => (some ((x6 ++ [(⟨#[97]⟩ : ByteArray)]), (x7 ++ [1]), bt149.1))) else (none)) else (none)) else ((spec_l1Cur_keyText.f x102000 bt121.2.1 bt121.2.2).bind fun bt152 => (some (x6, x7, bt152.1)))))))
def spec_DrawTowerPath.l1 : Nat → List ByteArray → List Int → Int → List ByteArray → Int → Int → List Int → Int → Int → Option (List ByteArray × List Int × ByteArray)
 | 0, _, _, _, _, _, _, _, _, _ => none
 | k + 1, x6, x7, x10, x14, x15, x16, x102000, x102001, x102002 => if x10 < 6 then ((spec_l1Cur_one.f x102000 x102001 x102002 2).bind fun bt112 => (if bt112.1 = true then (spec_DrawTowerPath.l1 k x6 x7 (wrap64 (x10 + 1)) x14 x15 x16 x102000 bt112.2.1 bt112.2.2) else (if x7.length < 17592186044416 then (spec_DrawTowerPath.l0 k x6 (x7 ++ [x10]) x14 x15 (wrap64 (x16 + 1)) x102000 bt112.2.1 bt112.2.2) else (none)))) else (if x7.length < 17592186044416 then (spec_DrawTowerPath.l0 k x6 (x7 ++ [x10]) x14 x15 (wrap64 (x16 + 1)) x102000 x102001 x102002) else (none))
end
def spec_DrawTowerPath.f (k : Nat) (l0 : List Int) : Option (List ByteArray × List Int × ByteArray) := (some (([(⟨#[97]⟩ : ByteArray), (⟨#[97, 98]⟩ : ByteArray), (⟨#[98]⟩ : ByteArray), (⟨#[98, 97]⟩ : ByteArray), (⟨#[99]⟩ : ByteArray), (⟨#[99, 112, 117]⟩ : ByteArray), (⟨#[100]⟩ : ByteArray), (⟨#[109]⟩ : ByteArray), (⟨#[122]⟩ : ByteArray)] : List ByteArray) : List ByteArray)).bind fun y102 => (spec_DrawTowerPath.l0 k ([] : List ByteArray) ([] : List Int) y102 (y102.length : Int) 0 l0 0 0)
theorem spec_DrawTowerPath.mono_l : ∀ k, (∀ y0 y1 y2 y3 y4 y5 y6 y7, LeO (spec_DrawTowerPath.l0 k y0 y1 y2 y3 y4 y5 y6 y7) (spec_DrawTowerPath.l0 (k + 1) y0 y1 y2 y3 y4 y5 y6 y7)) ∧ (∀ y0 y1 y2 y3 y4 y5 y6 y7 y8, LeO (spec_DrawTowerPath.l1 k y0 y1 y2 y3 y4 y5 y6 y7 y8) (spec_DrawTowerPath.l1 (k + 1) y0 y1 y2 y3 y4 y5 y6 y7 y8))
 | 0 => ⟨fun _ _ _ _ _ _ _ _ r h => by simp [spec_DrawTowerPath.l0] at h, fun _ _ _ _ _ _ _ _ _ r h => by simp [spec_DrawTowerPath.l1] at h⟩
 | k + 1 => by
  obtain ⟨ih0, ih1⟩ := spec_DrawTowerPath.mono_l k
  refine ⟨?_, ?_⟩
  · intro y0 y1 y2 y3 y4 y5 y6 y7
    unfold spec_DrawTowerPath.l0
    exact moZ
  · intro y0 y1 y2 y3 y4 y5 y6 y7 y8
    unfold spec_DrawTowerPath.l1
    exact moZ
theorem spec_DrawTowerPath.mono : ∀ a0 k, LeO (spec_DrawTowerPath.f k a0) (spec_DrawTowerPath.f (k + 1) a0) := by
 intro a0 k
 obtain ⟨ih0, ih1⟩ := spec_DrawTowerPath.mono_l k
 unfold spec_DrawTowerPath.f
 exact moZ
theorem spec_DrawTowerPath.calls (k : Nat) (A0 : Option Addr) (c0 : Nat) (l0 : List Int) (r1 : List ByteArray) (r2 : List Int) (r3 : ByteArray) (w : World) (hr0 : Kd.C (Kd.int .u8) w A0 l0.length l0) (hc0 : l0.length ≤ c0) (h : spec_DrawTowerPath.f k l0 = some (r1, r2, r3)) :
 Calls Try.prog 29 #[.slice A0 l0.length c0] w fun e w' => ∃ v0_ v1_ : Value, e = .returned (.tuple #[v0_, v1_, .string r3]) ∧ Kd.R Kd.string 9 w' w.heap.size (fun _ => True) v0_ r1 ∧ Kd.R (Kd.int .i64) 3 w' w.heap.size (fun _ => True) v1_ r2 ∧ Below w.heap.size w w' := by
 have hu76 := Try.underlying76
 have HR0 := aM hr0
 have HC0 := aM hc0
 clear hr0 hc0
 have HB := aM (Below.refl w.heap.size w)
 have H : ((some (([(⟨#[97]⟩ : ByteArray), (⟨#[97, 98]⟩ : ByteArray), (⟨#[98]⟩ : ByteArray), (⟨#[98, 97]⟩ : ByteArray), (⟨#[99]⟩ : ByteArray), (⟨#[99, 112, 117]⟩ : ByteArray), (⟨#[100]⟩ : ByteArray), (⟨#[109]⟩ : ByteArray), (⟨#[122]⟩ : ByteArray)] : List ByteArray) : List ByteArray)).bind fun y102 => (spec_DrawTowerPath.l0 k ([] : List ByteArray) ([] : List Int) y102 (y102.length : Int) 0 l0 0 0)) = some (r1, r2, r3) := h
 clear h
 obtain ⟨y102, hy102⟩ : ∃ y_ : List ByteArray, y_ = (([(⟨#[97]⟩ : ByteArray), (⟨#[97, 98]⟩ : ByteArray), (⟨#[98]⟩ : ByteArray), (⟨#[98, 97]⟩ : ByteArray), (⟨#[99]⟩ : ByteArray), (⟨#[99, 112, 117]⟩ : ByteArray), (⟨#[100]⟩ : ByteArray), (⟨#[109]⟩ : ByteArray), (⟨#[122]⟩ : ByteArray)] : List ByteArray)) := ⟨_, rfl⟩
 first | (replace H := bindS H; rw [← hy102] at H; try dsimp only at H) | rw [← hy102] at H
 have Ny102 := aM hy102
 clear hy102
 have H' := aM H
 clear H
 go_enter Try.func29, Try.ntmps29
 go_wp2_with (first | ((with_reducible refine gate_dst (N := 13) rfl ?_); refine bX 13 76 #[.slice A0 l0.length c0, .int .i64 0, .int .u64 0] ?_; intro gb101 hg w2 hbox hb; have _ := aM (below_step hbZ hb); have _ := szZ hg; have _ := szZ hg; have _ := aM ((show IsS76 w w2 gb101 l0 0 0 from ⟨_, _, hbox, (by rw [hg]; exact (below_size hbZ) : w.heap.size ≤ gb101), HR0.out⟩)); clear HB; rename_i HB GW101 GE101 HI101; clear hb hbox hg) | ((with_reducible refine gate_dst (N := 14) rfl ?_); refine Kd.R_lit Kd.string _ 9 ?hg (N := 14) ?hd (xs := ([(⟨#[97]⟩ : ByteArray), (⟨#[97, 98]⟩ : ByteArray), (⟨#[98]⟩ : ByteArray), (⟨#[98, 97]⟩ : ByteArray), (⟨#[99]⟩ : ByteArray), (⟨#[99, 112, 117]⟩ : ByteArray), (⟨#[100]⟩ : ByteArray), (⟨#[109]⟩ : ByteArray), (⟨#[122]⟩ : ByteArray)] : List ByteArray)) (inner := [.string (⟨#[97]⟩ : ByteArray), .string (⟨#[97, 98]⟩ : ByteArray), .string (⟨#[98]⟩ : ByteArray), .string (⟨#[98, 97]⟩ : ByteArray), .string (⟨#[99]⟩ : ByteArray), .string (⟨#[99, 112, 117]⟩ : ByteArray), .string (⟨#[100]⟩ : ByteArray), .string (⟨#[109]⟩ : ByteArray), .string (⟨#[122]⟩ : ByteArray)]) (ok := fun _ => True) (okp := fun _ => True) ?hr ?hp (fun _ hk => hk) trivial (Below.refl _ _) (Nat.le_refl _) (by simp) ?_; (case hd => rfl); (case hg => rfl); (case hr => first | (go_simp; done) | (go_simp; rfl)); (case hp => exact (Reps.one (show Kd.M Kd.string _ _ _ (⟨#[97]⟩ : ByteArray) [.string (⟨#[97]⟩ : ByteArray)] from rfl) (Reps.one (show Kd.M Kd.string _ _ _ (⟨#[97, 98]⟩ : ByteArray) [.string (⟨#[97, 98]⟩ : ByteArray)] from rfl) (Reps.one (show Kd.M Kd.string _ _ _ (⟨#[98]⟩ : ByteArray) [.string (⟨#[98]⟩ : ByteArray)] from rfl) (Reps.one (show Kd.M Kd.string _ _ _ (⟨#[98, 97]⟩ : ByteArray) [.string (⟨#[98, 97]⟩ : ByteArray)] from rfl) (Reps.one (show Kd.M Kd.string _ _ _ (⟨#[99]⟩ : ByteArray) [.string (⟨#[99]⟩ : ByteArray)] from rfl) (Reps.one (show Kd.M Kd.string _ _ _ (⟨#[99, 112, 117]⟩ : ByteArray) [.string (⟨#[99, 112, 117]⟩ : ByteArray)] from rfl) (Reps.one (show Kd.M Kd.string _ _ _ (⟨#[100]⟩ : ByteArray) [.string (⟨#[100]⟩ : ByteArray)] from rfl) (Reps.one (show Kd.M Kd.string _ _ _ (⟨#[109]⟩ : ByteArray) [.string (⟨#[109]⟩ : ByteArray)] from rfl) (Reps.one (show Kd.M Kd.string _ _ _ (⟨#[122]⟩ : ByteArray) [.string (⟨#[122]⟩ : ByteArray)] from rfl) (Reps.none _ _))))))))))); intro v103 w3 ho4 hb hg_ hnew_; clear hg_ hnew_; (first | rw [← Ny102.out] at ho4 | (simp only [Int.reduceToNat] at ho4; rw [← Ny102.out] at ho4)); have _ := aM (Kd.R_lower ho4 (below_size zc59d)); have _ := aM (IsS76.below z00c4 hb); have _ := aM (below_step zc59d hb); clear HI101 HB; rename_i HO104 HI101 HB; clear hb ho4; obtain ⟨Ao5, co5, eo5⟩ := Kd.R_slice HO104.out; subst eo5))
 go_loopg [6, 7, 16] k (fun kq v6 v7 v16 w' => ∃ (x6_1 : List ByteArray) (x7_1 : List Int) (x16_1 : Int) (x102001_1 : Int) (x102002_1 : Int), v16 = .int .i64 x16_1 ∧ Aside0 (spec_DrawTowerPath.l0 kq x6_1 x7_1 y102 (y102.length : Int) x16_1 l0 x102001_1 x102002_1 = some (r1, r2, r3)) ∧ Aside0 (kq ≤ k) ∧ Aside0 (Kd.R Kd.string 9 w' w.heap.size (fun k_ => some k_ ≠ ((.slice Ao5 y102.length co5) : Value).ownBlock) v6 x6_1) ∧ Aside0 (Kd.R (Kd.int .i64) 3 w' w.heap.size (fun _ => True) v7 x7_1) ∧ Aside0 (Kd.R Kd.string 9 w' w.heap.size (fun k_ => some k_ ≠ (v6 : Value).ownBlock) (.slice Ao5 y102.length co5) y102) ∧ Aside0 (IsS76 w w' gb101 l0 x102001_1 x102002_1) ∧ Aside0 (Below w.heap.size w w'))
 case atStart => exact ⟨(([] : List ByteArray)), (([] : List Int)), (0), (0), (0), z4458, H', ⟨Nat.le_refl _⟩, ⟨z02fa⟩, ⟨z02fa⟩, ⟨by (with_reducible repeat (first | apply Kd.R_alloc | apply Kd.R_drewN | apply Kd.R_drew)); exact Kd.R_mono HO104.out (fun _ hk => (by simp [Value.ownBlock]))⟩, ⟨z00c4⟩, ⟨zc59d⟩⟩
 case round =>
  clear H'
  obtain ⟨x6_1, x7_1, x16_1, x102001_1, x102002_1, rfl, HA, HK1, HO_6, HO_7, HO_14, HI101, HB⟩ := hrel
  cases gk with
  | zero => exact absurd HA.out (by simp [spec_DrawTowerPath.l0])
  | succ k1 =>
   have H := HA.out
   clear HA
   simp only [spec_DrawTowerPath.l0] at H
   by_cases c6 : x16_1 < (y102.length : Int)
   · rw [if_pos c6] at H
     have c6b0 := dL c6
     clear c6
     obtain ⟨c7b0, H⟩ := sE H
     obtain ⟨c8b0, H⟩ := sL H
     obtain ⟨⟨t106, t107, t108⟩, A9, H⟩ := bS H; try dsimp only at H
     by_cases c10 : t106 = true
     · subst c10
       rw [if_pos rfl] at H
       obtain ⟨LMc11, H⟩ := sM H
       obtain ⟨y109, hy109⟩ : ∃ y_ : List ByteArray, y_ = (x6_1 ++ [rdOf ByteArray.empty y102 x16_1]) := ⟨_, rfl⟩
       first | (replace H := bindS H; rw [← hy109] at H; try dsimp only at H) | rw [← hy109] at H
       have Ny109 := aM hy109
       clear hy109
       have H' := aM H
       clear H
       have p105 : 0 ≤ (x16_1 : Int) := of_decide_eq_true z1200
       have q105 : x16_1 < (y102.length : Int) := of_decide_eq_true z1200
       obtain ⟨ad105, e105, hx105_0⟩ := Kd.at_string (Kd.R_reads' HO_14.out).2.2 x16_1 p105 q105
       cases e105
       replace p105 := eq_true p105
       replace q105 := eq_true q105
       go_wp2_with (first | ((with_reducible refine gate_callee (f := 52) rfl ?_); refine gL 21 Try.func52 #[.pointer (some ⟨gb101, 0, none⟩), .int .i64 2] ?_; (with_reducible refine (spec_l1Cur_one.calls gb101 l0 x102001_1 x102002_1 2 true t107 t108 w _ ?side1 ?side2 A9.out).mono ?_); (case side1 => exact z00c4); (case side2 => exact zc59d); rintro e w12 ⟨rfl, hi, hb, hk⟩; refine ⟨_, rfl, ?_⟩; have _ := aM (Kd.R_mono (Kd.R_keep (IsS76.apart (show IsS76 w _ gb101 l0 x102001_1 x102002_1 from by repeat (first | (with_reducible first | exact HI101.out | apply IsS76.alloc | apply IsS76.drewN | apply IsS76.drew | apply IsS76.set_1 | apply IsS76.set_2) | exact HI101.out)) (rZ HO_6.out) (by decide)) hk (fun _ h => h.2)) (fun _ h => h.1)); have _ := aM (Kd.R_mono (Kd.R_keep (IsS76.apart (show IsS76 w _ gb101 l0 x102001_1 x102002_1 from by repeat (first | (with_reducible first | exact HI101.out | apply IsS76.alloc | apply IsS76.drewN | apply IsS76.drew | apply IsS76.set_1 | apply IsS76.set_2) | exact HI101.out)) (rZ HO_7.out) (by decide)) hk (fun _ h => h.2)) (fun _ h => h.1)); have _ := aM (Kd.R_mono (Kd.R_keep (IsS76.apart (show IsS76 w _ gb101 l0 x102001_1 x102002_1 from by repeat (first | (with_reducible first | exact HI101.out | apply IsS76.alloc | apply IsS76.drewN | apply IsS76.drew | apply IsS76.set_1 | apply IsS76.set_2) | exact HI101.out)) (rZ HO_14.out) (by decide)) hk (fun _ h => h.2)) (fun _ h => h.1)); have _ := aM hb; have _ := aM hi; clear HO_6 HO_7 HO_14 HB HI101; rename_i HO_6 HO_7 HO_14 HB HI101; (try clear hb); (try clear hk); (try clear hi)) | ((with_reducible refine gate_builtin (b := .append) (xs := #[.tmp 22, .tmp 24]) rfl ?_); at_builtin; refine Kd.R_append Kd.string (w0 := w) w.heap.size rfl (.tmp 22) (.tmp 24) 55 9 (.string ⟨#[]⟩) 16 rfl Try.underlying55 info9 rfl (by decide) (by omega) u6 x6_1 (rdOf ByteArray.empty y102 x16_1) [.string (rdOf ByteArray.empty y102 x16_1)] (fun k_ => some k_ ≠ (.slice (some ad105) y102.length co5 : Value).ownBlock) (fun _ => False) rfl rfl ?aP (fun _ hk => hk.elim) ?aF ?aO ?aB ?aS ?aL ?_; (case aP => exact rfl); (case aB => exact zc59d); (case aF => exact (fun k_ hk => Kd.fresh' (Kd.R_lt (rZ HO_14.out)) k_ hk)); (case aO => exact (rZ HO_6.out)); (case aS => exact (below_size zc59d)); (case aL => have := LMc11.out; omega); intro v110 w13 ho hb hg hat; rw [← Ny109.out] at ho; have _ := aM (Kd.R_over' (rZ HO_7.out) (Kd.R_typed (rZ HO_6.out)) (by decide) hg); have _ := aM (Kd.R_after (ok := (fun _ => True)) (by (with_reducible repeat (first | apply Kd.R_alloc | apply Kd.R_drewN | apply Kd.R_drew)); exact Kd.R_mono HO_14.out (fun _ hk => ⟨trivial, hk⟩)) hg hat); have _ := aM (IsS76.grown z00c4 hg (IsS76.own_ne HI101.out HO_6.out (by decide))); have _ := aM hb; have _ := aM ho; clear HO_7 HO_14 HI101 HB HO_6; rename_i HO_7 HO_14 HI101 HB HO111; clear ho hb hg hat))
       go_loopg [10] k1 (fun kq v10 w' => ∃ (x10_2 : Int) (x102001_2 : Int) (x102002_2 : Int), v10 = .int .i64 x10_2 ∧ Aside0 (spec_DrawTowerPath.l1 kq y109 x7_1 x10_2 y102 (y102.length : Int) x16_1 l0 x102001_2 x102002_2 = some (r1, r2, r3)) ∧ Aside0 (kq ≤ k1) ∧ Aside0 (Kd.R Kd.string 9 w' w.heap.size (fun k_ => some k_ ≠ ((.slice (some ad105) y102.length co5) : Value).ownBlock) v110 y109) ∧ Aside0 (Kd.R (Kd.int .i64) 3 w' w.heap.size (fun _ => True) u7 x7_1) ∧ Aside0 (Kd.R Kd.string 9 w' w.heap.size (fun k_ => some k_ ≠ (v110 : Value).ownBlock) (.slice (some ad105) y102.length co5) y102) ∧ Aside0 (IsS76 w w' gb101 l0 x102001_2 x102002_2) ∧ Aside0 (Below w.heap.size w w'))
       case atStart => exact ⟨(1), (t107), (t108), z4458, H', ⟨Nat.le_refl _⟩, ⟨rZ HO111.out⟩, ⟨rZ HO_7.out⟩, ⟨by (with_reducible repeat (first | apply Kd.R_alloc | apply Kd.R_drewN | apply Kd.R_drew)); exact Kd.R_mono HO_14.out (fun _ hk => hk.2)⟩, ⟨z00c4⟩, ⟨zc59d⟩⟩
       case round =>
        clear H'
        (try clear c6b0); (try clear c7b0); (try clear c8b0); (try clear c10); (try clear hx105_0); (try clear p105); (try clear q105)
        obtain ⟨x10_2, x102001_2, x102002_2, rfl, HA, HK2, HO_6, HO_7, HO_14, HI101, HB⟩ := hrel
        cases gk with
        | zero => exact absurd HA.out (by simp [spec_DrawTowerPath.l1])
        | succ k2 =>
         have H := HA.out
         clear HA
         simp only [spec_DrawTowerPath.l1] at H
         by_cases c14 : x10_2 < 6
         · rw [if_pos c14] at H
           have c14b0 := dL c14
           clear c14
           obtain ⟨⟨t112, t113, t114⟩, A15, H⟩ := bS H; try dsimp only at H
           by_cases c16 : t112 = true
           · subst c16
             rw [if_pos rfl] at H
             have H' := aM H
             clear H
             go_wp2_with (first | (go_at_call 52; (with_reducible refine (spec_l1Cur_one.calls gb101 l0 x102001_2 x102002_2 2 true t113 t114 w _ ?side1 ?side2 A15.out).mono ?_); (case side1 => exact z00c4); (case side2 => exact zc59d); rintro e w17 ⟨rfl, hi, hb, hk⟩; have _ := aM (Kd.R_mono (Kd.R_keep (IsS76.apart (show IsS76 w _ gb101 l0 x102001_2 x102002_2 from by repeat (first | (with_reducible first | exact HI101.out | apply IsS76.alloc | apply IsS76.drewN | apply IsS76.drew | apply IsS76.set_1 | apply IsS76.set_2) | exact HI101.out)) (rZ HO_6.out) (by decide)) hk (fun _ h => h.2)) (fun _ h => h.1)); have _ := aM (Kd.R_mono (Kd.R_keep (IsS76.apart (show IsS76 w _ gb101 l0 x102001_2 x102002_2 from by repeat (first | (with_reducible first | exact HI101.out | apply IsS76.alloc | apply IsS76.drewN | apply IsS76.drew | apply IsS76.set_1 | apply IsS76.set_2) | exact HI101.out)) (rZ HO_7.out) (by decide)) hk (fun _ h => h.2)) (fun _ h => h.1)); have _ := aM (Kd.R_mono (Kd.R_keep (IsS76.apart (show IsS76 w _ gb101 l0 x102001_2 x102002_2 from by repeat (first | (with_reducible first | exact HI101.out | apply IsS76.alloc | apply IsS76.drewN | apply IsS76.drew | apply IsS76.set_1 | apply IsS76.set_2) | exact HI101.out)) (rZ HO_14.out) (by decide)) hk (fun _ h => h.2)) (fun _ h => h.1)); have _ := aM hb; have _ := aM hi; clear HO_6 HO_7 HO_14 HB HI101; rename_i HO_6 HO_7 HO_14 HB HI101; (try clear hb); (try clear hk); (try clear hi)))
             go_roundg k2
             case measure => have := HK1.out; have := HK2.out; omega
             case rel => exact ⟨(wrap64 (x10_2 + 1)), (t113), (t114), z4458, H', ⟨zc2be⟩, ⟨rZ HO_6.out⟩, ⟨rZ HO_7.out⟩, ⟨rZ HO_14.out⟩, ⟨z00c4⟩, ⟨zc59d⟩⟩
           · replace c16 := Bool.eq_false_iff.mpr c16
             subst c16
             rw [if_neg (show ¬ (false = true) by decide)] at H
             obtain ⟨LMc18, H⟩ := sM H
             obtain ⟨y115, hy115⟩ : ∃ y_ : List Int, y_ = (x7_1 ++ [x10_2]) := ⟨_, rfl⟩
             first | (replace H := bindS H; rw [← hy115] at H; try dsimp only at H) | rw [← hy115] at H
             have Ny115 := aM hy115
             clear hy115
             have H' := aM H
             clear H
             go_wp2_with (first | (go_at_call 52; (with_reducible refine (spec_l1Cur_one.calls gb101 l0 x102001_2 x102002_2 2 false t113 t114 w _ ?side1 ?side2 A15.out).mono ?_); (case side1 => exact z00c4); (case side2 => exact zc59d); rintro e w19 ⟨rfl, hi, hb, hk⟩; have _ := aM (Kd.R_mono (Kd.R_keep (IsS76.apart (show IsS76 w _ gb101 l0 x102001_2 x102002_2 from by repeat (first | (with_reducible first | exact HI101.out | apply IsS76.alloc | apply IsS76.drewN | apply IsS76.drew | apply IsS76.set_1 | apply IsS76.set_2) | exact HI101.out)) (rZ HO_6.out) (by decide)) hk (fun _ h => h.2)) (fun _ h => h.1)); have _ := aM (Kd.R_mono (Kd.R_keep (IsS76.apart (show IsS76 w _ gb101 l0 x102001_2 x102002_2 from by repeat (first | (with_reducible first | exact HI101.out | apply IsS76.alloc | apply IsS76.drewN | apply IsS76.drew | apply IsS76.set_1 | apply IsS76.set_2) | exact HI101.out)) (rZ HO_7.out) (by decide)) hk (fun _ h => h.2)) (fun _ h => h.1)); have _ := aM (Kd.R_mono (Kd.R_keep (IsS76.apart (show IsS76 w _ gb101 l0 x102001_2 x102002_2 from by repeat (first | (with_reducible first | exact HI101.out | apply IsS76.alloc | apply IsS76.drewN | apply IsS76.drew | apply IsS76.set_1 | apply IsS76.set_2) | exact HI101.out)) (rZ HO_14.out) (by decide)) hk (fun _ h => h.2)) (fun _ h => h.1)); have _ := aM hb; have _ := aM hi; clear HO_6 HO_7 HO_14 HB HI101; rename_i HO_6 HO_7 HO_14 HB HI101; (try clear hb); (try clear hk); (try clear hi)) | ((with_reducible refine gate_builtin (b := .append) (xs := #[.tmp 34, .tmp 36]) rfl ?_); at_builtin; refine Kd.R_append (Kd.int .i64) (w0 := w) w.heap.size rfl (.tmp 34) (.tmp 36) 24 3 (.int .i64 0) 8 rfl Try.underlying24 info3 rfl (by decide) (by omega) u7 x7_1 x10_2 [.int .i64 x10_2] (fun _ => True) (fun _ => False) rfl rfl ?aP (fun _ hk => hk.elim) ?aF ?aO ?aB ?aS ?aL ?_; (case aP => exact rfl); (case aB => exact zc59d); (case aF => exact (fun _ _ => trivial)); (case aO => exact (rZ HO_7.out)); (case aS => exact (below_size zc59d)); (case aL => have := LMc18.out; omega); intro v116 w20 ho hb hg hat; rw [← Ny115.out] at ho; have _ := aM (Kd.R_over' (rZ HO_6.out) (Kd.R_typed (rZ HO_7.out)) (by decide) hg); have _ := aM (Kd.R_over' (rZ HO_14.out) (Kd.R_typed (rZ HO_7.out)) (by decide) hg); have _ := aM (IsS76.grown z00c4 hg (IsS76.own_ne HI101.out HO_7.out (by decide))); have _ := aM hb; have _ := aM ho; clear HO_6 HO_14 HI101 HB HO_7; rename_i HO_6 HO_14 HI101 HB HO117; clear ho hb hg hat))
             go_roundg k2
             case measure => have := HK1.out; have := HK2.out; omega
             case rel => exact ⟨(y109), (y115), (wrap64 (x16_1 + 1)), (t113), (t114), z4458, H', ⟨zc2be⟩, ⟨rZ HO_6.out⟩, ⟨rZ HO117.out⟩, ⟨rZ HO_14.out⟩, ⟨z00c4⟩, ⟨zc59d⟩⟩
         · rw [if_neg c14] at H
           have c14b0 := nL c14
           clear c14
           obtain ⟨LMc21, H⟩ := sM H
           obtain ⟨y118, hy118⟩ : ∃ y_ : List Int, y_ = (x7_1 ++ [x10_2]) := ⟨_, rfl⟩
           first | (replace H := bindS H; rw [← hy118] at H; try dsimp only at H) | rw [← hy118] at H
           have Ny118 := aM hy118
           clear hy118
           have H' := aM H
           clear H
           go_wp2_with (first | ((with_reducible refine gate_builtin (b := .append) (xs := #[.tmp 34, .tmp 36]) rfl ?_); at_builtin; refine Kd.R_append (Kd.int .i64) (w0 := w) w.heap.size rfl (.tmp 34) (.tmp 36) 24 3 (.int .i64 0) 8 rfl Try.underlying24 info3 rfl (by decide) (by omega) u7 x7_1 x10_2 [.int .i64 x10_2] (fun _ => True) (fun _ => False) rfl rfl ?aP (fun _ hk => hk.elim) ?aF ?aO ?aB ?aS ?aL ?_; (case aP => exact rfl); (case aB => exact zc59d); (case aF => exact (fun _ _ => trivial)); (case aO => exact (rZ HO_7.out)); (case aS => exact (below_size zc59d)); (case aL => have := LMc21.out; omega); intro v119 w22 ho hb hg hat; rw [← Ny118.out] at ho; have _ := aM (Kd.R_over' (rZ HO_6.out) (Kd.R_typed (rZ HO_7.out)) (by decide) hg); have _ := aM (Kd.R_over' (rZ HO_14.out) (Kd.R_typed (rZ HO_7.out)) (by decide) hg); have _ := aM (IsS76.grown z00c4 hg (IsS76.own_ne HI101.out HO_7.out (by decide))); have _ := aM hb; have _ := aM ho; clear HO_6 HO_14 HI101 HB HO_7; rename_i HO_6 HO_14 HI101 HB HO120; clear ho hb hg hat))
           go_roundg k2
           case measure => have := HK1.out; have := HK2.out; omega
           case rel => exact ⟨(y109), (y118), (wrap64 (x16_1 + 1)), (x102001_2), (x102002_2), z4458, H', ⟨zc2be⟩, ⟨rZ HO_6.out⟩, ⟨rZ HO120.out⟩, ⟨rZ HO_14.out⟩, ⟨z00c4⟩, ⟨zc59d⟩⟩
     · replace c10 := Bool.eq_false_iff.mpr c10
       subst c10
       rw [if_neg (show ¬ (false = true) by decide)] at H
       have H' := aM H
       clear H
       have p105 : 0 ≤ (x16_1 : Int) := of_decide_eq_true z1200
       have q105 : x16_1 < (y102.length : Int) := of_decide_eq_true z1200
       obtain ⟨ad105, e105, hx105_0⟩ := Kd.at_string (Kd.R_reads' HO_14.out).2.2 x16_1 p105 q105
       cases e105
       replace p105 := eq_true p105
       replace q105 := eq_true q105
       go_wp2_with (first | ((with_reducible refine gate_callee (f := 52) rfl ?_); refine gL 21 Try.func52 #[.pointer (some ⟨gb101, 0, none⟩), .int .i64 2] ?_; (with_reducible refine (spec_l1Cur_one.calls gb101 l0 x102001_1 x102002_1 2 false t107 t108 w _ ?side1 ?side2 A9.out).mono ?_); (case side1 => exact z00c4); (case side2 => exact zc59d); rintro e w23 ⟨rfl, hi, hb, hk⟩; refine ⟨_, rfl, ?_⟩; have _ := aM (Kd.R_mono (Kd.R_keep (IsS76.apart (show IsS76 w _ gb101 l0 x102001_1 x102002_1 from by repeat (first | (with_reducible first | exact HI101.out | apply IsS76.alloc | apply IsS76.drewN | apply IsS76.drew | apply IsS76.set_1 | apply IsS76.set_2) | exact HI101.out)) (rZ HO_6.out) (by decide)) hk (fun _ h => h.2)) (fun _ h => h.1)); have _ := aM (Kd.R_mono (Kd.R_keep (IsS76.apart (show IsS76 w _ gb101 l0 x102001_1 x102002_1 from by repeat (first | (with_reducible first | exact HI101.out | apply IsS76.alloc | apply IsS76.drewN | apply IsS76.drew | apply IsS76.set_1 | apply IsS76.set_2) | exact HI101.out)) (rZ HO_7.out) (by decide)) hk (fun _ h => h.2)) (fun _ h => h.1)); have _ := aM (Kd.R_mono (Kd.R_keep (IsS76.apart (show IsS76 w _ gb101 l0 x102001_1 x102002_1 from by repeat (first | (with_reducible first | exact HI101.out | apply IsS76.alloc | apply IsS76.drewN | apply IsS76.drew | apply IsS76.set_1 | apply IsS76.set_2) | exact HI101.out)) (rZ HO_14.out) (by decide)) hk (fun _ h => h.2)) (fun _ h => h.1)); have _ := aM hb; have _ := aM hi; clear HO_6 HO_7 HO_14 HB HI101; rename_i HO_6 HO_7 HO_14 HB HI101; (try clear hb); (try clear hk); (try clear hi)))
       go_roundg k1
       case measure => have := HK1.out; omega
       case rel => exact ⟨(x6_1), (x7_1), (wrap64 (x16_1 + 1)), (t107), (t108), z4458, H', ⟨zfb39⟩, ⟨rZ HO_6.out⟩, ⟨rZ HO_7.out⟩, ⟨rZ HO_14.out⟩, ⟨z00c4⟩, ⟨zc59d⟩⟩
   · rw [if_neg c6] at H
     have c6b0 := nL c6
     clear c6
     obtain ⟨⟨t121, t122, t123⟩, A24, H⟩ := bS H; try dsimp only at H
     by_cases c25 : t121 = 0
     · rw [if_pos c25] at H
       have c25b0 : (t121 == 0) = true := beq_iff_eq.mpr c25
       have c25b1 : (t121 != 0) = false := bne_eq_false_iff_eq.mpr c25
       clear c25
       obtain ⟨LMc26, H⟩ := sM H
       obtain ⟨y124, hy124⟩ : ∃ y_ : List Int, y_ = (x7_1 ++ [1]) := ⟨_, rfl⟩
       first | (replace H := bindS H; rw [← hy124] at H; try dsimp only at H) | rw [← hy124] at H
       have Ny124 := aM hy124
       clear hy124
       obtain ⟨⟨t127, t128, t129⟩, A27, H⟩ := bS H; try dsimp only at H
       simp only [Option.some.injEq, Prod.mk.injEq] at H
       obtain ⟨rfl, rfl, rfl⟩ := H
       go_wp2_with (first | ((with_reducible refine gate_callee (f := 53) rfl ?_); refine gL 40 Try.func53 #[.pointer (some ⟨gb101, 0, none⟩), .int .i64 30] ?_; (with_reducible refine (spec_l1Cur_pick.calls gb101 l0 x102001_1 x102002_1 30 t121 t122 t123 w _ ?side1 ?side2 A24.out).mono ?_); (case side1 => exact z00c4); (case side2 => exact zc59d); rintro e w28 ⟨rfl, hi, hb, hk⟩; refine ⟨_, rfl, ?_⟩; have _ := aM (Kd.R_mono (Kd.R_keep (IsS76.apart (show IsS76 w _ gb101 l0 x102001_1 x102002_1 from by repeat (first | (with_reducible first | exact HI101.out | apply IsS76.alloc | apply IsS76.drewN | apply IsS76.drew | apply IsS76.set_1 | apply IsS76.set_2) | exact HI101.out)) (rZ HO_6.out) (by decide)) hk (fun _ h => h.2)) (fun _ h => h.1)); have _ := aM (Kd.R_mono (Kd.R_keep (IsS76.apart (show IsS76 w _ gb101 l0 x102001_1 x102002_1 from by repeat (first | (with_reducible first | exact HI101.out | apply IsS76.alloc | apply IsS76.drewN | apply IsS76.drew | apply IsS76.set_1 | apply IsS76.set_2) | exact HI101.out)) (rZ HO_7.out) (by decide)) hk (fun _ h => h.2)) (fun _ h => h.1)); have _ := aM (Kd.R_mono (Kd.R_keep (IsS76.apart (show IsS76 w _ gb101 l0 x102001_1 x102002_1 from by repeat (first | (with_reducible first | exact HI101.out | apply IsS76.alloc | apply IsS76.drewN | apply IsS76.drew | apply IsS76.set_1 | apply IsS76.set_2) | exact HI101.out)) (rZ HO_14.out) (by decide)) hk (fun _ h => h.2)) (fun _ h => h.1)); have _ := aM hb; have _ := aM hi; clear HO_6 HO_7 HO_14 HB HI101; rename_i HO_6 HO_7 HO_14 HB HI101; (try clear hb); (try clear hk); (try clear hi)) | ((with_reducible refine gate_builtin (b := .append) (xs := #[.tmp 43, .tmp 44]) rfl ?_); at_builtin; refine Kd.R_append (Kd.int .i64) (w0 := w) w.heap.size rfl (.tmp 43) (.tmp 44) 24 3 (.int .i64 0) 8 rfl Try.underlying24 info3 rfl (by decide) (by omega) u7 x7_1 1 [.int .i64 1] (fun _ => True) (fun _ => False) rfl rfl ?aP (fun _ hk => hk.elim) ?aF ?aO ?aB ?aS ?aL ?_; (case aP => exact rfl); (case aB => exact zc59d); (case aF => exact (fun _ _ => trivial)); (case aO => exact (rZ HO_7.out)); (case aS => exact (below_size zc59d)); (case aL => have := LMc26.out; omega); intro v125 w29 ho hb hg hat; rw [← Ny124.out] at ho; have _ := aM (Kd.R_over' (rZ HO_6.out) (Kd.R_typed (rZ HO_7.out)) (by decide) hg); have _ := aM (Kd.R_over' (rZ HO_14.out) (Kd.R_typed (rZ HO_7.out)) (by decide) hg); have _ := aM (IsS76.grown z00c4 hg (IsS76.own_ne HI101.out HO_7.out (by decide))); have _ := aM hb; have _ := aM ho; clear HO_6 HO_14 HI101 HB HO_7; rename_i HO_6 HO_14 HI101 HB HO126; clear ho hb hg hat) | ((with_reducible refine gate_callee (f := 61) rfl ?_); refine gL 67 Try.func61 #[.pointer (some ⟨gb101, 0, none⟩)] ?_; (with_reducible refine (spec_l1Cur_keyText.calls gb101 l0 t122 t123 t127 t128 t129 w _ ?side1 ?side2 A27.out).mono ?_); (case side1 => exact z00c4); (case side2 => exact zc59d); rintro e w30 ⟨rfl, hi, hb, hk⟩; refine ⟨_, rfl, ?_⟩; have _ := aM (Kd.R_mono (Kd.R_keep (IsS76.apart (show IsS76 w _ gb101 l0 t122 t123 from by repeat (first | (with_reducible first | exact HI101.out | apply IsS76.alloc | apply IsS76.drewN | apply IsS76.drew | apply IsS76.set_1 | apply IsS76.set_2) | exact HI101.out)) (rZ HO_6.out) (by decide)) hk (fun _ h => h.2)) (fun _ h => h.1)); have _ := aM (Kd.R_mono (Kd.R_keep (IsS76.apart (show IsS76 w _ gb101 l0 t122 t123 from by repeat (first | (with_reducible first | exact HI101.out | apply IsS76.alloc | apply IsS76.drewN | apply IsS76.drew | apply IsS76.set_1 | apply IsS76.set_2) | exact HI101.out)) (rZ HO_14.out) (by decide)) hk (fun _ h => h.2)) (fun _ h => h.1)); have _ := aM (Kd.R_mono (Kd.R_keep (IsS76.apart (show IsS76 w _ gb101 l0 t122 t123 from by repeat (first | (with_reducible first | exact HI101.out | apply IsS76.alloc | apply IsS76.drewN | apply IsS76.drew | apply IsS76.set_1 | apply IsS76.set_2) | exact HI101.out)) (rZ HO126.out) (by decide)) hk (fun _ h => h.2)) (fun _ h => h.1)); have _ := aM hb; have _ := aM hi; clear HO_6 HO_14 HO126 HB HI101; rename_i HO_6 HO_14 HO126 HB HI101; (try clear hb); (try clear hk); (try clear hi)))
       go_ret3
       exact ⟨_, _, z674d, z0c8c, rZ HO126.out, zc59d⟩
     · rw [if_neg c25] at H
       have c25b0 := eqN c25
       by_cases c31 : t121 = 1
       · rw [if_pos c31] at H
         have c31b0 : (t121 == 1) = true := beq_iff_eq.mpr c31
         have c31b1 : (t121 != 1) = false := bne_eq_false_iff_eq.mpr c31
         clear c31
         by_cases c32 : (x7_1.length : Int) > 0
         · rw [if_pos c32] at H
           have c32b0 : decide (0 < (x7_1.length : Int)) = true := decide_eq_true c32
           have c32b1 : decide (0 < x7_1.length) = true := decide_eq_true (by omega)
           clear c32
           obtain ⟨y130, hy130⟩ : ∃ y_ : List Int, y_ = (([0, 7] : List Int)) := ⟨_, rfl⟩
           first | (replace H := bindS H; rw [← hy130] at H; try dsimp only at H) | rw [← hy130] at H
           have Ny130 := aM hy130
           clear hy130
           obtain ⟨⟨t133, t134, t135⟩, A33, H⟩ := bS H; try dsimp only at H
           replace H := ifS H; obtain ⟨c34, H⟩ := H
           have c34b0 : decide (0 < (x7_1.length : Int)) = true := decide_eq_true c34
           have c34b1 : decide (0 < x7_1.length) = true := decide_eq_true (by omega)
           clear c34
           obtain ⟨y136, hy136⟩ : ∃ y_ : List Int, y_ = (x7_1.set (0 : Int).toNat t133) := ⟨_, rfl⟩
           first | (replace H := bindS H; rw [← hy136] at H; try dsimp only at H) | rw [← hy136] at H
           have Ny136 := aM hy136
           clear hy136
           obtain ⟨⟨t137, t138, t139⟩, A36, H⟩ := bS H; try dsimp only at H
           simp only [Option.some.injEq, Prod.mk.injEq] at H
           obtain ⟨rfl, rfl, rfl⟩ := H
           go_wp2_with (first | ((with_reducible refine gate_callee (f := 53) rfl ?_); refine gL 40 Try.func53 #[.pointer (some ⟨gb101, 0, none⟩), .int .i64 30] ?_; (with_reducible refine (spec_l1Cur_pick.calls gb101 l0 x102001_1 x102002_1 30 t121 t122 t123 w _ ?side1 ?side2 A24.out).mono ?_); (case side1 => exact z00c4); (case side2 => exact zc59d); rintro e w37 ⟨rfl, hi, hb, hk⟩; refine ⟨_, rfl, ?_⟩; have _ := aM (Kd.R_mono (Kd.R_keep (IsS76.apart (show IsS76 w _ gb101 l0 x102001_1 x102002_1 from by repeat (first | (with_reducible first | exact HI101.out | apply IsS76.alloc | apply IsS76.drewN | apply IsS76.drew | apply IsS76.set_1 | apply IsS76.set_2) | exact HI101.out)) (rZ HO_6.out) (by decide)) hk (fun _ h => h.2)) (fun _ h => h.1)); have _ := aM (Kd.R_mono (Kd.R_keep (IsS76.apart (show IsS76 w _ gb101 l0 x102001_1 x102002_1 from by repeat (first | (with_reducible first | exact HI101.out | apply IsS76.alloc | apply IsS76.drewN | apply IsS76.drew | apply IsS76.set_1 | apply IsS76.set_2) | exact HI101.out)) (rZ HO_7.out) (by decide)) hk (fun _ h => h.2)) (fun _ h => h.1)); have _ := aM (Kd.R_mono (Kd.R_keep (IsS76.apart (show IsS76 w _ gb101 l0 x102001_1 x102002_1 from by repeat (first | (with_reducible first | exact HI101.out | apply IsS76.alloc | apply IsS76.drewN | apply IsS76.drew | apply IsS76.set_1 | apply IsS76.set_2) | exact HI101.out)) (rZ HO_14.out) (by decide)) hk (fun _ h => h.2)) (fun _ h => h.1)); have _ := aM hb; have _ := aM hi; clear HO_6 HO_7 HO_14 HB HI101; rename_i HO_6 HO_7 HO_14 HB HI101; (try clear hb); (try clear hk); (try clear hi); obtain ⟨Ao38, co38, eo38⟩ := Kd.R_slice HO_7.out; subst eo38) | ((with_reducible refine gate_dst (N := 53) rfl ?_); refine Kd.R_lit (Kd.int .i64) _ 3 ?hg (N := 53) ?hd (xs := ([0, 7] : List Int)) (inner := [.int .i64 0, .int .i64 7]) (ok := fun _ => True) (okp := fun _ => True) ?hr ?hp (fun _ hk => hk) trivial (Below.refl _ _) (Nat.le_refl _) (by simp) ?_; (case hd => rfl); (case hg => rfl); (case hr => first | (go_simp; done) | (go_simp; rfl)); (case hp => exact (Reps.one (show Kd.M (Kd.int .i64) _ _ _ 0 [.int .i64 0] from rfl) (Reps.one (show Kd.M (Kd.int .i64) _ _ _ 7 [.int .i64 7] from rfl) (Reps.none _ _)))); intro v131 w39 ho40 hb hg_ hnew_; clear hg_ hnew_; (first | rw [← Ny130.out] at ho40 | (simp only [Int.reduceToNat] at ho40; rw [← Ny130.out] at ho40)); have _ := aM (Kd.R_below (rZ HO_6.out) hb); have _ := aM (Kd.R_elder' (rZ HO_7.out) (Kd.R_base ho40) hb); have _ := aM (Kd.R_below (rZ HO_14.out) hb); have _ := aM (Kd.R_lower (Kd.R_new' ho40 (Kd.R_lt (rZ HO_7.out))) (below_size zc59d)); have _ := aM (IsS76.below z00c4 hb); have _ := aM (below_step zc59d hb); clear HO_6 HO_7 HO_14 HI101 HB; rename_i HO_6 HO_7 HO_14 HO132 HI101 HB; clear hb ho40; obtain ⟨Ao41, co41, eo41⟩ := Kd.R_slice HO132.out; subst eo41) | ((with_reducible refine gate_callee (f := 60) rfl ?_); refine gL 54 Try.func60 #[.pointer (some ⟨gb101, 0, none⟩), .slice Ao41 y130.length co41] ?_; (with_reducible refine (spec_l1Cur_among.calls gb101 l0 t122 t123 _ _ y130 t133 t134 t135 w _ ?side1 ?side2 ?side3 ?side4 ?side5 A33.out).mono ?_); (case side1 => exact z00c4); (case side2 => exact zc59d); (case side3 => exact (by repeat (first | exact (Kd.R_reads' HO132.out).2.2 | (with_reducible refine Kd.C_alloc ?_ _) | (with_reducible refine Kd.C_drewN ?_ _) | (with_reducible refine Kd.C_drew ?_)))); (case side4 => exact (Kd.R_reads' HO132.out).2.1); (case side5 => exact far_slice (IsS76.own_ne HI101.out HO132.out (by decide))); rintro e w42 ⟨rfl, hi, hb, hk⟩; refine ⟨_, rfl, ?_⟩; have _ := aM (Kd.R_mono (Kd.R_keep (IsS76.apart (show IsS76 w _ gb101 l0 t122 t123 from by repeat (first | (with_reducible first | exact HI101.out | apply IsS76.alloc | apply IsS76.drewN | apply IsS76.drew | apply IsS76.set_1 | apply IsS76.set_2) | exact HI101.out)) (rZ HO_6.out) (by decide)) hk (fun _ h => h.2)) (fun _ h => h.1)); have _ := aM (Kd.R_mono (Kd.R_keep (IsS76.apart (show IsS76 w _ gb101 l0 t122 t123 from by repeat (first | (with_reducible first | exact HI101.out | apply IsS76.alloc | apply IsS76.drewN | apply IsS76.drew | apply IsS76.set_1 | apply IsS76.set_2) | exact HI101.out)) (rZ HO_7.out) (by decide)) hk (fun _ h => h.2)) (fun _ h => h.1)); have _ := aM (Kd.R_mono (Kd.R_keep (IsS76.apart (show IsS76 w _ gb101 l0 t122 t123 from by repeat (first | (with_reducible first | exact HI101.out | apply IsS76.alloc | apply IsS76.drewN | apply IsS76.drew | apply IsS76.set_1 | apply IsS76.set_2) | exact HI101.out)) (rZ HO_14.out) (by decide)) hk (fun _ h => h.2)) (fun _ h => h.1)); have _ := aM (Kd.R_mono (Kd.R_keep (IsS76.apart (show IsS76 w _ gb101 l0 t122 t123 from by repeat (first | (with_reducible first | exact HI101.out | apply IsS76.alloc | apply IsS76.drewN | apply IsS76.drew | apply IsS76.set_1 | apply IsS76.set_2) | exact HI101.out)) (rZ HO132.out) (by decide)) hk (fun _ h => h.2)) (fun _ h => h.1)); have _ := aM hb; have _ := aM hi; clear HO_6 HO_7 HO_14 HO132 HB HI101; rename_i HO_6 HO_7 HO_14 HO132 HB HI101; (try clear hb); (try clear hk); (try clear hi); have p35 : 0 ≤ (0 : Int) := (by omega); have q35 : (0 : Int) < ((x7_1.length : Int) : Int) := of_decide_eq_true z1200; have qi35 : (0 < x7_1.length) = True := eq_true (by omega); obtain ⟨go35, co35, eo35, gb35, gl35, cl35, HG35⟩ := Kd.R_form HO_7.out (by omega); (first | cases eo35 | (injection eo35 with ea_ en_ ec_; (first | subst ea_ | (injection ea_ with ea_; subst ea_)); subst ec_; clear en_)); have GB35 := aM gb35; have GG35 := aM HG35; clear gb35 gl35 HG35; obtain ⟨hx35_0, hf35_0⟩ := Kd.R_celln 0 HO_7.out (0 : Int) p35 q35; (try rw [show ((0 : Int)).toNat = 0 from rfl] at hx35_0); (try simp only [Nat.reduceMul, Nat.zero_mul, Nat.zero_add, Nat.reduceAdd] at hx35_0); (try rw [show ((0 : Int)).toNat = 0 from rfl] at hf35_0); (try simp only [Nat.reduceMul, Nat.zero_mul, Nat.zero_add, Nat.reduceAdd] at hf35_0); replace p35 := eq_true p35; replace q35 := eq_true q35; have n_ := aM (Kd.R_mono (ok' := (fun k_ => some k_ ≠ (.slice Ao41 y130.length co41 : Value).ownBlock)) HO_7.out (fun k_ hk => hk.2)); clear HO_7; have HO_7 := n_; clear n_; obtain ⟨hy43_, hz43_⟩ := Kd.R_celln 0 HO_7.out (0 : Int) (by omega) (of_decide_eq_true z1200); (try simp only [Int.reduceToNat, Int.toNat_zero, Int.toNat_ofNat, Nat.reduceMul, Nat.zero_mul, Nat.zero_add] at hy43_ hz43_); (try rw [show ((0 : Int)).toNat = 0 from rfl] at hy43_); (try rw [show ((0 : Int)).toNat = 0 from rfl] at hz43_); have HP43 := Kd.R_putg HO_7.out (0 : Int) t133) | ((with_reducible refine gate_store (t := 3) (p := 55) rfl ?_); refine store_event (t := 3) (p := 55) (v := ?vo_w44) (w1 := (w42.setCell ⟨go35, (0 : Int).toNat, none⟩ (.int .i64 t133))) ?hg ?ho ?hn ?hr ?_; (case ho => rfl); (case hg => rfl); (case hn => rfl); (case hr => first | (go_simp; done) | (go_simp; rfl)); intro w44 hw; have hg : w42.grownBy w44 (some go35) := (by rw [hw]; exact HP43.2); have hp_ : Kd.R (Kd.int .i64) 3 w44 w.heap.size (fun k_ => some k_ ≠ (.slice Ao41 y130.length co41 : Value).ownBlock) (.slice (some ⟨go35, 0, none⟩) x7_1.length co38) y136 := (by rw [hw, Ny136.out]; exact HP43.1); clear HP43; have _ := aM (Kd.R_over' (v := (.slice (some ⟨go35, 0, none⟩) x7_1.length co38)) (rZ HO_6.out) (Kd.R_typed HO_7.out) (by decide) hg); have _ := aM hp_; have _ := aM (Kd.R_over' (v := (.slice (some ⟨go35, 0, none⟩) x7_1.length co38)) (rZ HO_14.out) (Kd.R_typed HO_7.out) (by decide) hg); have _ := aM (IsS76.grown z00c4 hg (IsS76.own_ne HI101.out HO_7.out (by decide))); have _ := aM (Kd.R_after (v := (.slice (some ⟨go35, 0, none⟩) x7_1.length co38)) (v1 := (.slice (some ⟨go35, 0, none⟩) x7_1.length co38)) (ok := (fun _ => True)) (rZ HO132.out) hg (.inl rfl)); have _ := aM ((by rw [hw]; exact below_set (HB.out) GB35.out : Below w.heap.size w w44)); clear HO_6 HO_7 HO_14 HI101 HO132 HB; rename_i HO_6 HO_7 HO_14 HI101 HO132 HB; clear hg hw hp_) | ((with_reducible refine gate_callee (f := 61) rfl ?_); refine gL 67 Try.func61 #[.pointer (some ⟨gb101, 0, none⟩)] ?_; (with_reducible refine (spec_l1Cur_keyText.calls gb101 l0 t134 t135 t137 t138 t139 w _ ?side1 ?side2 A36.out).mono ?_); (case side1 => exact z00c4); (case side2 => exact zc59d); rintro e w45 ⟨rfl, hi, hb, hk⟩; refine ⟨_, rfl, ?_⟩; have _ := aM (Kd.R_mono (Kd.R_keep (IsS76.apart (show IsS76 w _ gb101 l0 t134 t135 from by repeat (first | (with_reducible first | exact HI101.out | apply IsS76.alloc | apply IsS76.drewN | apply IsS76.drew | apply IsS76.set_1 | apply IsS76.set_2) | exact HI101.out)) (rZ HO_6.out) (by decide)) hk (fun _ h => h.2)) (fun _ h => h.1)); have _ := aM (Kd.R_mono (Kd.R_keep (IsS76.apart (show IsS76 w _ gb101 l0 t134 t135 from by repeat (first | (with_reducible first | exact HI101.out | apply IsS76.alloc | apply IsS76.drewN | apply IsS76.drew | apply IsS76.set_1 | apply IsS76.set_2) | exact HI101.out)) (rZ HO_7.out) (by decide)) hk (fun _ h => h.2)) (fun _ h => h.1)); have _ := aM (Kd.R_mono (Kd.R_keep (IsS76.apart (show IsS76 w _ gb101 l0 t134 t135 from by repeat (first | (with_reducible first | exact HI101.out | apply IsS76.alloc | apply IsS76.drewN | apply IsS76.drew | apply IsS76.set_1 | apply IsS76.set_2) | exact HI101.out)) (rZ HO_14.out) (by decide)) hk (fun _ h => h.2)) (fun _ h => h.1)); have _ := aM (Kd.R_mono (Kd.R_keep (IsS76.apart (show IsS76 w _ gb101 l0 t134 t135 from by repeat (first | (with_reducible first | exact HI101.out | apply IsS76.alloc | apply IsS76.drewN | apply IsS76.drew | apply IsS76.set_1 | apply IsS76.set_2) | exact HI101.out)) (rZ HO132.out) (by decide)) hk (fun _ h => h.2)) (fun _ h => h.1)); have _ := aM hb; have _ := aM hi; clear HO_6 HO_7 HO_14 HO132 HB HI101; rename_i HO_6 HO_7 HO_14 HO132 HB HI101; (try clear hb); (try clear hk); (try clear hi)))
           go_ret3
           exact ⟨_, _, z674d, z0c8c, by (with_reducible repeat (first | apply Kd.R_alloc | apply Kd.R_drewN | apply Kd.R_drew)); exact Kd.R_mono HO_7.out (fun _ hk => trivial), zc59d⟩
         · rw [if_neg c32] at H
           have c32b0 : decide (0 < (x7_1.length : Int)) = false := decide_eq_false c32
           have c32b1 : decide (0 < x7_1.length) = false := decide_eq_false (by omega)
           clear c32
           obtain ⟨⟨t140, t141, t142⟩, A46, H⟩ := bS H; try dsimp only at H
           simp only [Option.some.injEq, Prod.mk.injEq] at H
           obtain ⟨rfl, rfl, rfl⟩ := H
           go_wp2_with (first | ((with_reducible refine gate_callee (f := 53) rfl ?_); refine gL 40 Try.func53 #[.pointer (some ⟨gb101, 0, none⟩), .int .i64 30] ?_; (with_reducible refine (spec_l1Cur_pick.calls gb101 l0 x102001_1 x102002_1 30 t121 t122 t123 w _ ?side1 ?side2 A24.out).mono ?_); (case side1 => exact z00c4); (case side2 => exact zc59d); rintro e w47 ⟨rfl, hi, hb, hk⟩; refine ⟨_, rfl, ?_⟩; have _ := aM (Kd.R_mono (Kd.R_keep (IsS76.apart (show IsS76 w _ gb101 l0 x102001_1 x102002_1 from by repeat (first | (with_reducible first | exact HI101.out | apply IsS76.alloc | apply IsS76.drewN | apply IsS76.drew | apply IsS76.set_1 | apply IsS76.set_2) | exact HI101.out)) (rZ HO_6.out) (by decide)) hk (fun _ h => h.2)) (fun _ h => h.1)); have _ := aM (Kd.R_mono (Kd.R_keep (IsS76.apart (show IsS76 w _ gb101 l0 x102001_1 x102002_1 from by repeat (first | (with_reducible first | exact HI101.out | apply IsS76.alloc | apply IsS76.drewN | apply IsS76.drew | apply IsS76.set_1 | apply IsS76.set_2) | exact HI101.out)) (rZ HO_7.out) (by decide)) hk (fun _ h => h.2)) (fun _ h => h.1)); have _ := aM (Kd.R_mono (Kd.R_keep (IsS76.apart (show IsS76 w _ gb101 l0 x102001_1 x102002_1 from by repeat (first | (with_reducible first | exact HI101.out | apply IsS76.alloc | apply IsS76.drewN | apply IsS76.drew | apply IsS76.set_1 | apply IsS76.set_2) | exact HI101.out)) (rZ HO_14.out) (by decide)) hk (fun _ h => h.2)) (fun _ h => h.1)); have _ := aM hb; have _ := aM hi; clear HO_6 HO_7 HO_14 HB HI101; rename_i HO_6 HO_7 HO_14 HB HI101; (try clear hb); (try clear hk); (try clear hi); obtain ⟨Ao48, co48, eo48⟩ := Kd.R_slice HO_7.out; subst eo48) | ((with_reducible refine gate_callee (f := 61) rfl ?_); refine gL 67 Try.func61 #[.pointer (some ⟨gb101, 0, none⟩)] ?_; (with_reducible refine (spec_l1Cur_keyText.calls gb101 l0 t122 t123 t140 t141 t142 w _ ?side1 ?side2 A46.out).mono ?_); (case side1 => exact z00c4); (case side2 => exact zc59d); rintro e w49 ⟨rfl, hi, hb, hk⟩; refine ⟨_, rfl, ?_⟩; have _ := aM (Kd.R_mono (Kd.R_keep (IsS76.apart (show IsS76 w _ gb101 l0 t122 t123 from by repeat (first | (with_reducible first | exact HI101.out | apply IsS76.alloc | apply IsS76.drewN | apply IsS76.drew | apply IsS76.set_1 | apply IsS76.set_2) | exact HI101.out)) (rZ HO_6.out) (by decide)) hk (fun _ h => h.2)) (fun _ h => h.1)); have _ := aM (Kd.R_mono (Kd.R_keep (IsS76.apart (show IsS76 w _ gb101 l0 t122 t123 from by repeat (first | (with_reducible first | exact HI101.out | apply IsS76.alloc | apply IsS76.drewN | apply IsS76.drew | apply IsS76.set_1 | apply IsS76.set_2) | exact HI101.out)) (rZ HO_7.out) (by decide)) hk (fun _ h => h.2)) (fun _ h => h.1)); have _ := aM (Kd.R_mono (Kd.R_keep (IsS76.apart (show IsS76 w _ gb101 l0 t122 t123 from by repeat (first | (with_reducible first | exact HI101.out | apply IsS76.alloc | apply IsS76.drewN | apply IsS76.drew | apply IsS76.set_1 | apply IsS76.set_2) | exact HI101.out)) (rZ HO_14.out) (by decide)) hk (fun _ h => h.2)) (fun _ h => h.1)); have _ := aM hb; have _ := aM hi; clear HO_6 HO_7 HO_14 HB HI101; rename_i HO_6 HO_7 HO_14 HB HI101; (try clear hb); (try clear hk); (try clear hi)))
           go_ret3
           exact ⟨_, _, z674d, z0c8c, rZ HO_7.out, zc59d⟩
       · rw [if_neg c31] at H
         have c31b0 := eqN c31
         by_cases c50 : t121 = 2
         · rw [if_pos c50] at H
           have c50b0 : (t121 == 2) = true := beq_iff_eq.mpr c50
           have c50b1 : (t121 != 2) = false := bne_eq_false_iff_eq.mpr c50
           clear c50
           obtain ⟨LMc51, H⟩ := sM H
           obtain ⟨y143, hy143⟩ : ∃ y_ : List ByteArray, y_ = (x6_1 ++ [(⟨#[97]⟩ : ByteArray)]) := ⟨_, rfl⟩
           first | (replace H := bindS H; rw [← hy143] at H; try dsimp only at H) | rw [← hy143] at H
           have Ny143 := aM hy143
           clear hy143
           obtain ⟨LMc52, H⟩ := sM H
           obtain ⟨y146, hy146⟩ : ∃ y_ : List Int, y_ = (x7_1 ++ [1]) := ⟨_, rfl⟩
           first | (replace H := bindS H; rw [← hy146] at H; try dsimp only at H) | rw [← hy146] at H
           have Ny146 := aM hy146
           clear hy146
           obtain ⟨⟨t149, t150, t151⟩, A53, H⟩ := bS H; try dsimp only at H
           simp only [Option.some.injEq, Prod.mk.injEq] at H
           obtain ⟨rfl, rfl, rfl⟩ := H
           go_wp2_with (first | ((with_reducible refine gate_callee (f := 53) rfl ?_); refine gL 40 Try.func53 #[.pointer (some ⟨gb101, 0, none⟩), .int .i64 30] ?_; (with_reducible refine (spec_l1Cur_pick.calls gb101 l0 x102001_1 x102002_1 30 t121 t122 t123 w _ ?side1 ?side2 A24.out).mono ?_); (case side1 => exact z00c4); (case side2 => exact zc59d); rintro e w54 ⟨rfl, hi, hb, hk⟩; refine ⟨_, rfl, ?_⟩; have _ := aM (Kd.R_mono (Kd.R_keep (IsS76.apart (show IsS76 w _ gb101 l0 x102001_1 x102002_1 from by repeat (first | (with_reducible first | exact HI101.out | apply IsS76.alloc | apply IsS76.drewN | apply IsS76.drew | apply IsS76.set_1 | apply IsS76.set_2) | exact HI101.out)) (rZ HO_6.out) (by decide)) hk (fun _ h => h.2)) (fun _ h => h.1)); have _ := aM (Kd.R_mono (Kd.R_keep (IsS76.apart (show IsS76 w _ gb101 l0 x102001_1 x102002_1 from by repeat (first | (with_reducible first | exact HI101.out | apply IsS76.alloc | apply IsS76.drewN | apply IsS76.drew | apply IsS76.set_1 | apply IsS76.set_2) | exact HI101.out)) (rZ HO_7.out) (by decide)) hk (fun _ h => h.2)) (fun _ h => h.1)); have _ := aM (Kd.R_mono (Kd.R_keep (IsS76.apart (show IsS76 w _ gb101 l0 x102001_1 x102002_1 from by repeat (first | (with_reducible first | exact HI101.out | apply IsS76.alloc | apply IsS76.drewN | apply IsS76.drew | apply IsS76.set_1 | apply IsS76.set_2) | exact HI101.out)) (rZ HO_14.out) (by decide)) hk (fun _ h => h.2)) (fun _ h => h.1)); have _ := aM hb; have _ := aM hi; clear HO_6 HO_7 HO_14 HB HI101; rename_i HO_6 HO_7 HO_14 HB HI101; (try clear hb); (try clear hk); (try clear hi)) | ((with_reducible refine gate_builtin (b := .append) (xs := #[.tmp 58, .tmp 59]) rfl ?_); at_builtin; refine Kd.R_append Kd.string (w0 := w) w.heap.size rfl (.tmp 58) (.tmp 59) 55 9 (.string ⟨#[]⟩) 16 rfl Try.underlying55 info9 rfl (by decide) (by omega) u6 x6_1 (⟨#[97]⟩ : ByteArray) [.string (⟨#[97]⟩ : ByteArray)] (fun k_ => some k_ ≠ (.slice Ao5 y102.length co5 : Value).ownBlock) (fun _ => False) rfl rfl ?aP (fun _ hk => hk.elim) ?aF ?aO ?aB ?aS ?aL ?_; (case aP => exact rfl); (case aB => exact zc59d); (case aF => exact (fun k_ hk => Kd.fresh' (Kd.R_lt (rZ HO_14.out)) k_ hk)); (case aO => exact (rZ HO_6.out)); (case aS => exact (below_size zc59d)); (case aL => have := LMc51.out; omega); intro v144 w55 ho hb hg hat; rw [← Ny143.out] at ho; have _ := aM (Kd.R_over' (rZ HO_7.out) (Kd.R_typed (rZ HO_6.out)) (by decide) hg); have _ := aM (Kd.R_after (ok := (fun _ => True)) (by (with_reducible repeat (first | apply Kd.R_alloc | apply Kd.R_drewN | apply Kd.R_drew)); exact Kd.R_mono HO_14.out (fun _ hk => ⟨trivial, hk⟩)) hg hat); have _ := aM (IsS76.grown z00c4 hg (IsS76.own_ne HI101.out HO_6.out (by decide))); have _ := aM hb; have _ := aM ho; clear HO_7 HO_14 HI101 HB HO_6; rename_i HO_7 HO_14 HI101 HB HO145; clear ho hb hg hat) | ((with_reducible refine gate_builtin (b := .append) (xs := #[.tmp 61, .tmp 62]) rfl ?_); at_builtin; refine Kd.R_append (Kd.int .i64) (w0 := w) w.heap.size rfl (.tmp 61) (.tmp 62) 24 3 (.int .i64 0) 8 rfl Try.underlying24 info3 rfl (by decide) (by omega) u7 x7_1 1 [.int .i64 1] (fun _ => True) (fun _ => False) rfl rfl ?aP (fun _ hk => hk.elim) ?aF ?aO ?aB ?aS ?aL ?_; (case aP => exact rfl); (case aB => exact zc59d); (case aF => exact (fun _ _ => trivial)); (case aO => exact (rZ HO_7.out)); (case aS => exact (below_size zc59d)); (case aL => have := LMc52.out; omega); intro v147 w56 ho hb hg hat; rw [← Ny146.out] at ho; have _ := aM (Kd.R_over' (rZ HO_14.out) (Kd.R_typed (rZ HO_7.out)) (by decide) hg); have _ := aM (IsS76.grown z00c4 hg (IsS76.own_ne HI101.out HO_7.out (by decide))); have _ := aM (Kd.R_over' (rZ HO145.out) (Kd.R_typed (rZ HO_7.out)) (by decide) hg); have _ := aM hb; have _ := aM ho; clear HO_14 HI101 HO145 HB HO_7; rename_i HO_14 HI101 HO145 HB HO148; clear ho hb hg hat) | ((with_reducible refine gate_callee (f := 61) rfl ?_); refine gL 67 Try.func61 #[.pointer (some ⟨gb101, 0, none⟩)] ?_; (with_reducible refine (spec_l1Cur_keyText.calls gb101 l0 t122 t123 t149 t150 t151 w _ ?side1 ?side2 A53.out).mono ?_); (case side1 => exact z00c4); (case side2 => exact zc59d); rintro e w57 ⟨rfl, hi, hb, hk⟩; refine ⟨_, rfl, ?_⟩; have _ := aM (Kd.R_mono (Kd.R_keep (IsS76.apart (show IsS76 w _ gb101 l0 t122 t123 from by repeat (first | (with_reducible first | exact HI101.out | apply IsS76.alloc | apply IsS76.drewN | apply IsS76.drew | apply IsS76.set_1 | apply IsS76.set_2) | exact HI101.out)) (rZ HO_14.out) (by decide)) hk (fun _ h => h.2)) (fun _ h => h.1)); have _ := aM (Kd.R_mono (Kd.R_keep (IsS76.apart (show IsS76 w _ gb101 l0 t122 t123 from by repeat (first | (with_reducible first | exact HI101.out | apply IsS76.alloc | apply IsS76.drewN | apply IsS76.drew | apply IsS76.set_1 | apply IsS76.set_2) | exact HI101.out)) (rZ HO145.out) (by decide)) hk (fun _ h => h.2)) (fun _ h => h.1)); have _ := aM (Kd.R_mono (Kd.R_keep (IsS76.apart (show IsS76 w _ gb101 l0 t122 t123 from by repeat (first | (with_reducible first | exact HI101.out | apply IsS76.alloc | apply IsS76.drewN | apply IsS76.drew | apply IsS76.set_1 | apply IsS76.set_2) | exact HI101.out)) (rZ HO148.out) (by decide)) hk (fun _ h => h.2)) (fun _ h => h.1)); have _ := aM hb; have _ := aM hi; clear HO_14 HO145 HO148 HB HI101; rename_i HO_14 HO145 HO148 HB HI101; (try clear hb); (try clear hk); (try clear hi)))
           go_ret3
           exact ⟨_, _, z674d, by (with_reducible repeat (first | apply Kd.R_alloc | apply Kd.R_drewN | apply Kd.R_drew)); exact Kd.R_mono HO145.out (fun _ hk => trivial), rZ HO148.out, zc59d⟩
         · rw [if_neg c50] at H
           have c50b0 := eqN c50
           obtain ⟨⟨t152, t153, t154⟩, A58, H⟩ := bS H; try dsimp only at H
           simp only [Option.some.injEq, Prod.mk.injEq] at H
           obtain ⟨rfl, rfl, rfl⟩ := H
           go_wp2_with (first | ((with_reducible refine gate_callee (f := 53) rfl ?_); refine gL 40 Try.func53 #[.pointer (some ⟨gb101, 0, none⟩), .int .i64 30] ?_; (with_reducible refine (spec_l1Cur_pick.calls gb101 l0 x102001_1 x102002_1 30 t121 t122 t123 w _ ?side1 ?side2 A24.out).mono ?_); (case side1 => exact z00c4); (case side2 => exact zc59d); rintro e w59 ⟨rfl, hi, hb, hk⟩; refine ⟨_, rfl, ?_⟩; have _ := aM (Kd.R_mono (Kd.R_keep (IsS76.apart (show IsS76 w _ gb101 l0 x102001_1 x102002_1 from by repeat (first | (with_reducible first | exact HI101.out | apply IsS76.alloc | apply IsS76.drewN | apply IsS76.drew | apply IsS76.set_1 | apply IsS76.set_2) | exact HI101.out)) (rZ HO_6.out) (by decide)) hk (fun _ h => h.2)) (fun _ h => h.1)); have _ := aM (Kd.R_mono (Kd.R_keep (IsS76.apart (show IsS76 w _ gb101 l0 x102001_1 x102002_1 from by repeat (first | (with_reducible first | exact HI101.out | apply IsS76.alloc | apply IsS76.drewN | apply IsS76.drew | apply IsS76.set_1 | apply IsS76.set_2) | exact HI101.out)) (rZ HO_7.out) (by decide)) hk (fun _ h => h.2)) (fun _ h => h.1)); have _ := aM (Kd.R_mono (Kd.R_keep (IsS76.apart (show IsS76 w _ gb101 l0 x102001_1 x102002_1 from by repeat (first | (with_reducible first | exact HI101.out | apply IsS76.alloc | apply IsS76.drewN | apply IsS76.drew | apply IsS76.set_1 | apply IsS76.set_2) | exact HI101.out)) (rZ HO_14.out) (by decide)) hk (fun _ h => h.2)) (fun _ h => h.1)); have _ := aM hb; have _ := aM hi; clear HO_6 HO_7 HO_14 HB HI101; rename_i HO_6 HO_7 HO_14 HB HI101; (try clear hb); (try clear hk); (try clear hi)) | ((with_reducible refine gate_callee (f := 61) rfl ?_); refine gL 67 Try.func61 #[.pointer (some ⟨gb101, 0, none⟩)] ?_; (with_reducible refine (spec_l1Cur_keyText.calls gb101 l0 t122 t123 t152 t153 t154 w _ ?side1 ?side2 A58.out).mono ?_); (case side1 => exact z00c4); (case side2 => exact zc59d); rintro e w60 ⟨rfl, hi, hb, hk⟩; refine ⟨_, rfl, ?_⟩; have _ := aM (Kd.R_mono (Kd.R_keep (IsS76.apart (show IsS76 w _ gb101 l0 t122 t123 from by repeat (first | (with_reducible first | exact HI101.out | apply IsS76.alloc | apply IsS76.drewN | apply IsS76.drew | apply IsS76.set_1 | apply IsS76.set_2) | exact HI101.out)) (rZ HO_6.out) (by decide)) hk (fun _ h => h.2)) (fun _ h => h.1)); have _ := aM (Kd.R_mono (Kd.R_keep (IsS76.apart (show IsS76 w _ gb101 l0 t122 t123 from by repeat (first | (with_reducible first | exact HI101.out | apply IsS76.alloc | apply IsS76.drewN | apply IsS76.drew | apply IsS76.set_1 | apply IsS76.set_2) | exact HI101.out)) (rZ HO_7.out) (by decide)) hk (fun _ h => h.2)) (fun _ h => h.1)); have _ := aM (Kd.R_mono (Kd.R_keep (IsS76.apart (show IsS76 w _ gb101 l0 t122 t123 from by repeat (first | (with_reducible first | exact HI101.out | apply IsS76.alloc | apply IsS76.drewN | apply IsS76.drew | apply IsS76.set_1 | apply IsS76.set_2) | exact HI101.out)) (rZ HO_14.out) (by decide)) hk (fun _ h => h.2)) (fun _ h => h.1)); have _ := aM hb; have _ := aM hi; clear HO_6 HO_7 HO_14 HB HI101; rename_i HO_6 HO_7 HO_14 HB HI101; (try clear hb); (try clear hk); (try clear hi)))
           go_ret3
           exact ⟨_, _, z674d, z0c8c, rZ HO_7.out, zc59d⟩
end Go.Proofs.Ytdkokfnnebdppaa.P
