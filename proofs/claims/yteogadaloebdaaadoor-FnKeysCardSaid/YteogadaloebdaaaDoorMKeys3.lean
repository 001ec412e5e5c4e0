/- Part 3 of the walks and words that Keys uses. No conditions of its own. -/
import Derived.Shelf.Strings.SlTrimAscii
import Derived.Shelf.Strings.Trim
import Derived.Shelf.Small.Utf8
import Derived.Shelf.Small.Strs
import Derived.Shelf.Strings.Search1
import Derived.Shelf.Strings.Search2
import Derived.Shelf.Strings.Search3
import Derived.Shelf.Strings.Cut
import Derived.Shelf.Strings.Count
import Derived.Shelf.LaysM
import Derived.Shelf.Strings.Shaped
import Derived.Shelf.Strings.Runes
import Derived.Shelf.Strings.AsciiSet
import Derived.Shelf.Unicode.DecodeSlow
import Derived.Test.YteogadaloebdaaaDoorProg
import Derived.Lib.SlTrimSet
import Derived.Lib.AppendStr
import Derived.Laws.CopyRow
import Derived.Lib.ConvBytes
import Derived.Test.YteogadaloebdaaaDoorMKeys2

-- written by a program of this session's (wip/pp)
namespace Go.Proofs.YteogadaloebdaaaDoor.P
open Go.RowKit Go.Proofs.YteogadaloebdaaaDoorW.PrintWords Go.Proofs.YteogadaloebdaaaDoorW.PrintLast Go.Proofs.YteogadaloebdaaaDoorW.PrintMore
attribute [local go_sem] max2_int min2_int max_two min_two max_three min_three max_four min_four str_geq str_gtr str_leq   -- for this text's walks alone
set_option linter.unusedVariables false
set_option linter.unusedSimpArgs false

/-! ### spec_DrawCompareKeys: function 8 -/
def spec_DrawCompareKeys.f (k : Nat) (l0 : List Int) : Option (ByteArray × (List (S69)) × Int × ByteArray × (List (S69)) × Int) := (spec_l1Cur_key.f k l0 0 0).bind fun bt104 => ((spec_l1Cur_key.f k l0 bt104.2.2.2.1 bt104.2.2.2.2).bind fun bt112 => ((spec_l1Cur_one.f l0 bt112.2.2.2.1 bt112.2.2.2.2 4).bind fun bt120 => (if bt120.1 = true then ((spec_l1Cur_pick.f l0 bt120.2.1 bt120.2.2 6).bind fun bt123 => (some (bt104.1, bt104.2.1, bt104.2.2.1, bt104.1, bt104.2.1, wrap64 (10 * bt123.1)))) else (some (bt104.1, bt104.2.1, bt104.2.2.1, bt112.1, bt112.2.1, bt112.2.2.1)))))
theorem spec_DrawCompareKeys.mono : ∀ a0 k, LeO (spec_DrawCompareKeys.f k a0) (spec_DrawCompareKeys.f (k + 1) a0) := by
 intro a0 k
 unfold spec_DrawCompareKeys.f
 repeat' first
  | (with_reducible first | exact spec_l1Cur_key.mono .. | exact LeO.refl _ | exact LeO.none _ | refine LeO.ite ?_ ?_ | refine LeO.bind ?_ (fun _ => ?_))
  | exact LeO.none _
  | refine LeO.ite ?_ ?_
  | refine LeO.bind ?_ (fun _ => ?_)
set_option maxHeartbeats 8000000 in
set_option maxRecDepth 100000 in
theorem spec_DrawCompareKeys.calls (k : Nat) (A0 : Option Addr) (c0 : Nat) (l0 : List Int) (r1 : ByteArray) (r2 : List (S69)) (r3 : Int) (r4 : ByteArray) (r5 : List (S69)) (r6 : Int) (w : World) (hr0 : Kd.C (Kd.int .u8) w A0 l0.length l0) (hc0 : l0.length ≤ c0) (h : spec_DrawCompareKeys.f k l0 = some (r1, r2, r3, r4, r5, r6)) :
 Calls Tryd.prog 8 #[.slice A0 l0.length c0] w fun e w' => ∃ v1_ v4_ : Value, e = .returned (.tuple #[.agg #[.string r1, v1_, .int .i64 r3], .agg #[.string r4, v4_, .int .i64 r6]]) ∧ Kd.V k69 69 w' w.heap.size (fun k_ => (w.heap.size ≤ k_)) v1_ r2 ∧ Kd.V k69 69 w' w.heap.size (fun k_ => (w.heap.size ≤ k_)) v4_ r5 ∧ Below w.heap.size w w' := by
 have hu25 := Tryd.underlying25
 have hu62 := Tryd.underlying62
 have HR0 := aM hr0
 have HC0 := aM hc0
 clear hr0 hc0
 have HB := aM (Below.refl w.heap.size w)
 have H : ((spec_l1Cur_key.f k l0 0 0).bind fun bt104 => ((spec_l1Cur_key.f k l0 bt104.2.2.2.1 bt104.2.2.2.2).bind fun bt112 => ((spec_l1Cur_one.f l0 bt112.2.2.2.1 bt112.2.2.2.2 4).bind fun bt120 => (if bt120.1 = true then ((spec_l1Cur_pick.f l0 bt120.2.1 bt120.2.2 6).bind fun bt123 => (some (bt104.1, bt104.2.1, bt104.2.2.1, bt104.1, bt104.2.1, wrap64 (10 * bt123.1)))) else (some (bt104.1, bt104.2.1, bt104.2.2.1, bt112.1, bt112.2.1, bt112.2.2.1)))))) = some (r1, r2, r3, r4, r5, r6) := h
 clear h
 replace H := Option.bind_eq_some_iff.mp H
 obtain ⟨⟨t104, t105, t108, t109, t110⟩, A20, H⟩ := H
 try dsimp only at H
 have A2 := aM A20
 clear A20
 replace H := Option.bind_eq_some_iff.mp H
 obtain ⟨⟨t112, t113, t116, t117, t118⟩, A30, H⟩ := H
 try dsimp only at H
 have A3 := aM A30
 clear A30
 replace H := Option.bind_eq_some_iff.mp H
 obtain ⟨⟨t120, t121, t122⟩, A40, H⟩ := H
 try dsimp only at H
 have A4 := aM A40
 clear A40
 by_cases c5 : t120 = true
 · subst c5
   have H1 : ((spec_l1Cur_pick.f l0 t121 t122 6).bind fun bt123 => (some (t104, t105, t108, t104, t105, wrap64 (10 * bt123.1)))) = some (r1, r2, r3, r4, r5, r6) := by rw [if_pos rfl] at H; exact H
   clear H
   have H := H1
   clear H1
   replace H := Option.bind_eq_some_iff.mp H
   obtain ⟨⟨t123, t124, t125⟩, A60, H⟩ := H
   try dsimp only at H
   have A6 := aM A60
   clear A60
   simp only [Option.some.injEq, Prod.mk.injEq] at H
   obtain ⟨rfl, rfl, rfl, rfl, rfl, rfl⟩ := H
   go_enter Tryd.func8, Tryd.ntmps8
   try go_wp2_with (first | ((with_reducible refine gate_dst (N := 2) rfl ?_); refine box_event ?hg (N := 2) ?hd (cs := #[.string (⟨#[]⟩ : ByteArray), .slice none 0 0, .int .i64 0]) (t := 25) ?hr ?_; (case hd => rfl); (case hg => rfl); (case hr => first | (go_simp; done) | (go_simp; rfl)); intro gb101 hg w7 hbox hb; have _ := aM (below_step hbZ hb); have _ := aM hbox; have _ := szZ hg; have _ := szZ hg; clear HB; rename_i HB BK101 GW101 GE101; clear hb hbox hg) | ((with_reducible refine gate_dst (N := 3) rfl ?_); refine box_event ?hg (N := 3) ?hd (cs := #[.string (⟨#[]⟩ : ByteArray), .slice none 0 0, .int .i64 0]) (t := 25) ?hr ?_; (case hd => rfl); (case hg => rfl); (case hr => first | (go_simp; done) | (go_simp; rfl)); intro gb102 hg w8 hbox hb; have _ := bB gb101 hb; have _ := aM (below_step hbZ hb); have _ := aM hbox; have _ := szZ hg; have _ := szZ hg; have ⟨_, _⟩ := nbB gb101 hg; clear BK101 HB; rename_i BK101 HB BK102 GW102 GE102 NB101_102 NB102_101; clear hb hbox hg) | ((with_reducible refine gate_dst (N := 9) rfl ?_); refine box_event ?hg (N := 9) ?hd (cs := #[.slice A0 l0.length c0, .int .i64 0, .int .u64 0]) (t := 62) ?hr ?_; (case hd => rfl); (case hg => rfl); (case hr => first | (go_simp; done) | (go_simp; rfl)); intro gb103 hg w9 hbox hb; have _ := bB gb101 hb; have _ := bB gb102 hb; have _ := aM (below_step hbZ hb); have _ := szZ hg; have _ := szZ hg; have ⟨_, _⟩ := nbB gb101 hg; have ⟨_, _⟩ := nbB gb102 hg; have _ := aM ((show IsS62 w w9 gb103 l0 0 0 from ⟨_, _, hbox, (by rw [hg]; exact (below_size hbZ) : w.heap.size ≤ gb103), HR0.out⟩)); clear BK101 BK102 HB; rename_i BK101 BK102 HB GW103 GE103 NB101_103 NB103_101 NB102_103 NB103_102 HI103; clear hb hbox hg) | ((with_reducible refine gate_callee (f := 28) rfl ?_); refine goesL_ (some 11) rfl rfl Tryd.func28 (by kernel_rfl) rfl #[.pointer (some ⟨gb103, 0, none⟩)] rfl zee81 ?_; (with_reducible refine (spec_l1Cur_key.calls k gb103 l0 0 0 t104 t105 t108 t109 t110 w _ ?side1 ?side2 A2.out).mono ?_); (case side1 => exact (by repeat (first | (with_reducible first | exact HI103.out | apply IsS62.alloc | apply IsS62.drewN | apply IsS62.drew | apply IsS62.set_1 | apply IsS62.set_2 | refine IsS62.far ?_ (Aside0.out (by assumption)) _) | exact HI103.out))); (case side2 => exact (by repeat (first | (with_reducible first | exact HB.out | apply below_alloc | apply pw_below_drewN | apply below_drew1 | refine below_set ?_ (IsS62.ge (Aside0.out (by assumption))) | refine below_set ?_ (Aside0.out (by assumption))) | exact HB.out))); rintro e w10 ⟨v106, rfl, ho0, hi, hb, hk⟩; refine ⟨_, rfl, ?_⟩; have _ := aM (KeepBut.blk hk (g' := gb101) bkZ NB101_103.out (by simp)); have _ := aM (KeepBut.blk hk (g' := gb102) bkZ NB102_103.out (by simp)); have _ := aM (Kd.R_lower (Kd.R_newM (M := fun k_ => (w.heap.size ≤ k_)) ho0 (below_size (by repeat (first | (with_reducible first | exact HB.out | apply below_alloc | apply pw_below_drewN | apply below_drew1 | refine below_set ?_ (IsS62.ge (Aside0.out (by assumption))) | refine below_set ?_ (Aside0.out (by assumption))) | exact HB.out))) (fun k_ h_ => h_)) (below_size (by repeat (first | (with_reducible first | exact HB.out | apply below_alloc | apply pw_below_drewN | apply below_drew1 | refine below_set ?_ (IsS62.ge (Aside0.out (by assumption))) | refine below_set ?_ (Aside0.out (by assumption))) | exact HB.out)))); have _ := aM hb; have _ := aM hi; clear BK101 BK102 HB HI103; rename_i BK101 BK102 HO107 HB HI103; (try clear hb); (try clear hk); (try clear hi); (try clear ho0)) | ((with_reducible refine gate_dst (N := 5) rfl ?_); refine box_event ?hg (N := 5) ?hd (cs := #[.string (⟨#[]⟩ : ByteArray), .slice none 0 0, .int .i64 0]) (t := 25) ?hr ?_; (case hd => rfl); (case hg => rfl); (case hr => first | (go_simp; done) | (go_simp; rfl)); intro gb111 hg w11 hbox hb; have _ := aM (Kd.R_below (rZ HO107.out) hb); have _ := bB gb101 hb; have _ := bB gb102 hb; have _ := aM (IsS62.below (by repeat (first | (with_reducible first | exact HI103.out | apply IsS62.alloc | apply IsS62.drewN | apply IsS62.drew | apply IsS62.set_1 | apply IsS62.set_2 | refine IsS62.far ?_ (Aside0.out (by assumption)) _) | exact HI103.out)) hb); have _ := aM (below_step (by repeat (first | (with_reducible first | exact HB.out | apply below_alloc | apply pw_below_drewN | apply below_drew1 | refine below_set ?_ (IsS62.ge (Aside0.out (by assumption))) | refine below_set ?_ (Aside0.out (by assumption))) | exact HB.out)) hb); have _ := aM hbox; have _ := aM ((by rw [hg]; exact (below_size (by repeat (first | (with_reducible first | exact HB.out | apply below_alloc | apply pw_below_drewN | apply below_drew1 | refine below_set ?_ (IsS62.ge (Aside0.out (by assumption))) | refine below_set ?_ (Aside0.out (by assumption))) | exact HB.out))) : w.heap.size ≤ gb111)); have _ := aM ((by rw [hg]; exact (below_size (by repeat (first | (with_reducible first | exact HB.out | apply below_alloc | apply pw_below_drewN | apply below_drew1 | refine below_set ?_ (IsS62.ge (Aside0.out (by assumption))) | refine below_set ?_ (Aside0.out (by assumption))) | exact HB.out))) : w.heap.size ≤ gb111)); have ⟨_, _⟩ := nbB gb101 hg; have ⟨_, _⟩ := nbB gb102 hg; have _ := aM ((by rw [hg]; exact Nat.ne_of_lt (IsS62.lt (show IsS62 w _ gb103 l0 t109 t110 from by repeat (first | (with_reducible first | exact HI103.out | apply IsS62.alloc | apply IsS62.drewN | apply IsS62.drew | apply IsS62.set_1 | apply IsS62.set_2 | refine IsS62.far ?_ (Aside0.out (by assumption)) _) | exact HI103.out))) : gb103 ≠ gb111)); have _ := aM ((by rw [hg]; exact Nat.ne_of_gt (IsS62.lt (show IsS62 w _ gb103 l0 t109 t110 from by repeat (first | (with_reducible first | exact HI103.out | apply IsS62.alloc | apply IsS62.drewN | apply IsS62.drew | apply IsS62.set_1 | apply IsS62.set_2 | refine IsS62.far ?_ (Aside0.out (by assumption)) _) | exact HI103.out))) : gb111 ≠ gb103)); clear HO107 BK101 BK102 HI103 HB; rename_i HO107 BK101 BK102 HI103 HB BK111 GW111 GE111 NB101_111 NB111_101 NB102_111 NB111_102 NB103_111 NB111_103; clear hb hbox hg; have hnb12 := NB111_101.out; have hnc12 := NB101_111.out; have hnb13 := NB111_102.out; have hnc13 := NB102_111.out; have hnb14 := NB111_103.out; have hnc14 := NB103_111.out; obtain ⟨hcz15_0, hcz15_1, hcz15_2, hfz15_0, hfz15_1, hfz15_2⟩ := cellsZ3 BK111.out; obtain ⟨Ao16, co16, eo16⟩ := Kd.R_slice HO107.out; subst eo16) | ((with_reducible refine gate_callee (f := 28) rfl ?_); refine goesL_ (some 13) rfl rfl Tryd.func28 (by kernel_rfl) rfl #[.pointer (some ⟨gb103, 0, none⟩)] rfl zee81 ?_; (with_reducible refine (spec_l1Cur_key.calls k gb103 l0 t109 t110 t112 t113 t116 t117 t118 w _ ?side1 ?side2 A3.out).mono ?_); (case side1 => exact (by repeat (first | (with_reducible first | exact HI103.out | apply IsS62.alloc | apply IsS62.drewN | apply IsS62.drew | apply IsS62.set_1 | apply IsS62.set_2 | refine IsS62.far ?_ (Aside0.out (by assumption)) _) | exact HI103.out))); (case side2 => exact (by repeat (first | (with_reducible first | exact HB.out | apply below_alloc | apply pw_below_drewN | apply below_drew1 | refine below_set ?_ (IsS62.ge (Aside0.out (by assumption))) | refine below_set ?_ (Aside0.out (by assumption))) | exact HB.out))); rintro e w17 ⟨v114, rfl, ho0, hi, hb, hk⟩; refine ⟨_, rfl, ?_⟩; have _ := aM (KeepBut.blk hk (g' := gb101) bkZ NB101_103.out (by simp)); have _ := aM (KeepBut.blk hk (g' := gb102) bkZ NB102_103.out (by simp)); have _ := aM (Kd.R_mono (Kd.R_told (Kd.R_oldK (IsS62.apart (show IsS62 w _ gb103 l0 t109 t110 from by repeat (first | (with_reducible first | exact HI103.out | apply IsS62.alloc | apply IsS62.drewN | apply IsS62.drew | apply IsS62.set_1 | apply IsS62.set_2 | refine IsS62.far ?_ (Aside0.out (by assumption)) _) | exact HI103.out)) (rZ (rF3 HO107.out BK111.out)) (by decide)) hk) (Kd.R_base ho0)) (fun _ h_ => h_.1)); have _ := aM (KeepBut.blk hk (g' := gb111) (o := .cells #[.string t104, .slice Ao16 t105.length co16, .int .i64 t108] 25 (0, 0)) bkZ NB111_103.out (by simp)); have _ := aM (Kd.R_lower (Kd.R_new' (Kd.R_newM (M := fun k_ => (w.heap.size ≤ k_)) ho0 (below_size (by repeat (first | (with_reducible first | exact HB.out | apply below_alloc | apply pw_below_drewN | apply below_drew1 | refine below_set ?_ (IsS62.ge (Aside0.out (by assumption))) | refine below_set ?_ (Aside0.out (by assumption))) | exact HB.out))) (fun k_ h_ => h_)) (Kd.R_lt (rZ (rF3 HO107.out BK111.out)))) (below_size (by repeat (first | (with_reducible first | exact HB.out | apply below_alloc | apply pw_below_drewN | apply below_drew1 | refine below_set ?_ (IsS62.ge (Aside0.out (by assumption))) | refine below_set ?_ (Aside0.out (by assumption))) | exact HB.out)))); have _ := aM hb; have _ := aM hi; clear BK101 BK102 HO107 BK111 HB HI103; rename_i BK101 BK102 HO107 BK111 HO115 HB HI103; (try clear hb); (try clear hk); (try clear hi); (try clear ho0)) | ((with_reducible refine gate_dst (N := 6) rfl ?_); refine box_event ?hg (N := 6) ?hd (cs := #[.string (⟨#[]⟩ : ByteArray), .slice none 0 0, .int .i64 0]) (t := 25) ?hr ?_; (case hd => rfl); (case hg => rfl); (case hr => first | (go_simp; done) | (go_simp; rfl)); intro gb119 hg w18 hbox hb; have _ := aM (Kd.R_below (rZ HO107.out) hb); have _ := aM (Kd.R_below (rZ HO115.out) hb); have _ := bB gb101 hb; have _ := bB gb102 hb; have _ := aM (IsS62.below (by repeat (first | (with_reducible first | exact HI103.out | apply IsS62.alloc | apply IsS62.drewN | apply IsS62.drew | apply IsS62.set_1 | apply IsS62.set_2 | refine IsS62.far ?_ (Aside0.out (by assumption)) _) | exact HI103.out)) hb); have _ := bB gb111 hb; have _ := aM (below_step (by repeat (first | (with_reducible first | exact HB.out | apply below_alloc | apply pw_below_drewN | apply below_drew1 | refine below_set ?_ (IsS62.ge (Aside0.out (by assumption))) | refine below_set ?_ (Aside0.out (by assumption))) | exact HB.out)) hb); have _ := aM hbox; have _ := aM ((by rw [hg]; exact (below_size (by repeat (first | (with_reducible first | exact HB.out | apply below_alloc | apply pw_below_drewN | apply below_drew1 | refine below_set ?_ (IsS62.ge (Aside0.out (by assumption))) | refine below_set ?_ (Aside0.out (by assumption))) | exact HB.out))) : w.heap.size ≤ gb119)); have _ := aM ((by rw [hg]; exact (below_size (by repeat (first | (with_reducible first | exact HB.out | apply below_alloc | apply pw_below_drewN | apply below_drew1 | refine below_set ?_ (IsS62.ge (Aside0.out (by assumption))) | refine below_set ?_ (Aside0.out (by assumption))) | exact HB.out))) : w.heap.size ≤ gb119)); have ⟨_, _⟩ := nbB gb101 hg; have ⟨_, _⟩ := nbB gb102 hg; have ⟨_, _⟩ := nbB gb111 hg; have _ := aM ((by rw [hg]; exact Nat.ne_of_lt (IsS62.lt (show IsS62 w _ gb103 l0 t117 t118 from by repeat (first | (with_reducible first | exact HI103.out | apply IsS62.alloc | apply IsS62.drewN | apply IsS62.drew | apply IsS62.set_1 | apply IsS62.set_2 | refine IsS62.far ?_ (Aside0.out (by assumption)) _) | exact HI103.out))) : gb103 ≠ gb119)); have _ := aM ((by rw [hg]; exact Nat.ne_of_gt (IsS62.lt (show IsS62 w _ gb103 l0 t117 t118 from by repeat (first | (with_reducible first | exact HI103.out | apply IsS62.alloc | apply IsS62.drewN | apply IsS62.drew | apply IsS62.set_1 | apply IsS62.set_2 | refine IsS62.far ?_ (Aside0.out (by assumption)) _) | exact HI103.out))) : gb119 ≠ gb103)); clear HO107 HO115 BK101 BK102 HI103 BK111 HB; rename_i HO107 HO115 BK101 BK102 HI103 BK111 HB BK119 GW119 GE119 NB101_119 NB119_101 NB102_119 NB119_102 NB111_119 NB119_111 NB103_119 NB119_103; clear hb hbox hg; have hnb19 := NB119_101.out; have hnc19 := NB101_119.out; have hnb20 := NB119_102.out; have hnc20 := NB102_119.out; have hnb21 := NB119_111.out; have hnc21 := NB111_119.out; have hnb22 := NB119_103.out; have hnc22 := NB103_119.out; obtain ⟨hcz23_0, hcz23_1, hcz23_2, hfz23_0, hfz23_1, hfz23_2⟩ := cellsZ3 BK119.out; obtain ⟨Ao24, co24, eo24⟩ := Kd.R_slice HO115.out; subst eo24) | ((with_reducible refine gate_callee (f := 29) rfl ?_); refine goesL_ (some 15) rfl rfl Tryd.func29 (by kernel_rfl) rfl #[.pointer (some ⟨gb103, 0, none⟩), .int .i64 4] rfl zee81 ?_; (with_reducible refine (spec_l1Cur_one.calls gb103 l0 t117 t118 4 true t121 t122 w _ ?side1 ?side2 A4.out).mono ?_); (case side1 => exact (by repeat (first | (with_reducible first | exact HI103.out | apply IsS62.alloc | apply IsS62.drewN | apply IsS62.drew | apply IsS62.set_1 | apply IsS62.set_2 | refine IsS62.far ?_ (Aside0.out (by assumption)) _) | exact HI103.out))); (case side2 => exact (by repeat (first | (with_reducible first | exact HB.out | apply below_alloc | apply pw_below_drewN | apply below_drew1 | refine below_set ?_ (IsS62.ge (Aside0.out (by assumption))) | refine below_set ?_ (Aside0.out (by assumption))) | exact HB.out))); rintro e w25 ⟨rfl, hi, hb, hk⟩; refine ⟨_, rfl, ?_⟩; have _ := aM (KeepBut.blk hk (g' := gb101) bkZ NB101_103.out (by simp)); have _ := aM (KeepBut.blk hk (g' := gb102) bkZ NB102_103.out (by simp)); have _ := aM (Kd.R_mono (Kd.R_keep (IsS62.apart (show IsS62 w _ gb103 l0 t117 t118 from by repeat (first | (with_reducible first | exact HI103.out | apply IsS62.alloc | apply IsS62.drewN | apply IsS62.drew | apply IsS62.set_1 | apply IsS62.set_2 | refine IsS62.far ?_ (Aside0.out (by assumption)) _) | exact HI103.out)) (rZ (rF3 HO107.out BK119.out)) (by decide)) hk (fun _ h => h.2)) (fun _ h => h.1)); have _ := aM (KeepBut.blk hk (g' := gb111) bkZ NB111_103.out (by simp)); have _ := aM (Kd.R_mono (Kd.R_keep (IsS62.apart (show IsS62 w _ gb103 l0 t117 t118 from by repeat (first | (with_reducible first | exact HI103.out | apply IsS62.alloc | apply IsS62.drewN | apply IsS62.drew | apply IsS62.set_1 | apply IsS62.set_2 | refine IsS62.far ?_ (Aside0.out (by assumption)) _) | exact HI103.out)) (rZ (rF3 HO115.out BK119.out)) (by decide)) hk (fun _ h => h.2)) (fun _ h => h.1)); have _ := aM (KeepBut.blk hk (g' := gb119) (o := .cells #[.string t112, .slice Ao24 t113.length co24, .int .i64 t116] 25 (0, 0)) bkZ NB119_103.out (by simp)); have _ := aM hb; have _ := aM hi; clear BK101 BK102 HO107 BK111 HO115 BK119 HB HI103; rename_i BK101 BK102 HO107 BK111 HO115 BK119 HB HI103; (try clear hb); (try clear hk); (try clear hi); obtain ⟨hcz26_0, hcz26_1, hcz26_2, hfz26_0, hfz26_1, hfz26_2⟩ := cellsZ3 BK111.out; obtain ⟨hcz27_0, hcz27_1, hcz27_2, hfz27_0, hfz27_1, hfz27_2⟩ := cellsZ3 BK119.out) | ((with_reducible refine gate_callee (f := 30) rfl ?_); refine goesL_ (some 18) rfl rfl Tryd.func30 (by kernel_rfl) rfl #[.pointer (some ⟨gb103, 0, none⟩), .int .i64 6] rfl zee81 ?_; (with_reducible refine (spec_l1Cur_pick.calls gb103 l0 t121 t122 6 t123 t124 t125 w _ ?side1 ?side2 A6.out).mono ?_); (case side1 => exact (by repeat (first | (with_reducible first | exact HI103.out | apply IsS62.alloc | apply IsS62.drewN | apply IsS62.drew | apply IsS62.set_1 | apply IsS62.set_2 | refine IsS62.far ?_ (Aside0.out (by assumption)) _) | exact HI103.out))); (case side2 => exact (by repeat (first | (with_reducible first | exact HB.out | apply below_alloc | apply pw_below_drewN | apply below_drew1 | refine below_set ?_ (IsS62.ge (Aside0.out (by assumption))) | refine below_set ?_ (Aside0.out (by assumption))) | exact HB.out))); rintro e w28 ⟨rfl, hi, hb, hk⟩; refine ⟨_, rfl, ?_⟩; have _ := aM (KeepBut.blk hk (g' := gb101) bkZ NB101_103.out (by simp)); have _ := aM (KeepBut.blk hk (g' := gb102) bkZ NB102_103.out (by simp)); have _ := aM (Kd.R_mono (Kd.R_keep (IsS62.apart (show IsS62 w _ gb103 l0 t121 t122 from by repeat (first | (with_reducible first | exact HI103.out | apply IsS62.alloc | apply IsS62.drewN | apply IsS62.drew | apply IsS62.set_1 | apply IsS62.set_2 | refine IsS62.far ?_ (Aside0.out (by assumption)) _) | exact HI103.out)) (rZ (rF3 HO107.out BK119.out)) (by decide)) hk (fun _ h => h.2)) (fun _ h => h.1)); have _ := aM (KeepBut.blk hk (g' := gb111) bkZ NB111_103.out (by simp)); have _ := aM (Kd.R_mono (Kd.R_keep (IsS62.apart (show IsS62 w _ gb103 l0 t121 t122 from by repeat (first | (with_reducible first | exact HI103.out | apply IsS62.alloc | apply IsS62.drewN | apply IsS62.drew | apply IsS62.set_1 | apply IsS62.set_2 | refine IsS62.far ?_ (Aside0.out (by assumption)) _) | exact HI103.out)) (rZ (rF3 HO115.out BK119.out)) (by decide)) hk (fun _ h => h.2)) (fun _ h => h.1)); have _ := aM (KeepBut.blk hk (g' := gb119) (o := .cells #[.string t104, .slice Ao16 t105.length co16, .int .i64 t108] 25 (0, 0)) bkZ NB119_103.out (by simp)); have _ := aM hb; have _ := aM hi; clear BK101 BK102 HO107 BK111 HO115 BK119 HB HI103; rename_i BK101 BK102 HO107 BK111 HO115 BK119 HB HI103; (try clear hb); (try clear hk); (try clear hi); obtain ⟨hcz29_0, hcz29_1, hcz29_2, hfz29_0, hfz29_1, hfz29_2⟩ := cellsZ3 BK119.out))
   have n0_ : Aside0 (Kd.R k69 69 (w28.setCell ⟨gb119, 2, none⟩ (.int .i64 (wrap64 (10 * t123)))) w.heap.size (fun k_ => (w.heap.size ≤ k_) ∧ some k_ ≠ (.slice Ao24 t113.length co24 : Value).ownBlock) (.slice Ao16 t105.length co16) t105) := ⟨by (with_reducible repeat (first | apply Kd.R_alloc | apply Kd.R_drewN | apply Kd.R_drew)); exact Kd.R_mono (Kd.R_far (p := ⟨gb119, 2, none⟩) (Kd.R_types HO107.out BK119.out (by decide)) (fun _ hk => hk.2) (.int .i64 (wrap64 (10 * t123)))) (fun _ hk => ⟨hk.1.1.1, hk.1.2⟩)⟩
   have n1_ : Aside0 (Kd.R k69 69 (w28.setCell ⟨gb119, 2, none⟩ (.int .i64 (wrap64 (10 * t123)))) w.heap.size (fun k_ => (w.heap.size ≤ k_) ∧ some k_ ≠ (.slice Ao16 t105.length co16 : Value).ownBlock) (.slice Ao24 t113.length co24) t113) := ⟨by (with_reducible repeat (first | apply Kd.R_alloc | apply Kd.R_drewN | apply Kd.R_drew)); exact Kd.R_mono (Kd.R_far (p := ⟨gb119, 2, none⟩) (Kd.R_types HO115.out BK119.out (by decide)) (fun _ hk => hk.2) (.int .i64 (wrap64 (10 * t123)))) (fun _ hk => ⟨hk.1.1.1, hk.1.2⟩)⟩
   have n2_ : Aside0 ((w28.setCell ⟨gb119, 2, none⟩ (.int .i64 (wrap64 (10 * t123)))).heap[gb101]? = some (.cells #[.string (⟨#[]⟩ : ByteArray), .slice none 0 0, .int .i64 0] 25 (0, 0))) := ⟨bkZ⟩
   have n3_ : Aside0 ((w28.setCell ⟨gb119, 2, none⟩ (.int .i64 (wrap64 (10 * t123)))).heap[gb102]? = some (.cells #[.string (⟨#[]⟩ : ByteArray), .slice none 0 0, .int .i64 0] 25 (0, 0))) := ⟨bkZ⟩
   have n4_ : Aside0 ((w28.setCell ⟨gb119, 2, none⟩ (.int .i64 (wrap64 (10 * t123)))).heap[gb111]? = some (.cells #[.string t104, .slice Ao16 t105.length co16, .int .i64 t108] 25 (0, 0))) := ⟨bkZ⟩
   have n5_ : Aside0 ((w28.setCell ⟨gb119, 2, none⟩ (.int .i64 (wrap64 (10 * t123)))).heap[gb119]? = some (.cells #[.string t104, .slice Ao16 t105.length co16, .int .i64 (wrap64 (10 * t123))] 25 (0, 0))) := ⟨bkZ⟩
   have n6_ : Aside0 (IsS62 w (w28.setCell ⟨gb119, 2, none⟩ (.int .i64 (wrap64 (10 * t123)))) gb103 l0 t124 t125) := ⟨by repeat (first | (with_reducible first | exact HI103.out | apply IsS62.alloc | apply IsS62.drewN | apply IsS62.drew | apply IsS62.set_1 | apply IsS62.set_2 | refine IsS62.far ?_ (Aside0.out (by assumption)) _) | exact HI103.out)⟩
   have n7_ : Aside0 (Below w.heap.size w (w28.setCell ⟨gb119, 2, none⟩ (.int .i64 (wrap64 (10 * t123))))) := ⟨by repeat (first | (with_reducible first | exact HB.out | apply below_alloc | apply pw_below_drewN | apply below_drew1 | refine below_set ?_ (IsS62.ge (Aside0.out (by assumption))) | refine below_set ?_ (Aside0.out (by assumption))) | exact HB.out)⟩
   (try clear HO107)
   (try clear HO115)
   (try clear BK101)
   (try clear BK102)
   (try clear BK111)
   (try clear BK119)
   (try clear HI103)
   (try clear HB)
   generalize (w28.setCell ⟨gb119, 2, none⟩ (.int .i64 (wrap64 (10 * t123)))) = w30 at n0_ n1_ n2_ n3_ n4_ n5_ n6_ n7_ ⊢
   have HO107 := n0_
   have HO115 := n1_
   have BK101 := n2_
   have BK102 := n3_
   have BK111 := n4_
   have BK119 := n5_
   have HI103 := n6_
   have HB := n7_
   clear n0_ n1_ n2_ n3_ n4_ n5_ n6_ n7_
   have _ := aM (Kd.R_drew HO107.out)
   have _ := aM (Kd.R_drew HO115.out)
   have _ := aM (blk_drew BK101.out)
   have _ := aM (blk_drew BK102.out)
   have _ := aM (blk_drew BK111.out)
   have _ := aM (blk_drew BK119.out)
   have _ := aM (IsS62.drew HI103.out)
   have _ := aM (below_drew1 HB.out)
   clear HO107
   clear HO115
   clear BK101
   clear BK102
   clear BK111
   clear BK119
   clear HI103
   clear HB
   rename_i HO107 HO115 BK101 BK102 BK111 BK119 HI103 HB
   refine start_ (n := 4) (S := fun w' => w'.cell? ⟨gb111, 0, none⟩ = some (.string t104) ∧ w'.cell? ⟨gb111, 1, none⟩ = some (.slice Ao16 t105.length co16) ∧ w'.cell? ⟨gb111, 2, none⟩ = some (.int .i64 t108) ∧ w'.cell? ⟨gb119, 0, none⟩ = some (.string t104) ∧ w'.cell? ⟨gb119, 1, none⟩ = some (.slice Ao16 t105.length co16) ∧ w'.cell? ⟨gb119, 2, none⟩ = some (.int .i64 (wrap64 (10 * t123)))) (ds := []) #[false, false, false, false] (by kernel_rfl) rfl rfl ⟨(blk_cell BK111.out 0).trans rfl, (blk_cell BK111.out 1).trans rfl, (blk_cell BK111.out 2).trans rfl, (blk_cell BK119.out 0).trans rfl, (blk_cell BK119.out 1).trans rfl, (blk_cell BK119.out 2).trans rfl⟩ (fun hHeld => ?_)
   generalize w30.drew = w31 at HO107 HO115 BK101 BK102 BK111 BK119 HI103 HB hHeld ⊢
   refine take_ (i := 0) (N := some 21) (v := ?_) (a' := ?_) #[true, false, false, false] rfl rfl (by kernel_rfl) (fun _ _ _ h => h) (Or.inl ⟨by rfl, ?_⟩) hHeld ?_ ?_
   rotate_left
   · rintro w' ⟨s0, s1, s2, s3, s4, s5⟩
     go_simp
     with_reducible rfl
   rotate_left
   · simp only [Act.put, List.setIfInBounds_toArray, List.set_cons_zero, List.set_cons_succ, i64_w, i32_w]
     rfl
   refine take_ (i := 1) (N := some 22) (v := ?_) (a' := ?_) #[true, true, false, false] rfl rfl (by kernel_rfl) (fun _ _ _ h => h) (Or.inl ⟨by rfl, ?_⟩) hHeld ?_ ?_
   rotate_left
   · rintro w' ⟨s0, s1, s2, s3, s4, s5⟩
     go_simp
     with_reducible rfl
   rotate_left
   · simp only [Act.put, List.setIfInBounds_toArray, List.set_cons_zero, List.set_cons_succ, i64_w, i32_w]
     rfl
   refine one_ (i := 2) (N := none) #[true, true, true, false] rfl rfl (by kernel_rfl) (by decide) (fun K hK => ?_)
   have hs32 : w31.cell? ⟨gb101, 0, none⟩ = some (.string (⟨#[]⟩ : ByteArray)) := (blk_cell BK101.out 0).trans rfl
   have hfs32 := blk_frozen BK101.out 0
   have hns32_1 := NB102_101.out
   have hns32_2 := NB111_101.out
   have hns32_3 := NB119_101.out
   have hms32_1 := NB101_102.out
   have hms32_2 := NB101_111.out
   have hms32_3 := NB101_119.out
   have hs33 : w31.cell? ⟨gb101, 1, none⟩ = some (.slice none 0 0) := (blk_cell BK101.out 1).trans rfl
   have hfs33 := blk_frozen BK101.out 1
   have hns33_1 := NB102_101.out
   have hns33_2 := NB111_101.out
   have hns33_3 := NB119_101.out
   have hms33_1 := NB101_102.out
   have hms33_2 := NB101_111.out
   have hms33_3 := NB101_119.out
   have hs34 : w31.cell? ⟨gb101, 2, none⟩ = some (.int .i64 0) := (blk_cell BK101.out 2).trans rfl
   have hfs34 := blk_frozen BK101.out 2
   have hns34_1 := NB102_101.out
   have hns34_2 := NB111_101.out
   have hns34_3 := NB119_101.out
   have hms34_1 := NB101_102.out
   have hms34_2 := NB101_111.out
   have hms34_3 := NB101_119.out
   refine skip_ (w1 := ?_) (by rfl) rfl ?_ ?_
   rotate_left
   · go_simp
     rfl
   refine hK.out _ _ ⟨((cell_far (p := ⟨gb101, _, none⟩) NB111_101.out _).trans (((cell_far (p := ⟨gb101, _, none⟩) NB111_101.out _).trans (((cell_far (p := ⟨gb101, _, none⟩) NB111_101.out _).trans (hHeld.1)))))), ((cell_far (p := ⟨gb101, _, none⟩) NB111_101.out _).trans (((cell_far (p := ⟨gb101, _, none⟩) NB111_101.out _).trans (((cell_far (p := ⟨gb101, _, none⟩) NB111_101.out _).trans (hHeld.2.1)))))), ((cell_far (p := ⟨gb101, _, none⟩) NB111_101.out _).trans (((cell_far (p := ⟨gb101, _, none⟩) NB111_101.out _).trans (((cell_far (p := ⟨gb101, _, none⟩) NB111_101.out _).trans (hHeld.2.2.1)))))), ((cell_far (p := ⟨gb101, _, none⟩) NB119_101.out _).trans (((cell_far (p := ⟨gb101, _, none⟩) NB119_101.out _).trans (((cell_far (p := ⟨gb101, _, none⟩) NB119_101.out _).trans (hHeld.2.2.2.1)))))), ((cell_far (p := ⟨gb101, _, none⟩) NB119_101.out _).trans (((cell_far (p := ⟨gb101, _, none⟩) NB119_101.out _).trans (((cell_far (p := ⟨gb101, _, none⟩) NB119_101.out _).trans (hHeld.2.2.2.2.1)))))), ((cell_far (p := ⟨gb101, _, none⟩) NB119_101.out _).trans (((cell_far (p := ⟨gb101, _, none⟩) NB119_101.out _).trans (((cell_far (p := ⟨gb101, _, none⟩) NB119_101.out _).trans (hHeld.2.2.2.2.2))))))⟩ (fun hHeld => ?_)
   clear hK K
   refine one_ (i := 3) (N := none) #[true, true, true, true] rfl rfl (by kernel_rfl) (by decide) (fun K hK => ?_)
   have hs35 : w31.cell? ⟨gb102, 0, none⟩ = some (.string (⟨#[]⟩ : ByteArray)) := (blk_cell BK102.out 0).trans rfl
   have hfs35 := blk_frozen BK102.out 0
   have hns35_0 := NB101_102.out
   have hns35_2 := NB111_102.out
   have hns35_3 := NB119_102.out
   have hms35_0 := NB102_101.out
   have hms35_2 := NB102_111.out
   have hms35_3 := NB102_119.out
   have hs36 : w31.cell? ⟨gb102, 1, none⟩ = some (.slice none 0 0) := (blk_cell BK102.out 1).trans rfl
   have hfs36 := blk_frozen BK102.out 1
   have hns36_0 := NB101_102.out
   have hns36_2 := NB111_102.out
   have hns36_3 := NB119_102.out
   have hms36_0 := NB102_101.out
   have hms36_2 := NB102_111.out
   have hms36_3 := NB102_119.out
   have hs37 : w31.cell? ⟨gb102, 2, none⟩ = some (.int .i64 0) := (blk_cell BK102.out 2).trans rfl
   have hfs37 := blk_frozen BK102.out 2
   have hns37_0 := NB101_102.out
   have hns37_2 := NB111_102.out
   have hns37_3 := NB119_102.out
   have hms37_0 := NB102_101.out
   have hms37_2 := NB102_111.out
   have hms37_3 := NB102_119.out
   refine skip_ (w1 := ?_) (by rfl) rfl ?_ ?_
   rotate_left
   · go_simp
     rfl
   refine hK.out _ _ ⟨((cell_far (p := ⟨gb102, _, none⟩) NB111_102.out _).trans (((cell_far (p := ⟨gb102, _, none⟩) NB111_102.out _).trans (((cell_far (p := ⟨gb102, _, none⟩) NB111_102.out _).trans (hHeld.1)))))), ((cell_far (p := ⟨gb102, _, none⟩) NB111_102.out _).trans (((cell_far (p := ⟨gb102, _, none⟩) NB111_102.out _).trans (((cell_far (p := ⟨gb102, _, none⟩) NB111_102.out _).trans (hHeld.2.1)))))), ((cell_far (p := ⟨gb102, _, none⟩) NB111_102.out _).trans (((cell_far (p := ⟨gb102, _, none⟩) NB111_102.out _).trans (((cell_far (p := ⟨gb102, _, none⟩) NB111_102.out _).trans (hHeld.2.2.1)))))), ((cell_far (p := ⟨gb102, _, none⟩) NB119_102.out _).trans (((cell_far (p := ⟨gb102, _, none⟩) NB119_102.out _).trans (((cell_far (p := ⟨gb102, _, none⟩) NB119_102.out _).trans (hHeld.2.2.2.1)))))), ((cell_far (p := ⟨gb102, _, none⟩) NB119_102.out _).trans (((cell_far (p := ⟨gb102, _, none⟩) NB119_102.out _).trans (((cell_far (p := ⟨gb102, _, none⟩) NB119_102.out _).trans (hHeld.2.2.2.2.1)))))), ((cell_far (p := ⟨gb102, _, none⟩) NB119_102.out _).trans (((cell_far (p := ⟨gb102, _, none⟩) NB119_102.out _).trans (((cell_far (p := ⟨gb102, _, none⟩) NB119_102.out _).trans (hHeld.2.2.2.2.2))))))⟩ (fun hHeld => ?_)
   clear hK K
   refine done_ (by kernel_rfl) ?_
   try go_wp2
   refine bodyPost_ret (results_cc rfl _ _ gb101 gb102 25 25 #[.string t104, .slice Ao16 t105.length co16, .int .i64 t108] #[.string t104, .slice Ao16 t105.length co16, .int .i64 (wrap64 (10 * t123))] (0, 0) (0, 0) _ _ rfl bkZ Tryd.underlying25 rfl (by kernel_rfl) rfl bkZ Tryd.underlying25 rfl (by kernel_rfl)) rfl ?_
   exact ⟨_, _, z674d, Kd.R_V (by (with_reducible repeat (first | apply Kd.R_alloc | apply Kd.R_drewN | apply Kd.R_drew)); exact Kd.R_mono (Kd.R_far (p := ⟨gb102, 2, none⟩) (Kd.R_far (p := ⟨gb102, 1, none⟩) (Kd.R_far (p := ⟨gb102, 0, none⟩) (Kd.R_far (p := ⟨gb101, 2, none⟩) (Kd.R_far (p := ⟨gb101, 1, none⟩) (Kd.R_far (p := ⟨gb101, 0, none⟩) (Kd.R_types (Kd.R_types HO107.out BK101.out (by decide)) BK102.out (by decide)) (fun _ hk => hk.1.2) (.string t104)) (fun _ hk => hk.1.2) (.slice Ao16 t105.length co16)) (fun _ hk => hk.1.2) (.int .i64 t108)) (fun _ hk => hk.2) (.string t104)) (fun _ hk => hk.2) (.slice Ao16 t105.length co16)) (fun _ hk => hk.2) (.int .i64 (wrap64 (10 * t123)))) (fun _ hk => hk.1.1.1)), Kd.R_V (by (with_reducible repeat (first | apply Kd.R_alloc | apply Kd.R_drewN | apply Kd.R_drew)); exact Kd.R_mono (Kd.R_far (p := ⟨gb102, 2, none⟩) (Kd.R_far (p := ⟨gb102, 1, none⟩) (Kd.R_far (p := ⟨gb102, 0, none⟩) (Kd.R_far (p := ⟨gb101, 2, none⟩) (Kd.R_far (p := ⟨gb101, 1, none⟩) (Kd.R_far (p := ⟨gb101, 0, none⟩) (Kd.R_types (Kd.R_types HO107.out BK101.out (by decide)) BK102.out (by decide)) (fun _ hk => hk.1.2) (.string t104)) (fun _ hk => hk.1.2) (.slice Ao16 t105.length co16)) (fun _ hk => hk.1.2) (.int .i64 t108)) (fun _ hk => hk.2) (.string t104)) (fun _ hk => hk.2) (.slice Ao16 t105.length co16)) (fun _ hk => hk.2) (.int .i64 (wrap64 (10 * t123)))) (fun _ hk => hk.1.1.1)), by repeat (first | (with_reducible first | exact HB.out | apply below_alloc | apply pw_below_drewN | apply below_drew1 | refine below_set ?_ (IsS62.ge (Aside0.out (by assumption))) | refine below_set ?_ (Aside0.out (by assumption))) | exact HB.out)⟩
 · replace c5 := Bool.eq_false_iff.mpr c5
   subst c5
   have H1 : (some (t104, t105, t108, t112, t113, t116)) = some (r1, r2, r3, r4, r5, r6) := by rw [if_neg (show ¬ (false = true) by decide)] at H; exact H
   clear H
   have H := H1
   clear H1
   simp only [Option.some.injEq, Prod.mk.injEq] at H
   obtain ⟨rfl, rfl, rfl, rfl, rfl, rfl⟩ := H
   go_enter Tryd.func8, Tryd.ntmps8
   try go_wp2_with (first | ((with_reducible refine gate_dst (N := 2) rfl ?_); refine box_event ?hg (N := 2) ?hd (cs := #[.string (⟨#[]⟩ : ByteArray), .slice none 0 0, .int .i64 0]) (t := 25) ?hr ?_; (case hd => rfl); (case hg => rfl); (case hr => first | (go_simp; done) | (go_simp; rfl)); intro gb101 hg w38 hbox hb; have _ := aM (below_step hbZ hb); have _ := aM hbox; have _ := szZ hg; have _ := szZ hg; clear HB; rename_i HB BK101 GW101 GE101; clear hb hbox hg) | ((with_reducible refine gate_dst (N := 3) rfl ?_); refine box_event ?hg (N := 3) ?hd (cs := #[.string (⟨#[]⟩ : ByteArray), .slice none 0 0, .int .i64 0]) (t := 25) ?hr ?_; (case hd => rfl); (case hg => rfl); (case hr => first | (go_simp; done) | (go_simp; rfl)); intro gb102 hg w39 hbox hb; have _ := bB gb101 hb; have _ := aM (below_step hbZ hb); have _ := aM hbox; have _ := szZ hg; have _ := szZ hg; have ⟨_, _⟩ := nbB gb101 hg; clear BK101 HB; rename_i BK101 HB BK102 GW102 GE102 NB101_102 NB102_101; clear hb hbox hg) | ((with_reducible refine gate_dst (N := 9) rfl ?_); refine box_event ?hg (N := 9) ?hd (cs := #[.slice A0 l0.length c0, .int .i64 0, .int .u64 0]) (t := 62) ?hr ?_; (case hd => rfl); (case hg => rfl); (case hr => first | (go_simp; done) | (go_simp; rfl)); intro gb103 hg w40 hbox hb; have _ := bB gb101 hb; have _ := bB gb102 hb; have _ := aM (below_step hbZ hb); have _ := szZ hg; have _ := szZ hg; have ⟨_, _⟩ := nbB gb101 hg; have ⟨_, _⟩ := nbB gb102 hg; have _ := aM ((show IsS62 w w40 gb103 l0 0 0 from ⟨_, _, hbox, (by rw [hg]; exact (below_size hbZ) : w.heap.size ≤ gb103), HR0.out⟩)); clear BK101 BK102 HB; rename_i BK101 BK102 HB GW103 GE103 NB101_103 NB103_101 NB102_103 NB103_102 HI103; clear hb hbox hg) | ((with_reducible refine gate_callee (f := 28) rfl ?_); refine goesL_ (some 11) rfl rfl Tryd.func28 (by kernel_rfl) rfl #[.pointer (some ⟨gb103, 0, none⟩)] rfl zee81 ?_; (with_reducible refine (spec_l1Cur_key.calls k gb103 l0 0 0 t104 t105 t108 t109 t110 w _ ?side1 ?side2 A2.out).mono ?_); (case side1 => exact (by repeat (first | (with_reducible first | exact HI103.out | apply IsS62.alloc | apply IsS62.drewN | apply IsS62.drew | apply IsS62.set_1 | apply IsS62.set_2 | refine IsS62.far ?_ (Aside0.out (by assumption)) _) | exact HI103.out))); (case side2 => exact (by repeat (first | (with_reducible first | exact HB.out | apply below_alloc | apply pw_below_drewN | apply below_drew1 | refine below_set ?_ (IsS62.ge (Aside0.out (by assumption))) | refine below_set ?_ (Aside0.out (by assumption))) | exact HB.out))); rintro e w41 ⟨v106, rfl, ho0, hi, hb, hk⟩; refine ⟨_, rfl, ?_⟩; have _ := aM (KeepBut.blk hk (g' := gb101) bkZ NB101_103.out (by simp)); have _ := aM (KeepBut.blk hk (g' := gb102) bkZ NB102_103.out (by simp)); have _ := aM (Kd.R_lower (Kd.R_newM (M := fun k_ => (w.heap.size ≤ k_)) ho0 (below_size (by repeat (first | (with_reducible first | exact HB.out | apply below_alloc | apply pw_below_drewN | apply below_drew1 | refine below_set ?_ (IsS62.ge (Aside0.out (by assumption))) | refine below_set ?_ (Aside0.out (by assumption))) | exact HB.out))) (fun k_ h_ => h_)) (below_size (by repeat (first | (with_reducible first | exact HB.out | apply below_alloc | apply pw_below_drewN | apply below_drew1 | refine below_set ?_ (IsS62.ge (Aside0.out (by assumption))) | refine below_set ?_ (Aside0.out (by assumption))) | exact HB.out)))); have _ := aM hb; have _ := aM hi; clear BK101 BK102 HB HI103; rename_i BK101 BK102 HO107 HB HI103; (try clear hb); (try clear hk); (try clear hi); (try clear ho0)) | ((with_reducible refine gate_dst (N := 5) rfl ?_); refine box_event ?hg (N := 5) ?hd (cs := #[.string (⟨#[]⟩ : ByteArray), .slice none 0 0, .int .i64 0]) (t := 25) ?hr ?_; (case hd => rfl); (case hg => rfl); (case hr => first | (go_simp; done) | (go_simp; rfl)); intro gb111 hg w42 hbox hb; have _ := aM (Kd.R_below (rZ HO107.out) hb); have _ := bB gb101 hb; have _ := bB gb102 hb; have _ := aM (IsS62.below (by repeat (first | (with_reducible first | exact HI103.out | apply IsS62.alloc | apply IsS62.drewN | apply IsS62.drew | apply IsS62.set_1 | apply IsS62.set_2 | refine IsS62.far ?_ (Aside0.out (by assumption)) _) | exact HI103.out)) hb); have _ := aM (below_step (by repeat (first | (with_reducible first | exact HB.out | apply below_alloc | apply pw_below_drewN | apply below_drew1 | refine below_set ?_ (IsS62.ge (Aside0.out (by assumption))) | refine below_set ?_ (Aside0.out (by assumption))) | exact HB.out)) hb); have _ := aM hbox; have _ := aM ((by rw [hg]; exact (below_size (by repeat (first | (with_reducible first | exact HB.out | apply below_alloc | apply pw_below_drewN | apply below_drew1 | refine below_set ?_ (IsS62.ge (Aside0.out (by assumption))) | refine below_set ?_ (Aside0.out (by assumption))) | exact HB.out))) : w.heap.size ≤ gb111)); have _ := aM ((by rw [hg]; exact (below_size (by repeat (first | (with_reducible first | exact HB.out | apply below_alloc | apply pw_below_drewN | apply below_drew1 | refine below_set ?_ (IsS62.ge (Aside0.out (by assumption))) | refine below_set ?_ (Aside0.out (by assumption))) | exact HB.out))) : w.heap.size ≤ gb111)); have ⟨_, _⟩ := nbB gb101 hg; have ⟨_, _⟩ := nbB gb102 hg; have _ := aM ((by rw [hg]; exact Nat.ne_of_lt (IsS62.lt (show IsS62 w _ gb103 l0 t109 t110 from by repeat (first | (with_reducible first | exact HI103.out | apply IsS62.alloc | apply IsS62.drewN | apply IsS62.drew | apply IsS62.set_1 | apply IsS62.set_2 | refine IsS62.far ?_ (Aside0.out (by assumption)) _) | exact HI103.out))) : gb103 ≠ gb111)); have _ := aM ((by rw [hg]; exact Nat.ne_of_gt (IsS62.lt (show IsS62 w _ gb103 l0 t109 t110 from by repeat (first | (with_reducible first | exact HI103.out | apply IsS62.alloc | apply IsS62.drewN | apply IsS62.drew | apply IsS62.set_1 | apply IsS62.set_2 | refine IsS62.far ?_ (Aside0.out (by assumption)) _) | exact HI103.out))) : gb111 ≠ gb103)); clear HO107 BK101 BK102 HI103 HB; rename_i HO107 BK101 BK102 HI103 HB BK111 GW111 GE111 NB101_111 NB111_101 NB102_111 NB111_102 NB103_111 NB111_103; clear hb hbox hg; have hnb43 := NB111_101.out; have hnc43 := NB101_111.out; have hnb44 := NB111_102.out; have hnc44 := NB102_111.out; have hnb45 := NB111_103.out; have hnc45 := NB103_111.out; obtain ⟨hcz46_0, hcz46_1, hcz46_2, hfz46_0, hfz46_1, hfz46_2⟩ := cellsZ3 BK111.out; obtain ⟨Ao47, co47, eo47⟩ := Kd.R_slice HO107.out; subst eo47) | ((with_reducible refine gate_callee (f := 28) rfl ?_); refine goesL_ (some 13) rfl rfl Tryd.func28 (by kernel_rfl) rfl #[.pointer (some ⟨gb103, 0, none⟩)] rfl zee81 ?_; (with_reducible refine (spec_l1Cur_key.calls k gb103 l0 t109 t110 t112 t113 t116 t117 t118 w _ ?side1 ?side2 A3.out).mono ?_); (case side1 => exact (by repeat (first | (with_reducible first | exact HI103.out | apply IsS62.alloc | apply IsS62.drewN | apply IsS62.drew | apply IsS62.set_1 | apply IsS62.set_2 | refine IsS62.far ?_ (Aside0.out (by assumption)) _) | exact HI103.out))); (case side2 => exact (by repeat (first | (with_reducible first | exact HB.out | apply below_alloc | apply pw_below_drewN | apply below_drew1 | refine below_set ?_ (IsS62.ge (Aside0.out (by assumption))) | refine below_set ?_ (Aside0.out (by assumption))) | exact HB.out))); rintro e w48 ⟨v114, rfl, ho0, hi, hb, hk⟩; refine ⟨_, rfl, ?_⟩; have _ := aM (KeepBut.blk hk (g' := gb101) bkZ NB101_103.out (by simp)); have _ := aM (KeepBut.blk hk (g' := gb102) bkZ NB102_103.out (by simp)); have _ := aM (Kd.R_mono (Kd.R_told (Kd.R_oldK (IsS62.apart (show IsS62 w _ gb103 l0 t109 t110 from by repeat (first | (with_reducible first | exact HI103.out | apply IsS62.alloc | apply IsS62.drewN | apply IsS62.drew | apply IsS62.set_1 | apply IsS62.set_2 | refine IsS62.far ?_ (Aside0.out (by assumption)) _) | exact HI103.out)) (rZ (rF3 HO107.out BK111.out)) (by decide)) hk) (Kd.R_base ho0)) (fun _ h_ => h_.1)); have _ := aM (KeepBut.blk hk (g' := gb111) (o := .cells #[.string t104, .slice Ao47 t105.length co47, .int .i64 t108] 25 (0, 0)) bkZ NB111_103.out (by simp)); have _ := aM (Kd.R_lower (Kd.R_new' (Kd.R_newM (M := fun k_ => (w.heap.size ≤ k_)) ho0 (below_size (by repeat (first | (with_reducible first | exact HB.out | apply below_alloc | apply pw_below_drewN | apply below_drew1 | refine below_set ?_ (IsS62.ge (Aside0.out (by assumption))) | refine below_set ?_ (Aside0.out (by assumption))) | exact HB.out))) (fun k_ h_ => h_)) (Kd.R_lt (rZ (rF3 HO107.out BK111.out)))) (below_size (by repeat (first | (with_reducible first | exact HB.out | apply below_alloc | apply pw_below_drewN | apply below_drew1 | refine below_set ?_ (IsS62.ge (Aside0.out (by assumption))) | refine below_set ?_ (Aside0.out (by assumption))) | exact HB.out)))); have _ := aM hb; have _ := aM hi; clear BK101 BK102 HO107 BK111 HB HI103; rename_i BK101 BK102 HO107 BK111 HO115 HB HI103; (try clear hb); (try clear hk); (try clear hi); (try clear ho0)) | ((with_reducible refine gate_dst (N := 6) rfl ?_); refine box_event ?hg (N := 6) ?hd (cs := #[.string (⟨#[]⟩ : ByteArray), .slice none 0 0, .int .i64 0]) (t := 25) ?hr ?_; (case hd => rfl); (case hg => rfl); (case hr => first | (go_simp; done) | (go_simp; rfl)); intro gb119 hg w49 hbox hb; have _ := aM (Kd.R_below (rZ HO107.out) hb); have _ := aM (Kd.R_below (rZ HO115.out) hb); have _ := bB gb101 hb; have _ := bB gb102 hb; have _ := aM (IsS62.below (by repeat (first | (with_reducible first | exact HI103.out | apply IsS62.alloc | apply IsS62.drewN | apply IsS62.drew | apply IsS62.set_1 | apply IsS62.set_2 | refine IsS62.far ?_ (Aside0.out (by assumption)) _) | exact HI103.out)) hb); have _ := bB gb111 hb; have _ := aM (below_step (by repeat (first | (with_reducible first | exact HB.out | apply below_alloc | apply pw_below_drewN | apply below_drew1 | refine below_set ?_ (IsS62.ge (Aside0.out (by assumption))) | refine below_set ?_ (Aside0.out (by assumption))) | exact HB.out)) hb); have _ := aM hbox; have _ := aM ((by rw [hg]; exact (below_size (by repeat (first | (with_reducible first | exact HB.out | apply below_alloc | apply pw_below_drewN | apply below_drew1 | refine below_set ?_ (IsS62.ge (Aside0.out (by assumption))) | refine below_set ?_ (Aside0.out (by assumption))) | exact HB.out))) : w.heap.size ≤ gb119)); have _ := aM ((by rw [hg]; exact (below_size (by repeat (first | (with_reducible first | exact HB.out | apply below_alloc | apply pw_below_drewN | apply below_drew1 | refine below_set ?_ (IsS62.ge (Aside0.out (by assumption))) | refine below_set ?_ (Aside0.out (by assumption))) | exact HB.out))) : w.heap.size ≤ gb119)); have ⟨_, _⟩ := nbB gb101 hg; have ⟨_, _⟩ := nbB gb102 hg; have ⟨_, _⟩ := nbB gb111 hg; have _ := aM ((by rw [hg]; exact Nat.ne_of_lt (IsS62.lt (show IsS62 w _ gb103 l0 t117 t118 from by repeat (first | (with_reducible first | exact HI103.out | apply IsS62.alloc | apply IsS62.drewN | apply IsS62.drew | apply IsS62.set_1 | apply IsS62.set_2 | refine IsS62.far ?_ (Aside0.out (by assumption)) _) | exact HI103.out))) : gb103 ≠ gb119)); have _ := aM ((by rw [hg]; exact Nat.ne_of_gt (IsS62.lt (show IsS62 w _ gb103 l0 t117 t118 from by repeat (first | (with_reducible first | exact HI103.out | apply IsS62.alloc | apply IsS62.drewN | apply IsS62.drew | apply IsS62.set_1 | apply IsS62.set_2 | refine IsS62.far ?_ (Aside0.out (by assumption)) _) | exact HI103.out))) : gb119 ≠ gb103)); clear HO107 HO115 BK101 BK102 HI103 BK111 HB; rename_i HO107 HO115 BK101 BK102 HI103 BK111 HB BK119 GW119 GE119 NB101_119 NB119_101 NB102_119 NB119_102 NB111_119 NB119_111 NB103_119 NB119_103; clear hb hbox hg; have hnb50 := NB119_101.out; have hnc50 := NB101_119.out; have hnb51 := NB119_102.out; have hnc51 := NB102_119.out; have hnb52 := NB119_111.out; have hnc52 := NB111_119.out; have hnb53 := NB119_103.out; have hnc53 := NB103_119.out; obtain ⟨hcz54_0, hcz54_1, hcz54_2, hfz54_0, hfz54_1, hfz54_2⟩ := cellsZ3 BK119.out; obtain ⟨Ao55, co55, eo55⟩ := Kd.R_slice HO115.out; subst eo55) | ((with_reducible refine gate_callee (f := 29) rfl ?_); refine goesL_ (some 15) rfl rfl Tryd.func29 (by kernel_rfl) rfl #[.pointer (some ⟨gb103, 0, none⟩), .int .i64 4] rfl zee81 ?_; (with_reducible refine (spec_l1Cur_one.calls gb103 l0 t117 t118 4 false t121 t122 w _ ?side1 ?side2 A4.out).mono ?_); (case side1 => exact (by repeat (first | (with_reducible first | exact HI103.out | apply IsS62.alloc | apply IsS62.drewN | apply IsS62.drew | apply IsS62.set_1 | apply IsS62.set_2 | refine IsS62.far ?_ (Aside0.out (by assumption)) _) | exact HI103.out))); (case side2 => exact (by repeat (first | (with_reducible first | exact HB.out | apply below_alloc | apply pw_below_drewN | apply below_drew1 | refine below_set ?_ (IsS62.ge (Aside0.out (by assumption))) | refine below_set ?_ (Aside0.out (by assumption))) | exact HB.out))); rintro e w56 ⟨rfl, hi, hb, hk⟩; refine ⟨_, rfl, ?_⟩; have _ := aM (KeepBut.blk hk (g' := gb101) bkZ NB101_103.out (by simp)); have _ := aM (KeepBut.blk hk (g' := gb102) bkZ NB102_103.out (by simp)); have _ := aM (Kd.R_mono (Kd.R_keep (IsS62.apart (show IsS62 w _ gb103 l0 t117 t118 from by repeat (first | (with_reducible first | exact HI103.out | apply IsS62.alloc | apply IsS62.drewN | apply IsS62.drew | apply IsS62.set_1 | apply IsS62.set_2 | refine IsS62.far ?_ (Aside0.out (by assumption)) _) | exact HI103.out)) (rZ (rF3 HO107.out BK119.out)) (by decide)) hk (fun _ h => h.2)) (fun _ h => h.1)); have _ := aM (KeepBut.blk hk (g' := gb111) bkZ NB111_103.out (by simp)); have _ := aM (Kd.R_mono (Kd.R_keep (IsS62.apart (show IsS62 w _ gb103 l0 t117 t118 from by repeat (first | (with_reducible first | exact HI103.out | apply IsS62.alloc | apply IsS62.drewN | apply IsS62.drew | apply IsS62.set_1 | apply IsS62.set_2 | refine IsS62.far ?_ (Aside0.out (by assumption)) _) | exact HI103.out)) (rZ (rF3 HO115.out BK119.out)) (by decide)) hk (fun _ h => h.2)) (fun _ h => h.1)); have _ := aM (KeepBut.blk hk (g' := gb119) (o := .cells #[.string t112, .slice Ao55 t113.length co55, .int .i64 t116] 25 (0, 0)) bkZ NB119_103.out (by simp)); have _ := aM hb; have _ := aM hi; clear BK101 BK102 HO107 BK111 HO115 BK119 HB HI103; rename_i BK101 BK102 HO107 BK111 HO115 BK119 HB HI103; (try clear hb); (try clear hk); (try clear hi)))
   have _ := aM (Kd.R_drew HO107.out)
   have _ := aM (Kd.R_drew HO115.out)
   have _ := aM (blk_drew BK101.out)
   have _ := aM (blk_drew BK102.out)
   have _ := aM (blk_drew BK111.out)
   have _ := aM (blk_drew BK119.out)
   have _ := aM (IsS62.drew HI103.out)
   have _ := aM (below_drew1 HB.out)
   clear HO107
   clear HO115
   clear BK101
   clear BK102
   clear BK111
   clear BK119
   clear HI103
   clear HB
   rename_i HO107 HO115 BK101 BK102 BK111 BK119 HI103 HB
   refine start_ (n := 4) (S := fun w' => w'.cell? ⟨gb111, 0, none⟩ = some (.string t104) ∧ w'.cell? ⟨gb111, 1, none⟩ = some (.slice Ao47 t105.length co47) ∧ w'.cell? ⟨gb111, 2, none⟩ = some (.int .i64 t108) ∧ w'.cell? ⟨gb119, 0, none⟩ = some (.string t112) ∧ w'.cell? ⟨gb119, 1, none⟩ = some (.slice Ao55 t113.length co55) ∧ w'.cell? ⟨gb119, 2, none⟩ = some (.int .i64 t116)) (ds := []) #[false, false, false, false] (by kernel_rfl) rfl rfl ⟨(blk_cell BK111.out 0).trans rfl, (blk_cell BK111.out 1).trans rfl, (blk_cell BK111.out 2).trans rfl, (blk_cell BK119.out 0).trans rfl, (blk_cell BK119.out 1).trans rfl, (blk_cell BK119.out 2).trans rfl⟩ (fun hHeld => ?_)
   generalize w56.drew = w57 at HO107 HO115 BK101 BK102 BK111 BK119 HI103 HB hHeld ⊢
   refine take_ (i := 0) (N := some 21) (v := ?_) (a' := ?_) #[true, false, false, false] rfl rfl (by kernel_rfl) (fun _ _ _ h => h) (Or.inl ⟨by rfl, ?_⟩) hHeld ?_ ?_
   rotate_left
   · rintro w' ⟨s0, s1, s2, s3, s4, s5⟩
     go_simp
     with_reducible rfl
   rotate_left
   · simp only [Act.put, List.setIfInBounds_toArray, List.set_cons_zero, List.set_cons_succ, i64_w, i32_w]
     rfl
   refine take_ (i := 1) (N := some 22) (v := ?_) (a' := ?_) #[true, true, false, false] rfl rfl (by kernel_rfl) (fun _ _ _ h => h) (Or.inl ⟨by rfl, ?_⟩) hHeld ?_ ?_
   rotate_left
   · rintro w' ⟨s0, s1, s2, s3, s4, s5⟩
     go_simp
     with_reducible rfl
   rotate_left
   · simp only [Act.put, List.setIfInBounds_toArray, List.set_cons_zero, List.set_cons_succ, i64_w, i32_w]
     rfl
   refine one_ (i := 2) (N := none) #[true, true, true, false] rfl rfl (by kernel_rfl) (by decide) (fun K hK => ?_)
   have hs58 : w57.cell? ⟨gb101, 0, none⟩ = some (.string (⟨#[]⟩ : ByteArray)) := (blk_cell BK101.out 0).trans rfl
   have hfs58 := blk_frozen BK101.out 0
   have hns58_1 := NB102_101.out
   have hns58_2 := NB111_101.out
   have hns58_3 := NB119_101.out
   have hms58_1 := NB101_102.out
   have hms58_2 := NB101_111.out
   have hms58_3 := NB101_119.out
   have hs59 : w57.cell? ⟨gb101, 1, none⟩ = some (.slice none 0 0) := (blk_cell BK101.out 1).trans rfl
   have hfs59 := blk_frozen BK101.out 1
   have hns59_1 := NB102_101.out
   have hns59_2 := NB111_101.out
   have hns59_3 := NB119_101.out
   have hms59_1 := NB101_102.out
   have hms59_2 := NB101_111.out
   have hms59_3 := NB101_119.out
   have hs60 : w57.cell? ⟨gb101, 2, none⟩ = some (.int .i64 0) := (blk_cell BK101.out 2).trans rfl
   have hfs60 := blk_frozen BK101.out 2
   have hns60_1 := NB102_101.out
   have hns60_2 := NB111_101.out
   have hns60_3 := NB119_101.out
   have hms60_1 := NB101_102.out
   have hms60_2 := NB101_111.out
   have hms60_3 := NB101_119.out
   refine skip_ (w1 := ?_) (by rfl) rfl ?_ ?_
   rotate_left
   · go_simp
     rfl
   refine hK.out _ _ ⟨((cell_far (p := ⟨gb101, _, none⟩) NB111_101.out _).trans (((cell_far (p := ⟨gb101, _, none⟩) NB111_101.out _).trans (((cell_far (p := ⟨gb101, _, none⟩) NB111_101.out _).trans (hHeld.1)))))), ((cell_far (p := ⟨gb101, _, none⟩) NB111_101.out _).trans (((cell_far (p := ⟨gb101, _, none⟩) NB111_101.out _).trans (((cell_far (p := ⟨gb101, _, none⟩) NB111_101.out _).trans (hHeld.2.1)))))), ((cell_far (p := ⟨gb101, _, none⟩) NB111_101.out _).trans (((cell_far (p := ⟨gb101, _, none⟩) NB111_101.out _).trans (((cell_far (p := ⟨gb101, _, none⟩) NB111_101.out _).trans (hHeld.2.2.1)))))), ((cell_far (p := ⟨gb101, _, none⟩) NB119_101.out _).trans (((cell_far (p := ⟨gb101, _, none⟩) NB119_101.out _).trans (((cell_far (p := ⟨gb101, _, none⟩) NB119_101.out _).trans (hHeld.2.2.2.1)))))), ((cell_far (p := ⟨gb101, _, none⟩) NB119_101.out _).trans (((cell_far (p := ⟨gb101, _, none⟩) NB119_101.out _).trans (((cell_far (p := ⟨gb101, _, none⟩) NB119_101.out _).trans (hHeld.2.2.2.2.1)))))), ((cell_far (p := ⟨gb101, _, none⟩) NB119_101.out _).trans (((cell_far (p := ⟨gb101, _, none⟩) NB119_101.out _).trans (((cell_far (p := ⟨gb101, _, none⟩) NB119_101.out _).trans (hHeld.2.2.2.2.2))))))⟩ (fun hHeld => ?_)
   clear hK K
   refine one_ (i := 3) (N := none) #[true, true, true, true] rfl rfl (by kernel_rfl) (by decide) (fun K hK => ?_)
   have hs61 : w57.cell? ⟨gb102, 0, none⟩ = some (.string (⟨#[]⟩ : ByteArray)) := (blk_cell BK102.out 0).trans rfl
   have hfs61 := blk_frozen BK102.out 0
   have hns61_0 := NB101_102.out
   have hns61_2 := NB111_102.out
   have hns61_3 := NB119_102.out
   have hms61_0 := NB102_101.out
   have hms61_2 := NB102_111.out
   have hms61_3 := NB102_119.out
   have hs62 : w57.cell? ⟨gb102, 1, none⟩ = some (.slice none 0 0) := (blk_cell BK102.out 1).trans rfl
   have hfs62 := blk_frozen BK102.out 1
   have hns62_0 := NB101_102.out
   have hns62_2 := NB111_102.out
   have hns62_3 := NB119_102.out
   have hms62_0 := NB102_101.out
   have hms62_2 := NB102_111.out
   have hms62_3 := NB102_119.out
   have hs63 : w57.cell? ⟨gb102, 2, none⟩ = some (.int .i64 0) := (blk_cell BK102.out 2).trans rfl
   have hfs63 := blk_frozen BK102.out 2
   have hns63_0 := NB101_102.out
   have hns63_2 := NB111_102.out
   have hns63_3 := NB119_102.out
   have hms63_0 := NB102_101.out
   have hms63_2 := NB102_111.out
   have hms63_3 := NB102_119.out
   refine skip_ (w1 := ?_) (by rfl) rfl ?_ ?_
   rotate_left
   · go_simp
     rfl
   refine hK.out _ _ ⟨((cell_far (p := ⟨gb102, _, none⟩) NB111_102.out _).trans (((cell_far (p := ⟨gb102, _, none⟩) NB111_102.out _).trans (((cell_far (p := ⟨gb102, _, none⟩) NB111_102.out _).trans (hHeld.1)))))), ((cell_far (p := ⟨gb102, _, none⟩) NB111_102.out _).trans (((cell_far (p := ⟨gb102, _, none⟩) NB111_102.out _).trans (((cell_far (p := ⟨gb102, _, none⟩) NB111_102.out _).trans (hHeld.2.1)))))), ((cell_far (p := ⟨gb102, _, none⟩) NB111_102.out _).trans (((cell_far (p := ⟨gb102, _, none⟩) NB111_102.out _).trans (((cell_far (p := ⟨gb102, _, none⟩) NB111_102.out _).trans (hHeld.2.2.1)))))), ((cell_far (p := ⟨gb102, _, none⟩) NB119_102.out _).trans (((cell_far (p := ⟨gb102, _, none⟩) NB119_102.out _).trans (((cell_far (p := ⟨gb102, _, none⟩) NB119_102.out _).trans (hHeld.2.2.2.1)))))), ((cell_far (p := ⟨gb102, _, none⟩) NB119_102.out _).trans (((cell_far (p := ⟨gb102, _, none⟩) NB119_102.out _).trans (((cell_far (p := ⟨gb102, _, none⟩) NB119_102.out _).trans (hHeld.2.2.2.2.1)))))), ((cell_far (p := ⟨gb102, _, none⟩) NB119_102.out _).trans (((cell_far (p := ⟨gb102, _, none⟩) NB119_102.out _).trans (((cell_far (p := ⟨gb102, _, none⟩) NB119_102.out _).trans (hHeld.2.2.2.2.2))))))⟩ (fun hHeld => ?_)
   clear hK K
   refine done_ (by kernel_rfl) ?_
   try go_wp2
   refine bodyPost_ret (results_cc rfl _ _ gb101 gb102 25 25 #[.string t104, .slice Ao47 t105.length co47, .int .i64 t108] #[.string t112, .slice Ao55 t113.length co55, .int .i64 t116] (0, 0) (0, 0) _ _ rfl bkZ Tryd.underlying25 rfl (by kernel_rfl) rfl bkZ Tryd.underlying25 rfl (by kernel_rfl)) rfl ?_
   exact ⟨_, _, z674d, Kd.R_V (by (with_reducible repeat (first | apply Kd.R_alloc | apply Kd.R_drewN | apply Kd.R_drew)); exact Kd.R_mono (Kd.R_far (p := ⟨gb102, 2, none⟩) (Kd.R_far (p := ⟨gb102, 1, none⟩) (Kd.R_far (p := ⟨gb102, 0, none⟩) (Kd.R_far (p := ⟨gb101, 2, none⟩) (Kd.R_far (p := ⟨gb101, 1, none⟩) (Kd.R_far (p := ⟨gb101, 0, none⟩) (Kd.R_types (Kd.R_types HO107.out BK101.out (by decide)) BK102.out (by decide)) (fun _ hk => hk.1.2) (.string t104)) (fun _ hk => hk.1.2) (.slice Ao47 t105.length co47)) (fun _ hk => hk.1.2) (.int .i64 t108)) (fun _ hk => hk.2) (.string t112)) (fun _ hk => hk.2) (.slice Ao55 t113.length co55)) (fun _ hk => hk.2) (.int .i64 t116)) (fun _ hk => hk.1.1.1.1)), Kd.R_V (by (with_reducible repeat (first | apply Kd.R_alloc | apply Kd.R_drewN | apply Kd.R_drew)); exact Kd.R_mono (Kd.R_far (p := ⟨gb102, 2, none⟩) (Kd.R_far (p := ⟨gb102, 1, none⟩) (Kd.R_far (p := ⟨gb102, 0, none⟩) (Kd.R_far (p := ⟨gb101, 2, none⟩) (Kd.R_far (p := ⟨gb101, 1, none⟩) (Kd.R_far (p := ⟨gb101, 0, none⟩) (Kd.R_types (Kd.R_types HO115.out BK101.out (by decide)) BK102.out (by decide)) (fun _ hk => hk.1.2) (.string t104)) (fun _ hk => hk.1.2) (.slice Ao47 t105.length co47)) (fun _ hk => hk.1.2) (.int .i64 t108)) (fun _ hk => hk.2) (.string t112)) (fun _ hk => hk.2) (.slice Ao55 t113.length co55)) (fun _ hk => hk.2) (.int .i64 t116)) (fun _ hk => hk.1.1.1.1)), by repeat (first | (with_reducible first | exact HB.out | apply below_alloc | apply pw_below_drewN | apply below_drew1 | refine below_set ?_ (IsS62.ge (Aside0.out (by assumption))) | refine below_set ?_ (Aside0.out (by assumption))) | exact HB.out)⟩

end Go.Proofs.YteogadaloebdaaaDoor.P

-- written by a program of this session's (wip/pp)
namespace Go.Proofs.YteogadaloebdaaaDoor.P
open Go.RowKit Go.Proofs.YteogadaloebdaaaDoorW.PrintWords Go.Proofs.YteogadaloebdaaaDoorW.PrintLast Go.Proofs.YteogadaloebdaaaDoorW.PrintMore
attribute [local go_sem] max2_int min2_int max_two min_two max_three min_three max_four min_four str_geq str_gtr str_leq   -- for this text's walks alone
set_option linter.unusedVariables false
set_option linter.unusedSimpArgs false

/-! ### impl_within: function 61 -/
def impl_within.f (a0 : Int) (a1 : Int) (a2 : Int) : Option (Bool) := if a0 ≥ a1 then (some (decide (a0 ≤ a2))) else (some false)
set_option maxHeartbeats 8000000 in
set_option maxRecDepth 100000 in
theorem impl_within.calls (a0 : Int) (a1 : Int) (a2 : Int) (r : Bool) (w : World) (h : impl_within.f a0 a1 a2 = some r) :
 Calls Tryd.prog 61 #[.int .i64 a0, .int .i64 a1, .int .i64 a2] w fun e w' => e = .returned (.bool r) ∧ Drawn0 w w' := by
 have H : (if a0 ≥ a1 then (some (decide (a0 ≤ a2))) else (some false)) = some r := h
 clear h
 by_cases c4 : a0 ≥ a1
 · rw [if_pos c4] at H
   have c4b0 : decide (a1 ≤ a0) = true := decide_eq_true c4
   clear c4
   obtain rfl := Option.some.inj H
   go_enter Tryd.func61, Tryd.ntmps61
   go_wp2
   go_ret
   exact ⟨z4458, za9de⟩
 · rw [if_neg c4] at H
   have c4b0 : decide (a1 ≤ a0) = false := decide_eq_false c4
   clear c4
   obtain rfl := Option.some.inj H
   go_enter Tryd.func61, Tryd.ntmps61
   go_wp2
   go_ret
   exact ⟨z4458, za9de⟩

end Go.Proofs.YteogadaloebdaaaDoor.P

/-
  DERIVED: THE SHELF's CONTRACTS AT THIS DUMP, IN PLAIN WORDS (tools/lay-plain.mjs out of 'TrydShelf.lean', which tools/lay-shelf.mjs wrote): THE SAME DECLARATIONS UNDER THE SAME NAMES: 'import', 'namespace', 'open', 'def', 'theorem' AND NOTHING ELSE: no command of the shelf's: FOR A HAND-IN. Each laying: the table of numbers ('.._ren') and one theorem, a field a fact of the dump's own or the kernel's comparison; each contract: ONE APPLICATION.
-/
namespace Go.Proofs
open Go.Shelf
def Tryd.lays160_ren : Go.Shelf.Ren := ⟨fun | 160 => 91 | 232 => 107 | 231 => 106 | 227 => 108 | 234 => 110 | 233 => 109 | 236 => 112 | 235 => 111 | 228 => 127 | 271 => 129 | 151 => 128 | 197 => 122 | 120 => 140 | 152 => 139 | 260 => 138 | 137 => 146 | 119 => 147 | 224 => 115 | 225 => 114 | 217 => 113 | 266 => 130 | n => n, fun | 9 => 9 | 4 => 4 | 3 => 3 | 5 => 5 | 117 => 135 | 116 => 134 | 0 => 0 | 124 => 138 | 21 => 21 | 105 => 147 | 46 => 105 | 119 => 172 | 139 => 175 | 138 => 174 | n => n, fun | 3 => 4 | 4 => 5 | n => n⟩
theorem Tryd.lays160 : Go.Proofs.Lays.n160 Tryd.prog Tryd.lays160_ren := {
  mixed := by kernel_rfl
  f119 := Tryd.func147.trans (congrArg some (by kernel_rfl))
  f120 := Tryd.func140.trans (congrArg some (by kernel_rfl))
  f137 := Tryd.func146.trans (congrArg some (by kernel_rfl))
  f151 := Tryd.func128.trans (congrArg some (by kernel_rfl))
  f152 := Tryd.func139.trans (congrArg some (by kernel_rfl))
  f160 := Tryd.func91.trans (congrArg some (by kernel_rfl))
  f197 := Tryd.func122.trans (congrArg some (by kernel_rfl))
  f217 := Tryd.func113.trans (congrArg some (by kernel_rfl))
  f224 := Tryd.func115.trans (congrArg some (by kernel_rfl))
  f225 := Tryd.func114.trans (congrArg some (by kernel_rfl))
  f227 := Tryd.func108.trans (congrArg some (by kernel_rfl))
  f228 := Tryd.func127.trans (congrArg some (by kernel_rfl))
  f231 := Tryd.func106.trans (congrArg some (by kernel_rfl))
  f232 := Tryd.func107.trans (congrArg some (by kernel_rfl))
  f233 := Tryd.func109.trans (congrArg some (by kernel_rfl))
  f234 := Tryd.func110.trans (congrArg some (by kernel_rfl))
  f235 := Tryd.func111.trans (congrArg some (by kernel_rfl))
  f236 := Tryd.func112.trans (congrArg some (by kernel_rfl))
  f260 := Tryd.func138.trans (congrArg some (by kernel_rfl))
  f266 := Tryd.func130.trans (congrArg some (by kernel_rfl))
  f271 := Tryd.func129.trans (congrArg some (by kernel_rfl))
  t0 := Tryd.underlying0
  a0 := Tryd.isAgg0
  z0 := Tryd.sizeOf0
  v0 := Tryd.zeroValue0
  t3 := Tryd.underlying3
  a3 := Tryd.isAgg3
  z3 := Tryd.sizeOf3
  v3 := Tryd.zeroValue3
  t4 := Tryd.underlying4
  a4 := Tryd.isAgg4
  z4 := Tryd.sizeOf4
  v4 := Tryd.zeroValue4
  t5 := Tryd.underlying5
  a5 := Tryd.isAgg5
  z5 := Tryd.sizeOf5
  v5 := Tryd.zeroValue5
  t9 := Tryd.underlying9
  a9 := Tryd.isAgg9
  z9 := Tryd.sizeOf9
  v9 := Tryd.zeroValue9
  t21 := Tryd.underlying21
  a21 := Tryd.isAgg21
  z21 := Tryd.sizeOf21
  v21 := Tryd.zeroValue21
  t46 := Tryd.underlying105
  a46 := Tryd.isAgg105
  z46 := Tryd.sizeOf105
  v46 := Tryd.zeroValue105
  t105 := Tryd.underlying147
  a105 := Tryd.isAgg147
  z105 := Tryd.sizeOf147
  v105 := Tryd.zeroValue147
  t116 := Tryd.underlying134
  a116 := Tryd.isAgg134
  z116 := Tryd.sizeOf134
  t117 := Tryd.underlying135
  a117 := Tryd.isAgg135
  z117 := Tryd.sizeOf135
  v117 := Tryd.zeroValue135
  t119 := Tryd.underlying172
  a119 := Tryd.isAgg172
  z119 := Tryd.sizeOf172
  t124 := Tryd.underlying138
  a124 := Tryd.isAgg138
  z124 := Tryd.sizeOf138
  v124 := Tryd.zeroValue138
  t138 := Tryd.underlying174
  a138 := Tryd.isAgg174
  z138 := Tryd.sizeOf174
  v138 := Tryd.zeroValue174
  t139 := Tryd.underlying175
  a139 := Tryd.isAgg175
  z139 := Tryd.sizeOf175
  v139 := Tryd.zeroValue175
  g3 := by kernel_rfl
  g4 := by kernel_rfl }
def Tryd.lays145_ren : Go.Shelf.Ren := ⟨fun | 145 => 41 | 220 => 72 | 219 => 92 | 217 => 113 | 225 => 114 | 224 => 115 | 267 => 116 | 266 => 130 | 314 => 131 | n => n, fun | 9 => 9 | 4 => 4 | 59 => 77 | 3 => 3 | 5 => 5 | 46 => 105 | 146 => 155 | 51 => 154 | n => n, fun | 1 => 0 | n => n⟩
theorem Tryd.lays145 : Go.Proofs.Lays.n145 Tryd.prog Tryd.lays145_ren := {
  mixed := by kernel_rfl
  f145 := Tryd.func41.trans (congrArg some (by kernel_rfl))
  f217 := Tryd.func113.trans (congrArg some (by kernel_rfl))
  f219 := Tryd.func92.trans (congrArg some (by kernel_rfl))
  f220 := Tryd.func72.trans (congrArg some (by kernel_rfl))
  f224 := Tryd.func115.trans (congrArg some (by kernel_rfl))
  f225 := Tryd.func114.trans (congrArg some (by kernel_rfl))
  f266 := Tryd.func130.trans (congrArg some (by kernel_rfl))
  f267 := Tryd.func116.trans (congrArg some (by kernel_rfl))
  f314 := Tryd.func131.trans (congrArg some (by kernel_rfl))
  t3 := Tryd.underlying3
  a3 := Tryd.isAgg3
  z3 := Tryd.sizeOf3
  v3 := Tryd.zeroValue3
  t4 := Tryd.underlying4
  a4 := Tryd.isAgg4
  z4 := Tryd.sizeOf4
  v4 := Tryd.zeroValue4
  t5 := Tryd.underlying5
  a5 := Tryd.isAgg5
  z5 := Tryd.sizeOf5
  v5 := Tryd.zeroValue5
  t9 := Tryd.underlying9
  a9 := Tryd.isAgg9
  z9 := Tryd.sizeOf9
  v9 := Tryd.zeroValue9
  t46 := Tryd.underlying105
  a46 := Tryd.isAgg105
  z46 := Tryd.sizeOf105
  v46 := Tryd.zeroValue105
  t51 := Tryd.underlying154
  a51 := Tryd.isAgg154
  z51 := Tryd.sizeOf154
  v51 := Tryd.zeroValue154
  t59 := Tryd.underlying77
  a59 := Tryd.isAgg77
  z59 := Tryd.sizeOf77
  v59 := Tryd.zeroValue77
  t146 := Tryd.underlying155
  a146 := Tryd.isAgg155
  z146 := Tryd.sizeOf155
  v146 := Tryd.zeroValue155
  g1 := by kernel_rfl }
open Go.RowKit Go.Lib in
/-- strings.Cut: "Cut slices s around the first instance of sep, returning the text before and after sep. The found result reports whether sep appears in s. If sep does not appear in s, cut returns s, "", false.": IT RETURNS 'Lib.cut s sep'; the world is as it was but for the count of draws. (LAID: no walk: one application.) -/
theorem Tryd.strings_Cut (s sep : ByteArray) (m : Int) (w : World) (hs : s.size < 4294967281) (hm : w.cell? ⟨0, 0, none⟩ = some (.int .i64 m)) :
    Calls Tryd.prog 41 #[.string s, .string sep] w fun e w' => e = .returned (.tuple #[.string ⟨(Lib.cut s.data.toList sep.data.toList).1.toArray⟩, .string ⟨(Lib.cut s.data.toList sep.data.toList).2.1.toArray⟩, .bool (Lib.cut s.data.toList sep.data.toList).2.2]) ∧ ∃ n, w' = w.drewN n := Any.strings_Cut Tryd.lays145 s sep m w hs hm
open Go.RowKit Go.Lib in
theorem Tryd.strings_Trim (s cutset : ByteArray) (w : World) (hs : s.size ≤ 9223372036854775807) (hcs : cutset.size < 4294967281) (hascii : ∀ (j : Nat) b, cutset.data.toList[j]? = some b → b.toNat < 128) :
    Calls Tryd.prog 91 #[.string s, .string cutset] w fun e w' => e = .returned (.string ⟨(Lib.trimS s.data.toList cutset.data.toList).toArray⟩) ∧ Below w.heap.size w w' := Any.strings_Trim_laid Tryd.lays160 (by kernel_rfl) s cutset w hs hcs hascii
end Go.Proofs

-- written by a program of this session's (wip/pp)
namespace Go.Proofs.YteogadaloebdaaaDoor.P
open Go.RowKit Go.Proofs.YteogadaloebdaaaDoorW.PrintWords Go.Proofs.YteogadaloebdaaaDoorW.PrintLast Go.Proofs.YteogadaloebdaaaDoorW.PrintMore
attribute [local go_sem] max2_int min2_int max_two min_two max_three min_three max_four min_four str_geq str_gtr str_leq   -- for this text's walks alone
set_option linter.unusedVariables false
set_option linter.unusedSimpArgs false

/-! ### strings_Trim: function 91 -/
def strings_Trim.f (a0 a1 : ByteArray) : Option ByteArray := if a0.size ≤ 9223372036854775807 ∧ a1.size < 4294967281 ∧ (a1.data.toList.all fun b => decide (b.toNat < 128)) = true then some ⟨(Go.Lib.trimS a0.data.toList a1.data.toList).toArray⟩ else none
theorem strings_Trim.calls (a0 a1 : ByteArray) (r : ByteArray) (w : World) (h : strings_Trim.f a0 a1 = some r) :
 Calls Tryd.prog 91 #[.string a0, .string a1] w fun e w' => e = .returned (.string r) ∧ Below w.heap.size w w' := by
 unfold strings_Trim.f at h
 split at h
 · rename_i hb
   injection h with h
   subst h
   refine (Tryd.strings_Trim a0 a1 w hb.1 hb.2.1 (fun j b hj => ?_)).mono ?_
   · exact of_decide_eq_true (List.all_eq_true.1 hb.2.2 b (List.mem_of_getElem? hj))
   · rintro e w' ⟨rfl, hB⟩
     exact ⟨rfl, hB⟩
 · cases h

end Go.Proofs.YteogadaloebdaaaDoor.P

-- written by a program of this session's (wip/pp)
namespace Go.Proofs.YteogadaloebdaaaDoor.P
open Go.RowKit Go.Proofs.YteogadaloebdaaaDoorW.PrintWords Go.Proofs.YteogadaloebdaaaDoorW.PrintLast Go.Proofs.YteogadaloebdaaaDoorW.PrintMore
attribute [local go_sem] max2_int min2_int max_two min_two max_three min_three max_four min_four str_geq str_gtr str_leq   -- for this text's walks alone
set_option linter.unusedVariables false
set_option linter.unusedSimpArgs false

/-! ### impl_isName: function 68 -/
def impl_isName.f (a0 : ByteArray) : Option (Bool) := (impl_within.f (a0.size : Int) 1 12).bind fun t101 => (if t101 = true then ((strings_Trim.f a0 (⟨#[97, 98, 99, 100, 101, 102, 103, 104, 105, 106, 107, 108, 109, 110, 111, 112, 113, 114, 115, 116, 117, 118, 119, 120, 121, 122, 65, 66, 67, 68, 69, 70, 71, 72, 73, 74, 75, 76, 77, 78, 79, 80, 81, 82, 83, 84, 85, 86, 87, 88, 89, 90]⟩ : ByteArray)).bind fun t102 => (some (t102.toList == ([] : List UInt8)))) else (some false))
set_option maxHeartbeats 8000000 in
set_option maxRecDepth 100000 in
theorem impl_isName.calls (a0 : ByteArray) (r : Bool) (w : World) (h : impl_isName.f a0 = some r) :
 Calls Tryd.prog 68 #[.string a0] w fun e w' => e = .returned (.bool r) ∧ Below w.heap.size w w' := by
 have HB := aM (Below.refl w.heap.size w)
 have H : ((impl_within.f (a0.size : Int) 1 12).bind fun t101 => (if t101 = true then ((strings_Trim.f a0 (⟨#[97, 98, 99, 100, 101, 102, 103, 104, 105, 106, 107, 108, 109, 110, 111, 112, 113, 114, 115, 116, 117, 118, 119, 120, 121, 122, 65, 66, 67, 68, 69, 70, 71, 72, 73, 74, 75, 76, 77, 78, 79, 80, 81, 82, 83, 84, 85, 86, 87, 88, 89, 90]⟩ : ByteArray)).bind fun t102 => (some (t102.toList == ([] : List UInt8)))) else (some false))) = some r := h
 clear h
 replace H := Option.bind_eq_some_iff.mp H
 obtain ⟨t101, A20, H⟩ := H
 try dsimp only at H
 have A2 := aM A20
 clear A20
 by_cases c3 : t101 = true
 · subst c3
   have H1 : ((strings_Trim.f a0 (⟨#[97, 98, 99, 100, 101, 102, 103, 104, 105, 106, 107, 108, 109, 110, 111, 112, 113, 114, 115, 116, 117, 118, 119, 120, 121, 122, 65, 66, 67, 68, 69, 70, 71, 72, 73, 74, 75, 76, 77, 78, 79, 80, 81, 82, 83, 84, 85, 86, 87, 88, 89, 90]⟩ : ByteArray)).bind fun t102 => (some (t102.toList == ([] : List UInt8)))) = some r := by rw [if_pos rfl] at H; exact H
   clear H
   have H := H1
   clear H1
   replace H := Option.bind_eq_some_iff.mp H
   obtain ⟨t102, A40, H⟩ := H
   try dsimp only at H
   have A4 := aM A40
   clear A40
   obtain rfl := Option.some.inj H
   go_enter Tryd.func68, Tryd.ntmps68
   go_wp2_with (first | ((with_reducible refine gate_callee (f := 61) rfl ?_); refine goesL_ (some 5) rfl rfl Tryd.func61 (by kernel_rfl) rfl #[.int .i64 (a0.size : Int), .int .i64 1, .int .i64 12] rfl zee81 ?_; (with_reducible refine (impl_within.calls (a0.size : Int) 1 12 true _ A2.out).mono ?_); rintro e w' ⟨rfl, ⟨nd, rfl⟩⟩; refine ⟨_, rfl, ?_⟩) | (go_at_call 91; (with_reducible refine (strings_Trim.calls a0 (⟨#[97, 98, 99, 100, 101, 102, 103, 104, 105, 106, 107, 108, 109, 110, 111, 112, 113, 114, 115, 116, 117, 118, 119, 120, 121, 122, 65, 66, 67, 68, 69, 70, 71, 72, 73, 74, 75, 76, 77, 78, 79, 80, 81, 82, 83, 84, 85, 86, 87, 88, 89, 90]⟩ : ByteArray) t102 _ A4.out).mono ?_); rintro e w5 ⟨rfl, hb⟩; have _ := aM (below_step hbZ hb); clear HB; rename_i HB; (try clear hb)))
   go_ret
   exact ⟨z674d, z5acd⟩
 · replace c3 := Bool.eq_false_iff.mpr c3
   subst c3
   have H1 : (some false) = some r := by rw [if_neg (show ¬ (false = true) by decide)] at H; exact H
   clear H
   have H := H1
   clear H1
   obtain rfl := Option.some.inj H
   go_enter Tryd.func68, Tryd.ntmps68
   go_wp2_with (first | ((with_reducible refine gate_callee (f := 61) rfl ?_); refine goesL_ (some 5) rfl rfl Tryd.func61 (by kernel_rfl) rfl #[.int .i64 (a0.size : Int), .int .i64 1, .int .i64 12] rfl zee81 ?_; (with_reducible refine (impl_within.calls (a0.size : Int) 1 12 false _ A2.out).mono ?_); rintro e w' ⟨rfl, ⟨nd, rfl⟩⟩; refine ⟨_, rfl, ?_⟩))
   go_ret
   exact ⟨z674d, z5acd⟩

end Go.Proofs.YteogadaloebdaaaDoor.P

-- written by a program of this session's (wip/pp)
namespace Go.Proofs.YteogadaloebdaaaDoor.P
open Go.RowKit Go.Proofs.YteogadaloebdaaaDoorW.PrintWords Go.Proofs.YteogadaloebdaaaDoorW.PrintLast Go.Proofs.YteogadaloebdaaaDoorW.PrintMore
attribute [local go_sem] max2_int min2_int max_two min_two max_three min_three max_four min_four str_geq str_gtr str_leq   -- for this text's walks alone
set_option linter.unusedVariables false
set_option linter.unusedSimpArgs false

/-! ### impl_GoodKey: function 31 -/
mutual
def impl_GoodKey.j0 : Nat → Bool → ByteArray → List (S69) → Int → Option (Bool)
 | 0, _, _, _, _ => none
 | k + 1, x20, x102000, x102001, x102002 => if x20 = true then (some false) else (impl_GoodKey.l0 k x102001 (x102001.length : Int) 0 x102000 x102001 x102002)
def impl_GoodKey.l0 : Nat → List (S69) → Int → Int → ByteArray → List (S69) → Int → Option (Bool)
 | 0, _, _, _, _, _, _ => none
 | k + 1, x22, x23, x24, x102000, x102001, x102002 => if x24 < x23 then (if 0 ≤ x24 then (if x24 < (x22.length : Int) then ((impl_isName.f ((rd_T69 x22 x24).f0)).bind fun t106 => (if t106 = true then ((impl_isName.f ((rd_T69 x22 x24).f1)).bind fun t107 => (if t107 = true then (if x24 > 0 then (if 0 ≤ (wrap64 (x24 - 1)) then (if (wrap64 (x24 - 1)) < (x102001.length : Int) then (if ((Op.bytesLess (((rd_T69 x102001 (wrap64 (x24 - 1))).f0).toList) (((rd_T69 x22 x24).f0).toList)) = true) then (impl_GoodKey.l0 k x22 x23 (wrap64 (x24 + 1)) x102000 x102001 x102002) else (some false)) else (none)) else (none)) else (impl_GoodKey.l0 k x22 x23 (wrap64 (x24 + 1)) x102000 x102001 x102002)) else (some false))) else (some false))) else (none)) else (none)) else (some true)
end
def impl_GoodKey.f (k : Nat) (a0_0 : ByteArray) (l0_1 : List (S69)) (a0_2 : Int) : Option (Bool) := (impl_isName.f a0_0).bind fun t102 => (if t102 = true then (if (l0_1.length : Int) > 4 then (impl_GoodKey.j0 k true a0_0 l0_1 a0_2) else ((impl_within.f a0_2 0 1000000000).bind fun t103 => (impl_GoodKey.j0 k (!t103) a0_0 l0_1 a0_2))) else (impl_GoodKey.j0 k true a0_0 l0_1 a0_2))
theorem impl_GoodKey.mono_l : ∀ k, (∀ y0 y1 y2 y3, LeO (impl_GoodKey.j0 k y0 y1 y2 y3) (impl_GoodKey.j0 (k + 1) y0 y1 y2 y3)) ∧ (∀ y0 y1 y2 y3 y4 y5, LeO (impl_GoodKey.l0 k y0 y1 y2 y3 y4 y5) (impl_GoodKey.l0 (k + 1) y0 y1 y2 y3 y4 y5))
 | 0 => ⟨fun _ _ _ _ r h => by simp [impl_GoodKey.j0] at h, fun _ _ _ _ _ _ r h => by simp [impl_GoodKey.l0] at h⟩
 | k + 1 => by
  obtain ⟨ih0, ih1⟩ := impl_GoodKey.mono_l k
  refine ⟨?_, ?_⟩
  · intro y0 y1 y2 y3
    unfold impl_GoodKey.j0
    repeat' first
     | (with_reducible first | exact ih0 .. | exact ih1 .. | exact LeO.refl _ | exact LeO.none _ | refine LeO.ite ?_ ?_ | refine LeO.bind ?_ (fun _ => ?_))
     | exact LeO.none _
     | refine LeO.ite ?_ ?_
     | refine LeO.bind ?_ (fun _ => ?_)
  · intro y0 y1 y2 y3 y4 y5
    unfold impl_GoodKey.l0
    repeat' first
     | (with_reducible first | exact ih0 .. | exact ih1 .. | exact LeO.refl _ | exact LeO.none _ | refine LeO.ite ?_ ?_ | refine LeO.bind ?_ (fun _ => ?_))
     | exact LeO.none _
     | refine LeO.ite ?_ ?_
     | refine LeO.bind ?_ (fun _ => ?_)
theorem impl_GoodKey.mono : ∀ a0 a1 a2 k, LeO (impl_GoodKey.f k a0 a1 a2) (impl_GoodKey.f (k + 1) a0 a1 a2) := by
 intro a0 a1 a2 k
 obtain ⟨ih0, ih1⟩ := impl_GoodKey.mono_l k
 unfold impl_GoodKey.f
 repeat' first
  | (with_reducible first | exact ih0 .. | exact ih1 .. | exact LeO.refl _ | exact LeO.none _ | refine LeO.ite ?_ ?_ | refine LeO.bind ?_ (fun _ => ?_))
  | exact LeO.none _
  | refine LeO.ite ?_ ?_
  | refine LeO.bind ?_ (fun _ => ?_)
def impl_GoodKey.T6 : Bool × List (List Nat × List Nat) := (true, [([], []), ([0], [0]), ([1], [1]), ([2], [2]), ([3, 2], [3]), ([4], [4]), ([5, 4], [4, 5]), ([6, 4, 4], [4, 6]), ([7, 4], [4, 7]), ([4, 8], [4, 8]), ([9, 7], [9]), ([10], [10]), ([11, 10], [10, 11]), ([12, 10, 10], [10, 12]), ([13], [13]), ([14, 13], [13, 14]), ([13], [13]), ([16, 13], [13, 16]), ([15, 17, 13], [13, 15, 17]), ([18, 13], [13, 18]), ([19, 13], [13, 19]), ([13], [13]), ([21, 13], [13, 21]), ([20, 22, 13], [13, 20, 22]), ([13, 23, 10], [10, 13, 23]), ([10, 24], [10, 24])])
def impl_GoodKey.B6 : List Nat := [0, 1, 3, 7, 15, 31, 63, 127, 255, 511, 1023, 2047, 4095, 8191, 16383, 32767, 16383, 81919, 262143, 524287, 1048575, 16383, 2113535, 8388607, 16777215, 33554431]
theorem impl_GoodKey.tab6 : rtab .any (opsOf Tryd.f31 6) = impl_GoodKey.T6 := by kernel_rfl
theorem impl_GoodKey.bits6 : waitsOk impl_GoodKey.T6.2 impl_GoodKey.B6 = true := by kernel_rfl
set_option maxHeartbeats 8000000 in
set_option maxRecDepth 100000 in
theorem impl_GoodKey.calls (k : Nat) (a0_0 : ByteArray) (A0_1 : Option Addr) (c0_1 : Nat) (l0_1 : List (S69)) (a0_2 : Int) (r : Bool) (w : World) (hr0_1 : Kd.C k69 w A0_1 l0_1.length l0_1) (hc0_1 : l0_1.length ≤ c0_1) (h : impl_GoodKey.f k a0_0 l0_1 a0_2 = some r) :
 Calls Tryd.prog 31 #[.agg #[.string a0_0, .slice A0_1 l0_1.length c0_1, .int .i64 a0_2]] w fun e w' => e = .returned (.bool r) ∧ Below w.heap.size w w' := by
 have hu25 := Tryd.underlying25
 have hu69 := Tryd.underlying69
 have HR0_1 := aM hr0_1
 have HC0_1 := aM hc0_1
 clear hr0_1 hc0_1
 have HB := aM (Below.refl w.heap.size w)
 have H : ((impl_isName.f a0_0).bind fun t102 => (if t102 = true then (if (l0_1.length : Int) > 4 then (impl_GoodKey.j0 k true a0_0 l0_1 a0_2) else ((impl_within.f a0_2 0 1000000000).bind fun t103 => (impl_GoodKey.j0 k (!t103) a0_0 l0_1 a0_2))) else (impl_GoodKey.j0 k true a0_0 l0_1 a0_2))) = some r := h
 clear h
 have HC2 := aM H
 clear H
 go_enter Tryd.func31, Tryd.ntmps31
 go_upto_region 1 with (first | ((with_reducible refine gate_dst (N := 1) rfl ?_); (try (refine gate_guard (by rfl) ?_; dsimp only)); refine box_event ?hg (N := 1) ?hd (cs := #[.string a0_0, .slice A0_1 l0_1.length c0_1, .int .i64 a0_2]) (t := 25) ?hr ?_; (case hd => rfl); (case hg => rfl); (case hr => first | (go_simp; done) | (go_simp; rfl)); intro gb101 hg w3 hbox hb; have _ := aM (below_step hbZ hb); have _ := aM hbox; have _ := szZ hg; have _ := szZ hg; clear HB; rename_i HB BK101 GW101 GE101; clear hb hbox hg))
 (try simp only [Act.put, List.setIfInBounds_toArray, List.set_cons_zero, List.set_cons_succ])
 go_cut [20] (fun v20 wc => ∃ (kq : Nat) (x20_1 : Bool), v20 = .bool x20_1 ∧ Aside0 (impl_GoodKey.j0 kq x20_1 a0_0 l0_1 a0_2 = some r) ∧ Aside0 (kq ≤ k) ∧ Aside0 (wc.heap[gb101]? = some (.cells #[.string a0_0, (.slice A0_1 l0_1.length c0_1), .int .i64 a0_2] 25 (0, 0))) ∧ Aside0 (Below w.heap.size w wc))
 case first =>
  have H := HC2.out
  clear HC2
  replace H := Option.bind_eq_some_iff.mp H
  obtain ⟨t102, A40, H⟩ := H
  try dsimp only at H
  have A4 := aM A40
  clear A40
  by_cases c5 : t102 = true
  · subst c5
    have H1 : (if (l0_1.length : Int) > 4 then (impl_GoodKey.j0 k true a0_0 l0_1 a0_2) else ((impl_within.f a0_2 0 1000000000).bind fun t103 => (impl_GoodKey.j0 k (!t103) a0_0 l0_1 a0_2))) = some r := by rw [if_pos rfl] at H; exact H
    clear H
    have H := H1
    clear H1
    by_cases c6 : (l0_1.length : Int) > 4
    · rw [if_pos c6] at H
      have c6b0 : decide (4 < (l0_1.length : Int)) = true := decide_eq_true c6
      have c6b1 : decide (4 < l0_1.length) = true := decide_eq_true (by omega)
      clear c6
      (first | rw [c6b0] | (simp only [i64_w, i32_w]; rw [c6b0]) | skip)
      have H' := aM H
      clear H
      obtain ⟨hcz7_0, hcz7_1, hcz7_2, hfz7_0, hfz7_1, hfz7_2⟩ := cellsZ3 BK101.out
      go_wp2_with (first | ((with_reducible refine gate_callee (f := 68) rfl ?_); refine goesL_ (some 7) rfl rfl Tryd.func68 (by kernel_rfl) rfl #[.string a0_0] rfl zee81 ?_; (with_reducible refine (impl_isName.calls a0_0 true _ A4.out).mono ?_); rintro e w8 ⟨rfl, hb⟩; refine ⟨_, rfl, ?_⟩; have _ := bB gb101 hb; have _ := aM (below_step hbZ hb); clear BK101 HB; rename_i BK101 HB; (try clear hb); obtain ⟨hcz9_0, hcz9_1, hcz9_2, hfz9_0, hfz9_1, hfz9_2⟩ := cellsZ3 BK101.out))
      go_meet
      case rel => exact ⟨_, (true), z4458, H', ⟨zb79b⟩, ⟨bkZ⟩, ⟨zcb41⟩⟩
    · rw [if_neg c6] at H
      have c6b0 : decide (4 < (l0_1.length : Int)) = false := decide_eq_false c6
      have c6b1 : decide (4 < l0_1.length) = false := decide_eq_false (by omega)
      clear c6
      (first | rw [c6b0] | (simp only [i64_w, i32_w]; rw [c6b0]) | skip)
      replace H := Option.bind_eq_some_iff.mp H
      obtain ⟨t103, A100, H⟩ := H
      try dsimp only at H
      have A10 := aM A100
      clear A100
      have H' := aM H
      clear H
      obtain ⟨hcz11_0, hcz11_1, hcz11_2, hfz11_0, hfz11_1, hfz11_2⟩ := cellsZ3 BK101.out
      go_wp2_with (first | ((with_reducible refine gate_callee (f := 68) rfl ?_); refine goesL_ (some 7) rfl rfl Tryd.func68 (by kernel_rfl) rfl #[.string a0_0] rfl zee81 ?_; (with_reducible refine (impl_isName.calls a0_0 true _ A4.out).mono ?_); rintro e w12 ⟨rfl, hb⟩; refine ⟨_, rfl, ?_⟩; have _ := bB gb101 hb; have _ := aM (below_step hbZ hb); clear BK101 HB; rename_i BK101 HB; (try clear hb); obtain ⟨hcz13_0, hcz13_1, hcz13_2, hfz13_0, hfz13_1, hfz13_2⟩ := cellsZ3 BK101.out) | (go_at_call 61; (with_reducible refine (impl_within.calls a0_2 0 1000000000 t103 _ A10.out).mono ?_); rintro e w' ⟨rfl, ⟨nd, rfl⟩⟩))
      go_meet
      case rel => exact ⟨_, (!t103), z4458, H', ⟨zb79b⟩, ⟨bkZ⟩, ⟨zcb41⟩⟩
  · replace c5 := Bool.eq_false_iff.mpr c5
    subst c5
    have H1 : (impl_GoodKey.j0 k true a0_0 l0_1 a0_2) = some r := by rw [if_neg (show ¬ (false = true) by decide)] at H; exact H
    clear H
    have H := H1
    clear H1
    have H' := aM H
    clear H
    obtain ⟨hcz14_0, hcz14_1, hcz14_2, hfz14_0, hfz14_1, hfz14_2⟩ := cellsZ3 BK101.out
    go_wp2_with (first | ((with_reducible refine gate_callee (f := 68) rfl ?_); refine goesL_ (some 7) rfl rfl Tryd.func68 (by kernel_rfl) rfl #[.string a0_0] rfl zee81 ?_; (with_reducible refine (impl_isName.calls a0_0 false _ A4.out).mono ?_); rintro e w15 ⟨rfl, hb⟩; refine ⟨_, rfl, ?_⟩; have _ := bB gb101 hb; have _ := aM (below_step hbZ hb); clear BK101 HB; rename_i BK101 HB; (try clear hb)))
    go_meet
    case rel => exact ⟨_, (true), z4458, H', ⟨zb79b⟩, ⟨bkZ⟩, ⟨zcb41⟩⟩
 case rest =>
  clear HC2
  try clear p2
  try clear c3
  try clear c5
  try clear c6
  try clear c6b0
  try clear c6b1
  try clear hcz11_0 hcz11_1 hcz11_2
  try clear hcz13_0 hcz13_1 hcz13_2
  try clear hcz14_0 hcz14_1 hcz14_2
  try clear hcz7_0 hcz7_1 hcz7_2
  try clear hcz9_0 hcz9_1 hcz9_2
  try clear hfz11_0 hfz11_1 hfz11_2
  try clear hfz13_0 hfz13_1 hfz13_2
  try clear hfz14_0 hfz14_1 hfz14_2
  try clear hfz7_0 hfz7_1 hfz7_2
  try clear hfz9_0 hfz9_1 hfz9_2
  obtain ⟨kq, x20_1, rfl, HA, HJ1, BK101, HB⟩ := hcut
  cases kq with
  | zero => exact absurd HA.out (by simp [impl_GoodKey.j0])
  | succ kj1 =>
   have H := HA.out
   clear HA
   simp only [impl_GoodKey.j0] at H
   by_cases c16 : x20_1 = true
   · subst c16
     have H1 : (some false) = some r := by rw [if_pos rfl] at H; exact H
     clear H
     have H := H1
     clear H1
     obtain rfl := Option.some.inj H
     go_wp2
     go_ret
     exact ⟨z674d, zcb41⟩
   · replace c16 := Bool.eq_false_iff.mpr c16
     subst c16
     have H1 : (impl_GoodKey.l0 kj1 l0_1 (l0_1.length : Int) 0 a0_0 l0_1 a0_2) = some r := by rw [if_neg (show ¬ (false = true) by decide)] at H; exact H
     clear H
     have H := H1
     clear H1
     have H' := aM H
     clear H
     obtain ⟨hcz17_0, hcz17_1, hcz17_2, hfz17_0, hfz17_1, hfz17_2⟩ := cellsZ3 BK101.out
     go_wp2
     go_loopg [24] kj1 (fun kq v24 w' => ∃ (x24_2 : Int), v24 = .int .i64 x24_2 ∧ Aside0 (impl_GoodKey.l0 kq l0_1 (l0_1.length : Int) x24_2 a0_0 l0_1 a0_2 = some r) ∧ Aside0 (kq ≤ kj1) ∧ Aside0 (w'.heap[gb101]? = some (.cells #[.string a0_0, (.slice A0_1 l0_1.length c0_1), .int .i64 a0_2] 25 (0, 0))) ∧ Aside0 (Below w.heap.size w w'))
     case atStart => exact ⟨(0), z4458, H', ⟨Nat.le_refl _⟩, ⟨bkZ⟩, ⟨zcb41⟩⟩
     case round =>
      clear H'
      try clear c1
      try clear p2
      try clear c3
      try clear c5
      try clear c6
      try clear c6b0
      try clear c6b1
      try clear c16
      try clear hcz11_0 hcz11_1 hcz11_2
      try clear hcz13_0 hcz13_1 hcz13_2
      try clear hcz14_0 hcz14_1 hcz14_2
      try clear hcz17_0 hcz17_1 hcz17_2
      try clear hcz7_0 hcz7_1 hcz7_2
      try clear hcz9_0 hcz9_1 hcz9_2
      try clear hfz11_0 hfz11_1 hfz11_2
      try clear hfz13_0 hfz13_1 hfz13_2
      try clear hfz14_0 hfz14_1 hfz14_2
      try clear hfz17_0 hfz17_1 hfz17_2
      try clear hfz7_0 hfz7_1 hfz7_2
      try clear hfz9_0 hfz9_1 hfz9_2
      try clear p2
      obtain ⟨x24_2, rfl, HA, HK2, BK101, HB⟩ := hrel
      cases gk with
      | zero => exact absurd HA.out (by simp [impl_GoodKey.l0])
      | succ k2 =>
       have H := HA.out
       clear HA
       simp only [impl_GoodKey.l0] at H
       by_cases c18 : x24_2 < (l0_1.length : Int)
       · rw [if_pos c18] at H
         have c18b0 : decide (x24_2 < (l0_1.length : Int)) = true := decide_eq_true c18
         clear c18
         by_cases c19 : 0 ≤ x24_2
         · rw [if_pos c19] at H
           have c19b0 : decide (0 ≤ x24_2) = true := decide_eq_true c19
           clear c19
           by_cases c20 : x24_2 < (l0_1.length : Int)
           · rw [if_pos c20] at H
             have c20b0 : decide (x24_2 < (l0_1.length : Int)) = true := decide_eq_true c20
             clear c20
             replace H := Option.bind_eq_some_iff.mp H
             obtain ⟨t106, A210, H⟩ := H
             try dsimp only at H
             have A21 := aM A210
             clear A210
             by_cases c22 : t106 = true
             · subst c22
               have H1 : ((impl_isName.f ((rd_T69 l0_1 x24_2).f1)).bind fun t107 => (if t107 = true then (if x24_2 > 0 then (if 0 ≤ (wrap64 (x24_2 - 1)) then (if (wrap64 (x24_2 - 1)) < (l0_1.length : Int) then (if ((Op.bytesLess (((rd_T69 l0_1 (wrap64 (x24_2 - 1))).f0).toList) (((rd_T69 l0_1 x24_2).f0).toList)) = true) then (impl_GoodKey.l0 k2 l0_1 (l0_1.length : Int) (wrap64 (x24_2 + 1)) a0_0 l0_1 a0_2) else (some false)) else (none)) else (none)) else (impl_GoodKey.l0 k2 l0_1 (l0_1.length : Int) (wrap64 (x24_2 + 1)) a0_0 l0_1 a0_2)) else (some false))) = some r := by rw [if_pos rfl] at H; exact H
               clear H
               have H := H1
               clear H1
               replace H := Option.bind_eq_some_iff.mp H
               obtain ⟨t107, A230, H⟩ := H
               try dsimp only at H
               have A23 := aM A230
               clear A230
               by_cases c24 : t107 = true
               · subst c24
                 have H1 : (if x24_2 > 0 then (if 0 ≤ (wrap64 (x24_2 - 1)) then (if (wrap64 (x24_2 - 1)) < (l0_1.length : Int) then (if ((Op.bytesLess (((rd_T69 l0_1 (wrap64 (x24_2 - 1))).f0).toList) (((rd_T69 l0_1 x24_2).f0).toList)) = true) then (impl_GoodKey.l0 k2 l0_1 (l0_1.length : Int) (wrap64 (x24_2 + 1)) a0_0 l0_1 a0_2) else (some false)) else (none)) else (none)) else (impl_GoodKey.l0 k2 l0_1 (l0_1.length : Int) (wrap64 (x24_2 + 1)) a0_0 l0_1 a0_2)) = some r := by rw [if_pos rfl] at H; exact H
                 clear H
                 have H := H1
                 clear H1
                 by_cases c25 : x24_2 > 0
                 · rw [if_pos c25] at H
                   have c25b0 : decide (0 < x24_2) = true := decide_eq_true c25
                   clear c25
                   obtain ⟨ji26, hji26⟩ : ∃ j_ : Int, (wrap64 (x24_2 - 1)) = j_ := ⟨_, rfl⟩
                   replace H : (if 0 ≤ (ji26) then (if (ji26) < (l0_1.length : Int) then (if ((Op.bytesLess (((rd_T69 l0_1 (ji26)).f0).toList) (((rd_T69 l0_1 x24_2).f0).toList)) = true) then (impl_GoodKey.l0 k2 l0_1 (l0_1.length : Int) (wrap64 (x24_2 + 1)) a0_0 l0_1 a0_2) else (some false)) else (none)) else (none)) = some r := by first | (rw [hji26] at H; exact H) | (simp only [hji26] at H ⊢; exact H)
                   (try rw [hji26] at A21)
                   (try rw [hji26] at A23)
                   have hji26w : (IntKind.i64.wrap (x24_2 - 1)) = ji26 := (i64_w _).trans hji26
                   by_cases c27 : 0 ≤ (ji26)
                   · rw [if_pos c27] at H
                     have c27b0 : decide (0 ≤ (ji26)) = true := decide_eq_true c27
                     clear c27
                     by_cases c28 : (ji26) < (l0_1.length : Int)
                     · rw [if_pos c28] at H
                       have c28b0 : decide ((ji26) < (l0_1.length : Int)) = true := decide_eq_true c28
                       clear c28
                       by_cases c29 : ((Op.bytesLess (((rd_T69 l0_1 (ji26)).f0).toList) (((rd_T69 l0_1 x24_2).f0).toList)) = true)
                       · rw [if_pos c29] at H
                         have c29b0 : (Op.bytesLess (((rd_T69 l0_1 (ji26)).f0).toList) (((rd_T69 l0_1 x24_2).f0).toList)) = true := c29
                         clear c29
                         have H' := aM H
                         clear H
                         have p104 : 0 ≤ (x24_2 : Int) := of_decide_eq_true z1200
                         have q104 : x24_2 < (l0_1.length : Int) := of_decide_eq_true z1200
                         obtain ⟨ad104, e104, hx104_0, hx104_1⟩ := at_T69 HR0_1.out x24_2 p104 q104
                         cases e104
                         replace hx104_0 := (HB.out.cell (World.block_lt_of_cell? w _ hx104_0)).trans hx104_0
                         replace hx104_1 := (HB.out.cell (World.block_lt_of_cell? w _ hx104_1)).trans hx104_1
                         replace p104 := eq_true p104
                         replace q104 := eq_true q104
                         try go_wp2_with (first | ((with_reducible refine gate_dst (N := 4) rfl ?_); (try (refine gate_guard (by rfl) ?_; dsimp only)); refine box_event ?hg (N := 4) ?hd (cs := #[.string (⟨#[]⟩ : ByteArray), .string (⟨#[]⟩ : ByteArray)]) (t := 69) ?hr ?_; (case hd => rfl); (case hg => rfl); (case hr => first | (go_simp; done) | (go_simp; rfl)); intro gb105 hg w30 hbox hb; have _ := bB gb101 hb; have _ := aM (below_step hbZ hb); have _ := aM hbox; have _ := szZ hg; have _ := szZ hg; have ⟨_, _⟩ := nbB gb101 hg; clear BK101 HB; rename_i BK101 HB BK105 GW105 GE105 NB101_105 NB105_101; clear hb hbox hg; have hnb31 := NB105_101.out; have hnc31 := NB101_105.out; obtain ⟨hcz32_0, hcz32_1, hfz32_0, hfz32_1⟩ := cellsZ2 BK105.out))
                         have n0_ : Aside0 (((w30.setCell ⟨gb105, 0, none⟩ (.string ((rd_T69 l0_1 x24_2).f0))).setCell ⟨gb105, 1, none⟩ (.string ((rd_T69 l0_1 x24_2).f1))).heap[gb101]? = some (.cells #[.string a0_0, .slice (some ad104) l0_1.length c0_1, .int .i64 a0_2] 25 (0, 0))) := ⟨bkZ⟩
                         have n1_ : Aside0 (((w30.setCell ⟨gb105, 0, none⟩ (.string ((rd_T69 l0_1 x24_2).f0))).setCell ⟨gb105, 1, none⟩ (.string ((rd_T69 l0_1 x24_2).f1))).heap[gb105]? = some (.cells #[.string ((rd_T69 l0_1 x24_2).f0), .string ((rd_T69 l0_1 x24_2).f1)] 69 (0, 0))) := ⟨bkZ⟩
                         have n2_ : Aside0 (Below w.heap.size w ((w30.setCell ⟨gb105, 0, none⟩ (.string ((rd_T69 l0_1 x24_2).f0))).setCell ⟨gb105, 1, none⟩ (.string ((rd_T69 l0_1 x24_2).f1)))) := ⟨zcb41⟩
                         (try clear BK101)
                         (try clear BK105)
                         (try clear HB)
                         generalize ((w30.setCell ⟨gb105, 0, none⟩ (.string ((rd_T69 l0_1 x24_2).f0))).setCell ⟨gb105, 1, none⟩ (.string ((rd_T69 l0_1 x24_2).f1))) = w33 at n0_ n1_ n2_ ⊢
                         have BK101 := n0_
                         have BK105 := n1_
                         have HB := n2_
                         clear n0_ n1_ n2_
                         have _ := aM (blk_drew BK101.out)
                         have _ := aM (blk_drew BK105.out)
                         have _ := aM (below_drew1 HB.out)
                         clear BK101
                         clear BK105
                         clear HB
                         rename_i BK101 BK105 HB
                         have p108 : 0 ≤ ((ji26) : Int) := of_decide_eq_true z1200
                         have q108 : (ji26) < (l0_1.length : Int) := of_decide_eq_true z1200
                         obtain ⟨ad108, e108, hx108_0, hx108_1⟩ := at_T69 HR0_1.out (ji26) p108 q108
                         have hw108_1 := hx108_1
                         have hw108_0 := hx108_0
                         obtain rfl : ad104 = ad108 := (by injection e108)
                         replace hx108_0 := (HB.out.cell (World.block_lt_of_cell? w _ hx108_0)).trans hx108_0
                         replace hx108_1 := (HB.out.cell (World.block_lt_of_cell? w _ hx108_1)).trans hx108_1
                         replace p108 := eq_true p108
                         replace q108 := eq_true q108
                         refine start_ (n := 26) (S := fun w' => w'.cell? ⟨gb105, 0, none⟩ = some (.string ((rd_T69 l0_1 x24_2).f0)) ∧ w'.cell? ⟨gb105, 1, none⟩ = some (.string ((rd_T69 l0_1 x24_2).f1)) ∧ w'.cell? ⟨gb101, 0, none⟩ = some (.string a0_0) ∧ w'.cell? ⟨gb101, 1, none⟩ = some (.slice (some ad104) l0_1.length c0_1) ∧ w'.cell? ⟨gb101, 2, none⟩ = some (.int .i64 a0_2) ∧ w'.cell? (ad104.add (((ji26)).toNat * 2)) = some (.string ((rd_T69 l0_1 (ji26)).f0)) ∧ w'.cell? ⟨(ad104.add (((ji26)).toNat * 2)).block, (ad104.add (((ji26)).toNat * 2)).off + 1, none⟩ = some (.string ((rd_T69 l0_1 (ji26)).f1))) (ds := []) #[false, false, false, false, false, false, false, false, false, false, false, false, false, false, false, false, false, false, false, false, false, false, false, false, false, false] (by kernel_rfl) rfl rfl ⟨(blk_cell BK105.out 0).trans rfl, (blk_cell BK105.out 1).trans rfl, (blk_cell BK101.out 0).trans rfl, (blk_cell BK101.out 1).trans rfl, (blk_cell BK101.out 2).trans rfl, ((HB.out.cell (World.block_lt_of_cell? w _ hw108_0)).trans hw108_0), ((HB.out.cell (World.block_lt_of_cell? w _ hw108_1)).trans hw108_1)⟩ (fun hHeld => ?_); refine with_tabW impl_GoodKey.tab6 impl_GoodKey.bits6 (fun HT_ HW_ => ?_)
                         generalize w33.drew = w34 at BK101 BK105 HB hx108_0 hx108_1 hHeld ⊢
                         refine pure_ (i := 0) (N := some 29) (v := ?_) (a' := ?_) #[true, false, false, false, false, false, false, false, false, false, false, false, false, false, false, false, false, false, false, false, false, false, false, false, false, false] rfl rfl (any_of HT_.out (by kernel_rfl)) (fun _ _ _ h => h) (Or.inl ⟨by rfl, ?_⟩) ?_ ?_
                         rotate_left
                         · intro w'
                           go_simp
                           with_reducible rfl
                         rotate_left
                         · simp only [Act.put, List.setIfInBounds_toArray, List.set_cons_zero, List.set_cons_succ, i64_w, i32_w]
                           rfl
                         refine take_ (i := 1) (N := some 30) (v := ?_) (a' := ?_) #[true, true, false, false, false, false, false, false, false, false, false, false, false, false, false, false, false, false, false, false, false, false, false, false, false, false] rfl rfl (take_ofW HT_.out HW_.out (by kernel_rfl)) (fun _ _ _ h => h) (Or.inl ⟨by rfl, ?_⟩) hHeld ?_ ?_
                         rotate_left
                         · rintro w' ⟨s0, s1, s2, s3, s4, s5, s6⟩
                           go_simp
                           with_reducible rfl
                         rotate_left
                         · simp only [Act.put, List.setIfInBounds_toArray, List.set_cons_zero, List.set_cons_succ, i64_w, i32_w]
                           rfl
                         refine one_ (i := 2) (N := some 31) #[true, true, true, false, false, false, false, false, false, false, false, false, false, false, false, false, false, false, false, false, false, false, false, false, false, false] rfl rfl (one_of HT_.out (by kernel_rfl)) (by decide) (fun K hK => ?_)
                         refine goes_ Tryd.func68 (by kernel_rfl) rfl #[.string ((rd_T69 l0_1 x24_2).f0)] (by rfl) rfl rfl zee81 ?_
                         with_reducible refine (impl_isName.calls ((rd_T69 l0_1 x24_2).f0) true _ A21.out).mono ?_
                         rintro e w35 ⟨rfl, hb⟩
                         refine ⟨_, rfl, ?_⟩
                         have _ := bB gb101 hb
                         have _ := bB gb105 hb
                         have _ := aM (below_step hbZ hb)
                         clear BK101
                         clear BK105
                         clear HB
                         rename_i BK101 BK105 HB
                         (try clear hb)
                         (try clear hb2)
                         (try clear hk)
                         (try clear hi)
                         refine hK.out _ _ ⟨(blk_cell BK105.out 0).trans rfl, (blk_cell BK105.out 1).trans rfl, (blk_cell BK101.out 0).trans rfl, (blk_cell BK101.out 1).trans rfl, (blk_cell BK101.out 2).trans rfl, ((HB.out.cell (World.block_lt_of_cell? w _ hw108_0)).trans hw108_0), ((HB.out.cell (World.block_lt_of_cell? w _ hw108_1)).trans hw108_1)⟩ (fun hHeld => ?_)
                         clear hK K
                         refine norm_ (a' := ?_) ?_ ?_
                         rotate_left
                         · show Act.put _ (some 31) _ = _
                           simp only [Act.put, List.setIfInBounds_toArray, List.set_cons_zero, List.set_cons_succ, i64_w, i32_w]
                           rfl
                         refine pure_ (i := 3) (N := some 32) (v := ?_) (a' := ?_) #[true, true, true, true, false, false, false, false, false, false, false, false, false, false, false, false, false, false, false, false, false, false, false, false, false, false] rfl rfl (any_of HT_.out (by kernel_rfl)) (fun _ _ _ h => h) (Or.inl ⟨by rfl, ?_⟩) ?_ ?_
                         rotate_left
                         · intro w'
                           go_simp
                           with_reducible rfl
                         rotate_left
                         · simp only [Act.put, List.setIfInBounds_toArray, List.set_cons_zero, List.set_cons_succ, i64_w, i32_w]
                           rfl
                         refine pure_ (i := 4) (N := some 33) (v := ?_) (a' := ?_) #[true, true, true, true, true, false, false, false, false, false, false, false, false, false, false, false, false, false, false, false, false, false, false, false, false, false] rfl rfl (any_of HT_.out (by kernel_rfl)) (fun _ _ _ h => h) (Or.inl ⟨by rfl, ?_⟩) ?_ ?_
                         rotate_left
                         · intro w'
                           go_simp
                           with_reducible rfl
                         rotate_left
                         · simp only [Act.put, List.setIfInBounds_toArray, List.set_cons_zero, List.set_cons_succ, i64_w, i32_w]
                           rfl
                         refine pure_ (i := 5) (N := some 34) (v := ?_) (a' := ?_) #[true, true, true, true, true, true, false, false, false, false, false, false, false, false, false, false, false, false, false, false, false, false, false, false, false, false] rfl rfl (any_of HT_.out (by kernel_rfl)) (fun _ _ _ h => h) (Or.inl ⟨by rfl, ?_⟩) ?_ ?_
                         rotate_left
                         · intro w'
                           go_simp
                           with_reducible rfl
                         rotate_left
                         · simp only [Act.put, List.setIfInBounds_toArray, List.set_cons_zero, List.set_cons_succ, i64_w, i32_w]
                           rfl
                         refine take_ (i := 6) (N := some 35) (v := ?_) (a' := ?_) #[true, true, true, true, true, true, true, false, false, false, false, false, false, false, false, false, false, false, false, false, false, false, false, false, false, false] rfl rfl (take_ofW HT_.out HW_.out (by kernel_rfl)) (fun _ _ _ h => h) (Or.inl ⟨by rfl, ?_⟩) hHeld ?_ ?_
                         rotate_left
                         · rintro w' ⟨s0, s1, s2, s3, s4, s5, s6⟩
                           go_simp
                           with_reducible rfl
                         rotate_left
                         · simp only [Act.put, List.setIfInBounds_toArray, List.set_cons_zero, List.set_cons_succ, i64_w, i32_w]
                           rfl
                         refine one_ (i := 7) (N := some 36) #[true, true, true, true, true, true, true, true, false, false, false, false, false, false, false, false, false, false, false, false, false, false, false, false, false, false] rfl rfl (one_of HT_.out (by kernel_rfl)) (by decide) (fun K hK => ?_)
                         refine goes_ Tryd.func68 (by kernel_rfl) rfl #[.string ((rd_T69 l0_1 x24_2).f1)] (by rfl) rfl rfl zee81 ?_
                         with_reducible refine (impl_isName.calls ((rd_T69 l0_1 x24_2).f1) true _ A23.out).mono ?_
                         rintro e w36 ⟨rfl, hb⟩
                         refine ⟨_, rfl, ?_⟩
                         have _ := bB gb101 hb
                         have _ := bB gb105 hb
                         have _ := aM (below_step hbZ hb)
                         clear BK101
                         clear BK105
                         clear HB
                         rename_i BK101 BK105 HB
                         (try clear hb)
                         (try clear hb2)
                         (try clear hk)
                         (try clear hi)
                         refine hK.out _ _ ⟨(blk_cell BK105.out 0).trans rfl, (blk_cell BK105.out 1).trans rfl, (blk_cell BK101.out 0).trans rfl, (blk_cell BK101.out 1).trans rfl, (blk_cell BK101.out 2).trans rfl, ((HB.out.cell (World.block_lt_of_cell? w _ hw108_0)).trans hw108_0), ((HB.out.cell (World.block_lt_of_cell? w _ hw108_1)).trans hw108_1)⟩ (fun hHeld => ?_)
                         clear hK K
                         refine norm_ (a' := ?_) ?_ ?_
                         rotate_left
                         · show Act.put _ (some 36) _ = _
                           simp only [Act.put, List.setIfInBounds_toArray, List.set_cons_zero, List.set_cons_succ, i64_w, i32_w]
                           rfl
                         refine pure_ (i := 8) (N := some 37) (v := ?_) (a' := ?_) #[true, true, true, true, true, true, true, true, true, false, false, false, false, false, false, false, false, false, false, false, false, false, false, false, false, false] rfl rfl (any_of HT_.out (by kernel_rfl)) (fun _ _ _ h => h) (Or.inl ⟨by rfl, ?_⟩) ?_ ?_
                         rotate_left
                         · intro w'
                           go_simp
                           with_reducible rfl
                         rotate_left
                         · simp only [Act.put, List.setIfInBounds_toArray, List.set_cons_zero, List.set_cons_succ, i64_w, i32_w]
                           rfl
                         refine pure_ (i := 9) (N := some 38) (v := ?_) (a' := ?_) #[true, true, true, true, true, true, true, true, true, true, false, false, false, false, false, false, false, false, false, false, false, false, false, false, false, false] rfl rfl (any_of HT_.out (by kernel_rfl)) (fun _ _ _ h => h) (Or.inl ⟨by rfl, ?_⟩) ?_ ?_
                         rotate_left
                         · intro w'
                           go_simp
                           with_reducible rfl
                         rotate_left
                         · simp only [Act.put, List.setIfInBounds_toArray, List.set_cons_zero, List.set_cons_succ, i64_w, i32_w]
                           rfl
                         refine pure_ (i := 10) (N := some 39) (v := ?_) (a' := ?_) #[true, true, true, true, true, true, true, true, true, true, true, false, false, false, false, false, false, false, false, false, false, false, false, false, false, false] rfl rfl (any_of HT_.out (by kernel_rfl)) (fun _ _ _ h => h) (Or.inl ⟨by rfl, ?_⟩) ?_ ?_
                         rotate_left
                         · intro w'
                           go_simp
                           with_reducible rfl
                         rotate_left
                         · simp only [Act.put, List.setIfInBounds_toArray, List.set_cons_zero, List.set_cons_succ, i64_w, i32_w]
                           rfl
                         refine pure_ (i := 11) (N := some 40) (v := ?_) (a' := ?_) #[true, true, true, true, true, true, true, true, true, true, true, true, false, false, false, false, false, false, false, false, false, false, false, false, false, false] rfl rfl (any_of HT_.out (by kernel_rfl)) (fun _ _ _ h => h) (Or.inl ⟨by rfl, ?_⟩) ?_ ?_
                         rotate_left
                         · intro w'
                           go_simp
                           with_reducible rfl
                         rotate_left
                         · simp only [Act.put, List.setIfInBounds_toArray, List.set_cons_zero, List.set_cons_succ, i64_w, i32_w]
                           rfl
                         refine pure_ (i := 12) (N := some 41) (v := ?_) (a' := ?_) #[true, true, true, true, true, true, true, true, true, true, true, true, true, false, false, false, false, false, false, false, false, false, false, false, false, false] rfl rfl (any_of HT_.out (by kernel_rfl)) (fun _ _ _ h => h) (Or.inl ⟨by rfl, ?_⟩) ?_ ?_
                         rotate_left
                         · intro w'
                           go_simp
                           with_reducible rfl
                         rotate_left
                         · simp only [Act.put, List.setIfInBounds_toArray, List.set_cons_zero, List.set_cons_succ, i64_w, i32_w]
                           rfl
                         refine pure_ (i := 13) (N := some 42) (v := ?_) (a' := ?_) #[true, true, true, true, true, true, true, true, true, true, true, true, true, true, false, false, false, false, false, false, false, false, false, false, false, false] rfl rfl (any_of HT_.out (by kernel_rfl)) (fun _ _ _ h => h) (Or.inl ⟨by rfl, ?_⟩) ?_ ?_
                         rotate_left
                         · intro w'
                           go_simp
                           with_reducible rfl
                         rotate_left
                         · simp only [Act.put, List.setIfInBounds_toArray, List.set_cons_zero, List.set_cons_succ, i64_w, i32_w]
                           rfl
                         refine pure_ (i := 14) (N := some 43) (v := ?_) (a' := ?_) #[true, true, true, true, true, true, true, true, true, true, true, true, true, true, true, false, false, false, false, false, false, false, false, false, false, false] rfl rfl (any_of HT_.out (by kernel_rfl)) (fun _ _ _ h => h) (Or.inl ⟨by rfl, ?_⟩) ?_ ?_
                         rotate_left
                         · intro w'
                           go_simp
                           with_reducible rfl
                         rotate_left
                         · simp only [Act.put, List.setIfInBounds_toArray, List.set_cons_zero, List.set_cons_succ, i64_w, i32_w]
                           rfl
                         refine pure_ (i := 16) (N := some 45) (v := ?_) (a' := ?_) #[true, true, true, true, true, true, true, true, true, true, true, true, true, true, true, false, true, false, false, false, false, false, false, false, false, false] rfl rfl (any_of HT_.out (by kernel_rfl)) (fun _ _ _ h => h) (Or.inl ⟨by rfl, ?_⟩) ?_ ?_
                         rotate_left
                         · intro w'
                           go_simp
                           with_reducible rfl
                         rotate_left
                         · simp only [Act.put, List.setIfInBounds_toArray, List.set_cons_zero, List.set_cons_succ, i64_w, i32_w]
                           rfl
                         refine pure_ (i := 17) (N := some 46) (v := ?_) (a' := ?_) #[true, true, true, true, true, true, true, true, true, true, true, true, true, true, true, false, true, true, false, false, false, false, false, false, false, false] rfl rfl (any_of HT_.out (by kernel_rfl)) (fun _ _ _ h => h) (Or.inl ⟨by rfl, ?_⟩) ?_ ?_
                         rotate_left
                         · intro w'
                           go_simp
                           with_reducible rfl
                         rotate_left
                         · simp only [Act.put, List.setIfInBounds_toArray, List.set_cons_zero, List.set_cons_succ, i64_w, i32_w]
                           rfl
                         refine pure_ (i := 21) (N := some 50) (v := ?_) (a' := ?_) #[true, true, true, true, true, true, true, true, true, true, true, true, true, true, true, false, true, true, false, false, false, true, false, false, false, false] rfl rfl (any_of HT_.out (by kernel_rfl)) (fun _ _ _ h => h) (Or.inl ⟨by rfl, ?_⟩) ?_ ?_
                         rotate_left
                         · intro w'
                           go_simp
                           with_reducible rfl
                         rotate_left
                         · simp only [Act.put, List.setIfInBounds_toArray, List.set_cons_zero, List.set_cons_succ, i64_w, i32_w]
                           rfl
                         refine take_ (i := 15) (N := some 44) (v := ?_) (a' := ?_) #[true, true, true, true, true, true, true, true, true, true, true, true, true, true, true, true, true, true, false, false, false, true, false, false, false, false] rfl rfl (take_ofW HT_.out HW_.out (by kernel_rfl)) (fun _ _ _ h => h) (Or.inl ⟨by rfl, ?_⟩) hHeld ?_ ?_
                         rotate_left
                         · rintro w' ⟨s0, s1, s2, s3, s4, s5, s6⟩
                           go_simp
                           with_reducible rfl
                         rotate_left
                         · simp only [Act.put, List.setIfInBounds_toArray, List.set_cons_zero, List.set_cons_succ, i64_w, i32_w]
                           rfl
                         refine pure_ (i := 18) (N := some 47) (v := ?_) (a' := ?_) #[true, true, true, true, true, true, true, true, true, true, true, true, true, true, true, true, true, true, true, false, false, true, false, false, false, false] rfl rfl (any_of HT_.out (by kernel_rfl)) (fun _ _ _ h => h) (Or.inl ⟨by rfl, ?_⟩) ?_ ?_
                         rotate_left
                         · intro w'
                           go_simp
                           with_reducible rfl
                         rotate_left
                         · simp only [Act.put, List.setIfInBounds_toArray, List.set_cons_zero, List.set_cons_succ, i64_w, i32_w]
                           rfl
                         refine pure_ (i := 19) (N := some 48) (v := ?_) (a' := ?_) #[true, true, true, true, true, true, true, true, true, true, true, true, true, true, true, true, true, true, true, true, false, true, false, false, false, false] rfl rfl (any_of HT_.out (by kernel_rfl)) (fun _ _ _ h => h) (Or.inl ⟨by rfl, ?_⟩) ?_ ?_
                         rotate_left
                         · intro w'
                           go_simp
                           with_reducible rfl
                         rotate_left
                         · simp only [Act.put, List.setIfInBounds_toArray, List.set_cons_zero, List.set_cons_succ, i64_w, i32_w]
                           rfl
                         refine take_ (i := 20) (N := some 49) (v := ?_) (a' := ?_) #[true, true, true, true, true, true, true, true, true, true, true, true, true, true, true, true, true, true, true, true, true, true, false, false, false, false] rfl rfl (take_ofW HT_.out HW_.out (by kernel_rfl)) (fun _ _ _ h => h) (Or.inl ⟨by rfl, ?_⟩) hHeld ?_ ?_
                         rotate_left
                         · rintro w' ⟨s0, s1, s2, s3, s4, s5, s6⟩
                           go_simp
                           with_reducible rfl
                         rotate_left
                         · simp only [Act.put, List.setIfInBounds_toArray, List.set_cons_zero, List.set_cons_succ, i64_w, i32_w]
                           rfl
                         refine take_ (i := 22) (N := some 51) (v := ?_) (a' := ?_) #[true, true, true, true, true, true, true, true, true, true, true, true, true, true, true, true, true, true, true, true, true, true, true, false, false, false] rfl rfl (take_ofW HT_.out HW_.out (by kernel_rfl)) (fun _ _ _ h => h) (Or.inl ⟨by rfl, ?_⟩) hHeld ?_ ?_
                         rotate_left
                         · rintro w' ⟨s0, s1, s2, s3, s4, s5, s6⟩
                           go_simp
                           with_reducible rfl
                         rotate_left
                         · simp only [Act.put, List.setIfInBounds_toArray, List.set_cons_zero, List.set_cons_succ, i64_w, i32_w]
                           rfl
                         refine pure_ (i := 23) (N := some 52) (v := ?_) (a' := ?_) #[true, true, true, true, true, true, true, true, true, true, true, true, true, true, true, true, true, true, true, true, true, true, true, true, false, false] rfl rfl (any_of HT_.out (by kernel_rfl)) (fun _ _ _ h => h) (Or.inl ⟨by rfl, ?_⟩) ?_ ?_
                         rotate_left
                         · intro w'
                           go_simp
                           with_reducible rfl
                         rotate_left
                         · simp only [Act.put, List.setIfInBounds_toArray, List.set_cons_zero, List.set_cons_succ, i64_w, i32_w]
                           rfl
                         refine pure_ (i := 24) (N := some 53) (v := ?_) (a' := ?_) #[true, true, true, true, true, true, true, true, true, true, true, true, true, true, true, true, true, true, true, true, true, true, true, true, true, false] rfl rfl (any_of HT_.out (by kernel_rfl)) (fun _ _ _ h => h) (Or.inl ⟨by rfl, ?_⟩) ?_ ?_
                         rotate_left
                         · intro w'
                           go_simp
                           with_reducible rfl
                         rotate_left
                         · simp only [Act.put, List.setIfInBounds_toArray, List.set_cons_zero, List.set_cons_succ, i64_w, i32_w]
                           rfl
                         refine pure_ (i := 25) (N := some 54) (v := ?_) (a' := ?_) #[true, true, true, true, true, true, true, true, true, true, true, true, true, true, true, true, true, true, true, true, true, true, true, true, true, true] rfl rfl (any_of HT_.out (by kernel_rfl)) (fun _ _ _ h => h) (Or.inl ⟨by rfl, ?_⟩) ?_ ?_
                         rotate_left
                         · intro w'
                           go_simp
                           with_reducible rfl
                         rotate_left
                         · simp only [Act.put, List.setIfInBounds_toArray, List.set_cons_zero, List.set_cons_succ, i64_w, i32_w]
                           rfl
                         refine done_ (done_of HT_.out (by kernel_rfl)) ?_
                         try go_wp2
                         go_roundg k2
                         case measure => have := HJ1.out; have := HK2.out; omega
                         case rel => exact ⟨(wrap64 (x24_2 + 1)), z4458, H', ⟨by have := HJ1.out; have := HK2.out; omega⟩, ⟨bkZ⟩, ⟨zcb41⟩⟩
                       · rw [if_neg c29] at H
                         have c29b0 : (Op.bytesLess (((rd_T69 l0_1 (ji26)).f0).toList) (((rd_T69 l0_1 x24_2).f0).toList)) = false := by simpa using c29
                         clear c29
                         obtain rfl := Option.some.inj H
                         have p104 : 0 ≤ (x24_2 : Int) := of_decide_eq_true z1200
                         have q104 : x24_2 < (l0_1.length : Int) := of_decide_eq_true z1200
                         obtain ⟨ad104, e104, hx104_0, hx104_1⟩ := at_T69 HR0_1.out x24_2 p104 q104
                         cases e104
                         replace hx104_0 := (HB.out.cell (World.block_lt_of_cell? w _ hx104_0)).trans hx104_0
                         replace hx104_1 := (HB.out.cell (World.block_lt_of_cell? w _ hx104_1)).trans hx104_1
                         replace p104 := eq_true p104
                         replace q104 := eq_true q104
                         try go_wp2_with (first | ((with_reducible refine gate_dst (N := 4) rfl ?_); (try (refine gate_guard (by rfl) ?_; dsimp only)); refine box_event ?hg (N := 4) ?hd (cs := #[.string (⟨#[]⟩ : ByteArray), .string (⟨#[]⟩ : ByteArray)]) (t := 69) ?hr ?_; (case hd => rfl); (case hg => rfl); (case hr => first | (go_simp; done) | (go_simp; rfl)); intro gb105 hg w37 hbox hb; have _ := bB gb101 hb; have _ := aM (below_step hbZ hb); have _ := aM hbox; have _ := szZ hg; have _ := szZ hg; have ⟨_, _⟩ := nbB gb101 hg; clear BK101 HB; rename_i BK101 HB BK105 GW105 GE105 NB101_105 NB105_101; clear hb hbox hg; have hnb38 := NB105_101.out; have hnc38 := NB101_105.out; obtain ⟨hcz39_0, hcz39_1, hfz39_0, hfz39_1⟩ := cellsZ2 BK105.out))
                         have n0_ : Aside0 (((w37.setCell ⟨gb105, 0, none⟩ (.string ((rd_T69 l0_1 x24_2).f0))).setCell ⟨gb105, 1, none⟩ (.string ((rd_T69 l0_1 x24_2).f1))).heap[gb101]? = some (.cells #[.string a0_0, .slice (some ad104) l0_1.length c0_1, .int .i64 a0_2] 25 (0, 0))) := ⟨bkZ⟩
                         have n1_ : Aside0 (((w37.setCell ⟨gb105, 0, none⟩ (.string ((rd_T69 l0_1 x24_2).f0))).setCell ⟨gb105, 1, none⟩ (.string ((rd_T69 l0_1 x24_2).f1))).heap[gb105]? = some (.cells #[.string ((rd_T69 l0_1 x24_2).f0), .string ((rd_T69 l0_1 x24_2).f1)] 69 (0, 0))) := ⟨bkZ⟩
                         have n2_ : Aside0 (Below w.heap.size w ((w37.setCell ⟨gb105, 0, none⟩ (.string ((rd_T69 l0_1 x24_2).f0))).setCell ⟨gb105, 1, none⟩ (.string ((rd_T69 l0_1 x24_2).f1)))) := ⟨zcb41⟩
                         (try clear BK101)
                         (try clear BK105)
                         (try clear HB)
                         generalize ((w37.setCell ⟨gb105, 0, none⟩ (.string ((rd_T69 l0_1 x24_2).f0))).setCell ⟨gb105, 1, none⟩ (.string ((rd_T69 l0_1 x24_2).f1))) = w40 at n0_ n1_ n2_ ⊢
                         have BK101 := n0_
                         have BK105 := n1_
                         have HB := n2_
                         clear n0_ n1_ n2_
                         have _ := aM (blk_drew BK101.out)
                         have _ := aM (blk_drew BK105.out)
                         have _ := aM (below_drew1 HB.out)
                         clear BK101
                         clear BK105
                         clear HB
                         rename_i BK101 BK105 HB
                         have p108 : 0 ≤ ((ji26) : Int) := of_decide_eq_true z1200
                         have q108 : (ji26) < (l0_1.length : Int) := of_decide_eq_true z1200
                         obtain ⟨ad108, e108, hx108_0, hx108_1⟩ := at_T69 HR0_1.out (ji26) p108 q108
                         have hw108_1 := hx108_1
                         have hw108_0 := hx108_0
                         obtain rfl : ad104 = ad108 := (by injection e108)
                         replace hx108_0 := (HB.out.cell (World.block_lt_of_cell? w _ hx108_0)).trans hx108_0
                         replace hx108_1 := (HB.out.cell (World.block_lt_of_cell? w _ hx108_1)).trans hx108_1
                         replace p108 := eq_true p108
                         replace q108 := eq_true q108
                         refine start_ (n := 26) (S := fun w' => w'.cell? ⟨gb105, 0, none⟩ = some (.string ((rd_T69 l0_1 x24_2).f0)) ∧ w'.cell? ⟨gb105, 1, none⟩ = some (.string ((rd_T69 l0_1 x24_2).f1)) ∧ w'.cell? ⟨gb101, 0, none⟩ = some (.string a0_0) ∧ w'.cell? ⟨gb101, 1, none⟩ = some (.slice (some ad104) l0_1.length c0_1) ∧ w'.cell? ⟨gb101, 2, none⟩ = some (.int .i64 a0_2) ∧ w'.cell? (ad104.add (((ji26)).toNat * 2)) = some (.string ((rd_T69 l0_1 (ji26)).f0)) ∧ w'.cell? ⟨(ad104.add (((ji26)).toNat * 2)).block, (ad104.add (((ji26)).toNat * 2)).off + 1, none⟩ = some (.string ((rd_T69 l0_1 (ji26)).f1))) (ds := []) #[false, false, false, false, false, false, false, false, false, false, false, false, false, false, false, false, false, false, false, false, false, false, false, false, false, false] (by kernel_rfl) rfl rfl ⟨(blk_cell BK105.out 0).trans rfl, (blk_cell BK105.out 1).trans rfl, (blk_cell BK101.out 0).trans rfl, (blk_cell BK101.out 1).trans rfl, (blk_cell BK101.out 2).trans rfl, ((HB.out.cell (World.block_lt_of_cell? w _ hw108_0)).trans hw108_0), ((HB.out.cell (World.block_lt_of_cell? w _ hw108_1)).trans hw108_1)⟩ (fun hHeld => ?_); refine with_tabW impl_GoodKey.tab6 impl_GoodKey.bits6 (fun HT_ HW_ => ?_)
                         generalize w40.drew = w41 at BK101 BK105 HB hx108_0 hx108_1 hHeld ⊢
                         refine pure_ (i := 0) (N := some 29) (v := ?_) (a' := ?_) #[true, false, false, false, false, false, false, false, false, false, false, false, false, false, false, false, false, false, false, false, false, false, false, false, false, false] rfl rfl (any_of HT_.out (by kernel_rfl)) (fun _ _ _ h => h) (Or.inl ⟨by rfl, ?_⟩) ?_ ?_
                         rotate_left
                         · intro w'
                           go_simp
                           with_reducible rfl
                         rotate_left
                         · simp only [Act.put, List.setIfInBounds_toArray, List.set_cons_zero, List.set_cons_succ, i64_w, i32_w]
                           rfl
                         refine take_ (i := 1) (N := some 30) (v := ?_) (a' := ?_) #[true, true, false, false, false, false, false, false, false, false, false, false, false, false, false, false, false, false, false, false, false, false, false, false, false, false] rfl rfl (take_ofW HT_.out HW_.out (by kernel_rfl)) (fun _ _ _ h => h) (Or.inl ⟨by rfl, ?_⟩) hHeld ?_ ?_
                         rotate_left
                         · rintro w' ⟨s0, s1, s2, s3, s4, s5, s6⟩
                           go_simp
                           with_reducible rfl
                         rotate_left
                         · simp only [Act.put, List.setIfInBounds_toArray, List.set_cons_zero, List.set_cons_succ, i64_w, i32_w]
                           rfl
                         refine one_ (i := 2) (N := some 31) #[true, true, true, false, false, false, false, false, false, false, false, false, false, false, false, false, false, false, false, false, false, false, false, false, false, false] rfl rfl (one_of HT_.out (by kernel_rfl)) (by decide) (fun K hK => ?_)
                         refine goes_ Tryd.func68 (by kernel_rfl) rfl #[.string ((rd_T69 l0_1 x24_2).f0)] (by rfl) rfl rfl zee81 ?_
                         with_reducible refine (impl_isName.calls ((rd_T69 l0_1 x24_2).f0) true _ A21.out).mono ?_
                         rintro e w42 ⟨rfl, hb⟩
                         refine ⟨_, rfl, ?_⟩
                         have _ := bB gb101 hb
                         have _ := bB gb105 hb
                         have _ := aM (below_step hbZ hb)
                         clear BK101
                         clear BK105
                         clear HB
                         rename_i BK101 BK105 HB
                         (try clear hb)
                         (try clear hb2)
                         (try clear hk)
                         (try clear hi)
                         refine hK.out _ _ ⟨(blk_cell BK105.out 0).trans rfl, (blk_cell BK105.out 1).trans rfl, (blk_cell BK101.out 0).trans rfl, (blk_cell BK101.out 1).trans rfl, (blk_cell BK101.out 2).trans rfl, ((HB.out.cell (World.block_lt_of_cell? w _ hw108_0)).trans hw108_0), ((HB.out.cell (World.block_lt_of_cell? w _ hw108_1)).trans hw108_1)⟩ (fun hHeld => ?_)
                         clear hK K
                         refine norm_ (a' := ?_) ?_ ?_
                         rotate_left
                         · show Act.put _ (some 31) _ = _
                           simp only [Act.put, List.setIfInBounds_toArray, List.set_cons_zero, List.set_cons_succ, i64_w, i32_w]
                           rfl
                         refine pure_ (i := 3) (N := some 32) (v := ?_) (a' := ?_) #[true, true, true, true, false, false, false, false, false, false, false, false, false, false, false, false, false, false, false, false, false, false, false, false, false, false] rfl rfl (any_of HT_.out (by kernel_rfl)) (fun _ _ _ h => h) (Or.inl ⟨by rfl, ?_⟩) ?_ ?_
                         rotate_left
                         · intro w'
                           go_simp
                           with_reducible rfl
                         rotate_left
                         · simp only [Act.put, List.setIfInBounds_toArray, List.set_cons_zero, List.set_cons_succ, i64_w, i32_w]
                           rfl
                         refine pure_ (i := 4) (N := some 33) (v := ?_) (a' := ?_) #[true, true, true, true, true, false, false, false, false, false, false, false, false, false, false, false, false, false, false, false, false, false, false, false, false, false] rfl rfl (any_of HT_.out (by kernel_rfl)) (fun _ _ _ h => h) (Or.inl ⟨by rfl, ?_⟩) ?_ ?_
                         rotate_left
                         · intro w'
                           go_simp
                           with_reducible rfl
                         rotate_left
                         · simp only [Act.put, List.setIfInBounds_toArray, List.set_cons_zero, List.set_cons_succ, i64_w, i32_w]
                           rfl
                         refine pure_ (i := 5) (N := some 34) (v := ?_) (a' := ?_) #[true, true, true, true, true, true, false, false, false, false, false, false, false, false, false, false, false, false, false, false, false, false, false, false, false, false] rfl rfl (any_of HT_.out (by kernel_rfl)) (fun _ _ _ h => h) (Or.inl ⟨by rfl, ?_⟩) ?_ ?_
                         rotate_left
                         · intro w'
                           go_simp
                           with_reducible rfl
                         rotate_left
                         · simp only [Act.put, List.setIfInBounds_toArray, List.set_cons_zero, List.set_cons_succ, i64_w, i32_w]
                           rfl
                         refine take_ (i := 6) (N := some 35) (v := ?_) (a' := ?_) #[true, true, true, true, true, true, true, false, false, false, false, false, false, false, false, false, false, false, false, false, false, false, false, false, false, false] rfl rfl (take_ofW HT_.out HW_.out (by kernel_rfl)) (fun _ _ _ h => h) (Or.inl ⟨by rfl, ?_⟩) hHeld ?_ ?_
                         rotate_left
                         · rintro w' ⟨s0, s1, s2, s3, s4, s5, s6⟩
                           go_simp
                           with_reducible rfl
                         rotate_left
                         · simp only [Act.put, List.setIfInBounds_toArray, List.set_cons_zero, List.set_cons_succ, i64_w, i32_w]
                           rfl
                         refine one_ (i := 7) (N := some 36) #[true, true, true, true, true, true, true, true, false, false, false, false, false, false, false, false, false, false, false, false, false, false, false, false, false, false] rfl rfl (one_of HT_.out (by kernel_rfl)) (by decide) (fun K hK => ?_)
                         refine goes_ Tryd.func68 (by kernel_rfl) rfl #[.string ((rd_T69 l0_1 x24_2).f1)] (by rfl) rfl rfl zee81 ?_
                         with_reducible refine (impl_isName.calls ((rd_T69 l0_1 x24_2).f1) true _ A23.out).mono ?_
                         rintro e w43 ⟨rfl, hb⟩
                         refine ⟨_, rfl, ?_⟩
                         have _ := bB gb101 hb
                         have _ := bB gb105 hb
                         have _ := aM (below_step hbZ hb)
                         clear BK101
                         clear BK105
                         clear HB
                         rename_i BK101 BK105 HB
                         (try clear hb)
                         (try clear hb2)
                         (try clear hk)
                         (try clear hi)
                         refine hK.out _ _ ⟨(blk_cell BK105.out 0).trans rfl, (blk_cell BK105.out 1).trans rfl, (blk_cell BK101.out 0).trans rfl, (blk_cell BK101.out 1).trans rfl, (blk_cell BK101.out 2).trans rfl, ((HB.out.cell (World.block_lt_of_cell? w _ hw108_0)).trans hw108_0), ((HB.out.cell (World.block_lt_of_cell? w _ hw108_1)).trans hw108_1)⟩ (fun hHeld => ?_)
                         clear hK K
                         refine norm_ (a' := ?_) ?_ ?_
                         rotate_left
                         · show Act.put _ (some 36) _ = _
                           simp only [Act.put, List.setIfInBounds_toArray, List.set_cons_zero, List.set_cons_succ, i64_w, i32_w]
                           rfl
                         refine pure_ (i := 8) (N := some 37) (v := ?_) (a' := ?_) #[true, true, true, true, true, true, true, true, true, false, false, false, false, false, false, false, false, false, false, false, false, false, false, false, false, false] rfl rfl (any_of HT_.out (by kernel_rfl)) (fun _ _ _ h => h) (Or.inl ⟨by rfl, ?_⟩) ?_ ?_
                         rotate_left
                         · intro w'
                           go_simp
                           with_reducible rfl
                         rotate_left
                         · simp only [Act.put, List.setIfInBounds_toArray, List.set_cons_zero, List.set_cons_succ, i64_w, i32_w]
                           rfl
                         refine pure_ (i := 9) (N := some 38) (v := ?_) (a' := ?_) #[true, true, true, true, true, true, true, true, true, true, false, false, false, false, false, false, false, false, false, false, false, false, false, false, false, false] rfl rfl (any_of HT_.out (by kernel_rfl)) (fun _ _ _ h => h) (Or.inl ⟨by rfl, ?_⟩) ?_ ?_
                         rotate_left
                         · intro w'
                           go_simp
                           with_reducible rfl
                         rotate_left
                         · simp only [Act.put, List.setIfInBounds_toArray, List.set_cons_zero, List.set_cons_succ, i64_w, i32_w]
                           rfl
                         refine pure_ (i := 10) (N := some 39) (v := ?_) (a' := ?_) #[true, true, true, true, true, true, true, true, true, true, true, false, false, false, false, false, false, false, false, false, false, false, false, false, false, false] rfl rfl (any_of HT_.out (by kernel_rfl)) (fun _ _ _ h => h) (Or.inl ⟨by rfl, ?_⟩) ?_ ?_
                         rotate_left
                         · intro w'
                           go_simp
                           with_reducible rfl
                         rotate_left
                         · simp only [Act.put, List.setIfInBounds_toArray, List.set_cons_zero, List.set_cons_succ, i64_w, i32_w]
                           rfl
                         refine pure_ (i := 11) (N := some 40) (v := ?_) (a' := ?_) #[true, true, true, true, true, true, true, true, true, true, true, true, false, false, false, false, false, false, false, false, false, false, false, false, false, false] rfl rfl (any_of HT_.out (by kernel_rfl)) (fun _ _ _ h => h) (Or.inl ⟨by rfl, ?_⟩) ?_ ?_
                         rotate_left
                         · intro w'
                           go_simp
                           with_reducible rfl
                         rotate_left
                         · simp only [Act.put, List.setIfInBounds_toArray, List.set_cons_zero, List.set_cons_succ, i64_w, i32_w]
                           rfl
                         refine pure_ (i := 12) (N := some 41) (v := ?_) (a' := ?_) #[true, true, true, true, true, true, true, true, true, true, true, true, true, false, false, false, false, false, false, false, false, false, false, false, false, false] rfl rfl (any_of HT_.out (by kernel_rfl)) (fun _ _ _ h => h) (Or.inl ⟨by rfl, ?_⟩) ?_ ?_
                         rotate_left
                         · intro w'
                           go_simp
                           with_reducible rfl
                         rotate_left
                         · simp only [Act.put, List.setIfInBounds_toArray, List.set_cons_zero, List.set_cons_succ, i64_w, i32_w]
                           rfl
                         refine pure_ (i := 13) (N := some 42) (v := ?_) (a' := ?_) #[true, true, true, true, true, true, true, true, true, true, true, true, true, true, false, false, false, false, false, false, false, false, false, false, false, false] rfl rfl (any_of HT_.out (by kernel_rfl)) (fun _ _ _ h => h) (Or.inl ⟨by rfl, ?_⟩) ?_ ?_
                         rotate_left
                         · intro w'
                           go_simp
                           with_reducible rfl
                         rotate_left
                         · simp only [Act.put, List.setIfInBounds_toArray, List.set_cons_zero, List.set_cons_succ, i64_w, i32_w]
                           rfl
                         refine pure_ (i := 14) (N := some 43) (v := ?_) (a' := ?_) #[true, true, true, true, true, true, true, true, true, true, true, true, true, true, true, false, false, false, false, false, false, false, false, false, false, false] rfl rfl (any_of HT_.out (by kernel_rfl)) (fun _ _ _ h => h) (Or.inl ⟨by rfl, ?_⟩) ?_ ?_
                         rotate_left
                         · intro w'
                           go_simp
                           with_reducible rfl
                         rotate_left
                         · simp only [Act.put, List.setIfInBounds_toArray, List.set_cons_zero, List.set_cons_succ, i64_w, i32_w]
                           rfl
                         refine pure_ (i := 16) (N := some 45) (v := ?_) (a' := ?_) #[true, true, true, true, true, true, true, true, true, true, true, true, true, true, true, false, true, false, false, false, false, false, false, false, false, false] rfl rfl (any_of HT_.out (by kernel_rfl)) (fun _ _ _ h => h) (Or.inl ⟨by rfl, ?_⟩) ?_ ?_
                         rotate_left
                         · intro w'
                           go_simp
                           with_reducible rfl
                         rotate_left
                         · simp only [Act.put, List.setIfInBounds_toArray, List.set_cons_zero, List.set_cons_succ, i64_w, i32_w]
                           rfl
                         refine pure_ (i := 17) (N := some 46) (v := ?_) (a' := ?_) #[true, true, true, true, true, true, true, true, true, true, true, true, true, true, true, false, true, true, false, false, false, false, false, false, false, false] rfl rfl (any_of HT_.out (by kernel_rfl)) (fun _ _ _ h => h) (Or.inl ⟨by rfl, ?_⟩) ?_ ?_
                         rotate_left
                         · intro w'
                           go_simp
                           with_reducible rfl
                         rotate_left
                         · simp only [Act.put, List.setIfInBounds_toArray, List.set_cons_zero, List.set_cons_succ, i64_w, i32_w]
                           rfl
                         refine pure_ (i := 21) (N := some 50) (v := ?_) (a' := ?_) #[true, true, true, true, true, true, true, true, true, true, true, true, true, true, true, false, true, true, false, false, false, true, false, false, false, false] rfl rfl (any_of HT_.out (by kernel_rfl)) (fun _ _ _ h => h) (Or.inl ⟨by rfl, ?_⟩) ?_ ?_
                         rotate_left
                         · intro w'
                           go_simp
                           with_reducible rfl
                         rotate_left
                         · simp only [Act.put, List.setIfInBounds_toArray, List.set_cons_zero, List.set_cons_succ, i64_w, i32_w]
                           rfl
                         refine take_ (i := 15) (N := some 44) (v := ?_) (a' := ?_) #[true, true, true, true, true, true, true, true, true, true, true, true, true, true, true, true, true, true, false, false, false, true, false, false, false, false] rfl rfl (take_ofW HT_.out HW_.out (by kernel_rfl)) (fun _ _ _ h => h) (Or.inl ⟨by rfl, ?_⟩) hHeld ?_ ?_
                         rotate_left
                         · rintro w' ⟨s0, s1, s2, s3, s4, s5, s6⟩
                           go_simp
                           with_reducible rfl
                         rotate_left
                         · simp only [Act.put, List.setIfInBounds_toArray, List.set_cons_zero, List.set_cons_succ, i64_w, i32_w]
                           rfl
                         refine pure_ (i := 18) (N := some 47) (v := ?_) (a' := ?_) #[true, true, true, true, true, true, true, true, true, true, true, true, true, true, true, true, true, true, true, false, false, true, false, false, false, false] rfl rfl (any_of HT_.out (by kernel_rfl)) (fun _ _ _ h => h) (Or.inl ⟨by rfl, ?_⟩) ?_ ?_
                         rotate_left
                         · intro w'
                           go_simp
                           with_reducible rfl
                         rotate_left
                         · simp only [Act.put, List.setIfInBounds_toArray, List.set_cons_zero, List.set_cons_succ, i64_w, i32_w]
                           rfl
                         refine pure_ (i := 19) (N := some 48) (v := ?_) (a' := ?_) #[true, true, true, true, true, true, true, true, true, true, true, true, true, true, true, true, true, true, true, true, false, true, false, false, false, false] rfl rfl (any_of HT_.out (by kernel_rfl)) (fun _ _ _ h => h) (Or.inl ⟨by rfl, ?_⟩) ?_ ?_
                         rotate_left
                         · intro w'
                           go_simp
                           with_reducible rfl
                         rotate_left
                         · simp only [Act.put, List.setIfInBounds_toArray, List.set_cons_zero, List.set_cons_succ, i64_w, i32_w]
                           rfl
                         refine take_ (i := 20) (N := some 49) (v := ?_) (a' := ?_) #[true, true, true, true, true, true, true, true, true, true, true, true, true, true, true, true, true, true, true, true, true, true, false, false, false, false] rfl rfl (take_ofW HT_.out HW_.out (by kernel_rfl)) (fun _ _ _ h => h) (Or.inl ⟨by rfl, ?_⟩) hHeld ?_ ?_
                         rotate_left
                         · rintro w' ⟨s0, s1, s2, s3, s4, s5, s6⟩
                           go_simp
                           with_reducible rfl
                         rotate_left
                         · simp only [Act.put, List.setIfInBounds_toArray, List.set_cons_zero, List.set_cons_succ, i64_w, i32_w]
                           rfl
                         refine take_ (i := 22) (N := some 51) (v := ?_) (a' := ?_) #[true, true, true, true, true, true, true, true, true, true, true, true, true, true, true, true, true, true, true, true, true, true, true, false, false, false] rfl rfl (take_ofW HT_.out HW_.out (by kernel_rfl)) (fun _ _ _ h => h) (Or.inl ⟨by rfl, ?_⟩) hHeld ?_ ?_
                         rotate_left
                         · rintro w' ⟨s0, s1, s2, s3, s4, s5, s6⟩
                           go_simp
                           with_reducible rfl
                         rotate_left
                         · simp only [Act.put, List.setIfInBounds_toArray, List.set_cons_zero, List.set_cons_succ, i64_w, i32_w]
                           rfl
                         refine pure_ (i := 23) (N := some 52) (v := ?_) (a' := ?_) #[true, true, true, true, true, true, true, true, true, true, true, true, true, true, true, true, true, true, true, true, true, true, true, true, false, false] rfl rfl (any_of HT_.out (by kernel_rfl)) (fun _ _ _ h => h) (Or.inl ⟨by rfl, ?_⟩) ?_ ?_
                         rotate_left
                         · intro w'
                           go_simp
                           with_reducible rfl
                         rotate_left
                         · simp only [Act.put, List.setIfInBounds_toArray, List.set_cons_zero, List.set_cons_succ, i64_w, i32_w]
                           rfl
                         refine pure_ (i := 24) (N := some 53) (v := ?_) (a' := ?_) #[true, true, true, true, true, true, true, true, true, true, true, true, true, true, true, true, true, true, true, true, true, true, true, true, true, false] rfl rfl (any_of HT_.out (by kernel_rfl)) (fun _ _ _ h => h) (Or.inl ⟨by rfl, ?_⟩) ?_ ?_
                         rotate_left
                         · intro w'
                           go_simp
                           with_reducible rfl
                         rotate_left
                         · simp only [Act.put, List.setIfInBounds_toArray, List.set_cons_zero, List.set_cons_succ, i64_w, i32_w]
                           rfl
                         refine pure_ (i := 25) (N := some 54) (v := ?_) (a' := ?_) #[true, true, true, true, true, true, true, true, true, true, true, true, true, true, true, true, true, true, true, true, true, true, true, true, true, true] rfl rfl (any_of HT_.out (by kernel_rfl)) (fun _ _ _ h => h) (Or.inl ⟨by rfl, ?_⟩) ?_ ?_
                         rotate_left
                         · intro w'
                           go_simp
                           with_reducible rfl
                         rotate_left
                         · simp only [Act.put, List.setIfInBounds_toArray, List.set_cons_zero, List.set_cons_succ, i64_w, i32_w]
                           rfl
                         refine done_ (done_of HT_.out (by kernel_rfl)) ?_
                         try go_wp2
                         go_ret
                         exact ⟨by first | rfl | (simp [errW_none, errW_some] <;> rfl) | (simp only [← hji26]; first | rfl | (simp [errW_none, errW_some] <;> rfl)) | (simp [*, errW_none, errW_some] <;> rfl), zcb41⟩
                     · rw [if_neg c28] at H
                       exact absurd H (by simp)
                   · rw [if_neg c27] at H
                     exact absurd H (by simp)
                 · rw [if_neg c25] at H
                   have c25b0 : decide (0 < x24_2) = false := decide_eq_false c25
                   clear c25
                   have H' := aM H
                   clear H
                   have p104 : 0 ≤ (x24_2 : Int) := of_decide_eq_true z1200
                   have q104 : x24_2 < (l0_1.length : Int) := of_decide_eq_true z1200
                   obtain ⟨ad104, e104, hx104_0, hx104_1⟩ := at_T69 HR0_1.out x24_2 p104 q104
                   cases e104
                   replace hx104_0 := (HB.out.cell (World.block_lt_of_cell? w _ hx104_0)).trans hx104_0
                   replace hx104_1 := (HB.out.cell (World.block_lt_of_cell? w _ hx104_1)).trans hx104_1
                   replace p104 := eq_true p104
                   replace q104 := eq_true q104
                   try go_wp2_with (first | ((with_reducible refine gate_dst (N := 4) rfl ?_); (try (refine gate_guard (by rfl) ?_; dsimp only)); refine box_event ?hg (N := 4) ?hd (cs := #[.string (⟨#[]⟩ : ByteArray), .string (⟨#[]⟩ : ByteArray)]) (t := 69) ?hr ?_; (case hd => rfl); (case hg => rfl); (case hr => first | (go_simp; done) | (go_simp; rfl)); intro gb105 hg w44 hbox hb; have _ := bB gb101 hb; have _ := aM (below_step hbZ hb); have _ := aM hbox; have _ := szZ hg; have _ := szZ hg; have ⟨_, _⟩ := nbB gb101 hg; clear BK101 HB; rename_i BK101 HB BK105 GW105 GE105 NB101_105 NB105_101; clear hb hbox hg; have hnb45 := NB105_101.out; have hnc45 := NB101_105.out; obtain ⟨hcz46_0, hcz46_1, hfz46_0, hfz46_1⟩ := cellsZ2 BK105.out))
                   have n0_ : Aside0 (((w44.setCell ⟨gb105, 0, none⟩ (.string ((rd_T69 l0_1 x24_2).f0))).setCell ⟨gb105, 1, none⟩ (.string ((rd_T69 l0_1 x24_2).f1))).heap[gb101]? = some (.cells #[.string a0_0, .slice (some ad104) l0_1.length c0_1, .int .i64 a0_2] 25 (0, 0))) := ⟨bkZ⟩
                   have n1_ : Aside0 (((w44.setCell ⟨gb105, 0, none⟩ (.string ((rd_T69 l0_1 x24_2).f0))).setCell ⟨gb105, 1, none⟩ (.string ((rd_T69 l0_1 x24_2).f1))).heap[gb105]? = some (.cells #[.string ((rd_T69 l0_1 x24_2).f0), .string ((rd_T69 l0_1 x24_2).f1)] 69 (0, 0))) := ⟨bkZ⟩
                   have n2_ : Aside0 (Below w.heap.size w ((w44.setCell ⟨gb105, 0, none⟩ (.string ((rd_T69 l0_1 x24_2).f0))).setCell ⟨gb105, 1, none⟩ (.string ((rd_T69 l0_1 x24_2).f1)))) := ⟨zcb41⟩
                   (try clear BK101)
                   (try clear BK105)
                   (try clear HB)
                   generalize ((w44.setCell ⟨gb105, 0, none⟩ (.string ((rd_T69 l0_1 x24_2).f0))).setCell ⟨gb105, 1, none⟩ (.string ((rd_T69 l0_1 x24_2).f1))) = w47 at n0_ n1_ n2_ ⊢
                   have BK101 := n0_
                   have BK105 := n1_
                   have HB := n2_
                   clear n0_ n1_ n2_
                   have _ := aM (blk_drew BK101.out)
                   have _ := aM (blk_drew BK105.out)
                   have _ := aM (below_drew1 HB.out)
                   clear BK101
                   clear BK105
                   clear HB
                   rename_i BK101 BK105 HB
                   refine start_ (n := 26) (S := fun w' => w'.cell? ⟨gb105, 0, none⟩ = some (.string ((rd_T69 l0_1 x24_2).f0)) ∧ w'.cell? ⟨gb105, 1, none⟩ = some (.string ((rd_T69 l0_1 x24_2).f1))) (ds := []) #[false, false, false, false, false, false, false, false, false, false, false, false, false, false, false, false, false, false, false, false, false, false, false, false, false, false] (by kernel_rfl) rfl rfl ⟨(blk_cell BK105.out 0).trans rfl, (blk_cell BK105.out 1).trans rfl⟩ (fun hHeld => ?_); refine with_tabW impl_GoodKey.tab6 impl_GoodKey.bits6 (fun HT_ HW_ => ?_)
                   generalize w47.drew = w48 at BK101 BK105 HB hHeld ⊢
                   refine pure_ (i := 0) (N := some 29) (v := ?_) (a' := ?_) #[true, false, false, false, false, false, false, false, false, false, false, false, false, false, false, false, false, false, false, false, false, false, false, false, false, false] rfl rfl (any_of HT_.out (by kernel_rfl)) (fun _ _ _ h => h) (Or.inl ⟨by rfl, ?_⟩) ?_ ?_
                   rotate_left
                   · intro w'
                     go_simp
                     with_reducible rfl
                   rotate_left
                   · simp only [Act.put, List.setIfInBounds_toArray, List.set_cons_zero, List.set_cons_succ, i64_w, i32_w]
                     rfl
                   refine take_ (i := 1) (N := some 30) (v := ?_) (a' := ?_) #[true, true, false, false, false, false, false, false, false, false, false, false, false, false, false, false, false, false, false, false, false, false, false, false, false, false] rfl rfl (take_ofW HT_.out HW_.out (by kernel_rfl)) (fun _ _ _ h => h) (Or.inl ⟨by rfl, ?_⟩) hHeld ?_ ?_
                   rotate_left
                   · rintro w' ⟨s0, s1⟩
                     go_simp
                     with_reducible rfl
                   rotate_left
                   · simp only [Act.put, List.setIfInBounds_toArray, List.set_cons_zero, List.set_cons_succ, i64_w, i32_w]
                     rfl
                   refine one_ (i := 2) (N := some 31) #[true, true, true, false, false, false, false, false, false, false, false, false, false, false, false, false, false, false, false, false, false, false, false, false, false, false] rfl rfl (one_of HT_.out (by kernel_rfl)) (by decide) (fun K hK => ?_)
                   refine goes_ Tryd.func68 (by kernel_rfl) rfl #[.string ((rd_T69 l0_1 x24_2).f0)] (by rfl) rfl rfl zee81 ?_
                   with_reducible refine (impl_isName.calls ((rd_T69 l0_1 x24_2).f0) true _ A21.out).mono ?_
                   rintro e w49 ⟨rfl, hb⟩
                   refine ⟨_, rfl, ?_⟩
                   have _ := bB gb101 hb
                   have _ := bB gb105 hb
                   have _ := aM (below_step hbZ hb)
                   clear BK101
                   clear BK105
                   clear HB
                   rename_i BK101 BK105 HB
                   (try clear hb)
                   (try clear hb2)
                   (try clear hk)
                   (try clear hi)
                   refine hK.out _ _ ⟨(blk_cell BK105.out 0).trans rfl, (blk_cell BK105.out 1).trans rfl⟩ (fun hHeld => ?_)
                   clear hK K
                   refine norm_ (a' := ?_) ?_ ?_
                   rotate_left
                   · show Act.put _ (some 31) _ = _
                     simp only [Act.put, List.setIfInBounds_toArray, List.set_cons_zero, List.set_cons_succ, i64_w, i32_w]
                     rfl
                   refine pure_ (i := 3) (N := some 32) (v := ?_) (a' := ?_) #[true, true, true, true, false, false, false, false, false, false, false, false, false, false, false, false, false, false, false, false, false, false, false, false, false, false] rfl rfl (any_of HT_.out (by kernel_rfl)) (fun _ _ _ h => h) (Or.inl ⟨by rfl, ?_⟩) ?_ ?_
                   rotate_left
                   · intro w'
                     go_simp
                     with_reducible rfl
                   rotate_left
                   · simp only [Act.put, List.setIfInBounds_toArray, List.set_cons_zero, List.set_cons_succ, i64_w, i32_w]
                     rfl
                   refine pure_ (i := 4) (N := some 33) (v := ?_) (a' := ?_) #[true, true, true, true, true, false, false, false, false, false, false, false, false, false, false, false, false, false, false, false, false, false, false, false, false, false] rfl rfl (any_of HT_.out (by kernel_rfl)) (fun _ _ _ h => h) (Or.inl ⟨by rfl, ?_⟩) ?_ ?_
                   rotate_left
                   · intro w'
                     go_simp
                     with_reducible rfl
                   rotate_left
                   · simp only [Act.put, List.setIfInBounds_toArray, List.set_cons_zero, List.set_cons_succ, i64_w, i32_w]
                     rfl
                   refine pure_ (i := 5) (N := some 34) (v := ?_) (a' := ?_) #[true, true, true, true, true, true, false, false, false, false, false, false, false, false, false, false, false, false, false, false, false, false, false, false, false, false] rfl rfl (any_of HT_.out (by kernel_rfl)) (fun _ _ _ h => h) (Or.inl ⟨by rfl, ?_⟩) ?_ ?_
                   rotate_left
                   · intro w'
                     go_simp
                     with_reducible rfl
                   rotate_left
                   · simp only [Act.put, List.setIfInBounds_toArray, List.set_cons_zero, List.set_cons_succ, i64_w, i32_w]
                     rfl
                   refine take_ (i := 6) (N := some 35) (v := ?_) (a' := ?_) #[true, true, true, true, true, true, true, false, false, false, false, false, false, false, false, false, false, false, false, false, false, false, false, false, false, false] rfl rfl (take_ofW HT_.out HW_.out (by kernel_rfl)) (fun _ _ _ h => h) (Or.inl ⟨by rfl, ?_⟩) hHeld ?_ ?_
                   rotate_left
                   · rintro w' ⟨s0, s1⟩
                     go_simp
                     with_reducible rfl
                   rotate_left
                   · simp only [Act.put, List.setIfInBounds_toArray, List.set_cons_zero, List.set_cons_succ, i64_w, i32_w]
                     rfl
                   refine one_ (i := 7) (N := some 36) #[true, true, true, true, true, true, true, true, false, false, false, false, false, false, false, false, false, false, false, false, false, false, false, false, false, false] rfl rfl (one_of HT_.out (by kernel_rfl)) (by decide) (fun K hK => ?_)
                   refine goes_ Tryd.func68 (by kernel_rfl) rfl #[.string ((rd_T69 l0_1 x24_2).f1)] (by rfl) rfl rfl zee81 ?_
                   with_reducible refine (impl_isName.calls ((rd_T69 l0_1 x24_2).f1) true _ A23.out).mono ?_
                   rintro e w50 ⟨rfl, hb⟩
                   refine ⟨_, rfl, ?_⟩
                   have _ := bB gb101 hb
                   have _ := bB gb105 hb
                   have _ := aM (below_step hbZ hb)
                   clear BK101
                   clear BK105
                   clear HB
                   rename_i BK101 BK105 HB
                   (try clear hb)
                   (try clear hb2)
                   (try clear hk)
                   (try clear hi)
                   refine hK.out _ _ ⟨(blk_cell BK105.out 0).trans rfl, (blk_cell BK105.out 1).trans rfl⟩ (fun hHeld => ?_)
                   clear hK K
                   refine norm_ (a' := ?_) ?_ ?_
                   rotate_left
                   · show Act.put _ (some 36) _ = _
                     simp only [Act.put, List.setIfInBounds_toArray, List.set_cons_zero, List.set_cons_succ, i64_w, i32_w]
                     rfl
                   refine pure_ (i := 8) (N := some 37) (v := ?_) (a' := ?_) #[true, true, true, true, true, true, true, true, true, false, false, false, false, false, false, false, false, false, false, false, false, false, false, false, false, false] rfl rfl (any_of HT_.out (by kernel_rfl)) (fun _ _ _ h => h) (Or.inl ⟨by rfl, ?_⟩) ?_ ?_
                   rotate_left
                   · intro w'
                     go_simp
                     with_reducible rfl
                   rotate_left
                   · simp only [Act.put, List.setIfInBounds_toArray, List.set_cons_zero, List.set_cons_succ, i64_w, i32_w]
                     rfl
                   refine pure_ (i := 9) (N := some 38) (v := ?_) (a' := ?_) #[true, true, true, true, true, true, true, true, true, true, false, false, false, false, false, false, false, false, false, false, false, false, false, false, false, false] rfl rfl (any_of HT_.out (by kernel_rfl)) (fun _ _ _ h => h) (Or.inl ⟨by rfl, ?_⟩) ?_ ?_
                   rotate_left
                   · intro w'
                     go_simp
                     with_reducible rfl
                   rotate_left
                   · simp only [Act.put, List.setIfInBounds_toArray, List.set_cons_zero, List.set_cons_succ, i64_w, i32_w]
                     rfl
                   refine pure_ (i := 10) (N := some 39) (v := ?_) (a' := ?_) #[true, true, true, true, true, true, true, true, true, true, true, false, false, false, false, false, false, false, false, false, false, false, false, false, false, false] rfl rfl (any_of HT_.out (by kernel_rfl)) (fun _ _ _ h => h) (Or.inl ⟨by rfl, ?_⟩) ?_ ?_
                   rotate_left
                   · intro w'
                     go_simp
                     with_reducible rfl
                   rotate_left
                   · simp only [Act.put, List.setIfInBounds_toArray, List.set_cons_zero, List.set_cons_succ, i64_w, i32_w]
                     rfl
                   refine pure_ (i := 11) (N := some 40) (v := ?_) (a' := ?_) #[true, true, true, true, true, true, true, true, true, true, true, true, false, false, false, false, false, false, false, false, false, false, false, false, false, false] rfl rfl (any_of HT_.out (by kernel_rfl)) (fun _ _ _ h => h) (Or.inl ⟨by rfl, ?_⟩) ?_ ?_
                   rotate_left
                   · intro w'
                     go_simp
                     with_reducible rfl
                   rotate_left
                   · simp only [Act.put, List.setIfInBounds_toArray, List.set_cons_zero, List.set_cons_succ, i64_w, i32_w]
                     rfl
                   refine pure_ (i := 12) (N := some 41) (v := ?_) (a' := ?_) #[true, true, true, true, true, true, true, true, true, true, true, true, true, false, false, false, false, false, false, false, false, false, false, false, false, false] rfl rfl (any_of HT_.out (by kernel_rfl)) (fun _ _ _ h => h) (Or.inl ⟨by rfl, ?_⟩) ?_ ?_
                   rotate_left
                   · intro w'
                     go_simp
                     with_reducible rfl
                   rotate_left
                   · simp only [Act.put, List.setIfInBounds_toArray, List.set_cons_zero, List.set_cons_succ, i64_w, i32_w]
                     rfl
                   refine pure_ (i := 13) (N := some 42) (v := ?_) (a' := ?_) #[true, true, true, true, true, true, true, true, true, true, true, true, true, true, false, false, false, false, false, false, false, false, false, false, false, false] rfl rfl (any_of HT_.out (by kernel_rfl)) (fun _ _ _ h => h) (Or.inl ⟨by rfl, ?_⟩) ?_ ?_
                   rotate_left
                   · intro w'
                     go_simp
                     with_reducible rfl
                   rotate_left
                   · simp only [Act.put, List.setIfInBounds_toArray, List.set_cons_zero, List.set_cons_succ, i64_w, i32_w]
                     rfl
                   refine pure_ (i := 14) (N := some 43) (v := undef) (a' := ?_) #[true, true, true, true, true, true, true, true, true, true, true, true, true, true, true, false, false, false, false, false, false, false, false, false, false, false] rfl rfl (any_of HT_.out (by kernel_rfl)) (fun _ _ _ h => h) (Or.inr ⟨by rfl, rfl⟩) ?_ ?_
                   rotate_left
                   · simp only [Act.put, List.setIfInBounds_toArray, List.set_cons_zero, List.set_cons_succ, i64_w, i32_w]
                     rfl
                   refine pure_ (i := 15) (N := some 44) (v := undef) (a' := ?_) #[true, true, true, true, true, true, true, true, true, true, true, true, true, true, true, true, false, false, false, false, false, false, false, false, false, false] rfl rfl (any_of HT_.out (by kernel_rfl)) (fun _ _ _ h => h) (Or.inr ⟨by rfl, rfl⟩) ?_ ?_
                   rotate_left
                   · simp only [Act.put, List.setIfInBounds_toArray, List.set_cons_zero, List.set_cons_succ, i64_w, i32_w]
                     rfl
                   refine pure_ (i := 16) (N := some 45) (v := undef) (a' := ?_) #[true, true, true, true, true, true, true, true, true, true, true, true, true, true, true, true, true, false, false, false, false, false, false, false, false, false] rfl rfl (any_of HT_.out (by kernel_rfl)) (fun _ _ _ h => h) (Or.inr ⟨by rfl, rfl⟩) ?_ ?_
                   rotate_left
                   · simp only [Act.put, List.setIfInBounds_toArray, List.set_cons_zero, List.set_cons_succ, i64_w, i32_w]
                     rfl
                   refine pure_ (i := 17) (N := some 46) (v := undef) (a' := ?_) #[true, true, true, true, true, true, true, true, true, true, true, true, true, true, true, true, true, true, false, false, false, false, false, false, false, false] rfl rfl (any_of HT_.out (by kernel_rfl)) (fun _ _ _ h => h) (Or.inr ⟨by rfl, rfl⟩) ?_ ?_
                   rotate_left
                   · simp only [Act.put, List.setIfInBounds_toArray, List.set_cons_zero, List.set_cons_succ, i64_w, i32_w]
                     rfl
                   refine pure_ (i := 18) (N := some 47) (v := undef) (a' := ?_) #[true, true, true, true, true, true, true, true, true, true, true, true, true, true, true, true, true, true, true, false, false, false, false, false, false, false] rfl rfl (any_of HT_.out (by kernel_rfl)) (fun _ _ _ h => h) (Or.inr ⟨by rfl, rfl⟩) ?_ ?_
                   rotate_left
                   · simp only [Act.put, List.setIfInBounds_toArray, List.set_cons_zero, List.set_cons_succ, i64_w, i32_w]
                     rfl
                   refine pure_ (i := 19) (N := some 48) (v := undef) (a' := ?_) #[true, true, true, true, true, true, true, true, true, true, true, true, true, true, true, true, true, true, true, true, false, false, false, false, false, false] rfl rfl (any_of HT_.out (by kernel_rfl)) (fun _ _ _ h => h) (Or.inr ⟨by rfl, rfl⟩) ?_ ?_
                   rotate_left
                   · simp only [Act.put, List.setIfInBounds_toArray, List.set_cons_zero, List.set_cons_succ, i64_w, i32_w]
                     rfl
                   refine pure_ (i := 20) (N := some 49) (v := undef) (a' := ?_) #[true, true, true, true, true, true, true, true, true, true, true, true, true, true, true, true, true, true, true, true, true, false, false, false, false, false] rfl rfl (any_of HT_.out (by kernel_rfl)) (fun _ _ _ h => h) (Or.inr ⟨by rfl, rfl⟩) ?_ ?_
                   rotate_left
                   · simp only [Act.put, List.setIfInBounds_toArray, List.set_cons_zero, List.set_cons_succ, i64_w, i32_w]
                     rfl
                   refine pure_ (i := 21) (N := some 50) (v := undef) (a' := ?_) #[true, true, true, true, true, true, true, true, true, true, true, true, true, true, true, true, true, true, true, true, true, true, false, false, false, false] rfl rfl (any_of HT_.out (by kernel_rfl)) (fun _ _ _ h => h) (Or.inr ⟨by rfl, rfl⟩) ?_ ?_
                   rotate_left
                   · simp only [Act.put, List.setIfInBounds_toArray, List.set_cons_zero, List.set_cons_succ, i64_w, i32_w]
                     rfl
                   refine pure_ (i := 22) (N := some 51) (v := undef) (a' := ?_) #[true, true, true, true, true, true, true, true, true, true, true, true, true, true, true, true, true, true, true, true, true, true, true, false, false, false] rfl rfl (any_of HT_.out (by kernel_rfl)) (fun _ _ _ h => h) (Or.inr ⟨by rfl, rfl⟩) ?_ ?_
                   rotate_left
                   · simp only [Act.put, List.setIfInBounds_toArray, List.set_cons_zero, List.set_cons_succ, i64_w, i32_w]
                     rfl
                   refine pure_ (i := 23) (N := some 52) (v := undef) (a' := ?_) #[true, true, true, true, true, true, true, true, true, true, true, true, true, true, true, true, true, true, true, true, true, true, true, true, false, false] rfl rfl (any_of HT_.out (by kernel_rfl)) (fun _ _ _ h => h) (Or.inr ⟨by rfl, rfl⟩) ?_ ?_
                   rotate_left
                   · simp only [Act.put, List.setIfInBounds_toArray, List.set_cons_zero, List.set_cons_succ, i64_w, i32_w]
                     rfl
                   refine pure_ (i := 24) (N := some 53) (v := ?_) (a' := ?_) #[true, true, true, true, true, true, true, true, true, true, true, true, true, true, true, true, true, true, true, true, true, true, true, true, true, false] rfl rfl (any_of HT_.out (by kernel_rfl)) (fun _ _ _ h => h) (Or.inl ⟨by rfl, ?_⟩) ?_ ?_
                   rotate_left
                   · intro w'
                     go_simp
                     with_reducible rfl
                   rotate_left
                   · simp only [Act.put, List.setIfInBounds_toArray, List.set_cons_zero, List.set_cons_succ, i64_w, i32_w]
                     rfl
                   refine pure_ (i := 25) (N := some 54) (v := ?_) (a' := ?_) #[true, true, true, true, true, true, true, true, true, true, true, true, true, true, true, true, true, true, true, true, true, true, true, true, true, true] rfl rfl (any_of HT_.out (by kernel_rfl)) (fun _ _ _ h => h) (Or.inl ⟨by rfl, ?_⟩) ?_ ?_
                   rotate_left
                   · intro w'
                     go_simp
                     with_reducible rfl
                   rotate_left
                   · simp only [Act.put, List.setIfInBounds_toArray, List.set_cons_zero, List.set_cons_succ, i64_w, i32_w]
                     rfl
                   refine done_ (done_of HT_.out (by kernel_rfl)) ?_
                   try go_wp2
                   go_roundg k2
                   case measure => have := HJ1.out; have := HK2.out; omega
                   case rel => exact ⟨(wrap64 (x24_2 + 1)), z4458, H', ⟨by have := HJ1.out; have := HK2.out; omega⟩, ⟨bkZ⟩, ⟨zcb41⟩⟩
               · replace c24 := Bool.eq_false_iff.mpr c24
                 subst c24
                 have H1 : (some false) = some r := by rw [if_neg (show ¬ (false = true) by decide)] at H; exact H
                 clear H
                 have H := H1
                 clear H1
                 obtain rfl := Option.some.inj H
                 have p104 : 0 ≤ (x24_2 : Int) := of_decide_eq_true z1200
                 have q104 : x24_2 < (l0_1.length : Int) := of_decide_eq_true z1200
                 obtain ⟨ad104, e104, hx104_0, hx104_1⟩ := at_T69 HR0_1.out x24_2 p104 q104
                 cases e104
                 replace hx104_0 := (HB.out.cell (World.block_lt_of_cell? w _ hx104_0)).trans hx104_0
                 replace hx104_1 := (HB.out.cell (World.block_lt_of_cell? w _ hx104_1)).trans hx104_1
                 replace p104 := eq_true p104
                 replace q104 := eq_true q104
                 try go_wp2_with (first | ((with_reducible refine gate_dst (N := 4) rfl ?_); (try (refine gate_guard (by rfl) ?_; dsimp only)); refine box_event ?hg (N := 4) ?hd (cs := #[.string (⟨#[]⟩ : ByteArray), .string (⟨#[]⟩ : ByteArray)]) (t := 69) ?hr ?_; (case hd => rfl); (case hg => rfl); (case hr => first | (go_simp; done) | (go_simp; rfl)); intro gb105 hg w51 hbox hb; have _ := bB gb101 hb; have _ := aM (below_step hbZ hb); have _ := aM hbox; have _ := szZ hg; have _ := szZ hg; have ⟨_, _⟩ := nbB gb101 hg; clear BK101 HB; rename_i BK101 HB BK105 GW105 GE105 NB101_105 NB105_101; clear hb hbox hg; have hnb52 := NB105_101.out; have hnc52 := NB101_105.out; obtain ⟨hcz53_0, hcz53_1, hfz53_0, hfz53_1⟩ := cellsZ2 BK105.out))
                 have n0_ : Aside0 (((w51.setCell ⟨gb105, 0, none⟩ (.string ((rd_T69 l0_1 x24_2).f0))).setCell ⟨gb105, 1, none⟩ (.string ((rd_T69 l0_1 x24_2).f1))).heap[gb101]? = some (.cells #[.string a0_0, .slice (some ad104) l0_1.length c0_1, .int .i64 a0_2] 25 (0, 0))) := ⟨bkZ⟩
                 have n1_ : Aside0 (((w51.setCell ⟨gb105, 0, none⟩ (.string ((rd_T69 l0_1 x24_2).f0))).setCell ⟨gb105, 1, none⟩ (.string ((rd_T69 l0_1 x24_2).f1))).heap[gb105]? = some (.cells #[.string ((rd_T69 l0_1 x24_2).f0), .string ((rd_T69 l0_1 x24_2).f1)] 69 (0, 0))) := ⟨bkZ⟩
                 have n2_ : Aside0 (Below w.heap.size w ((w51.setCell ⟨gb105, 0, none⟩ (.string ((rd_T69 l0_1 x24_2).f0))).setCell ⟨gb105, 1, none⟩ (.string ((rd_T69 l0_1 x24_2).f1)))) := ⟨zcb41⟩
                 (try clear BK101)
                 (try clear BK105)
                 (try clear HB)
                 generalize ((w51.setCell ⟨gb105, 0, none⟩ (.string ((rd_T69 l0_1 x24_2).f0))).setCell ⟨gb105, 1, none⟩ (.string ((rd_T69 l0_1 x24_2).f1))) = w54 at n0_ n1_ n2_ ⊢
                 have BK101 := n0_
                 have BK105 := n1_
                 have HB := n2_
                 clear n0_ n1_ n2_
                 have _ := aM (blk_drew BK101.out)
                 have _ := aM (blk_drew BK105.out)
                 have _ := aM (below_drew1 HB.out)
                 clear BK101
                 clear BK105
                 clear HB
                 rename_i BK101 BK105 HB
                 refine start_ (n := 26) (S := fun w' => w'.cell? ⟨gb105, 0, none⟩ = some (.string ((rd_T69 l0_1 x24_2).f0)) ∧ w'.cell? ⟨gb105, 1, none⟩ = some (.string ((rd_T69 l0_1 x24_2).f1))) (ds := []) #[false, false, false, false, false, false, false, false, false, false, false, false, false, false, false, false, false, false, false, false, false, false, false, false, false, false] (by kernel_rfl) rfl rfl ⟨(blk_cell BK105.out 0).trans rfl, (blk_cell BK105.out 1).trans rfl⟩ (fun hHeld => ?_); refine with_tabW impl_GoodKey.tab6 impl_GoodKey.bits6 (fun HT_ HW_ => ?_)
                 generalize w54.drew = w55 at BK101 BK105 HB hHeld ⊢
                 refine pure_ (i := 0) (N := some 29) (v := ?_) (a' := ?_) #[true, false, false, false, false, false, false, false, false, false, false, false, false, false, false, false, false, false, false, false, false, false, false, false, false, false] rfl rfl (any_of HT_.out (by kernel_rfl)) (fun _ _ _ h => h) (Or.inl ⟨by rfl, ?_⟩) ?_ ?_
                 rotate_left
                 · intro w'
                   go_simp
                   with_reducible rfl
                 rotate_left
                 · simp only [Act.put, List.setIfInBounds_toArray, List.set_cons_zero, List.set_cons_succ, i64_w, i32_w]
                   rfl
                 refine take_ (i := 1) (N := some 30) (v := ?_) (a' := ?_) #[true, true, false, false, false, false, false, false, false, false, false, false, false, false, false, false, false, false, false, false, false, false, false, false, false, false] rfl rfl (take_ofW HT_.out HW_.out (by kernel_rfl)) (fun _ _ _ h => h) (Or.inl ⟨by rfl, ?_⟩) hHeld ?_ ?_
                 rotate_left
                 · rintro w' ⟨s0, s1⟩
                   go_simp
                   with_reducible rfl
                 rotate_left
                 · simp only [Act.put, List.setIfInBounds_toArray, List.set_cons_zero, List.set_cons_succ, i64_w, i32_w]
                   rfl
                 refine one_ (i := 2) (N := some 31) #[true, true, true, false, false, false, false, false, false, false, false, false, false, false, false, false, false, false, false, false, false, false, false, false, false, false] rfl rfl (one_of HT_.out (by kernel_rfl)) (by decide) (fun K hK => ?_)
                 refine goes_ Tryd.func68 (by kernel_rfl) rfl #[.string ((rd_T69 l0_1 x24_2).f0)] (by rfl) rfl rfl zee81 ?_
                 with_reducible refine (impl_isName.calls ((rd_T69 l0_1 x24_2).f0) true _ A21.out).mono ?_
                 rintro e w56 ⟨rfl, hb⟩
                 refine ⟨_, rfl, ?_⟩
                 have _ := bB gb101 hb
                 have _ := bB gb105 hb
                 have _ := aM (below_step hbZ hb)
                 clear BK101
                 clear BK105
                 clear HB
                 rename_i BK101 BK105 HB
                 (try clear hb)
                 (try clear hb2)
                 (try clear hk)
                 (try clear hi)
                 refine hK.out _ _ ⟨(blk_cell BK105.out 0).trans rfl, (blk_cell BK105.out 1).trans rfl⟩ (fun hHeld => ?_)
                 clear hK K
                 refine norm_ (a' := ?_) ?_ ?_
                 rotate_left
                 · show Act.put _ (some 31) _ = _
                   simp only [Act.put, List.setIfInBounds_toArray, List.set_cons_zero, List.set_cons_succ, i64_w, i32_w]
                   rfl
                 refine pure_ (i := 3) (N := some 32) (v := ?_) (a' := ?_) #[true, true, true, true, false, false, false, false, false, false, false, false, false, false, false, false, false, false, false, false, false, false, false, false, false, false] rfl rfl (any_of HT_.out (by kernel_rfl)) (fun _ _ _ h => h) (Or.inl ⟨by rfl, ?_⟩) ?_ ?_
                 rotate_left
                 · intro w'
                   go_simp
                   with_reducible rfl
                 rotate_left
                 · simp only [Act.put, List.setIfInBounds_toArray, List.set_cons_zero, List.set_cons_succ, i64_w, i32_w]
                   rfl
                 refine pure_ (i := 4) (N := some 33) (v := ?_) (a' := ?_) #[true, true, true, true, true, false, false, false, false, false, false, false, false, false, false, false, false, false, false, false, false, false, false, false, false, false] rfl rfl (any_of HT_.out (by kernel_rfl)) (fun _ _ _ h => h) (Or.inl ⟨by rfl, ?_⟩) ?_ ?_
                 rotate_left
                 · intro w'
                   go_simp
                   with_reducible rfl
                 rotate_left
                 · simp only [Act.put, List.setIfInBounds_toArray, List.set_cons_zero, List.set_cons_succ, i64_w, i32_w]
                   rfl
                 refine pure_ (i := 5) (N := some 34) (v := ?_) (a' := ?_) #[true, true, true, true, true, true, false, false, false, false, false, false, false, false, false, false, false, false, false, false, false, false, false, false, false, false] rfl rfl (any_of HT_.out (by kernel_rfl)) (fun _ _ _ h => h) (Or.inl ⟨by rfl, ?_⟩) ?_ ?_
                 rotate_left
                 · intro w'
                   go_simp
                   with_reducible rfl
                 rotate_left
                 · simp only [Act.put, List.setIfInBounds_toArray, List.set_cons_zero, List.set_cons_succ, i64_w, i32_w]
                   rfl
                 refine take_ (i := 6) (N := some 35) (v := ?_) (a' := ?_) #[true, true, true, true, true, true, true, false, false, false, false, false, false, false, false, false, false, false, false, false, false, false, false, false, false, false] rfl rfl (take_ofW HT_.out HW_.out (by kernel_rfl)) (fun _ _ _ h => h) (Or.inl ⟨by rfl, ?_⟩) hHeld ?_ ?_
                 rotate_left
                 · rintro w' ⟨s0, s1⟩
                   go_simp
                   with_reducible rfl
                 rotate_left
                 · simp only [Act.put, List.setIfInBounds_toArray, List.set_cons_zero, List.set_cons_succ, i64_w, i32_w]
                   rfl
                 refine one_ (i := 7) (N := some 36) #[true, true, true, true, true, true, true, true, false, false, false, false, false, false, false, false, false, false, false, false, false, false, false, false, false, false] rfl rfl (one_of HT_.out (by kernel_rfl)) (by decide) (fun K hK => ?_)
                 refine goes_ Tryd.func68 (by kernel_rfl) rfl #[.string ((rd_T69 l0_1 x24_2).f1)] (by rfl) rfl rfl zee81 ?_
                 with_reducible refine (impl_isName.calls ((rd_T69 l0_1 x24_2).f1) false _ A23.out).mono ?_
                 rintro e w57 ⟨rfl, hb⟩
                 refine ⟨_, rfl, ?_⟩
                 have _ := bB gb101 hb
                 have _ := bB gb105 hb
                 have _ := aM (below_step hbZ hb)
                 clear BK101
                 clear BK105
                 clear HB
                 rename_i BK101 BK105 HB
                 (try clear hb)
                 (try clear hb2)
                 (try clear hk)
                 (try clear hi)
                 refine hK.out _ _ ⟨(blk_cell BK105.out 0).trans rfl, (blk_cell BK105.out 1).trans rfl⟩ (fun hHeld => ?_)
                 clear hK K
                 refine norm_ (a' := ?_) ?_ ?_
                 rotate_left
                 · show Act.put _ (some 36) _ = _
                   simp only [Act.put, List.setIfInBounds_toArray, List.set_cons_zero, List.set_cons_succ, i64_w, i32_w]
                   rfl
                 refine pure_ (i := 8) (N := some 37) (v := ?_) (a' := ?_) #[true, true, true, true, true, true, true, true, true, false, false, false, false, false, false, false, false, false, false, false, false, false, false, false, false, false] rfl rfl (any_of HT_.out (by kernel_rfl)) (fun _ _ _ h => h) (Or.inl ⟨by rfl, ?_⟩) ?_ ?_
                 rotate_left
                 · intro w'
                   go_simp
                   with_reducible rfl
                 rotate_left
                 · simp only [Act.put, List.setIfInBounds_toArray, List.set_cons_zero, List.set_cons_succ, i64_w, i32_w]
                   rfl
                 refine pure_ (i := 9) (N := some 38) (v := ?_) (a' := ?_) #[true, true, true, true, true, true, true, true, true, true, false, false, false, false, false, false, false, false, false, false, false, false, false, false, false, false] rfl rfl (any_of HT_.out (by kernel_rfl)) (fun _ _ _ h => h) (Or.inl ⟨by rfl, ?_⟩) ?_ ?_
                 rotate_left
                 · intro w'
                   go_simp
                   with_reducible rfl
                 rotate_left
                 · simp only [Act.put, List.setIfInBounds_toArray, List.set_cons_zero, List.set_cons_succ, i64_w, i32_w]
                   rfl
                 refine pure_ (i := 10) (N := some 39) (v := ?_) (a' := ?_) #[true, true, true, true, true, true, true, true, true, true, true, false, false, false, false, false, false, false, false, false, false, false, false, false, false, false] rfl rfl (any_of HT_.out (by kernel_rfl)) (fun _ _ _ h => h) (Or.inl ⟨by rfl, ?_⟩) ?_ ?_
                 rotate_left
                 · intro w'
                   go_simp
                   with_reducible rfl
                 rotate_left
                 · simp only [Act.put, List.setIfInBounds_toArray, List.set_cons_zero, List.set_cons_succ, i64_w, i32_w]
                   rfl
                 refine pure_ (i := 11) (N := some 40) (v := undef) (a' := ?_) #[true, true, true, true, true, true, true, true, true, true, true, true, false, false, false, false, false, false, false, false, false, false, false, false, false, false] rfl rfl (any_of HT_.out (by kernel_rfl)) (fun _ _ _ h => h) (Or.inr ⟨by rfl, rfl⟩) ?_ ?_
                 rotate_left
                 · simp only [Act.put, List.setIfInBounds_toArray, List.set_cons_zero, List.set_cons_succ, i64_w, i32_w]
                   rfl
                 refine pure_ (i := 12) (N := some 41) (v := undef) (a' := ?_) #[true, true, true, true, true, true, true, true, true, true, true, true, true, false, false, false, false, false, false, false, false, false, false, false, false, false] rfl rfl (any_of HT_.out (by kernel_rfl)) (fun _ _ _ h => h) (Or.inr ⟨by rfl, rfl⟩) ?_ ?_
                 rotate_left
                 · simp only [Act.put, List.setIfInBounds_toArray, List.set_cons_zero, List.set_cons_succ, i64_w, i32_w]
                   rfl
                 refine pure_ (i := 13) (N := some 42) (v := undef) (a' := ?_) #[true, true, true, true, true, true, true, true, true, true, true, true, true, true, false, false, false, false, false, false, false, false, false, false, false, false] rfl rfl (any_of HT_.out (by kernel_rfl)) (fun _ _ _ h => h) (Or.inr ⟨by rfl, rfl⟩) ?_ ?_
                 rotate_left
                 · simp only [Act.put, List.setIfInBounds_toArray, List.set_cons_zero, List.set_cons_succ, i64_w, i32_w]
                   rfl
                 refine pure_ (i := 14) (N := some 43) (v := undef) (a' := ?_) #[true, true, true, true, true, true, true, true, true, true, true, true, true, true, true, false, false, false, false, false, false, false, false, false, false, false] rfl rfl (any_of HT_.out (by kernel_rfl)) (fun _ _ _ h => h) (Or.inr ⟨by rfl, rfl⟩) ?_ ?_
                 rotate_left
                 · simp only [Act.put, List.setIfInBounds_toArray, List.set_cons_zero, List.set_cons_succ, i64_w, i32_w]
                   rfl
                 refine pure_ (i := 15) (N := some 44) (v := undef) (a' := ?_) #[true, true, true, true, true, true, true, true, true, true, true, true, true, true, true, true, false, false, false, false, false, false, false, false, false, false] rfl rfl (any_of HT_.out (by kernel_rfl)) (fun _ _ _ h => h) (Or.inr ⟨by rfl, rfl⟩) ?_ ?_
                 rotate_left
                 · simp only [Act.put, List.setIfInBounds_toArray, List.set_cons_zero, List.set_cons_succ, i64_w, i32_w]
                   rfl
                 refine pure_ (i := 16) (N := some 45) (v := undef) (a' := ?_) #[true, true, true, true, true, true, true, true, true, true, true, true, true, true, true, true, true, false, false, false, false, false, false, false, false, false] rfl rfl (any_of HT_.out (by kernel_rfl)) (fun _ _ _ h => h) (Or.inr ⟨by rfl, rfl⟩) ?_ ?_
                 rotate_left
                 · simp only [Act.put, List.setIfInBounds_toArray, List.set_cons_zero, List.set_cons_succ, i64_w, i32_w]
                   rfl
                 refine pure_ (i := 17) (N := some 46) (v := undef) (a' := ?_) #[true, true, true, true, true, true, true, true, true, true, true, true, true, true, true, true, true, true, false, false, false, false, false, false, false, false] rfl rfl (any_of HT_.out (by kernel_rfl)) (fun _ _ _ h => h) (Or.inr ⟨by rfl, rfl⟩) ?_ ?_
                 rotate_left
                 · simp only [Act.put, List.setIfInBounds_toArray, List.set_cons_zero, List.set_cons_succ, i64_w, i32_w]
                   rfl
                 refine pure_ (i := 18) (N := some 47) (v := undef) (a' := ?_) #[true, true, true, true, true, true, true, true, true, true, true, true, true, true, true, true, true, true, true, false, false, false, false, false, false, false] rfl rfl (any_of HT_.out (by kernel_rfl)) (fun _ _ _ h => h) (Or.inr ⟨by rfl, rfl⟩) ?_ ?_
                 rotate_left
                 · simp only [Act.put, List.setIfInBounds_toArray, List.set_cons_zero, List.set_cons_succ, i64_w, i32_w]
                   rfl
                 refine pure_ (i := 19) (N := some 48) (v := undef) (a' := ?_) #[true, true, true, true, true, true, true, true, true, true, true, true, true, true, true, true, true, true, true, true, false, false, false, false, false, false] rfl rfl (any_of HT_.out (by kernel_rfl)) (fun _ _ _ h => h) (Or.inr ⟨by rfl, rfl⟩) ?_ ?_
                 rotate_left
                 · simp only [Act.put, List.setIfInBounds_toArray, List.set_cons_zero, List.set_cons_succ, i64_w, i32_w]
                   rfl
                 refine pure_ (i := 20) (N := some 49) (v := undef) (a' := ?_) #[true, true, true, true, true, true, true, true, true, true, true, true, true, true, true, true, true, true, true, true, true, false, false, false, false, false] rfl rfl (any_of HT_.out (by kernel_rfl)) (fun _ _ _ h => h) (Or.inr ⟨by rfl, rfl⟩) ?_ ?_
                 rotate_left
                 · simp only [Act.put, List.setIfInBounds_toArray, List.set_cons_zero, List.set_cons_succ, i64_w, i32_w]
                   rfl
                 refine pure_ (i := 21) (N := some 50) (v := undef) (a' := ?_) #[true, true, true, true, true, true, true, true, true, true, true, true, true, true, true, true, true, true, true, true, true, true, false, false, false, false] rfl rfl (any_of HT_.out (by kernel_rfl)) (fun _ _ _ h => h) (Or.inr ⟨by rfl, rfl⟩) ?_ ?_
                 rotate_left
                 · simp only [Act.put, List.setIfInBounds_toArray, List.set_cons_zero, List.set_cons_succ, i64_w, i32_w]
                   rfl
                 refine pure_ (i := 22) (N := some 51) (v := undef) (a' := ?_) #[true, true, true, true, true, true, true, true, true, true, true, true, true, true, true, true, true, true, true, true, true, true, true, false, false, false] rfl rfl (any_of HT_.out (by kernel_rfl)) (fun _ _ _ h => h) (Or.inr ⟨by rfl, rfl⟩) ?_ ?_
                 rotate_left
                 · simp only [Act.put, List.setIfInBounds_toArray, List.set_cons_zero, List.set_cons_succ, i64_w, i32_w]
                   rfl
                 refine pure_ (i := 23) (N := some 52) (v := undef) (a' := ?_) #[true, true, true, true, true, true, true, true, true, true, true, true, true, true, true, true, true, true, true, true, true, true, true, true, false, false] rfl rfl (any_of HT_.out (by kernel_rfl)) (fun _ _ _ h => h) (Or.inr ⟨by rfl, rfl⟩) ?_ ?_
                 rotate_left
                 · simp only [Act.put, List.setIfInBounds_toArray, List.set_cons_zero, List.set_cons_succ, i64_w, i32_w]
                   rfl
                 refine pure_ (i := 24) (N := some 53) (v := undef) (a' := ?_) #[true, true, true, true, true, true, true, true, true, true, true, true, true, true, true, true, true, true, true, true, true, true, true, true, true, false] rfl rfl (any_of HT_.out (by kernel_rfl)) (fun _ _ _ h => h) (Or.inr ⟨by rfl, rfl⟩) ?_ ?_
                 rotate_left
                 · simp only [Act.put, List.setIfInBounds_toArray, List.set_cons_zero, List.set_cons_succ, i64_w, i32_w]
                   rfl
                 refine pure_ (i := 25) (N := some 54) (v := ?_) (a' := ?_) #[true, true, true, true, true, true, true, true, true, true, true, true, true, true, true, true, true, true, true, true, true, true, true, true, true, true] rfl rfl (any_of HT_.out (by kernel_rfl)) (fun _ _ _ h => h) (Or.inl ⟨by rfl, ?_⟩) ?_ ?_
                 rotate_left
                 · intro w'
                   go_simp
                   with_reducible rfl
                 rotate_left
                 · simp only [Act.put, List.setIfInBounds_toArray, List.set_cons_zero, List.set_cons_succ, i64_w, i32_w]
                   rfl
                 refine done_ (done_of HT_.out (by kernel_rfl)) ?_
                 try go_wp2
                 go_ret
                 exact ⟨z674d, zcb41⟩
             · replace c22 := Bool.eq_false_iff.mpr c22
               subst c22
               have H1 : (some false) = some r := by rw [if_neg (show ¬ (false = true) by decide)] at H; exact H
               clear H
               have H := H1
               clear H1
               obtain rfl := Option.some.inj H
               have p104 : 0 ≤ (x24_2 : Int) := of_decide_eq_true z1200
               have q104 : x24_2 < (l0_1.length : Int) := of_decide_eq_true z1200
               obtain ⟨ad104, e104, hx104_0, hx104_1⟩ := at_T69 HR0_1.out x24_2 p104 q104
               cases e104
               replace hx104_0 := (HB.out.cell (World.block_lt_of_cell? w _ hx104_0)).trans hx104_0
               replace hx104_1 := (HB.out.cell (World.block_lt_of_cell? w _ hx104_1)).trans hx104_1
               replace p104 := eq_true p104
               replace q104 := eq_true q104
               try go_wp2_with (first | ((with_reducible refine gate_dst (N := 4) rfl ?_); (try (refine gate_guard (by rfl) ?_; dsimp only)); refine box_event ?hg (N := 4) ?hd (cs := #[.string (⟨#[]⟩ : ByteArray), .string (⟨#[]⟩ : ByteArray)]) (t := 69) ?hr ?_; (case hd => rfl); (case hg => rfl); (case hr => first | (go_simp; done) | (go_simp; rfl)); intro gb105 hg w58 hbox hb; have _ := bB gb101 hb; have _ := aM (below_step hbZ hb); have _ := aM hbox; have _ := szZ hg; have _ := szZ hg; have ⟨_, _⟩ := nbB gb101 hg; clear BK101 HB; rename_i BK101 HB BK105 GW105 GE105 NB101_105 NB105_101; clear hb hbox hg; have hnb59 := NB105_101.out; have hnc59 := NB101_105.out; obtain ⟨hcz60_0, hcz60_1, hfz60_0, hfz60_1⟩ := cellsZ2 BK105.out))
               have n0_ : Aside0 (((w58.setCell ⟨gb105, 0, none⟩ (.string ((rd_T69 l0_1 x24_2).f0))).setCell ⟨gb105, 1, none⟩ (.string ((rd_T69 l0_1 x24_2).f1))).heap[gb101]? = some (.cells #[.string a0_0, .slice (some ad104) l0_1.length c0_1, .int .i64 a0_2] 25 (0, 0))) := ⟨bkZ⟩
               have n1_ : Aside0 (((w58.setCell ⟨gb105, 0, none⟩ (.string ((rd_T69 l0_1 x24_2).f0))).setCell ⟨gb105, 1, none⟩ (.string ((rd_T69 l0_1 x24_2).f1))).heap[gb105]? = some (.cells #[.string ((rd_T69 l0_1 x24_2).f0), .string ((rd_T69 l0_1 x24_2).f1)] 69 (0, 0))) := ⟨bkZ⟩
               have n2_ : Aside0 (Below w.heap.size w ((w58.setCell ⟨gb105, 0, none⟩ (.string ((rd_T69 l0_1 x24_2).f0))).setCell ⟨gb105, 1, none⟩ (.string ((rd_T69 l0_1 x24_2).f1)))) := ⟨zcb41⟩
               (try clear BK101)
               (try clear BK105)
               (try clear HB)
               generalize ((w58.setCell ⟨gb105, 0, none⟩ (.string ((rd_T69 l0_1 x24_2).f0))).setCell ⟨gb105, 1, none⟩ (.string ((rd_T69 l0_1 x24_2).f1))) = w61 at n0_ n1_ n2_ ⊢
               have BK101 := n0_
               have BK105 := n1_
               have HB := n2_
               clear n0_ n1_ n2_
               have _ := aM (blk_drew BK101.out)
               have _ := aM (blk_drew BK105.out)
               have _ := aM (below_drew1 HB.out)
               clear BK101
               clear BK105
               clear HB
               rename_i BK101 BK105 HB
               refine start_ (n := 26) (S := fun w' => w'.cell? ⟨gb105, 0, none⟩ = some (.string ((rd_T69 l0_1 x24_2).f0)) ∧ w'.cell? ⟨gb105, 1, none⟩ = some (.string ((rd_T69 l0_1 x24_2).f1))) (ds := []) #[false, false, false, false, false, false, false, false, false, false, false, false, false, false, false, false, false, false, false, false, false, false, false, false, false, false] (by kernel_rfl) rfl rfl ⟨(blk_cell BK105.out 0).trans rfl, (blk_cell BK105.out 1).trans rfl⟩ (fun hHeld => ?_); refine with_tabW impl_GoodKey.tab6 impl_GoodKey.bits6 (fun HT_ HW_ => ?_)
               generalize w61.drew = w62 at BK101 BK105 HB hHeld ⊢
               refine pure_ (i := 0) (N := some 29) (v := ?_) (a' := ?_) #[true, false, false, false, false, false, false, false, false, false, false, false, false, false, false, false, false, false, false, false, false, false, false, false, false, false] rfl rfl (any_of HT_.out (by kernel_rfl)) (fun _ _ _ h => h) (Or.inl ⟨by rfl, ?_⟩) ?_ ?_
               rotate_left
               · intro w'
                 go_simp
                 with_reducible rfl
               rotate_left
               · simp only [Act.put, List.setIfInBounds_toArray, List.set_cons_zero, List.set_cons_succ, i64_w, i32_w]
                 rfl
               refine take_ (i := 1) (N := some 30) (v := ?_) (a' := ?_) #[true, true, false, false, false, false, false, false, false, false, false, false, false, false, false, false, false, false, false, false, false, false, false, false, false, false] rfl rfl (take_ofW HT_.out HW_.out (by kernel_rfl)) (fun _ _ _ h => h) (Or.inl ⟨by rfl, ?_⟩) hHeld ?_ ?_
               rotate_left
               · rintro w' ⟨s0, s1⟩
                 go_simp
                 with_reducible rfl
               rotate_left
               · simp only [Act.put, List.setIfInBounds_toArray, List.set_cons_zero, List.set_cons_succ, i64_w, i32_w]
                 rfl
               refine one_ (i := 2) (N := some 31) #[true, true, true, false, false, false, false, false, false, false, false, false, false, false, false, false, false, false, false, false, false, false, false, false, false, false] rfl rfl (one_of HT_.out (by kernel_rfl)) (by decide) (fun K hK => ?_)
               refine goes_ Tryd.func68 (by kernel_rfl) rfl #[.string ((rd_T69 l0_1 x24_2).f0)] (by rfl) rfl rfl zee81 ?_
               with_reducible refine (impl_isName.calls ((rd_T69 l0_1 x24_2).f0) false _ A21.out).mono ?_
               rintro e w63 ⟨rfl, hb⟩
               refine ⟨_, rfl, ?_⟩
               have _ := bB gb101 hb
               have _ := bB gb105 hb
               have _ := aM (below_step hbZ hb)
               clear BK101
               clear BK105
               clear HB
               rename_i BK101 BK105 HB
               (try clear hb)
               (try clear hb2)
               (try clear hk)
               (try clear hi)
               refine hK.out _ _ ⟨(blk_cell BK105.out 0).trans rfl, (blk_cell BK105.out 1).trans rfl⟩ (fun hHeld => ?_)
               clear hK K
               refine norm_ (a' := ?_) ?_ ?_
               rotate_left
               · show Act.put _ (some 31) _ = _
                 simp only [Act.put, List.setIfInBounds_toArray, List.set_cons_zero, List.set_cons_succ, i64_w, i32_w]
                 rfl
               refine pure_ (i := 3) (N := some 32) (v := ?_) (a' := ?_) #[true, true, true, true, false, false, false, false, false, false, false, false, false, false, false, false, false, false, false, false, false, false, false, false, false, false] rfl rfl (any_of HT_.out (by kernel_rfl)) (fun _ _ _ h => h) (Or.inl ⟨by rfl, ?_⟩) ?_ ?_
               rotate_left
               · intro w'
                 go_simp
                 with_reducible rfl
               rotate_left
               · simp only [Act.put, List.setIfInBounds_toArray, List.set_cons_zero, List.set_cons_succ, i64_w, i32_w]
                 rfl
               refine pure_ (i := 4) (N := some 33) (v := ?_) (a' := ?_) #[true, true, true, true, true, false, false, false, false, false, false, false, false, false, false, false, false, false, false, false, false, false, false, false, false, false] rfl rfl (any_of HT_.out (by kernel_rfl)) (fun _ _ _ h => h) (Or.inl ⟨by rfl, ?_⟩) ?_ ?_
               rotate_left
               · intro w'
                 go_simp
                 with_reducible rfl
               rotate_left
               · simp only [Act.put, List.setIfInBounds_toArray, List.set_cons_zero, List.set_cons_succ, i64_w, i32_w]
                 rfl
               refine pure_ (i := 5) (N := some 34) (v := undef) (a' := ?_) #[true, true, true, true, true, true, false, false, false, false, false, false, false, false, false, false, false, false, false, false, false, false, false, false, false, false] rfl rfl (any_of HT_.out (by kernel_rfl)) (fun _ _ _ h => h) (Or.inr ⟨by rfl, rfl⟩) ?_ ?_
               rotate_left
               · simp only [Act.put, List.setIfInBounds_toArray, List.set_cons_zero, List.set_cons_succ, i64_w, i32_w]
                 rfl
               refine pure_ (i := 6) (N := some 35) (v := undef) (a' := ?_) #[true, true, true, true, true, true, true, false, false, false, false, false, false, false, false, false, false, false, false, false, false, false, false, false, false, false] rfl rfl (any_of HT_.out (by kernel_rfl)) (fun _ _ _ h => h) (Or.inr ⟨by rfl, rfl⟩) ?_ ?_
               rotate_left
               · simp only [Act.put, List.setIfInBounds_toArray, List.set_cons_zero, List.set_cons_succ, i64_w, i32_w]
                 rfl
               refine pure_ (i := 7) (N := some 36) (v := undef) (a' := ?_) #[true, true, true, true, true, true, true, true, false, false, false, false, false, false, false, false, false, false, false, false, false, false, false, false, false, false] rfl rfl (any_of HT_.out (by kernel_rfl)) (fun _ _ _ h => h) (Or.inr ⟨by rfl, rfl⟩) ?_ ?_
               rotate_left
               · simp only [Act.put, List.setIfInBounds_toArray, List.set_cons_zero, List.set_cons_succ, i64_w, i32_w]
                 rfl
               refine pure_ (i := 8) (N := some 37) (v := undef) (a' := ?_) #[true, true, true, true, true, true, true, true, true, false, false, false, false, false, false, false, false, false, false, false, false, false, false, false, false, false] rfl rfl (any_of HT_.out (by kernel_rfl)) (fun _ _ _ h => h) (Or.inr ⟨by rfl, rfl⟩) ?_ ?_
               rotate_left
               · simp only [Act.put, List.setIfInBounds_toArray, List.set_cons_zero, List.set_cons_succ, i64_w, i32_w]
                 rfl
               refine pure_ (i := 9) (N := some 38) (v := ?_) (a' := ?_) #[true, true, true, true, true, true, true, true, true, true, false, false, false, false, false, false, false, false, false, false, false, false, false, false, false, false] rfl rfl (any_of HT_.out (by kernel_rfl)) (fun _ _ _ h => h) (Or.inl ⟨by rfl, ?_⟩) ?_ ?_
               rotate_left
               · intro w'
                 go_simp
                 with_reducible rfl
               rotate_left
               · simp only [Act.put, List.setIfInBounds_toArray, List.set_cons_zero, List.set_cons_succ, i64_w, i32_w]
                 rfl
               refine pure_ (i := 10) (N := some 39) (v := ?_) (a' := ?_) #[true, true, true, true, true, true, true, true, true, true, true, false, false, false, false, false, false, false, false, false, false, false, false, false, false, false] rfl rfl (any_of HT_.out (by kernel_rfl)) (fun _ _ _ h => h) (Or.inl ⟨by rfl, ?_⟩) ?_ ?_
               rotate_left
               · intro w'
                 go_simp
                 with_reducible rfl
               rotate_left
               · simp only [Act.put, List.setIfInBounds_toArray, List.set_cons_zero, List.set_cons_succ, i64_w, i32_w]
                 rfl
               refine pure_ (i := 11) (N := some 40) (v := undef) (a' := ?_) #[true, true, true, true, true, true, true, true, true, true, true, true, false, false, false, false, false, false, false, false, false, false, false, false, false, false] rfl rfl (any_of HT_.out (by kernel_rfl)) (fun _ _ _ h => h) (Or.inr ⟨by rfl, rfl⟩) ?_ ?_
               rotate_left
               · simp only [Act.put, List.setIfInBounds_toArray, List.set_cons_zero, List.set_cons_succ, i64_w, i32_w]
                 rfl
               refine pure_ (i := 12) (N := some 41) (v := undef) (a' := ?_) #[true, true, true, true, true, true, true, true, true, true, true, true, true, false, false, false, false, false, false, false, false, false, false, false, false, false] rfl rfl (any_of HT_.out (by kernel_rfl)) (fun _ _ _ h => h) (Or.inr ⟨by rfl, rfl⟩) ?_ ?_
               rotate_left
               · simp only [Act.put, List.setIfInBounds_toArray, List.set_cons_zero, List.set_cons_succ, i64_w, i32_w]
                 rfl
               refine pure_ (i := 13) (N := some 42) (v := undef) (a' := ?_) #[true, true, true, true, true, true, true, true, true, true, true, true, true, true, false, false, false, false, false, false, false, false, false, false, false, false] rfl rfl (any_of HT_.out (by kernel_rfl)) (fun _ _ _ h => h) (Or.inr ⟨by rfl, rfl⟩) ?_ ?_
               rotate_left
               · simp only [Act.put, List.setIfInBounds_toArray, List.set_cons_zero, List.set_cons_succ, i64_w, i32_w]
                 rfl
               refine pure_ (i := 14) (N := some 43) (v := undef) (a' := ?_) #[true, true, true, true, true, true, true, true, true, true, true, true, true, true, true, false, false, false, false, false, false, false, false, false, false, false] rfl rfl (any_of HT_.out (by kernel_rfl)) (fun _ _ _ h => h) (Or.inr ⟨by rfl, rfl⟩) ?_ ?_
               rotate_left
               · simp only [Act.put, List.setIfInBounds_toArray, List.set_cons_zero, List.set_cons_succ, i64_w, i32_w]
                 rfl
               refine pure_ (i := 15) (N := some 44) (v := undef) (a' := ?_) #[true, true, true, true, true, true, true, true, true, true, true, true, true, true, true, true, false, false, false, false, false, false, false, false, false, false] rfl rfl (any_of HT_.out (by kernel_rfl)) (fun _ _ _ h => h) (Or.inr ⟨by rfl, rfl⟩) ?_ ?_
               rotate_left
               · simp only [Act.put, List.setIfInBounds_toArray, List.set_cons_zero, List.set_cons_succ, i64_w, i32_w]
                 rfl
               refine pure_ (i := 16) (N := some 45) (v := undef) (a' := ?_) #[true, true, true, true, true, true, true, true, true, true, true, true, true, true, true, true, true, false, false, false, false, false, false, false, false, false] rfl rfl (any_of HT_.out (by kernel_rfl)) (fun _ _ _ h => h) (Or.inr ⟨by rfl, rfl⟩) ?_ ?_
               rotate_left
               · simp only [Act.put, List.setIfInBounds_toArray, List.set_cons_zero, List.set_cons_succ, i64_w, i32_w]
                 rfl
               refine pure_ (i := 17) (N := some 46) (v := undef) (a' := ?_) #[true, true, true, true, true, true, true, true, true, true, true, true, true, true, true, true, true, true, false, false, false, false, false, false, false, false] rfl rfl (any_of HT_.out (by kernel_rfl)) (fun _ _ _ h => h) (Or.inr ⟨by rfl, rfl⟩) ?_ ?_
               rotate_left
               · simp only [Act.put, List.setIfInBounds_toArray, List.set_cons_zero, List.set_cons_succ, i64_w, i32_w]
                 rfl
               refine pure_ (i := 18) (N := some 47) (v := undef) (a' := ?_) #[true, true, true, true, true, true, true, true, true, true, true, true, true, true, true, true, true, true, true, false, false, false, false, false, false, false] rfl rfl (any_of HT_.out (by kernel_rfl)) (fun _ _ _ h => h) (Or.inr ⟨by rfl, rfl⟩) ?_ ?_
               rotate_left
               · simp only [Act.put, List.setIfInBounds_toArray, List.set_cons_zero, List.set_cons_succ, i64_w, i32_w]
                 rfl
               refine pure_ (i := 19) (N := some 48) (v := undef) (a' := ?_) #[true, true, true, true, true, true, true, true, true, true, true, true, true, true, true, true, true, true, true, true, false, false, false, false, false, false] rfl rfl (any_of HT_.out (by kernel_rfl)) (fun _ _ _ h => h) (Or.inr ⟨by rfl, rfl⟩) ?_ ?_
               rotate_left
               · simp only [Act.put, List.setIfInBounds_toArray, List.set_cons_zero, List.set_cons_succ, i64_w, i32_w]
                 rfl
               refine pure_ (i := 20) (N := some 49) (v := undef) (a' := ?_) #[true, true, true, true, true, true, true, true, true, true, true, true, true, true, true, true, true, true, true, true, true, false, false, false, false, false] rfl rfl (any_of HT_.out (by kernel_rfl)) (fun _ _ _ h => h) (Or.inr ⟨by rfl, rfl⟩) ?_ ?_
               rotate_left
               · simp only [Act.put, List.setIfInBounds_toArray, List.set_cons_zero, List.set_cons_succ, i64_w, i32_w]
                 rfl
               refine pure_ (i := 21) (N := some 50) (v := undef) (a' := ?_) #[true, true, true, true, true, true, true, true, true, true, true, true, true, true, true, true, true, true, true, true, true, true, false, false, false, false] rfl rfl (any_of HT_.out (by kernel_rfl)) (fun _ _ _ h => h) (Or.inr ⟨by rfl, rfl⟩) ?_ ?_
               rotate_left
               · simp only [Act.put, List.setIfInBounds_toArray, List.set_cons_zero, List.set_cons_succ, i64_w, i32_w]
                 rfl
               refine pure_ (i := 22) (N := some 51) (v := undef) (a' := ?_) #[true, true, true, true, true, true, true, true, true, true, true, true, true, true, true, true, true, true, true, true, true, true, true, false, false, false] rfl rfl (any_of HT_.out (by kernel_rfl)) (fun _ _ _ h => h) (Or.inr ⟨by rfl, rfl⟩) ?_ ?_
               rotate_left
               · simp only [Act.put, List.setIfInBounds_toArray, List.set_cons_zero, List.set_cons_succ, i64_w, i32_w]
                 rfl
               refine pure_ (i := 23) (N := some 52) (v := undef) (a' := ?_) #[true, true, true, true, true, true, true, true, true, true, true, true, true, true, true, true, true, true, true, true, true, true, true, true, false, false] rfl rfl (any_of HT_.out (by kernel_rfl)) (fun _ _ _ h => h) (Or.inr ⟨by rfl, rfl⟩) ?_ ?_
               rotate_left
               · simp only [Act.put, List.setIfInBounds_toArray, List.set_cons_zero, List.set_cons_succ, i64_w, i32_w]
                 rfl
               refine pure_ (i := 24) (N := some 53) (v := undef) (a' := ?_) #[true, true, true, true, true, true, true, true, true, true, true, true, true, true, true, true, true, true, true, true, true, true, true, true, true, false] rfl rfl (any_of HT_.out (by kernel_rfl)) (fun _ _ _ h => h) (Or.inr ⟨by rfl, rfl⟩) ?_ ?_
               rotate_left
               · simp only [Act.put, List.setIfInBounds_toArray, List.set_cons_zero, List.set_cons_succ, i64_w, i32_w]
                 rfl
               refine pure_ (i := 25) (N := some 54) (v := ?_) (a' := ?_) #[true, true, true, true, true, true, true, true, true, true, true, true, true, true, true, true, true, true, true, true, true, true, true, true, true, true] rfl rfl (any_of HT_.out (by kernel_rfl)) (fun _ _ _ h => h) (Or.inl ⟨by rfl, ?_⟩) ?_ ?_
               rotate_left
               · intro w'
                 go_simp
                 with_reducible rfl
               rotate_left
               · simp only [Act.put, List.setIfInBounds_toArray, List.set_cons_zero, List.set_cons_succ, i64_w, i32_w]
                 rfl
               refine done_ (done_of HT_.out (by kernel_rfl)) ?_
               try go_wp2
               go_ret
               exact ⟨z674d, zcb41⟩
           · rw [if_neg c20] at H
             exact absurd H (by simp)
         · rw [if_neg c19] at H
           exact absurd H (by simp)
       · rw [if_neg c18] at H
         have c18b0 : decide (x24_2 < (l0_1.length : Int)) = false := decide_eq_false c18
         clear c18
         obtain rfl := Option.some.inj H
         go_wp2
         go_ret
         exact ⟨z674d, zcb41⟩

end Go.Proofs.YteogadaloebdaaaDoor.P

section
/- A row of bytes of the call's own of which what lies behind the cells may be marked: what '[]byte(s)' makes; and what 'append' makes of it. No conditions. -/
set_option linter.unusedVariables false
set_option linter.unusedSimpArgs false
namespace Go.Proofs.YteogadaloebdaaaDoor.P
open Go.RowKit Go.Proofs.YteogadaloebdaaaDoorW.PrintWords Go.Proofs.YteogadaloebdaaaDoorW.PrintLast Go.Proofs.YteogadaloebdaaaDoorW.PrintMore
/-- The row's cells are the bytes; its mark, if there is one, begins behind its last cell. -/
def RT (e : Nat) (w : World) (base : Nat) (v : Value) (xs : List Int) : Prop :=
  (v = .slice none 0 0 ∧ xs = []) ∨
  ∃ (g cap : Nat) (cur : Array Value) (fz : Nat × Nat), v = .slice (some ⟨g, 0, none⟩) xs.length cap ∧ base ≤ g ∧ w.heap[g]? = some (.cells cur e fz) ∧ (cap ≤ fz.1 ∨ fz.2 = 0) ∧
    xs.length ≤ cap ∧ cap ≤ maxLen ∧ cur.size = cap ∧ cur.toList.take xs.length = nums .u8 xs
section
variable {e : Nat} {w w1 : World} {base : Nat} {v : Value} {xs ys : List Int}
theorem RT.step (h : RT e w base v xs) (hm : ∀ k, v.ownBlock = some k → k < w.heap.size → w1.heap[k]? = w.heap[k]?) : RT e w1 base v xs := by
  rcases h with h | ⟨g, cap, cur, fz, rfl, hg, hc, r⟩
  · exact .inl h
  · exact .inr ⟨g, cap, cur, fz, rfl, hg, (hm g rfl (Array.getElem?_eq_some_iff.1 hc).1).trans hc, r⟩
theorem RT.below (h : RT e w base v xs) (hb : Below w.heap.size w w1) : RT e w1 base v xs := h.step (fun k _ hk => hb.block k hk)
theorem RT.base_ (h : RT e w base v xs) : ∀ k, v.ownBlock = some k → base ≤ k := by
  rcases h with ⟨rfl, _⟩ | ⟨g, cap, cur, fz, rfl, hg, _⟩
  · intro k hk
    simp [Value.ownBlock] at hk
  · intro k hk
    obtain rfl : g = k := by simpa [Value.ownBlock] using hk
    exact hg
theorem nums_length_ (xs : List Int) : (nums .u8 xs).length = xs.length := by simp [nums]
theorem plain_add (g o i : Nat) : (⟨g, o, none⟩ : Addr).add i = ⟨g, o + i, none⟩ := by unfold Addr.add; split <;> simp_all
theorem RT.cells (h : RT e w base v xs) {g : Nat} (hg : v.ownBlock = some g) : ∀ j u, (nums .u8 xs)[j]? = some u → w.cell? ((⟨g, 0, none⟩ : Addr).add j) = some u := by
  rcases h with ⟨rfl, _⟩ | ⟨g', cap, cur, fz, rfl, _, hc, hf, hn, hm, hs, ht⟩
  · simp [Value.ownBlock] at hg
  · obtain rfl : g' = g := by simpa [Value.ownBlock] using hg
    intro j u hu
    rw [plain_add, Nat.zero_add, cell_of_row w g' j cur e fz hc]
    rw [← ht, List.getElem?_take] at hu
    split at hu
    · simpa using hu
    · cases hu
theorem RT.reads (h : RT e w base v xs) : ∃ A c, v = .slice A xs.length c ∧ xs.length ≤ c ∧ Kd.C (Kd.int .u8) w A xs.length xs := by
  have h' := h
  rcases h with ⟨rfl, rfl⟩ | ⟨g, cap, cur, fz, rfl, hg, hc, hf, hn, hm, hs, ht⟩
  · exact ⟨none, 0, rfl, Nat.le_refl _, Kd.C_nil _ _⟩
  · refine ⟨_, _, rfl, hn, rfl, Nat.le_trans hn hm, fun _ => ⟨_, rfl, fun j p hp => ⟨[.int .u8 p], rfl, rfl, fun i u hu => ?_⟩⟩⟩
    obtain rfl : i = 0 := by
      have := (List.getElem?_eq_some_iff.1 hu).1
      simp only [List.length_singleton] at this
      omega
    have := h'.cells rfl j (.int .u8 p) (by simp [nums, hp])
    simp only [List.getElem?_cons_zero, Option.some.injEq] at hu
    subst hu
    simpa [Kd.int, Kd.scalar] using this
theorem RT.of_bytes (w : World) (e : Nat) (s : ByteArray) (hs : s.size ≤ maxLen) : RT e (Lib.bytesWorld w e s) w.heap.size (.slice (some ⟨w.heap.size, 0, none⟩) (bytesOf s).length (grownCap w s.size 0 e)) (bytesOf s) := by
  have hl := bytesOf_length s
  have hge := grownCap_ge w s.size 0 e
  have hsz : (Lib.bytesCells w e s).size = grownCap w s.size 0 e := by
    rw [Lib.bytesCells, Array.size_append, Array.size_map, Array.size_replicate, show s.data.size = s.size from rfl]
    omega
  refine .inr ⟨w.heap.size, _, _, _, rfl, Nat.le_refl _, Lib.bytesWorld_at_new w e s, ?_, ?_, ?_, ?_, ?_⟩
  · left
    simp only [hsz]
    exact Nat.le_refl _
  · omega
  · exact grownCap_le_maxLen w s.size 0 e hs
  · exact hsz
  · simp [Lib.bytesCells, nums, bytesOf]
theorem RT.of_own (h : w.ownsRow base e 1 v xs.length (nums .u8 xs)) : RT e w base v xs := by
  rcases h.2 with ⟨h1, h2⟩ | ⟨g, cap, cur, hv, hb, hg, hn, hm, hs, ht⟩
  · exact .inl ⟨h1, List.length_eq_zero_iff.1 h2⟩
  · exact .inr ⟨g, cap, cur, _, hv, hb, hg, .inr rfl, hn, hm, by simpa using hs, by simpa using ht⟩
end
theorem run_stores_T (P : Program) (g : Nat) (t : TypeId) (fz : Nat × Nat) : ∀ (vs : List Value) (i : Nat) (cur : Array Value) (w : World), w.heap[g]? = some (.cells cur t fz) → (cur.size ≤ fz.1 ∨ fz.2 = 0) → ∀ o, o + i + vs.length ≤ cur.size → (∀ v ∈ vs, v.oneCell' = true) →
    (storeCells ⟨g, o, none⟩ vs i).run P w = .ok () (w.setRow g (cur.toList.take (o + i) ++ vs ++ cur.toList.drop (o + i + vs.length)).toArray) := by
  intro vs
  induction vs with
  | nil =>
    intro i cur w hg _ o _ _
    simp only [storeCells, List.append_nil, List.length_nil, Nat.add_zero, List.take_append_drop, Array.toArray_toList, setRow_self w g cur t fz hg]
    rfl
  | cons v rest ih =>
    intro i cur w hg hfz o hl h1
    have hi : o + i < cur.size := by simp at hl; omega
    have hfro : w.frozen? ⟨g, o + i, none⟩ = false := by
      simp only [World.frozen?, hg, Bool.and_eq_false_iff, decide_eq_false_iff_not]
      omega
    have hcell : w.cell? ⟨g, o + i, none⟩ = some cur[o + i] := by simp [World.cell?, hg, hi]
    have h2 := ih (i + 1) (cur.setIfInBounds (o + i) v) _ (setRow_heap w g cur _ t _ hg) (by simpa using hfz) o (by simp at hl ⊢; omega) (fun x hx => h1 x (List.mem_cons_of_mem _ hx))
    have hst : (store ((⟨g, o, none⟩ : Addr).add i) v).run P w = .ok () (w.setRow g (cur.setIfInBounds (o + i) v)) := by
      rw [plain_add, run_store P w _ v _ (h1 v List.mem_cons_self), hcell]
      simp [hfro, setCell_eq_setRow w g (o + i) cur t fz v hg]
    simp only [storeCells, Sem.run_bind, hst, Result.andThen_ok, h2, setRow_setRow]
    have e3 := list_seg_step cur.toList (o + i) v rest (by simp at hl ⊢; omega)
    rw [← Nat.add_assoc o i 1]
    simp only [Array.toList_setIfInBounds, List.length_cons]
    rw [e3]
section
variable {P : Program} {e : Nat} {w w1 : World} {base : Nat} {v : Value} {xs ys : List Int}
/-- What is laid down is one of the two arms. -/
theorem RT.room {g cap : Nat} {cur : Array Value} {fz : Nat × Nat} (hg : base ≤ g) (hc : w.heap[g]? = some (.cells cur e fz)) (hf : cap ≤ fz.1 ∨ fz.2 = 0) (hm : cap ≤ maxLen) (hs : cur.size = cap) (ht : cur.toList.take xs.length = nums .u8 xs)
    (hn : xs.length + ys.length ≤ cap) :
    RT e (w.setRow g (cur.toList.take xs.length ++ nums .u8 ys ++ cur.toList.drop (xs.length + ys.length)).toArray) base (.slice (some ⟨g, 0, none⟩) (xs ++ ys).length cap) (xs ++ ys) := by
  refine .inr ⟨g, cap, _, fz, rfl, hg, setRow_heap w g cur _ e _ hc, hf, by simpa using hn, hm, ?_, ?_⟩
  · simp only [List.size_toArray, List.length_append, List.length_take, List.length_drop, Array.length_toList, nums_length_]
    omega
  · have h2 : (nums .u8 xs ++ nums .u8 ys).length = (xs ++ ys).length := by simp [nums]
    rw [ht, show nums .u8 (xs ++ ys) = nums .u8 xs ++ nums .u8 ys from nums_append .., ← h2]
    exact List.take_left
theorem RT.grow (cap : Nat) (hb : base ≤ w.heap.size) (h63 : xs.length + ys.length ≤ maxLen) :
    RT e (w.drew.alloc (.cells ((nums .u8 xs).toArray ++ (nums .u8 ys).toArray ++ Builtin.zeroCells (Value.int .u8 0).cells (grownCap w (xs.length + ys.length) cap e - (xs.length + ys.length))) e)) base
      (.slice (some ⟨w.heap.size, 0, none⟩) (xs ++ ys).length (grownCap w (xs.length + ys.length) cap e)) (xs ++ ys) := by
  have hge := grownCap_ge w (xs.length + ys.length) cap e
  refine .inr ⟨w.heap.size, _, _, (0, 0), rfl, hb, heap_alloc_new w.drew _, .inr rfl, by simpa using hge, grownCap_le_maxLen w _ cap e h63, ?_, ?_⟩
  · have hz1 : (Value.int IntKind.u8 0).cells.size = 1 := rfl
    simp only [Array.size_append, List.size_toArray, size_zeroCells, hz1, nums_length_]
    omega
  · have h2 : (nums .u8 xs ++ nums .u8 ys).length = (xs ++ ys).length := by simp [nums]
    rw [show nums .u8 (xs ++ ys) = nums .u8 xs ++ nums .u8 ys from nums_append ..]
    simp only [Array.toList_append]
    rw [← h2]
    exact List.take_left
theorem RT.lower {base' : Nat} (h : RT e w base v xs) (hb : base' ≤ base) : RT e w base' v xs := by
  obtain h | ⟨g, cap, cur, fz, hv, hg, r⟩ := h
  · exact .inl h
  · exact .inr ⟨g, cap, cur, fz, hv, Nat.le_trans hb hg, r⟩
theorem RT.at_nil (h : RT e w1 w.heap.size v xs) : v.ownBlock = (Value.slice none 0 0).ownBlock ∨ ∃ b, v.ownBlock = some b ∧ w.heap.size ≤ b := by
  obtain ⟨rfl, _⟩ | ⟨g, cap, cur, fz, rfl, hg, r⟩ := h
  · exact .inl rfl
  · exact .inr ⟨g, rfl, hg⟩
theorem run_append_T (t ty : TypeId) (i : TypeInfo) (ht : P.underlying t = some (.slice e)) (hi : P.info? e = some i) (hz : i.zero = some (.int .u8 0)) (hs1 : i.size = 1) (hby : i.bytes = 1)
    (h : RT e w base v xs) (a : Addr) (c : Nat) (hnews : ∀ j u, (nums .u8 ys)[j]? = some u → w.cell? (a.add j) = some u) (hl : xs.length + ys.length ≤ 140737488355328) (hb : base ≤ w.heap.size) :
    ∃ v' w', (Builtin.append_ #[t, t] ty #[v, .slice (some a) ys.length c]).run P w = .ok v' w' ∧ RT e w' base v' (xs ++ ys) ∧ w.grownBy w' v.ownBlock ∧ (v'.ownBlock = v.ownBlock ∨ ∃ b, v'.ownBlock = some b ∧ w.heap.size ≤ b) := by
  have h63 : xs.length + ys.length ≤ maxLen := by simp only [maxLen]; omega
  have h1 : ∀ u ∈ nums .u8 ys, u.oneCell' = true := by
    intro u hu
    obtain ⟨x, _, rfl⟩ := List.mem_map.1 hu
    rfl
  have hlen : (nums .u8 ys).length = ys.length * i.size := by rw [nums_length_, hs1, Nat.mul_one]
  have h' := h
  rcases h with ⟨rfl, rfl⟩ | ⟨g, cap, cur, fz, rfl, hg, hc, hf, hn, hm, hs, htk⟩
  · obtain ⟨v', w', r1, r2, r3, r4⟩ := run_append_own (P := P) w w.heap.size t ty e i (.int .u8 0) 1 1 ht hi hz hs1 hby rfl (by omega) (.slice none 0 0) 0 [] ⟨rfl, .inl ⟨rfl, rfl⟩⟩ a ys.length c (nums .u8 ys) (by rw [nums_length_, Nat.mul_one]) hnews h1 (by simpa using h63) (by simpa using hl) (Nat.le_refl _)
    have hR : RT e w' w.heap.size v' ([] ++ ys) := RT.of_own (by simpa using r2)
    exact ⟨v', w', r1, hR.lower hb, r3, RT.at_nil hR⟩
  · by_cases hr : xs.length + ys.length ≤ cap
    · have hf' := run_firstCells_some (P := P) w i.size ys.length a ys.length c (nums .u8 ys) hlen hnews
      have hst := run_stores_T P g e fz (nums .u8 ys) 0 cur w hc (by rw [hs]; exact hf) xs.length (by rw [nums_length_]; omega) h1
      simp only [Nat.add_zero, nums_length_] at hst
      refine ⟨_, _, ?_, RT.room hg hc hf hm hs htk hr, ⟨rfl, rfl, rfl, by simp, fun k _ hk => setRow_other w g k _ (fun e => hk (by simp [Value.ownBlock, e]))⟩, .inl rfl⟩
      rw [List.length_append]
      simp [Builtin.append_, run_underlying ht, sizeOf, typeInfo, hi, hs1, Builtin.lenOf, hr, hf', Addr.add_lit, hst]
      simp [hs1] at hf'
      simp [hf', hst]
    · have holds := h'.cells (g := g) rfl
      have hr2 := run_append_grow (P := P) w t ty e i (.int .u8 0) ht hi hz ⟨g, 0, none⟩ xs.length cap (nums .u8 xs) (by rw [nums_length_, hs1, Nat.mul_one]) holds a ys.length c (nums .u8 ys) hlen hnews (by omega) (by simp only [maxLen] at h63; omega) (by rw [hby]; exact growslice_fits (by omega) (by omega))
      refine ⟨_, _, hr2, ?_, ⟨rfl, rfl, rfl, by simp, fun k hk _ => (World.grownBy_alloc w.drew _ none).block k hk (by simp)⟩, .inr ⟨w.heap.size, rfl, Nat.le_refl _⟩⟩
      have := RT.grow (w := w) (e := e) (xs := xs) (ys := ys) cap hb h63
      rw [List.length_append] at this
      exact this
theorem run_append_str_T (t u ty : TypeId) (i : TypeInfo) (ht : P.underlying t = some (.slice e)) (hu : P.underlying u = some .string) (hi : P.info? e = some i) (hz : i.zero = some (.int .u8 0)) (hs1 : i.size = 1) (hby : i.bytes = 1)
    (h : RT e w base v xs) (y : ByteArray) (hl : xs.length + y.size ≤ 140737488355328) (hb : base ≤ w.heap.size) :
    ∃ v' w', (Builtin.append_ #[t, u] ty #[v, .string y]).run P w = .ok v' w' ∧ RT e w' base v' (xs ++ bytesOf y) ∧ w.grownBy w' v.ownBlock ∧ (v'.ownBlock = v.ownBlock ∨ ∃ b, v'.ownBlock = some b ∧ w.heap.size ≤ b) := by
  have h63 : xs.length + (bytesOf y).length ≤ maxLen := by simp only [maxLen, bytesOf_length]; omega
  have hcells : Lib.strCells y = nums .u8 (bytesOf y) := by simp [nums, bytesOf, Lib.strCells]
  have h1 : ∀ u ∈ nums .u8 (bytesOf y), u.oneCell' = true := hcells ▸ Lib.strCells_oneCell y
  have h' := h
  rcases h with ⟨rfl, rfl⟩ | ⟨g, cap, cur, fz, rfl, hg, hc, hf, hn, hm, hs, htk⟩
  · obtain ⟨v', w', r1, r2, r3, r4⟩ := Lib.run_append_own_string (P := P) w w.heap.size t u ty e i ht hu hi hz hs1 hby (.slice none 0 0) 0 [] ⟨rfl, .inl ⟨rfl, rfl⟩⟩ y (by simpa [maxLen] using (by omega : y.size ≤ 9223372036854775807)) (by simpa using hl) (Nat.le_refl _)
    have hR : RT e w' w.heap.size v' ([] ++ bytesOf y) := RT.of_own (by rw [hcells] at r2; simpa [bytesOf_length] using r2)
    exact ⟨v', w', r1, hR.lower hb, r3, RT.at_nil hR⟩
  · have hbl := bytesOf_length y
    by_cases hr : xs.length + (bytesOf y).length ≤ cap
    · have hf' := Lib.run_firstCells_string (P := P) w 1 y
      have hst := run_stores_T P g e fz (nums .u8 (bytesOf y)) 0 cur w hc (by rw [hs]; exact hf) xs.length (by rw [nums_length_]; omega) h1
      simp only [Nat.add_zero, nums_length_] at hst
      refine ⟨_, _, ?_, RT.room hg hc hf hm hs htk hr, ⟨rfl, rfl, rfl, by simp, fun k _ hk => setRow_other w g k _ (fun e => hk (by simp [Value.ownBlock, e]))⟩, .inl rfl⟩
      rw [List.length_append]
      rw [hbl] at hst hr ⊢
      rw [hcells] at hf'
      simp [Builtin.append_, run_underlying ht, run_underlying hu, sizeOf, typeInfo, hi, hs1, Builtin.lenOf, hr, hf', Addr.add_lit, hst]
    · have holds := h'.cells (g := g) rfl
      rw [hbl] at hr
      have hr2 := Lib.run_append_grow_string (P := P) w t u ty e i (.int .u8 0) ht hu hi hz ⟨g, 0, none⟩ xs.length cap (nums .u8 xs) (by rw [nums_length_, hs1, Nat.mul_one]) holds y (by omega) (by simp only [maxLen] at h63; omega) (by rw [hby]; exact growslice_fits (by omega) (by omega))
      refine ⟨_, _, hr2, ?_, ⟨rfl, rfl, rfl, by simp, fun k hk _ => (World.grownBy_alloc w.drew _ none).block k hk (by simp)⟩, .inr ⟨w.heap.size, rfl, Nat.le_refl _⟩⟩
      have := RT.grow (w := w) (e := e) (xs := xs) (ys := bytesOf y) cap hb h63
      rw [List.length_append, hbl] at this
      rw [hcells]
      exact this
end
namespace Kt
/-- As Kd.R of bytes, but for the mark. -/
def R (_d : Kd Int) (e : Nat) (w : World) (base : Nat) (ok : Nat → Prop) (v : Value) (xs : List Int) : Prop := (∀ k, v.ownBlock = some k → ok k) ∧ RT e w base v xs
section
variable {d : Kd Int} {e : Nat} {w w1 W : World} {base base' : Nat} {ok ok' : Nat → Prop} {u v v1 : Value} {xs : List Int}
theorem R_of_R (h : Kd.R (Kd.int .u8) e w base ok v xs) : R (Kd.int .u8) e w base ok v xs := ⟨h.1, RT.of_own (Kd.own_of_R h)⟩
theorem own_of_R (h : R d e w base ok v xs) : RT e w base v xs := h.2
theorem R_of_own {h1 : ∀ x : Int, (Value.int .u8 x).oneCell' = true} (h : RT e w base v xs) (hok : ∀ k, v.ownBlock = some k → ok k) : R (Kd.scalar (Value.int .u8) h1) e w base ok v xs := ⟨hok, h⟩
theorem R_mono (h : R d e w base ok v xs) (hok : ∀ k, ok k → ok' k) : R d e w base ok' v xs := ⟨fun k hk => hok k (h.1 k hk), h.2⟩
theorem R_own_ (h : R d e w base ok v xs) (hm : ∀ k, v.ownBlock = some k → k < w.heap.size → w1.heap[k]? = w.heap[k]?) : R d e w1 base ok v xs := ⟨h.1, h.2.step hm⟩
theorem R_below (h : R d e w base ok v xs) (hb : Below w.heap.size w w1) : R d e w1 base ok v xs := ⟨h.1, h.2.below hb⟩
theorem R_alloc (h : R d e w base ok v xs) (o : Obj) : R d e (w.alloc o) base ok v xs := R_below h (below_alloc (Below.refl _ _) o)
theorem R_drew (h : R d e w base ok v xs) : R d e w.drew base ok v xs := R_below h (below_drew (Below.refl _ _))
theorem R_drewN (h : R d e w base ok v xs) (m : Nat) : R d e (w.drewN m) base ok v xs := R_below h (pw_below_drewN (Below.refl _ _) m)
theorem R_lower (h : R d e w base ok v xs) (hb : base' ≤ base) : R d e w base' ok v xs := by
  obtain ⟨h0, h | ⟨g, cap, cur, fz, hv, hg, r⟩⟩ := h
  · exact ⟨h0, .inl h⟩
  · exact ⟨h0, .inr ⟨g, cap, cur, fz, hv, Nat.le_trans hb hg, r⟩⟩
theorem R_typed (h : R d e w base ok v xs) : ∀ k, v.ownBlock = some k → ∃ cs fz, w.heap[k]? = some (.cells cs e fz) := by
  obtain ⟨_, ⟨rfl, _⟩ | ⟨g, cap, cur, fz, rfl, _, hc, _⟩⟩ := h
  · intro k hk
    simp [Value.ownBlock] at hk
  · intro k hk
    obtain rfl : g = k := by simpa [Value.ownBlock] using hk
    exact ⟨_, _, hc⟩
theorem R_lt (h : R d e w base ok v xs) : ∀ k, v.ownBlock = some k → k < w.heap.size := by
  intro k hk
  obtain ⟨cs, fz, hc⟩ := R_typed h k hk
  exact (Array.getElem?_eq_some_iff.1 hc).1
theorem R_base (h : R d e w base ok v xs) : ∀ k, v.ownBlock = some k → base ≤ k := h.2.base_
theorem R_ne (h : R d e w base ok v xs) {g t : Nat} {cells : Array Value} (hb : w.heap[g]? = some (.cells cells t (0, 0))) (ht : e ≠ t) : some g ≠ v.ownBlock := by
  intro hg
  obtain ⟨cs, fz, hc⟩ := R_typed h g hg.symm
  rw [hc] at hb
  injection hb with hb
  injection hb with _ hb
  exact ht hb
theorem R_types (h : R d e w base ok v xs) {g t : Nat} {cells : Array Value} (hb : w.heap[g]? = some (.cells cells t (0, 0))) (ht : ∀ q, q ∈ e :: (Kd.int .u8).E → q ≠ t) : R d e w base (fun k => ok k ∧ k ≠ g) v xs :=
  ⟨fun k hk => ⟨h.1 k hk, fun hg => R_ne h hb (ht e List.mem_cons_self) (by rw [← hg]; exact hk.symm)⟩, h.2⟩
theorem R_far (h : R d e w base ok v xs) {p : Addr} (hok : ∀ k, ok k → k ≠ p.block) (u : Value) : R d e (w.setCell p u) base ok v xs :=
  R_own_ h (fun k hk _ => Below.heap_setCell w p u k (hok k (h.1 k hk)))
theorem R_after (h : R d e W base (fun k => ok k ∧ some k ≠ v.ownBlock) u xs) (hg : W.grownBy w1 v.ownBlock) (hat : v1.ownBlock = v.ownBlock ∨ ∃ b, v1.ownBlock = some b ∧ W.heap.size ≤ b) : R d e w1 base (fun k => ok k ∧ some k ≠ v1.ownBlock) u xs := by
  refine ⟨fun k hk => ⟨(h.1 k hk).1, ?_⟩, h.2.step (fun k hk hlt => hg.block k hlt (h.1 k hk).2)⟩
  have hlt := R_lt h k hk
  rcases hat with hat | ⟨b, hb, hle⟩
  · rw [hat]
    exact (h.1 k hk).2
  · rw [hb]
    intro he
    injection he with he
    omega
theorem R_elder' (hu : R d e W base ok u xs) (hbase : ∀ k, v.ownBlock = some k → W.heap.size ≤ k) (hb : Below W.heap.size W w1) : R d e w1 base (fun k => ok k ∧ some k ≠ v.ownBlock) u xs :=
  ⟨fun k hk => ⟨hu.1 k hk, fun he => by have := hbase k he.symm; have := R_lt hu k hk; omega⟩, hu.2.below hb⟩
theorem R_new' (h : R d e w1 W.heap.size ok v xs) (hlt : ∀ k, u.ownBlock = some k → k < W.heap.size) : R d e w1 W.heap.size (fun k => ok k ∧ some k ≠ u.ownBlock) v xs :=
  ⟨fun k hk => ⟨h.1 k hk, fun he => by have := hlt k he.symm; have := R_base h k hk; omega⟩, h.2⟩
theorem R_slice (h : R d e w base ok v xs) : ∃ A c, v = .slice A xs.length c := by
  obtain ⟨A, c, he, _⟩ := h.2.reads
  exact ⟨A, c, he⟩
theorem R_reads' {A : Option Addr} {n c : Nat} (h : R d e w base ok (.slice A n c) xs) : n = xs.length ∧ n ≤ c ∧ (Kd.int .u8).C w A xs.length xs := by
  obtain ⟨A', c', he, hl, hr⟩ := h.2.reads
  injection he with h1 h2 h3
  subst h1
  exact ⟨h2, by omega, hr⟩
theorem R.toV (h : R d e w base ok v xs) : Kd.V (Kd.int .u8) e w base (fun k => base ≤ k) v xs := by
  obtain ⟨A, c, rfl, hl, _⟩ := h.2.reads
  refine Kd.V_mk hl (fun W' hW => ?_)
  exact (R_reads' (R_own_ h (fun k hk hlt => hW k (R_base h k hk) hlt))).2.2
end
section
variable {P : Program} {ops : Array Oper} {rest : List Oper} {o : Oper} {a : Act} {Q : Exit → Act → World → Prop}
theorem R_bytes {w0 W : World} (base e : Nat) (hgd : o.guard = none) {N : Tmp} (hd : o.dst = some N) (src t : TypeId) (hs : P.underlying src = some .string) (ht : P.underlying t = some (.slice e)) (he : P.underlying e = some (.int .u8))
    (x : Operand) (ho : o.op = .convert src t x) (y : ByteArray) (hx : a.eval x = .string y) {ok : Nat → Prop} (hfresh : ok W.heap.size) (hl : (y.size : Int) ≤ 140737488355328) (HB : Below base w0 W) (hbase : base ≤ W.heap.size)
    (h : ∀ v1 w1, R (Kd.int .u8) e w1 W.heap.size ok v1 (bytesOf y) → Below base w0 w1 → W.grownBy w1 none → (∃ b, v1.ownBlock = some b ∧ W.heap.size ≤ b) → wpList P ops Q rest (a.put o.dst v1) w1) : wpList P ops Q (o :: rest) a W := by
  refine wpList_plain hgd fun K hK => ?_
  have hr := Lib.run_convert_string_bytes (P := P) W src t e y hs ht he
  have hR := RT.of_bytes W e y (by simp only [maxLen]; omega)
  rw [bytesOf_length] at hR
  unfold Oper.wp execOp
  simp only [ho, hx, Sem.run_bind, hr, Result.andThen_ok, Sem.run_pure]
  refine hK _ _ (h _ _ ⟨fun k hk => ?_, hR⟩ (bytes_below HB hbase e y) ⟨rfl, rfl, rfl, by rw [Lib.bytesWorld_size]; omega, fun k hk _ => Lib.bytesWorld_at_old W e y k hk⟩ ⟨_, rfl, Nat.le_refl _⟩)
  obtain rfl : W.heap.size = k := by simpa [Value.ownBlock] using hk
  exact hfresh
theorem R_append (d : Kd Int) {w0 W : World} (base : Nat) (hgd : o.guard = none) (s x : Operand) (t e : TypeId) (z : Value) (bytes : Nat)
    (ho : o.op = .call { callee := .builtin .append, args := #[s, x], argTypes := #[t, t] })
    (ht : P.underlying t = some (.slice e)) (hinfo : (P.info? e).map (fun i => (i.zero, i.size, i.bytes)) = some (some (.int .u8 0), 1, 1)) (_ : (Value.int .u8 0).cells.size = 1) (_ : (0 : Nat) < 1) (_ : (0 : Nat) < 1)
    (v : Value) (xs : List Int) (p : Int) (cs : List Value) (ok okp : Nat → Prop) (hs : a.eval s = v) (hx : a.eval x = .slice (some ⟨W.heap.size, 0, none⟩) 1 1) (hp : cs = [.int .u8 p]) (_ : ∀ k, okp k → ok k ∧ some k ≠ v.ownBlock) (hfresh : ∀ k, W.heap.size ≤ k → ok k)
    (HO : R d e W base ok v xs) (HB : Below base w0 W) (hbase : base ≤ W.heap.size) (hl : (xs.length + 1) * 1 ≤ 140737488355328)
    (h : ∀ v1 w1, R d e w1 base ok v1 (xs ++ [p]) → Below base w0 w1 → W.grownBy w1 v.ownBlock → (v1.ownBlock = v.ownBlock ∨ ∃ b, v1.ownBlock = some b ∧ W.heap.size ≤ b) → wpList P ops Q rest (a.put o.dst v1) w1) :
    wpList P ops Q (o :: rest) a (W.alloc (.cells cs.toArray e)) := by
  obtain ⟨i0, hi, hzz⟩ := Option.map_eq_some_iff.1 hinfo
  simp only [Prod.mk.injEq] at hzz
  obtain ⟨hz0, hz1, hz2⟩ := hzz
  subst hp
  refine wpList_plain hgd fun K hK => ?_
  have HO' := R_alloc HO (.cells #[.int .u8 p] e)
  have hsz : (W.alloc (.cells #[.int .u8 p] e)).heap.size = W.heap.size + 1 := by show (W.heap.push _).size = _; simp
  have hcell : ∀ j u, (nums .u8 [p])[j]? = some u → (W.alloc (.cells #[.int .u8 p] e)).cell? ((⟨W.heap.size, 0, none⟩ : Addr).add j) = some u := by
    intro j u hu
    rw [plain_add, Nat.zero_add, cell_of_row _ _ _ _ _ _ (heap_alloc_new W _)]
    simpa [nums] using hu
  obtain ⟨v', w', hr, h2, h3, h4⟩ := run_append_T (P := P) t o.type i0 ht hi hz0 hz1 hz2 HO'.2 ⟨W.heap.size, 0, none⟩ 1 hcell (by simpa using hl) (by omega)
  have hat : v'.ownBlock = v.ownBlock ∨ ∃ b, v'.ownBlock = some b ∧ W.heap.size ≤ b := h4.imp id (fun ⟨b, hb, hle⟩ => ⟨b, hb, by omega⟩)
  have hg : W.grownBy w' v.ownBlock := ⟨h3.os, h3.tape, h3.output, by have := h3.size; omega, fun k hk hne => (h3.block k (by omega) hne).trans ((World.grownBy_alloc W _ none).block k hk (by simp))⟩
  unfold Oper.wp execOp
  simp only [ho, resolve, invoke, builtin, Sem.run_bind, Sem.run_pure, Result.andThen_ok, List.map_toArray, List.map_cons, List.map_nil, hs, hx]
  rw [show [p].length = 1 from rfl] at hr
  rw [hr]
  refine hK _ _ (h v' w' ⟨fun k hk => ?_, h2⟩ (HB.grown hg hbase (R_base HO)) hg hat)
  rcases hat with hat | ⟨b, hb, hle⟩
  · exact HO.1 k (hat ▸ hk)
  · rw [hb] at hk
    injection hk with hk
    exact hk ▸ hfresh b hle
theorem R_append_rows (d : Kd Int) {w0 W : World} (base : Nat) (hgd : o.guard = none) (s x : Operand) (t e : TypeId) (z : Value) (bytes : Nat)
    (ho : o.op = .call { callee := .builtin .append, args := #[s, x], argTypes := #[t, t] })
    (ht : P.underlying t = some (.slice e)) (hinfo : (P.info? e).map (fun i => (i.zero, i.size, i.bytes)) = some (some (.int .u8 0), 1, 1)) (_ : (Value.int .u8 0).cells.size = 1) (_ : (0 : Nat) < 1) (_ : (0 : Nat) < 1)
    (v : Value) (xs ys : List Int) (A : Option Addr) (m c : Nat) (ok okp : Nat → Prop) (hs : a.eval s = v) (hx : a.eval x = .slice A m c)
    (HO : R d e W base ok v xs) (HR : Kd.C (Kd.int .u8) W A m ys) (_ : ∀ (x : Int) (cs : List Value), cs = [.int .u8 x] → cs = [.int .u8 x]) (_ : ∀ k, okp k → ok k ∧ some k ≠ v.ownBlock) (hfresh : ∀ k, W.heap.size ≤ k → ok k)
    (HB : Below base w0 W) (hbase : base ≤ W.heap.size) (hl : (xs.length + m) * 1 ≤ 140737488355328)
    (h : ∀ v1 w1, R d e w1 base ok v1 (xs ++ ys) → Below base w0 w1 → W.grownBy w1 v.ownBlock → (v1.ownBlock = v.ownBlock ∨ ∃ b, v1.ownBlock = some b ∧ W.heap.size ≤ b) → wpList P ops Q rest (a.put o.dst v1) w1) :
    wpList P ops Q (o :: rest) a W := by
  obtain ⟨i0, hi, hzz⟩ := Option.map_eq_some_iff.1 hinfo
  simp only [Prod.mk.injEq] at hzz
  obtain ⟨hz0, hz1, hz2⟩ := hzz
  have hm : ys.length = m := HR.1
  have hrun : ∃ v1 w1, (Builtin.append_ #[t, t] o.type #[v, .slice A m c]).run P W = .ok v1 w1 ∧ RT e w1 base v1 (xs ++ ys) ∧ W.grownBy w1 v.ownBlock ∧ (v1.ownBlock = v.ownBlock ∨ ∃ b, v1.ownBlock = some b ∧ W.heap.size ≤ b) := by
    rcases A with _ | ad
    · have h0 : m = 0 := by
        rcases Nat.eq_zero_or_pos m with h0 | h0
        · exact h0
        · obtain ⟨ad, h, _⟩ := HR.2.2 h0
          cases h
      subst h0
      obtain rfl : ys = [] := List.length_eq_zero_iff.1 hm
      refine ⟨v, W, ?_, by rw [List.append_nil]; exact HO.2, World.grownBy.refl W _, .inl rfl⟩
      obtain ⟨_, ⟨rfl, rfl⟩ | ⟨g, cap, cur, fz, rfl, _, _, _, hnc, _⟩⟩ := HO
      · simp [Builtin.append_, run_underlying ht, sizeOf, typeInfo, hi, Builtin.lenOf, Builtin.firstCells]
      · simp [Builtin.append_, run_underlying ht, sizeOf, typeInfo, hi, Builtin.lenOf, Builtin.firstCells, hnc, storeCells]
    · rw [← hm]
      refine run_append_T (P := P) t o.type i0 ht hi hz0 hz1 hz2 HO.2 ad c ?_ (by omega) hbase
      intro j u hu
      have hj : j < ys.length := by have := (List.getElem?_eq_some_iff.1 hu).1; rwa [nums_length_] at this
      obtain ⟨ad', hA, hc⟩ := HR.2.2 (by omega)
      injection hA with hA
      subst hA
      obtain ⟨cs, hl1, hcs, hcell⟩ := hc j _ (List.getElem?_eq_getElem hj)
      have hcs' : cs = [.int .u8 ys[j]] := hcs
      have h0 := hcell 0 (.int .u8 ys[j]) (by rw [hcs']; rfl)
      rw [show j * (Kd.int .u8).sz + 0 = j from by show j * 1 + 0 = j; omega] at h0
      rw [h0]
      simp [nums, List.getElem?_eq_getElem hj] at hu
      rw [hu]
  obtain ⟨v', w', hr, h2, h3, hat⟩ := hrun
  refine wpList_plain hgd fun K hK => ?_
  unfold Oper.wp execOp
  simp only [ho, resolve, invoke, builtin, Sem.run_bind, Sem.run_pure, Result.andThen_ok, List.map_toArray, List.map_cons, List.map_nil, hs, hx]
  rw [hr]
  refine hK _ _ (h v' w' ⟨fun k hk => ?_, h2⟩ (HB.grown h3 hbase (R_base HO)) h3 hat)
  rcases hat with hat | ⟨b, hb, hle⟩
  · exact HO.1 k (hat ▸ hk)
  · rw [hb] at hk
    injection hk with hk
    exact hk ▸ hfresh b hle
theorem print_append_str {w0 W : World} (base : Nat) (hgd : o.guard = none) (s x : Operand) (t u e : TypeId)
    (ho : o.op = .call { callee := .builtin .append, args := #[s, x], argTypes := #[t, u] })
    (ht : P.underlying t = some (.slice e)) (hu : P.underlying u = some .string) (hinfo : (P.info? e).map (fun i => (i.zero, i.size, i.bytes)) = some (some (.int .u8 0), 1, 1))
    (v : Value) (xs : List Int) (y : ByteArray) (hs : a.eval s = v) (hx : a.eval x = .string y)
    (HO : RT e W base v xs) (HB : Below base w0 W) (hbase : base ≤ W.heap.size) (hl : xs.length + y.size ≤ 140737488355328)
    (h : ∀ v1 w1, RT e w1 base v1 (xs ++ bytesOf y) → Below base w0 w1 → W.grownBy w1 v.ownBlock → wpList P ops Q rest (a.put o.dst v1) w1) :
    wpList P ops Q (o :: rest) a W := by
  obtain ⟨i0, hi, hzz⟩ := Option.map_eq_some_iff.1 hinfo
  simp only [Prod.mk.injEq] at hzz
  obtain ⟨hz0, hz1, hz2⟩ := hzz
  refine wpList_plain hgd fun K hK => ?_
  obtain ⟨v', w', hr, h2, h3, h4⟩ := run_append_str_T (P := P) t u o.type i0 ht hu hi hz0 hz1 hz2 HO y hl hbase
  unfold Oper.wp execOp
  simp only [ho, resolve, invoke, builtin, Sem.run_bind, Sem.run_pure, Result.andThen_ok, List.map_toArray, List.map_cons, List.map_nil, hs, hx]
  rw [hr]
  exact hK _ _ (h v' w' h2 (HB.grown h3 hbase HO.base_) h3)
end
end Kt
end Go.Proofs.YteogadaloebdaaaDoor.P
end

-- written by a program of this session's (wip/pp)
namespace Go.Proofs.YteogadaloebdaaaDoor.P
open Go.RowKit Go.Proofs.YteogadaloebdaaaDoorW.PrintWords Go.Proofs.YteogadaloebdaaaDoorW.PrintLast Go.Proofs.YteogadaloebdaaaDoorW.PrintMore
attribute [local go_sem] max2_int min2_int max_two min_two max_three min_three max_four min_four str_geq str_gtr str_leq   -- for this text's walks alone
set_option linter.unusedVariables false
set_option linter.unusedSimpArgs false

/-! ### impl_PutFixed: function 69 -/
mutual
def impl_PutFixed.j0 : Nat → Int → Int → Bool → Option (List Int × Bool)
 | 0, _, _, _ => none
 | k + 1, x0, x1, x25 => if x25 = true then (some (([] : List Int), false)) else (if 0 ≤ x1 then (if (x1 : Int).toNat ≤ 281474976710656 then (impl_PutFixed.l0 k x0 (List.replicate (x1 : Int).toNat 0) (wrap64 (x1 - 1))) else (none)) else (none))
def impl_PutFixed.l0 : Nat → Int → List Int → Int → Option (List Int × Bool)
 | 0, _, _, _ => none
 | k + 1, x0, x6, x7 => if x7 ≥ 0 then (if 0 ≤ x7 then (if x7 < (x6.length : Int) then (impl_PutFixed.l0 k (x0 / 256) (x6.set (x7 : Int).toNat ((x0) % 256)) (wrap64 (x7 - 1))) else (none)) else (none)) else (some (x6, true))
end
def impl_PutFixed.f (k : Nat) (a0 : Int) (a1 : Int) : Option (List Int × Bool) := if a0 < 0 then (impl_PutFixed.j0 k a0 a1 true) else ((impl_within.f a1 1 8).bind fun t101 => (if t101 = true then (if a1 < 8 then (if 0 ≤ (wrap64 (8 * a1)) then (impl_PutFixed.j0 k a0 a1 ((shr .i64 a0 (wrap64 (8 * a1))) != 0)) else (none)) else (impl_PutFixed.j0 k a0 a1 false)) else (impl_PutFixed.j0 k a0 a1 true)))
theorem impl_PutFixed.mono_l : ∀ k, (∀ y0 y1 y2, LeO (impl_PutFixed.j0 k y0 y1 y2) (impl_PutFixed.j0 (k + 1) y0 y1 y2)) ∧ (∀ y0 y1 y2, LeO (impl_PutFixed.l0 k y0 y1 y2) (impl_PutFixed.l0 (k + 1) y0 y1 y2))
 | 0 => ⟨fun _ _ _ r h => by simp [impl_PutFixed.j0] at h, fun _ _ _ r h => by simp [impl_PutFixed.l0] at h⟩
 | k + 1 => by
  obtain ⟨ih0, ih1⟩ := impl_PutFixed.mono_l k
  refine ⟨?_, ?_⟩
  · intro y0 y1 y2
    unfold impl_PutFixed.j0
    repeat' first
     | (with_reducible first | exact ih0 .. | exact ih1 .. | exact LeO.refl _ | exact LeO.none _ | refine LeO.ite ?_ ?_ | refine LeO.bind ?_ (fun _ => ?_))
     | exact LeO.none _
     | refine LeO.ite ?_ ?_
     | refine LeO.bind ?_ (fun _ => ?_)
  · intro y0 y1 y2
    unfold impl_PutFixed.l0
    repeat' first
     | (with_reducible first | exact ih0 .. | exact ih1 .. | exact LeO.refl _ | exact LeO.none _ | refine LeO.ite ?_ ?_ | refine LeO.bind ?_ (fun _ => ?_))
     | exact LeO.none _
     | refine LeO.ite ?_ ?_
     | refine LeO.bind ?_ (fun _ => ?_)
theorem impl_PutFixed.mono : ∀ a0 a1 k, LeO (impl_PutFixed.f k a0 a1) (impl_PutFixed.f (k + 1) a0 a1) := by
 intro a0 a1 k
 obtain ⟨ih0, ih1⟩ := impl_PutFixed.mono_l k
 unfold impl_PutFixed.f
 repeat' first
  | (with_reducible first | exact ih0 .. | exact ih1 .. | exact LeO.refl _ | exact LeO.none _ | refine LeO.ite ?_ ?_ | refine LeO.bind ?_ (fun _ => ?_))
  | exact LeO.none _
  | refine LeO.ite ?_ ?_
  | refine LeO.bind ?_ (fun _ => ?_)
set_option maxHeartbeats 8000000 in
set_option maxRecDepth 100000 in
theorem impl_PutFixed.calls (k : Nat) (a0 : Int) (a1 : Int) (r1 : List Int) (r2 : Bool) (w : World) (h : impl_PutFixed.f k a0 a1 = some (r1, r2)) :
 Calls Tryd.prog 69 #[.int .i64 a0, .int .i64 a1] w fun e w' => ∃ v0_ : Value, e = .returned (.tuple #[v0_, .bool r2]) ∧ Kd.R (Kd.int .u8) 5 w' w.heap.size (fun _ => True) v0_ r1 ∧ Below w.heap.size w w' := by
 have HB := aM (Below.refl w.heap.size w)
 have H : (if a0 < 0 then (impl_PutFixed.j0 k a0 a1 true) else ((impl_within.f a1 1 8).bind fun t101 => (if t101 = true then (if a1 < 8 then (if 0 ≤ (wrap64 (8 * a1)) then (impl_PutFixed.j0 k a0 a1 ((shr .i64 a0 (wrap64 (8 * a1))) != 0)) else (none)) else (impl_PutFixed.j0 k a0 a1 false)) else (impl_PutFixed.j0 k a0 a1 true)))) = some (r1, r2) := h
 clear h
 have HC3 := aM H
 clear H
 go_enter Tryd.func69, Tryd.ntmps69
 go_upto_region 1 with (fail)
 go_cut [25] (fun v25 wc => ∃ (kq : Nat) (x25_2 : Bool), v25 = .bool x25_2 ∧ Aside0 (impl_PutFixed.j0 kq a0 a1 x25_2 = some (r1, r2)) ∧ Aside0 (kq ≤ k) ∧ Aside0 (Below w.heap.size w wc))
 case first =>
  have H := HC3.out
  clear HC3
  by_cases c4 : a0 < 0
  · rw [if_pos c4] at H
    have c4b0 : decide (a0 < 0) = true := decide_eq_true c4
    clear c4
    (first | rw [c4b0] | (simp only [i64_w, i32_w]; rw [c4b0]) | skip)
    have H' := aM H
    clear H
    go_wp2
    go_meet
    case rel => exact ⟨_, (true), z4458, H', ⟨zb79b⟩, ⟨z5acd⟩⟩
  · rw [if_neg c4] at H
    have c4b0 : decide (a0 < 0) = false := decide_eq_false c4
    clear c4
    (first | rw [c4b0] | (simp only [i64_w, i32_w]; rw [c4b0]) | skip)
    replace H := Option.bind_eq_some_iff.mp H
    obtain ⟨t101, A50, H⟩ := H
    try dsimp only at H
    have A5 := aM A50
    clear A50
    by_cases c6 : t101 = true
    · subst c6
      have H1 : (if a1 < 8 then (if 0 ≤ (wrap64 (8 * a1)) then (impl_PutFixed.j0 k a0 a1 ((shr .i64 a0 (wrap64 (8 * a1))) != 0)) else (none)) else (impl_PutFixed.j0 k a0 a1 false)) = some (r1, r2) := by rw [if_pos rfl] at H; exact H
      clear H
      have H := H1
      clear H1
      by_cases c7 : a1 < 8
      · rw [if_pos c7] at H
        have c7b0 : decide (a1 < 8) = true := decide_eq_true c7
        clear c7
        obtain ⟨ji8, hji8⟩ : ∃ j_ : Int, (wrap64 (8 * a1)) = j_ := ⟨_, rfl⟩
        replace H : (if 0 ≤ (ji8) then (impl_PutFixed.j0 k a0 a1 ((shr .i64 a0 (ji8)) != 0)) else (none)) = some (r1, r2) := by first | (rw [hji8] at H; exact H) | (simp only [hji8] at H ⊢; exact H)
        (try rw [hji8] at A5)
        have hji8w : (IntKind.i64.wrap (8 * a1)) = ji8 := (i64_w _).trans hji8
        by_cases c9 : 0 ≤ (ji8)
        · rw [if_pos c9] at H
          have c9b0 := eq_true c9
          have c9b1 : decide (0 ≤ (ji8)) = true := decide_eq_true c9
          clear c9
          obtain ⟨ji10, hji10⟩ : ∃ j_ : Int, (shr .i64 a0 (ji8)) = j_ := ⟨_, rfl⟩
          replace H : (impl_PutFixed.j0 k a0 a1 ((ji10) != 0)) = some (r1, r2) := by first | (rw [hji10] at H; exact H) | (simp only [hji10] at H ⊢; exact H)
          (try rw [hji10] at A5)
          have hji10_ : (a0 / 2 ^ min (ji8).toNat 64) = ji10 := hji10
          have hji10z : (ji8) ≤ 64 → (a0 / 2 ^ (ji8).toNat) = ji10 := shr_small hji10
          have H' := aM H
          clear H
          go_wp2_with (first | (go_at_call 61; (with_reducible refine (impl_within.calls a1 1 8 true _ A5.out).mono ?_); rintro e w' ⟨rfl, ⟨nd, rfl⟩⟩))
          go_meet
          case rel => exact ⟨_, (((ji10) != 0)), (by first | rfl | (simp; done) | (simp only [← hji10] <;> (first | rfl | (simp; done))) | (simp [*]; done)), H', ⟨zb79b⟩, ⟨z5acd⟩⟩
        · rw [if_neg c9] at H
          exact absurd H (by simp)
      · rw [if_neg c7] at H
        have c7b0 : decide (a1 < 8) = false := decide_eq_false c7
        clear c7
        have H' := aM H
        clear H
        go_wp2_with (first | (go_at_call 61; (with_reducible refine (impl_within.calls a1 1 8 true _ A5.out).mono ?_); rintro e w' ⟨rfl, ⟨nd, rfl⟩⟩))
        go_meet
        case rel => exact ⟨_, (false), z4458, H', ⟨zb79b⟩, ⟨z5acd⟩⟩
    · replace c6 := Bool.eq_false_iff.mpr c6
      subst c6
      have H1 : (impl_PutFixed.j0 k a0 a1 true) = some (r1, r2) := by rw [if_neg (show ¬ (false = true) by decide)] at H; exact H
      clear H
      have H := H1
      clear H1
      have H' := aM H
      clear H
      go_wp2_with (first | (go_at_call 61; (with_reducible refine (impl_within.calls a1 1 8 false _ A5.out).mono ?_); rintro e w' ⟨rfl, ⟨nd, rfl⟩⟩))
      go_meet
      case rel => exact ⟨_, (true), z4458, H', ⟨zb79b⟩, ⟨z5acd⟩⟩
 case rest =>
  clear HC3
  try clear p2
  try clear c4
  try clear c4b0
  try clear c6
  try clear p6
  try clear c7
  try clear c7b0
  try clear c9
  try clear c9b0
  try clear c9b1
  obtain ⟨kq, x25_2, rfl, HA, HJ2, HB⟩ := hcut
  cases kq with
  | zero => exact absurd HA.out (by simp [impl_PutFixed.j0])
  | succ kj2 =>
   have H := HA.out
   clear HA
   simp only [impl_PutFixed.j0] at H
   by_cases c11 : x25_2 = true
   · subst c11
     have H1 : (some (([] : List Int), false)) = some (r1, r2) := by rw [if_pos rfl] at H; exact H
     clear H
     have H := H1
     clear H1
     simp only [Option.some.injEq, Prod.mk.injEq] at H
     obtain ⟨rfl, rfl⟩ := H
     go_wp2
     go_ret2
     exact ⟨_, z674d, z02fa, z5acd⟩
   · replace c11 := Bool.eq_false_iff.mpr c11
     subst c11
     have H1 : (if 0 ≤ a1 then (if (a1 : Int).toNat ≤ 281474976710656 then (impl_PutFixed.l0 kj2 a0 (List.replicate (a1 : Int).toNat 0) (wrap64 (a1 - 1))) else (none)) else (none)) = some (r1, r2) := by rw [if_neg (show ¬ (false = true) by decide)] at H; exact H
     clear H
     have H := H1
     clear H1
     by_cases c12 : 0 ≤ a1
     · rw [if_pos c12] at H
       have c12b0 := eq_true c12
       have c12b1 : decide (0 ≤ a1) = true := decide_eq_true c12
       clear c12
       by_cases c13 : (a1 : Int).toNat ≤ 281474976710656
       · rw [if_pos c13] at H
         have c13b0 := eq_true c13
         have c13b1 : decide ((a1 : Int).toNat ≤ 281474976710656) = true := decide_eq_true c13
         clear c13
         obtain ⟨y102, hy102⟩ : ∃ y_ : List Int, y_ = (List.replicate (a1 : Int).toNat 0) := ⟨_, rfl⟩
         replace H : (impl_PutFixed.l0 kj2 a0 y102 (wrap64 (a1 - 1))) = some (r1, r2) := by first | (rw [hy102]; with_reducible exact H) | (have H2_ := (Option.bind_some _ _).symm.trans H; rw [hy102]; with_reducible exact H2_) | (have H2_ := (Option.bind_some _ _).symm.trans H; with_reducible exact H2_) | with_reducible exact H | (rw [hy102]; exact H) | exact H
         have Ny102 := aM hy102
         clear hy102
         have H' := aM H
         clear H
         go_wp2_with (first | ((with_reducible refine gate_dst (N := 27) rfl ?_); refine Kd.R_make (Kd.int .u8) _ 5 rfl (N := 27) rfl 22 _ _ rfl a1 rfl rfl Tryd.underlying22 (.int .u8 0) 1 info5 rfl (by decide) (by omega) 0 (ok := fun _ => True) (okp := fun _ => True) rfl (fun _ hk => hk) trivial (of_decide_eq_true z1200) (Nat.le_trans (Nat.mul_le_mul_right _ (of_decide_eq_true z1200 : a1.toNat ≤ 281474976710656)) (by omega)) (Below.refl _ _) (Nat.le_refl _) ?_; intro v103 w14 ho15 hb hg_ hnew_; clear hg_ hnew_; (first | rw [← Ny102.out] at ho15 | (simp only [Int.reduceToNat] at ho15; rw [← Ny102.out] at ho15)); have _ := aM (Kd.R_lower ho15 (below_size hbZ)); have _ := aM (below_step hbZ hb); clear HB; rename_i HO104 HB; clear hb ho15))
         go_loopg [0, 7] kj2 (fun kq v0 v7 w' => ∃ (x0_2 : Int) (x6_2 : List Int) (x7_2 : Int), v0 = .int .i64 x0_2 ∧ v7 = .int .i64 x7_2 ∧ Aside0 (impl_PutFixed.l0 kq x0_2 x6_2 x7_2 = some (r1, r2)) ∧ Aside0 (kq ≤ kj2) ∧ Aside0 (Kd.R (Kd.int .u8) 5 w' w.heap.size (fun _ => True) v103 x6_2) ∧ Aside0 (Below w.heap.size w w'))
         case atStart => exact ⟨(a0), (y102), (wrap64 (a1 - 1)), z4458, z4458, H', ⟨Nat.le_refl _⟩, ⟨rZ HO104.out⟩, ⟨z5acd⟩⟩
         case round =>
          clear H'
          try clear c1
          try clear p2
          try clear c4
          try clear c4b0
          try clear c6
          try clear p6
          try clear c7
          try clear c7b0
          try clear c9
          try clear c9b0
          try clear c9b1
          try clear c11
          try clear c12
          try clear c12b0
          try clear c12b1
          try clear c13
          try clear c13b0
          try clear c13b1
          try clear p2
          try clear p6
          obtain ⟨x0_2, x6_2, x7_2, rfl, rfl, HA, HK2, HO_6, HB⟩ := hrel
          cases gk with
          | zero => exact absurd HA.out (by simp [impl_PutFixed.l0])
          | succ k2 =>
           have H := HA.out
           clear HA
           simp only [impl_PutFixed.l0] at H
           by_cases c16 : x7_2 ≥ 0
           · rw [if_pos c16] at H
             have c16b0 : decide (0 ≤ x7_2) = true := decide_eq_true c16
             clear c16
             by_cases c17 : 0 ≤ x7_2
             · rw [if_pos c17] at H
               have c17b0 : decide (0 ≤ x7_2) = true := decide_eq_true c17
               clear c17
               by_cases c18 : x7_2 < (x6_2.length : Int)
               · rw [if_pos c18] at H
                 have c18b0 : decide (x7_2 < (x6_2.length : Int)) = true := decide_eq_true c18
                 clear c18
                 obtain ⟨y105, hy105⟩ : ∃ y_ : List Int, y_ = (x6_2.set (x7_2 : Int).toNat ((x0_2) % 256)) := ⟨_, rfl⟩
                 replace H : (impl_PutFixed.l0 k2 (x0_2 / 256) y105 (wrap64 (x7_2 - 1))) = some (r1, r2) := by first | (rw [hy105]; with_reducible exact H) | (have H2_ := (Option.bind_some _ _).symm.trans H; rw [hy105]; with_reducible exact H2_) | (have H2_ := (Option.bind_some _ _).symm.trans H; with_reducible exact H2_) | with_reducible exact H | (rw [hy105]; exact H) | exact H
                 have Ny105 := aM hy105
                 clear hy105
                 have H' := aM H
                 clear H
                 have p19 : 0 ≤ (x7_2 : Int) := of_decide_eq_true z1200
                 have q19 : (x7_2 : Int) < ((x6_2.length : Int) : Int) := of_decide_eq_true z1200
                 obtain ⟨go19, co19, eo19, gb19, gl19, cl19, HG19⟩ := Kd.R_form HO_6.out (by omega)
                 (first | cases eo19 | (injection eo19 with ea_ en_ ec_; (first | subst ea_ | (injection ea_ with ea_; subst ea_)); subst ec_; clear en_))
                 have GB19 := aM gb19
                 have GG19 := aM HG19
                 clear gb19 gl19 HG19
                 obtain ⟨hx19_0, hf19_0⟩ := Kd.R_celln 0 HO_6.out (x7_2 : Int) p19 q19
                 replace p19 := eq_true p19
                 replace q19 := eq_true q19
                 have HP20 := Kd.R_putg HO_6.out (x7_2 : Int) ((x0_2) % 256)
                 go_wp2_with (first | ((with_reducible refine gate_store (t := 5) (p := 38) rfl ?_); refine store_event (t := 5) (p := 38) (v := ?vo_w21) (w1 := (wr.setCell ⟨go19, (x7_2 : Int).toNat, none⟩ (.int .u8 ((x0_2) % 256)))) ?hg ?ho ?hn ?hr ?_; (case ho => rfl); (case hg => rfl); (case hn => rfl); (case hr => first | (go_simp; done) | (go_simp; rfl)); intro w21 hw; have hg : wr.grownBy w21 (some go19) := (by rw [hw]; exact HP20.2); have hp_ : Kd.R (Kd.int .u8) 5 w21 w.heap.size (fun _ => True) (.slice (some ⟨go19, 0, none⟩) x6_2.length co19) y105 := (by rw [hw, Ny105.out]; exact HP20.1); clear HP20; have _ := aM hp_; have _ := aM ((by rw [hw]; exact below_set (HB.out) GB19.out : Below w.heap.size w w21)); clear HO_6 HB; rename_i HO_6 HB; clear hg hw hp_))
                 go_roundg k2
                 case measure => have := HJ2.out; have := HK2.out; omega
                 case rel => exact ⟨(x0_2 / 256), (y105), (wrap64 (x7_2 - 1)), z4458, z4458, H', ⟨by have := HJ2.out; have := HK2.out; omega⟩, ⟨rZ HO_6.out⟩, ⟨z5acd⟩⟩
               · rw [if_neg c18] at H
                 exact absurd H (by simp)
             · rw [if_neg c17] at H
               exact absurd H (by simp)
           · rw [if_neg c16] at H
             have c16b0 : decide (0 ≤ x7_2) = false := decide_eq_false c16
             clear c16
             simp only [Option.some.injEq, Prod.mk.injEq] at H
             obtain ⟨rfl, rfl⟩ := H
             go_wp2
             go_ret2
             exact ⟨_, z674d, rZ HO_6.out, z5acd⟩
       · rw [if_neg c13] at H
         exact absurd H (by simp)
     · rw [if_neg c12] at H
       exact absurd H (by simp)

end Go.Proofs.YteogadaloebdaaaDoor.P

-- written by a program of this session's (wip/pp)
namespace Go.Proofs.YteogadaloebdaaaDoor.P
open Go.RowKit Go.Proofs.YteogadaloebdaaaDoorW.PrintWords Go.Proofs.YteogadaloebdaaaDoorW.PrintLast Go.Proofs.YteogadaloebdaaaDoorW.PrintMore
attribute [local go_sem] max2_int min2_int max_two min_two max_three min_three max_four min_four str_geq str_gtr str_leq   -- for this text's walks alone
set_option linter.unusedVariables false
set_option linter.unusedSimpArgs false

/-! ### impl_keyBytes: function 32 -/
def impl_keyBytes.l0 : Nat → List Int → List (S69) → Int → Int → ByteArray → List (S69) → Int → Option (List Int)
 | 0, _, _, _, _, _, _, _ => none
 | k + 1, x3, x14, x15, x16, x102000, x102001, x102002 => if x16 < x15 then (if 0 ≤ x16 then (if x16 < (x14.length : Int) then (if x3.length < 140737488355328 then ((some (x3 ++ [2] : List Int)).bind fun y110 => (if y110.length + ((rd_T69 x14 x16).f0).size < 140737488355328 then ((some (y110 ++ bytesOf ((rd_T69 x14 x16).f0) : List Int)).bind fun y113 => (if y113.length < 140737488355328 then ((some (y113 ++ [1] : List Int)).bind fun y116 => (if y116.length + ((rd_T69 x14 x16).f1).size < 140737488355328 then ((some (y116 ++ bytesOf ((rd_T69 x14 x16).f1) : List Int)).bind fun y119 => (if y119.length < 140737488355328 then (impl_keyBytes.l0 k (y119 ++ [0]) x14 x15 (wrap64 (x16 + 1)) x102000 x102001 x102002) else (none))) else (none))) else (none))) else (none))) else (none)) else (none)) else (none)) else ((impl_PutFixed.f k x102002 8).bind fun bt125 => (if x3.length < 140737488355328 then ((some (x3 ++ [1] : List Int)).bind fun y129 => (if y129.length + bt125.1.length < 140737488355328 then (some (y129 ++ bt125.1)) else (none))) else (none)))
def impl_keyBytes.f (k : Nat) (a0_0 : ByteArray) (l0_1 : List (S69)) (a0_2 : Int) : Option (List Int) := if (a0_0.size : Int) ≤ 140737488355328 then ((some (bytesOf a0_0 : List Int)).bind fun y102 => (if y102.length < 140737488355328 then (impl_keyBytes.l0 k (y102 ++ [0]) l0_1 (l0_1.length : Int) 0 a0_0 l0_1 a0_2) else (none))) else (none)
theorem impl_keyBytes.mono_l : ∀ k, (∀ y0 y1 y2 y3 y4 y5 y6, LeO (impl_keyBytes.l0 k y0 y1 y2 y3 y4 y5 y6) (impl_keyBytes.l0 (k + 1) y0 y1 y2 y3 y4 y5 y6))
 | 0 => fun _ _ _ _ _ _ _ r h => by simp [impl_keyBytes.l0] at h
 | k + 1 => by
  have ih0 := impl_keyBytes.mono_l k
  · intro y0 y1 y2 y3 y4 y5 y6
    unfold impl_keyBytes.l0
    repeat' first
     | (with_reducible first | exact ih0 .. | exact impl_PutFixed.mono .. | exact LeO.refl _ | exact LeO.none _ | refine LeO.ite ?_ ?_ | refine LeO.bind ?_ (fun _ => ?_))
     | exact LeO.none _
     | refine LeO.ite ?_ ?_
     | refine LeO.bind ?_ (fun _ => ?_)
theorem impl_keyBytes.mono : ∀ a0 a1 a2 k, LeO (impl_keyBytes.f k a0 a1 a2) (impl_keyBytes.f (k + 1) a0 a1 a2) := by
 intro a0 a1 a2 k
 have ih0 := impl_keyBytes.mono_l k
 unfold impl_keyBytes.f
 repeat' first
  | (with_reducible first | exact ih0 .. | exact impl_PutFixed.mono .. | exact LeO.refl _ | exact LeO.none _ | refine LeO.ite ?_ ?_ | refine LeO.bind ?_ (fun _ => ?_))
  | exact LeO.none _
  | refine LeO.ite ?_ ?_
  | refine LeO.bind ?_ (fun _ => ?_)
set_option maxHeartbeats 8000000 in
set_option maxRecDepth 100000 in
theorem impl_keyBytes.calls (k : Nat) (a0_0 : ByteArray) (A0_1 : Option Addr) (c0_1 : Nat) (l0_1 : List (S69)) (a0_2 : Int) (r : List Int) (w : World) (hr0_1 : Kd.C k69 w A0_1 l0_1.length l0_1) (hc0_1 : l0_1.length ≤ c0_1) (h : impl_keyBytes.f k a0_0 l0_1 a0_2 = some r) :
 Calls Tryd.prog 32 #[.agg #[.string a0_0, .slice A0_1 l0_1.length c0_1, .int .i64 a0_2]] w fun e w' => ∃ v0_ : Value, e = .returned (v0_) ∧ Kd.V (Kd.int .u8) 5 w' w.heap.size (fun k_ => w.heap.size ≤ k_) v0_ r ∧ Below w.heap.size w w' := by
 have hu25 := Tryd.underlying25
 have hu69 := Tryd.underlying69
 have HR0_1 := aM hr0_1
 have HC0_1 := aM hc0_1
 clear hr0_1 hc0_1
 have HB := aM (Below.refl w.heap.size w)
 have H : (if (a0_0.size : Int) ≤ 140737488355328 then ((some (bytesOf a0_0 : List Int)).bind fun y102 => (if y102.length < 140737488355328 then (impl_keyBytes.l0 k (y102 ++ [0]) l0_1 (l0_1.length : Int) 0 a0_0 l0_1 a0_2) else (none))) else (none)) = some r := h
 clear h
 by_cases c2 : (a0_0.size : Int) ≤ 140737488355328
 · rw [if_pos c2] at H
   have c2b0 := eq_true c2
   have c2b1 : decide ((a0_0.size : Int) ≤ 140737488355328) = true := decide_eq_true c2
   clear c2
   obtain ⟨y102, hy102⟩ : ∃ y_ : List Int, y_ = (bytesOf a0_0) := ⟨_, rfl⟩
   replace H : (if y102.length < 140737488355328 then (impl_keyBytes.l0 k (y102 ++ [0]) l0_1 (l0_1.length : Int) 0 a0_0 l0_1 a0_2) else (none)) = some r := by first | (rw [hy102]; with_reducible exact H) | (have H2_ := (Option.bind_some _ _).symm.trans H; rw [hy102]; with_reducible exact H2_) | (have H2_ := (Option.bind_some _ _).symm.trans H; with_reducible exact H2_) | with_reducible exact H | (rw [hy102]; exact H) | exact H
   have Ny102 := aM hy102
   clear hy102
   by_cases c3 : y102.length < 140737488355328
   · rw [if_pos c3] at H
     have LMc3 := aM c3
     clear c3
     obtain ⟨y105, hy105⟩ : ∃ y_ : List Int, y_ = (y102 ++ [0]) := ⟨_, rfl⟩
     replace H : (impl_keyBytes.l0 k y105 l0_1 (l0_1.length : Int) 0 a0_0 l0_1 a0_2) = some r := by first | (rw [hy105]; with_reducible exact H) | (have H2_ := (Option.bind_some _ _).symm.trans H; rw [hy105]; with_reducible exact H2_) | (have H2_ := (Option.bind_some _ _).symm.trans H; with_reducible exact H2_) | with_reducible exact H | (rw [hy105]; exact H) | exact H
     have Ny105 := aM hy105
     clear hy105
     have H' := aM H
     clear H
     go_enter Tryd.func32, Tryd.ntmps32
     go_wp2_with (first | ((with_reducible refine gate_dst (N := 1) rfl ?_); refine box_event ?hg (N := 1) ?hd (cs := #[.string a0_0, .slice A0_1 l0_1.length c0_1, .int .i64 a0_2]) (t := 25) ?hr ?_; (case hd => rfl); (case hg => rfl); (case hr => first | (go_simp; done) | (go_simp; rfl)); intro gb101 hg w4 hbox hb; have _ := aM (below_step hbZ hb); have _ := aM hbox; have _ := szZ hg; have _ := szZ hg; clear HB; rename_i HB BK101 GW101 GE101; clear hb hbox hg; obtain ⟨hcz5_0, hcz5_1, hcz5_2, hfz5_0, hfz5_1, hfz5_2⟩ := cellsZ3 BK101.out) | ((with_reducible refine gate_dst (N := 10) rfl ?_); refine Kt.R_bytes _ 5 rfl (N := 10) rfl 9 22 Tryd.underlying9 Tryd.underlying22 Tryd.underlying5 _ rfl a0_0 rfl (ok := fun _ => True) trivial (of_decide_eq_true z1200) (Below.refl _ _) (Nat.le_refl _) ?_; intro v103 w6 ho7 hb hg_ hnew_; clear hg_ hnew_; (first | rw [← Ny102.out] at ho7 | (simp only [Int.reduceToNat] at ho7; rw [← Ny102.out] at ho7)); have _ := aM (Kt.R_lower ho7 (below_size hbZ)); have _ := bB gb101 hb; have _ := aM (below_step hbZ hb); clear BK101 HB; rename_i HO104 BK101 HB; clear hb ho7) | ((with_reducible refine gate_builtin (b := .append) (xs := #[.tmp 10, .tmp 11]) rfl ?_); at_builtin; refine Kt.R_append (Kd.int .u8) (w0 := w) w.heap.size rfl (.tmp 10) (.tmp 11) 22 5 (.int .u8 0) 1 rfl Tryd.underlying22 info5 rfl (by decide) (by omega) v103 y102 0 [.int .u8 0] (fun _ => True) (fun _ => False) rfl rfl ?aP (fun _ hk => hk.elim) ?aF ?aO ?aB ?aS ?aL ?_; (case aP => exact rfl); (case aB => exact hbZ); (case aF => exact (fun _ _ => trivial)); (case aO => exact (by (with_reducible repeat (first | apply Kt.R_alloc | apply Kt.R_drewN | apply Kt.R_drew)); exact HO104.out)); (case aS => exact (below_size hbZ)); (case aL => have := LMc3.out; omega); intro v106 w8 ho hb hg hat; rw [← Ny105.out] at ho; have _ := aM (blk_grown (g := gb101) bkZ hg (Kt.R_ne HO104.out BK101.out (by decide))); have _ := aM hb; have _ := aM ho; clear BK101 HB HO104; rename_i BK101 HB HO107; clear ho hb hg hat; obtain ⟨hcz9_0, hcz9_1, hcz9_2, hfz9_0, hfz9_1, hfz9_2⟩ := cellsZ3 BK101.out))
     go_loopg [3, 16] k (fun kq v3 v16 w' => ∃ (x3_1 : List Int) (x16_1 : Int), v16 = .int .i64 x16_1 ∧ Aside0 (impl_keyBytes.l0 kq x3_1 l0_1 (l0_1.length : Int) x16_1 a0_0 l0_1 a0_2 = some r) ∧ Aside0 (kq ≤ k) ∧ Aside0 (Kt.R (Kd.int .u8) 5 w' w.heap.size (fun _ => True) v3 x3_1) ∧ Aside0 (w'.heap[gb101]? = some (.cells #[.string a0_0, (.slice A0_1 l0_1.length c0_1), .int .i64 a0_2] 25 (0, 0))) ∧ Aside0 (Below w.heap.size w w'))
     case atStart => exact ⟨(y105), (0), z4458, H', ⟨Nat.le_refl _⟩, ⟨by (with_reducible repeat (first | apply Kt.R_alloc | apply Kt.R_drewN | apply Kt.R_drew)); exact HO107.out⟩, ⟨bkZ⟩, ⟨zcb41⟩⟩
     case round =>
      clear H'
      try clear c2
      try clear c2b0
      try clear c2b1
      try clear p2
      try clear c3
      try clear hcz5_0 hcz5_1 hcz5_2
      try clear hcz9_0 hcz9_1 hcz9_2
      try clear hfz5_0 hfz5_1 hfz5_2
      try clear hfz9_0 hfz9_1 hfz9_2
      obtain ⟨x3_1, x16_1, rfl, HA, HK1, HO_3, BK101, HB⟩ := hrel
      cases gk with
      | zero => exact absurd HA.out (by simp [impl_keyBytes.l0])
      | succ k1 =>
       have H := HA.out
       clear HA
       simp only [impl_keyBytes.l0] at H
       by_cases c10 : x16_1 < (l0_1.length : Int)
       · rw [if_pos c10] at H
         have c10b0 : decide (x16_1 < (l0_1.length : Int)) = true := decide_eq_true c10
         clear c10
         by_cases c11 : 0 ≤ x16_1
         · rw [if_pos c11] at H
           have c11b0 : decide (0 ≤ x16_1) = true := decide_eq_true c11
           clear c11
           by_cases c12 : x16_1 < (l0_1.length : Int)
           · rw [if_pos c12] at H
             have c12b0 : decide (x16_1 < (l0_1.length : Int)) = true := decide_eq_true c12
             clear c12
             by_cases c13 : x3_1.length < 140737488355328
             · rw [if_pos c13] at H
               have LMc13 := aM c13
               clear c13
               obtain ⟨y110, hy110⟩ : ∃ y_ : List Int, y_ = (x3_1 ++ [2]) := ⟨_, rfl⟩
               replace H : (if y110.length + ((rd_T69 l0_1 x16_1).f0).size < 140737488355328 then ((some (y110 ++ bytesOf ((rd_T69 l0_1 x16_1).f0) : List Int)).bind fun y113 => (if y113.length < 140737488355328 then ((some (y113 ++ [1] : List Int)).bind fun y116 => (if y116.length + ((rd_T69 l0_1 x16_1).f1).size < 140737488355328 then ((some (y116 ++ bytesOf ((rd_T69 l0_1 x16_1).f1) : List Int)).bind fun y119 => (if y119.length < 140737488355328 then (impl_keyBytes.l0 k1 (y119 ++ [0]) l0_1 (l0_1.length : Int) (wrap64 (x16_1 + 1)) a0_0 l0_1 a0_2) else (none))) else (none))) else (none))) else (none)) = some r := by first | (rw [hy110]; with_reducible exact H) | (have H2_ := (Option.bind_some _ _).symm.trans H; rw [hy110]; with_reducible exact H2_) | (have H2_ := (Option.bind_some _ _).symm.trans H; with_reducible exact H2_) | with_reducible exact H | (rw [hy110]; exact H) | exact H
               have Ny110 := aM hy110
               clear hy110
               by_cases c14 : y110.length + ((rd_T69 l0_1 x16_1).f0).size < 140737488355328
               · rw [if_pos c14] at H
                 have LMc14 := aM c14
                 clear c14
                 obtain ⟨y113, hy113⟩ : ∃ y_ : List Int, y_ = (y110 ++ bytesOf ((rd_T69 l0_1 x16_1).f0)) := ⟨_, rfl⟩
                 replace H : (if y113.length < 140737488355328 then ((some (y113 ++ [1] : List Int)).bind fun y116 => (if y116.length + ((rd_T69 l0_1 x16_1).f1).size < 140737488355328 then ((some (y116 ++ bytesOf ((rd_T69 l0_1 x16_1).f1) : List Int)).bind fun y119 => (if y119.length < 140737488355328 then (impl_keyBytes.l0 k1 (y119 ++ [0]) l0_1 (l0_1.length : Int) (wrap64 (x16_1 + 1)) a0_0 l0_1 a0_2) else (none))) else (none))) else (none)) = some r := by first | (rw [hy113]; with_reducible exact H) | (have H2_ := (Option.bind_some _ _).symm.trans H; rw [hy113]; with_reducible exact H2_) | (have H2_ := (Option.bind_some _ _).symm.trans H; with_reducible exact H2_) | with_reducible exact H | (rw [hy113]; exact H) | exact H
                 have Ny113 := aM hy113
                 clear hy113
                 by_cases c15 : y113.length < 140737488355328
                 · rw [if_pos c15] at H
                   have LMc15 := aM c15
                   clear c15
                   obtain ⟨y116, hy116⟩ : ∃ y_ : List Int, y_ = (y113 ++ [1]) := ⟨_, rfl⟩
                   replace H : (if y116.length + ((rd_T69 l0_1 x16_1).f1).size < 140737488355328 then ((some (y116 ++ bytesOf ((rd_T69 l0_1 x16_1).f1) : List Int)).bind fun y119 => (if y119.length < 140737488355328 then (impl_keyBytes.l0 k1 (y119 ++ [0]) l0_1 (l0_1.length : Int) (wrap64 (x16_1 + 1)) a0_0 l0_1 a0_2) else (none))) else (none)) = some r := by first | (rw [hy116]; with_reducible exact H) | (have H2_ := (Option.bind_some _ _).symm.trans H; rw [hy116]; with_reducible exact H2_) | (have H2_ := (Option.bind_some _ _).symm.trans H; with_reducible exact H2_) | with_reducible exact H | (rw [hy116]; exact H) | exact H
                   have Ny116 := aM hy116
                   clear hy116
                   by_cases c16 : y116.length + ((rd_T69 l0_1 x16_1).f1).size < 140737488355328
                   · rw [if_pos c16] at H
                     have LMc16 := aM c16
                     clear c16
                     obtain ⟨y119, hy119⟩ : ∃ y_ : List Int, y_ = (y116 ++ bytesOf ((rd_T69 l0_1 x16_1).f1)) := ⟨_, rfl⟩
                     replace H : (if y119.length < 140737488355328 then (impl_keyBytes.l0 k1 (y119 ++ [0]) l0_1 (l0_1.length : Int) (wrap64 (x16_1 + 1)) a0_0 l0_1 a0_2) else (none)) = some r := by first | (rw [hy119]; with_reducible exact H) | (have H2_ := (Option.bind_some _ _).symm.trans H; rw [hy119]; with_reducible exact H2_) | (have H2_ := (Option.bind_some _ _).symm.trans H; with_reducible exact H2_) | with_reducible exact H | (rw [hy119]; exact H) | exact H
                     have Ny119 := aM hy119
                     clear hy119
                     by_cases c17 : y119.length < 140737488355328
                     · rw [if_pos c17] at H
                       have LMc17 := aM c17
                       clear c17
                       obtain ⟨y122, hy122⟩ : ∃ y_ : List Int, y_ = (y119 ++ [0]) := ⟨_, rfl⟩
                       replace H : (impl_keyBytes.l0 k1 y122 l0_1 (l0_1.length : Int) (wrap64 (x16_1 + 1)) a0_0 l0_1 a0_2) = some r := by first | (rw [hy122]; with_reducible exact H) | (have H2_ := (Option.bind_some _ _).symm.trans H; rw [hy122]; with_reducible exact H2_) | (have H2_ := (Option.bind_some _ _).symm.trans H; with_reducible exact H2_) | with_reducible exact H | (rw [hy122]; exact H) | exact H
                       have Ny122 := aM hy122
                       clear hy122
                       have H' := aM H
                       clear H
                       have p108 : 0 ≤ (x16_1 : Int) := of_decide_eq_true z1200
                       have q108 : x16_1 < (l0_1.length : Int) := of_decide_eq_true z1200
                       obtain ⟨ad108, e108, hx108_0, hx108_1⟩ := at_T69 HR0_1.out x16_1 p108 q108
                       cases e108
                       replace hx108_0 := (HB.out.cell (World.block_lt_of_cell? w _ hx108_0)).trans hx108_0
                       replace hx108_1 := (HB.out.cell (World.block_lt_of_cell? w _ hx108_1)).trans hx108_1
                       replace p108 := eq_true p108
                       replace q108 := eq_true q108
                       go_wp2_with (first | ((with_reducible refine gate_dst (N := 5) rfl ?_); refine box_event ?hg (N := 5) ?hd (cs := #[.string (⟨#[]⟩ : ByteArray), .string (⟨#[]⟩ : ByteArray)]) (t := 69) ?hr ?_; (case hd => rfl); (case hg => rfl); (case hr => first | (go_simp; done) | (go_simp; rfl)); intro gb109 hg w18 hbox hb; have _ := aM (Kt.R_below (by (with_reducible repeat (first | apply Kt.R_alloc | apply Kt.R_drewN | apply Kt.R_drew)); exact HO_3.out) hb); have _ := bB gb101 hb; have _ := aM (below_step hbZ hb); have _ := aM hbox; have _ := szZ hg; have _ := szZ hg; have ⟨_, _⟩ := nbB gb101 hg; clear HO_3 BK101 HB; rename_i HO_3 BK101 HB BK109 GW109 GE109 NB101_109 NB109_101; clear hb hbox hg; have hnb19 := NB109_101.out; have hnc19 := NB101_109.out; obtain ⟨hcz20_0, hcz20_1, hfz20_0, hfz20_1⟩ := cellsZ2 BK109.out) | ((with_reducible refine gate_builtin (b := .append) (xs := #[.tmp 20, .tmp 21]) rfl ?_); at_builtin; refine Kt.R_append (Kd.int .u8) (w0 := w) w.heap.size rfl (.tmp 20) (.tmp 21) 22 5 (.int .u8 0) 1 rfl Tryd.underlying22 info5 rfl (by decide) (by omega) u3 x3_1 2 [.int .u8 2] (fun _ => True) (fun _ => False) rfl (by first | (go_simp; done) | (go_simp; rfl)) ?aP (fun _ hk => hk.elim) ?aF ?aO ?aB ?aS ?aL ?_; (case aP => exact rfl); (case aB => exact hbZ); (case aF => exact (fun _ _ => trivial)); (case aO => exact (by (with_reducible repeat (first | apply Kt.R_alloc | apply Kt.R_drewN | apply Kt.R_drew)); exact Kt.R_mono (Kt.R_far (p := ⟨gb109, 1, none⟩) (Kt.R_far (p := ⟨gb109, 0, none⟩) (Kt.R_types HO_3.out BK109.out (by decide)) (fun _ hk => hk.2) (.string ((rd_T69 l0_1 x16_1).f0))) (fun _ hk => hk.2) (.string ((rd_T69 l0_1 x16_1).f1))) (fun _ hk => trivial))); (case aS => exact (below_size hbZ)); (case aL => have := LMc13.out; omega); intro v111 w21 ho hb hg hat; rw [← Ny110.out] at ho; have _ := aM (blk_grown (g := gb101) bkZ hg (Kt.R_ne HO_3.out BK101.out (by decide))); have _ := aM (blk_grown (g := gb109) (o := .cells #[.string ((rd_T69 l0_1 x16_1).f0), .string ((rd_T69 l0_1 x16_1).f1)] 69 (0, 0)) bkZ hg (Kt.R_ne HO_3.out BK109.out (by decide))); have _ := aM hb; have _ := aM ho; clear BK101 BK109 HB HO_3; rename_i BK101 BK109 HB HO112; clear ho hb hg hat; obtain ⟨hcz22_0, hcz22_1, hfz22_0, hfz22_1⟩ := cellsZ2 BK109.out) | (at_builtin; refine Kt.print_append_str (w0 := w) w.heap.size rfl (.tmp 23) _ 22 9 5 rfl Tryd.underlying22 Tryd.underlying9 info5 v111 y110 ((rd_T69 l0_1 x16_1).f0) rfl rfl ?aO ?aB ?aS ?aL ?_; (case aB => exact hbZ); (case aO => exact (Kt.own_of_R (by (with_reducible repeat (first | apply Kt.R_alloc | apply Kt.R_drewN | apply Kt.R_drew)); exact HO112.out))); (case aS => exact (below_size hbZ)); (case aL => have := LMc14.out; omega); intro v114 w23 ho0 hb hg; have ho := Kt.R_of_own (h1 := fun _ => rfl) (ok := fun _ => True) ho0 (fun _ _ => trivial); clear ho0; have hat := True.intro; rw [← Ny113.out] at ho; change Kt.R (Kd.int .u8) 5 w23 w.heap.size (fun _ => True) v114 y113 at ho; have _ := aM (blk_grown (g := gb101) bkZ hg (Kt.R_ne HO112.out BK101.out (by decide))); have _ := aM (blk_grown (g := gb109) bkZ hg (Kt.R_ne HO112.out BK109.out (by decide))); have _ := aM hb; have _ := aM ho; clear BK101 BK109 HB HO112; rename_i BK101 BK109 HB HO115; clear ho hb hg hat) | ((with_reducible refine gate_builtin (b := .append) (xs := #[.tmp 26, .tmp 27]) rfl ?_); at_builtin; refine Kt.R_append (Kd.int .u8) (w0 := w) w.heap.size rfl (.tmp 26) (.tmp 27) 22 5 (.int .u8 0) 1 rfl Tryd.underlying22 info5 rfl (by decide) (by omega) v114 y113 1 [.int .u8 1] (fun _ => True) (fun _ => False) rfl rfl ?aP (fun _ hk => hk.elim) ?aF ?aO ?aB ?aS ?aL ?_; (case aP => exact rfl); (case aB => exact hbZ); (case aF => exact (fun _ _ => trivial)); (case aO => exact (by (with_reducible repeat (first | apply Kt.R_alloc | apply Kt.R_drewN | apply Kt.R_drew)); exact HO115.out)); (case aS => exact (below_size hbZ)); (case aL => have := LMc15.out; omega); intro v117 w24 ho hb hg hat; rw [← Ny116.out] at ho; have _ := aM (blk_grown (g := gb101) bkZ hg (Kt.R_ne HO115.out BK101.out (by decide))); have _ := aM (blk_grown (g := gb109) bkZ hg (Kt.R_ne HO115.out BK109.out (by decide))); have _ := aM hb; have _ := aM ho; clear BK101 BK109 HB HO115; rename_i BK101 BK109 HB HO118; clear ho hb hg hat; obtain ⟨hcz25_0, hcz25_1, hfz25_0, hfz25_1⟩ := cellsZ2 BK109.out) | (at_builtin; refine Kt.print_append_str (w0 := w) w.heap.size rfl (.tmp 29) _ 22 9 5 rfl Tryd.underlying22 Tryd.underlying9 info5 v117 y116 ((rd_T69 l0_1 x16_1).f1) rfl rfl ?aO ?aB ?aS ?aL ?_; (case aB => exact hbZ); (case aO => exact (Kt.own_of_R (by (with_reducible repeat (first | apply Kt.R_alloc | apply Kt.R_drewN | apply Kt.R_drew)); exact HO118.out))); (case aS => exact (below_size hbZ)); (case aL => have := LMc16.out; omega); intro v120 w26 ho0 hb hg; have ho := Kt.R_of_own (h1 := fun _ => rfl) (ok := fun _ => True) ho0 (fun _ _ => trivial); clear ho0; have hat := True.intro; rw [← Ny119.out] at ho; change Kt.R (Kd.int .u8) 5 w26 w.heap.size (fun _ => True) v120 y119 at ho; have _ := aM (blk_grown (g := gb101) bkZ hg (Kt.R_ne HO118.out BK101.out (by decide))); have _ := aM (blk_grown (g := gb109) bkZ hg (Kt.R_ne HO118.out BK109.out (by decide))); have _ := aM hb; have _ := aM ho; clear BK101 BK109 HB HO118; rename_i BK101 BK109 HB HO121; clear ho hb hg hat) | ((with_reducible refine gate_builtin (b := .append) (xs := #[.tmp 32, .tmp 33]) rfl ?_); at_builtin; refine Kt.R_append (Kd.int .u8) (w0 := w) w.heap.size rfl (.tmp 32) (.tmp 33) 22 5 (.int .u8 0) 1 rfl Tryd.underlying22 info5 rfl (by decide) (by omega) v120 y119 0 [.int .u8 0] (fun _ => True) (fun _ => False) rfl rfl ?aP (fun _ hk => hk.elim) ?aF ?aO ?aB ?aS ?aL ?_; (case aP => exact rfl); (case aB => exact hbZ); (case aF => exact (fun _ _ => trivial)); (case aO => exact (by (with_reducible repeat (first | apply Kt.R_alloc | apply Kt.R_drewN | apply Kt.R_drew)); exact HO121.out)); (case aS => exact (below_size hbZ)); (case aL => have := LMc17.out; omega); intro v123 w27 ho hb hg hat; rw [← Ny122.out] at ho; have _ := aM (blk_grown (g := gb101) bkZ hg (Kt.R_ne HO121.out BK101.out (by decide))); have _ := aM (blk_grown (g := gb109) bkZ hg (Kt.R_ne HO121.out BK109.out (by decide))); have _ := aM hb; have _ := aM ho; clear BK101 BK109 HB HO121; rename_i BK101 BK109 HB HO124; clear ho hb hg hat))
                       go_roundg k1
                       case measure => have := HK1.out; omega
                       case rel => exact ⟨(y122), (wrap64 (x16_1 + 1)), z4458, H', ⟨zfb39⟩, ⟨by (with_reducible repeat (first | apply Kt.R_alloc | apply Kt.R_drewN | apply Kt.R_drew)); exact HO124.out⟩, ⟨bkZ⟩, ⟨zcb41⟩⟩
                     · rw [if_neg c17] at H
                       exact absurd H (by simp)
                   · rw [if_neg c16] at H
                     exact absurd H (by simp)
                 · rw [if_neg c15] at H
                   exact absurd H (by simp)
               · rw [if_neg c14] at H
                 exact absurd H (by simp)
             · rw [if_neg c13] at H
               exact absurd H (by simp)
           · rw [if_neg c12] at H
             exact absurd H (by simp)
         · rw [if_neg c11] at H
           exact absurd H (by simp)
       · rw [if_neg c10] at H
         have c10b0 : decide (x16_1 < (l0_1.length : Int)) = false := decide_eq_false c10
         clear c10
         replace H := Option.bind_eq_some_iff.mp H
         obtain ⟨⟨t125, t126⟩, A280, H⟩ := H
         try dsimp only at H
         have A28 := aM A280
         clear A280
         by_cases c29 : x3_1.length < 140737488355328
         · rw [if_pos c29] at H
           have LMc29 := aM c29
           clear c29
           obtain ⟨y129, hy129⟩ : ∃ y_ : List Int, y_ = (x3_1 ++ [1]) := ⟨_, rfl⟩
           replace H : (if y129.length + t125.length < 140737488355328 then (some (y129 ++ t125)) else (none)) = some r := by first | (rw [hy129]; with_reducible exact H) | (have H2_ := (Option.bind_some _ _).symm.trans H; rw [hy129]; with_reducible exact H2_) | (have H2_ := (Option.bind_some _ _).symm.trans H; with_reducible exact H2_) | with_reducible exact H | (rw [hy129]; exact H) | exact H
           have Ny129 := aM hy129
           clear hy129
           by_cases c30 : y129.length + t125.length < 140737488355328
           · rw [if_pos c30] at H
             have LMc30 := aM c30
             clear c30
             obtain ⟨y132, hy132⟩ : ∃ y_ : List Int, y_ = (y129 ++ t125) := ⟨_, rfl⟩
             replace H : (some y132) = some r := by first | (rw [hy132]; with_reducible exact H) | (have H2_ := (Option.bind_some _ _).symm.trans H; rw [hy132]; with_reducible exact H2_) | (have H2_ := (Option.bind_some _ _).symm.trans H; with_reducible exact H2_) | with_reducible exact H | (rw [hy132]; exact H) | exact H
             have Ny132 := aM hy132
             clear hy132
             obtain rfl := Option.some.inj H
             obtain ⟨hcz31_0, hcz31_1, hcz31_2, hfz31_0, hfz31_1, hfz31_2⟩ := cellsZ3 BK101.out
             go_wp2_with (first | ((with_reducible refine gate_callee (f := 69) rfl ?_); refine goesL_ (some 39) rfl rfl Tryd.func69 (by kernel_rfl) rfl #[.int .i64 a0_2, .int .i64 8] rfl zee81 ?_; (with_reducible refine (impl_PutFixed.calls k1 a0_2 8 t125 t126 _ A28.out).mono ?_); rintro e w32 ⟨v127, rfl, ho0, hb⟩; refine ⟨_, rfl, ?_⟩; replace ho0 := Kt.R_of_R ho0; have _ := aM (Kt.R_elder' (by (with_reducible repeat (first | apply Kt.R_alloc | apply Kt.R_drewN | apply Kt.R_drew)); exact HO_3.out) (Kt.R_base ho0) hb); have _ := aM (Kt.R_lower (Kt.R_new' ho0 (Kt.R_lt (by (with_reducible repeat (first | apply Kt.R_alloc | apply Kt.R_drewN | apply Kt.R_drew)); exact HO_3.out))) (below_size hbZ)); have _ := bB gb101 hb; have _ := aM (below_step hbZ hb); clear HO_3 BK101 HB; rename_i HO_3 HO128 BK101 HB; (try clear hb); (try clear ho0)) | ((with_reducible refine gate_builtin (b := .append) (xs := #[.tmp 42, .tmp 43]) rfl ?_); at_builtin; refine Kt.R_append (Kd.int .u8) (w0 := w) w.heap.size rfl (.tmp 42) (.tmp 43) 22 5 (.int .u8 0) 1 rfl Tryd.underlying22 info5 rfl (by decide) (by omega) u3 x3_1 1 [.int .u8 1] (fun k_ => some k_ ≠ (v127 : Value).ownBlock) (fun _ => False) rfl rfl ?aP (fun _ hk => hk.elim) ?aF ?aO ?aB ?aS ?aL ?_; (case aP => exact rfl); (case aB => exact hbZ); (case aF => exact (fun k_ hk => Kd.fresh' (Kt.R_lt (by (with_reducible repeat (first | apply Kt.R_alloc | apply Kt.R_drewN | apply Kt.R_drew)); exact HO128.out)) k_ hk)); (case aO => exact (by (with_reducible repeat (first | apply Kt.R_alloc | apply Kt.R_drewN | apply Kt.R_drew)); exact Kt.R_mono HO_3.out (fun _ hk => hk.2))); (case aS => exact (below_size hbZ)); (case aL => have := LMc29.out; omega); intro v130 w33 ho hb hg hat; rw [← Ny129.out] at ho; have _ := aM (blk_grown (g := gb101) bkZ hg (Kt.R_ne HO_3.out BK101.out (by decide))); have _ := aM (Kt.R_after (ok := (fun _ => True)) (by (with_reducible repeat (first | apply Kt.R_alloc | apply Kt.R_drewN | apply Kt.R_drew)); exact HO128.out) hg hat); have _ := aM hb; have _ := aM ho; clear BK101 HO128 HB HO_3; rename_i BK101 HO128 HB HO131; clear ho hb hg hat; obtain ⟨Ao35, co35, eo35⟩ := Kt.R_slice HO128.out; subst eo35) | ((with_reducible refine gate_builtin (b := .append) (xs := #[.tmp 44, .tmp 45]) rfl ?_); at_builtin; refine Kt.R_append_rows (Kd.int .u8) (w0 := w) w.heap.size rfl (.tmp 44) (.tmp 45) 22 5 (.int .u8 0) 1 rfl Tryd.underlying22 info5 rfl (by decide) (by omega) v130 y129 t125 _ _ _ (fun k_ => some k_ ≠ (.slice Ao35 t125.length co35 : Value).ownBlock) (fun _ => False) rfl rfl ?aO ?aR (fun _ _ h => h) (fun _ h => h.elim) ?aF ?aB ?aS ?aL ?_; (case aR => repeat (first | exact (Kt.R_reads' HO128.out).2.2 | (with_reducible refine Kd.C_alloc ?_ _) | (with_reducible refine Kd.C_drewN ?_ _) | (with_reducible refine Kd.C_drew ?_))); (case aB => exact hbZ); (case aF => exact (fun k_ hk => Kd.fresh' (Kt.R_lt (by (with_reducible repeat (first | apply Kt.R_alloc | apply Kt.R_drewN | apply Kt.R_drew)); exact HO128.out)) k_ hk)); (case aO => exact (by (with_reducible repeat (first | apply Kt.R_alloc | apply Kt.R_drewN | apply Kt.R_drew)); exact HO131.out)); (case aS => exact (below_size hbZ)); (case aL => have := LMc30.out; omega); intro v133 w34 ho hb hg hat; rw [← Ny132.out] at ho; have _ := aM (blk_grown (g := gb101) bkZ hg (Kt.R_ne HO131.out BK101.out (by decide))); have _ := aM (Kt.R_after (ok := (fun _ => True)) (by (with_reducible repeat (first | apply Kt.R_alloc | apply Kt.R_drewN | apply Kt.R_drew)); exact HO128.out) hg hat); have _ := aM hb; have _ := aM ho; clear BK101 HO128 HB HO131; rename_i BK101 HO128 HB HO134; clear ho hb hg hat))
             go_ret
             exact ⟨_, z674d, by exact HO134.out.toV, zcb41⟩
           · rw [if_neg c30] at H
             exact absurd H (by simp)
         · rw [if_neg c29] at H
           exact absurd H (by simp)
   · rw [if_neg c3] at H
     exact absurd H (by simp)
 · rw [if_neg c2] at H
   exact absurd H (by simp)

end Go.Proofs.YteogadaloebdaaaDoor.P
