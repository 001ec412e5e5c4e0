/- Part 4 of the walks and words that Raise uses. No conditions of its own. -/
import Derived.Shelf.Strings.SlTrimAscii
import Derived.Shelf.Strings.Trim
import Derived.Shelf.Small.Utf8
import Derived.Shelf.Small.Strs
import Derived.Shelf.Strings.Search1
import Derived.Shelf.Unicode.Decode
import Derived.Shelf.Strings.Runes
import Derived.Shelf.Strings.AsciiSet
import Derived.Shelf.Unicode.DecodeSlow
import Derived.Shelf.Unicode.DecodeAny
import Derived.Shelf.Unicode.DecodeLast
import Derived.Ground.Names2Prog
import Derived.Shelf.Slices.Clone
import Derived.Shelf.Slices.SearchI
import Derived.Ground.SlgnProg
import Derived.Shelf.SlicesE.Clone
import Derived.Test.YtkgmoajdcibafaaDoorProg
import Derived.Lib.SlTrimSet
import Derived.Test.YtkgmoajdcibafaaDoorMRaise3

-- written by a program of this session's (wip/pp)
namespace Go.Proofs.YtkgmoajdcibafaaDoor.P
open Go.RowKit Go.Proofs.YtkgmoajdcibafaaDoorW.PrintWords Go.Proofs.YtkgmoajdcibafaaDoorW.PrintLast Go.Proofs.YtkgmoajdcibafaaDoorW.PrintMore
attribute [local go_sem] max2_int min2_int max_two min_two max_three min_three max_four min_four str_geq str_gtr str_leq   -- for this text's walks alone
set_option linter.unusedVariables false
set_option linter.unusedSimpArgs false

/-! ### spec_RaiseMark: function 21 -/
def spec_RaiseMark.f (k : Nat) (a0_0 : Int) (a0_1 : Int) (a0_2 : Int) (l0_3 : List (S37)) (a1 : Int) : Option (Int × Int × Int × (List (S37)) × Int) := (spec_GoodBoard.f k a0_0 a0_1 a0_2 l0_3).bind fun t103 => (if t103 = true then ((spec_l11Own.f k a0_0 a0_1 a0_2 l0_3).bind fun bt104 => ((spec_l11Time.f a1).bind fun t110 => (if t110 = true then (if a1 < bt104.2.2.1 then (some (bt104.1, bt104.2.1, bt104.2.2.1, bt104.2.2.2, 1)) else (some (bt104.1, bt104.2.1, a1, bt104.2.2.2, 0))) else (some (bt104.1, bt104.2.1, bt104.2.2.1, bt104.2.2.2, 1))))) else (some (0, 0, 0, ([] : List (S37)), 1)))
theorem spec_RaiseMark.mono : ∀ a0 a1 a2 a3 a4 k, LeO (spec_RaiseMark.f k a0 a1 a2 a3 a4) (spec_RaiseMark.f (k + 1) a0 a1 a2 a3 a4) := by
 intro a0 a1 a2 a3 a4 k
 unfold spec_RaiseMark.f
 repeat' first
  | (with_reducible first | exact spec_GoodBoard.mono .. | exact spec_l11Own.mono .. | exact LeO.refl _ | exact LeO.none _ | refine LeO.ite ?_ ?_ | refine LeO.bind ?_ (fun _ => ?_))
  | exact LeO.none _
  | refine LeO.ite ?_ ?_
  | refine LeO.bind ?_ (fun _ => ?_)
set_option maxHeartbeats 8000000 in
set_option maxRecDepth 100000 in
theorem spec_RaiseMark.calls (k : Nat) (a0_0 : Int) (a0_1 : Int) (a0_2 : Int) (A0_3 : Option Addr) (c0_3 : Nat) (l0_3 : List (S37)) (a1 : Int) (r1 : Int) (r2 : Int) (r3 : Int) (r4 : List (S37)) (r5 : Int) (w : World) (hr0_3 : Kd.C k37 w A0_3 l0_3.length l0_3) (hc0_3 : l0_3.length ≤ c0_3) (h : spec_RaiseMark.f k a0_0 a0_1 a0_2 l0_3 a1 = some (r1, r2, r3, r4, r5)) :
 Calls Tryd.prog 21 #[.agg #[.int .i64 a0_0, .int .i64 a0_1, .int .i64 a0_2, .slice A0_3 l0_3.length c0_3], .int .i64 a1] w fun e w' => ∃ v3_ : Value, e = .returned (.tuple #[.agg #[.int .i64 r1, .int .i64 r2, .int .i64 r3, v3_], .int .i64 r5]) ∧ Kd.S k37 37 w' w.heap.size (fun _ => True) v3_ r4 ∧ Below w.heap.size w w' := by
 have hu42 := Tryd.underlying42
 have HR0_3 := aM hr0_3
 have HC0_3 := aM hc0_3
 clear hr0_3 hc0_3
 have HB := aM (Below.refl w.heap.size w)
 have H : ((spec_GoodBoard.f k a0_0 a0_1 a0_2 l0_3).bind fun t103 => (if t103 = true then ((spec_l11Own.f k a0_0 a0_1 a0_2 l0_3).bind fun bt104 => ((spec_l11Time.f a1).bind fun t110 => (if t110 = true then (if a1 < bt104.2.2.1 then (some (bt104.1, bt104.2.1, bt104.2.2.1, bt104.2.2.2, 1)) else (some (bt104.1, bt104.2.1, a1, bt104.2.2.2, 0))) else (some (bt104.1, bt104.2.1, bt104.2.2.1, bt104.2.2.2, 1))))) else (some (0, 0, 0, ([] : List (S37)), 1)))) = some (r1, r2, r3, r4, r5) := h
 clear h
 replace H := Option.bind_eq_some_iff.mp H
 obtain ⟨t103, A30, H⟩ := H
 try dsimp only at H
 have A3 := aM A30
 clear A30
 by_cases c4 : t103 = true
 · subst c4
   rw [if_pos rfl] at H
   replace H := Option.bind_eq_some_iff.mp H
   obtain ⟨⟨t104, t105, t106, t107⟩, A50, H⟩ := H
   try dsimp only at H
   have A5 := aM A50
   clear A50
   replace H := Option.bind_eq_some_iff.mp H
   obtain ⟨t110, A60, H⟩ := H
   try dsimp only at H
   have A6 := aM A60
   clear A60
   by_cases c7 : t110 = true
   · subst c7
     rw [if_pos rfl] at H
     by_cases c8 : a1 < t106
     · rw [if_pos c8] at H
       have c8b0 : decide (a1 < t106) = true := decide_eq_true c8
       clear c8
       simp only [Option.some.injEq, Prod.mk.injEq] at H
       obtain ⟨rfl, rfl, rfl, rfl, rfl⟩ := H
       go_enter Tryd.func21, Tryd.ntmps21
       go_wp2_with (first | ((with_reducible refine gate_dst (N := 2) rfl ?_); refine box_event ?hg (N := 2) ?hd (cs := #[.int .i64 a0_0, .int .i64 a0_1, .int .i64 a0_2, .slice A0_3 l0_3.length c0_3]) (t := 42) ?hr ?_; (case hd => rfl); (case hg => rfl); (case hr => first | (go_simp; done) | (go_simp; rfl)); intro bz1_ hg wz1 hbox hb; have LZbz1_ := aM (Loc.box hbox); have el_ := hg; have ORLZbz1_ := aM (show w.heap.size ≤ bz1_ from by rw [el_]; exact HB.out.size); have OQLZbz1_ := aM (show bz1_ ≤ (bz1_ + 1) from Nat.le_succ _); have HWbz1_ := aM (show w.heap.size ≤ bz1_ from by rw [hg]; exact HB.out.size); replace HB := aM (below_after HB.out hb); clear hg hbox hb el_; obtain ⟨hcybz1__0, hcybz1__1, hcybz1__2, hcybz1__3, hfybz1__0, hfybz1__1, hfybz1__2, hfybz1__3⟩ := cellsZ4 LZbz1_.out.now) | ((with_reducible refine gate_dst (N := 4) rfl ?_); refine box_event ?hg (N := 4) ?hd (cs := #[.int .i64 0, .int .i64 0, .int .i64 0, .slice none 0 0]) (t := 42) ?hr ?_; (case hd => rfl); (case hg => rfl); (case hr => first | (go_simp; done) | (go_simp; rfl)); intro bz2_ hg wz2 hbox hb; have LZbz2_ := aM (Loc.box hbox); have el_ := hg; have ORLZbz2_ := aM (show (bz1_ + 1) ≤ bz2_ from by rw [el_]; exact LZbz1_.out.size); have OQLZbz2_ := aM (show bz2_ ≤ (bz2_ + 1) from Nat.le_succ _); have HWbz2_ := aM (show w.heap.size ≤ bz2_ from by rw [hg]; exact HB.out.size); (try clear hcybz1__0 hcybz1__1 hcybz1__2 hcybz1__3 hfybz1__0 hfybz1__1 hfybz1__2 hfybz1__3); replace LZbz1_ := aM (LZbz1_.out.below hb); replace HB := aM (below_after HB.out hb); clear hg hbox hb el_; obtain ⟨hcybz1__0, hcybz1__1, hcybz1__2, hcybz1__3, hfybz1__0, hfybz1__1, hfybz1__2, hfybz1__3⟩ := cellsZ4 LZbz1_.out.now; obtain ⟨hcybz2__0, hcybz2__1, hcybz2__2, hcybz2__3, hfybz2__0, hfybz2__1, hfybz2__2, hfybz2__3⟩ := cellsZ4 LZbz2_.out.now) | ((with_reducible refine gate_callee (f := 40) rfl ?_); refine goesL_ (some 7) rfl rfl Tryd.func40 (by kernel_rfl) rfl #[.agg #[.int .i64 a0_0, .int .i64 a0_1, .int .i64 a0_2, .slice A0_3 l0_3.length c0_3]] rfl zee81 ?_; (with_reducible refine (spec_GoodBoard.calls k a0_0 a0_1 a0_2 _ _ l0_3 true _ ?side1 ?side2 A3.out).mono ?_); (case side1 => exact (cZ (Kd.C_below HR0_3.out HB.out))); (case side2 => exact HC0_3.out); rintro e wz3 ⟨rfl, hb⟩; refine ⟨_, rfl, ?_⟩; (try clear hcybz1__0 hcybz1__1 hcybz1__2 hcybz1__3 hfybz1__0 hfybz1__1 hfybz1__2 hfybz1__3 hcybz2__0 hcybz2__1 hcybz2__2 hcybz2__3 hfybz2__0 hfybz2__1 hfybz2__2 hfybz2__3); replace LZbz1_ := aM (LZbz1_.out.below hb); replace LZbz2_ := aM (LZbz2_.out.below hb); replace HB := aM (below_after HB.out hb); clear hb; obtain ⟨hcybz1__0, hcybz1__1, hcybz1__2, hcybz1__3, hfybz1__0, hfybz1__1, hfybz1__2, hfybz1__3⟩ := cellsZ4 LZbz1_.out.now; obtain ⟨hcybz2__0, hcybz2__1, hcybz2__2, hcybz2__3, hfybz2__0, hfybz2__1, hfybz2__2, hfybz2__3⟩ := cellsZ4 LZbz2_.out.now) | ((with_reducible refine gate_callee (f := 43) rfl ?_); refine goesL_ (some 11) rfl rfl Tryd.func43 (by kernel_rfl) rfl #[.agg #[.int .i64 a0_0, .int .i64 a0_1, .int .i64 a0_2, .slice A0_3 l0_3.length c0_3]] rfl zee81 ?_; (with_reducible refine (spec_l11Own.calls k a0_0 a0_1 a0_2 _ _ l0_3 t104 t105 t106 t107 _ ?side1 ?side2 A5.out).mono ?_); (case side1 => exact (cZ (Kd.C_below HR0_3.out HB.out))); (case side2 => exact HC0_3.out); rintro e wz4 ⟨v108, rfl, ho0, hb⟩; refine ⟨_, rfl, ?_⟩; (try clear hcybz1__0 hcybz1__1 hcybz1__2 hcybz1__3 hfybz1__0 hfybz1__1 hfybz1__2 hfybz1__3 hcybz2__0 hcybz2__1 hcybz2__2 hcybz2__3 hfybz2__0 hfybz2__1 hfybz2__2 hfybz2__3); obtain ⟨loz_, hiz_, el_, hL_, eh_⟩ := Loc.newS ho0 HB.out; have LZr := aM hL_; have ORLZr := aM (show (bz2_ + 1) ≤ loz_ from by rw [el_]; exact LZbz2_.out.size); have OQLZr := aM (show loz_ ≤ hiz_ from (by rw [el_, eh_]; exact hb.size)); obtain ⟨Az_, cz_, ev_⟩ := Kd.S_slice ho0; subst ev_; clear el_ hL_ eh_ ho0; replace LZbz1_ := aM (LZbz1_.out.below hb); replace LZbz2_ := aM (LZbz2_.out.below hb); replace HB := aM (below_after HB.out hb); clear hb; obtain ⟨hcybz1__0, hcybz1__1, hcybz1__2, hcybz1__3, hfybz1__0, hfybz1__1, hfybz1__2, hfybz1__3⟩ := cellsZ4 LZbz1_.out.now; obtain ⟨hcybz2__0, hcybz2__1, hcybz2__2, hcybz2__3, hfybz2__0, hfybz2__1, hfybz2__2, hfybz2__3⟩ := cellsZ4 LZbz2_.out.now) | ((with_reducible refine gate_store (t := 42) (p := 2) rfl ?_); refine store_event (t := 42) (p := 2) (v := ?vo_wz5) (w1 := ((((wz4.setCell ⟨bz1_, 0, none⟩ (.int .i64 t104)).setCell ⟨bz1_, 1, none⟩ (.int .i64 t105)).setCell ⟨bz1_, 2, none⟩ (.int .i64 t106)).setCell ⟨bz1_, 3, none⟩ (.slice Az_ t107.length cz_))) ?hg ?ho ?hn ?hr ?_; (case ho => rfl); (case hg => rfl); (case hn => rfl); (case hr => first | (go_simp; done) | (go_simp; rfl)); intro wz5 hw; (try clear hcybz1__0 hcybz1__1 hcybz1__2 hcybz1__3 hfybz1__0 hfybz1__1 hfybz1__2 hfybz1__3 hcybz2__0 hcybz2__1 hcybz2__2 hcybz2__3 hfybz2__0 hfybz2__1 hfybz2__2 hfybz2__3); have ho_ : Only wz4 wz5 bz1_ := (by rw [hw]; repeat (first | exact Only.refl _ _ | apply Only.set)); have := ORLZbz1_.out; have := OQLZbz1_.out; have := ORLZbz2_.out; have := OQLZbz2_.out; have := ORLZr.out; have := OQLZr.out; replace LZbz2_ := aM (LZbz2_.out.only2 ho_ (by omega)); replace LZr := aM (LZr.out.only2 ho_ (by omega)); have hbx_ : wz5.heap[bz1_]? = some (.cells #[.int .i64 t104, .int .i64 t105, .int .i64 t106, .slice Az_ t107.length cz_] 42 (0, 0)) := (by rw [hw]; exact blk_put4 LZbz1_.out.now); replace LZbz1_ := aM (Loc.box hbx_); replace HB := aM (below_only HB.out HWbz1_.out ho_); clear ho_ hbx_ hw; obtain ⟨hcybz1__0, hcybz1__1, hcybz1__2, hcybz1__3, hfybz1__0, hfybz1__1, hfybz1__2, hfybz1__3⟩ := cellsZ4 LZbz1_.out.now; obtain ⟨hcybz2__0, hcybz2__1, hcybz2__2, hcybz2__3, hfybz2__0, hfybz2__1, hfybz2__2, hfybz2__3⟩ := cellsZ4 LZbz2_.out.now) | ((with_reducible refine gate_callee (f := 58) rfl ?_); refine goesL_ (some 13) rfl rfl Tryd.func58 (by kernel_rfl) rfl #[.int .i64 a1] rfl zee81 ?_; (with_reducible refine (spec_l11Time.calls a1 true _ A6.out).mono ?_); rintro e wz6 ⟨rfl, hd⟩; refine ⟨_, rfl, ?_⟩; (try clear hcybz1__0 hcybz1__1 hcybz1__2 hcybz1__3 hfybz1__0 hfybz1__1 hfybz1__2 hfybz1__3 hcybz2__0 hcybz2__1 hcybz2__2 hcybz2__3 hfybz2__0 hfybz2__1 hfybz2__2 hfybz2__3); have hb := below_drawn hd; clear hd; replace LZbz1_ := aM (LZbz1_.out.below hb); replace LZbz2_ := aM (LZbz2_.out.below hb); replace LZr := aM (LZr.out.below hb); replace HB := aM (below_after HB.out hb); clear hb; obtain ⟨hcybz1__0, hcybz1__1, hcybz1__2, hcybz1__3, hfybz1__0, hfybz1__1, hfybz1__2, hfybz1__3⟩ := cellsZ4 LZbz1_.out.now; obtain ⟨hcybz2__0, hcybz2__1, hcybz2__2, hcybz2__3, hfybz2__0, hfybz2__1, hfybz2__2, hfybz2__3⟩ := cellsZ4 LZbz2_.out.now) | ((with_reducible refine gate_store (t := 42) (p := 4) rfl ?_); refine store_event (t := 42) (p := 4) (v := ?vo_wz7) (w1 := ((((wz6.setCell ⟨bz2_, 0, none⟩ (.int .i64 t104)).setCell ⟨bz2_, 1, none⟩ (.int .i64 t105)).setCell ⟨bz2_, 2, none⟩ (.int .i64 t106)).setCell ⟨bz2_, 3, none⟩ (.slice Az_ t107.length cz_))) ?hg ?ho ?hn ?hr ?_; (case ho => rfl); (case hg => rfl); (case hn => rfl); (case hr => first | (go_simp; done) | (go_simp; rfl)); intro wz7 hw; (try clear hcybz1__0 hcybz1__1 hcybz1__2 hcybz1__3 hfybz1__0 hfybz1__1 hfybz1__2 hfybz1__3 hcybz2__0 hcybz2__1 hcybz2__2 hcybz2__3 hfybz2__0 hfybz2__1 hfybz2__2 hfybz2__3); have ho_ : Only wz6 wz7 bz2_ := (by rw [hw]; repeat (first | exact Only.refl _ _ | apply Only.set)); have := ORLZbz1_.out; have := OQLZbz1_.out; have := ORLZbz2_.out; have := OQLZbz2_.out; have := ORLZr.out; have := OQLZr.out; replace LZbz1_ := aM (LZbz1_.out.only2 ho_ (by omega)); replace LZr := aM (LZr.out.only2 ho_ (by omega)); have hbx_ : wz7.heap[bz2_]? = some (.cells #[.int .i64 t104, .int .i64 t105, .int .i64 t106, .slice Az_ t107.length cz_] 42 (0, 0)) := (by rw [hw]; exact blk_put4 LZbz2_.out.now); replace LZbz2_ := aM (Loc.box hbx_); replace HB := aM (below_only HB.out HWbz2_.out ho_); clear ho_ hbx_ hw; obtain ⟨hcybz1__0, hcybz1__1, hcybz1__2, hcybz1__3, hfybz1__0, hfybz1__1, hfybz1__2, hfybz1__3⟩ := cellsZ4 LZbz1_.out.now; obtain ⟨hcybz2__0, hcybz2__1, hcybz2__2, hcybz2__3, hfybz2__0, hfybz2__1, hfybz2__2, hfybz2__3⟩ := cellsZ4 LZbz2_.out.now))
       refine bodyPost_ret (results_ct rfl _ _ bz2_ 42 #[.int .i64 t104, .int .i64 t105, .int .i64 t106, .slice Az_ t107.length cz_] (0, 0) _ rfl LZbz2_.out.now Tryd.underlying42 rfl (by kernel_rfl)) rfl ?_
       exact ⟨_, rfl, Kd.S_mono LZr.out.now (fun _ _ => trivial), HB.out⟩
     · rw [if_neg c8] at H
       have c8b0 : decide (a1 < t106) = false := decide_eq_false c8
       clear c8
       simp only [Option.some.injEq, Prod.mk.injEq] at H
       obtain ⟨rfl, rfl, rfl, rfl, rfl⟩ := H
       go_enter Tryd.func21, Tryd.ntmps21
       go_wp2_with (first | ((with_reducible refine gate_dst (N := 2) rfl ?_); refine box_event ?hg (N := 2) ?hd (cs := #[.int .i64 a0_0, .int .i64 a0_1, .int .i64 a0_2, .slice A0_3 l0_3.length c0_3]) (t := 42) ?hr ?_; (case hd => rfl); (case hg => rfl); (case hr => first | (go_simp; done) | (go_simp; rfl)); intro bz1_ hg wz8 hbox hb; have LZbz1_ := aM (Loc.box hbox); have el_ := hg; have ORLZbz1_ := aM (show w.heap.size ≤ bz1_ from by rw [el_]; exact HB.out.size); have OQLZbz1_ := aM (show bz1_ ≤ (bz1_ + 1) from Nat.le_succ _); have HWbz1_ := aM (show w.heap.size ≤ bz1_ from by rw [hg]; exact HB.out.size); replace HB := aM (below_after HB.out hb); clear hg hbox hb el_; obtain ⟨hcybz1__0, hcybz1__1, hcybz1__2, hcybz1__3, hfybz1__0, hfybz1__1, hfybz1__2, hfybz1__3⟩ := cellsZ4 LZbz1_.out.now) | ((with_reducible refine gate_dst (N := 4) rfl ?_); refine box_event ?hg (N := 4) ?hd (cs := #[.int .i64 0, .int .i64 0, .int .i64 0, .slice none 0 0]) (t := 42) ?hr ?_; (case hd => rfl); (case hg => rfl); (case hr => first | (go_simp; done) | (go_simp; rfl)); intro bz2_ hg wz9 hbox hb; have LZbz2_ := aM (Loc.box hbox); have el_ := hg; have ORLZbz2_ := aM (show (bz1_ + 1) ≤ bz2_ from by rw [el_]; exact LZbz1_.out.size); have OQLZbz2_ := aM (show bz2_ ≤ (bz2_ + 1) from Nat.le_succ _); have HWbz2_ := aM (show w.heap.size ≤ bz2_ from by rw [hg]; exact HB.out.size); (try clear hcybz1__0 hcybz1__1 hcybz1__2 hcybz1__3 hfybz1__0 hfybz1__1 hfybz1__2 hfybz1__3); replace LZbz1_ := aM (LZbz1_.out.below hb); replace HB := aM (below_after HB.out hb); clear hg hbox hb el_; obtain ⟨hcybz1__0, hcybz1__1, hcybz1__2, hcybz1__3, hfybz1__0, hfybz1__1, hfybz1__2, hfybz1__3⟩ := cellsZ4 LZbz1_.out.now; obtain ⟨hcybz2__0, hcybz2__1, hcybz2__2, hcybz2__3, hfybz2__0, hfybz2__1, hfybz2__2, hfybz2__3⟩ := cellsZ4 LZbz2_.out.now) | ((with_reducible refine gate_callee (f := 40) rfl ?_); refine goesL_ (some 7) rfl rfl Tryd.func40 (by kernel_rfl) rfl #[.agg #[.int .i64 a0_0, .int .i64 a0_1, .int .i64 a0_2, .slice A0_3 l0_3.length c0_3]] rfl zee81 ?_; (with_reducible refine (spec_GoodBoard.calls k a0_0 a0_1 a0_2 _ _ l0_3 true _ ?side1 ?side2 A3.out).mono ?_); (case side1 => exact (cZ (Kd.C_below HR0_3.out HB.out))); (case side2 => exact HC0_3.out); rintro e wz10 ⟨rfl, hb⟩; refine ⟨_, rfl, ?_⟩; (try clear hcybz1__0 hcybz1__1 hcybz1__2 hcybz1__3 hfybz1__0 hfybz1__1 hfybz1__2 hfybz1__3 hcybz2__0 hcybz2__1 hcybz2__2 hcybz2__3 hfybz2__0 hfybz2__1 hfybz2__2 hfybz2__3); replace LZbz1_ := aM (LZbz1_.out.below hb); replace LZbz2_ := aM (LZbz2_.out.below hb); replace HB := aM (below_after HB.out hb); clear hb; obtain ⟨hcybz1__0, hcybz1__1, hcybz1__2, hcybz1__3, hfybz1__0, hfybz1__1, hfybz1__2, hfybz1__3⟩ := cellsZ4 LZbz1_.out.now; obtain ⟨hcybz2__0, hcybz2__1, hcybz2__2, hcybz2__3, hfybz2__0, hfybz2__1, hfybz2__2, hfybz2__3⟩ := cellsZ4 LZbz2_.out.now) | ((with_reducible refine gate_callee (f := 43) rfl ?_); refine goesL_ (some 11) rfl rfl Tryd.func43 (by kernel_rfl) rfl #[.agg #[.int .i64 a0_0, .int .i64 a0_1, .int .i64 a0_2, .slice A0_3 l0_3.length c0_3]] rfl zee81 ?_; (with_reducible refine (spec_l11Own.calls k a0_0 a0_1 a0_2 _ _ l0_3 t104 t105 t106 t107 _ ?side1 ?side2 A5.out).mono ?_); (case side1 => exact (cZ (Kd.C_below HR0_3.out HB.out))); (case side2 => exact HC0_3.out); rintro e wz11 ⟨v108, rfl, ho0, hb⟩; refine ⟨_, rfl, ?_⟩; (try clear hcybz1__0 hcybz1__1 hcybz1__2 hcybz1__3 hfybz1__0 hfybz1__1 hfybz1__2 hfybz1__3 hcybz2__0 hcybz2__1 hcybz2__2 hcybz2__3 hfybz2__0 hfybz2__1 hfybz2__2 hfybz2__3); obtain ⟨loz_, hiz_, el_, hL_, eh_⟩ := Loc.newS ho0 HB.out; have LZr := aM hL_; have ORLZr := aM (show (bz2_ + 1) ≤ loz_ from by rw [el_]; exact LZbz2_.out.size); have OQLZr := aM (show loz_ ≤ hiz_ from (by rw [el_, eh_]; exact hb.size)); obtain ⟨Az_, cz_, ev_⟩ := Kd.S_slice ho0; subst ev_; clear el_ hL_ eh_ ho0; replace LZbz1_ := aM (LZbz1_.out.below hb); replace LZbz2_ := aM (LZbz2_.out.below hb); replace HB := aM (below_after HB.out hb); clear hb; obtain ⟨hcybz1__0, hcybz1__1, hcybz1__2, hcybz1__3, hfybz1__0, hfybz1__1, hfybz1__2, hfybz1__3⟩ := cellsZ4 LZbz1_.out.now; obtain ⟨hcybz2__0, hcybz2__1, hcybz2__2, hcybz2__3, hfybz2__0, hfybz2__1, hfybz2__2, hfybz2__3⟩ := cellsZ4 LZbz2_.out.now) | ((with_reducible refine gate_store (t := 42) (p := 2) rfl ?_); refine store_event (t := 42) (p := 2) (v := ?vo_wz12) (w1 := ((((wz11.setCell ⟨bz1_, 0, none⟩ (.int .i64 t104)).setCell ⟨bz1_, 1, none⟩ (.int .i64 t105)).setCell ⟨bz1_, 2, none⟩ (.int .i64 t106)).setCell ⟨bz1_, 3, none⟩ (.slice Az_ t107.length cz_))) ?hg ?ho ?hn ?hr ?_; (case ho => rfl); (case hg => rfl); (case hn => rfl); (case hr => first | (go_simp; done) | (go_simp; rfl)); intro wz12 hw; (try clear hcybz1__0 hcybz1__1 hcybz1__2 hcybz1__3 hfybz1__0 hfybz1__1 hfybz1__2 hfybz1__3 hcybz2__0 hcybz2__1 hcybz2__2 hcybz2__3 hfybz2__0 hfybz2__1 hfybz2__2 hfybz2__3); have ho_ : Only wz11 wz12 bz1_ := (by rw [hw]; repeat (first | exact Only.refl _ _ | apply Only.set)); have := ORLZbz1_.out; have := OQLZbz1_.out; have := ORLZbz2_.out; have := OQLZbz2_.out; have := ORLZr.out; have := OQLZr.out; replace LZbz2_ := aM (LZbz2_.out.only2 ho_ (by omega)); replace LZr := aM (LZr.out.only2 ho_ (by omega)); have hbx_ : wz12.heap[bz1_]? = some (.cells #[.int .i64 t104, .int .i64 t105, .int .i64 t106, .slice Az_ t107.length cz_] 42 (0, 0)) := (by rw [hw]; exact blk_put4 LZbz1_.out.now); replace LZbz1_ := aM (Loc.box hbx_); replace HB := aM (below_only HB.out HWbz1_.out ho_); clear ho_ hbx_ hw; obtain ⟨hcybz1__0, hcybz1__1, hcybz1__2, hcybz1__3, hfybz1__0, hfybz1__1, hfybz1__2, hfybz1__3⟩ := cellsZ4 LZbz1_.out.now; obtain ⟨hcybz2__0, hcybz2__1, hcybz2__2, hcybz2__3, hfybz2__0, hfybz2__1, hfybz2__2, hfybz2__3⟩ := cellsZ4 LZbz2_.out.now) | ((with_reducible refine gate_callee (f := 58) rfl ?_); refine goesL_ (some 13) rfl rfl Tryd.func58 (by kernel_rfl) rfl #[.int .i64 a1] rfl zee81 ?_; (with_reducible refine (spec_l11Time.calls a1 true _ A6.out).mono ?_); rintro e wz13 ⟨rfl, hd⟩; refine ⟨_, rfl, ?_⟩; (try clear hcybz1__0 hcybz1__1 hcybz1__2 hcybz1__3 hfybz1__0 hfybz1__1 hfybz1__2 hfybz1__3 hcybz2__0 hcybz2__1 hcybz2__2 hcybz2__3 hfybz2__0 hfybz2__1 hfybz2__2 hfybz2__3); have hb := below_drawn hd; clear hd; replace LZbz1_ := aM (LZbz1_.out.below hb); replace LZbz2_ := aM (LZbz2_.out.below hb); replace LZr := aM (LZr.out.below hb); replace HB := aM (below_after HB.out hb); clear hb; obtain ⟨hcybz1__0, hcybz1__1, hcybz1__2, hcybz1__3, hfybz1__0, hfybz1__1, hfybz1__2, hfybz1__3⟩ := cellsZ4 LZbz1_.out.now; obtain ⟨hcybz2__0, hcybz2__1, hcybz2__2, hcybz2__3, hfybz2__0, hfybz2__1, hfybz2__2, hfybz2__3⟩ := cellsZ4 LZbz2_.out.now) | ((with_reducible refine gate_store (t := 3) (p := 23) rfl ?_); refine store_event (t := 3) (p := 23) (v := ?vo_wz14) (w1 := (wz13.setCell ⟨bz1_, 2, none⟩ (.int .i64 a1))) ?hg ?ho ?hn ?hr ?_; (case ho => rfl); (case hg => rfl); (case hn => rfl); (case hr => first | (go_simp; done) | (go_simp; rfl)); intro wz14 hw; (try clear hcybz1__0 hcybz1__1 hcybz1__2 hcybz1__3 hfybz1__0 hfybz1__1 hfybz1__2 hfybz1__3 hcybz2__0 hcybz2__1 hcybz2__2 hcybz2__3 hfybz2__0 hfybz2__1 hfybz2__2 hfybz2__3); have ho_ : Only wz13 wz14 bz1_ := (by rw [hw]; repeat (first | exact Only.refl _ _ | apply Only.set)); have := ORLZbz1_.out; have := OQLZbz1_.out; have := ORLZbz2_.out; have := OQLZbz2_.out; have := ORLZr.out; have := OQLZr.out; replace LZbz2_ := aM (LZbz2_.out.only2 ho_ (by omega)); replace LZr := aM (LZr.out.only2 ho_ (by omega)); have hbx_ : wz14.heap[bz1_]? = some (.cells #[.int .i64 t104, .int .i64 t105, .int .i64 a1, .slice Az_ t107.length cz_] 42 (0, 0)) := (by rw [hw]; exact blk_put4_2 LZbz1_.out.now); replace LZbz1_ := aM (Loc.box hbx_); replace HB := aM (below_only HB.out HWbz1_.out ho_); clear ho_ hbx_ hw; obtain ⟨hcybz1__0, hcybz1__1, hcybz1__2, hcybz1__3, hfybz1__0, hfybz1__1, hfybz1__2, hfybz1__3⟩ := cellsZ4 LZbz1_.out.now; obtain ⟨hcybz2__0, hcybz2__1, hcybz2__2, hcybz2__3, hfybz2__0, hfybz2__1, hfybz2__2, hfybz2__3⟩ := cellsZ4 LZbz2_.out.now) | ((with_reducible refine gate_store (t := 42) (p := 4) rfl ?_); refine store_event (t := 42) (p := 4) (v := ?vo_wz15) (w1 := ((((wz14.setCell ⟨bz2_, 0, none⟩ (.int .i64 t104)).setCell ⟨bz2_, 1, none⟩ (.int .i64 t105)).setCell ⟨bz2_, 2, none⟩ (.int .i64 a1)).setCell ⟨bz2_, 3, none⟩ (.slice Az_ t107.length cz_))) ?hg ?ho ?hn ?hr ?_; (case ho => rfl); (case hg => rfl); (case hn => rfl); (case hr => first | (go_simp; done) | (go_simp; rfl)); intro wz15 hw; (try clear hcybz1__0 hcybz1__1 hcybz1__2 hcybz1__3 hfybz1__0 hfybz1__1 hfybz1__2 hfybz1__3 hcybz2__0 hcybz2__1 hcybz2__2 hcybz2__3 hfybz2__0 hfybz2__1 hfybz2__2 hfybz2__3); have ho_ : Only wz14 wz15 bz2_ := (by rw [hw]; repeat (first | exact Only.refl _ _ | apply Only.set)); have := ORLZbz1_.out; have := OQLZbz1_.out; have := ORLZbz2_.out; have := OQLZbz2_.out; have := ORLZr.out; have := OQLZr.out; replace LZbz1_ := aM (LZbz1_.out.only2 ho_ (by omega)); replace LZr := aM (LZr.out.only2 ho_ (by omega)); have hbx_ : wz15.heap[bz2_]? = some (.cells #[.int .i64 t104, .int .i64 t105, .int .i64 a1, .slice Az_ t107.length cz_] 42 (0, 0)) := (by rw [hw]; exact blk_put4 LZbz2_.out.now); replace LZbz2_ := aM (Loc.box hbx_); replace HB := aM (below_only HB.out HWbz2_.out ho_); clear ho_ hbx_ hw; obtain ⟨hcybz1__0, hcybz1__1, hcybz1__2, hcybz1__3, hfybz1__0, hfybz1__1, hfybz1__2, hfybz1__3⟩ := cellsZ4 LZbz1_.out.now; obtain ⟨hcybz2__0, hcybz2__1, hcybz2__2, hcybz2__3, hfybz2__0, hfybz2__1, hfybz2__2, hfybz2__3⟩ := cellsZ4 LZbz2_.out.now))
       refine bodyPost_ret (results_ct rfl _ _ bz2_ 42 #[.int .i64 t104, .int .i64 t105, .int .i64 a1, .slice Az_ t107.length cz_] (0, 0) _ rfl LZbz2_.out.now Tryd.underlying42 rfl (by kernel_rfl)) rfl ?_
       exact ⟨_, rfl, Kd.S_mono LZr.out.now (fun _ _ => trivial), HB.out⟩
   · replace c7 := Bool.eq_false_iff.mpr c7
     subst c7
     rw [if_neg (show ¬ (false = true) by decide)] at H
     simp only [Option.some.injEq, Prod.mk.injEq] at H
     obtain ⟨rfl, rfl, rfl, rfl, rfl⟩ := H
     go_enter Tryd.func21, Tryd.ntmps21
     go_wp2_with (first | ((with_reducible refine gate_dst (N := 2) rfl ?_); refine box_event ?hg (N := 2) ?hd (cs := #[.int .i64 a0_0, .int .i64 a0_1, .int .i64 a0_2, .slice A0_3 l0_3.length c0_3]) (t := 42) ?hr ?_; (case hd => rfl); (case hg => rfl); (case hr => first | (go_simp; done) | (go_simp; rfl)); intro bz1_ hg wz16 hbox hb; have LZbz1_ := aM (Loc.box hbox); have el_ := hg; have ORLZbz1_ := aM (show w.heap.size ≤ bz1_ from by rw [el_]; exact HB.out.size); have OQLZbz1_ := aM (show bz1_ ≤ (bz1_ + 1) from Nat.le_succ _); have HWbz1_ := aM (show w.heap.size ≤ bz1_ from by rw [hg]; exact HB.out.size); replace HB := aM (below_after HB.out hb); clear hg hbox hb el_; obtain ⟨hcybz1__0, hcybz1__1, hcybz1__2, hcybz1__3, hfybz1__0, hfybz1__1, hfybz1__2, hfybz1__3⟩ := cellsZ4 LZbz1_.out.now) | ((with_reducible refine gate_dst (N := 4) rfl ?_); refine box_event ?hg (N := 4) ?hd (cs := #[.int .i64 0, .int .i64 0, .int .i64 0, .slice none 0 0]) (t := 42) ?hr ?_; (case hd => rfl); (case hg => rfl); (case hr => first | (go_simp; done) | (go_simp; rfl)); intro bz2_ hg wz17 hbox hb; have LZbz2_ := aM (Loc.box hbox); have el_ := hg; have ORLZbz2_ := aM (show (bz1_ + 1) ≤ bz2_ from by rw [el_]; exact LZbz1_.out.size); have OQLZbz2_ := aM (show bz2_ ≤ (bz2_ + 1) from Nat.le_succ _); have HWbz2_ := aM (show w.heap.size ≤ bz2_ from by rw [hg]; exact HB.out.size); (try clear hcybz1__0 hcybz1__1 hcybz1__2 hcybz1__3 hfybz1__0 hfybz1__1 hfybz1__2 hfybz1__3); replace LZbz1_ := aM (LZbz1_.out.below hb); replace HB := aM (below_after HB.out hb); clear hg hbox hb el_; obtain ⟨hcybz1__0, hcybz1__1, hcybz1__2, hcybz1__3, hfybz1__0, hfybz1__1, hfybz1__2, hfybz1__3⟩ := cellsZ4 LZbz1_.out.now; obtain ⟨hcybz2__0, hcybz2__1, hcybz2__2, hcybz2__3, hfybz2__0, hfybz2__1, hfybz2__2, hfybz2__3⟩ := cellsZ4 LZbz2_.out.now) | ((with_reducible refine gate_callee (f := 40) rfl ?_); refine goesL_ (some 7) rfl rfl Tryd.func40 (by kernel_rfl) rfl #[.agg #[.int .i64 a0_0, .int .i64 a0_1, .int .i64 a0_2, .slice A0_3 l0_3.length c0_3]] rfl zee81 ?_; (with_reducible refine (spec_GoodBoard.calls k a0_0 a0_1 a0_2 _ _ l0_3 true _ ?side1 ?side2 A3.out).mono ?_); (case side1 => exact (cZ (Kd.C_below HR0_3.out HB.out))); (case side2 => exact HC0_3.out); rintro e wz18 ⟨rfl, hb⟩; refine ⟨_, rfl, ?_⟩; (try clear hcybz1__0 hcybz1__1 hcybz1__2 hcybz1__3 hfybz1__0 hfybz1__1 hfybz1__2 hfybz1__3 hcybz2__0 hcybz2__1 hcybz2__2 hcybz2__3 hfybz2__0 hfybz2__1 hfybz2__2 hfybz2__3); replace LZbz1_ := aM (LZbz1_.out.below hb); replace LZbz2_ := aM (LZbz2_.out.below hb); replace HB := aM (below_after HB.out hb); clear hb; obtain ⟨hcybz1__0, hcybz1__1, hcybz1__2, hcybz1__3, hfybz1__0, hfybz1__1, hfybz1__2, hfybz1__3⟩ := cellsZ4 LZbz1_.out.now; obtain ⟨hcybz2__0, hcybz2__1, hcybz2__2, hcybz2__3, hfybz2__0, hfybz2__1, hfybz2__2, hfybz2__3⟩ := cellsZ4 LZbz2_.out.now) | ((with_reducible refine gate_callee (f := 43) rfl ?_); refine goesL_ (some 11) rfl rfl Tryd.func43 (by kernel_rfl) rfl #[.agg #[.int .i64 a0_0, .int .i64 a0_1, .int .i64 a0_2, .slice A0_3 l0_3.length c0_3]] rfl zee81 ?_; (with_reducible refine (spec_l11Own.calls k a0_0 a0_1 a0_2 _ _ l0_3 t104 t105 t106 t107 _ ?side1 ?side2 A5.out).mono ?_); (case side1 => exact (cZ (Kd.C_below HR0_3.out HB.out))); (case side2 => exact HC0_3.out); rintro e wz19 ⟨v108, rfl, ho0, hb⟩; refine ⟨_, rfl, ?_⟩; (try clear hcybz1__0 hcybz1__1 hcybz1__2 hcybz1__3 hfybz1__0 hfybz1__1 hfybz1__2 hfybz1__3 hcybz2__0 hcybz2__1 hcybz2__2 hcybz2__3 hfybz2__0 hfybz2__1 hfybz2__2 hfybz2__3); obtain ⟨loz_, hiz_, el_, hL_, eh_⟩ := Loc.newS ho0 HB.out; have LZr := aM hL_; have ORLZr := aM (show (bz2_ + 1) ≤ loz_ from by rw [el_]; exact LZbz2_.out.size); have OQLZr := aM (show loz_ ≤ hiz_ from (by rw [el_, eh_]; exact hb.size)); obtain ⟨Az_, cz_, ev_⟩ := Kd.S_slice ho0; subst ev_; clear el_ hL_ eh_ ho0; replace LZbz1_ := aM (LZbz1_.out.below hb); replace LZbz2_ := aM (LZbz2_.out.below hb); replace HB := aM (below_after HB.out hb); clear hb; obtain ⟨hcybz1__0, hcybz1__1, hcybz1__2, hcybz1__3, hfybz1__0, hfybz1__1, hfybz1__2, hfybz1__3⟩ := cellsZ4 LZbz1_.out.now; obtain ⟨hcybz2__0, hcybz2__1, hcybz2__2, hcybz2__3, hfybz2__0, hfybz2__1, hfybz2__2, hfybz2__3⟩ := cellsZ4 LZbz2_.out.now) | ((with_reducible refine gate_store (t := 42) (p := 2) rfl ?_); refine store_event (t := 42) (p := 2) (v := ?vo_wz20) (w1 := ((((wz19.setCell ⟨bz1_, 0, none⟩ (.int .i64 t104)).setCell ⟨bz1_, 1, none⟩ (.int .i64 t105)).setCell ⟨bz1_, 2, none⟩ (.int .i64 t106)).setCell ⟨bz1_, 3, none⟩ (.slice Az_ t107.length cz_))) ?hg ?ho ?hn ?hr ?_; (case ho => rfl); (case hg => rfl); (case hn => rfl); (case hr => first | (go_simp; done) | (go_simp; rfl)); intro wz20 hw; (try clear hcybz1__0 hcybz1__1 hcybz1__2 hcybz1__3 hfybz1__0 hfybz1__1 hfybz1__2 hfybz1__3 hcybz2__0 hcybz2__1 hcybz2__2 hcybz2__3 hfybz2__0 hfybz2__1 hfybz2__2 hfybz2__3); have ho_ : Only wz19 wz20 bz1_ := (by rw [hw]; repeat (first | exact Only.refl _ _ | apply Only.set)); have := ORLZbz1_.out; have := OQLZbz1_.out; have := ORLZbz2_.out; have := OQLZbz2_.out; have := ORLZr.out; have := OQLZr.out; replace LZbz2_ := aM (LZbz2_.out.only2 ho_ (by omega)); replace LZr := aM (LZr.out.only2 ho_ (by omega)); have hbx_ : wz20.heap[bz1_]? = some (.cells #[.int .i64 t104, .int .i64 t105, .int .i64 t106, .slice Az_ t107.length cz_] 42 (0, 0)) := (by rw [hw]; exact blk_put4 LZbz1_.out.now); replace LZbz1_ := aM (Loc.box hbx_); replace HB := aM (below_only HB.out HWbz1_.out ho_); clear ho_ hbx_ hw; obtain ⟨hcybz1__0, hcybz1__1, hcybz1__2, hcybz1__3, hfybz1__0, hfybz1__1, hfybz1__2, hfybz1__3⟩ := cellsZ4 LZbz1_.out.now; obtain ⟨hcybz2__0, hcybz2__1, hcybz2__2, hcybz2__3, hfybz2__0, hfybz2__1, hfybz2__2, hfybz2__3⟩ := cellsZ4 LZbz2_.out.now) | ((with_reducible refine gate_callee (f := 58) rfl ?_); refine goesL_ (some 13) rfl rfl Tryd.func58 (by kernel_rfl) rfl #[.int .i64 a1] rfl zee81 ?_; (with_reducible refine (spec_l11Time.calls a1 false _ A6.out).mono ?_); rintro e wz21 ⟨rfl, hd⟩; refine ⟨_, rfl, ?_⟩; (try clear hcybz1__0 hcybz1__1 hcybz1__2 hcybz1__3 hfybz1__0 hfybz1__1 hfybz1__2 hfybz1__3 hcybz2__0 hcybz2__1 hcybz2__2 hcybz2__3 hfybz2__0 hfybz2__1 hfybz2__2 hfybz2__3); have hb := below_drawn hd; clear hd; replace LZbz1_ := aM (LZbz1_.out.below hb); replace LZbz2_ := aM (LZbz2_.out.below hb); replace LZr := aM (LZr.out.below hb); replace HB := aM (below_after HB.out hb); clear hb; obtain ⟨hcybz1__0, hcybz1__1, hcybz1__2, hcybz1__3, hfybz1__0, hfybz1__1, hfybz1__2, hfybz1__3⟩ := cellsZ4 LZbz1_.out.now; obtain ⟨hcybz2__0, hcybz2__1, hcybz2__2, hcybz2__3, hfybz2__0, hfybz2__1, hfybz2__2, hfybz2__3⟩ := cellsZ4 LZbz2_.out.now) | ((with_reducible refine gate_store (t := 42) (p := 4) rfl ?_); refine store_event (t := 42) (p := 4) (v := ?vo_wz22) (w1 := ((((wz21.setCell ⟨bz2_, 0, none⟩ (.int .i64 t104)).setCell ⟨bz2_, 1, none⟩ (.int .i64 t105)).setCell ⟨bz2_, 2, none⟩ (.int .i64 t106)).setCell ⟨bz2_, 3, none⟩ (.slice Az_ t107.length cz_))) ?hg ?ho ?hn ?hr ?_; (case ho => rfl); (case hg => rfl); (case hn => rfl); (case hr => first | (go_simp; done) | (go_simp; rfl)); intro wz22 hw; (try clear hcybz1__0 hcybz1__1 hcybz1__2 hcybz1__3 hfybz1__0 hfybz1__1 hfybz1__2 hfybz1__3 hcybz2__0 hcybz2__1 hcybz2__2 hcybz2__3 hfybz2__0 hfybz2__1 hfybz2__2 hfybz2__3); have ho_ : Only wz21 wz22 bz2_ := (by rw [hw]; repeat (first | exact Only.refl _ _ | apply Only.set)); have := ORLZbz1_.out; have := OQLZbz1_.out; have := ORLZbz2_.out; have := OQLZbz2_.out; have := ORLZr.out; have := OQLZr.out; replace LZbz1_ := aM (LZbz1_.out.only2 ho_ (by omega)); replace LZr := aM (LZr.out.only2 ho_ (by omega)); have hbx_ : wz22.heap[bz2_]? = some (.cells #[.int .i64 t104, .int .i64 t105, .int .i64 t106, .slice Az_ t107.length cz_] 42 (0, 0)) := (by rw [hw]; exact blk_put4 LZbz2_.out.now); replace LZbz2_ := aM (Loc.box hbx_); replace HB := aM (below_only HB.out HWbz2_.out ho_); clear ho_ hbx_ hw; obtain ⟨hcybz1__0, hcybz1__1, hcybz1__2, hcybz1__3, hfybz1__0, hfybz1__1, hfybz1__2, hfybz1__3⟩ := cellsZ4 LZbz1_.out.now; obtain ⟨hcybz2__0, hcybz2__1, hcybz2__2, hcybz2__3, hfybz2__0, hfybz2__1, hfybz2__2, hfybz2__3⟩ := cellsZ4 LZbz2_.out.now))
     refine bodyPost_ret (results_ct rfl _ _ bz2_ 42 #[.int .i64 t104, .int .i64 t105, .int .i64 t106, .slice Az_ t107.length cz_] (0, 0) _ rfl LZbz2_.out.now Tryd.underlying42 rfl (by kernel_rfl)) rfl ?_
     exact ⟨_, rfl, Kd.S_mono LZr.out.now (fun _ _ => trivial), HB.out⟩
 · replace c4 := Bool.eq_false_iff.mpr c4
   subst c4
   rw [if_neg (show ¬ (false = true) by decide)] at H
   simp only [Option.some.injEq, Prod.mk.injEq] at H
   obtain ⟨rfl, rfl, rfl, rfl, rfl⟩ := H
   go_enter Tryd.func21, Tryd.ntmps21
   go_wp2_with (first | ((with_reducible refine gate_dst (N := 2) rfl ?_); refine box_event ?hg (N := 2) ?hd (cs := #[.int .i64 a0_0, .int .i64 a0_1, .int .i64 a0_2, .slice A0_3 l0_3.length c0_3]) (t := 42) ?hr ?_; (case hd => rfl); (case hg => rfl); (case hr => first | (go_simp; done) | (go_simp; rfl)); intro bz1_ hg wz23 hbox hb; have LZbz1_ := aM (Loc.box hbox); have el_ := hg; have ORLZbz1_ := aM (show w.heap.size ≤ bz1_ from by rw [el_]; exact HB.out.size); have OQLZbz1_ := aM (show bz1_ ≤ (bz1_ + 1) from Nat.le_succ _); have HWbz1_ := aM (show w.heap.size ≤ bz1_ from by rw [hg]; exact HB.out.size); replace HB := aM (below_after HB.out hb); clear hg hbox hb el_; obtain ⟨hcybz1__0, hcybz1__1, hcybz1__2, hcybz1__3, hfybz1__0, hfybz1__1, hfybz1__2, hfybz1__3⟩ := cellsZ4 LZbz1_.out.now) | ((with_reducible refine gate_dst (N := 4) rfl ?_); refine box_event ?hg (N := 4) ?hd (cs := #[.int .i64 0, .int .i64 0, .int .i64 0, .slice none 0 0]) (t := 42) ?hr ?_; (case hd => rfl); (case hg => rfl); (case hr => first | (go_simp; done) | (go_simp; rfl)); intro bz2_ hg wz24 hbox hb; have LZbz2_ := aM (Loc.box hbox); have el_ := hg; have ORLZbz2_ := aM (show (bz1_ + 1) ≤ bz2_ from by rw [el_]; exact LZbz1_.out.size); have OQLZbz2_ := aM (show bz2_ ≤ (bz2_ + 1) from Nat.le_succ _); have HWbz2_ := aM (show w.heap.size ≤ bz2_ from by rw [hg]; exact HB.out.size); (try clear hcybz1__0 hcybz1__1 hcybz1__2 hcybz1__3 hfybz1__0 hfybz1__1 hfybz1__2 hfybz1__3); replace LZbz1_ := aM (LZbz1_.out.below hb); replace HB := aM (below_after HB.out hb); clear hg hbox hb el_; obtain ⟨hcybz1__0, hcybz1__1, hcybz1__2, hcybz1__3, hfybz1__0, hfybz1__1, hfybz1__2, hfybz1__3⟩ := cellsZ4 LZbz1_.out.now; obtain ⟨hcybz2__0, hcybz2__1, hcybz2__2, hcybz2__3, hfybz2__0, hfybz2__1, hfybz2__2, hfybz2__3⟩ := cellsZ4 LZbz2_.out.now) | ((with_reducible refine gate_callee (f := 40) rfl ?_); refine goesL_ (some 7) rfl rfl Tryd.func40 (by kernel_rfl) rfl #[.agg #[.int .i64 a0_0, .int .i64 a0_1, .int .i64 a0_2, .slice A0_3 l0_3.length c0_3]] rfl zee81 ?_; (with_reducible refine (spec_GoodBoard.calls k a0_0 a0_1 a0_2 _ _ l0_3 false _ ?side1 ?side2 A3.out).mono ?_); (case side1 => exact (cZ (Kd.C_below HR0_3.out HB.out))); (case side2 => exact HC0_3.out); rintro e wz25 ⟨rfl, hb⟩; refine ⟨_, rfl, ?_⟩; (try clear hcybz1__0 hcybz1__1 hcybz1__2 hcybz1__3 hfybz1__0 hfybz1__1 hfybz1__2 hfybz1__3 hcybz2__0 hcybz2__1 hcybz2__2 hcybz2__3 hfybz2__0 hfybz2__1 hfybz2__2 hfybz2__3); replace LZbz1_ := aM (LZbz1_.out.below hb); replace LZbz2_ := aM (LZbz2_.out.below hb); replace HB := aM (below_after HB.out hb); clear hb; obtain ⟨hcybz1__0, hcybz1__1, hcybz1__2, hcybz1__3, hfybz1__0, hfybz1__1, hfybz1__2, hfybz1__3⟩ := cellsZ4 LZbz1_.out.now; obtain ⟨hcybz2__0, hcybz2__1, hcybz2__2, hcybz2__3, hfybz2__0, hfybz2__1, hfybz2__2, hfybz2__3⟩ := cellsZ4 LZbz2_.out.now) | ((with_reducible refine gate_store (t := 42) (p := 4) rfl ?_); refine store_event (t := 42) (p := 4) (v := ?vo_wz26) (w1 := ((((wz25.setCell ⟨bz2_, 0, none⟩ (.int .i64 0)).setCell ⟨bz2_, 1, none⟩ (.int .i64 0)).setCell ⟨bz2_, 2, none⟩ (.int .i64 0)).setCell ⟨bz2_, 3, none⟩ (.slice none 0 0))) ?hg ?ho ?hn ?hr ?_; (case ho => rfl); (case hg => rfl); (case hn => rfl); (case hr => first | (go_simp; done) | (go_simp; rfl)); intro wz26 hw; (try clear hcybz1__0 hcybz1__1 hcybz1__2 hcybz1__3 hfybz1__0 hfybz1__1 hfybz1__2 hfybz1__3 hcybz2__0 hcybz2__1 hcybz2__2 hcybz2__3 hfybz2__0 hfybz2__1 hfybz2__2 hfybz2__3); have ho_ : Only wz25 wz26 bz2_ := (by rw [hw]; repeat (first | exact Only.refl _ _ | apply Only.set)); have := ORLZbz1_.out; have := OQLZbz1_.out; have := ORLZbz2_.out; have := OQLZbz2_.out; replace LZbz1_ := aM (LZbz1_.out.only2 ho_ (by omega)); have hbx_ : wz26.heap[bz2_]? = some (.cells #[.int .i64 0, .int .i64 0, .int .i64 0, .slice none 0 0] 42 (0, 0)) := (by rw [hw]; exact blk_put4 LZbz2_.out.now); replace LZbz2_ := aM (Loc.box hbx_); replace HB := aM (below_only HB.out HWbz2_.out ho_); clear ho_ hbx_ hw; obtain ⟨hcybz1__0, hcybz1__1, hcybz1__2, hcybz1__3, hfybz1__0, hfybz1__1, hfybz1__2, hfybz1__3⟩ := cellsZ4 LZbz1_.out.now; obtain ⟨hcybz2__0, hcybz2__1, hcybz2__2, hcybz2__3, hfybz2__0, hfybz2__1, hfybz2__2, hfybz2__3⟩ := cellsZ4 LZbz2_.out.now))
   refine bodyPost_ret (results_ct rfl _ _ bz2_ 42 #[.int .i64 0, .int .i64 0, .int .i64 0, .slice none 0 0] (0, 0) _ rfl LZbz2_.out.now Tryd.underlying42 rfl (by kernel_rfl)) rfl ?_
   exact ⟨_, rfl, Kd.S_nil _ _ _ _ _, HB.out⟩

end Go.Proofs.YtkgmoajdcibafaaDoor.P

-- written by a program of this session's (wip/pp)
namespace Go.Proofs.YtkgmoajdcibafaaDoor.P
open Go.RowKit Go.Proofs.YtkgmoajdcibafaaDoorW.PrintWords Go.Proofs.YtkgmoajdcibafaaDoorW.PrintLast Go.Proofs.YtkgmoajdcibafaaDoorW.PrintMore
attribute [local go_sem] max2_int min2_int max_two min_two max_three min_three max_four min_four str_geq str_gtr str_leq   -- for this text's walks alone
set_option linter.unusedVariables false
set_option linter.unusedSimpArgs false

/-! ### impl_within: function 90 -/
def impl_within.f (a0 : Int) (a1 : Int) (a2 : Int) : Option (Bool) := if a0 ≥ a1 then (some (decide (a0 ≤ a2))) else (some false)
set_option maxHeartbeats 8000000 in
set_option maxRecDepth 100000 in
theorem impl_within.calls (a0 : Int) (a1 : Int) (a2 : Int) (r : Bool) (w : World) (h : impl_within.f a0 a1 a2 = some r) :
 Calls Tryd.prog 90 #[.int .i64 a0, .int .i64 a1, .int .i64 a2] w fun e w' => e = .returned (.bool r) ∧ Drawn0 w w' := by
 have H : (if a0 ≥ a1 then (some (decide (a0 ≤ a2))) else (some false)) = some r := h
 clear h
 by_cases c4 : a0 ≥ a1
 · rw [if_pos c4] at H
   have c4b0 : decide (a1 ≤ a0) = true := decide_eq_true c4
   clear c4
   obtain rfl := Option.some.inj H
   go_enter Tryd.func90, Tryd.ntmps90
   go_wp2
   go_ret
   exact ⟨z4458, za9de⟩
 · rw [if_neg c4] at H
   have c4b0 : decide (a1 ≤ a0) = false := decide_eq_false c4
   clear c4
   obtain rfl := Option.some.inj H
   go_enter Tryd.func90, Tryd.ntmps90
   go_wp2
   go_ret
   exact ⟨z4458, za9de⟩

end Go.Proofs.YtkgmoajdcibafaaDoor.P

-- written by a program of this session's (wip/pp)
namespace Go.Proofs.YtkgmoajdcibafaaDoor.P
open Go.RowKit Go.Proofs.YtkgmoajdcibafaaDoorW.PrintWords Go.Proofs.YtkgmoajdcibafaaDoorW.PrintLast Go.Proofs.YtkgmoajdcibafaaDoorW.PrintMore
attribute [local go_sem] max2_int min2_int max_two min_two max_three min_three max_four min_four str_geq str_gtr str_leq   -- for this text's walks alone
set_option linter.unusedVariables false
set_option linter.unusedSimpArgs false

/-! ### impl_isTime: function 60 -/
def impl_isTime.f (a0 : Int) : Option (Bool) := (impl_within.f a0 0 1000000000).bind fun t101 => (some t101)
set_option maxHeartbeats 8000000 in
set_option maxRecDepth 100000 in
theorem impl_isTime.calls (a0 : Int) (r : Bool) (w : World) (h : impl_isTime.f a0 = some r) :
 Calls Tryd.prog 60 #[.int .i64 a0] w fun e w' => e = .returned (.bool r) ∧ Drawn0 w w' := by
 have H : ((impl_within.f a0 0 1000000000).bind fun t101 => (some t101)) = some r := h
 clear h
 replace H := Option.bind_eq_some_iff.mp H
 obtain ⟨t101, A20, H⟩ := H
 try dsimp only at H
 have A2 := aM A20
 clear A20
 obtain rfl := Option.some.inj H
 go_enter Tryd.func60, Tryd.ntmps60
 go_wp2_with (first | ((with_reducible refine gate_callee (f := 90) rfl ?_); refine goesL_ (some 4) rfl rfl Tryd.func90 (by kernel_rfl) rfl #[.int .i64 a0, .int .i64 0, .int .i64 1000000000] rfl zee81 ?_; (with_reducible refine (impl_within.calls a0 0 1000000000 t101 _ A2.out).mono ?_); rintro e w' ⟨rfl, ⟨nd, rfl⟩⟩; refine ⟨_, rfl, ?_⟩))
 go_ret
 exact ⟨z4458, za9de⟩

end Go.Proofs.YtkgmoajdcibafaaDoor.P

/-
  DERIVED: THE SHELF's CONTRACTS AT THIS DUMP, IN PLAIN WORDS (tools/lay-plain.mjs out of 'TrydShelf.lean', which tools/lay-shelf.mjs wrote): THE SAME DECLARATIONS UNDER THE SAME NAMES: 'import', 'namespace', 'open', 'def', 'theorem' AND NOTHING ELSE: no command of the shelf's: FOR A HAND-IN. Each laying: the table of numbers ('.._ren') and one theorem, a field a fact of the dump's own or the kernel's comparison; each contract: ONE APPLICATION.
-/
namespace Go.Proofs
open Go.Shelf
def Tryd.lays160_ren : Go.Shelf.Ren := ⟨fun | 160 => 112 | 232 => 119 | 231 => 118 | 227 => 120 | 234 => 122 | 233 => 121 | 236 => 124 | 235 => 123 | 228 => 126 | 271 => 129 | 151 => 128 | 197 => 127 | 120 => 132 | 152 => 131 | 260 => 130 | 137 => 133 | 119 => 134 | 224 => 135 | 225 => 136 | 217 => 137 | 266 => 138 | n => n, fun | 9 => 9 | 4 => 4 | 3 => 3 | 5 => 5 | 117 => 147 | 116 => 146 | 0 => 0 | 124 => 150 | 21 => 21 | 105 => 153 | 46 => 135 | 119 => 157 | 139 => 160 | 138 => 159 | n => n, fun | 3 => 0 | 4 => 1 | n => n⟩
theorem Tryd.lays160 : Go.Proofs.Lays.n160 Tryd.prog Tryd.lays160_ren := {
  mixed := by kernel_rfl
  f119 := Tryd.func134.trans (congrArg some (by kernel_rfl))
  f120 := Tryd.func132.trans (congrArg some (by kernel_rfl))
  f137 := Tryd.func133.trans (congrArg some (by kernel_rfl))
  f151 := Tryd.func128.trans (congrArg some (by kernel_rfl))
  f152 := Tryd.func131.trans (congrArg some (by kernel_rfl))
  f160 := Tryd.func112.trans (congrArg some (by kernel_rfl))
  f197 := Tryd.func127.trans (congrArg some (by kernel_rfl))
  f217 := Tryd.func137.trans (congrArg some (by kernel_rfl))
  f224 := Tryd.func135.trans (congrArg some (by kernel_rfl))
  f225 := Tryd.func136.trans (congrArg some (by kernel_rfl))
  f227 := Tryd.func120.trans (congrArg some (by kernel_rfl))
  f228 := Tryd.func126.trans (congrArg some (by kernel_rfl))
  f231 := Tryd.func118.trans (congrArg some (by kernel_rfl))
  f232 := Tryd.func119.trans (congrArg some (by kernel_rfl))
  f233 := Tryd.func121.trans (congrArg some (by kernel_rfl))
  f234 := Tryd.func122.trans (congrArg some (by kernel_rfl))
  f235 := Tryd.func123.trans (congrArg some (by kernel_rfl))
  f236 := Tryd.func124.trans (congrArg some (by kernel_rfl))
  f260 := Tryd.func130.trans (congrArg some (by kernel_rfl))
  f266 := Tryd.func138.trans (congrArg some (by kernel_rfl))
  f271 := Tryd.func129.trans (congrArg some (by kernel_rfl))
  t0 := Tryd.underlying0
  a0 := Tryd.isAgg0
  z0 := Tryd.sizeOf0
  v0 := Tryd.zeroValue0
  t3 := Tryd.underlying3
  a3 := Tryd.isAgg3
  z3 := Tryd.sizeOf3
  v3 := Tryd.zeroValue3
  t4 := Tryd.underlying4
  a4 := Tryd.isAgg4
  z4 := Tryd.sizeOf4
  v4 := Tryd.zeroValue4
  t5 := Tryd.underlying5
  a5 := Tryd.isAgg5
  z5 := Tryd.sizeOf5
  v5 := Tryd.zeroValue5
  t9 := Tryd.underlying9
  a9 := Tryd.isAgg9
  z9 := Tryd.sizeOf9
  v9 := Tryd.zeroValue9
  t21 := Tryd.underlying21
  a21 := Tryd.isAgg21
  z21 := Tryd.sizeOf21
  v21 := Tryd.zeroValue21
  t46 := Tryd.underlying135
  a46 := Tryd.isAgg135
  z46 := Tryd.sizeOf135
  v46 := Tryd.zeroValue135
  t105 := Tryd.underlying153
  a105 := Tryd.isAgg153
  z105 := Tryd.sizeOf153
  v105 := Tryd.zeroValue153
  t116 := Tryd.underlying146
  a116 := Tryd.isAgg146
  z116 := Tryd.sizeOf146
  t117 := Tryd.underlying147
  a117 := Tryd.isAgg147
  z117 := Tryd.sizeOf147
  v117 := Tryd.zeroValue147
  t119 := Tryd.underlying157
  a119 := Tryd.isAgg157
  z119 := Tryd.sizeOf157
  t124 := Tryd.underlying150
  a124 := Tryd.isAgg150
  z124 := Tryd.sizeOf150
  v124 := Tryd.zeroValue150
  t138 := Tryd.underlying159
  a138 := Tryd.isAgg159
  z138 := Tryd.sizeOf159
  v138 := Tryd.zeroValue159
  t139 := Tryd.underlying160
  a139 := Tryd.isAgg160
  z139 := Tryd.sizeOf160
  v139 := Tryd.zeroValue160
  g3 := by kernel_rfl
  g4 := by kernel_rfl }
open Go.RowKit Go.Lib in
theorem Tryd.strings_Trim (s cutset : ByteArray) (w : World) (hs : s.size ≤ 9223372036854775807) (hcs : cutset.size < 4294967281) (hascii : ∀ (j : Nat) b, cutset.data.toList[j]? = some b → b.toNat < 128) :
    Calls Tryd.prog 112 #[.string s, .string cutset] w fun e w' => e = .returned (.string ⟨(Lib.trimS s.data.toList cutset.data.toList).toArray⟩) ∧ Below w.heap.size w w' := Any.strings_Trim_laid Tryd.lays160 (by kernel_rfl) s cutset w hs hcs hascii
end Go.Proofs

-- written by a program of this session's (wip/pp)
namespace Go.Proofs.YtkgmoajdcibafaaDoor.P
open Go.RowKit Go.Proofs.YtkgmoajdcibafaaDoorW.PrintWords Go.Proofs.YtkgmoajdcibafaaDoorW.PrintLast Go.Proofs.YtkgmoajdcibafaaDoorW.PrintMore
attribute [local go_sem] max2_int min2_int max_two min_two max_three min_three max_four min_four str_geq str_gtr str_leq   -- for this text's walks alone
set_option linter.unusedVariables false
set_option linter.unusedSimpArgs false

/-! ### strings_Trim: function 112 -/
def strings_Trim.f (a0 a1 : ByteArray) : Option ByteArray := if a0.size ≤ 9223372036854775807 ∧ a1.size < 4294967281 ∧ (a1.data.toList.all fun b => decide (b.toNat < 128)) = true then some ⟨(Go.Lib.trimS a0.data.toList a1.data.toList).toArray⟩ else none
theorem strings_Trim.calls (a0 a1 : ByteArray) (r : ByteArray) (w : World) (h : strings_Trim.f a0 a1 = some r) :
 Calls Tryd.prog 112 #[.string a0, .string a1] w fun e w' => e = .returned (.string r) ∧ Below w.heap.size w w' := by
 unfold strings_Trim.f at h
 split at h
 · rename_i hb
   injection h with h
   subst h
   refine (Tryd.strings_Trim a0 a1 w hb.1 hb.2.1 (fun j b hj => ?_)).mono ?_
   · exact of_decide_eq_true (List.all_eq_true.1 hb.2.2 b (List.mem_of_getElem? hj))
   · rintro e w' ⟨rfl, hB⟩
     exact ⟨rfl, hB⟩
 · cases h

end Go.Proofs.YtkgmoajdcibafaaDoor.P

-- written by a program of this session's (wip/pp)
namespace Go.Proofs.YtkgmoajdcibafaaDoor.P
open Go.RowKit Go.Proofs.YtkgmoajdcibafaaDoorW.PrintWords Go.Proofs.YtkgmoajdcibafaaDoorW.PrintLast Go.Proofs.YtkgmoajdcibafaaDoorW.PrintMore
attribute [local go_sem] max2_int min2_int max_two min_two max_three min_three max_four min_four str_geq str_gtr str_leq   -- for this text's walks alone
set_option linter.unusedVariables false
set_option linter.unusedSimpArgs false

/-! ### impl_isName: function 92 -/
def impl_isName.f (a0 : ByteArray) : Option (Bool) := (impl_within.f (a0.size : Int) 1 12).bind fun t101 => (if t101 = true then ((strings_Trim.f a0 (⟨#[97, 98, 99, 100, 101, 102, 103, 104, 105, 106, 107, 108, 109, 110, 111, 112, 113, 114, 115, 116, 117, 118, 119, 120, 121, 122, 65, 66, 67, 68, 69, 70, 71, 72, 73, 74, 75, 76, 77, 78, 79, 80, 81, 82, 83, 84, 85, 86, 87, 88, 89, 90]⟩ : ByteArray)).bind fun t102 => (some (t102.toList == ([] : List UInt8)))) else (some false))
set_option maxHeartbeats 8000000 in
set_option maxRecDepth 100000 in
theorem impl_isName.calls (a0 : ByteArray) (r : Bool) (w : World) (h : impl_isName.f a0 = some r) :
 Calls Tryd.prog 92 #[.string a0] w fun e w' => e = .returned (.bool r) ∧ Below w.heap.size w w' := by
 have HB := aM (Below.refl w.heap.size w)
 have H : ((impl_within.f (a0.size : Int) 1 12).bind fun t101 => (if t101 = true then ((strings_Trim.f a0 (⟨#[97, 98, 99, 100, 101, 102, 103, 104, 105, 106, 107, 108, 109, 110, 111, 112, 113, 114, 115, 116, 117, 118, 119, 120, 121, 122, 65, 66, 67, 68, 69, 70, 71, 72, 73, 74, 75, 76, 77, 78, 79, 80, 81, 82, 83, 84, 85, 86, 87, 88, 89, 90]⟩ : ByteArray)).bind fun t102 => (some (t102.toList == ([] : List UInt8)))) else (some false))) = some r := h
 clear h
 replace H := Option.bind_eq_some_iff.mp H
 obtain ⟨t101, A20, H⟩ := H
 try dsimp only at H
 have A2 := aM A20
 clear A20
 by_cases c3 : t101 = true
 · subst c3
   rw [if_pos rfl] at H
   replace H := Option.bind_eq_some_iff.mp H
   obtain ⟨t102, A40, H⟩ := H
   try dsimp only at H
   have A4 := aM A40
   clear A40
   obtain rfl := Option.some.inj H
   go_enter Tryd.func92, Tryd.ntmps92
   go_wp2_with (first | ((with_reducible refine gate_callee (f := 90) rfl ?_); refine goesL_ (some 5) rfl rfl Tryd.func90 (by kernel_rfl) rfl #[.int .i64 (a0.size : Int), .int .i64 1, .int .i64 12] rfl zee81 ?_; (with_reducible refine (impl_within.calls (a0.size : Int) 1 12 true _ A2.out).mono ?_); rintro e w' ⟨rfl, ⟨nd, rfl⟩⟩; refine ⟨_, rfl, ?_⟩) | (go_at_call 112; (with_reducible refine (strings_Trim.calls a0 (⟨#[97, 98, 99, 100, 101, 102, 103, 104, 105, 106, 107, 108, 109, 110, 111, 112, 113, 114, 115, 116, 117, 118, 119, 120, 121, 122, 65, 66, 67, 68, 69, 70, 71, 72, 73, 74, 75, 76, 77, 78, 79, 80, 81, 82, 83, 84, 85, 86, 87, 88, 89, 90]⟩ : ByteArray) t102 _ A4.out).mono ?_); rintro e w5 ⟨rfl, hb⟩; have _ := aM (below_step hbZ hb); clear HB; rename_i HB; (try clear hb)))
   go_ret
   exact ⟨z674d, z5acd⟩
 · replace c3 := Bool.eq_false_iff.mpr c3
   subst c3
   rw [if_neg (show ¬ (false = true) by decide)] at H
   obtain rfl := Option.some.inj H
   go_enter Tryd.func92, Tryd.ntmps92
   go_wp2_with (first | ((with_reducible refine gate_callee (f := 90) rfl ?_); refine goesL_ (some 5) rfl rfl Tryd.func90 (by kernel_rfl) rfl #[.int .i64 (a0.size : Int), .int .i64 1, .int .i64 12] rfl zee81 ?_; (with_reducible refine (impl_within.calls (a0.size : Int) 1 12 false _ A2.out).mono ?_); rintro e w' ⟨rfl, ⟨nd, rfl⟩⟩; refine ⟨_, rfl, ?_⟩))
   go_ret
   exact ⟨z674d, z5acd⟩

end Go.Proofs.YtkgmoajdcibafaaDoor.P

-- written by a program of this session's (wip/pp)
namespace Go.Proofs.YtkgmoajdcibafaaDoor.P
open Go.RowKit Go.Proofs.YtkgmoajdcibafaaDoorW.PrintWords Go.Proofs.YtkgmoajdcibafaaDoorW.PrintLast Go.Proofs.YtkgmoajdcibafaaDoorW.PrintMore
attribute [local go_sem] max2_int min2_int max_two min_two max_three min_three max_four min_four str_geq str_gtr str_leq   -- for this text's walks alone
set_option linter.unusedVariables false
set_option linter.unusedSimpArgs false

/-! ### impl_GoodKey: function 47 -/
mutual
def impl_GoodKey.j0 : Nat → Bool → ByteArray → List (S123) → Int → Option (Bool)
 | 0, _, _, _, _ => none
 | k + 1, x20, x102000, x102001, x102002 => if x20 = true then (some false) else (impl_GoodKey.l0 k x102001 (x102001.length : Int) 0 x102000 x102001 x102002)
def impl_GoodKey.l0 : Nat → List (S123) → Int → Int → ByteArray → List (S123) → Int → Option (Bool)
 | 0, _, _, _, _, _, _ => none
 | k + 1, x22, x23, x24, x102000, x102001, x102002 => if x24 < x23 then (if 0 ≤ x24 then (if x24 < (x22.length : Int) then ((impl_isName.f ((rd_T123 x22 x24).f0)).bind fun t106 => (if t106 = true then ((impl_isName.f ((rd_T123 x22 x24).f1)).bind fun t107 => (if t107 = true then (if x24 > 0 then (if 0 ≤ (wrap64 (x24 - 1)) then (if (wrap64 (x24 - 1)) < (x102001.length : Int) then (if ((Op.bytesLess (((rd_T123 x102001 (wrap64 (x24 - 1))).f0).toList) (((rd_T123 x22 x24).f0).toList)) = true) then (impl_GoodKey.l0 k x22 x23 (wrap64 (x24 + 1)) x102000 x102001 x102002) else (some false)) else (none)) else (none)) else (impl_GoodKey.l0 k x22 x23 (wrap64 (x24 + 1)) x102000 x102001 x102002)) else (some false))) else (some false))) else (none)) else (none)) else (some true)
end
def impl_GoodKey.f (k : Nat) (a0_0 : ByteArray) (l0_1 : List (S123)) (a0_2 : Int) : Option (Bool) := (impl_isName.f a0_0).bind fun t102 => (if t102 = true then (if (l0_1.length : Int) > 4 then (impl_GoodKey.j0 k true a0_0 l0_1 a0_2) else ((impl_within.f a0_2 0 1000000000).bind fun t103 => (impl_GoodKey.j0 k (!t103) a0_0 l0_1 a0_2))) else (impl_GoodKey.j0 k true a0_0 l0_1 a0_2))
theorem impl_GoodKey.mono_l : ∀ k, (∀ y0 y1 y2 y3, LeO (impl_GoodKey.j0 k y0 y1 y2 y3) (impl_GoodKey.j0 (k + 1) y0 y1 y2 y3)) ∧ (∀ y0 y1 y2 y3 y4 y5, LeO (impl_GoodKey.l0 k y0 y1 y2 y3 y4 y5) (impl_GoodKey.l0 (k + 1) y0 y1 y2 y3 y4 y5))
 | 0 => ⟨fun _ _ _ _ r h => by simp [impl_GoodKey.j0] at h, fun _ _ _ _ _ _ r h => by simp [impl_GoodKey.l0] at h⟩
 | k + 1 => by
  obtain ⟨ih0, ih1⟩ := impl_GoodKey.mono_l k
  refine ⟨?_, ?_⟩
  · intro y0 y1 y2 y3
    unfold impl_GoodKey.j0
    repeat' first
     | (with_reducible first | exact ih0 .. | exact ih1 .. | exact LeO.refl _ | exact LeO.none _ | refine LeO.ite ?_ ?_ | refine LeO.bind ?_ (fun _ => ?_))
     | exact LeO.none _
     | refine LeO.ite ?_ ?_
     | refine LeO.bind ?_ (fun _ => ?_)
  · intro y0 y1 y2 y3 y4 y5
    unfold impl_GoodKey.l0
    repeat' first
     | (with_reducible first | exact ih0 .. | exact ih1 .. | exact LeO.refl _ | exact LeO.none _ | refine LeO.ite ?_ ?_ | refine LeO.bind ?_ (fun _ => ?_))
     | exact LeO.none _
     | refine LeO.ite ?_ ?_
     | refine LeO.bind ?_ (fun _ => ?_)
theorem impl_GoodKey.mono : ∀ a0 a1 a2 k, LeO (impl_GoodKey.f k a0 a1 a2) (impl_GoodKey.f (k + 1) a0 a1 a2) := by
 intro a0 a1 a2 k
 obtain ⟨ih0, ih1⟩ := impl_GoodKey.mono_l k
 unfold impl_GoodKey.f
 repeat' first
  | (with_reducible first | exact ih0 .. | exact ih1 .. | exact LeO.refl _ | exact LeO.none _ | refine LeO.ite ?_ ?_ | refine LeO.bind ?_ (fun _ => ?_))
  | exact LeO.none _
  | refine LeO.ite ?_ ?_
  | refine LeO.bind ?_ (fun _ => ?_)
def impl_GoodKey.T6 : Bool × List (List Nat × List Nat) := (true, [([], []), ([0], [0]), ([1], [1]), ([2], [2]), ([3, 2], [3]), ([4], [4]), ([5, 4], [4, 5]), ([6, 4, 4], [4, 6]), ([7, 4], [4, 7]), ([4, 8], [4, 8]), ([9, 7], [9]), ([10], [10]), ([11, 10], [10, 11]), ([12, 10, 10], [10, 12]), ([13], [13]), ([14, 13], [13, 14]), ([13], [13]), ([16, 13], [13, 16]), ([15, 17, 13], [13, 15, 17]), ([18, 13], [13, 18]), ([19, 13], [13, 19]), ([13], [13]), ([21, 13], [13, 21]), ([20, 22, 13], [13, 20, 22]), ([13, 23, 10], [10, 13, 23]), ([10, 24], [10, 24])])
def impl_GoodKey.B6 : List Nat := [0, 1, 3, 7, 15, 31, 63, 127, 255, 511, 1023, 2047, 4095, 8191, 16383, 32767, 16383, 81919, 262143, 524287, 1048575, 16383, 2113535, 8388607, 16777215, 33554431]
theorem impl_GoodKey.tab6 : rtab .any (opsOf Tryd.f47 6) = impl_GoodKey.T6 := by kernel_rfl
theorem impl_GoodKey.bits6 : waitsOk impl_GoodKey.T6.2 impl_GoodKey.B6 = true := by kernel_rfl
set_option maxHeartbeats 8000000 in
set_option maxRecDepth 100000 in
theorem impl_GoodKey.calls (k : Nat) (a0_0 : ByteArray) (A0_1 : Option Addr) (c0_1 : Nat) (l0_1 : List (S123)) (a0_2 : Int) (r : Bool) (w : World) (hr0_1 : Kd.C k123 w A0_1 l0_1.length l0_1) (hc0_1 : l0_1.length ≤ c0_1) (h : impl_GoodKey.f k a0_0 l0_1 a0_2 = some r) :
 Calls Tryd.prog 47 #[.agg #[.string a0_0, .slice A0_1 l0_1.length c0_1, .int .i64 a0_2]] w fun e w' => e = .returned (.bool r) ∧ Below w.heap.size w w' := by
 have hu32 := Tryd.underlying32
 have hu123 := Tryd.underlying123
 have HR0_1 := aM hr0_1
 have HC0_1 := aM hc0_1
 clear hr0_1 hc0_1
 have HB := aM (Below.refl w.heap.size w)
 have H : ((impl_isName.f a0_0).bind fun t102 => (if t102 = true then (if (l0_1.length : Int) > 4 then (impl_GoodKey.j0 k true a0_0 l0_1 a0_2) else ((impl_within.f a0_2 0 1000000000).bind fun t103 => (impl_GoodKey.j0 k (!t103) a0_0 l0_1 a0_2))) else (impl_GoodKey.j0 k true a0_0 l0_1 a0_2))) = some r := h
 clear h
 have HC2 := aM H
 clear H
 go_enter Tryd.func47, Tryd.ntmps47
 go_upto_region 1 with (first | ((with_reducible refine gate_dst (N := 1) rfl ?_); (try (refine gate_guard (by rfl) ?_; dsimp only)); refine box_event ?hg (N := 1) ?hd (cs := #[.string a0_0, .slice A0_1 l0_1.length c0_1, .int .i64 a0_2]) (t := 32) ?hr ?_; (case hd => rfl); (case hg => rfl); (case hr => first | (go_simp; done) | (go_simp; rfl)); intro gb101 hg w3 hbox hb; have _ := aM (below_step hbZ hb); have _ := aM hbox; have _ := szZ hg; have _ := szZ hg; clear HB; rename_i HB BK101 GW101 GE101; clear hb hbox hg))
 (try simp only [Act.put, List.setIfInBounds_toArray, List.set_cons_zero, List.set_cons_succ])
 go_cut [20] (fun v20 wc => ∃ (kq : Nat) (x20_1 : Bool), v20 = .bool x20_1 ∧ Aside0 (impl_GoodKey.j0 kq x20_1 a0_0 l0_1 a0_2 = some r) ∧ Aside0 (kq ≤ k) ∧ Aside0 (wc.heap[gb101]? = some (.cells #[.string a0_0, (.slice A0_1 l0_1.length c0_1), .int .i64 a0_2] 32 (0, 0))) ∧ Aside0 (Below w.heap.size w wc))
 case first =>
  have H := HC2.out
  clear HC2
  replace H := Option.bind_eq_some_iff.mp H
  obtain ⟨t102, A40, H⟩ := H
  try dsimp only at H
  have A4 := aM A40
  clear A40
  by_cases c5 : t102 = true
  · subst c5
    rw [if_pos rfl] at H
    by_cases c6 : (l0_1.length : Int) > 4
    · rw [if_pos c6] at H
      have c6b0 : decide (4 < (l0_1.length : Int)) = true := decide_eq_true c6
      have c6b1 : decide (4 < l0_1.length) = true := decide_eq_true (by omega)
      clear c6
      (first | rw [c6b0] | (simp only [i64_w, i32_w]; rw [c6b0]) | skip)
      have H' := aM H
      clear H
      obtain ⟨hcz7_0, hcz7_1, hcz7_2, hfz7_0, hfz7_1, hfz7_2⟩ := cellsZ3 BK101.out
      go_wp2_with (first | ((with_reducible refine gate_callee (f := 92) rfl ?_); refine goesL_ (some 7) rfl rfl Tryd.func92 (by kernel_rfl) rfl #[.string a0_0] rfl zee81 ?_; (with_reducible refine (impl_isName.calls a0_0 true _ A4.out).mono ?_); rintro e w8 ⟨rfl, hb⟩; refine ⟨_, rfl, ?_⟩; have _ := bB gb101 hb; have _ := aM (below_step hbZ hb); clear BK101 HB; rename_i BK101 HB; (try clear hb); obtain ⟨hcz9_0, hcz9_1, hcz9_2, hfz9_0, hfz9_1, hfz9_2⟩ := cellsZ3 BK101.out))
      go_meet
      case rel => exact ⟨_, (true), z4458, H', ⟨zb79b⟩, ⟨bkZ⟩, ⟨zcb41⟩⟩
    · rw [if_neg c6] at H
      have c6b0 : decide (4 < (l0_1.length : Int)) = false := decide_eq_false c6
      have c6b1 : decide (4 < l0_1.length) = false := decide_eq_false (by omega)
      clear c6
      (first | rw [c6b0] | (simp only [i64_w, i32_w]; rw [c6b0]) | skip)
      replace H := Option.bind_eq_some_iff.mp H
      obtain ⟨t103, A100, H⟩ := H
      try dsimp only at H
      have A10 := aM A100
      clear A100
      have H' := aM H
      clear H
      obtain ⟨hcz11_0, hcz11_1, hcz11_2, hfz11_0, hfz11_1, hfz11_2⟩ := cellsZ3 BK101.out
      go_wp2_with (first | ((with_reducible refine gate_callee (f := 92) rfl ?_); refine goesL_ (some 7) rfl rfl Tryd.func92 (by kernel_rfl) rfl #[.string a0_0] rfl zee81 ?_; (with_reducible refine (impl_isName.calls a0_0 true _ A4.out).mono ?_); rintro e w12 ⟨rfl, hb⟩; refine ⟨_, rfl, ?_⟩; have _ := bB gb101 hb; have _ := aM (below_step hbZ hb); clear BK101 HB; rename_i BK101 HB; (try clear hb); obtain ⟨hcz13_0, hcz13_1, hcz13_2, hfz13_0, hfz13_1, hfz13_2⟩ := cellsZ3 BK101.out) | (go_at_call 90; (with_reducible refine (impl_within.calls a0_2 0 1000000000 t103 _ A10.out).mono ?_); rintro e w' ⟨rfl, ⟨nd, rfl⟩⟩))
      go_meet
      case rel => exact ⟨_, (!t103), z4458, H', ⟨zb79b⟩, ⟨bkZ⟩, ⟨zcb41⟩⟩
  · replace c5 := Bool.eq_false_iff.mpr c5
    subst c5
    rw [if_neg (show ¬ (false = true) by decide)] at H
    have H' := aM H
    clear H
    obtain ⟨hcz14_0, hcz14_1, hcz14_2, hfz14_0, hfz14_1, hfz14_2⟩ := cellsZ3 BK101.out
    go_wp2_with (first | ((with_reducible refine gate_callee (f := 92) rfl ?_); refine goesL_ (some 7) rfl rfl Tryd.func92 (by kernel_rfl) rfl #[.string a0_0] rfl zee81 ?_; (with_reducible refine (impl_isName.calls a0_0 false _ A4.out).mono ?_); rintro e w15 ⟨rfl, hb⟩; refine ⟨_, rfl, ?_⟩; have _ := bB gb101 hb; have _ := aM (below_step hbZ hb); clear BK101 HB; rename_i BK101 HB; (try clear hb)))
    go_meet
    case rel => exact ⟨_, (true), z4458, H', ⟨zb79b⟩, ⟨bkZ⟩, ⟨zcb41⟩⟩
 case rest =>
  clear HC2
  try clear p2
  try clear c4
  try clear c5
  try clear c6
  try clear c6b0
  try clear c6b1
  try clear c9
  try clear hcz11_0 hcz11_1 hcz11_2
  try clear hcz13_0 hcz13_1 hcz13_2
  try clear hcz14_0 hcz14_1 hcz14_2
  try clear hcz7_0 hcz7_1 hcz7_2
  try clear hcz9_0 hcz9_1 hcz9_2
  try clear hfz11_0 hfz11_1 hfz11_2
  try clear hfz13_0 hfz13_1 hfz13_2
  try clear hfz14_0 hfz14_1 hfz14_2
  try clear hfz7_0 hfz7_1 hfz7_2
  try clear hfz9_0 hfz9_1 hfz9_2
  obtain ⟨kq, x20_1, rfl, HA, HJ1, BK101, HB⟩ := hcut
  cases kq with
  | zero => exact absurd HA.out (by simp [impl_GoodKey.j0])
  | succ kj1 =>
   have H := HA.out
   clear HA
   simp only [impl_GoodKey.j0] at H
   by_cases c16 : x20_1 = true
   · subst c16
     rw [if_pos rfl] at H
     obtain rfl := Option.some.inj H
     go_wp2
     go_ret
     exact ⟨z674d, zcb41⟩
   · replace c16 := Bool.eq_false_iff.mpr c16
     subst c16
     rw [if_neg (show ¬ (false = true) by decide)] at H
     have H' := aM H
     clear H
     obtain ⟨hcz17_0, hcz17_1, hcz17_2, hfz17_0, hfz17_1, hfz17_2⟩ := cellsZ3 BK101.out
     go_wp2
     go_loopg [24] kj1 (fun kq v24 w' => ∃ (x24_2 : Int), v24 = .int .i64 x24_2 ∧ Aside0 (impl_GoodKey.l0 kq l0_1 (l0_1.length : Int) x24_2 a0_0 l0_1 a0_2 = some r) ∧ Aside0 (kq ≤ kj1) ∧ Aside0 (w'.heap[gb101]? = some (.cells #[.string a0_0, (.slice A0_1 l0_1.length c0_1), .int .i64 a0_2] 32 (0, 0))) ∧ Aside0 (Below w.heap.size w w'))
     case atStart => exact ⟨(0), z4458, H', ⟨Nat.le_refl _⟩, ⟨bkZ⟩, ⟨zcb41⟩⟩
     case round =>
      clear H'
      try clear c1
      try clear p2
      try clear c4
      try clear c5
      try clear c6
      try clear c6b0
      try clear c6b1
      try clear c9
      try clear c16
      try clear hcz11_0 hcz11_1 hcz11_2
      try clear hcz13_0 hcz13_1 hcz13_2
      try clear hcz14_0 hcz14_1 hcz14_2
      try clear hcz17_0 hcz17_1 hcz17_2
      try clear hcz7_0 hcz7_1 hcz7_2
      try clear hcz9_0 hcz9_1 hcz9_2
      try clear hfz11_0 hfz11_1 hfz11_2
      try clear hfz13_0 hfz13_1 hfz13_2
      try clear hfz14_0 hfz14_1 hfz14_2
      try clear hfz17_0 hfz17_1 hfz17_2
      try clear hfz7_0 hfz7_1 hfz7_2
      try clear hfz9_0 hfz9_1 hfz9_2
      try clear p2
      obtain ⟨x24_2, rfl, HA, HK2, BK101, HB⟩ := hrel
      cases gk with
      | zero => exact absurd HA.out (by simp [impl_GoodKey.l0])
      | succ k2 =>
       have H := HA.out
       clear HA
       simp only [impl_GoodKey.l0] at H
       by_cases c18 : x24_2 < (l0_1.length : Int)
       · rw [if_pos c18] at H
         have c18b0 : decide (x24_2 < (l0_1.length : Int)) = true := decide_eq_true c18
         clear c18
         replace H := ifS H; obtain ⟨c19, H⟩ := H
         have c19b0 : decide (0 ≤ x24_2) = true := decide_eq_true c19
         clear c19
         replace H := ifS H; obtain ⟨c20, H⟩ := H
         have c20b0 : decide (x24_2 < (l0_1.length : Int)) = true := decide_eq_true c20
         clear c20
         replace H := Option.bind_eq_some_iff.mp H
         obtain ⟨t106, A210, H⟩ := H
         try dsimp only at H
         have A21 := aM A210
         clear A210
         by_cases c22 : t106 = true
         · subst c22
           rw [if_pos rfl] at H
           replace H := Option.bind_eq_some_iff.mp H
           obtain ⟨t107, A230, H⟩ := H
           try dsimp only at H
           have A23 := aM A230
           clear A230
           by_cases c24 : t107 = true
           · subst c24
             rw [if_pos rfl] at H
             by_cases c25 : x24_2 > 0
             · rw [if_pos c25] at H
               have c25b0 : decide (0 < x24_2) = true := decide_eq_true c25
               clear c25
               obtain ⟨ji26, hji26⟩ : ∃ j_ : Int, (wrap64 (x24_2 - 1)) = j_ := ⟨_, rfl⟩
               replace H : (if 0 ≤ (ji26) then (if (ji26) < (l0_1.length : Int) then (if ((Op.bytesLess (((rd_T123 l0_1 (ji26)).f0).toList) (((rd_T123 l0_1 x24_2).f0).toList)) = true) then (impl_GoodKey.l0 k2 l0_1 (l0_1.length : Int) (wrap64 (x24_2 + 1)) a0_0 l0_1 a0_2) else (some false)) else (none)) else (none)) = some r := by first | (rw [hji26] at H; exact H) | (simp only [hji26] at H ⊢; exact H)
               (try rw [hji26] at A21)
               (try rw [hji26] at A23)
               have hji26w : (IntKind.i64.wrap (x24_2 - 1)) = ji26 := (i64_w _).trans hji26
               replace H := ifS H; obtain ⟨c27, H⟩ := H
               have c27b0 : decide (0 ≤ (ji26)) = true := decide_eq_true c27
               clear c27
               replace H := ifS H; obtain ⟨c28, H⟩ := H
               have c28b0 : decide ((ji26) < (l0_1.length : Int)) = true := decide_eq_true c28
               clear c28
               by_cases c29 : ((Op.bytesLess (((rd_T123 l0_1 (ji26)).f0).toList) (((rd_T123 l0_1 x24_2).f0).toList)) = true)
               · rw [if_pos c29] at H
                 have c29b0 : (Op.bytesLess (((rd_T123 l0_1 (ji26)).f0).toList) (((rd_T123 l0_1 x24_2).f0).toList)) = true := c29
                 clear c29
                 have H' := aM H
                 clear H
                 have p104 : 0 ≤ (x24_2 : Int) := of_decide_eq_true z1200
                 have q104 : x24_2 < (l0_1.length : Int) := of_decide_eq_true z1200
                 obtain ⟨ad104, e104, hx104_0, hx104_1⟩ := at_T123 HR0_1.out x24_2 p104 q104
                 cases e104
                 replace hx104_0 := (HB.out.cell (World.block_lt_of_cell? w _ hx104_0)).trans hx104_0
                 replace hx104_1 := (HB.out.cell (World.block_lt_of_cell? w _ hx104_1)).trans hx104_1
                 replace p104 := eq_true p104
                 replace q104 := eq_true q104
                 try go_wp2_with (first | ((with_reducible refine gate_dst (N := 4) rfl ?_); (try (refine gate_guard (by rfl) ?_; dsimp only)); refine box_event ?hg (N := 4) ?hd (cs := #[.string (⟨#[]⟩ : ByteArray), .string (⟨#[]⟩ : ByteArray)]) (t := 123) ?hr ?_; (case hd => rfl); (case hg => rfl); (case hr => first | (go_simp; done) | (go_simp; rfl)); intro gb105 hg w30 hbox hb; have _ := bB gb101 hb; have _ := aM (below_step hbZ hb); have _ := aM hbox; have _ := szZ hg; have _ := szZ hg; have ⟨_, _⟩ := nbB gb101 hg; clear BK101 HB; rename_i BK101 HB BK105 GW105 GE105 NB101_105 NB105_101; clear hb hbox hg; have hnb31 := NB105_101.out; have hnc31 := NB101_105.out; obtain ⟨hcz32_0, hcz32_1, hfz32_0, hfz32_1⟩ := cellsZ2 BK105.out))
                 have n0_ : Aside0 (((w30.setCell ⟨gb105, 0, none⟩ (.string ((rd_T123 l0_1 x24_2).f0))).setCell ⟨gb105, 1, none⟩ (.string ((rd_T123 l0_1 x24_2).f1))).heap[gb101]? = some (.cells #[.string a0_0, .slice (some ad104) l0_1.length c0_1, .int .i64 a0_2] 32 (0, 0))) := ⟨bkZ⟩
                 have n1_ : Aside0 (((w30.setCell ⟨gb105, 0, none⟩ (.string ((rd_T123 l0_1 x24_2).f0))).setCell ⟨gb105, 1, none⟩ (.string ((rd_T123 l0_1 x24_2).f1))).heap[gb105]? = some (.cells #[.string ((rd_T123 l0_1 x24_2).f0), .string ((rd_T123 l0_1 x24_2).f1)] 123 (0, 0))) := ⟨bkZ⟩
                 have n2_ : Aside0 (Below w.heap.size w ((w30.setCell ⟨gb105, 0, none⟩ (.string ((rd_T123 l0_1 x24_2).f0))).setCell ⟨gb105, 1, none⟩ (.string ((rd_T123 l0_1 x24_2).f1)))) := ⟨zcb41⟩
                 (try clear BK101)
                 (try clear BK105)
                 (try clear HB)
                 generalize ((w30.setCell ⟨gb105, 0, none⟩ (.string ((rd_T123 l0_1 x24_2).f0))).setCell ⟨gb105, 1, none⟩ (.string ((rd_T123 l0_1 x24_2).f1))) = w33 at n0_ n1_ n2_ ⊢
                 have BK101 := n0_
                 have BK105 := n1_
                 have HB := n2_
                 clear n0_ n1_ n2_
                 have _ := aM (blk_drew BK101.out)
                 have _ := aM (blk_drew BK105.out)
                 have _ := aM (below_drew1 HB.out)
                 clear BK101
                 clear BK105
                 clear HB
                 rename_i BK101 BK105 HB
                 have p108 : 0 ≤ ((ji26) : Int) := of_decide_eq_true z1200
                 have q108 : (ji26) < (l0_1.length : Int) := of_decide_eq_true z1200
                 obtain ⟨ad108, e108, hx108_0, hx108_1⟩ := at_T123 HR0_1.out (ji26) p108 q108
                 have hw108_1 := hx108_1
                 have hw108_0 := hx108_0
                 obtain rfl : ad104 = ad108 := (by injection e108)
                 replace hx108_0 := (HB.out.cell (World.block_lt_of_cell? w _ hx108_0)).trans hx108_0
                 replace hx108_1 := (HB.out.cell (World.block_lt_of_cell? w _ hx108_1)).trans hx108_1
                 replace p108 := eq_true p108
                 replace q108 := eq_true q108
                 refine sA 26 impl_GoodKey.tab6 impl_GoodKey.bits6 (fun w' => w'.cell? ⟨gb105, 0, none⟩ = some (.string ((rd_T123 l0_1 x24_2).f0)) ∧ w'.cell? ⟨gb105, 1, none⟩ = some (.string ((rd_T123 l0_1 x24_2).f1)) ∧ w'.cell? ⟨gb101, 0, none⟩ = some (.string a0_0) ∧ w'.cell? ⟨gb101, 1, none⟩ = some (.slice (some ad104) l0_1.length c0_1) ∧ w'.cell? ⟨gb101, 2, none⟩ = some (.int .i64 a0_2) ∧ w'.cell? (ad104.add (((ji26)).toNat * 2)) = some (.string ((rd_T123 l0_1 (ji26)).f0)) ∧ w'.cell? ⟨(ad104.add (((ji26)).toNat * 2)).block, (ad104.add (((ji26)).toNat * 2)).off + 1, none⟩ = some (.string ((rd_T123 l0_1 (ji26)).f1))) [] (fun hHeld HT_ HW_ => ?_)
                 generalize w33.drew = w34 at BK101 BK105 HB hx108_0 hx108_1 hHeld ⊢
                 refine pA 0 29 HT_ ?_; refine tA 1 30 HT_ HW_ hHeld ?_; refine oA 2 31 HT_ (fun K hK => ?_)
                 refine goes_ Tryd.func92 (by kernel_rfl) rfl #[.string ((rd_T123 l0_1 x24_2).f0)] (by rfl) rfl rfl zee81 ?_
                 with_reducible refine (impl_isName.calls ((rd_T123 l0_1 x24_2).f0) true _ A21.out).mono ?_
                 rintro e w35 ⟨rfl, hb⟩
                 refine ⟨_, rfl, ?_⟩
                 have _ := bB gb101 hb
                 have _ := bB gb105 hb
                 have _ := aM (below_step hbZ hb)
                 clear BK101
                 clear BK105
                 clear HB
                 rename_i BK101 BK105 HB
                 (try clear hb)
                 (try clear hb2)
                 (try clear hk)
                 (try clear hi)
                 refine hK.out _ _ sZ (fun hHeld => ?_)
                 clear hK K
                 refine nA 31 ?_; refine pA 3 32 HT_ ?_; refine pA 4 33 HT_ ?_; refine pA 5 34 HT_ ?_; refine tA 6 35 HT_ HW_ hHeld ?_; refine oA 7 36 HT_ (fun K hK => ?_)
                 refine goes_ Tryd.func92 (by kernel_rfl) rfl #[.string ((rd_T123 l0_1 x24_2).f1)] (by rfl) rfl rfl zee81 ?_
                 with_reducible refine (impl_isName.calls ((rd_T123 l0_1 x24_2).f1) true _ A23.out).mono ?_
                 rintro e w36 ⟨rfl, hb⟩
                 refine ⟨_, rfl, ?_⟩
                 have _ := bB gb101 hb
                 have _ := bB gb105 hb
                 have _ := aM (below_step hbZ hb)
                 clear BK101
                 clear BK105
                 clear HB
                 rename_i BK101 BK105 HB
                 (try clear hb)
                 (try clear hb2)
                 (try clear hk)
                 (try clear hi)
                 refine hK.out _ _ sZ (fun hHeld => ?_)
                 clear hK K
                 refine nA 36 ?_; refine pA 8 37 HT_ ?_; refine pA 9 38 HT_ ?_; refine pA 10 39 HT_ ?_; refine pA 11 40 HT_ ?_; refine pA 12 41 HT_ ?_; refine pA 13 42 HT_ ?_; refine pA 14 43 HT_ ?_; refine pA 16 45 HT_ ?_; refine pA 17 46 HT_ ?_; refine pA 21 50 HT_ ?_; refine tA 15 44 HT_ HW_ hHeld ?_; refine pA 18 47 HT_ ?_; refine pA 19 48 HT_ ?_; refine tA 20 49 HT_ HW_ hHeld ?_; refine tA 22 51 HT_ HW_ hHeld ?_; refine pA 23 52 HT_ ?_; refine pA 24 53 HT_ ?_; refine pA 25 54 HT_ ?_
                 refine done_ (done_of HT_.out (by kernel_rfl)) ?_
                 try go_wp2
                 go_roundg k2
                 case measure => have := HJ1.out; have := HK2.out; omega
                 case rel => exact ⟨(wrap64 (x24_2 + 1)), z4458, H', ⟨by have := HJ1.out; have := HK2.out; omega⟩, ⟨bkZ⟩, ⟨zcb41⟩⟩
               · rw [if_neg c29] at H
                 have c29b0 : (Op.bytesLess (((rd_T123 l0_1 (ji26)).f0).toList) (((rd_T123 l0_1 x24_2).f0).toList)) = false := by simpa using c29
                 clear c29
                 obtain rfl := Option.some.inj H
                 have p104 : 0 ≤ (x24_2 : Int) := of_decide_eq_true z1200
                 have q104 : x24_2 < (l0_1.length : Int) := of_decide_eq_true z1200
                 obtain ⟨ad104, e104, hx104_0, hx104_1⟩ := at_T123 HR0_1.out x24_2 p104 q104
                 cases e104
                 replace hx104_0 := (HB.out.cell (World.block_lt_of_cell? w _ hx104_0)).trans hx104_0
                 replace hx104_1 := (HB.out.cell (World.block_lt_of_cell? w _ hx104_1)).trans hx104_1
                 replace p104 := eq_true p104
                 replace q104 := eq_true q104
                 try go_wp2_with (first | ((with_reducible refine gate_dst (N := 4) rfl ?_); (try (refine gate_guard (by rfl) ?_; dsimp only)); refine box_event ?hg (N := 4) ?hd (cs := #[.string (⟨#[]⟩ : ByteArray), .string (⟨#[]⟩ : ByteArray)]) (t := 123) ?hr ?_; (case hd => rfl); (case hg => rfl); (case hr => first | (go_simp; done) | (go_simp; rfl)); intro gb105 hg w37 hbox hb; have _ := bB gb101 hb; have _ := aM (below_step hbZ hb); have _ := aM hbox; have _ := szZ hg; have _ := szZ hg; have ⟨_, _⟩ := nbB gb101 hg; clear BK101 HB; rename_i BK101 HB BK105 GW105 GE105 NB101_105 NB105_101; clear hb hbox hg; have hnb38 := NB105_101.out; have hnc38 := NB101_105.out; obtain ⟨hcz39_0, hcz39_1, hfz39_0, hfz39_1⟩ := cellsZ2 BK105.out))
                 have n0_ : Aside0 (((w37.setCell ⟨gb105, 0, none⟩ (.string ((rd_T123 l0_1 x24_2).f0))).setCell ⟨gb105, 1, none⟩ (.string ((rd_T123 l0_1 x24_2).f1))).heap[gb101]? = some (.cells #[.string a0_0, .slice (some ad104) l0_1.length c0_1, .int .i64 a0_2] 32 (0, 0))) := ⟨bkZ⟩
                 have n1_ : Aside0 (((w37.setCell ⟨gb105, 0, none⟩ (.string ((rd_T123 l0_1 x24_2).f0))).setCell ⟨gb105, 1, none⟩ (.string ((rd_T123 l0_1 x24_2).f1))).heap[gb105]? = some (.cells #[.string ((rd_T123 l0_1 x24_2).f0), .string ((rd_T123 l0_1 x24_2).f1)] 123 (0, 0))) := ⟨bkZ⟩
                 have n2_ : Aside0 (Below w.heap.size w ((w37.setCell ⟨gb105, 0, none⟩ (.string ((rd_T123 l0_1 x24_2).f0))).setCell ⟨gb105, 1, none⟩ (.string ((rd_T123 l0_1 x24_2).f1)))) := ⟨zcb41⟩
                 (try clear BK101)
                 (try clear BK105)
                 (try clear HB)
                 generalize ((w37.setCell ⟨gb105, 0, none⟩ (.string ((rd_T123 l0_1 x24_2).f0))).setCell ⟨gb105, 1, none⟩ (.string ((rd_T123 l0_1 x24_2).f1))) = w40 at n0_ n1_ n2_ ⊢
                 have BK101 := n0_
                 have BK105 := n1_
                 have HB := n2_
                 clear n0_ n1_ n2_
                 have _ := aM (blk_drew BK101.out)
                 have _ := aM (blk_drew BK105.out)
                 have _ := aM (below_drew1 HB.out)
                 clear BK101
                 clear BK105
                 clear HB
                 rename_i BK101 BK105 HB
                 have p108 : 0 ≤ ((ji26) : Int) := of_decide_eq_true z1200
                 have q108 : (ji26) < (l0_1.length : Int) := of_decide_eq_true z1200
                 obtain ⟨ad108, e108, hx108_0, hx108_1⟩ := at_T123 HR0_1.out (ji26) p108 q108
                 have hw108_1 := hx108_1
                 have hw108_0 := hx108_0
                 obtain rfl : ad104 = ad108 := (by injection e108)
                 replace hx108_0 := (HB.out.cell (World.block_lt_of_cell? w _ hx108_0)).trans hx108_0
                 replace hx108_1 := (HB.out.cell (World.block_lt_of_cell? w _ hx108_1)).trans hx108_1
                 replace p108 := eq_true p108
                 replace q108 := eq_true q108
                 refine sA 26 impl_GoodKey.tab6 impl_GoodKey.bits6 (fun w' => w'.cell? ⟨gb105, 0, none⟩ = some (.string ((rd_T123 l0_1 x24_2).f0)) ∧ w'.cell? ⟨gb105, 1, none⟩ = some (.string ((rd_T123 l0_1 x24_2).f1)) ∧ w'.cell? ⟨gb101, 0, none⟩ = some (.string a0_0) ∧ w'.cell? ⟨gb101, 1, none⟩ = some (.slice (some ad104) l0_1.length c0_1) ∧ w'.cell? ⟨gb101, 2, none⟩ = some (.int .i64 a0_2) ∧ w'.cell? (ad104.add (((ji26)).toNat * 2)) = some (.string ((rd_T123 l0_1 (ji26)).f0)) ∧ w'.cell? ⟨(ad104.add (((ji26)).toNat * 2)).block, (ad104.add (((ji26)).toNat * 2)).off + 1, none⟩ = some (.string ((rd_T123 l0_1 (ji26)).f1))) [] (fun hHeld HT_ HW_ => ?_)
                 generalize w40.drew = w41 at BK101 BK105 HB hx108_0 hx108_1 hHeld ⊢
                 refine pA 0 29 HT_ ?_; refine tA 1 30 HT_ HW_ hHeld ?_; refine oA 2 31 HT_ (fun K hK => ?_)
                 refine goes_ Tryd.func92 (by kernel_rfl) rfl #[.string ((rd_T123 l0_1 x24_2).f0)] (by rfl) rfl rfl zee81 ?_
                 with_reducible refine (impl_isName.calls ((rd_T123 l0_1 x24_2).f0) true _ A21.out).mono ?_
                 rintro e w42 ⟨rfl, hb⟩
                 refine ⟨_, rfl, ?_⟩
                 have _ := bB gb101 hb
                 have _ := bB gb105 hb
                 have _ := aM (below_step hbZ hb)
                 clear BK101
                 clear BK105
                 clear HB
                 rename_i BK101 BK105 HB
                 (try clear hb)
                 (try clear hb2)
                 (try clear hk)
                 (try clear hi)
                 refine hK.out _ _ sZ (fun hHeld => ?_)
                 clear hK K
                 refine nA 31 ?_; refine pA 3 32 HT_ ?_; refine pA 4 33 HT_ ?_; refine pA 5 34 HT_ ?_; refine tA 6 35 HT_ HW_ hHeld ?_; refine oA 7 36 HT_ (fun K hK => ?_)
                 refine goes_ Tryd.func92 (by kernel_rfl) rfl #[.string ((rd_T123 l0_1 x24_2).f1)] (by rfl) rfl rfl zee81 ?_
                 with_reducible refine (impl_isName.calls ((rd_T123 l0_1 x24_2).f1) true _ A23.out).mono ?_
                 rintro e w43 ⟨rfl, hb⟩
                 refine ⟨_, rfl, ?_⟩
                 have _ := bB gb101 hb
                 have _ := bB gb105 hb
                 have _ := aM (below_step hbZ hb)
                 clear BK101
                 clear BK105
                 clear HB
                 rename_i BK101 BK105 HB
                 (try clear hb)
                 (try clear hb2)
                 (try clear hk)
                 (try clear hi)
                 refine hK.out _ _ sZ (fun hHeld => ?_)
                 clear hK K
                 refine nA 36 ?_; refine pA 8 37 HT_ ?_; refine pA 9 38 HT_ ?_; refine pA 10 39 HT_ ?_; refine pA 11 40 HT_ ?_; refine pA 12 41 HT_ ?_; refine pA 13 42 HT_ ?_; refine pA 14 43 HT_ ?_; refine pA 16 45 HT_ ?_; refine pA 17 46 HT_ ?_; refine pA 21 50 HT_ ?_; refine tA 15 44 HT_ HW_ hHeld ?_; refine pA 18 47 HT_ ?_; refine pA 19 48 HT_ ?_; refine tA 20 49 HT_ HW_ hHeld ?_; refine tA 22 51 HT_ HW_ hHeld ?_; refine pA 23 52 HT_ ?_; refine pA 24 53 HT_ ?_; refine pA 25 54 HT_ ?_
                 refine done_ (done_of HT_.out (by kernel_rfl)) ?_
                 try go_wp2
                 go_ret
                 exact ⟨by first | rfl | (simp [errW_none, errW_some] <;> rfl) | (simp only [← hji26]; first | rfl | (simp [errW_none, errW_some] <;> rfl)) | (simp [*, errW_none, errW_some] <;> rfl), zcb41⟩
             · rw [if_neg c25] at H
               have c25b0 : decide (0 < x24_2) = false := decide_eq_false c25
               clear c25
               have H' := aM H
               clear H
               have p104 : 0 ≤ (x24_2 : Int) := of_decide_eq_true z1200
               have q104 : x24_2 < (l0_1.length : Int) := of_decide_eq_true z1200
               obtain ⟨ad104, e104, hx104_0, hx104_1⟩ := at_T123 HR0_1.out x24_2 p104 q104
               cases e104
               replace hx104_0 := (HB.out.cell (World.block_lt_of_cell? w _ hx104_0)).trans hx104_0
               replace hx104_1 := (HB.out.cell (World.block_lt_of_cell? w _ hx104_1)).trans hx104_1
               replace p104 := eq_true p104
               replace q104 := eq_true q104
               try go_wp2_with (first | ((with_reducible refine gate_dst (N := 4) rfl ?_); (try (refine gate_guard (by rfl) ?_; dsimp only)); refine box_event ?hg (N := 4) ?hd (cs := #[.string (⟨#[]⟩ : ByteArray), .string (⟨#[]⟩ : ByteArray)]) (t := 123) ?hr ?_; (case hd => rfl); (case hg => rfl); (case hr => first | (go_simp; done) | (go_simp; rfl)); intro gb105 hg w44 hbox hb; have _ := bB gb101 hb; have _ := aM (below_step hbZ hb); have _ := aM hbox; have _ := szZ hg; have _ := szZ hg; have ⟨_, _⟩ := nbB gb101 hg; clear BK101 HB; rename_i BK101 HB BK105 GW105 GE105 NB101_105 NB105_101; clear hb hbox hg; have hnb45 := NB105_101.out; have hnc45 := NB101_105.out; obtain ⟨hcz46_0, hcz46_1, hfz46_0, hfz46_1⟩ := cellsZ2 BK105.out))
               have n0_ : Aside0 (((w44.setCell ⟨gb105, 0, none⟩ (.string ((rd_T123 l0_1 x24_2).f0))).setCell ⟨gb105, 1, none⟩ (.string ((rd_T123 l0_1 x24_2).f1))).heap[gb101]? = some (.cells #[.string a0_0, .slice (some ad104) l0_1.length c0_1, .int .i64 a0_2] 32 (0, 0))) := ⟨bkZ⟩
               have n1_ : Aside0 (((w44.setCell ⟨gb105, 0, none⟩ (.string ((rd_T123 l0_1 x24_2).f0))).setCell ⟨gb105, 1, none⟩ (.string ((rd_T123 l0_1 x24_2).f1))).heap[gb105]? = some (.cells #[.string ((rd_T123 l0_1 x24_2).f0), .string ((rd_T123 l0_1 x24_2).f1)] 123 (0, 0))) := ⟨bkZ⟩
               have n2_ : Aside0 (Below w.heap.size w ((w44.setCell ⟨gb105, 0, none⟩ (.string ((rd_T123 l0_1 x24_2).f0))).setCell ⟨gb105, 1, none⟩ (.string ((rd_T123 l0_1 x24_2).f1)))) := ⟨zcb41⟩
               (try clear BK101)
               (try clear BK105)
               (try clear HB)
               generalize ((w44.setCell ⟨gb105, 0, none⟩ (.string ((rd_T123 l0_1 x24_2).f0))).setCell ⟨gb105, 1, none⟩ (.string ((rd_T123 l0_1 x24_2).f1))) = w47 at n0_ n1_ n2_ ⊢
               have BK101 := n0_
               have BK105 := n1_
               have HB := n2_
               clear n0_ n1_ n2_
               have _ := aM (blk_drew BK101.out)
               have _ := aM (blk_drew BK105.out)
               have _ := aM (below_drew1 HB.out)
               clear BK101
               clear BK105
               clear HB
               rename_i BK101 BK105 HB
               refine sA 26 impl_GoodKey.tab6 impl_GoodKey.bits6 (fun w' => w'.cell? ⟨gb105, 0, none⟩ = some (.string ((rd_T123 l0_1 x24_2).f0)) ∧ w'.cell? ⟨gb105, 1, none⟩ = some (.string ((rd_T123 l0_1 x24_2).f1))) [] (fun hHeld HT_ HW_ => ?_)
               generalize w47.drew = w48 at BK101 BK105 HB hHeld ⊢
               refine pA 0 29 HT_ ?_; refine tA 1 30 HT_ HW_ hHeld ?_; refine oA 2 31 HT_ (fun K hK => ?_)
               refine goes_ Tryd.func92 (by kernel_rfl) rfl #[.string ((rd_T123 l0_1 x24_2).f0)] (by rfl) rfl rfl zee81 ?_
               with_reducible refine (impl_isName.calls ((rd_T123 l0_1 x24_2).f0) true _ A21.out).mono ?_
               rintro e w49 ⟨rfl, hb⟩
               refine ⟨_, rfl, ?_⟩
               have _ := bB gb101 hb
               have _ := bB gb105 hb
               have _ := aM (below_step hbZ hb)
               clear BK101
               clear BK105
               clear HB
               rename_i BK101 BK105 HB
               (try clear hb)
               (try clear hb2)
               (try clear hk)
               (try clear hi)
               refine hK.out _ _ sZ (fun hHeld => ?_)
               clear hK K
               refine nA 31 ?_; refine pA 3 32 HT_ ?_; refine pA 4 33 HT_ ?_; refine pA 5 34 HT_ ?_; refine tA 6 35 HT_ HW_ hHeld ?_; refine oA 7 36 HT_ (fun K hK => ?_)
               refine goes_ Tryd.func92 (by kernel_rfl) rfl #[.string ((rd_T123 l0_1 x24_2).f1)] (by rfl) rfl rfl zee81 ?_
               with_reducible refine (impl_isName.calls ((rd_T123 l0_1 x24_2).f1) true _ A23.out).mono ?_
               rintro e w50 ⟨rfl, hb⟩
               refine ⟨_, rfl, ?_⟩
               have _ := bB gb101 hb
               have _ := bB gb105 hb
               have _ := aM (below_step hbZ hb)
               clear BK101
               clear BK105
               clear HB
               rename_i BK101 BK105 HB
               (try clear hb)
               (try clear hb2)
               (try clear hk)
               (try clear hi)
               refine hK.out _ _ sZ (fun hHeld => ?_)
               clear hK K
               refine nA 36 ?_; refine pA 8 37 HT_ ?_; refine pA 9 38 HT_ ?_; refine pA 10 39 HT_ ?_; refine pA 11 40 HT_ ?_; refine pA 12 41 HT_ ?_; refine pA 13 42 HT_ ?_; refine uA 14 43 HT_ ?_; refine uA 15 44 HT_ ?_; refine uA 16 45 HT_ ?_; refine uA 17 46 HT_ ?_; refine uA 18 47 HT_ ?_; refine uA 19 48 HT_ ?_; refine uA 20 49 HT_ ?_; refine uA 21 50 HT_ ?_; refine uA 22 51 HT_ ?_; refine uA 23 52 HT_ ?_; refine pA 24 53 HT_ ?_; refine pA 25 54 HT_ ?_
               refine done_ (done_of HT_.out (by kernel_rfl)) ?_
               try go_wp2
               go_roundg k2
               case measure => have := HJ1.out; have := HK2.out; omega
               case rel => exact ⟨(wrap64 (x24_2 + 1)), z4458, H', ⟨by have := HJ1.out; have := HK2.out; omega⟩, ⟨bkZ⟩, ⟨zcb41⟩⟩
           · replace c24 := Bool.eq_false_iff.mpr c24
             subst c24
             rw [if_neg (show ¬ (false = true) by decide)] at H
             obtain rfl := Option.some.inj H
             have p104 : 0 ≤ (x24_2 : Int) := of_decide_eq_true z1200
             have q104 : x24_2 < (l0_1.length : Int) := of_decide_eq_true z1200
             obtain ⟨ad104, e104, hx104_0, hx104_1⟩ := at_T123 HR0_1.out x24_2 p104 q104
             cases e104
             replace hx104_0 := (HB.out.cell (World.block_lt_of_cell? w _ hx104_0)).trans hx104_0
             replace hx104_1 := (HB.out.cell (World.block_lt_of_cell? w _ hx104_1)).trans hx104_1
             replace p104 := eq_true p104
             replace q104 := eq_true q104
             try go_wp2_with (first | ((with_reducible refine gate_dst (N := 4) rfl ?_); (try (refine gate_guard (by rfl) ?_; dsimp only)); refine box_event ?hg (N := 4) ?hd (cs := #[.string (⟨#[]⟩ : ByteArray), .string (⟨#[]⟩ : ByteArray)]) (t := 123) ?hr ?_; (case hd => rfl); (case hg => rfl); (case hr => first | (go_simp; done) | (go_simp; rfl)); intro gb105 hg w51 hbox hb; have _ := bB gb101 hb; have _ := aM (below_step hbZ hb); have _ := aM hbox; have _ := szZ hg; have _ := szZ hg; have ⟨_, _⟩ := nbB gb101 hg; clear BK101 HB; rename_i BK101 HB BK105 GW105 GE105 NB101_105 NB105_101; clear hb hbox hg; have hnb52 := NB105_101.out; have hnc52 := NB101_105.out; obtain ⟨hcz53_0, hcz53_1, hfz53_0, hfz53_1⟩ := cellsZ2 BK105.out))
             have n0_ : Aside0 (((w51.setCell ⟨gb105, 0, none⟩ (.string ((rd_T123 l0_1 x24_2).f0))).setCell ⟨gb105, 1, none⟩ (.string ((rd_T123 l0_1 x24_2).f1))).heap[gb101]? = some (.cells #[.string a0_0, .slice (some ad104) l0_1.length c0_1, .int .i64 a0_2] 32 (0, 0))) := ⟨bkZ⟩
             have n1_ : Aside0 (((w51.setCell ⟨gb105, 0, none⟩ (.string ((rd_T123 l0_1 x24_2).f0))).setCell ⟨gb105, 1, none⟩ (.string ((rd_T123 l0_1 x24_2).f1))).heap[gb105]? = some (.cells #[.string ((rd_T123 l0_1 x24_2).f0), .string ((rd_T123 l0_1 x24_2).f1)] 123 (0, 0))) := ⟨bkZ⟩
             have n2_ : Aside0 (Below w.heap.size w ((w51.setCell ⟨gb105, 0, none⟩ (.string ((rd_T123 l0_1 x24_2).f0))).setCell ⟨gb105, 1, none⟩ (.string ((rd_T123 l0_1 x24_2).f1)))) := ⟨zcb41⟩
             (try clear BK101)
             (try clear BK105)
             (try clear HB)
             generalize ((w51.setCell ⟨gb105, 0, none⟩ (.string ((rd_T123 l0_1 x24_2).f0))).setCell ⟨gb105, 1, none⟩ (.string ((rd_T123 l0_1 x24_2).f1))) = w54 at n0_ n1_ n2_ ⊢
             have BK101 := n0_
             have BK105 := n1_
             have HB := n2_
             clear n0_ n1_ n2_
             have _ := aM (blk_drew BK101.out)
             have _ := aM (blk_drew BK105.out)
             have _ := aM (below_drew1 HB.out)
             clear BK101
             clear BK105
             clear HB
             rename_i BK101 BK105 HB
             refine sA 26 impl_GoodKey.tab6 impl_GoodKey.bits6 (fun w' => w'.cell? ⟨gb105, 0, none⟩ = some (.string ((rd_T123 l0_1 x24_2).f0)) ∧ w'.cell? ⟨gb105, 1, none⟩ = some (.string ((rd_T123 l0_1 x24_2).f1))) [] (fun hHeld HT_ HW_ => ?_)
             generalize w54.drew = w55 at BK101 BK105 HB hHeld ⊢
             refine pA 0 29 HT_ ?_; refine tA 1 30 HT_ HW_ hHeld ?_; refine oA 2 31 HT_ (fun K hK => ?_)
             refine goes_ Tryd.func92 (by kernel_rfl) rfl #[.string ((rd_T123 l0_1 x24_2).f0)] (by rfl) rfl rfl zee81 ?_
             with_reducible refine (impl_isName.calls ((rd_T123 l0_1 x24_2).f0) true _ A21.out).mono ?_
             rintro e w56 ⟨rfl, hb⟩
             refine ⟨_, rfl, ?_⟩
             have _ := bB gb101 hb
             have _ := bB gb105 hb
             have _ := aM (below_step hbZ hb)
             clear BK101
             clear BK105
             clear HB
             rename_i BK101 BK105 HB
             (try clear hb)
             (try clear hb2)
             (try clear hk)
             (try clear hi)
             refine hK.out _ _ sZ (fun hHeld => ?_)
             clear hK K
             refine nA 31 ?_; refine pA 3 32 HT_ ?_; refine pA 4 33 HT_ ?_; refine pA 5 34 HT_ ?_; refine tA 6 35 HT_ HW_ hHeld ?_; refine oA 7 36 HT_ (fun K hK => ?_)
             refine goes_ Tryd.func92 (by kernel_rfl) rfl #[.string ((rd_T123 l0_1 x24_2).f1)] (by rfl) rfl rfl zee81 ?_
             with_reducible refine (impl_isName.calls ((rd_T123 l0_1 x24_2).f1) false _ A23.out).mono ?_
             rintro e w57 ⟨rfl, hb⟩
             refine ⟨_, rfl, ?_⟩
             have _ := bB gb101 hb
             have _ := bB gb105 hb
             have _ := aM (below_step hbZ hb)
             clear BK101
             clear BK105
             clear HB
             rename_i BK101 BK105 HB
             (try clear hb)
             (try clear hb2)
             (try clear hk)
             (try clear hi)
             refine hK.out _ _ sZ (fun hHeld => ?_)
             clear hK K
             refine nA 36 ?_; refine pA 8 37 HT_ ?_; refine pA 9 38 HT_ ?_; refine pA 10 39 HT_ ?_; refine uA 11 40 HT_ ?_; refine uA 12 41 HT_ ?_; refine uA 13 42 HT_ ?_; refine uA 14 43 HT_ ?_; refine uA 15 44 HT_ ?_; refine uA 16 45 HT_ ?_; refine uA 17 46 HT_ ?_; refine uA 18 47 HT_ ?_; refine uA 19 48 HT_ ?_; refine uA 20 49 HT_ ?_; refine uA 21 50 HT_ ?_; refine uA 22 51 HT_ ?_; refine uA 23 52 HT_ ?_; refine uA 24 53 HT_ ?_; refine pA 25 54 HT_ ?_
             refine done_ (done_of HT_.out (by kernel_rfl)) ?_
             try go_wp2
             go_ret
             exact ⟨z674d, zcb41⟩
         · replace c22 := Bool.eq_false_iff.mpr c22
           subst c22
           rw [if_neg (show ¬ (false = true) by decide)] at H
           obtain rfl := Option.some.inj H
           have p104 : 0 ≤ (x24_2 : Int) := of_decide_eq_true z1200
           have q104 : x24_2 < (l0_1.length : Int) := of_decide_eq_true z1200
           obtain ⟨ad104, e104, hx104_0, hx104_1⟩ := at_T123 HR0_1.out x24_2 p104 q104
           cases e104
           replace hx104_0 := (HB.out.cell (World.block_lt_of_cell? w _ hx104_0)).trans hx104_0
           replace hx104_1 := (HB.out.cell (World.block_lt_of_cell? w _ hx104_1)).trans hx104_1
           replace p104 := eq_true p104
           replace q104 := eq_true q104
           try go_wp2_with (first | ((with_reducible refine gate_dst (N := 4) rfl ?_); (try (refine gate_guard (by rfl) ?_; dsimp only)); refine box_event ?hg (N := 4) ?hd (cs := #[.string (⟨#[]⟩ : ByteArray), .string (⟨#[]⟩ : ByteArray)]) (t := 123) ?hr ?_; (case hd => rfl); (case hg => rfl); (case hr => first | (go_simp; done) | (go_simp; rfl)); intro gb105 hg w58 hbox hb; have _ := bB gb101 hb; have _ := aM (below_step hbZ hb); have _ := aM hbox; have _ := szZ hg; have _ := szZ hg; have ⟨_, _⟩ := nbB gb101 hg; clear BK101 HB; rename_i BK101 HB BK105 GW105 GE105 NB101_105 NB105_101; clear hb hbox hg; have hnb59 := NB105_101.out; have hnc59 := NB101_105.out; obtain ⟨hcz60_0, hcz60_1, hfz60_0, hfz60_1⟩ := cellsZ2 BK105.out))
           have n0_ : Aside0 (((w58.setCell ⟨gb105, 0, none⟩ (.string ((rd_T123 l0_1 x24_2).f0))).setCell ⟨gb105, 1, none⟩ (.string ((rd_T123 l0_1 x24_2).f1))).heap[gb101]? = some (.cells #[.string a0_0, .slice (some ad104) l0_1.length c0_1, .int .i64 a0_2] 32 (0, 0))) := ⟨bkZ⟩
           have n1_ : Aside0 (((w58.setCell ⟨gb105, 0, none⟩ (.string ((rd_T123 l0_1 x24_2).f0))).setCell ⟨gb105, 1, none⟩ (.string ((rd_T123 l0_1 x24_2).f1))).heap[gb105]? = some (.cells #[.string ((rd_T123 l0_1 x24_2).f0), .string ((rd_T123 l0_1 x24_2).f1)] 123 (0, 0))) := ⟨bkZ⟩
           have n2_ : Aside0 (Below w.heap.size w ((w58.setCell ⟨gb105, 0, none⟩ (.string ((rd_T123 l0_1 x24_2).f0))).setCell ⟨gb105, 1, none⟩ (.string ((rd_T123 l0_1 x24_2).f1)))) := ⟨zcb41⟩
           (try clear BK101)
           (try clear BK105)
           (try clear HB)
           generalize ((w58.setCell ⟨gb105, 0, none⟩ (.string ((rd_T123 l0_1 x24_2).f0))).setCell ⟨gb105, 1, none⟩ (.string ((rd_T123 l0_1 x24_2).f1))) = w61 at n0_ n1_ n2_ ⊢
           have BK101 := n0_
           have BK105 := n1_
           have HB := n2_
           clear n0_ n1_ n2_
           have _ := aM (blk_drew BK101.out)
           have _ := aM (blk_drew BK105.out)
           have _ := aM (below_drew1 HB.out)
           clear BK101
           clear BK105
           clear HB
           rename_i BK101 BK105 HB
           refine sA 26 impl_GoodKey.tab6 impl_GoodKey.bits6 (fun w' => w'.cell? ⟨gb105, 0, none⟩ = some (.string ((rd_T123 l0_1 x24_2).f0)) ∧ w'.cell? ⟨gb105, 1, none⟩ = some (.string ((rd_T123 l0_1 x24_2).f1))) [] (fun hHeld HT_ HW_ => ?_)
           generalize w61.drew = w62 at BK101 BK105 HB hHeld ⊢
           refine pA 0 29 HT_ ?_; refine tA 1 30 HT_ HW_ hHeld ?_; refine oA 2 31 HT_ (fun K hK => ?_)
           refine goes_ Tryd.func92 (by kernel_rfl) rfl #[.string ((rd_T123 l0_1 x24_2).f0)] (by rfl) rfl rfl zee81 ?_
           with_reducible refine (impl_isName.calls ((rd_T123 l0_1 x24_2).f0) false _ A21.out).mono ?_
           rintro e w63 ⟨rfl, hb⟩
           refine ⟨_, rfl, ?_⟩
           have _ := bB gb101 hb
           have _ := bB gb105 hb
           have _ := aM (below_step hbZ hb)
           clear BK101
           clear BK105
           clear HB
           rename_i BK101 BK105 HB
           (try clear hb)
           (try clear hb2)
           (try clear hk)
           (try clear hi)
           refine hK.out _ _ sZ (fun hHeld => ?_)
           clear hK K
           refine nA 31 ?_; refine pA 3 32 HT_ ?_; refine pA 4 33 HT_ ?_; refine uA 5 34 HT_ ?_; refine uA 6 35 HT_ ?_; refine uA 7 36 HT_ ?_; refine uA 8 37 HT_ ?_; refine pA 9 38 HT_ ?_; refine pA 10 39 HT_ ?_; refine uA 11 40 HT_ ?_; refine uA 12 41 HT_ ?_; refine uA 13 42 HT_ ?_; refine uA 14 43 HT_ ?_; refine uA 15 44 HT_ ?_; refine uA 16 45 HT_ ?_; refine uA 17 46 HT_ ?_; refine uA 18 47 HT_ ?_; refine uA 19 48 HT_ ?_; refine uA 20 49 HT_ ?_; refine uA 21 50 HT_ ?_; refine uA 22 51 HT_ ?_; refine uA 23 52 HT_ ?_; refine uA 24 53 HT_ ?_; refine pA 25 54 HT_ ?_
           refine done_ (done_of HT_.out (by kernel_rfl)) ?_
           try go_wp2
           go_ret
           exact ⟨z674d, zcb41⟩
       · rw [if_neg c18] at H
         have c18b0 : decide (x24_2 < (l0_1.length : Int)) = false := decide_eq_false c18
         clear c18
         obtain rfl := Option.some.inj H
         go_wp2
         go_ret
         exact ⟨z674d, zcb41⟩

end Go.Proofs.YtkgmoajdcibafaaDoor.P

-- written by a program of this session's (wip/pp)
namespace Go.Proofs.YtkgmoajdcibafaaDoor.P
open Go.RowKit Go.Proofs.YtkgmoajdcibafaaDoorW.PrintWords Go.Proofs.YtkgmoajdcibafaaDoorW.PrintLast Go.Proofs.YtkgmoajdcibafaaDoorW.PrintMore
attribute [local go_sem] max2_int min2_int max_two min_two max_three min_three max_four min_four str_geq str_gtr str_leq   -- for this text's walks alone
set_option linter.unusedVariables false
set_option linter.unusedSimpArgs false

/-! ### cmp_Or_int: function 104 -/
def cmp_Or_int.l0 : Nat → Int → List Int → Int → Int → Option (Int)
 | 0, _, _, _, _ => none
 | k + 1, x3, x6, x7, x8 => if x8 < x7 then (if 0 ≤ x8 then (if x8 < (x6.length : Int) then (if (rd x6 x8) = x3 then (cmp_Or_int.l0 k x3 x6 x7 (wrap64 (x8 + 1))) else (some (rd x6 x8))) else (none)) else (none)) else (some x3)
def cmp_Or_int.f (k : Nat) (l0 : List Int) : Option (Int) := cmp_Or_int.l0 k 0 l0 (l0.length : Int) 0
theorem cmp_Or_int.mono_l : ∀ k, (∀ y0 y1 y2 y3, LeO (cmp_Or_int.l0 k y0 y1 y2 y3) (cmp_Or_int.l0 (k + 1) y0 y1 y2 y3))
 | 0 => fun _ _ _ _ r h => by simp [cmp_Or_int.l0] at h
 | k + 1 => by
  have ih0 := cmp_Or_int.mono_l k
  · intro y0 y1 y2 y3
    unfold cmp_Or_int.l0
    repeat' first
     | (with_reducible first | exact ih0 .. | exact LeO.refl _ | exact LeO.none _ | refine LeO.ite ?_ ?_ | refine LeO.bind ?_ (fun _ => ?_))
     | exact LeO.none _
     | refine LeO.ite ?_ ?_
     | refine LeO.bind ?_ (fun _ => ?_)
theorem cmp_Or_int.mono : ∀ a0 k, LeO (cmp_Or_int.f k a0) (cmp_Or_int.f (k + 1) a0) := by
 intro a0 k
 have ih0 := cmp_Or_int.mono_l k
 unfold cmp_Or_int.f
 repeat' first
  | (with_reducible first | exact ih0 .. | exact LeO.refl _ | exact LeO.none _ | refine LeO.ite ?_ ?_ | refine LeO.bind ?_ (fun _ => ?_))
  | exact LeO.none _
  | refine LeO.ite ?_ ?_
  | refine LeO.bind ?_ (fun _ => ?_)
set_option maxHeartbeats 8000000 in
set_option maxRecDepth 100000 in
theorem cmp_Or_int.calls (k : Nat) (A0 : Option Addr) (c0 : Nat) (l0 : List Int) (r : Int) (w : World) (hr0 : Kd.C (Kd.int .i64) w A0 l0.length l0) (hc0 : l0.length ≤ c0) (h : cmp_Or_int.f k l0 = some r) :
 Calls Tryd.prog 104 #[.slice A0 l0.length c0] w fun e w' => e = .returned (.int .i64 r) ∧ Drawn0 w w' := by
 have HR0 := aM hr0
 have HC0 := aM hc0
 clear hr0 hc0
 have H : (cmp_Or_int.l0 k 0 l0 (l0.length : Int) 0) = some r := h
 clear h
 have H' := aM H
 clear H
 go_enter Tryd.func104, Tryd.ntmps104
 go_wp2
 go_loopg [8] k (fun kq v8 w' => ∃ (x8_1 : Int), v8 = .int .i64 x8_1 ∧ Aside0 (cmp_Or_int.l0 kq 0 l0 (l0.length : Int) x8_1 = some r) ∧ Aside0 (kq ≤ k) ∧ Drawn0 w w')
 case atStart => exact ⟨(0), z4458, H', ⟨Nat.le_refl _⟩, za9de⟩
 case round =>
  clear H'
  try clear c1
  obtain ⟨x8_1, rfl, HA, HK1, ⟨m1, rfl⟩⟩ := hrel
  cases gk with
  | zero => exact absurd HA.out (by simp [cmp_Or_int.l0])
  | succ k1 =>
   have H := HA.out
   clear HA
   simp only [cmp_Or_int.l0] at H
   by_cases c2 : x8_1 < (l0.length : Int)
   · rw [if_pos c2] at H
     have c2b0 : decide (x8_1 < (l0.length : Int)) = true := decide_eq_true c2
     clear c2
     replace H := ifS H; obtain ⟨c3, H⟩ := H
     have c3b0 : decide (0 ≤ x8_1) = true := decide_eq_true c3
     clear c3
     replace H := ifS H; obtain ⟨c4, H⟩ := H
     have c4b0 : decide (x8_1 < (l0.length : Int)) = true := decide_eq_true c4
     clear c4
     by_cases c5 : (rd l0 x8_1) = 0
     · rw [if_pos c5] at H
       have c5b0 : ((rd l0 x8_1) == 0) = true := beq_iff_eq.mpr c5
       have c5b1 : ((rd l0 x8_1) != 0) = false := bne_eq_false_iff_eq.mpr c5
       clear c5
       have H' := aM H
       clear H
       have p101 : 0 ≤ (x8_1 : Int) := of_decide_eq_true z1200
       have q101 : x8_1 < (l0.length : Int) := of_decide_eq_true z1200
       obtain ⟨ad101, e101, hx101_0⟩ := Kd.at_int HR0.out x8_1 p101 q101
       cases e101
       replace p101 := eq_true p101
       replace q101 := eq_true q101
       go_wp2
       go_roundg k1
       case measure => have := HK1.out; omega
       case rel => exact ⟨(wrap64 (x8_1 + 1)), z4458, H', ⟨zfb39⟩, za9de⟩
     · rw [if_neg c5] at H
       have c5b0 : ((rd l0 x8_1) == 0) = false := beq_eq_false_iff_ne.mpr c5
       have c5b1 : ((rd l0 x8_1) != 0) = true := bne_iff_ne.mpr c5
       obtain rfl := Option.some.inj H
       have p101 : 0 ≤ (x8_1 : Int) := of_decide_eq_true z1200
       have q101 : x8_1 < (l0.length : Int) := of_decide_eq_true z1200
       obtain ⟨ad101, e101, hx101_0⟩ := Kd.at_int HR0.out x8_1 p101 q101
       cases e101
       replace p101 := eq_true p101
       replace q101 := eq_true q101
       go_wp2
       go_ret
       exact ⟨z4458, za9de⟩
   · rw [if_neg c2] at H
     have c2b0 : decide (x8_1 < (l0.length : Int)) = false := decide_eq_false c2
     clear c2
     obtain rfl := Option.some.inj H
     go_wp2
     go_ret
     exact ⟨z4458, za9de⟩

end Go.Proofs.YtkgmoajdcibafaaDoor.P

-- written by a program of this session's (wip/pp)
namespace Go.Proofs.YtkgmoajdcibafaaDoor.P
open Go.RowKit Go.Proofs.YtkgmoajdcibafaaDoorW.PrintWords Go.Proofs.YtkgmoajdcibafaaDoorW.PrintLast Go.Proofs.YtkgmoajdcibafaaDoorW.PrintMore
attribute [local go_sem] max2_int min2_int max_two min_two max_three min_three max_four min_four str_geq str_gtr str_leq   -- for this text's walks alone
set_option linter.unusedVariables false
set_option linter.unusedSimpArgs false

/-! ### cmp_isNaN_string: function 115 -/
def cmp_isNaN_string.f (a0 : ByteArray) : Option (Bool) := some (a0.toList != a0.toList)
set_option maxHeartbeats 8000000 in
set_option maxRecDepth 100000 in
theorem cmp_isNaN_string.calls (a0 : ByteArray) (r : Bool) (w : World) (h : cmp_isNaN_string.f a0 = some r) :
 Calls Tryd.prog 115 #[.string a0] w fun e w' => e = .returned (.bool r) ∧ Drawn0 w w' := by
 have H : (some (a0.toList != a0.toList)) = some r := h
 clear h
 obtain rfl := Option.some.inj H
 go_enter Tryd.func115, Tryd.ntmps115
 go_wp2
 go_ret
 exact ⟨z4458, za9de⟩

end Go.Proofs.YtkgmoajdcibafaaDoor.P

-- written by a program of this session's (wip/pp)
namespace Go.Proofs.YtkgmoajdcibafaaDoor.P
open Go.RowKit Go.Proofs.YtkgmoajdcibafaaDoorW.PrintWords Go.Proofs.YtkgmoajdcibafaaDoorW.PrintLast Go.Proofs.YtkgmoajdcibafaaDoorW.PrintMore
attribute [local go_sem] max2_int min2_int max_two min_two max_three min_three max_four min_four str_geq str_gtr str_leq   -- for this text's walks alone
set_option linter.unusedVariables false
set_option linter.unusedSimpArgs false

/-! ### cmp_Compare_string: function 105 -/
def cmp_Compare_string.f (a0 : ByteArray) (a1 : ByteArray) : Option (Int) := (cmp_isNaN_string.f a0).bind fun t101 => ((cmp_isNaN_string.f a1).bind fun t102 => (if t101 = true then (if t102 = true then (some 0) else (some (-1))) else (if t102 = true then (some 1) else (if (Op.bytesLess a0.toList a1.toList) = true then (some (-1)) else (if (Op.bytesLess a1.toList a0.toList) = true then (some 1) else (some 0))))))
set_option maxHeartbeats 8000000 in
set_option maxRecDepth 100000 in
theorem cmp_Compare_string.calls (a0 : ByteArray) (a1 : ByteArray) (r : Int) (w : World) (h : cmp_Compare_string.f a0 a1 = some r) :
 Calls Tryd.prog 105 #[.string a0, .string a1] w fun e w' => e = .returned (.int .i64 r) ∧ Drawn0 w w' := by
 have H : ((cmp_isNaN_string.f a0).bind fun t101 => ((cmp_isNaN_string.f a1).bind fun t102 => (if t101 = true then (if t102 = true then (some 0) else (some (-1))) else (if t102 = true then (some 1) else (if (Op.bytesLess a0.toList a1.toList) = true then (some (-1)) else (if (Op.bytesLess a1.toList a0.toList) = true then (some 1) else (some 0))))))) = some r := h
 clear h
 replace H := Option.bind_eq_some_iff.mp H
 obtain ⟨t101, A30, H⟩ := H
 try dsimp only at H
 have A3 := aM A30
 clear A30
 replace H := Option.bind_eq_some_iff.mp H
 obtain ⟨t102, A40, H⟩ := H
 try dsimp only at H
 have A4 := aM A40
 clear A40
 by_cases c5 : t101 = true
 · subst c5
   rw [if_pos rfl] at H
   by_cases c6 : t102 = true
   · subst c6
     rw [if_pos rfl] at H
     obtain rfl := Option.some.inj H
     go_enter Tryd.func105, Tryd.ntmps105
     go_wp2_with (first | ((with_reducible refine gate_callee (f := 115) rfl ?_); refine goesL_ (some 8) rfl rfl Tryd.func115 (by kernel_rfl) rfl #[.string a0] rfl zee81 ?_; (with_reducible refine (cmp_isNaN_string.calls a0 true _ A3.out).mono ?_); rintro e w' ⟨rfl, ⟨nd, rfl⟩⟩; refine ⟨_, rfl, ?_⟩) | ((with_reducible refine gate_callee (f := 115) rfl ?_); refine goesL_ (some 10) rfl rfl Tryd.func115 (by kernel_rfl) rfl #[.string a1] rfl zee81 ?_; (with_reducible refine (cmp_isNaN_string.calls a1 true _ A4.out).mono ?_); rintro e w' ⟨rfl, ⟨nd, rfl⟩⟩; refine ⟨_, rfl, ?_⟩))
     go_ret
     exact ⟨z4458, za9de⟩
   · replace c6 := Bool.eq_false_iff.mpr c6
     subst c6
     rw [if_neg (show ¬ (false = true) by decide)] at H
     obtain rfl := Option.some.inj H
     go_enter Tryd.func105, Tryd.ntmps105
     go_wp2_with (first | ((with_reducible refine gate_callee (f := 115) rfl ?_); refine goesL_ (some 8) rfl rfl Tryd.func115 (by kernel_rfl) rfl #[.string a0] rfl zee81 ?_; (with_reducible refine (cmp_isNaN_string.calls a0 true _ A3.out).mono ?_); rintro e w' ⟨rfl, ⟨nd, rfl⟩⟩; refine ⟨_, rfl, ?_⟩) | ((with_reducible refine gate_callee (f := 115) rfl ?_); refine goesL_ (some 10) rfl rfl Tryd.func115 (by kernel_rfl) rfl #[.string a1] rfl zee81 ?_; (with_reducible refine (cmp_isNaN_string.calls a1 false _ A4.out).mono ?_); rintro e w' ⟨rfl, ⟨nd, rfl⟩⟩; refine ⟨_, rfl, ?_⟩))
     go_ret
     exact ⟨z4458, za9de⟩
 · replace c5 := Bool.eq_false_iff.mpr c5
   subst c5
   rw [if_neg (show ¬ (false = true) by decide)] at H
   by_cases c7 : t102 = true
   · subst c7
     rw [if_pos rfl] at H
     obtain rfl := Option.some.inj H
     go_enter Tryd.func105, Tryd.ntmps105
     go_wp2_with (first | ((with_reducible refine gate_callee (f := 115) rfl ?_); refine goesL_ (some 8) rfl rfl Tryd.func115 (by kernel_rfl) rfl #[.string a0] rfl zee81 ?_; (with_reducible refine (cmp_isNaN_string.calls a0 false _ A3.out).mono ?_); rintro e w' ⟨rfl, ⟨nd, rfl⟩⟩; refine ⟨_, rfl, ?_⟩) | ((with_reducible refine gate_callee (f := 115) rfl ?_); refine goesL_ (some 10) rfl rfl Tryd.func115 (by kernel_rfl) rfl #[.string a1] rfl zee81 ?_; (with_reducible refine (cmp_isNaN_string.calls a1 true _ A4.out).mono ?_); rintro e w' ⟨rfl, ⟨nd, rfl⟩⟩; refine ⟨_, rfl, ?_⟩))
     go_ret
     exact ⟨z4458, za9de⟩
   · replace c7 := Bool.eq_false_iff.mpr c7
     subst c7
     rw [if_neg (show ¬ (false = true) by decide)] at H
     by_cases c8 : (Op.bytesLess a0.toList a1.toList) = true
     · rw [if_pos c8] at H
       have c8b0 : (Op.bytesLess a0.toList a1.toList) = true := c8
       clear c8
       obtain rfl := Option.some.inj H
       go_enter Tryd.func105, Tryd.ntmps105
       go_wp2_with (first | ((with_reducible refine gate_callee (f := 115) rfl ?_); refine goesL_ (some 8) rfl rfl Tryd.func115 (by kernel_rfl) rfl #[.string a0] rfl zee81 ?_; (with_reducible refine (cmp_isNaN_string.calls a0 false _ A3.out).mono ?_); rintro e w' ⟨rfl, ⟨nd, rfl⟩⟩; refine ⟨_, rfl, ?_⟩) | ((with_reducible refine gate_callee (f := 115) rfl ?_); refine goesL_ (some 10) rfl rfl Tryd.func115 (by kernel_rfl) rfl #[.string a1] rfl zee81 ?_; (with_reducible refine (cmp_isNaN_string.calls a1 false _ A4.out).mono ?_); rintro e w' ⟨rfl, ⟨nd, rfl⟩⟩; refine ⟨_, rfl, ?_⟩))
       go_ret
       exact ⟨z4458, za9de⟩
     · rw [if_neg c8] at H
       have c8b0 : (Op.bytesLess a0.toList a1.toList) = false := by simpa using c8
       clear c8
       by_cases c9 : (Op.bytesLess a1.toList a0.toList) = true
       · rw [if_pos c9] at H
         have c9b0 : (Op.bytesLess a1.toList a0.toList) = true := c9
         clear c9
         obtain rfl := Option.some.inj H
         go_enter Tryd.func105, Tryd.ntmps105
         go_wp2_with (first | ((with_reducible refine gate_callee (f := 115) rfl ?_); refine goesL_ (some 8) rfl rfl Tryd.func115 (by kernel_rfl) rfl #[.string a0] rfl zee81 ?_; (with_reducible refine (cmp_isNaN_string.calls a0 false _ A3.out).mono ?_); rintro e w' ⟨rfl, ⟨nd, rfl⟩⟩; refine ⟨_, rfl, ?_⟩) | ((with_reducible refine gate_callee (f := 115) rfl ?_); refine goesL_ (some 10) rfl rfl Tryd.func115 (by kernel_rfl) rfl #[.string a1] rfl zee81 ?_; (with_reducible refine (cmp_isNaN_string.calls a1 false _ A4.out).mono ?_); rintro e w' ⟨rfl, ⟨nd, rfl⟩⟩; refine ⟨_, rfl, ?_⟩))
         go_ret
         exact ⟨z4458, za9de⟩
       · rw [if_neg c9] at H
         have c9b0 : (Op.bytesLess a1.toList a0.toList) = false := by simpa using c9
         clear c9
         obtain rfl := Option.some.inj H
         go_enter Tryd.func105, Tryd.ntmps105
         go_wp2_with (first | ((with_reducible refine gate_callee (f := 115) rfl ?_); refine goesL_ (some 8) rfl rfl Tryd.func115 (by kernel_rfl) rfl #[.string a0] rfl zee81 ?_; (with_reducible refine (cmp_isNaN_string.calls a0 false _ A3.out).mono ?_); rintro e w' ⟨rfl, ⟨nd, rfl⟩⟩; refine ⟨_, rfl, ?_⟩) | ((with_reducible refine gate_callee (f := 115) rfl ?_); refine goesL_ (some 10) rfl rfl Tryd.func115 (by kernel_rfl) rfl #[.string a1] rfl zee81 ?_; (with_reducible refine (cmp_isNaN_string.calls a1 false _ A4.out).mono ?_); rintro e w' ⟨rfl, ⟨nd, rfl⟩⟩; refine ⟨_, rfl, ?_⟩))
         go_ret
         exact ⟨z4458, za9de⟩

end Go.Proofs.YtkgmoajdcibafaaDoor.P

-- written by a program of this session's (wip/pp)
namespace Go.Proofs.YtkgmoajdcibafaaDoor.P
open Go.RowKit Go.Proofs.YtkgmoajdcibafaaDoorW.PrintWords Go.Proofs.YtkgmoajdcibafaaDoorW.PrintLast Go.Proofs.YtkgmoajdcibafaaDoorW.PrintMore
attribute [local go_sem] max2_int min2_int max_two min_two max_three min_three max_four min_four str_geq str_gtr str_leq   -- for this text's walks alone
set_option linter.unusedVariables false
set_option linter.unusedSimpArgs false

/-! ### cmp_isNaN_int: function 116 -/
def cmp_isNaN_int.f (a0 : Int) : Option (Bool) := some (a0 != a0)
set_option maxHeartbeats 8000000 in
set_option maxRecDepth 100000 in
theorem cmp_isNaN_int.calls (a0 : Int) (r : Bool) (w : World) (h : cmp_isNaN_int.f a0 = some r) :
 Calls Tryd.prog 116 #[.int .i64 a0] w fun e w' => e = .returned (.bool r) ∧ Drawn0 w w' := by
 have H : (some (a0 != a0)) = some r := h
 clear h
 obtain rfl := Option.some.inj H
 go_enter Tryd.func116, Tryd.ntmps116
 go_wp2
 go_ret
 exact ⟨z4458, za9de⟩

end Go.Proofs.YtkgmoajdcibafaaDoor.P

-- written by a program of this session's (wip/pp)
namespace Go.Proofs.YtkgmoajdcibafaaDoor.P
open Go.RowKit Go.Proofs.YtkgmoajdcibafaaDoorW.PrintWords Go.Proofs.YtkgmoajdcibafaaDoorW.PrintLast Go.Proofs.YtkgmoajdcibafaaDoorW.PrintMore
attribute [local go_sem] max2_int min2_int max_two min_two max_three min_three max_four min_four str_geq str_gtr str_leq   -- for this text's walks alone
set_option linter.unusedVariables false
set_option linter.unusedSimpArgs false

/-! ### cmp_Compare_int: function 106 -/
def cmp_Compare_int.f (a0 : Int) (a1 : Int) : Option (Int) := (cmp_isNaN_int.f a0).bind fun t101 => ((cmp_isNaN_int.f a1).bind fun t102 => (if t101 = true then (if t102 = true then (some 0) else (some (-1))) else (if t102 = true then (some 1) else (if a0 < a1 then (some (-1)) else (if a0 > a1 then (some 1) else (some 0))))))
set_option maxHeartbeats 8000000 in
set_option maxRecDepth 100000 in
theorem cmp_Compare_int.calls (a0 : Int) (a1 : Int) (r : Int) (w : World) (h : cmp_Compare_int.f a0 a1 = some r) :
 Calls Tryd.prog 106 #[.int .i64 a0, .int .i64 a1] w fun e w' => e = .returned (.int .i64 r) ∧ Drawn0 w w' := by
 have H : ((cmp_isNaN_int.f a0).bind fun t101 => ((cmp_isNaN_int.f a1).bind fun t102 => (if t101 = true then (if t102 = true then (some 0) else (some (-1))) else (if t102 = true then (some 1) else (if a0 < a1 then (some (-1)) else (if a0 > a1 then (some 1) else (some 0))))))) = some r := h
 clear h
 replace H := Option.bind_eq_some_iff.mp H
 obtain ⟨t101, A30, H⟩ := H
 try dsimp only at H
 have A3 := aM A30
 clear A30
 replace H := Option.bind_eq_some_iff.mp H
 obtain ⟨t102, A40, H⟩ := H
 try dsimp only at H
 have A4 := aM A40
 clear A40
 by_cases c5 : t101 = true
 · subst c5
   rw [if_pos rfl] at H
   by_cases c6 : t102 = true
   · subst c6
     rw [if_pos rfl] at H
     obtain rfl := Option.some.inj H
     go_enter Tryd.func106, Tryd.ntmps106
     go_wp2_with (first | ((with_reducible refine gate_callee (f := 116) rfl ?_); refine goesL_ (some 8) rfl rfl Tryd.func116 (by kernel_rfl) rfl #[.int .i64 a0] rfl zee81 ?_; (with_reducible refine (cmp_isNaN_int.calls a0 true _ A3.out).mono ?_); rintro e w' ⟨rfl, ⟨nd, rfl⟩⟩; refine ⟨_, rfl, ?_⟩) | ((with_reducible refine gate_callee (f := 116) rfl ?_); refine goesL_ (some 10) rfl rfl Tryd.func116 (by kernel_rfl) rfl #[.int .i64 a1] rfl zee81 ?_; (with_reducible refine (cmp_isNaN_int.calls a1 true _ A4.out).mono ?_); rintro e w' ⟨rfl, ⟨nd, rfl⟩⟩; refine ⟨_, rfl, ?_⟩))
     go_ret
     exact ⟨z4458, za9de⟩
   · replace c6 := Bool.eq_false_iff.mpr c6
     subst c6
     rw [if_neg (show ¬ (false = true) by decide)] at H
     obtain rfl := Option.some.inj H
     go_enter Tryd.func106, Tryd.ntmps106
     go_wp2_with (first | ((with_reducible refine gate_callee (f := 116) rfl ?_); refine goesL_ (some 8) rfl rfl Tryd.func116 (by kernel_rfl) rfl #[.int .i64 a0] rfl zee81 ?_; (with_reducible refine (cmp_isNaN_int.calls a0 true _ A3.out).mono ?_); rintro e w' ⟨rfl, ⟨nd, rfl⟩⟩; refine ⟨_, rfl, ?_⟩) | ((with_reducible refine gate_callee (f := 116) rfl ?_); refine goesL_ (some 10) rfl rfl Tryd.func116 (by kernel_rfl) rfl #[.int .i64 a1] rfl zee81 ?_; (with_reducible refine (cmp_isNaN_int.calls a1 false _ A4.out).mono ?_); rintro e w' ⟨rfl, ⟨nd, rfl⟩⟩; refine ⟨_, rfl, ?_⟩))
     go_ret
     exact ⟨z4458, za9de⟩
 · replace c5 := Bool.eq_false_iff.mpr c5
   subst c5
   rw [if_neg (show ¬ (false = true) by decide)] at H
   by_cases c7 : t102 = true
   · subst c7
     rw [if_pos rfl] at H
     obtain rfl := Option.some.inj H
     go_enter Tryd.func106, Tryd.ntmps106
     go_wp2_with (first | ((with_reducible refine gate_callee (f := 116) rfl ?_); refine goesL_ (some 8) rfl rfl Tryd.func116 (by kernel_rfl) rfl #[.int .i64 a0] rfl zee81 ?_; (with_reducible refine (cmp_isNaN_int.calls a0 false _ A3.out).mono ?_); rintro e w' ⟨rfl, ⟨nd, rfl⟩⟩; refine ⟨_, rfl, ?_⟩) | ((with_reducible refine gate_callee (f := 116) rfl ?_); refine goesL_ (some 10) rfl rfl Tryd.func116 (by kernel_rfl) rfl #[.int .i64 a1] rfl zee81 ?_; (with_reducible refine (cmp_isNaN_int.calls a1 true _ A4.out).mono ?_); rintro e w' ⟨rfl, ⟨nd, rfl⟩⟩; refine ⟨_, rfl, ?_⟩))
     go_ret
     exact ⟨z4458, za9de⟩
   · replace c7 := Bool.eq_false_iff.mpr c7
     subst c7
     rw [if_neg (show ¬ (false = true) by decide)] at H
     by_cases c8 : a0 < a1
     · rw [if_pos c8] at H
       have c8b0 : decide (a0 < a1) = true := decide_eq_true c8
       clear c8
       obtain rfl := Option.some.inj H
       go_enter Tryd.func106, Tryd.ntmps106
       go_wp2_with (first | ((with_reducible refine gate_callee (f := 116) rfl ?_); refine goesL_ (some 8) rfl rfl Tryd.func116 (by kernel_rfl) rfl #[.int .i64 a0] rfl zee81 ?_; (with_reducible refine (cmp_isNaN_int.calls a0 false _ A3.out).mono ?_); rintro e w' ⟨rfl, ⟨nd, rfl⟩⟩; refine ⟨_, rfl, ?_⟩) | ((with_reducible refine gate_callee (f := 116) rfl ?_); refine goesL_ (some 10) rfl rfl Tryd.func116 (by kernel_rfl) rfl #[.int .i64 a1] rfl zee81 ?_; (with_reducible refine (cmp_isNaN_int.calls a1 false _ A4.out).mono ?_); rintro e w' ⟨rfl, ⟨nd, rfl⟩⟩; refine ⟨_, rfl, ?_⟩))
       go_ret
       exact ⟨z4458, za9de⟩
     · rw [if_neg c8] at H
       have c8b0 : decide (a0 < a1) = false := decide_eq_false c8
       clear c8
       by_cases c9 : a0 > a1
       · rw [if_pos c9] at H
         have c9b0 : decide (a1 < a0) = true := decide_eq_true c9
         clear c9
         obtain rfl := Option.some.inj H
         go_enter Tryd.func106, Tryd.ntmps106
         go_wp2_with (first | ((with_reducible refine gate_callee (f := 116) rfl ?_); refine goesL_ (some 8) rfl rfl Tryd.func116 (by kernel_rfl) rfl #[.int .i64 a0] rfl zee81 ?_; (with_reducible refine (cmp_isNaN_int.calls a0 false _ A3.out).mono ?_); rintro e w' ⟨rfl, ⟨nd, rfl⟩⟩; refine ⟨_, rfl, ?_⟩) | ((with_reducible refine gate_callee (f := 116) rfl ?_); refine goesL_ (some 10) rfl rfl Tryd.func116 (by kernel_rfl) rfl #[.int .i64 a1] rfl zee81 ?_; (with_reducible refine (cmp_isNaN_int.calls a1 false _ A4.out).mono ?_); rintro e w' ⟨rfl, ⟨nd, rfl⟩⟩; refine ⟨_, rfl, ?_⟩))
         go_ret
         exact ⟨z4458, za9de⟩
       · rw [if_neg c9] at H
         have c9b0 : decide (a1 < a0) = false := decide_eq_false c9
         clear c9
         obtain rfl := Option.some.inj H
         go_enter Tryd.func106, Tryd.ntmps106
         go_wp2_with (first | ((with_reducible refine gate_callee (f := 116) rfl ?_); refine goesL_ (some 8) rfl rfl Tryd.func116 (by kernel_rfl) rfl #[.int .i64 a0] rfl zee81 ?_; (with_reducible refine (cmp_isNaN_int.calls a0 false _ A3.out).mono ?_); rintro e w' ⟨rfl, ⟨nd, rfl⟩⟩; refine ⟨_, rfl, ?_⟩) | ((with_reducible refine gate_callee (f := 116) rfl ?_); refine goesL_ (some 10) rfl rfl Tryd.func116 (by kernel_rfl) rfl #[.int .i64 a1] rfl zee81 ?_; (with_reducible refine (cmp_isNaN_int.calls a1 false _ A4.out).mono ?_); rintro e w' ⟨rfl, ⟨nd, rfl⟩⟩; refine ⟨_, rfl, ?_⟩))
         go_ret
         exact ⟨z4458, za9de⟩

end Go.Proofs.YtkgmoajdcibafaaDoor.P

-- written by a program of this session's (wip/pp)
namespace Go.Proofs.YtkgmoajdcibafaaDoor.P
open Go.RowKit Go.Proofs.YtkgmoajdcibafaaDoorW.PrintWords Go.Proofs.YtkgmoajdcibafaaDoorW.PrintLast Go.Proofs.YtkgmoajdcibafaaDoorW.PrintMore
attribute [local go_sem] max2_int min2_int max_two min_two max_three min_three max_four min_four str_geq str_gtr str_leq   -- for this text's walks alone
set_option linter.unusedVariables false
set_option linter.unusedSimpArgs false

/-! ### impl_CompareKeys_1: function 103 -/
def impl_CompareKeys_1.f (k : Nat) (a0_0 : ByteArray) (a0_1 : ByteArray) (a1_0 : ByteArray) (a1_1 : ByteArray) : Option (Int) := (cmp_Compare_string.f a0_0 a1_0).bind fun t103 => ((cmp_Compare_string.f a0_1 a1_1).bind fun t104 => ((cmp_Or_int.f k (([t103, t104] : List Int))).bind fun t108 => (some t108)))
theorem impl_CompareKeys_1.mono : ∀ a0 a1 a2 a3 k, LeO (impl_CompareKeys_1.f k a0 a1 a2 a3) (impl_CompareKeys_1.f (k + 1) a0 a1 a2 a3) := by
 intro a0 a1 a2 a3 k
 unfold impl_CompareKeys_1.f
 repeat' first
  | (with_reducible first | exact cmp_Or_int.mono .. | exact LeO.refl _ | exact LeO.none _ | refine LeO.ite ?_ ?_ | refine LeO.bind ?_ (fun _ => ?_))
  | exact LeO.none _
  | refine LeO.ite ?_ ?_
  | refine LeO.bind ?_ (fun _ => ?_)
def impl_CompareKeys_1.T1 : Bool × List (List Nat × List Nat) := (true, [([], []), ([0], [0]), ([], []), ([2], [2]), ([1, 3], [1, 3]), ([], []), ([5], [5]), ([], []), ([7], [7]), ([6, 8, 4], [6, 8]), ([4, 9], [4, 9]), ([10, 9], [10]), ([11, 11, 0, 1, 2, 3, 4, 5, 6, 7, 8, 9, 10, 11], [11])])
def impl_CompareKeys_1.B1 : List Nat := [0, 1, 0, 4, 15, 0, 32, 0, 128, 511, 1023, 2047, 4095]
theorem impl_CompareKeys_1.tab1 : rtab .any (opsOf Tryd.f103 1) = impl_CompareKeys_1.T1 := by kernel_rfl
theorem impl_CompareKeys_1.bits1 : waitsOk impl_CompareKeys_1.T1.2 impl_CompareKeys_1.B1 = true := by kernel_rfl
set_option maxHeartbeats 8000000 in
set_option maxRecDepth 100000 in
theorem impl_CompareKeys_1.calls (k : Nat) (a0_0 : ByteArray) (a0_1 : ByteArray) (a1_0 : ByteArray) (a1_1 : ByteArray) (r : Int) (w : World) (h : impl_CompareKeys_1.f k a0_0 a0_1 a1_0 a1_1 = some r) :
 Calls Tryd.prog 103 #[.agg #[.string a0_0, .string a0_1], .agg #[.string a1_0, .string a1_1]] w fun e w' => e = .returned (.int .i64 r) ∧ Below w.heap.size w w' := by
 have hu123 := Tryd.underlying123
 have HB := aM (Below.refl w.heap.size w)
 have H : ((cmp_Compare_string.f a0_0 a1_0).bind fun t103 => ((cmp_Compare_string.f a0_1 a1_1).bind fun t104 => ((cmp_Or_int.f k (([t103, t104] : List Int))).bind fun t108 => (some t108)))) = some r := h
 clear h
 replace H := Option.bind_eq_some_iff.mp H
 obtain ⟨t103, A30, H⟩ := H
 try dsimp only at H
 have A3 := aM A30
 clear A30
 replace H := Option.bind_eq_some_iff.mp H
 obtain ⟨t104, A40, H⟩ := H
 try dsimp only at H
 have A4 := aM A40
 clear A40
 obtain ⟨y105, hy105⟩ : ∃ y_ : List Int, y_ = (([t103, t104] : List Int)) := ⟨_, rfl⟩
 first | (replace H := bindS H; rw [← hy105] at H; dsimp only at H) | rw [← hy105] at H
 have Ny105 := aM hy105
 clear hy105
 replace H := Option.bind_eq_some_iff.mp H
 obtain ⟨t108, A50, H⟩ := H
 try dsimp only at H
 have A5 := aM A50
 clear A50
 obtain rfl := Option.some.inj H
 go_enter Tryd.func103, Tryd.ntmps103
 try go_wp2_with (first | ((with_reducible refine gate_dst (N := 2) rfl ?_); refine box_event ?hg (N := 2) ?hd (cs := #[.string a0_0, .string a0_1]) (t := 123) ?hr ?_; (case hd => rfl); (case hg => rfl); (case hr => first | (go_simp; done) | (go_simp; rfl)); intro gb101 hg w6 hbox hb; have _ := aM (below_step hbZ hb); have _ := aM hbox; have _ := szZ hg; have _ := szZ hg; clear HB; rename_i HB BK101 GW101 GE101; clear hb hbox hg) | ((with_reducible refine gate_dst (N := 3) rfl ?_); refine box_event ?hg (N := 3) ?hd (cs := #[.string a1_0, .string a1_1]) (t := 123) ?hr ?_; (case hd => rfl); (case hg => rfl); (case hr => first | (go_simp; done) | (go_simp; rfl)); intro gb102 hg w7 hbox hb; have _ := bB gb101 hb; have _ := aM (below_step hbZ hb); have _ := aM hbox; have _ := szZ hg; have _ := szZ hg; have ⟨_, _⟩ := nbB gb101 hg; clear BK101 HB; rename_i BK101 HB BK102 GW102 GE102 NB101_102 NB102_101; clear hb hbox hg))
 have _ := aM (blk_drew BK101.out)
 have _ := aM (blk_drew BK102.out)
 have _ := aM (below_drew1 HB.out)
 clear BK101
 clear BK102
 clear HB
 rename_i BK101 BK102 HB
 refine sA 13 impl_CompareKeys_1.tab1 impl_CompareKeys_1.bits1 (fun w' => w'.cell? ⟨gb101, 0, none⟩ = some (.string a0_0) ∧ w'.cell? ⟨gb101, 1, none⟩ = some (.string a0_1) ∧ w'.cell? ⟨gb102, 0, none⟩ = some (.string a1_0) ∧ w'.cell? ⟨gb102, 1, none⟩ = some (.string a1_1)) [] (fun hHeld HT_ HW_ => ?_)
 generalize w7.drew = w8 at BK101 BK102 HB hHeld ⊢
 refine pA 0 5 HT_ ?_; refine pA 2 7 HT_ ?_; refine pA 5 10 HT_ ?_; refine pA 7 12 HT_ ?_; refine tA 1 6 HT_ HW_ hHeld ?_; refine tA 3 8 HT_ HW_ hHeld ?_; refine tA 6 11 HT_ HW_ hHeld ?_; refine tA 8 13 HT_ HW_ hHeld ?_; refine oA 4 9 HT_ (fun K hK => ?_)
 refine goes_ Tryd.func105 (by kernel_rfl) rfl #[.string a0_0, .string a1_0] (by rfl) rfl rfl zee81 ?_
 with_reducible refine (cmp_Compare_string.calls a0_0 a1_0 t103 _ A3.out).mono ?_
 rintro e w' ⟨rfl, ⟨nd, rfl⟩⟩
 refine ⟨_, rfl, ?_⟩
 refine hK.out _ _ sZ (fun hHeld => ?_)
 clear hK K
 refine nA 9 ?_; refine oA 9 14 HT_ (fun K hK => ?_)
 refine goes_ Tryd.func105 (by kernel_rfl) rfl #[.string a0_1, .string a1_1] (by rfl) rfl rfl zee81 ?_
 with_reducible refine (cmp_Compare_string.calls a0_1 a1_1 t104 _ A4.out).mono ?_
 rintro e w' ⟨rfl, ⟨nd, rfl⟩⟩
 refine ⟨_, rfl, ?_⟩
 refine hK.out _ _ sZ (fun hHeld => ?_)
 clear hK K
 refine nA 14 ?_; refine oA 10 15 HT_ (fun K hK => ?_)
 refine Kd.R_lit_step (Kd.int .i64) _ 3 ?hg (N := 15) ?hd (xs := ([t103, t104] : List Int)) (inner := [.int .i64 t103, .int .i64 t104]) (ok := fun _ => True) (okp := fun _ => True) ?hr ?hp (fun _ hk => hk) trivial (Below.refl _ _) (Nat.le_refl _) (by simp) ?_; (case hd => rfl); (case hg => rfl); (case hr => first | (go_simp; done) | (go_simp; rfl)); (case hp => exact (Reps.one (show Kd.M (Kd.int .i64) _ _ _ t103 [.int .i64 t103] from rfl) (Reps.one (show Kd.M (Kd.int .i64) _ _ _ t104 [.int .i64 t104] from rfl) (Reps.none _ _))))
 intro v106 w9 ho10 hb hg_ hnew_
 clear hg_ hnew_
 (first | rw [← Ny105.out] at ho10 | (simp only [Int.reduceToNat] at ho10; rw [← Ny105.out] at ho10))
 have _ := aM (Kd.R_lower ho10 (below_size hbZ))
 have _ := bB gb101 hb
 have _ := bB gb102 hb
 have _ := aM (below_step hbZ hb)
 clear BK101
 clear BK102
 clear HB
 rename_i HO107 BK101 BK102 HB
 clear hb ho10
 obtain ⟨Ao11, co11, eo11⟩ := Kd.R_slice HO107.out
 (first | subst eo11 | (injection eo11 with f1_ f2_ f3_; have f4_ := f1_.symm; have f5_ := f3_.symm; clear f1_ f2_ f3_; subst f4_; subst f5_))
 refine hK.out _ _ sZ (fun hHeld => ?_)
 clear hK K
 refine nA 15 ?_; refine oA 11 16 HT_ (fun K hK => ?_)
 refine goes_ Tryd.func104 (by kernel_rfl) rfl #[.slice Ao11 y105.length co11] (by rfl) rfl rfl zee81 ?_
 with_reducible refine (cmp_Or_int.calls k _ _ y105 t108 _ ?side1 ?side2 A5.out).mono ?_
 (case side1 => exact (by repeat (first | exact (Kd.R_reads' HO107.out).2.2 | (with_reducible refine Kd.C_alloc ?_ _) | (with_reducible refine Kd.C_drewN ?_ _) | (with_reducible refine Kd.C_drew ?_))))
 (case side2 => exact (Kd.R_reads' HO107.out).2.1)
 rintro e w' ⟨rfl, ⟨nd, rfl⟩⟩
 refine ⟨_, rfl, ?_⟩
 refine hK.out _ _ sZ (fun hHeld => ?_)
 clear hK K
 refine nA 16 ?_; refine pA 12 4 HT_ ?_
 refine done_ (done_of HT_.out (by kernel_rfl)) ?_
 try go_wp2
 go_ret
 exact ⟨z674d, zcb41⟩

end Go.Proofs.YtkgmoajdcibafaaDoor.P

-- written by a program of this session's (wip/pp)
namespace Go.Proofs.YtkgmoajdcibafaaDoor.P
open Go.RowKit Go.Proofs.YtkgmoajdcibafaaDoorW.PrintWords Go.Proofs.YtkgmoajdcibafaaDoorW.PrintLast Go.Proofs.YtkgmoajdcibafaaDoorW.PrintMore
attribute [local go_sem] max2_int min2_int max_two min_two max_three min_three max_four min_four str_geq str_gtr str_leq   -- for this text's walks alone
set_option linter.unusedVariables false
set_option linter.unusedSimpArgs false

/-! ### impl_Tag_with_impl_CompareKeys_1: function 10102103 -/
def impl_Tag_with_impl_CompareKeys_1.l0 : Nat → List (S123) → List (S123) → List (S123) → Int → Int → Option (Int)
 | 0, _, _, _, _, _ => none
 | k + 1, x0, x1, x11, x12, x13 => if x13 < x12 then (if 0 ≤ x13 then (if x13 < (x11.length : Int) then (if x13 ≥ (x1.length : Int) then (some 1) else (if x13 < (x1.length : Int) then ((impl_CompareKeys_1.f k ((rd_T123 x11 x13).f0) ((rd_T123 x11 x13).f1) ((rd_T123 x1 x13).f0) ((rd_T123 x1 x13).f1)).bind fun t105 => (if t105 = 0 then (impl_Tag_with_impl_CompareKeys_1.l0 k x0 x1 x11 x12 (wrap64 (x13 + 1))) else (some t105))) else (none))) else (none)) else (none)) else (if (x0.length : Int) < (x1.length : Int) then (some (-1)) else (some 0))
def impl_Tag_with_impl_CompareKeys_1.f (k : Nat) (l0 : List (S123)) (l1 : List (S123))  : Option (Int) := impl_Tag_with_impl_CompareKeys_1.l0 k l0 l1 l0 (l0.length : Int) 0
theorem impl_Tag_with_impl_CompareKeys_1.mono_l : ∀ k, (∀ y0 y1 y2 y3 y4, LeO (impl_Tag_with_impl_CompareKeys_1.l0 k y0 y1 y2 y3 y4) (impl_Tag_with_impl_CompareKeys_1.l0 (k + 1) y0 y1 y2 y3 y4))
 | 0 => fun _ _ _ _ _ r h => by simp [impl_Tag_with_impl_CompareKeys_1.l0] at h
 | k + 1 => by
  have ih0 := impl_Tag_with_impl_CompareKeys_1.mono_l k
  · intro y0 y1 y2 y3 y4
    unfold impl_Tag_with_impl_CompareKeys_1.l0
    repeat' first
     | (with_reducible first | exact ih0 .. | exact impl_CompareKeys_1.mono .. | exact LeO.refl _ | exact LeO.none _ | refine LeO.ite ?_ ?_ | refine LeO.bind ?_ (fun _ => ?_))
     | exact LeO.none _
     | refine LeO.ite ?_ ?_
     | refine LeO.bind ?_ (fun _ => ?_)
theorem impl_Tag_with_impl_CompareKeys_1.mono : ∀ a0 a1 k, LeO (impl_Tag_with_impl_CompareKeys_1.f k a0 a1) (impl_Tag_with_impl_CompareKeys_1.f (k + 1) a0 a1) := by
 intro a0 a1 k
 have ih0 := impl_Tag_with_impl_CompareKeys_1.mono_l k
 unfold impl_Tag_with_impl_CompareKeys_1.f
 repeat' first
  | (with_reducible first | exact ih0 .. | exact impl_CompareKeys_1.mono .. | exact LeO.refl _ | exact LeO.none _ | refine LeO.ite ?_ ?_ | refine LeO.bind ?_ (fun _ => ?_))
  | exact LeO.none _
  | refine LeO.ite ?_ ?_
  | refine LeO.bind ?_ (fun _ => ?_)
set_option maxHeartbeats 8000000 in
set_option maxRecDepth 100000 in
theorem impl_Tag_with_impl_CompareKeys_1.calls (k : Nat) (A0 : Option Addr) (c0 : Nat) (l0 : List (S123)) (A1 : Option Addr) (c1 : Nat) (l1 : List (S123))  (r : Int) (w : World) (hr0 : Kd.C k123 w A0 l0.length l0) (hc0 : l0.length ≤ c0) (hr1 : Kd.C k123 w A1 l1.length l1) (hc1 : l1.length ≤ c1) (h : impl_Tag_with_impl_CompareKeys_1.f k l0 l1 = some r) :
 Calls Tryd.prog 102 #[.slice A0 l0.length c0, .slice A1 l1.length c1, .func (.func 103) #[] #[]] w fun e w' => e = .returned (.int .i64 r) ∧ Below w.heap.size w w' := by
 have hu123 := Tryd.underlying123
 have HR0 := aM hr0
 have HC0 := aM hc0
 clear hr0 hc0
 have HR1 := aM hr1
 have HC1 := aM hc1
 clear hr1 hc1
 have HB := aM (Below.refl w.heap.size w)
 have H : (impl_Tag_with_impl_CompareKeys_1.l0 k l0 l1 l0 (l0.length : Int) 0) = some r := h
 clear h
 have H' := aM H
 clear H
 go_enter Tryd.func102, Tryd.ntmps102
 go_wp2
 go_loopg [13] k (fun kq v13 w' => ∃ (x13_1 : Int), v13 = .int .i64 x13_1 ∧ Aside0 (impl_Tag_with_impl_CompareKeys_1.l0 kq l0 l1 l0 (l0.length : Int) x13_1 = some r) ∧ Aside0 (kq ≤ k) ∧ Aside0 (Below w.heap.size w w'))
 case atStart => exact ⟨(0), z4458, H', ⟨Nat.le_refl _⟩, ⟨z5acd⟩⟩
 case round =>
  clear H'
  try clear c1
  try clear p2
  obtain ⟨x13_1, rfl, HA, HK1, HB⟩ := hrel
  cases gk with
  | zero => exact absurd HA.out (by simp [impl_Tag_with_impl_CompareKeys_1.l0])
  | succ k1 =>
   have H := HA.out
   clear HA
   simp only [impl_Tag_with_impl_CompareKeys_1.l0] at H
   by_cases c4 : x13_1 < (l0.length : Int)
   · rw [if_pos c4] at H
     have c4b0 : decide (x13_1 < (l0.length : Int)) = true := decide_eq_true c4
     clear c4
     replace H := ifS H; obtain ⟨c5, H⟩ := H
     have c5b0 : decide (0 ≤ x13_1) = true := decide_eq_true c5
     clear c5
     replace H := ifS H; obtain ⟨c6, H⟩ := H
     have c6b0 : decide (x13_1 < (l0.length : Int)) = true := decide_eq_true c6
     clear c6
     by_cases c7 : x13_1 ≥ (l1.length : Int)
     · rw [if_pos c7] at H
       have c7b0 : decide ((l1.length : Int) ≤ x13_1) = true := decide_eq_true c7
       clear c7
       obtain rfl := Option.some.inj H
       have p101 : 0 ≤ (x13_1 : Int) := of_decide_eq_true z1200
       have q101 : x13_1 < (l0.length : Int) := of_decide_eq_true z1200
       obtain ⟨ad101, e101, hx101_0, hx101_1⟩ := at_T123 HR0.out x13_1 p101 q101
       cases e101
       replace hx101_0 := (HB.out.cell (World.block_lt_of_cell? w _ hx101_0)).trans hx101_0
       replace hx101_1 := (HB.out.cell (World.block_lt_of_cell? w _ hx101_1)).trans hx101_1
       replace p101 := eq_true p101
       replace q101 := eq_true q101
       go_wp2_with (first | ((with_reducible refine gate_dst (N := 8) rfl ?_); refine box_event ?hg (N := 8) ?hd (cs := #[.string (⟨#[]⟩ : ByteArray), .string (⟨#[]⟩ : ByteArray)]) (t := 123) ?hr ?_; (case hd => rfl); (case hg => rfl); (case hr => first | (go_simp; done) | (go_simp; rfl)); intro gb102 hg w8 hbox hb; have _ := aM (below_step hbZ hb); have _ := aM hbox; have _ := szZ hg; have _ := szZ hg; clear HB; rename_i HB BK102 GW102 GE102; clear hb hbox hg; obtain ⟨hcz9_0, hcz9_1, hfz9_0, hfz9_1⟩ := cellsZ2 BK102.out))
       go_ret
       exact ⟨z674d, zcb41⟩
     · rw [if_neg c7] at H
       have c7b0 : decide ((l1.length : Int) ≤ x13_1) = false := decide_eq_false c7
       clear c7
       replace H := ifS H; obtain ⟨c10, H⟩ := H
       have c10b0 : decide (x13_1 < (l1.length : Int)) = true := decide_eq_true c10
       clear c10
       replace H := Option.bind_eq_some_iff.mp H
       obtain ⟨t105, A110, H⟩ := H
       try dsimp only at H
       have A11 := aM A110
       clear A110
       by_cases c12 : t105 = 0
       · rw [if_pos c12] at H
         have c12b0 : (t105 == 0) = true := beq_iff_eq.mpr c12
         have c12b1 : (t105 != 0) = false := bne_eq_false_iff_eq.mpr c12
         clear c12
         have H' := aM H
         clear H
         have p101 : 0 ≤ (x13_1 : Int) := of_decide_eq_true z1200
         have q101 : x13_1 < (l0.length : Int) := of_decide_eq_true z1200
         obtain ⟨ad101, e101, hx101_0, hx101_1⟩ := at_T123 HR0.out x13_1 p101 q101
         cases e101
         replace hx101_0 := (HB.out.cell (World.block_lt_of_cell? w _ hx101_0)).trans hx101_0
         replace hx101_1 := (HB.out.cell (World.block_lt_of_cell? w _ hx101_1)).trans hx101_1
         replace p101 := eq_true p101
         replace q101 := eq_true q101
         go_wp2_with (first | ((with_reducible refine gate_dst (N := 8) rfl ?_); refine box_event ?hg (N := 8) ?hd (cs := #[.string (⟨#[]⟩ : ByteArray), .string (⟨#[]⟩ : ByteArray)]) (t := 123) ?hr ?_; (case hd => rfl); (case hg => rfl); (case hr => first | (go_simp; done) | (go_simp; rfl)); intro gb102 hg w13 hbox hb; have _ := aM (below_step hbZ hb); have _ := aM hbox; have _ := szZ hg; have _ := szZ hg; clear HB; rename_i HB BK102 GW102 GE102; clear hb hbox hg; obtain ⟨hcz14_0, hcz14_1, hfz14_0, hfz14_1⟩ := cellsZ2 BK102.out; have p103 : 0 ≤ (x13_1 : Int) := of_decide_eq_true z1200; have q103 : x13_1 < (l1.length : Int) := of_decide_eq_true z1200; obtain ⟨ad103, e103, hx103_0, hx103_1⟩ := at_T123 HR1.out x13_1 p103 q103; cases e103; have hn103_0 : ad103.block ≠ gb102 := Nat.ne_of_lt (Nat.lt_of_lt_of_le (by have := World.block_lt_of_cell? _ _ hx103_0; first | rwa [add_block] at this | exact this) GW102.out); have hn103_1 : ad103.block ≠ gb102 := Nat.ne_of_lt (Nat.lt_of_lt_of_le (by have := World.block_lt_of_cell? _ _ hx103_0; first | rwa [add_block] at this | exact this) GW102.out); replace hx103_0 := (HB.out.cell (World.block_lt_of_cell? w _ hx103_0)).trans hx103_0; replace hx103_1 := (HB.out.cell (World.block_lt_of_cell? w _ hx103_1)).trans hx103_1; replace hx103_0 := (cell_far (p := ⟨gb102, 0, none⟩) (by first | (rw [add_block]; exact hn103_0) | (show (Addr.add _ _).block ≠ _; rw [add_block]; exact hn103_0) | exact hn103_0) (.string ((rd_T123 l0 x13_1).f0))).trans hx103_0; replace hx103_1 := (cell_far (p := ⟨gb102, 0, none⟩) (by first | (rw [add_block]; exact hn103_0) | (show (Addr.add _ _).block ≠ _; rw [add_block]; exact hn103_0) | exact hn103_0) (.string ((rd_T123 l0 x13_1).f0))).trans hx103_1; replace hx103_0 := (cell_far (p := ⟨gb102, 1, none⟩) (by first | (rw [add_block]; exact hn103_1) | (show (Addr.add _ _).block ≠ _; rw [add_block]; exact hn103_1) | exact hn103_1) (.string ((rd_T123 l0 x13_1).f1))).trans hx103_0; replace hx103_1 := (cell_far (p := ⟨gb102, 1, none⟩) (by first | (rw [add_block]; exact hn103_1) | (show (Addr.add _ _).block ≠ _; rw [add_block]; exact hn103_1) | exact hn103_1) (.string ((rd_T123 l0 x13_1).f1))).trans hx103_1; clear hn103_0 hn103_1; replace p103 := eq_true p103; replace q103 := eq_true q103) | ((with_reducible refine gate_dst (N := 9) rfl ?_); refine box_event ?hg (N := 9) ?hd (cs := #[.string (⟨#[]⟩ : ByteArray), .string (⟨#[]⟩ : ByteArray)]) (t := 123) ?hr ?_; (case hd => rfl); (case hg => rfl); (case hr => first | (go_simp; done) | (go_simp; rfl)); intro gb104 hg w15 hbox hb; have _ := aM (blk_below (g := gb102) (o := .cells #[.string ((rd_T123 l0 x13_1).f0), .string ((rd_T123 l0 x13_1).f1)] 123 (0, 0)) bkZ hb); have _ := aM (below_step hbZ hb); have _ := aM hbox; have _ := szZ hg; have _ := szZ hg; have ⟨_, _⟩ := nbB gb102 hg; clear BK102 HB; rename_i BK102 HB BK104 GW104 GE104 NB102_104 NB104_102; clear hb hbox hg; have hnb16 := NB104_102.out; have hnc16 := NB102_104.out; obtain ⟨hcz17_0, hcz17_1, hfz17_0, hfz17_1⟩ := cellsZ2 BK104.out; obtain ⟨hcz18_0, hcz18_1, hfz18_0, hfz18_1⟩ := cellsZ2 BK102.out) | (go_at_call 103; (with_reducible refine (impl_CompareKeys_1.calls k1 ((rd_T123 l0 x13_1).f0) ((rd_T123 l0 x13_1).f1) ((rd_T123 l1 x13_1).f0) ((rd_T123 l1 x13_1).f1) t105 _ A11.out).mono ?_); rintro e w19 ⟨rfl, hb⟩; have _ := bB gb102 hb; have _ := aM (blk_below (g := gb104) (o := .cells #[.string ((rd_T123 l1 x13_1).f0), .string ((rd_T123 l1 x13_1).f1)] 123 (0, 0)) bkZ hb); have _ := aM (below_step hbZ hb); clear BK102 BK104 HB; rename_i BK102 BK104 HB; (try clear hb)))
         go_roundg k1
         case measure => have := HK1.out; omega
         case rel => exact ⟨(wrap64 (x13_1 + 1)), z4458, H', ⟨zfb39⟩, ⟨zcb41⟩⟩
       · rw [if_neg c12] at H
         have c12b0 : (t105 == 0) = false := beq_eq_false_iff_ne.mpr c12
         have c12b1 : (t105 != 0) = true := bne_iff_ne.mpr c12
         obtain rfl := Option.some.inj H
         have p101 : 0 ≤ (x13_1 : Int) := of_decide_eq_true z1200
         have q101 : x13_1 < (l0.length : Int) := of_decide_eq_true z1200
         obtain ⟨ad101, e101, hx101_0, hx101_1⟩ := at_T123 HR0.out x13_1 p101 q101
         cases e101
         replace hx101_0 := (HB.out.cell (World.block_lt_of_cell? w _ hx101_0)).trans hx101_0
         replace hx101_1 := (HB.out.cell (World.block_lt_of_cell? w _ hx101_1)).trans hx101_1
         replace p101 := eq_true p101
         replace q101 := eq_true q101
         go_wp2_with (first | ((with_reducible refine gate_dst (N := 8) rfl ?_); refine box_event ?hg (N := 8) ?hd (cs := #[.string (⟨#[]⟩ : ByteArray), .string (⟨#[]⟩ : ByteArray)]) (t := 123) ?hr ?_; (case hd => rfl); (case hg => rfl); (case hr => first | (go_simp; done) | (go_simp; rfl)); intro gb102 hg w20 hbox hb; have _ := aM (below_step hbZ hb); have _ := aM hbox; have _ := szZ hg; have _ := szZ hg; clear HB; rename_i HB BK102 GW102 GE102; clear hb hbox hg; obtain ⟨hcz21_0, hcz21_1, hfz21_0, hfz21_1⟩ := cellsZ2 BK102.out; have p103 : 0 ≤ (x13_1 : Int) := of_decide_eq_true z1200; have q103 : x13_1 < (l1.length : Int) := of_decide_eq_true z1200; obtain ⟨ad103, e103, hx103_0, hx103_1⟩ := at_T123 HR1.out x13_1 p103 q103; cases e103; have hn103_0 : ad103.block ≠ gb102 := Nat.ne_of_lt (Nat.lt_of_lt_of_le (by have := World.block_lt_of_cell? _ _ hx103_0; first | rwa [add_block] at this | exact this) GW102.out); have hn103_1 : ad103.block ≠ gb102 := Nat.ne_of_lt (Nat.lt_of_lt_of_le (by have := World.block_lt_of_cell? _ _ hx103_0; first | rwa [add_block] at this | exact this) GW102.out); replace hx103_0 := (HB.out.cell (World.block_lt_of_cell? w _ hx103_0)).trans hx103_0; replace hx103_1 := (HB.out.cell (World.block_lt_of_cell? w _ hx103_1)).trans hx103_1; replace hx103_0 := (cell_far (p := ⟨gb102, 0, none⟩) (by first | (rw [add_block]; exact hn103_0) | (show (Addr.add _ _).block ≠ _; rw [add_block]; exact hn103_0) | exact hn103_0) (.string ((rd_T123 l0 x13_1).f0))).trans hx103_0; replace hx103_1 := (cell_far (p := ⟨gb102, 0, none⟩) (by first | (rw [add_block]; exact hn103_0) | (show (Addr.add _ _).block ≠ _; rw [add_block]; exact hn103_0) | exact hn103_0) (.string ((rd_T123 l0 x13_1).f0))).trans hx103_1; replace hx103_0 := (cell_far (p := ⟨gb102, 1, none⟩) (by first | (rw [add_block]; exact hn103_1) | (show (Addr.add _ _).block ≠ _; rw [add_block]; exact hn103_1) | exact hn103_1) (.string ((rd_T123 l0 x13_1).f1))).trans hx103_0; replace hx103_1 := (cell_far (p := ⟨gb102, 1, none⟩) (by first | (rw [add_block]; exact hn103_1) | (show (Addr.add _ _).block ≠ _; rw [add_block]; exact hn103_1) | exact hn103_1) (.string ((rd_T123 l0 x13_1).f1))).trans hx103_1; clear hn103_0 hn103_1; replace p103 := eq_true p103; replace q103 := eq_true q103) | ((with_reducible refine gate_dst (N := 9) rfl ?_); refine box_event ?hg (N := 9) ?hd (cs := #[.string (⟨#[]⟩ : ByteArray), .string (⟨#[]⟩ : ByteArray)]) (t := 123) ?hr ?_; (case hd => rfl); (case hg => rfl); (case hr => first | (go_simp; done) | (go_simp; rfl)); intro gb104 hg w22 hbox hb; have _ := aM (blk_below (g := gb102) (o := .cells #[.string ((rd_T123 l0 x13_1).f0), .string ((rd_T123 l0 x13_1).f1)] 123 (0, 0)) bkZ hb); have _ := aM (below_step hbZ hb); have _ := aM hbox; have _ := szZ hg; have _ := szZ hg; have ⟨_, _⟩ := nbB gb102 hg; clear BK102 HB; rename_i BK102 HB BK104 GW104 GE104 NB102_104 NB104_102; clear hb hbox hg; have hnb23 := NB104_102.out; have hnc23 := NB102_104.out; obtain ⟨hcz24_0, hcz24_1, hfz24_0, hfz24_1⟩ := cellsZ2 BK104.out; obtain ⟨hcz25_0, hcz25_1, hfz25_0, hfz25_1⟩ := cellsZ2 BK102.out) | (go_at_call 103; (with_reducible refine (impl_CompareKeys_1.calls k1 ((rd_T123 l0 x13_1).f0) ((rd_T123 l0 x13_1).f1) ((rd_T123 l1 x13_1).f0) ((rd_T123 l1 x13_1).f1) t105 _ A11.out).mono ?_); rintro e w26 ⟨rfl, hb⟩; have _ := bB gb102 hb; have _ := aM (blk_below (g := gb104) (o := .cells #[.string ((rd_T123 l1 x13_1).f0), .string ((rd_T123 l1 x13_1).f1)] 123 (0, 0)) bkZ hb); have _ := aM (below_step hbZ hb); clear BK102 BK104 HB; rename_i BK102 BK104 HB; (try clear hb)))
         go_ret
         exact ⟨z674d, zcb41⟩
   · rw [if_neg c4] at H
     have c4b0 : decide (x13_1 < (l0.length : Int)) = false := decide_eq_false c4
     clear c4
     by_cases c27 : (l0.length : Int) < (l1.length : Int)
     · rw [if_pos c27] at H
       have c27b0 : decide ((l0.length : Int) < (l1.length : Int)) = true := decide_eq_true c27
       have c27b1 : decide (l0.length < l1.length) = true := decide_eq_true (Int.ofNat_lt.mp c27)
       clear c27
       obtain rfl := Option.some.inj H
       go_wp2
       go_ret
       exact ⟨z674d, z5acd⟩
     · rw [if_neg c27] at H
       have c27b0 : decide ((l0.length : Int) < (l1.length : Int)) = false := decide_eq_false c27
       have c27b1 : decide (l0.length < l1.length) = false := decide_eq_false (fun h => c27 (Int.ofNat_lt.mpr h))
       clear c27
       obtain rfl := Option.some.inj H
       go_wp2
       go_ret
       exact ⟨z674d, z5acd⟩

end Go.Proofs.YtkgmoajdcibafaaDoor.P

-- written by a program of this session's (wip/pp)
namespace Go.Proofs.YtkgmoajdcibafaaDoor.P
open Go.RowKit Go.Proofs.YtkgmoajdcibafaaDoorW.PrintWords Go.Proofs.YtkgmoajdcibafaaDoorW.PrintLast Go.Proofs.YtkgmoajdcibafaaDoorW.PrintMore
attribute [local go_sem] max2_int min2_int max_two min_two max_three min_three max_four min_four str_geq str_gtr str_leq   -- for this text's walks alone
set_option linter.unusedVariables false
set_option linter.unusedSimpArgs false

/-! ### impl_CompareKeys: function 72 -/
def impl_CompareKeys.j0 : Nat → Bool → ByteArray → List (S123) → Int → ByteArray → List (S123) → Int → Option (Int)
 | 0, _, _, _, _, _, _, _ => none
 | k + 1, x13, x102000, x102001, x102002, x103000, x103001, x103002 => if x13 = true then (some 0) else ((impl_Tag_with_impl_CompareKeys_1.f k x102001 x103001).bind fun t105 => ((cmp_Compare_string.f x102000 x103000).bind fun t106 => ((cmp_Compare_int.f x102002 x103002).bind fun t107 => ((cmp_Or_int.f k (([t106, t105, t107] : List Int))).bind fun t111 => (some t111)))))
def impl_CompareKeys.f (k : Nat) (a0_0 : ByteArray) (l0_1 : List (S123)) (a0_2 : Int) (a1_0 : ByteArray) (l1_1 : List (S123)) (a1_2 : Int) : Option (Int) := (impl_GoodKey.f k a0_0 l0_1 a0_2).bind fun t103 => (if t103 = true then ((impl_GoodKey.f k a1_0 l1_1 a1_2).bind fun t104 => (impl_CompareKeys.j0 k (!t104) a0_0 l0_1 a0_2 a1_0 l1_1 a1_2)) else (impl_CompareKeys.j0 k true a0_0 l0_1 a0_2 a1_0 l1_1 a1_2))
theorem impl_CompareKeys.mono_l : ∀ k, (∀ y0 y1 y2 y3 y4 y5 y6, LeO (impl_CompareKeys.j0 k y0 y1 y2 y3 y4 y5 y6) (impl_CompareKeys.j0 (k + 1) y0 y1 y2 y3 y4 y5 y6))
 | 0 => fun _ _ _ _ _ _ _ r h => by simp [impl_CompareKeys.j0] at h
 | k + 1 => by
  have ih0 := impl_CompareKeys.mono_l k
  · intro y0 y1 y2 y3 y4 y5 y6
    unfold impl_CompareKeys.j0
    repeat' first
     | (with_reducible first | exact ih0 .. | exact cmp_Or_int.mono .. | exact impl_GoodKey.mono .. | exact impl_Tag_with_impl_CompareKeys_1.mono .. | exact LeO.refl _ | exact LeO.none _ | refine LeO.ite ?_ ?_ | refine LeO.bind ?_ (fun _ => ?_))
     | exact LeO.none _
     | refine LeO.ite ?_ ?_
     | refine LeO.bind ?_ (fun _ => ?_)
theorem impl_CompareKeys.mono : ∀ a0 a1 a2 a3 a4 a5 k, LeO (impl_CompareKeys.f k a0 a1 a2 a3 a4 a5) (impl_CompareKeys.f (k + 1) a0 a1 a2 a3 a4 a5) := by
 intro a0 a1 a2 a3 a4 a5 k
 have ih0 := impl_CompareKeys.mono_l k
 unfold impl_CompareKeys.f
 repeat' first
  | (with_reducible first | exact ih0 .. | exact cmp_Or_int.mono .. | exact impl_GoodKey.mono .. | exact impl_Tag_with_impl_CompareKeys_1.mono .. | exact LeO.refl _ | exact LeO.none _ | refine LeO.ite ?_ ?_ | refine LeO.bind ?_ (fun _ => ?_))
  | exact LeO.none _
  | refine LeO.ite ?_ ?_
  | refine LeO.bind ?_ (fun _ => ?_)
def impl_CompareKeys.T4 : Bool × List (List Nat × List Nat) := (true, [([], []), ([0], [0]), ([], []), ([2], [2]), ([1, 3], [1, 3]), ([], []), ([], []), ([6], [6]), ([], []), ([8], [8]), ([7, 9, 4], [7, 9]), ([4, 5, 10], [4, 5, 10]), ([11, 10], [11]), ([12, 12, 0, 1, 2, 3, 4, 5, 6, 7, 8, 9, 10, 11, 12], [12])])
def impl_CompareKeys.B4 : List Nat := [0, 1, 0, 4, 15, 0, 0, 64, 0, 256, 991, 2047, 4095, 8191]
theorem impl_CompareKeys.tab4 : rtab .any (opsOf Tryd.f72 4) = impl_CompareKeys.T4 := by kernel_rfl
theorem impl_CompareKeys.bits4 : waitsOk impl_CompareKeys.T4.2 impl_CompareKeys.B4 = true := by kernel_rfl
set_option maxHeartbeats 8000000 in
set_option maxRecDepth 100000 in
theorem impl_CompareKeys.calls (k : Nat) (a0_0 : ByteArray) (A0_1 : Option Addr) (c0_1 : Nat) (l0_1 : List (S123)) (a0_2 : Int) (a1_0 : ByteArray) (A1_1 : Option Addr) (c1_1 : Nat) (l1_1 : List (S123)) (a1_2 : Int) (r : Int) (w : World) (hr0_1 : Kd.C k123 w A0_1 l0_1.length l0_1) (hc0_1 : l0_1.length ≤ c0_1) (hr1_1 : Kd.C k123 w A1_1 l1_1.length l1_1) (hc1_1 : l1_1.length ≤ c1_1) (h : impl_CompareKeys.f k a0_0 l0_1 a0_2 a1_0 l1_1 a1_2 = some r) :
 Calls Tryd.prog 72 #[.agg #[.string a0_0, .slice A0_1 l0_1.length c0_1, .int .i64 a0_2], .agg #[.string a1_0, .slice A1_1 l1_1.length c1_1, .int .i64 a1_2]] w fun e w' => e = .returned (.int .i64 r) ∧ Below w.heap.size w w' := by
 have hu32 := Tryd.underlying32
 have HR0_1 := aM hr0_1
 have HC0_1 := aM hc0_1
 clear hr0_1 hc0_1
 have HR1_1 := aM hr1_1
 have HC1_1 := aM hc1_1
 clear hr1_1 hc1_1
 have HB := aM (Below.refl w.heap.size w)
 have H : ((impl_GoodKey.f k a0_0 l0_1 a0_2).bind fun t103 => (if t103 = true then ((impl_GoodKey.f k a1_0 l1_1 a1_2).bind fun t104 => (impl_CompareKeys.j0 k (!t104) a0_0 l0_1 a0_2 a1_0 l1_1 a1_2)) else (impl_CompareKeys.j0 k true a0_0 l0_1 a0_2 a1_0 l1_1 a1_2))) = some r := h
 clear h
 have HC3 := aM H
 clear H
 go_enter Tryd.func72, Tryd.ntmps72
 go_upto_region 1 with (first | ((with_reducible refine gate_dst (N := 2) rfl ?_); refine box_event ?hg (N := 2) ?hd (cs := #[.string a0_0, .slice A0_1 l0_1.length c0_1, .int .i64 a0_2]) (t := 32) ?hr ?_; (case hd => rfl); (case hg => rfl); (case hr => first | (go_simp; done) | (go_simp; rfl)); intro gb101 hg w4 hbox hb; have _ := aM (below_step hbZ hb); have _ := aM hbox; have _ := szZ hg; have _ := szZ hg; clear HB; rename_i HB BK101 GW101 GE101; clear hb hbox hg) | ((with_reducible refine gate_dst (N := 3) rfl ?_); refine box_event ?hg (N := 3) ?hd (cs := #[.string a1_0, .slice A1_1 l1_1.length c1_1, .int .i64 a1_2]) (t := 32) ?hr ?_; (case hd => rfl); (case hg => rfl); (case hr => first | (go_simp; done) | (go_simp; rfl)); intro gb102 hg w5 hbox hb; have _ := bB gb101 hb; have _ := aM (below_step hbZ hb); have _ := aM hbox; have _ := szZ hg; have _ := szZ hg; have ⟨_, _⟩ := nbB gb101 hg; clear BK101 HB; rename_i BK101 HB BK102 GW102 GE102 NB101_102 NB102_101; clear hb hbox hg))
 (try simp only [Act.put, List.setIfInBounds_toArray, List.set_cons_zero, List.set_cons_succ])
 go_cut [13] (fun v13 wc => ∃ (kq : Nat) (x13_2 : Bool), v13 = .bool x13_2 ∧ Aside0 (impl_CompareKeys.j0 kq x13_2 a0_0 l0_1 a0_2 a1_0 l1_1 a1_2 = some r) ∧ Aside0 (kq ≤ k) ∧ Aside0 (wc.heap[gb101]? = some (.cells #[.string a0_0, (.slice A0_1 l0_1.length c0_1), .int .i64 a0_2] 32 (0, 0))) ∧ Aside0 (wc.heap[gb102]? = some (.cells #[.string a1_0, (.slice A1_1 l1_1.length c1_1), .int .i64 a1_2] 32 (0, 0))) ∧ Aside0 (Below w.heap.size w wc))
 case first =>
  have H := HC3.out
  clear HC3
  replace H := Option.bind_eq_some_iff.mp H
  obtain ⟨t103, A60, H⟩ := H
  try dsimp only at H
  have A6 := aM A60
  clear A60
  by_cases c7 : t103 = true
  · subst c7
    rw [if_pos rfl] at H
    replace H := Option.bind_eq_some_iff.mp H
    obtain ⟨t104, A80, H⟩ := H
    try dsimp only at H
    have A8 := aM A80
    clear A80
    have H' := aM H
    clear H
    have hnb9 := NB101_102.out
    have hnc9 := NB102_101.out
    obtain ⟨hcz10_0, hcz10_1, hcz10_2, hfz10_0, hfz10_1, hfz10_2⟩ := cellsZ3 BK101.out
    go_wp2_with (first | ((with_reducible refine gate_callee (f := 47) rfl ?_); refine goesL_ (some 7) rfl rfl Tryd.func47 (by kernel_rfl) rfl #[.agg #[.string a0_0, .slice A0_1 l0_1.length c0_1, .int .i64 a0_2]] rfl zee81 ?_; (with_reducible refine (impl_GoodKey.calls k a0_0 _ _ l0_1 a0_2 true _ ?side1 ?side2 A6.out).mono ?_); (case side1 => exact (cZ (Kd.C_below HR0_1.out HB.out))); (case side2 => exact HC0_1.out); rintro e w11 ⟨rfl, hb⟩; refine ⟨_, rfl, ?_⟩; have _ := bB gb101 hb; have _ := bB gb102 hb; have _ := aM (below_step hbZ hb); clear BK101 BK102 HB; rename_i BK101 BK102 HB; (try clear hb); obtain ⟨hcz12_0, hcz12_1, hcz12_2, hfz12_0, hfz12_1, hfz12_2⟩ := cellsZ3 BK102.out) | (go_at_call 47; (with_reducible refine (impl_GoodKey.calls k a1_0 _ _ l1_1 a1_2 t104 _ ?side1 ?side2 A8.out).mono ?_); (case side1 => exact (cZ (Kd.C_below HR1_1.out HB.out))); (case side2 => exact HC1_1.out); rintro e w13 ⟨rfl, hb⟩; have _ := bB gb101 hb; have _ := bB gb102 hb; have _ := aM (below_step hbZ hb); clear BK101 BK102 HB; rename_i BK101 BK102 HB; (try clear hb)))
    go_meet
    case rel => exact ⟨_, (!t104), z4458, H', ⟨zb79b⟩, ⟨bkZ⟩, ⟨bkZ⟩, ⟨zcb41⟩⟩
  · replace c7 := Bool.eq_false_iff.mpr c7
    subst c7
    rw [if_neg (show ¬ (false = true) by decide)] at H
    have H' := aM H
    clear H
    have hnb14 := NB101_102.out
    have hnc14 := NB102_101.out
    obtain ⟨hcz15_0, hcz15_1, hcz15_2, hfz15_0, hfz15_1, hfz15_2⟩ := cellsZ3 BK101.out
    go_wp2_with (first | ((with_reducible refine gate_callee (f := 47) rfl ?_); refine goesL_ (some 7) rfl rfl Tryd.func47 (by kernel_rfl) rfl #[.agg #[.string a0_0, .slice A0_1 l0_1.length c0_1, .int .i64 a0_2]] rfl zee81 ?_; (with_reducible refine (impl_GoodKey.calls k a0_0 _ _ l0_1 a0_2 false _ ?side1 ?side2 A6.out).mono ?_); (case side1 => exact (cZ (Kd.C_below HR0_1.out HB.out))); (case side2 => exact HC0_1.out); rintro e w16 ⟨rfl, hb⟩; refine ⟨_, rfl, ?_⟩; have _ := bB gb101 hb; have _ := bB gb102 hb; have _ := aM (below_step hbZ hb); clear BK101 BK102 HB; rename_i BK101 BK102 HB; (try clear hb)))
    go_meet
    case rel => exact ⟨_, (true), z4458, H', ⟨zb79b⟩, ⟨bkZ⟩, ⟨bkZ⟩, ⟨zcb41⟩⟩
 case rest =>
  clear HC3
  try clear c1
  try clear p2
  try clear c4
  try clear c7
  try clear c9
  try clear c14
  try clear hcz10_0 hcz10_1 hcz10_2
  try clear hcz12_0 hcz12_1 hcz12_2
  try clear hcz15_0 hcz15_1 hcz15_2
  try clear hfz10_0 hfz10_1 hfz10_2
  try clear hfz12_0 hfz12_1 hfz12_2
  try clear hfz15_0 hfz15_1 hfz15_2
  obtain ⟨kq, x13_2, rfl, HA, HJ2, BK101, BK102, HB⟩ := hcut
  cases kq with
  | zero => exact absurd HA.out (by simp [impl_CompareKeys.j0])
  | succ kj2 =>
   have H := HA.out
   clear HA
   simp only [impl_CompareKeys.j0] at H
   by_cases c17 : x13_2 = true
   · subst c17
     rw [if_pos rfl] at H
     obtain rfl := Option.some.inj H
     go_wp2
     go_ret
     exact ⟨z674d, zcb41⟩
   · replace c17 := Bool.eq_false_iff.mpr c17
     subst c17
     rw [if_neg (show ¬ (false = true) by decide)] at H
     replace H := Option.bind_eq_some_iff.mp H
     obtain ⟨t105, A180, H⟩ := H
     try dsimp only at H
     have A18 := aM A180
     clear A180
     replace H := Option.bind_eq_some_iff.mp H
     obtain ⟨t106, A190, H⟩ := H
     try dsimp only at H
     have A19 := aM A190
     clear A190
     replace H := Option.bind_eq_some_iff.mp H
     obtain ⟨t107, A200, H⟩ := H
     try dsimp only at H
     have A20 := aM A200
     clear A200
     obtain ⟨y108, hy108⟩ : ∃ y_ : List Int, y_ = (([t106, t105, t107] : List Int)) := ⟨_, rfl⟩
     first | (replace H := bindS H; rw [← hy108] at H; dsimp only at H) | rw [← hy108] at H
     have Ny108 := aM hy108
     clear hy108
     replace H := Option.bind_eq_some_iff.mp H
     obtain ⟨t111, A210, H⟩ := H
     try dsimp only at H
     have A21 := aM A210
     clear A210
     obtain rfl := Option.some.inj H
     have hnb22 := NB101_102.out
     have hnc22 := NB102_101.out
     obtain ⟨hcz23_0, hcz23_1, hcz23_2, hfz23_0, hfz23_1, hfz23_2⟩ := cellsZ3 BK101.out
     obtain ⟨hcz24_0, hcz24_1, hcz24_2, hfz24_0, hfz24_1, hfz24_2⟩ := cellsZ3 BK102.out
     try go_wp2_with (first | ((with_reducible refine gate_callee (f := 102) rfl ?_); refine goesL_ (some 18) rfl rfl Tryd.func102 (by kernel_rfl) rfl #[.slice A0_1 l0_1.length c0_1, .slice A1_1 l1_1.length c1_1, .func (.func 103) #[] #[]] rfl zee81 ?_; (with_reducible refine (impl_Tag_with_impl_CompareKeys_1.calls kj2 _ _ l0_1 _ _ l1_1  t105 _ ?side1 ?side2 ?side3 ?side4 A18.out).mono ?_); (case side1 => exact (cZ (Kd.C_below HR0_1.out HB.out))); (case side2 => exact HC0_1.out); (case side3 => exact (cZ (Kd.C_below HR1_1.out HB.out))); (case side4 => exact HC1_1.out); rintro e w25 ⟨rfl, hb⟩; refine ⟨_, rfl, ?_⟩; have _ := bB gb101 hb; have _ := bB gb102 hb; have _ := aM (below_step hbZ hb); clear BK101 BK102 HB; rename_i BK101 BK102 HB; (try clear hb)))
     have _ := aM (blk_drew BK101.out)
     have _ := aM (blk_drew BK102.out)
     have _ := aM (below_drew1 HB.out)
     clear BK101
     clear BK102
     clear HB
     rename_i BK101 BK102 HB
     refine sA 14 impl_CompareKeys.tab4 impl_CompareKeys.bits4 (fun w' => w'.cell? ⟨gb101, 0, none⟩ = some (.string a0_0) ∧ w'.cell? ⟨gb101, 1, none⟩ = some (.slice A0_1 l0_1.length c0_1) ∧ w'.cell? ⟨gb101, 2, none⟩ = some (.int .i64 a0_2) ∧ w'.cell? ⟨gb102, 0, none⟩ = some (.string a1_0) ∧ w'.cell? ⟨gb102, 1, none⟩ = some (.slice A1_1 l1_1.length c1_1) ∧ w'.cell? ⟨gb102, 2, none⟩ = some (.int .i64 a1_2)) [] (fun hHeld HT_ HW_ => ?_)
     generalize w25.drew = w26 at BK101 BK102 HB hHeld ⊢
     refine pA 0 19 HT_ ?_; refine pA 2 21 HT_ ?_; refine pA 5 24 HT_ ?_; refine pA 6 25 HT_ ?_; refine pA 8 27 HT_ ?_; refine tA 1 20 HT_ HW_ hHeld ?_; refine tA 3 22 HT_ HW_ hHeld ?_; refine tA 7 26 HT_ HW_ hHeld ?_; refine tA 9 28 HT_ HW_ hHeld ?_; refine oA 4 23 HT_ (fun K hK => ?_)
     refine goes_ Tryd.func105 (by kernel_rfl) rfl #[.string a0_0, .string a1_0] (by rfl) rfl rfl zee81 ?_
     with_reducible refine (cmp_Compare_string.calls a0_0 a1_0 t106 _ A19.out).mono ?_
     rintro e w' ⟨rfl, ⟨nd, rfl⟩⟩
     refine ⟨_, rfl, ?_⟩
     refine hK.out _ _ sZ (fun hHeld => ?_)
     clear hK K
     refine nA 23 ?_; refine oA 10 29 HT_ (fun K hK => ?_)
     refine goes_ Tryd.func106 (by kernel_rfl) rfl #[.int .i64 a0_2, .int .i64 a1_2] (by rfl) rfl rfl zee81 ?_
     with_reducible refine (cmp_Compare_int.calls a0_2 a1_2 t107 _ A20.out).mono ?_
     rintro e w' ⟨rfl, ⟨nd, rfl⟩⟩
     refine ⟨_, rfl, ?_⟩
     refine hK.out _ _ sZ (fun hHeld => ?_)
     clear hK K
     refine nA 29 ?_; refine oA 11 30 HT_ (fun K hK => ?_)
     refine Kd.R_lit_step (Kd.int .i64) _ 3 ?hg (N := 30) ?hd (xs := ([t106, t105, t107] : List Int)) (inner := [.int .i64 t106, .int .i64 t105, .int .i64 t107]) (ok := fun _ => True) (okp := fun _ => True) ?hr ?hp (fun _ hk => hk) trivial (Below.refl _ _) (Nat.le_refl _) (by simp) ?_; (case hd => rfl); (case hg => rfl); (case hr => first | (go_simp; done) | (go_simp; rfl)); (case hp => exact (Reps.one (show Kd.M (Kd.int .i64) _ _ _ t106 [.int .i64 t106] from rfl) (Reps.one (show Kd.M (Kd.int .i64) _ _ _ t105 [.int .i64 t105] from rfl) (Reps.one (show Kd.M (Kd.int .i64) _ _ _ t107 [.int .i64 t107] from rfl) (Reps.none _ _)))))
     intro v109 w27 ho28 hb hg_ hnew_
     clear hg_ hnew_
     (first | rw [← Ny108.out] at ho28 | (simp only [Int.reduceToNat] at ho28; rw [← Ny108.out] at ho28))
     have _ := aM (Kd.R_lower ho28 (below_size hbZ))
     have _ := bB gb101 hb
     have _ := bB gb102 hb
     have _ := aM (below_step hbZ hb)
     clear BK101
     clear BK102
     clear HB
     rename_i HO110 BK101 BK102 HB
     clear hb ho28
     obtain ⟨Ao29, co29, eo29⟩ := Kd.R_slice HO110.out
     (first | subst eo29 | (injection eo29 with f1_ f2_ f3_; have f4_ := f1_.symm; have f5_ := f3_.symm; clear f1_ f2_ f3_; subst f4_; subst f5_))
     refine hK.out _ _ sZ (fun hHeld => ?_)
     clear hK K
     refine nA 30 ?_; refine oA 12 31 HT_ (fun K hK => ?_)
     refine goes_ Tryd.func104 (by kernel_rfl) rfl #[.slice Ao29 y108.length co29] (by rfl) rfl rfl zee81 ?_
     with_reducible refine (cmp_Or_int.calls kj2 _ _ y108 t111 _ ?side1 ?side2 A21.out).mono ?_
     (case side1 => exact (by repeat (first | exact (Kd.R_reads' HO110.out).2.2 | (with_reducible refine Kd.C_alloc ?_ _) | (with_reducible refine Kd.C_drewN ?_ _) | (with_reducible refine Kd.C_drew ?_))))
     (case side2 => exact (Kd.R_reads' HO110.out).2.1)
     rintro e w' ⟨rfl, ⟨nd, rfl⟩⟩
     refine ⟨_, rfl, ?_⟩
     refine hK.out _ _ sZ (fun hHeld => ?_)
     clear hK K
     refine nA 31 ?_; refine pA 13 4 HT_ ?_
     refine done_ (done_of HT_.out (by kernel_rfl)) ?_
     try go_wp2
     go_ret
     exact ⟨z674d, zcb41⟩

end Go.Proofs.YtkgmoajdcibafaaDoor.P

-- written by a program of this session's (wip/pp)
namespace Go.Proofs.YtkgmoajdcibafaaDoor.P
open Go.RowKit Go.Proofs.YtkgmoajdcibafaaDoorW.PrintWords Go.Proofs.YtkgmoajdcibafaaDoorW.PrintLast Go.Proofs.YtkgmoajdcibafaaDoorW.PrintMore
attribute [local go_sem] max2_int min2_int max_two min_two max_three min_three max_four min_four str_geq str_gtr str_leq   -- for this text's walks alone
set_option linter.unusedVariables false
set_option linter.unusedSimpArgs false

/-! ### impl_isSize: function 89 -/
def impl_isSize.f (a0 : Int) : Option (Bool) := (impl_within.f a0 1 100000).bind fun t101 => (some t101)
set_option maxHeartbeats 8000000 in
set_option maxRecDepth 100000 in
theorem impl_isSize.calls (a0 : Int) (r : Bool) (w : World) (h : impl_isSize.f a0 = some r) :
 Calls Tryd.prog 89 #[.int .i64 a0] w fun e w' => e = .returned (.bool r) ∧ Drawn0 w w' := by
 have H : ((impl_within.f a0 1 100000).bind fun t101 => (some t101)) = some r := h
 clear h
 replace H := Option.bind_eq_some_iff.mp H
 obtain ⟨t101, A20, H⟩ := H
 try dsimp only at H
 have A2 := aM A20
 clear A20
 obtain rfl := Option.some.inj H
 go_enter Tryd.func89, Tryd.ntmps89
 go_wp2_with (first | ((with_reducible refine gate_callee (f := 90) rfl ?_); refine goesL_ (some 4) rfl rfl Tryd.func90 (by kernel_rfl) rfl #[.int .i64 a0, .int .i64 1, .int .i64 100000] rfl zee81 ?_; (with_reducible refine (impl_within.calls a0 1 100000 t101 _ A2.out).mono ?_); rintro e w' ⟨rfl, ⟨nd, rfl⟩⟩; refine ⟨_, rfl, ?_⟩))
 go_ret
 exact ⟨z4458, za9de⟩

end Go.Proofs.YtkgmoajdcibafaaDoor.P

-- written by a program of this session's (wip/pp)
namespace Go.Proofs.YtkgmoajdcibafaaDoor.P
open Go.RowKit Go.Proofs.YtkgmoajdcibafaaDoorW.PrintWords Go.Proofs.YtkgmoajdcibafaaDoorW.PrintLast Go.Proofs.YtkgmoajdcibafaaDoorW.PrintMore
attribute [local go_sem] max2_int min2_int max_two min_two max_three min_three max_four min_four str_geq str_gtr str_leq   -- for this text's walks alone
set_option linter.unusedVariables false
set_option linter.unusedSimpArgs false

/-! ### impl_isValue: function 111 -/
def impl_isValue.f (a0 : Int) : Option (Bool) := (impl_within.f a0 (-1000000000) 1000000000).bind fun t101 => (some t101)
set_option maxHeartbeats 8000000 in
set_option maxRecDepth 100000 in
theorem impl_isValue.calls (a0 : Int) (r : Bool) (w : World) (h : impl_isValue.f a0 = some r) :
 Calls Tryd.prog 111 #[.int .i64 a0] w fun e w' => e = .returned (.bool r) ∧ Drawn0 w w' := by
 have H : ((impl_within.f a0 (-1000000000) 1000000000).bind fun t101 => (some t101)) = some r := h
 clear h
 replace H := Option.bind_eq_some_iff.mp H
 obtain ⟨t101, A20, H⟩ := H
 try dsimp only at H
 have A2 := aM A20
 clear A20
 obtain rfl := Option.some.inj H
 go_enter Tryd.func111, Tryd.ntmps111
 go_wp2_with (first | ((with_reducible refine gate_callee (f := 90) rfl ?_); refine goesL_ (some 4) rfl rfl Tryd.func90 (by kernel_rfl) rfl #[.int .i64 a0, .int .i64 (-1000000000), .int .i64 1000000000] rfl zee81 ?_; (with_reducible refine (impl_within.calls a0 (-1000000000) 1000000000 t101 _ A2.out).mono ?_); rintro e w' ⟨rfl, ⟨nd, rfl⟩⟩; refine ⟨_, rfl, ?_⟩))
 go_ret
 exact ⟨z4458, za9de⟩

end Go.Proofs.YtkgmoajdcibafaaDoor.P

-- written by a program of this session's (wip/pp)
namespace Go.Proofs.YtkgmoajdcibafaaDoor.P
open Go.RowKit Go.Proofs.YtkgmoajdcibafaaDoorW.PrintWords Go.Proofs.YtkgmoajdcibafaaDoorW.PrintLast Go.Proofs.YtkgmoajdcibafaaDoorW.PrintMore
attribute [local go_sem] max2_int min2_int max_two min_two max_three min_three max_four min_four str_geq str_gtr str_leq   -- for this text's walks alone
set_option linter.unusedVariables false
set_option linter.unusedSimpArgs false

/-! ### impl_GoodAgg: function 91 -/
mutual
def impl_GoodAgg.j0 : Nat → Bool → Int → Int → Int → Int → List Int → Bool → Option (Bool)
 | 0, _, _, _, _, _, _, _ => none
 | k + 1, x15, x102000, x102001, x102002, x102003, x102004, x102005 => if x15 = true then (some false) else (impl_GoodAgg.l0 k 0 x102004 (x102004.length : Int) 0 x102000 x102001 x102002 x102003 x102004 x102005)
def impl_GoodAgg.l0 : Nat → Int → List Int → Int → Int → Int → Int → Int → Int → List Int → Bool → Option (Bool)
 | 0, _, _, _, _, _, _, _, _, _, _ => none
 | k + 1, x3, x17, x18, x19, x102000, x102001, x102002, x102003, x102004, x102005 => if x19 < x18 then (if 0 ≤ x19 then (if x19 < (x17.length : Int) then ((impl_within.f (rd x17 x19) 0 1000000000).bind fun t104 => (if t104 = true then (impl_GoodAgg.l0 k (wrap64 (x3 + (rd x17 x19))) x17 x18 (wrap64 (x19 + 1)) x102000 x102001 x102002 x102003 x102004 x102005) else (some false))) else (none)) else (none)) else (if x102005 = true then (impl_GoodAgg.j2 k x3 (x102001 != 0) x102000 x102001 x102002 x102003 x102004 x102005) else (impl_GoodAgg.j2 k x3 false x102000 x102001 x102002 x102003 x102004 x102005))
def impl_GoodAgg.j2 : Nat → Int → Bool → Int → Int → Int → Int → List Int → Bool → Option (Bool)
 | 0, _, _, _, _, _, _, _, _ => none
 | k + 1, x3, x30, x102000, x102001, x102002, x102003, x102004, x102005 => if x30 = true then (some false) else (if x102005 = true then (impl_GoodAgg.j3 k x3 false x102000 x102001 x102002 x102003 x102004 x102005) else (if x3 = x102000 then ((impl_within.f x102001 (wrap64 ((-1000000000) * x102000)) (wrap64 (1000000000 * x102000))).bind fun t105 => (impl_GoodAgg.j3 k x3 (!t105) x102000 x102001 x102002 x102003 x102004 x102005)) else (impl_GoodAgg.j3 k x3 true x102000 x102001 x102002 x102003 x102004 x102005)))
def impl_GoodAgg.j3 : Nat → Int → Bool → Int → Int → Int → Int → List Int → Bool → Option (Bool)
 | 0, _, _, _, _, _, _, _, _ => none
 | k + 1, x3, x38, x102000, x102001, x102002, x102003, x102004, x102005 => if x38 = true then (some false) else (if x102000 = 0 then (if x102002 = 0 then (if x102003 = 0 then (if x3 = 0 then (some (!x102005)) else (some false)) else (some false)) else (some false)) else ((impl_isValue.f x102002).bind fun t106 => (if t106 = true then ((impl_isValue.f x102003).bind fun t107 => (if t107 = true then (some (decide (x102002 ≤ x102003))) else (some false))) else (some false))))
end
def impl_GoodAgg.f (k : Nat) (a0_0 : Int) (a0_1 : Int) (a0_2 : Int) (a0_3 : Int) (l0_4 : List Int) (a0_5 : Bool) : Option (Bool) := (impl_within.f a0_0 0 1000000000).bind fun t102 => (if t102 = true then (impl_GoodAgg.j0 k ((l0_4.length : Int) != 8) a0_0 a0_1 a0_2 a0_3 l0_4 a0_5) else (impl_GoodAgg.j0 k true a0_0 a0_1 a0_2 a0_3 l0_4 a0_5))
theorem impl_GoodAgg.mono_l : ∀ k, (∀ y0 y1 y2 y3 y4 y5 y6, LeO (impl_GoodAgg.j0 k y0 y1 y2 y3 y4 y5 y6) (impl_GoodAgg.j0 (k + 1) y0 y1 y2 y3 y4 y5 y6)) ∧ (∀ y0 y1 y2 y3 y4 y5 y6 y7 y8 y9, LeO (impl_GoodAgg.l0 k y0 y1 y2 y3 y4 y5 y6 y7 y8 y9) (impl_GoodAgg.l0 (k + 1) y0 y1 y2 y3 y4 y5 y6 y7 y8 y9)) ∧ (∀ y0 y1 y2 y3 y4 y5 y6 y7, LeO (impl_GoodAgg.j2 k y0 y1 y2 y3 y4 y5 y6 y7) (impl_GoodAgg.j2 (k + 1) y0 y1 y2 y3 y4 y5 y6 y7)) ∧ (∀ y0 y1 y2 y3 y4 y5 y6 y7, LeO (impl_GoodAgg.j3 k y0 y1 y2 y3 y4 y5 y6 y7) (impl_GoodAgg.j3 (k + 1) y0 y1 y2 y3 y4 y5 y6 y7))
 | 0 => ⟨fun _ _ _ _ _ _ _ r h => by simp [impl_GoodAgg.j0] at h, fun _ _ _ _ _ _ _ _ _ _ r h => by simp [impl_GoodAgg.l0] at h, fun _ _ _ _ _ _ _ _ r h => by simp [impl_GoodAgg.j2] at h, fun _ _ _ _ _ _ _ _ r h => by simp [impl_GoodAgg.j3] at h⟩
 | k + 1 => by
  obtain ⟨ih0, ih1, ih2, ih3⟩ := impl_GoodAgg.mono_l k
  refine ⟨?_, ?_, ?_, ?_⟩
  · intro y0 y1 y2 y3 y4 y5 y6
    unfold impl_GoodAgg.j0
    repeat' first
     | (with_reducible first | exact ih0 .. | exact ih1 .. | exact ih2 .. | exact ih3 .. | exact LeO.refl _ | exact LeO.none _ | refine LeO.ite ?_ ?_ | refine LeO.bind ?_ (fun _ => ?_))
     | exact LeO.none _
     | refine LeO.ite ?_ ?_
     | refine LeO.bind ?_ (fun _ => ?_)
  · intro y0 y1 y2 y3 y4 y5 y6 y7 y8 y9
    unfold impl_GoodAgg.l0
    repeat' first
     | (with_reducible first | exact ih0 .. | exact ih1 .. | exact ih2 .. | exact ih3 .. | exact LeO.refl _ | exact LeO.none _ | refine LeO.ite ?_ ?_ | refine LeO.bind ?_ (fun _ => ?_))
     | exact LeO.none _
     | refine LeO.ite ?_ ?_
     | refine LeO.bind ?_ (fun _ => ?_)
  · intro y0 y1 y2 y3 y4 y5 y6 y7
    unfold impl_GoodAgg.j2
    repeat' first
     | (with_reducible first | exact ih0 .. | exact ih1 .. | exact ih2 .. | exact ih3 .. | exact LeO.refl _ | exact LeO.none _ | refine LeO.ite ?_ ?_ | refine LeO.bind ?_ (fun _ => ?_))
     | exact LeO.none _
     | refine LeO.ite ?_ ?_
     | refine LeO.bind ?_ (fun _ => ?_)
  · intro y0 y1 y2 y3 y4 y5 y6 y7
    unfold impl_GoodAgg.j3
    repeat' first
     | (with_reducible first | exact ih0 .. | exact ih1 .. | exact ih2 .. | exact ih3 .. | exact LeO.refl _ | exact LeO.none _ | refine LeO.ite ?_ ?_ | refine LeO.bind ?_ (fun _ => ?_))
     | exact LeO.none _
     | refine LeO.ite ?_ ?_
     | refine LeO.bind ?_ (fun _ => ?_)
theorem impl_GoodAgg.mono : ∀ a0 a1 a2 a3 a4 a5 k, LeO (impl_GoodAgg.f k a0 a1 a2 a3 a4 a5) (impl_GoodAgg.f (k + 1) a0 a1 a2 a3 a4 a5) := by
 intro a0 a1 a2 a3 a4 a5 k
 obtain ⟨ih0, ih1, ih2, ih3⟩ := impl_GoodAgg.mono_l k
 unfold impl_GoodAgg.f
 repeat' first
  | (with_reducible first | exact ih0 .. | exact ih1 .. | exact ih2 .. | exact ih3 .. | exact LeO.refl _ | exact LeO.none _ | refine LeO.ite ?_ ?_ | refine LeO.bind ?_ (fun _ => ?_))
  | exact LeO.none _
  | refine LeO.ite ?_ ?_
  | refine LeO.bind ?_ (fun _ => ?_)
set_option maxHeartbeats 8000000 in
set_option maxRecDepth 100000 in
theorem impl_GoodAgg.calls (k : Nat) (a0_0 : Int) (a0_1 : Int) (a0_2 : Int) (a0_3 : Int) (A0_4 : Option Addr) (c0_4 : Nat) (l0_4 : List Int) (a0_5 : Bool) (r : Bool) (w : World) (hr0_4 : Kd.C (Kd.int .i64) w A0_4 l0_4.length l0_4) (hc0_4 : l0_4.length ≤ c0_4) (h : impl_GoodAgg.f k a0_0 a0_1 a0_2 a0_3 l0_4 a0_5 = some r) :
 Calls Tryd.prog 91 #[.agg #[.int .i64 a0_0, .int .i64 a0_1, .int .i64 a0_2, .int .i64 a0_3, .slice A0_4 l0_4.length c0_4, .bool a0_5]] w fun e w' => e = .returned (.bool r) ∧ Below w.heap.size w w' := by
 have hu35 := Tryd.underlying35
 have HR0_4 := aM hr0_4
 have HC0_4 := aM hc0_4
 clear hr0_4 hc0_4
 have HB := aM (Below.refl w.heap.size w)
 have H : ((impl_within.f a0_0 0 1000000000).bind fun t102 => (if t102 = true then (impl_GoodAgg.j0 k ((l0_4.length : Int) != 8) a0_0 a0_1 a0_2 a0_3 l0_4 a0_5) else (impl_GoodAgg.j0 k true a0_0 a0_1 a0_2 a0_3 l0_4 a0_5))) = some r := h
 clear h
 have HC2 := aM H
 clear H
 go_enter Tryd.func91, Tryd.ntmps91
 go_upto_region 1 with (first | ((with_reducible refine gate_dst (N := 1) rfl ?_); (try (refine gate_guard (by rfl) ?_; dsimp only)); refine box_event ?hg (N := 1) ?hd (cs := #[.int .i64 a0_0, .int .i64 a0_1, .int .i64 a0_2, .int .i64 a0_3, .slice A0_4 l0_4.length c0_4, .bool a0_5]) (t := 35) ?hr ?_; (case hd => rfl); (case hg => rfl); (case hr => first | (go_simp; done) | (go_simp; rfl)); intro gb101 hg w3 hbox hb; have _ := aM (below_step hbZ hb); have _ := aM hbox; have _ := szZ hg; have _ := szZ hg; clear HB; rename_i HB BK101 GW101 GE101; clear hb hbox hg))
 (try simp only [Act.put, List.setIfInBounds_toArray, List.set_cons_zero, List.set_cons_succ])
 go_cut [15] (fun v15 wc => ∃ (kq : Nat) (x15_1 : Bool), v15 = .bool x15_1 ∧ Aside0 (impl_GoodAgg.j0 kq x15_1 a0_0 a0_1 a0_2 a0_3 l0_4 a0_5 = some r) ∧ Aside0 (kq ≤ k) ∧ Aside0 (wc.heap[gb101]? = some (.cells #[.int .i64 a0_0, .int .i64 a0_1, .int .i64 a0_2, .int .i64 a0_3, (.slice A0_4 l0_4.length c0_4), .bool a0_5] 35 (0, 0))) ∧ Aside0 (Below w.heap.size w wc))
 case first =>
  have H := HC2.out
  clear HC2
  replace H := Option.bind_eq_some_iff.mp H
  obtain ⟨t102, A40, H⟩ := H
  try dsimp only at H
  have A4 := aM A40
  clear A40
  by_cases c5 : t102 = true
  · subst c5
    rw [if_pos rfl] at H
    have H' := aM H
    clear H
    obtain ⟨hcz6_0, hcz6_1, hcz6_2, hcz6_3, hcz6_4, hcz6_5, hfz6_0, hfz6_1, hfz6_2, hfz6_3, hfz6_4, hfz6_5⟩ := cellsZ6 BK101.out
    go_wp2_with (first | ((with_reducible refine gate_callee (f := 90) rfl ?_); refine goesL_ (some 8) rfl rfl Tryd.func90 (by kernel_rfl) rfl #[.int .i64 a0_0, .int .i64 0, .int .i64 1000000000] rfl zee81 ?_; (with_reducible refine (impl_within.calls a0_0 0 1000000000 true _ A4.out).mono ?_); rintro e w' ⟨rfl, ⟨nd, rfl⟩⟩; refine ⟨_, rfl, ?_⟩))
    go_meet
    case rel => exact ⟨_, (((l0_4.length : Int) != 8)), z4458, H', ⟨zb79b⟩, ⟨bkZ⟩, ⟨zcb41⟩⟩
  · replace c5 := Bool.eq_false_iff.mpr c5
    subst c5
    rw [if_neg (show ¬ (false = true) by decide)] at H
    have H' := aM H
    clear H
    obtain ⟨hcz7_0, hcz7_1, hcz7_2, hcz7_3, hcz7_4, hcz7_5, hfz7_0, hfz7_1, hfz7_2, hfz7_3, hfz7_4, hfz7_5⟩ := cellsZ6 BK101.out
    go_wp2_with (first | ((with_reducible refine gate_callee (f := 90) rfl ?_); refine goesL_ (some 8) rfl rfl Tryd.func90 (by kernel_rfl) rfl #[.int .i64 a0_0, .int .i64 0, .int .i64 1000000000] rfl zee81 ?_; (with_reducible refine (impl_within.calls a0_0 0 1000000000 false _ A4.out).mono ?_); rintro e w' ⟨rfl, ⟨nd, rfl⟩⟩; refine ⟨_, rfl, ?_⟩))
    go_meet
    case rel => exact ⟨_, (true), z4458, H', ⟨zb79b⟩, ⟨bkZ⟩, ⟨zcb41⟩⟩
 case rest =>
  clear HC2
  try clear p2
  try clear c5
  try clear hcz6_0 hcz6_1 hcz6_2 hcz6_3 hcz6_4 hcz6_5
  try clear hcz7_0 hcz7_1 hcz7_2 hcz7_3 hcz7_4 hcz7_5
  try clear hfz6_0 hfz6_1 hfz6_2 hfz6_3 hfz6_4 hfz6_5
  try clear hfz7_0 hfz7_1 hfz7_2 hfz7_3 hfz7_4 hfz7_5
  obtain ⟨kq, x15_1, rfl, HA, HJ1, BK101, HB⟩ := hcut
  cases kq with
  | zero => exact absurd HA.out (by simp [impl_GoodAgg.j0])
  | succ kj1 =>
   have H := HA.out
   clear HA
   simp only [impl_GoodAgg.j0] at H
   by_cases c8 : x15_1 = true
   · subst c8
     rw [if_pos rfl] at H
     obtain rfl := Option.some.inj H
     go_wp2
     go_ret
     exact ⟨z674d, zcb41⟩
   · replace c8 := Bool.eq_false_iff.mpr c8
     subst c8
     rw [if_neg (show ¬ (false = true) by decide)] at H
     have H' := aM H
     clear H
     obtain ⟨hcz9_0, hcz9_1, hcz9_2, hcz9_3, hcz9_4, hcz9_5, hfz9_0, hfz9_1, hfz9_2, hfz9_3, hfz9_4, hfz9_5⟩ := cellsZ6 BK101.out
     go_wp2
     go_loopg [3, 19] kj1 (fun kq v3 v19 w' => ∃ (x3_2 : Int) (x19_2 : Int), v3 = .int .i64 x3_2 ∧ v19 = .int .i64 x19_2 ∧ Aside0 (impl_GoodAgg.l0 kq x3_2 l0_4 (l0_4.length : Int) x19_2 a0_0 a0_1 a0_2 a0_3 l0_4 a0_5 = some r) ∧ Aside0 (kq ≤ kj1) ∧ Aside0 (w'.heap[gb101]? = some (.cells #[.int .i64 a0_0, .int .i64 a0_1, .int .i64 a0_2, .int .i64 a0_3, (.slice A0_4 l0_4.length c0_4), .bool a0_5] 35 (0, 0))) ∧ Aside0 (Below w.heap.size w w'))
     case atStart => exact ⟨(0), (0), z4458, z4458, H', ⟨Nat.le_refl _⟩, ⟨bkZ⟩, ⟨zcb41⟩⟩
     case round =>
      clear H'
      try clear p2
      try clear c5
      try clear c8
      try clear c9
      try clear hcz6_0 hcz6_1 hcz6_2 hcz6_3 hcz6_4 hcz6_5
      try clear hcz7_0 hcz7_1 hcz7_2 hcz7_3 hcz7_4 hcz7_5
      try clear hcz9_0 hcz9_1 hcz9_2 hcz9_3 hcz9_4 hcz9_5
      try clear hfz6_0 hfz6_1 hfz6_2 hfz6_3 hfz6_4 hfz6_5
      try clear hfz7_0 hfz7_1 hfz7_2 hfz7_3 hfz7_4 hfz7_5
      try clear hfz9_0 hfz9_1 hfz9_2 hfz9_3 hfz9_4 hfz9_5
      try clear p2
      obtain ⟨x3_2, x19_2, rfl, rfl, HA, HK2, BK101, HB⟩ := hrel
      cases gk with
      | zero => exact absurd HA.out (by simp [impl_GoodAgg.l0])
      | succ k2 =>
       have H := HA.out
       clear HA
       simp only [impl_GoodAgg.l0] at H
       by_cases c10 : x19_2 < (l0_4.length : Int)
       · rw [if_pos c10] at H
         have c10b0 : decide (x19_2 < (l0_4.length : Int)) = true := decide_eq_true c10
         clear c10
         replace H := ifS H; obtain ⟨c11, H⟩ := H
         have c11b0 : decide (0 ≤ x19_2) = true := decide_eq_true c11
         clear c11
         replace H := ifS H; obtain ⟨c12, H⟩ := H
         have c12b0 : decide (x19_2 < (l0_4.length : Int)) = true := decide_eq_true c12
         clear c12
         replace H := Option.bind_eq_some_iff.mp H
         obtain ⟨t104, A130, H⟩ := H
         try dsimp only at H
         have A13 := aM A130
         clear A130
         by_cases c14 : t104 = true
         · subst c14
           rw [if_pos rfl] at H
           have H' := aM H
           clear H
           have p103 : 0 ≤ (x19_2 : Int) := of_decide_eq_true z1200
           have q103 : x19_2 < (l0_4.length : Int) := of_decide_eq_true z1200
           obtain ⟨ad103, e103, hx103_0⟩ := Kd.at_int HR0_4.out x19_2 p103 q103
           cases e103
           replace hx103_0 := (HB.out.cell (World.block_lt_of_cell? w _ hx103_0)).trans hx103_0
           replace p103 := eq_true p103
           replace q103 := eq_true q103
           go_wp2_with (first | ((with_reducible refine gate_callee (f := 90) rfl ?_); refine goesL_ (some 24) rfl rfl Tryd.func90 (by kernel_rfl) rfl #[.int .i64 (rd l0_4 x19_2), .int .i64 0, .int .i64 1000000000] rfl zee81 ?_; (with_reducible refine (impl_within.calls (rd l0_4 x19_2) 0 1000000000 true _ A13.out).mono ?_); rintro e w' ⟨rfl, ⟨nd, rfl⟩⟩; refine ⟨_, rfl, ?_⟩))
           go_roundg k2
           case measure => have := HJ1.out; have := HK2.out; omega
           case rel => exact ⟨(wrap64 (x3_2 + (rd l0_4 x19_2))), (wrap64 (x19_2 + 1)), z4458, z4458, H', ⟨by have := HJ1.out; have := HK2.out; omega⟩, ⟨bkZ⟩, ⟨zcb41⟩⟩
         · replace c14 := Bool.eq_false_iff.mpr c14
           subst c14
           rw [if_neg (show ¬ (false = true) by decide)] at H
           obtain rfl := Option.some.inj H
           have p103 : 0 ≤ (x19_2 : Int) := of_decide_eq_true z1200
           have q103 : x19_2 < (l0_4.length : Int) := of_decide_eq_true z1200
           obtain ⟨ad103, e103, hx103_0⟩ := Kd.at_int HR0_4.out x19_2 p103 q103
           cases e103
           replace hx103_0 := (HB.out.cell (World.block_lt_of_cell? w _ hx103_0)).trans hx103_0
           replace p103 := eq_true p103
           replace q103 := eq_true q103
           go_wp2_with (first | ((with_reducible refine gate_callee (f := 90) rfl ?_); refine goesL_ (some 24) rfl rfl Tryd.func90 (by kernel_rfl) rfl #[.int .i64 (rd l0_4 x19_2), .int .i64 0, .int .i64 1000000000] rfl zee81 ?_; (with_reducible refine (impl_within.calls (rd l0_4 x19_2) 0 1000000000 false _ A13.out).mono ?_); rintro e w' ⟨rfl, ⟨nd, rfl⟩⟩; refine ⟨_, rfl, ?_⟩))
           go_ret
           exact ⟨z674d, zcb41⟩
       · rw [if_neg c10] at H
         have c10b0 : decide (x19_2 < (l0_4.length : Int)) = false := decide_eq_false c10
         clear c10
         have HC15 := aM H
         clear H
         go_upto_region 11 with (fail)
         go_cut [30] (fun v30 wc => ∃ (kq : Nat) (x30_14 : Bool), v30 = .bool x30_14 ∧ Aside0 (impl_GoodAgg.j2 kq x3_2 x30_14 a0_0 a0_1 a0_2 a0_3 l0_4 a0_5 = some r) ∧ Aside0 (kq ≤ k2) ∧ Aside0 (wc.heap[gb101]? = some (.cells #[.int .i64 a0_0, .int .i64 a0_1, .int .i64 a0_2, .int .i64 a0_3, (.slice A0_4 l0_4.length c0_4), .bool a0_5] 35 (0, 0))) ∧ Aside0 (Below w.heap.size w wc))
         case first =>
          have H := HC15.out
          clear HC15
          by_cases c16 : a0_5 = true
          · subst c16
            rw [if_pos rfl] at H
            have H' := aM H
            clear H
            obtain ⟨hcz17_0, hcz17_1, hcz17_2, hcz17_3, hcz17_4, hcz17_5, hfz17_0, hfz17_1, hfz17_2, hfz17_3, hfz17_4, hfz17_5⟩ := cellsZ6 BK101.out
            go_wp2
            go_meet
            case rel => exact ⟨_, ((a0_1 != 0)), z4458, H', ⟨zdc19⟩, ⟨bkZ⟩, ⟨zcb41⟩⟩
          · replace c16 := Bool.eq_false_iff.mpr c16
            subst c16
            rw [if_neg (show ¬ (false = true) by decide)] at H
            have H' := aM H
            clear H
            obtain ⟨hcz18_0, hcz18_1, hcz18_2, hcz18_3, hcz18_4, hcz18_5, hfz18_0, hfz18_1, hfz18_2, hfz18_3, hfz18_4, hfz18_5⟩ := cellsZ6 BK101.out
            go_wp2
            go_meet
            case rel => exact ⟨_, (false), z4458, H', ⟨zdc19⟩, ⟨bkZ⟩, ⟨zcb41⟩⟩
         case rest =>
          clear HC15
          try clear c1
          try clear p1
          try clear q1
          try clear hx1
          try clear p2
          try clear c5
          try clear p6
          try clear c8
          try clear c9
          try clear c10
          try clear c10b0
          try clear p10
          try clear q10
          try clear hx10
          try clear c11
          try clear c11b0
          try clear c12
          try clear c12b0
          try clear c14
          try clear c16
          try clear hcz17_0 hcz17_1 hcz17_2 hcz17_3 hcz17_4 hcz17_5
          try clear hcz18_0 hcz18_1 hcz18_2 hcz18_3 hcz18_4 hcz18_5
          try clear hcz6_0 hcz6_1 hcz6_2 hcz6_3 hcz6_4 hcz6_5
          try clear hcz7_0 hcz7_1 hcz7_2 hcz7_3 hcz7_4 hcz7_5
          try clear hcz9_0 hcz9_1 hcz9_2 hcz9_3 hcz9_4 hcz9_5
          try clear hfz17_0 hfz17_1 hfz17_2 hfz17_3 hfz17_4 hfz17_5
          try clear hfz18_0 hfz18_1 hfz18_2 hfz18_3 hfz18_4 hfz18_5
          try clear hfz6_0 hfz6_1 hfz6_2 hfz6_3 hfz6_4 hfz6_5
          try clear hfz7_0 hfz7_1 hfz7_2 hfz7_3 hfz7_4 hfz7_5
          try clear hfz9_0 hfz9_1 hfz9_2 hfz9_3 hfz9_4 hfz9_5
          try clear hx103_0
          try clear p103
          try clear p2
          try clear q103
          obtain ⟨kq, x30_14, rfl, HA, HJ14, BK101, HB⟩ := hcut
          cases kq with
          | zero => exact absurd HA.out (by simp [impl_GoodAgg.j2])
          | succ kj14 =>
           have H := HA.out
           clear HA
           simp only [impl_GoodAgg.j2] at H
           by_cases c19 : x30_14 = true
           · subst c19
             rw [if_pos rfl] at H
             obtain rfl := Option.some.inj H
             go_wp2
             go_ret
             exact ⟨z674d, zcb41⟩
           · replace c19 := Bool.eq_false_iff.mpr c19
             subst c19
             rw [if_neg (show ¬ (false = true) by decide)] at H
             have HC20 := aM H
             clear H
             go_upto_region 13 with (fail)
             go_cut [38] (fun v38 wc => ∃ (kq : Nat) (x38_19 : Bool), v38 = .bool x38_19 ∧ Aside0 (impl_GoodAgg.j3 kq x3_2 x38_19 a0_0 a0_1 a0_2 a0_3 l0_4 a0_5 = some r) ∧ Aside0 (kq ≤ kj14) ∧ Aside0 (wc.heap[gb101]? = some (.cells #[.int .i64 a0_0, .int .i64 a0_1, .int .i64 a0_2, .int .i64 a0_3, (.slice A0_4 l0_4.length c0_4), .bool a0_5] 35 (0, 0))) ∧ Aside0 (Below w.heap.size w wc))
             case first =>
              have H := HC20.out
              clear HC20
              by_cases c21 : a0_5 = true
              · subst c21
                rw [if_pos rfl] at H
                have H' := aM H
                clear H
                obtain ⟨hcz22_0, hcz22_1, hcz22_2, hcz22_3, hcz22_4, hcz22_5, hfz22_0, hfz22_1, hfz22_2, hfz22_3, hfz22_4, hfz22_5⟩ := cellsZ6 BK101.out
                go_wp2
                go_meet
                case rel => exact ⟨_, (false), z4458, H', ⟨by have := HJ1.out; have := HK2.out; have := HJ14.out; first | omega | exact Nat.le_refl _⟩, ⟨bkZ⟩, ⟨zcb41⟩⟩
              · replace c21 := Bool.eq_false_iff.mpr c21
                subst c21
                rw [if_neg (show ¬ (false = true) by decide)] at H
                by_cases c23 : x3_2 = a0_0
                · rw [if_pos c23] at H
                  have c23b0 : (x3_2 == a0_0) = true := beq_iff_eq.mpr c23
                  have c23b1 : (x3_2 != a0_0) = false := bne_eq_false_iff_eq.mpr c23
                  clear c23
                  (first | rw [c23b0] | (simp only [i64_w, i32_w]; rw [c23b0]) | skip)
                  replace H := Option.bind_eq_some_iff.mp H
                  obtain ⟨t105, A240, H⟩ := H
                  try dsimp only at H
                  have A24 := aM A240
                  clear A240
                  have H' := aM H
                  clear H
                  obtain ⟨hcz25_0, hcz25_1, hcz25_2, hcz25_3, hcz25_4, hcz25_5, hfz25_0, hfz25_1, hfz25_2, hfz25_3, hfz25_4, hfz25_5⟩ := cellsZ6 BK101.out
                  go_wp2_with (first | (go_at_call 90; (with_reducible refine (impl_within.calls a0_1 (wrap64 ((-1000000000) * a0_0)) (wrap64 (1000000000 * a0_0)) t105 _ A24.out).mono ?_); rintro e w' ⟨rfl, ⟨nd, rfl⟩⟩))
                  go_meet
                  case rel => exact ⟨_, (!t105), z4458, H', ⟨by have := HJ1.out; have := HK2.out; have := HJ14.out; first | omega | exact Nat.le_refl _⟩, ⟨bkZ⟩, ⟨zcb41⟩⟩
                · rw [if_neg c23] at H
                  have c23b0 : (x3_2 == a0_0) = false := beq_eq_false_iff_ne.mpr c23
                  have c23b1 : (x3_2 != a0_0) = true := bne_iff_ne.mpr c23
                  (first | rw [c23b0] | (simp only [i64_w, i32_w]; rw [c23b0]) | skip)
                  have H' := aM H
                  clear H
                  obtain ⟨hcz26_0, hcz26_1, hcz26_2, hcz26_3, hcz26_4, hcz26_5, hfz26_0, hfz26_1, hfz26_2, hfz26_3, hfz26_4, hfz26_5⟩ := cellsZ6 BK101.out
                  go_wp2
                  go_meet
                  case rel => exact ⟨_, (true), z4458, H', ⟨by have := HJ1.out; have := HK2.out; have := HJ14.out; first | omega | exact Nat.le_refl _⟩, ⟨bkZ⟩, ⟨zcb41⟩⟩
             case rest =>
              clear HC20
              try clear c1
              try clear p1
              try clear q1
              try clear hx1
              try clear c2
              try clear p2
              try clear c5
              try clear p6
              try clear c8
              try clear c9
              try clear c10
              try clear c10b0
              try clear p10
              try clear q10
              try clear hx10
              try clear c11
              try clear c11b0
              try clear c12
              try clear c12b0
              try clear c14
              try clear c16
              try clear c19
              try clear c21
              try clear c23
              try clear c23b0
              try clear c23b1
              try clear hcz17_0 hcz17_1 hcz17_2 hcz17_3 hcz17_4 hcz17_5
              try clear hcz18_0 hcz18_1 hcz18_2 hcz18_3 hcz18_4 hcz18_5
              try clear hcz22_0 hcz22_1 hcz22_2 hcz22_3 hcz22_4 hcz22_5
              try clear hcz25_0 hcz25_1 hcz25_2 hcz25_3 hcz25_4 hcz25_5
              try clear hcz26_0 hcz26_1 hcz26_2 hcz26_3 hcz26_4 hcz26_5
              try clear hcz6_0 hcz6_1 hcz6_2 hcz6_3 hcz6_4 hcz6_5
              try clear hcz7_0 hcz7_1 hcz7_2 hcz7_3 hcz7_4 hcz7_5
              try clear hcz9_0 hcz9_1 hcz9_2 hcz9_3 hcz9_4 hcz9_5
              try clear hfz17_0 hfz17_1 hfz17_2 hfz17_3 hfz17_4 hfz17_5
              try clear hfz18_0 hfz18_1 hfz18_2 hfz18_3 hfz18_4 hfz18_5
              try clear hfz22_0 hfz22_1 hfz22_2 hfz22_3 hfz22_4 hfz22_5
              try clear hfz25_0 hfz25_1 hfz25_2 hfz25_3 hfz25_4 hfz25_5
              try clear hfz26_0 hfz26_1 hfz26_2 hfz26_3 hfz26_4 hfz26_5
              try clear hfz6_0 hfz6_1 hfz6_2 hfz6_3 hfz6_4 hfz6_5
              try clear hfz7_0 hfz7_1 hfz7_2 hfz7_3 hfz7_4 hfz7_5
              try clear hfz9_0 hfz9_1 hfz9_2 hfz9_3 hfz9_4 hfz9_5
              try clear hx103_0
              try clear p1
              try clear p10
              try clear p103
              try clear p2
              try clear p6
              try clear q1
              try clear q10
              try clear q103
              obtain ⟨kq, x38_19, rfl, HA, HJ19, BK101, HB⟩ := hcut
              cases kq with
              | zero => exact absurd HA.out (by simp [impl_GoodAgg.j3])
              | succ kj19 =>
               have H := HA.out
               clear HA
               simp only [impl_GoodAgg.j3] at H
               by_cases c27 : x38_19 = true
               · subst c27
                 rw [if_pos rfl] at H
                 obtain rfl := Option.some.inj H
                 go_wp2
                 go_ret
                 exact ⟨z674d, zcb41⟩
               · replace c27 := Bool.eq_false_iff.mpr c27
                 subst c27
                 rw [if_neg (show ¬ (false = true) by decide)] at H
                 by_cases c28 : a0_0 = 0
                 · rw [if_pos c28] at H
                   have c28b0 : (a0_0 == 0) = true := beq_iff_eq.mpr c28
                   have c28b1 : (a0_0 != 0) = false := bne_eq_false_iff_eq.mpr c28
                   clear c28
                   by_cases c29 : a0_2 = 0
                   · rw [if_pos c29] at H
                     have c29b0 : (a0_2 == 0) = true := beq_iff_eq.mpr c29
                     have c29b1 : (a0_2 != 0) = false := bne_eq_false_iff_eq.mpr c29
                     clear c29
                     by_cases c30 : a0_3 = 0
                     · rw [if_pos c30] at H
                       have c30b0 : (a0_3 == 0) = true := beq_iff_eq.mpr c30
                       have c30b1 : (a0_3 != 0) = false := bne_eq_false_iff_eq.mpr c30
                       clear c30
                       by_cases c31 : x3_2 = 0
                       · rw [if_pos c31] at H
                         have c31b0 : (x3_2 == 0) = true := beq_iff_eq.mpr c31
                         have c31b1 : (x3_2 != 0) = false := bne_eq_false_iff_eq.mpr c31
                         clear c31
                         obtain rfl := Option.some.inj H
                         obtain ⟨hcz32_0, hcz32_1, hcz32_2, hcz32_3, hcz32_4, hcz32_5, hfz32_0, hfz32_1, hfz32_2, hfz32_3, hfz32_4, hfz32_5⟩ := cellsZ6 BK101.out
                         go_wp2
                         go_ret
                         exact ⟨z674d, zcb41⟩
                       · rw [if_neg c31] at H
                         have c31b0 : (x3_2 == 0) = false := beq_eq_false_iff_ne.mpr c31
                         have c31b1 : (x3_2 != 0) = true := bne_iff_ne.mpr c31
                         obtain rfl := Option.some.inj H
                         obtain ⟨hcz33_0, hcz33_1, hcz33_2, hcz33_3, hcz33_4, hcz33_5, hfz33_0, hfz33_1, hfz33_2, hfz33_3, hfz33_4, hfz33_5⟩ := cellsZ6 BK101.out
                         go_wp2
                         go_ret
                         exact ⟨z674d, zcb41⟩
                     · rw [if_neg c30] at H
                       have c30b0 : (a0_3 == 0) = false := beq_eq_false_iff_ne.mpr c30
                       have c30b1 : (a0_3 != 0) = true := bne_iff_ne.mpr c30
                       obtain rfl := Option.some.inj H
                       obtain ⟨hcz34_0, hcz34_1, hcz34_2, hcz34_3, hcz34_4, hcz34_5, hfz34_0, hfz34_1, hfz34_2, hfz34_3, hfz34_4, hfz34_5⟩ := cellsZ6 BK101.out
                       go_wp2
                       go_ret
                       exact ⟨z674d, zcb41⟩
                   · rw [if_neg c29] at H
                     have c29b0 : (a0_2 == 0) = false := beq_eq_false_iff_ne.mpr c29
                     have c29b1 : (a0_2 != 0) = true := bne_iff_ne.mpr c29
                     obtain rfl := Option.some.inj H
                     obtain ⟨hcz35_0, hcz35_1, hcz35_2, hcz35_3, hcz35_4, hcz35_5, hfz35_0, hfz35_1, hfz35_2, hfz35_3, hfz35_4, hfz35_5⟩ := cellsZ6 BK101.out
                     go_wp2
                     go_ret
                     exact ⟨z674d, zcb41⟩
                 · rw [if_neg c28] at H
                   have c28b0 : (a0_0 == 0) = false := beq_eq_false_iff_ne.mpr c28
                   have c28b1 : (a0_0 != 0) = true := bne_iff_ne.mpr c28
                   replace H := Option.bind_eq_some_iff.mp H
                   obtain ⟨t106, A360, H⟩ := H
                   try dsimp only at H
                   have A36 := aM A360
                   clear A360
                   by_cases c37 : t106 = true
                   · subst c37
                     rw [if_pos rfl] at H
                     replace H := Option.bind_eq_some_iff.mp H
                     obtain ⟨t107, A380, H⟩ := H
                     try dsimp only at H
                     have A38 := aM A380
                     clear A380
                     by_cases c39 : t107 = true
                     · subst c39
                       rw [if_pos rfl] at H
                       obtain rfl := Option.some.inj H
                       obtain ⟨hcz40_0, hcz40_1, hcz40_2, hcz40_3, hcz40_4, hcz40_5, hfz40_0, hfz40_1, hfz40_2, hfz40_3, hfz40_4, hfz40_5⟩ := cellsZ6 BK101.out
                       go_wp2_with (first | ((with_reducible refine gate_callee (f := 111) rfl ?_); refine goesL_ (some 83) rfl rfl Tryd.func111 (by kernel_rfl) rfl #[.int .i64 a0_2] rfl zee81 ?_; (with_reducible refine (impl_isValue.calls a0_2 true _ A36.out).mono ?_); rintro e w' ⟨rfl, ⟨nd, rfl⟩⟩; refine ⟨_, rfl, ?_⟩) | (go_at_call 111; (with_reducible refine (impl_isValue.calls a0_3 true _ A38.out).mono ?_); rintro e w' ⟨rfl, ⟨nd, rfl⟩⟩))
                       go_ret
                       exact ⟨z674d, zcb41⟩
                     · replace c39 := Bool.eq_false_iff.mpr c39
                       subst c39
                       rw [if_neg (show ¬ (false = true) by decide)] at H
                       obtain rfl := Option.some.inj H
                       obtain ⟨hcz41_0, hcz41_1, hcz41_2, hcz41_3, hcz41_4, hcz41_5, hfz41_0, hfz41_1, hfz41_2, hfz41_3, hfz41_4, hfz41_5⟩ := cellsZ6 BK101.out
                       go_wp2_with (first | ((with_reducible refine gate_callee (f := 111) rfl ?_); refine goesL_ (some 83) rfl rfl Tryd.func111 (by kernel_rfl) rfl #[.int .i64 a0_2] rfl zee81 ?_; (with_reducible refine (impl_isValue.calls a0_2 true _ A36.out).mono ?_); rintro e w' ⟨rfl, ⟨nd, rfl⟩⟩; refine ⟨_, rfl, ?_⟩) | (go_at_call 111; (with_reducible refine (impl_isValue.calls a0_3 false _ A38.out).mono ?_); rintro e w' ⟨rfl, ⟨nd, rfl⟩⟩))
                       go_ret
                       exact ⟨z674d, zcb41⟩
                   · replace c37 := Bool.eq_false_iff.mpr c37
                     subst c37
                     rw [if_neg (show ¬ (false = true) by decide)] at H
                     obtain rfl := Option.some.inj H
                     obtain ⟨hcz42_0, hcz42_1, hcz42_2, hcz42_3, hcz42_4, hcz42_5, hfz42_0, hfz42_1, hfz42_2, hfz42_3, hfz42_4, hfz42_5⟩ := cellsZ6 BK101.out
                     go_wp2_with (first | ((with_reducible refine gate_callee (f := 111) rfl ?_); refine goesL_ (some 83) rfl rfl Tryd.func111 (by kernel_rfl) rfl #[.int .i64 a0_2] rfl zee81 ?_; (with_reducible refine (impl_isValue.calls a0_2 false _ A36.out).mono ?_); rintro e w' ⟨rfl, ⟨nd, rfl⟩⟩; refine ⟨_, rfl, ?_⟩))
                     go_ret
                     exact ⟨z674d, zcb41⟩

end Go.Proofs.YtkgmoajdcibafaaDoor.P

-- written by a program of this session's (wip/pp)
namespace Go.Proofs.YtkgmoajdcibafaaDoor.P
open Go.RowKit Go.Proofs.YtkgmoajdcibafaaDoorW.PrintWords Go.Proofs.YtkgmoajdcibafaaDoorW.PrintLast Go.Proofs.YtkgmoajdcibafaaDoorW.PrintMore
attribute [local go_sem] max2_int min2_int max_two min_two max_three min_three max_four min_four str_geq str_gtr str_leq   -- for this text's walks alone
set_option linter.unusedVariables false
set_option linter.unusedSimpArgs false

/-! ### impl_GoodBoard: function 46 -/
mutual
def impl_GoodBoard.j0 : Nat → Bool → Int → Int → Int → List (S37) → Option (Bool)
 | 0, _, _, _, _, _ => none
 | k + 1, x26, x102000, x102001, x102002, x102003 => if x26 = true then (some false) else (impl_GoodBoard.l0 k x102003 (x102003.length : Int) 0 x102000 x102001 x102002 x102003)
def impl_GoodBoard.l0 : Nat → List (S37) → Int → Int → Int → Int → Int → List (S37) → Option (Bool)
 | 0, _, _, _, _, _, _, _ => none
 | k + 1, x28, x29, x30, x102000, x102001, x102002, x102003 => if x30 < x29 then (if 0 ≤ x30 then (if x30 < (x28.length : Int) then ((impl_GoodKey.f k ((rd_T37 x28 x30).f0.f0) ((rd_T37 x28 x30).f0.f1) ((rd_T37 x28 x30).f0.f2)).bind fun t107 => (if t107 = true then (if x102000 = 0 then (none) else (if (Int.tmod ((rd_T37 x28 x30).f0.f2) x102000) = 0 then ((impl_GoodAgg.f k ((rd_T37 x28 x30).f1.f0) ((rd_T37 x28 x30).f1.f1) ((rd_T37 x28 x30).f1.f2) ((rd_T37 x28 x30).f1.f3) ((rd_T37 x28 x30).f1.f4) ((rd_T37 x28 x30).f1.f5)).bind fun t108 => (if t108 = true then (if ((rd_T37 x28 x30).f1.f0) = 0 then (impl_GoodBoard.j2 k x30 x28 x29 x30 true x102000 x102001 x102002 x102003 ((rd_T37 x28 x30).f0.f0) ((rd_T37 x28 x30).f0.f1) ((rd_T37 x28 x30).f0.f2) ((rd_T37 x28 x30).f1.f0) ((rd_T37 x28 x30).f1.f1) ((rd_T37 x28 x30).f1.f2) ((rd_T37 x28 x30).f1.f3) ((rd_T37 x28 x30).f1.f4) ((rd_T37 x28 x30).f1.f5) ((rd_T37 x28 x30).f2) ((rd_T37 x28 x30).f3)) else ((impl_within.f ((rd_T37 x28 x30).f2) 0 1000000).bind fun t109 => (if t109 = true then (if ((rd_T37 x28 x30).f2) = 0 then (impl_GoodBoard.j2 k x30 x28 x29 x30 (!((rd_T37 x28 x30).f3)) x102000 x102001 x102002 x102003 ((rd_T37 x28 x30).f0.f0) ((rd_T37 x28 x30).f0.f1) ((rd_T37 x28 x30).f0.f2) ((rd_T37 x28 x30).f1.f0) ((rd_T37 x28 x30).f1.f1) ((rd_T37 x28 x30).f1.f2) ((rd_T37 x28 x30).f1.f3) ((rd_T37 x28 x30).f1.f4) ((rd_T37 x28 x30).f1.f5) ((rd_T37 x28 x30).f2) ((rd_T37 x28 x30).f3)) else (impl_GoodBoard.j2 k x30 x28 x29 x30 false x102000 x102001 x102002 x102003 ((rd_T37 x28 x30).f0.f0) ((rd_T37 x28 x30).f0.f1) ((rd_T37 x28 x30).f0.f2) ((rd_T37 x28 x30).f1.f0) ((rd_T37 x28 x30).f1.f1) ((rd_T37 x28 x30).f1.f2) ((rd_T37 x28 x30).f1.f3) ((rd_T37 x28 x30).f1.f4) ((rd_T37 x28 x30).f1.f5) ((rd_T37 x28 x30).f2) ((rd_T37 x28 x30).f3))) else (impl_GoodBoard.j2 k x30 x28 x29 x30 true x102000 x102001 x102002 x102003 ((rd_T37 x28 x30).f0.f0) ((rd_T37 x28 x30).f0.f1) ((rd_T37 x28 x30).f0.f2) ((rd_T37 x28 x30).f1.f0) ((rd_T37 x28 x30).f1.f1) ((rd_T37 x28 x30).f1.f2) ((rd_T37 x28 x30).f1.f3) ((rd_T37 x28 x30).f1.f4) ((rd_T37 x28 x30).f1.f5) ((rd_T37 x28 x30).f2) ((rd_T37 x28 x30).f3))))) else (impl_GoodBoard.j2 k x30 x28 x29 x30 true x102000 x102001 x102002 x102003 ((rd_T37 x28 x30).f0.f0) ((rd_T37 x28 x30).f0.f1) ((rd_T37 x28 x30).f0.f2) ((rd_T37 x28 x30).f1.f0) ((rd_T37 x28 x30).f1.f1) ((rd_T37 x28 x30).f1.f2) ((rd_T37 x28 x30).f1.f3) ((rd_T37 x28 x30).f1.f4) ((rd_T37 x28 x30).f1.f5) ((rd_T37 x28 x30).f2) ((rd_T37 x28 x30).f3)))) else (impl_GoodBoard.j2 k x30 x28 x29 x30 true x102000 x102001 x102002 x102003 ((rd_T37 x28 x30).f0.f0) ((rd_T37 x28 x30).f0.f1) ((rd_T37 x28 x30).f0.f2) ((rd_T37 x28 x30).f1.f0) ((rd_T37 x28 x30).f1.f1) ((rd_T37 x28 x30).f1.f2) ((rd_T37 x28 x30).f1.f3) ((rd_T37 x28 x30).f1.f4) ((rd_T37 x28 x30).f1.f5) ((rd_T37 x28 x30).f2) ((rd_T37 x28 x30).f3)))) else (impl_GoodBoard.j2 k x30 x28 x29 x30 true x102000 x102001 x102002 x102003 ((rd_T37 x28 x30).f0.f0) ((rd_T37 x28 x30).f0.f1) ((rd_T37 x28 x30).f0.f2) ((rd_T37 x28 x30).f1.f0) ((rd_T37 x28 x30).f1.f1) ((rd_T37 x28 x30).f1.f2) ((rd_T37 x28 x30).f1.f3) ((rd_T37 x28 x30).f1.f4) ((rd_T37 x28 x30).f1.f5) ((rd_T37 x28 x30).f2) ((rd_T37 x28 x30).f3)))) else (none)) else (none)) else (some true)
def impl_GoodBoard.j2 : Nat → Int → List (S37) → Int → Int → Bool → Int → Int → Int → List (S37) → ByteArray → List (S123) → Int → Int → Int → Int → Int → List Int → Bool → Int → Bool → Option (Bool)
 | 0, _, _, _, _, _, _, _, _, _, _, _, _, _, _, _, _, _, _, _, _ => none
 | k + 1, x3, x28, x29, x30, x75, x102000, x102001, x102002, x102003, x107000, x107001, x107002, x107003, x107004, x107005, x107006, x107007, x107008, x107009, x107010 => if x75 = true then (some false) else (if x3 > 0 then (if 0 ≤ (wrap64 (x3 - 1)) then (if (wrap64 (x3 - 1)) < (x102003.length : Int) then ((impl_CompareKeys.f k ((rd_T37 x102003 (wrap64 (x3 - 1))).f0.f0) ((rd_T37 x102003 (wrap64 (x3 - 1))).f0.f1) ((rd_T37 x102003 (wrap64 (x3 - 1))).f0.f2) x107000 x107001 x107002).bind fun t111 => (if t111 ≥ 0 then (some false) else (impl_GoodBoard.l0 k x28 x29 (wrap64 (x30 + 1)) x102000 x102001 x102002 x102003))) else (none)) else (none)) else (impl_GoodBoard.l0 k x28 x29 (wrap64 (x30 + 1)) x102000 x102001 x102002 x102003))
end
def impl_GoodBoard.f (k : Nat) (a0_0 : Int) (a0_1 : Int) (a0_2 : Int) (l0_3 : List (S37)) : Option (Bool) := (impl_isSize.f a0_0).bind fun t102 => (if t102 = true then ((impl_within.f a0_1 0 1000000).bind fun t103 => (if t103 = true then ((impl_isTime.f a0_2).bind fun t104 => (if t104 = true then (impl_GoodBoard.j0 k (decide ((l0_3.length : Int) > 40)) a0_0 a0_1 a0_2 l0_3) else (impl_GoodBoard.j0 k true a0_0 a0_1 a0_2 l0_3))) else (impl_GoodBoard.j0 k true a0_0 a0_1 a0_2 l0_3))) else (impl_GoodBoard.j0 k true a0_0 a0_1 a0_2 l0_3))
theorem impl_GoodBoard.mono_l : ∀ k, (∀ y0 y1 y2 y3 y4, LeO (impl_GoodBoard.j0 k y0 y1 y2 y3 y4) (impl_GoodBoard.j0 (k + 1) y0 y1 y2 y3 y4)) ∧ (∀ y0 y1 y2 y3 y4 y5 y6, LeO (impl_GoodBoard.l0 k y0 y1 y2 y3 y4 y5 y6) (impl_GoodBoard.l0 (k + 1) y0 y1 y2 y3 y4 y5 y6)) ∧ (∀ y0 y1 y2 y3 y4 y5 y6 y7 y8 y9 y10 y11 y12 y13 y14 y15 y16 y17 y18 y19, LeO (impl_GoodBoard.j2 k y0 y1 y2 y3 y4 y5 y6 y7 y8 y9 y10 y11 y12 y13 y14 y15 y16 y17 y18 y19) (impl_GoodBoard.j2 (k + 1) y0 y1 y2 y3 y4 y5 y6 y7 y8 y9 y10 y11 y12 y13 y14 y15 y16 y17 y18 y19))
 | 0 => ⟨fun _ _ _ _ _ r h => by simp [impl_GoodBoard.j0] at h, fun _ _ _ _ _ _ _ r h => by simp [impl_GoodBoard.l0] at h, fun _ _ _ _ _ _ _ _ _ _ _ _ _ _ _ _ _ _ _ _ r h => by simp [impl_GoodBoard.j2] at h⟩
 | k + 1 => by
  obtain ⟨ih0, ih1, ih2⟩ := impl_GoodBoard.mono_l k
  refine ⟨?_, ?_, ?_⟩
  · intro y0 y1 y2 y3 y4
    unfold impl_GoodBoard.j0
    repeat' first
     | (with_reducible first | exact ih0 .. | exact ih1 .. | exact ih2 .. | exact impl_CompareKeys.mono .. | exact impl_GoodAgg.mono .. | exact impl_GoodKey.mono .. | exact LeO.refl _ | exact LeO.none _ | refine LeO.ite ?_ ?_ | refine LeO.bind ?_ (fun _ => ?_))
     | exact LeO.none _
     | refine LeO.ite ?_ ?_
     | refine LeO.bind ?_ (fun _ => ?_)
  · intro y0 y1 y2 y3 y4 y5 y6
    unfold impl_GoodBoard.l0
    repeat' first
     | (with_reducible first | exact ih0 .. | exact ih1 .. | exact ih2 .. | exact impl_CompareKeys.mono .. | exact impl_GoodAgg.mono .. | exact impl_GoodKey.mono .. | exact LeO.refl _ | exact LeO.none _ | refine LeO.ite ?_ ?_ | refine LeO.bind ?_ (fun _ => ?_))
     | exact LeO.none _
     | refine LeO.ite ?_ ?_
     | refine LeO.bind ?_ (fun _ => ?_)
  · intro y0 y1 y2 y3 y4 y5 y6 y7 y8 y9 y10 y11 y12 y13 y14 y15 y16 y17 y18 y19
    unfold impl_GoodBoard.j2
    repeat' first
     | (with_reducible first | exact ih0 .. | exact ih1 .. | exact ih2 .. | exact impl_CompareKeys.mono .. | exact impl_GoodAgg.mono .. | exact impl_GoodKey.mono .. | exact LeO.refl _ | exact LeO.none _ | refine LeO.ite ?_ ?_ | refine LeO.bind ?_ (fun _ => ?_))
     | exact LeO.none _
     | refine LeO.ite ?_ ?_
     | refine LeO.bind ?_ (fun _ => ?_)
theorem impl_GoodBoard.mono : ∀ a0 a1 a2 a3 k, LeO (impl_GoodBoard.f k a0 a1 a2 a3) (impl_GoodBoard.f (k + 1) a0 a1 a2 a3) := by
 intro a0 a1 a2 a3 k
 obtain ⟨ih0, ih1, ih2⟩ := impl_GoodBoard.mono_l k
 unfold impl_GoodBoard.f
 repeat' first
  | (with_reducible first | exact ih0 .. | exact ih1 .. | exact ih2 .. | exact impl_CompareKeys.mono .. | exact impl_GoodAgg.mono .. | exact impl_GoodKey.mono .. | exact LeO.refl _ | exact LeO.none _ | refine LeO.ite ?_ ?_ | refine LeO.bind ?_ (fun _ => ?_))
  | exact LeO.none _
  | refine LeO.ite ?_ ?_
  | refine LeO.bind ?_ (fun _ => ?_)
def impl_GoodBoard.T8 : Bool × List (List Nat × List Nat) := (true, [([], []), ([0], [0]), ([1], [1]), ([2], [2]), ([3, 2], [2, 3]), ([2], [2]), ([5, 2], [2, 5]), ([4, 6, 2], [2, 4, 6]), ([7, 2], [2, 7]), ([8, 2], [2, 8]), ([2], [2]), ([10, 2], [2, 10]), ([9, 11, 2, 2], [2, 9, 11]), ([12, 2], [2, 12]), ([2, 13], [2, 13])])
def impl_GoodBoard.B8 : List Nat := [0, 1, 3, 7, 15, 7, 39, 127, 255, 511, 7, 1031, 4095, 8191, 16383]
theorem impl_GoodBoard.tab8 : rtab .any (opsOf Tryd.f46 8) = impl_GoodBoard.T8 := by kernel_rfl
theorem impl_GoodBoard.bits8 : waitsOk impl_GoodBoard.T8.2 impl_GoodBoard.B8 = true := by kernel_rfl
set_option maxHeartbeats 8000000 in
set_option maxRecDepth 100000 in
theorem impl_GoodBoard.calls (k : Nat) (a0_0 : Int) (a0_1 : Int) (a0_2 : Int) (A0_3 : Option Addr) (c0_3 : Nat) (l0_3 : List (S37)) (r : Bool) (w : World) (hr0_3 : Kd.C k37 w A0_3 l0_3.length l0_3) (hc0_3 : l0_3.length ≤ c0_3) (h : impl_GoodBoard.f k a0_0 a0_1 a0_2 l0_3 = some r) :
 Calls Tryd.prog 46 #[.agg #[.int .i64 a0_0, .int .i64 a0_1, .int .i64 a0_2, .slice A0_3 l0_3.length c0_3]] w fun e w' => e = .returned (.bool r) ∧ Below w.heap.size w w' := by
 have hu42 := Tryd.underlying42
 have hu37 := Tryd.underlying37
 have hu32 := Tryd.underlying32
 have hu35 := Tryd.underlying35
 have HR0_3 := aM hr0_3
 have HC0_3 := aM hc0_3
 clear hr0_3 hc0_3
 have HB := aM (Below.refl w.heap.size w)
 have H : ((impl_isSize.f a0_0).bind fun t102 => (if t102 = true then ((impl_within.f a0_1 0 1000000).bind fun t103 => (if t103 = true then ((impl_isTime.f a0_2).bind fun t104 => (if t104 = true then (impl_GoodBoard.j0 k (decide ((l0_3.length : Int) > 40)) a0_0 a0_1 a0_2 l0_3) else (impl_GoodBoard.j0 k true a0_0 a0_1 a0_2 l0_3))) else (impl_GoodBoard.j0 k true a0_0 a0_1 a0_2 l0_3))) else (impl_GoodBoard.j0 k true a0_0 a0_1 a0_2 l0_3))) = some r := h
 clear h
 have HC2 := aM H
 clear H
 go_enter Tryd.func46, Tryd.ntmps46
 go_upto_region 1 with (first | ((with_reducible refine gate_dst (N := 1) rfl ?_); (try (refine gate_guard (by rfl) ?_; dsimp only)); refine box_event ?hg (N := 1) ?hd (cs := #[.int .i64 a0_0, .int .i64 a0_1, .int .i64 a0_2, .slice A0_3 l0_3.length c0_3]) (t := 42) ?hr ?_; (case hd => rfl); (case hg => rfl); (case hr => first | (go_simp; done) | (go_simp; rfl)); intro gb101 hg w3 hbox hb; have _ := aM (below_step hbZ hb); have _ := aM hbox; have _ := szZ hg; have _ := szZ hg; clear HB; rename_i HB BK101 GW101 GE101; clear hb hbox hg))
 (try simp only [Act.put, List.setIfInBounds_toArray, List.set_cons_zero, List.set_cons_succ])
 go_cut [26] (fun v26 wc => ∃ (kq : Nat) (x26_1 : Bool), v26 = .bool x26_1 ∧ Aside0 (impl_GoodBoard.j0 kq x26_1 a0_0 a0_1 a0_2 l0_3 = some r) ∧ Aside0 (kq ≤ k) ∧ Aside0 (wc.heap[gb101]? = some (.cells #[.int .i64 a0_0, .int .i64 a0_1, .int .i64 a0_2, (.slice A0_3 l0_3.length c0_3)] 42 (0, 0))) ∧ Aside0 (Below w.heap.size w wc))
 case first =>
  have H := HC2.out
  clear HC2
  replace H := Option.bind_eq_some_iff.mp H
  obtain ⟨t102, A40, H⟩ := H
  try dsimp only at H
  have A4 := aM A40
  clear A40
  by_cases c5 : t102 = true
  · subst c5
    rw [if_pos rfl] at H
    replace H := Option.bind_eq_some_iff.mp H
    obtain ⟨t103, A60, H⟩ := H
    try dsimp only at H
    have A6 := aM A60
    clear A60
    by_cases c7 : t103 = true
    · subst c7
      rw [if_pos rfl] at H
      replace H := Option.bind_eq_some_iff.mp H
      obtain ⟨t104, A80, H⟩ := H
      try dsimp only at H
      have A8 := aM A80
      clear A80
      by_cases c9 : t104 = true
      · subst c9
        rw [if_pos rfl] at H
        have H' := aM H
        clear H
        obtain ⟨hcz10_0, hcz10_1, hcz10_2, hcz10_3, hfz10_0, hfz10_1, hfz10_2, hfz10_3⟩ := cellsZ4 BK101.out
        go_wp2_with (first | ((with_reducible refine gate_callee (f := 89) rfl ?_); refine goesL_ (some 7) rfl rfl Tryd.func89 (by kernel_rfl) rfl #[.int .i64 a0_0] rfl zee81 ?_; (with_reducible refine (impl_isSize.calls a0_0 true _ A4.out).mono ?_); rintro e w' ⟨rfl, ⟨nd, rfl⟩⟩; refine ⟨_, rfl, ?_⟩) | (go_at_call 90; (with_reducible refine (impl_within.calls a0_1 0 1000000 true _ A6.out).mono ?_); rintro e w' ⟨rfl, ⟨nd, rfl⟩⟩) | (go_at_call 60; (with_reducible refine (impl_isTime.calls a0_2 true _ A8.out).mono ?_); rintro e w' ⟨rfl, ⟨nd, rfl⟩⟩))
        go_meet
        case rel => exact ⟨_, (decide ((l0_3.length : Int) > 40)), z4458, H', ⟨zb79b⟩, ⟨bkZ⟩, ⟨zcb41⟩⟩
      · replace c9 := Bool.eq_false_iff.mpr c9
        subst c9
        rw [if_neg (show ¬ (false = true) by decide)] at H
        have H' := aM H
        clear H
        obtain ⟨hcz11_0, hcz11_1, hcz11_2, hcz11_3, hfz11_0, hfz11_1, hfz11_2, hfz11_3⟩ := cellsZ4 BK101.out
        go_wp2_with (first | ((with_reducible refine gate_callee (f := 89) rfl ?_); refine goesL_ (some 7) rfl rfl Tryd.func89 (by kernel_rfl) rfl #[.int .i64 a0_0] rfl zee81 ?_; (with_reducible refine (impl_isSize.calls a0_0 true _ A4.out).mono ?_); rintro e w' ⟨rfl, ⟨nd, rfl⟩⟩; refine ⟨_, rfl, ?_⟩) | (go_at_call 90; (with_reducible refine (impl_within.calls a0_1 0 1000000 true _ A6.out).mono ?_); rintro e w' ⟨rfl, ⟨nd, rfl⟩⟩) | (go_at_call 60; (with_reducible refine (impl_isTime.calls a0_2 false _ A8.out).mono ?_); rintro e w' ⟨rfl, ⟨nd, rfl⟩⟩))
        go_meet
        case rel => exact ⟨_, (true), z4458, H', ⟨zb79b⟩, ⟨bkZ⟩, ⟨zcb41⟩⟩
    · replace c7 := Bool.eq_false_iff.mpr c7
      subst c7
      rw [if_neg (show ¬ (false = true) by decide)] at H
      have H' := aM H
      clear H
      obtain ⟨hcz12_0, hcz12_1, hcz12_2, hcz12_3, hfz12_0, hfz12_1, hfz12_2, hfz12_3⟩ := cellsZ4 BK101.out
      go_wp2_with (first | ((with_reducible refine gate_callee (f := 89) rfl ?_); refine goesL_ (some 7) rfl rfl Tryd.func89 (by kernel_rfl) rfl #[.int .i64 a0_0] rfl zee81 ?_; (with_reducible refine (impl_isSize.calls a0_0 true _ A4.out).mono ?_); rintro e w' ⟨rfl, ⟨nd, rfl⟩⟩; refine ⟨_, rfl, ?_⟩) | (go_at_call 90; (with_reducible refine (impl_within.calls a0_1 0 1000000 false _ A6.out).mono ?_); rintro e w' ⟨rfl, ⟨nd, rfl⟩⟩))
      go_meet
      case rel => exact ⟨_, (true), z4458, H', ⟨zb79b⟩, ⟨bkZ⟩, ⟨zcb41⟩⟩
  · replace c5 := Bool.eq_false_iff.mpr c5
    subst c5
    rw [if_neg (show ¬ (false = true) by decide)] at H
    have H' := aM H
    clear H
    obtain ⟨hcz13_0, hcz13_1, hcz13_2, hcz13_3, hfz13_0, hfz13_1, hfz13_2, hfz13_3⟩ := cellsZ4 BK101.out
    go_wp2_with (first | ((with_reducible refine gate_callee (f := 89) rfl ?_); refine goesL_ (some 7) rfl rfl Tryd.func89 (by kernel_rfl) rfl #[.int .i64 a0_0] rfl zee81 ?_; (with_reducible refine (impl_isSize.calls a0_0 false _ A4.out).mono ?_); rintro e w' ⟨rfl, ⟨nd, rfl⟩⟩; refine ⟨_, rfl, ?_⟩))
    go_meet
    case rel => exact ⟨_, (true), z4458, H', ⟨zb79b⟩, ⟨bkZ⟩, ⟨zcb41⟩⟩
 case rest =>
  clear HC2
  try clear p2
  try clear c4
  try clear c5
  try clear c7
  try clear c8
  try clear c9
  try clear hcz10_0 hcz10_1 hcz10_2 hcz10_3
  try clear hcz11_0 hcz11_1 hcz11_2 hcz11_3
  try clear hcz12_0 hcz12_1 hcz12_2 hcz12_3
  try clear hcz13_0 hcz13_1 hcz13_2 hcz13_3
  try clear hfz10_0 hfz10_1 hfz10_2 hfz10_3
  try clear hfz11_0 hfz11_1 hfz11_2 hfz11_3
  try clear hfz12_0 hfz12_1 hfz12_2 hfz12_3
  try clear hfz13_0 hfz13_1 hfz13_2 hfz13_3
  obtain ⟨kq, x26_1, rfl, HA, HJ1, BK101, HB⟩ := hcut
  cases kq with
  | zero => exact absurd HA.out (by simp [impl_GoodBoard.j0])
  | succ kj1 =>
   have H := HA.out
   clear HA
   simp only [impl_GoodBoard.j0] at H
   by_cases c14 : x26_1 = true
   · subst c14
     rw [if_pos rfl] at H
     obtain rfl := Option.some.inj H
     go_wp2
     go_ret
     exact ⟨z674d, zcb41⟩
   · replace c14 := Bool.eq_false_iff.mpr c14
     subst c14
     rw [if_neg (show ¬ (false = true) by decide)] at H
     have H' := aM H
     clear H
     obtain ⟨hcz15_0, hcz15_1, hcz15_2, hcz15_3, hfz15_0, hfz15_1, hfz15_2, hfz15_3⟩ := cellsZ4 BK101.out
     go_wp2
     go_loopg [30] kj1 (fun kq v30 w' => ∃ (x30_2 : Int), v30 = .int .i64 x30_2 ∧ Aside0 (impl_GoodBoard.l0 kq l0_3 (l0_3.length : Int) x30_2 a0_0 a0_1 a0_2 l0_3 = some r) ∧ Aside0 (kq ≤ kj1) ∧ Aside0 (w'.heap[gb101]? = some (.cells #[.int .i64 a0_0, .int .i64 a0_1, .int .i64 a0_2, (.slice A0_3 l0_3.length c0_3)] 42 (0, 0))) ∧ Aside0 (Below w.heap.size w w'))
     case atStart => exact ⟨(0), z4458, H', ⟨Nat.le_refl _⟩, ⟨bkZ⟩, ⟨zcb41⟩⟩
     case round =>
      clear H'
      try clear c1
      try clear p2
      try clear c4
      try clear c5
      try clear c7
      try clear c8
      try clear c9
      try clear c14
      try clear hcz10_0 hcz10_1 hcz10_2 hcz10_3
      try clear hcz11_0 hcz11_1 hcz11_2 hcz11_3
      try clear hcz12_0 hcz12_1 hcz12_2 hcz12_3
      try clear hcz13_0 hcz13_1 hcz13_2 hcz13_3
      try clear hcz15_0 hcz15_1 hcz15_2 hcz15_3
      try clear hfz10_0 hfz10_1 hfz10_2 hfz10_3
      try clear hfz11_0 hfz11_1 hfz11_2 hfz11_3
      try clear hfz12_0 hfz12_1 hfz12_2 hfz12_3
      try clear hfz13_0 hfz13_1 hfz13_2 hfz13_3
      try clear hfz15_0 hfz15_1 hfz15_2 hfz15_3
      try clear p2
      obtain ⟨x30_2, rfl, HA, HK2, BK101, HB⟩ := hrel
      cases gk with
      | zero => exact absurd HA.out (by simp [impl_GoodBoard.l0])
      | succ k2 =>
       have H := HA.out
       clear HA
       simp only [impl_GoodBoard.l0] at H
       by_cases c16 : x30_2 < (l0_3.length : Int)
       · rw [if_pos c16] at H
         have c16b0 : decide (x30_2 < (l0_3.length : Int)) = true := decide_eq_true c16
         clear c16
         replace H := ifS H; obtain ⟨c17, H⟩ := H
         have c17b0 : decide (0 ≤ x30_2) = true := decide_eq_true c17
         clear c17
         replace H := ifS H; obtain ⟨c18, H⟩ := H
         have c18b0 : decide (x30_2 < (l0_3.length : Int)) = true := decide_eq_true c18
         clear c18
         have HC19 := aM H
         clear H
         have p105 : 0 ≤ (x30_2 : Int) := of_decide_eq_true z1200
         have q105 : x30_2 < (l0_3.length : Int) := of_decide_eq_true z1200
         obtain ⟨ad105, A105_1, c105_1, A105_7, c105_7, e105, hx105_0, hx105_1, hx105_2, hx105_3, hx105_4, hx105_5, hx105_6, hx105_7, hx105_8, hx105_9, hx105_10, hl105_1, hi105_1, hl105_7, hi105_7⟩ := at_T37 HR0_3.out x30_2 p105 q105
         cases e105
         have TW105_1 := aM hx105_1
         have TW105_7 := aM hx105_7
         replace hx105_0 := (HB.out.cell (World.block_lt_of_cell? w _ hx105_0)).trans hx105_0
         replace hx105_1 := (HB.out.cell (World.block_lt_of_cell? w _ hx105_1)).trans hx105_1
         replace hx105_2 := (HB.out.cell (World.block_lt_of_cell? w _ hx105_2)).trans hx105_2
         replace hx105_3 := (HB.out.cell (World.block_lt_of_cell? w _ hx105_3)).trans hx105_3
         replace hx105_4 := (HB.out.cell (World.block_lt_of_cell? w _ hx105_4)).trans hx105_4
         replace hx105_5 := (HB.out.cell (World.block_lt_of_cell? w _ hx105_5)).trans hx105_5
         replace hx105_6 := (HB.out.cell (World.block_lt_of_cell? w _ hx105_6)).trans hx105_6
         replace hx105_7 := (HB.out.cell (World.block_lt_of_cell? w _ hx105_7)).trans hx105_7
         replace hx105_8 := (HB.out.cell (World.block_lt_of_cell? w _ hx105_8)).trans hx105_8
         replace hx105_9 := (HB.out.cell (World.block_lt_of_cell? w _ hx105_9)).trans hx105_9
         replace hx105_10 := (HB.out.cell (World.block_lt_of_cell? w _ hx105_10)).trans hx105_10
         have HR105_1 := aM hi105_1
         have HC105_1 := aM hl105_1
         clear hi105_1 hl105_1
         have HR105_7 := aM hi105_7
         have HC105_7 := aM hl105_7
         clear hi105_7 hl105_7
         replace p105 := eq_true p105
         replace q105 := eq_true q105
         go_upto_region 6 with (first | ((with_reducible refine gate_dst (N := 4) rfl ?_); (try (refine gate_guard (by rfl) ?_; dsimp only)); refine box_event ?hg (N := 4) ?hd (cs := #[.string (⟨#[]⟩ : ByteArray), .slice none 0 0, .int .i64 0, .int .i64 0, .int .i64 0, .int .i64 0, .int .i64 0, .slice none 0 0, .bool false, .int .i64 0, .bool false]) (t := 37) ?hr ?_; (case hd => rfl); (case hg => rfl); (case hr => first | (go_simp; done) | (go_simp; rfl)); intro gb106 hg w20 hbox hb; have _ := bB gb101 hb; have _ := aM (below_step hbZ hb); have _ := aM hbox; have _ := szZ hg; have _ := szZ hg; have ⟨_, _⟩ := nbB gb101 hg; clear BK101 HB; rename_i BK101 HB BK106 GW106 GE106 NB101_106 NB106_101; clear hb hbox hg; have hnb21 := NB106_101.out; have hnc21 := NB101_106.out; obtain ⟨hcz22_0, hcz22_1, hcz22_2, hcz22_3, hcz22_4, hcz22_5, hcz22_6, hcz22_7, hcz22_8, hcz22_9, hcz22_10, hfz22_0, hfz22_1, hfz22_2, hfz22_3, hfz22_4, hfz22_5, hfz22_6, hfz22_7, hfz22_8, hfz22_9, hfz22_10⟩ := cellsZ11 BK106.out))
         (try simp only [Act.put, List.setIfInBounds_toArray, List.set_cons_zero, List.set_cons_succ])
         go_cut [75] (fun v75 wc => ∃ (kq : Nat) (x75_18 : Bool), v75 = .bool x75_18 ∧ Aside0 (impl_GoodBoard.j2 kq x30_2 l0_3 (l0_3.length : Int) x30_2 x75_18 a0_0 a0_1 a0_2 l0_3 ((rd_T37 l0_3 x30_2).f0.f0) ((rd_T37 l0_3 x30_2).f0.f1) ((rd_T37 l0_3 x30_2).f0.f2) ((rd_T37 l0_3 x30_2).f1.f0) ((rd_T37 l0_3 x30_2).f1.f1) ((rd_T37 l0_3 x30_2).f1.f2) ((rd_T37 l0_3 x30_2).f1.f3) ((rd_T37 l0_3 x30_2).f1.f4) ((rd_T37 l0_3 x30_2).f1.f5) ((rd_T37 l0_3 x30_2).f2) ((rd_T37 l0_3 x30_2).f3) = some r) ∧ Aside0 (kq ≤ k2) ∧ Aside0 (wc.heap[gb101]? = some (.cells #[.int .i64 a0_0, .int .i64 a0_1, .int .i64 a0_2, (.slice (some ad105) l0_3.length c0_3)] 42 (0, 0))) ∧ Aside0 (wc.heap[gb106]? = some (.cells #[.string ((rd_T37 l0_3 x30_2).f0.f0), (.slice A105_1 ((rd_T37 l0_3 x30_2).f0.f1).length c105_1), .int .i64 ((rd_T37 l0_3 x30_2).f0.f2), .int .i64 ((rd_T37 l0_3 x30_2).f1.f0), .int .i64 ((rd_T37 l0_3 x30_2).f1.f1), .int .i64 ((rd_T37 l0_3 x30_2).f1.f2), .int .i64 ((rd_T37 l0_3 x30_2).f1.f3), (.slice A105_7 ((rd_T37 l0_3 x30_2).f1.f4).length c105_7), .bool ((rd_T37 l0_3 x30_2).f1.f5), .int .i64 ((rd_T37 l0_3 x30_2).f2), .bool ((rd_T37 l0_3 x30_2).f3)] 37 (0, 0))) ∧ Aside0 (Below w.heap.size w wc))
         case first =>
          have H := HC19.out
          clear HC19
          replace H := Option.bind_eq_some_iff.mp H
          obtain ⟨t107, A230, H⟩ := H
          try dsimp only at H
          have A23 := aM A230
          clear A230
          by_cases c24 : t107 = true
          · subst c24
            rw [if_pos rfl] at H
            replace H := ifN H; obtain ⟨c25, H⟩ := H
            have c25b0 : (a0_0 == 0) = false := beq_eq_false_iff_ne.mpr c25
            have c25b1 : (a0_0 != 0) = true := bne_iff_ne.mpr c25
            (first | rw [c25b0] | (simp only [i64_w, i32_w]; rw [c25b0]) | skip)
            by_cases c26 : (Int.tmod ((rd_T37 l0_3 x30_2).f0.f2) a0_0) = 0
            · rw [if_pos c26] at H
              have c26b0 : ((Int.tmod ((rd_T37 l0_3 x30_2).f0.f2) a0_0) == 0) = true := beq_iff_eq.mpr c26
              have c26b1 : ((Int.tmod ((rd_T37 l0_3 x30_2).f0.f2) a0_0) != 0) = false := bne_eq_false_iff_eq.mpr c26
              clear c26
              replace H := Option.bind_eq_some_iff.mp H
              obtain ⟨t108, A270, H⟩ := H
              try dsimp only at H
              have A27 := aM A270
              clear A270
              by_cases c28 : t108 = true
              · subst c28
                rw [if_pos rfl] at H
                by_cases c29 : ((rd_T37 l0_3 x30_2).f1.f0) = 0
                · rw [if_pos c29] at H
                  have c29b0 : (((rd_T37 l0_3 x30_2).f1.f0) == 0) = true := beq_iff_eq.mpr c29
                  have c29b1 : (((rd_T37 l0_3 x30_2).f1.f0) != 0) = false := bne_eq_false_iff_eq.mpr c29
                  clear c29
                  have H' := aM H
                  clear H
                  have hnb30 := NB106_101.out
                  have hnc30 := NB101_106.out
                  obtain ⟨hcz31_0, hcz31_1, hcz31_2, hcz31_3, hcz31_4, hcz31_5, hcz31_6, hcz31_7, hcz31_8, hcz31_9, hcz31_10, hfz31_0, hfz31_1, hfz31_2, hfz31_3, hfz31_4, hfz31_5, hfz31_6, hfz31_7, hfz31_8, hfz31_9, hfz31_10⟩ := cellsZ11 BK106.out
                  go_wp2_with (first | ((with_reducible refine gate_callee (f := 47) rfl ?_); refine goesL_ (some 37) rfl rfl Tryd.func47 (by kernel_rfl) rfl #[.agg #[.string ((rd_T37 l0_3 x30_2).f0.f0), .slice A105_1 ((rd_T37 l0_3 x30_2).f0.f1).length c105_1, .int .i64 ((rd_T37 l0_3 x30_2).f0.f2)]] rfl zee81 ?_; (with_reducible refine (impl_GoodKey.calls k2 ((rd_T37 l0_3 x30_2).f0.f0) _ _ ((rd_T37 l0_3 x30_2).f0.f1) ((rd_T37 l0_3 x30_2).f0.f2) true _ ?side1 ?side2 A23.out).mono ?_); (case side1 => exact Kd.C_below HR105_1.out hbZ); (case side2 => exact HC105_1.out); rintro e w32 ⟨rfl, hb⟩; refine ⟨_, rfl, ?_⟩; have _ := bB gb101 hb; have _ := aM (blk_below (g := gb106) (o := .cells #[.string ((rd_T37 l0_3 x30_2).f0.f0), .slice A105_1 ((rd_T37 l0_3 x30_2).f0.f1).length c105_1, .int .i64 ((rd_T37 l0_3 x30_2).f0.f2), .int .i64 ((rd_T37 l0_3 x30_2).f1.f0), .int .i64 ((rd_T37 l0_3 x30_2).f1.f1), .int .i64 ((rd_T37 l0_3 x30_2).f1.f2), .int .i64 ((rd_T37 l0_3 x30_2).f1.f3), .slice A105_7 ((rd_T37 l0_3 x30_2).f1.f4).length c105_7, .bool ((rd_T37 l0_3 x30_2).f1.f5), .int .i64 ((rd_T37 l0_3 x30_2).f2), .bool ((rd_T37 l0_3 x30_2).f3)] 37 (0, 0)) bkZ hb); have _ := aM (below_step hbZ hb); clear BK101 BK106 HB; rename_i BK101 BK106 HB; (try clear hb); obtain ⟨hcz33_0, hcz33_1, hcz33_2, hcz33_3, hcz33_4, hcz33_5, hcz33_6, hcz33_7, hcz33_8, hcz33_9, hcz33_10, hfz33_0, hfz33_1, hfz33_2, hfz33_3, hfz33_4, hfz33_5, hfz33_6, hfz33_7, hfz33_8, hfz33_9, hfz33_10⟩ := cellsZ11 BK106.out; obtain ⟨hcz34_0, hcz34_1, hcz34_2, hcz34_3, hfz34_0, hfz34_1, hfz34_2, hfz34_3⟩ := cellsZ4 BK101.out) | (go_at_call 91; (with_reducible refine (impl_GoodAgg.calls k2 ((rd_T37 l0_3 x30_2).f1.f0) ((rd_T37 l0_3 x30_2).f1.f1) ((rd_T37 l0_3 x30_2).f1.f2) ((rd_T37 l0_3 x30_2).f1.f3) _ _ ((rd_T37 l0_3 x30_2).f1.f4) ((rd_T37 l0_3 x30_2).f1.f5) true _ ?side1 ?side2 A27.out).mono ?_); (case side1 => exact (cZ (Kd.C_below HR105_7.out HB.out))); (case side2 => exact HC105_7.out); rintro e w35 ⟨rfl, hb⟩; have _ := bB gb101 hb; have _ := bB gb106 hb; have _ := aM (below_step hbZ hb); clear BK101 BK106 HB; rename_i BK101 BK106 HB; (try clear hb); obtain ⟨hcz36_0, hcz36_1, hcz36_2, hcz36_3, hcz36_4, hcz36_5, hcz36_6, hcz36_7, hcz36_8, hcz36_9, hcz36_10, hfz36_0, hfz36_1, hfz36_2, hfz36_3, hfz36_4, hfz36_5, hfz36_6, hfz36_7, hfz36_8, hfz36_9, hfz36_10⟩ := cellsZ11 BK106.out))
                  go_meet
                  case rel => exact ⟨_, (true), z4458, H', ⟨zdc19⟩, ⟨bkZ⟩, ⟨bkZ⟩, ⟨zcb41⟩⟩
                · rw [if_neg c29] at H
                  have c29b0 : (((rd_T37 l0_3 x30_2).f1.f0) == 0) = false := beq_eq_false_iff_ne.mpr c29
                  have c29b1 : (((rd_T37 l0_3 x30_2).f1.f0) != 0) = true := bne_iff_ne.mpr c29
                  replace H := Option.bind_eq_some_iff.mp H
                  obtain ⟨t109, A370, H⟩ := H
                  try dsimp only at H
                  have A37 := aM A370
                  clear A370
                  by_cases c38 : t109 = true
                  · subst c38
                    rw [if_pos rfl] at H
                    by_cases c39 : ((rd_T37 l0_3 x30_2).f2) = 0
                    · rw [if_pos c39] at H
                      have c39b0 : (((rd_T37 l0_3 x30_2).f2) == 0) = true := beq_iff_eq.mpr c39
                      have c39b1 : (((rd_T37 l0_3 x30_2).f2) != 0) = false := bne_eq_false_iff_eq.mpr c39
                      clear c39
                      have H' := aM H
                      clear H
                      have hnb40 := NB106_101.out
                      have hnc40 := NB101_106.out
                      obtain ⟨hcz41_0, hcz41_1, hcz41_2, hcz41_3, hcz41_4, hcz41_5, hcz41_6, hcz41_7, hcz41_8, hcz41_9, hcz41_10, hfz41_0, hfz41_1, hfz41_2, hfz41_3, hfz41_4, hfz41_5, hfz41_6, hfz41_7, hfz41_8, hfz41_9, hfz41_10⟩ := cellsZ11 BK106.out
                      go_wp2_with (first | ((with_reducible refine gate_callee (f := 47) rfl ?_); refine goesL_ (some 37) rfl rfl Tryd.func47 (by kernel_rfl) rfl #[.agg #[.string ((rd_T37 l0_3 x30_2).f0.f0), .slice A105_1 ((rd_T37 l0_3 x30_2).f0.f1).length c105_1, .int .i64 ((rd_T37 l0_3 x30_2).f0.f2)]] rfl zee81 ?_; (with_reducible refine (impl_GoodKey.calls k2 ((rd_T37 l0_3 x30_2).f0.f0) _ _ ((rd_T37 l0_3 x30_2).f0.f1) ((rd_T37 l0_3 x30_2).f0.f2) true _ ?side1 ?side2 A23.out).mono ?_); (case side1 => exact Kd.C_below HR105_1.out hbZ); (case side2 => exact HC105_1.out); rintro e w42 ⟨rfl, hb⟩; refine ⟨_, rfl, ?_⟩; have _ := bB gb101 hb; have _ := aM (blk_below (g := gb106) (o := .cells #[.string ((rd_T37 l0_3 x30_2).f0.f0), .slice A105_1 ((rd_T37 l0_3 x30_2).f0.f1).length c105_1, .int .i64 ((rd_T37 l0_3 x30_2).f0.f2), .int .i64 ((rd_T37 l0_3 x30_2).f1.f0), .int .i64 ((rd_T37 l0_3 x30_2).f1.f1), .int .i64 ((rd_T37 l0_3 x30_2).f1.f2), .int .i64 ((rd_T37 l0_3 x30_2).f1.f3), .slice A105_7 ((rd_T37 l0_3 x30_2).f1.f4).length c105_7, .bool ((rd_T37 l0_3 x30_2).f1.f5), .int .i64 ((rd_T37 l0_3 x30_2).f2), .bool ((rd_T37 l0_3 x30_2).f3)] 37 (0, 0)) bkZ hb); have _ := aM (below_step hbZ hb); clear BK101 BK106 HB; rename_i BK101 BK106 HB; (try clear hb); obtain ⟨hcz43_0, hcz43_1, hcz43_2, hcz43_3, hcz43_4, hcz43_5, hcz43_6, hcz43_7, hcz43_8, hcz43_9, hcz43_10, hfz43_0, hfz43_1, hfz43_2, hfz43_3, hfz43_4, hfz43_5, hfz43_6, hfz43_7, hfz43_8, hfz43_9, hfz43_10⟩ := cellsZ11 BK106.out; obtain ⟨hcz44_0, hcz44_1, hcz44_2, hcz44_3, hfz44_0, hfz44_1, hfz44_2, hfz44_3⟩ := cellsZ4 BK101.out) | (go_at_call 91; (with_reducible refine (impl_GoodAgg.calls k2 ((rd_T37 l0_3 x30_2).f1.f0) ((rd_T37 l0_3 x30_2).f1.f1) ((rd_T37 l0_3 x30_2).f1.f2) ((rd_T37 l0_3 x30_2).f1.f3) _ _ ((rd_T37 l0_3 x30_2).f1.f4) ((rd_T37 l0_3 x30_2).f1.f5) true _ ?side1 ?side2 A27.out).mono ?_); (case side1 => exact (cZ (Kd.C_below HR105_7.out HB.out))); (case side2 => exact HC105_7.out); rintro e w45 ⟨rfl, hb⟩; have _ := bB gb101 hb; have _ := bB gb106 hb; have _ := aM (below_step hbZ hb); clear BK101 BK106 HB; rename_i BK101 BK106 HB; (try clear hb); obtain ⟨hcz46_0, hcz46_1, hcz46_2, hcz46_3, hcz46_4, hcz46_5, hcz46_6, hcz46_7, hcz46_8, hcz46_9, hcz46_10, hfz46_0, hfz46_1, hfz46_2, hfz46_3, hfz46_4, hfz46_5, hfz46_6, hfz46_7, hfz46_8, hfz46_9, hfz46_10⟩ := cellsZ11 BK106.out) | (go_at_call 90; (with_reducible refine (impl_within.calls ((rd_T37 l0_3 x30_2).f2) 0 1000000 true _ A37.out).mono ?_); rintro e w' ⟨rfl, ⟨nd, rfl⟩⟩))
                      go_meet
                      case rel => exact ⟨_, (!((rd_T37 l0_3 x30_2).f3)), z4458, H', ⟨zdc19⟩, ⟨bkZ⟩, ⟨bkZ⟩, ⟨zcb41⟩⟩
                    · rw [if_neg c39] at H
                      have c39b0 : (((rd_T37 l0_3 x30_2).f2) == 0) = false := beq_eq_false_iff_ne.mpr c39
                      have c39b1 : (((rd_T37 l0_3 x30_2).f2) != 0) = true := bne_iff_ne.mpr c39
                      have H' := aM H
                      clear H
                      have hnb47 := NB106_101.out
                      have hnc47 := NB101_106.out
                      obtain ⟨hcz48_0, hcz48_1, hcz48_2, hcz48_3, hcz48_4, hcz48_5, hcz48_6, hcz48_7, hcz48_8, hcz48_9, hcz48_10, hfz48_0, hfz48_1, hfz48_2, hfz48_3, hfz48_4, hfz48_5, hfz48_6, hfz48_7, hfz48_8, hfz48_9, hfz48_10⟩ := cellsZ11 BK106.out
                      go_wp2_with (first | ((with_reducible refine gate_callee (f := 47) rfl ?_); refine goesL_ (some 37) rfl rfl Tryd.func47 (by kernel_rfl) rfl #[.agg #[.string ((rd_T37 l0_3 x30_2).f0.f0), .slice A105_1 ((rd_T37 l0_3 x30_2).f0.f1).length c105_1, .int .i64 ((rd_T37 l0_3 x30_2).f0.f2)]] rfl zee81 ?_; (with_reducible refine (impl_GoodKey.calls k2 ((rd_T37 l0_3 x30_2).f0.f0) _ _ ((rd_T37 l0_3 x30_2).f0.f1) ((rd_T37 l0_3 x30_2).f0.f2) true _ ?side1 ?side2 A23.out).mono ?_); (case side1 => exact Kd.C_below HR105_1.out hbZ); (case side2 => exact HC105_1.out); rintro e w49 ⟨rfl, hb⟩; refine ⟨_, rfl, ?_⟩; have _ := bB gb101 hb; have _ := aM (blk_below (g := gb106) (o := .cells #[.string ((rd_T37 l0_3 x30_2).f0.f0), .slice A105_1 ((rd_T37 l0_3 x30_2).f0.f1).length c105_1, .int .i64 ((rd_T37 l0_3 x30_2).f0.f2), .int .i64 ((rd_T37 l0_3 x30_2).f1.f0), .int .i64 ((rd_T37 l0_3 x30_2).f1.f1), .int .i64 ((rd_T37 l0_3 x30_2).f1.f2), .int .i64 ((rd_T37 l0_3 x30_2).f1.f3), .slice A105_7 ((rd_T37 l0_3 x30_2).f1.f4).length c105_7, .bool ((rd_T37 l0_3 x30_2).f1.f5), .int .i64 ((rd_T37 l0_3 x30_2).f2), .bool ((rd_T37 l0_3 x30_2).f3)] 37 (0, 0)) bkZ hb); have _ := aM (below_step hbZ hb); clear BK101 BK106 HB; rename_i BK101 BK106 HB; (try clear hb); obtain ⟨hcz50_0, hcz50_1, hcz50_2, hcz50_3, hcz50_4, hcz50_5, hcz50_6, hcz50_7, hcz50_8, hcz50_9, hcz50_10, hfz50_0, hfz50_1, hfz50_2, hfz50_3, hfz50_4, hfz50_5, hfz50_6, hfz50_7, hfz50_8, hfz50_9, hfz50_10⟩ := cellsZ11 BK106.out; obtain ⟨hcz51_0, hcz51_1, hcz51_2, hcz51_3, hfz51_0, hfz51_1, hfz51_2, hfz51_3⟩ := cellsZ4 BK101.out) | (go_at_call 91; (with_reducible refine (impl_GoodAgg.calls k2 ((rd_T37 l0_3 x30_2).f1.f0) ((rd_T37 l0_3 x30_2).f1.f1) ((rd_T37 l0_3 x30_2).f1.f2) ((rd_T37 l0_3 x30_2).f1.f3) _ _ ((rd_T37 l0_3 x30_2).f1.f4) ((rd_T37 l0_3 x30_2).f1.f5) true _ ?side1 ?side2 A27.out).mono ?_); (case side1 => exact (cZ (Kd.C_below HR105_7.out HB.out))); (case side2 => exact HC105_7.out); rintro e w52 ⟨rfl, hb⟩; have _ := bB gb101 hb; have _ := bB gb106 hb; have _ := aM (below_step hbZ hb); clear BK101 BK106 HB; rename_i BK101 BK106 HB; (try clear hb); obtain ⟨hcz53_0, hcz53_1, hcz53_2, hcz53_3, hcz53_4, hcz53_5, hcz53_6, hcz53_7, hcz53_8, hcz53_9, hcz53_10, hfz53_0, hfz53_1, hfz53_2, hfz53_3, hfz53_4, hfz53_5, hfz53_6, hfz53_7, hfz53_8, hfz53_9, hfz53_10⟩ := cellsZ11 BK106.out) | (go_at_call 90; (with_reducible refine (impl_within.calls ((rd_T37 l0_3 x30_2).f2) 0 1000000 true _ A37.out).mono ?_); rintro e w' ⟨rfl, ⟨nd, rfl⟩⟩))
                      go_meet
                      case rel => exact ⟨_, (false), z4458, H', ⟨zdc19⟩, ⟨bkZ⟩, ⟨bkZ⟩, ⟨zcb41⟩⟩
                  · replace c38 := Bool.eq_false_iff.mpr c38
                    subst c38
                    rw [if_neg (show ¬ (false = true) by decide)] at H
                    have H' := aM H
                    clear H
                    have hnb54 := NB106_101.out
                    have hnc54 := NB101_106.out
                    obtain ⟨hcz55_0, hcz55_1, hcz55_2, hcz55_3, hcz55_4, hcz55_5, hcz55_6, hcz55_7, hcz55_8, hcz55_9, hcz55_10, hfz55_0, hfz55_1, hfz55_2, hfz55_3, hfz55_4, hfz55_5, hfz55_6, hfz55_7, hfz55_8, hfz55_9, hfz55_10⟩ := cellsZ11 BK106.out
                    go_wp2_with (first | ((with_reducible refine gate_callee (f := 47) rfl ?_); refine goesL_ (some 37) rfl rfl Tryd.func47 (by kernel_rfl) rfl #[.agg #[.string ((rd_T37 l0_3 x30_2).f0.f0), .slice A105_1 ((rd_T37 l0_3 x30_2).f0.f1).length c105_1, .int .i64 ((rd_T37 l0_3 x30_2).f0.f2)]] rfl zee81 ?_; (with_reducible refine (impl_GoodKey.calls k2 ((rd_T37 l0_3 x30_2).f0.f0) _ _ ((rd_T37 l0_3 x30_2).f0.f1) ((rd_T37 l0_3 x30_2).f0.f2) true _ ?side1 ?side2 A23.out).mono ?_); (case side1 => exact Kd.C_below HR105_1.out hbZ); (case side2 => exact HC105_1.out); rintro e w56 ⟨rfl, hb⟩; refine ⟨_, rfl, ?_⟩; have _ := bB gb101 hb; have _ := aM (blk_below (g := gb106) (o := .cells #[.string ((rd_T37 l0_3 x30_2).f0.f0), .slice A105_1 ((rd_T37 l0_3 x30_2).f0.f1).length c105_1, .int .i64 ((rd_T37 l0_3 x30_2).f0.f2), .int .i64 ((rd_T37 l0_3 x30_2).f1.f0), .int .i64 ((rd_T37 l0_3 x30_2).f1.f1), .int .i64 ((rd_T37 l0_3 x30_2).f1.f2), .int .i64 ((rd_T37 l0_3 x30_2).f1.f3), .slice A105_7 ((rd_T37 l0_3 x30_2).f1.f4).length c105_7, .bool ((rd_T37 l0_3 x30_2).f1.f5), .int .i64 ((rd_T37 l0_3 x30_2).f2), .bool ((rd_T37 l0_3 x30_2).f3)] 37 (0, 0)) bkZ hb); have _ := aM (below_step hbZ hb); clear BK101 BK106 HB; rename_i BK101 BK106 HB; (try clear hb); obtain ⟨hcz57_0, hcz57_1, hcz57_2, hcz57_3, hcz57_4, hcz57_5, hcz57_6, hcz57_7, hcz57_8, hcz57_9, hcz57_10, hfz57_0, hfz57_1, hfz57_2, hfz57_3, hfz57_4, hfz57_5, hfz57_6, hfz57_7, hfz57_8, hfz57_9, hfz57_10⟩ := cellsZ11 BK106.out; obtain ⟨hcz58_0, hcz58_1, hcz58_2, hcz58_3, hfz58_0, hfz58_1, hfz58_2, hfz58_3⟩ := cellsZ4 BK101.out) | (go_at_call 91; (with_reducible refine (impl_GoodAgg.calls k2 ((rd_T37 l0_3 x30_2).f1.f0) ((rd_T37 l0_3 x30_2).f1.f1) ((rd_T37 l0_3 x30_2).f1.f2) ((rd_T37 l0_3 x30_2).f1.f3) _ _ ((rd_T37 l0_3 x30_2).f1.f4) ((rd_T37 l0_3 x30_2).f1.f5) true _ ?side1 ?side2 A27.out).mono ?_); (case side1 => exact (cZ (Kd.C_below HR105_7.out HB.out))); (case side2 => exact HC105_7.out); rintro e w59 ⟨rfl, hb⟩; have _ := bB gb101 hb; have _ := bB gb106 hb; have _ := aM (below_step hbZ hb); clear BK101 BK106 HB; rename_i BK101 BK106 HB; (try clear hb); obtain ⟨hcz60_0, hcz60_1, hcz60_2, hcz60_3, hcz60_4, hcz60_5, hcz60_6, hcz60_7, hcz60_8, hcz60_9, hcz60_10, hfz60_0, hfz60_1, hfz60_2, hfz60_3, hfz60_4, hfz60_5, hfz60_6, hfz60_7, hfz60_8, hfz60_9, hfz60_10⟩ := cellsZ11 BK106.out) | (go_at_call 90; (with_reducible refine (impl_within.calls ((rd_T37 l0_3 x30_2).f2) 0 1000000 false _ A37.out).mono ?_); rintro e w' ⟨rfl, ⟨nd, rfl⟩⟩))
                    go_meet
                    case rel => exact ⟨_, (true), z4458, H', ⟨zdc19⟩, ⟨bkZ⟩, ⟨bkZ⟩, ⟨zcb41⟩⟩
              · replace c28 := Bool.eq_false_iff.mpr c28
                subst c28
                rw [if_neg (show ¬ (false = true) by decide)] at H
                have H' := aM H
                clear H
                have hnb61 := NB106_101.out
                have hnc61 := NB101_106.out
                obtain ⟨hcz62_0, hcz62_1, hcz62_2, hcz62_3, hcz62_4, hcz62_5, hcz62_6, hcz62_7, hcz62_8, hcz62_9, hcz62_10, hfz62_0, hfz62_1, hfz62_2, hfz62_3, hfz62_4, hfz62_5, hfz62_6, hfz62_7, hfz62_8, hfz62_9, hfz62_10⟩ := cellsZ11 BK106.out
                go_wp2_with (first | ((with_reducible refine gate_callee (f := 47) rfl ?_); refine goesL_ (some 37) rfl rfl Tryd.func47 (by kernel_rfl) rfl #[.agg #[.string ((rd_T37 l0_3 x30_2).f0.f0), .slice A105_1 ((rd_T37 l0_3 x30_2).f0.f1).length c105_1, .int .i64 ((rd_T37 l0_3 x30_2).f0.f2)]] rfl zee81 ?_; (with_reducible refine (impl_GoodKey.calls k2 ((rd_T37 l0_3 x30_2).f0.f0) _ _ ((rd_T37 l0_3 x30_2).f0.f1) ((rd_T37 l0_3 x30_2).f0.f2) true _ ?side1 ?side2 A23.out).mono ?_); (case side1 => exact Kd.C_below HR105_1.out hbZ); (case side2 => exact HC105_1.out); rintro e w63 ⟨rfl, hb⟩; refine ⟨_, rfl, ?_⟩; have _ := bB gb101 hb; have _ := aM (blk_below (g := gb106) (o := .cells #[.string ((rd_T37 l0_3 x30_2).f0.f0), .slice A105_1 ((rd_T37 l0_3 x30_2).f0.f1).length c105_1, .int .i64 ((rd_T37 l0_3 x30_2).f0.f2), .int .i64 ((rd_T37 l0_3 x30_2).f1.f0), .int .i64 ((rd_T37 l0_3 x30_2).f1.f1), .int .i64 ((rd_T37 l0_3 x30_2).f1.f2), .int .i64 ((rd_T37 l0_3 x30_2).f1.f3), .slice A105_7 ((rd_T37 l0_3 x30_2).f1.f4).length c105_7, .bool ((rd_T37 l0_3 x30_2).f1.f5), .int .i64 ((rd_T37 l0_3 x30_2).f2), .bool ((rd_T37 l0_3 x30_2).f3)] 37 (0, 0)) bkZ hb); have _ := aM (below_step hbZ hb); clear BK101 BK106 HB; rename_i BK101 BK106 HB; (try clear hb); obtain ⟨hcz64_0, hcz64_1, hcz64_2, hcz64_3, hcz64_4, hcz64_5, hcz64_6, hcz64_7, hcz64_8, hcz64_9, hcz64_10, hfz64_0, hfz64_1, hfz64_2, hfz64_3, hfz64_4, hfz64_5, hfz64_6, hfz64_7, hfz64_8, hfz64_9, hfz64_10⟩ := cellsZ11 BK106.out; obtain ⟨hcz65_0, hcz65_1, hcz65_2, hcz65_3, hfz65_0, hfz65_1, hfz65_2, hfz65_3⟩ := cellsZ4 BK101.out) | (go_at_call 91; (with_reducible refine (impl_GoodAgg.calls k2 ((rd_T37 l0_3 x30_2).f1.f0) ((rd_T37 l0_3 x30_2).f1.f1) ((rd_T37 l0_3 x30_2).f1.f2) ((rd_T37 l0_3 x30_2).f1.f3) _ _ ((rd_T37 l0_3 x30_2).f1.f4) ((rd_T37 l0_3 x30_2).f1.f5) false _ ?side1 ?side2 A27.out).mono ?_); (case side1 => exact (cZ (Kd.C_below HR105_7.out HB.out))); (case side2 => exact HC105_7.out); rintro e w66 ⟨rfl, hb⟩; have _ := bB gb101 hb; have _ := bB gb106 hb; have _ := aM (below_step hbZ hb); clear BK101 BK106 HB; rename_i BK101 BK106 HB; (try clear hb)))
                go_meet
                case rel => exact ⟨_, (true), z4458, H', ⟨zdc19⟩, ⟨bkZ⟩, ⟨bkZ⟩, ⟨zcb41⟩⟩
            · rw [if_neg c26] at H
              have c26b0 : ((Int.tmod ((rd_T37 l0_3 x30_2).f0.f2) a0_0) == 0) = false := beq_eq_false_iff_ne.mpr c26
              have c26b1 : ((Int.tmod ((rd_T37 l0_3 x30_2).f0.f2) a0_0) != 0) = true := bne_iff_ne.mpr c26
              have H' := aM H
              clear H
              have hnb67 := NB106_101.out
              have hnc67 := NB101_106.out
              obtain ⟨hcz68_0, hcz68_1, hcz68_2, hcz68_3, hcz68_4, hcz68_5, hcz68_6, hcz68_7, hcz68_8, hcz68_9, hcz68_10, hfz68_0, hfz68_1, hfz68_2, hfz68_3, hfz68_4, hfz68_5, hfz68_6, hfz68_7, hfz68_8, hfz68_9, hfz68_10⟩ := cellsZ11 BK106.out
              go_wp2_with (first | ((with_reducible refine gate_callee (f := 47) rfl ?_); refine goesL_ (some 37) rfl rfl Tryd.func47 (by kernel_rfl) rfl #[.agg #[.string ((rd_T37 l0_3 x30_2).f0.f0), .slice A105_1 ((rd_T37 l0_3 x30_2).f0.f1).length c105_1, .int .i64 ((rd_T37 l0_3 x30_2).f0.f2)]] rfl zee81 ?_; (with_reducible refine (impl_GoodKey.calls k2 ((rd_T37 l0_3 x30_2).f0.f0) _ _ ((rd_T37 l0_3 x30_2).f0.f1) ((rd_T37 l0_3 x30_2).f0.f2) true _ ?side1 ?side2 A23.out).mono ?_); (case side1 => exact Kd.C_below HR105_1.out hbZ); (case side2 => exact HC105_1.out); rintro e w69 ⟨rfl, hb⟩; refine ⟨_, rfl, ?_⟩; have _ := bB gb101 hb; have _ := aM (blk_below (g := gb106) (o := .cells #[.string ((rd_T37 l0_3 x30_2).f0.f0), .slice A105_1 ((rd_T37 l0_3 x30_2).f0.f1).length c105_1, .int .i64 ((rd_T37 l0_3 x30_2).f0.f2), .int .i64 ((rd_T37 l0_3 x30_2).f1.f0), .int .i64 ((rd_T37 l0_3 x30_2).f1.f1), .int .i64 ((rd_T37 l0_3 x30_2).f1.f2), .int .i64 ((rd_T37 l0_3 x30_2).f1.f3), .slice A105_7 ((rd_T37 l0_3 x30_2).f1.f4).length c105_7, .bool ((rd_T37 l0_3 x30_2).f1.f5), .int .i64 ((rd_T37 l0_3 x30_2).f2), .bool ((rd_T37 l0_3 x30_2).f3)] 37 (0, 0)) bkZ hb); have _ := aM (below_step hbZ hb); clear BK101 BK106 HB; rename_i BK101 BK106 HB; (try clear hb); obtain ⟨hcz70_0, hcz70_1, hcz70_2, hcz70_3, hcz70_4, hcz70_5, hcz70_6, hcz70_7, hcz70_8, hcz70_9, hcz70_10, hfz70_0, hfz70_1, hfz70_2, hfz70_3, hfz70_4, hfz70_5, hfz70_6, hfz70_7, hfz70_8, hfz70_9, hfz70_10⟩ := cellsZ11 BK106.out; obtain ⟨hcz71_0, hcz71_1, hcz71_2, hcz71_3, hfz71_0, hfz71_1, hfz71_2, hfz71_3⟩ := cellsZ4 BK101.out))
              go_meet
              case rel => exact ⟨_, (true), z4458, H', ⟨zdc19⟩, ⟨bkZ⟩, ⟨bkZ⟩, ⟨zcb41⟩⟩
          · replace c24 := Bool.eq_false_iff.mpr c24
            subst c24
            rw [if_neg (show ¬ (false = true) by decide)] at H
            have H' := aM H
            clear H
            have hnb72 := NB106_101.out
            have hnc72 := NB101_106.out
            obtain ⟨hcz73_0, hcz73_1, hcz73_2, hcz73_3, hcz73_4, hcz73_5, hcz73_6, hcz73_7, hcz73_8, hcz73_9, hcz73_10, hfz73_0, hfz73_1, hfz73_2, hfz73_3, hfz73_4, hfz73_5, hfz73_6, hfz73_7, hfz73_8, hfz73_9, hfz73_10⟩ := cellsZ11 BK106.out
            go_wp2_with (first | ((with_reducible refine gate_callee (f := 47) rfl ?_); refine goesL_ (some 37) rfl rfl Tryd.func47 (by kernel_rfl) rfl #[.agg #[.string ((rd_T37 l0_3 x30_2).f0.f0), .slice A105_1 ((rd_T37 l0_3 x30_2).f0.f1).length c105_1, .int .i64 ((rd_T37 l0_3 x30_2).f0.f2)]] rfl zee81 ?_; (with_reducible refine (impl_GoodKey.calls k2 ((rd_T37 l0_3 x30_2).f0.f0) _ _ ((rd_T37 l0_3 x30_2).f0.f1) ((rd_T37 l0_3 x30_2).f0.f2) false _ ?side1 ?side2 A23.out).mono ?_); (case side1 => exact Kd.C_below HR105_1.out hbZ); (case side2 => exact HC105_1.out); rintro e w74 ⟨rfl, hb⟩; refine ⟨_, rfl, ?_⟩; have _ := bB gb101 hb; have _ := aM (blk_below (g := gb106) (o := .cells #[.string ((rd_T37 l0_3 x30_2).f0.f0), .slice A105_1 ((rd_T37 l0_3 x30_2).f0.f1).length c105_1, .int .i64 ((rd_T37 l0_3 x30_2).f0.f2), .int .i64 ((rd_T37 l0_3 x30_2).f1.f0), .int .i64 ((rd_T37 l0_3 x30_2).f1.f1), .int .i64 ((rd_T37 l0_3 x30_2).f1.f2), .int .i64 ((rd_T37 l0_3 x30_2).f1.f3), .slice A105_7 ((rd_T37 l0_3 x30_2).f1.f4).length c105_7, .bool ((rd_T37 l0_3 x30_2).f1.f5), .int .i64 ((rd_T37 l0_3 x30_2).f2), .bool ((rd_T37 l0_3 x30_2).f3)] 37 (0, 0)) bkZ hb); have _ := aM (below_step hbZ hb); clear BK101 BK106 HB; rename_i BK101 BK106 HB; (try clear hb)))
            go_meet
            case rel => exact ⟨_, (true), z4458, H', ⟨zdc19⟩, ⟨bkZ⟩, ⟨bkZ⟩, ⟨zcb41⟩⟩
         case rest =>
          clear HC19
          try clear c1
          try clear p1
          try clear q1
          try clear hx1
          try clear c2
          try clear p2
          try clear c3
          try clear c4
          try clear c5
          try clear c6
          try clear c7
          try clear c8
          try clear c9
          try clear c10
          try clear p10
          try clear q10
          try clear hx10
          try clear c14
          try clear c16
          try clear c16b0
          try clear c17
          try clear c17b0
          try clear c18
          try clear c18b0
          try clear c21
          try clear c24
          try clear c25
          try clear c25b0
          try clear c25b1
          try clear c26
          try clear c26b0
          try clear c26b1
          try clear c28
          try clear c29
          try clear c29b0
          try clear c29b1
          try clear c30
          try clear c38
          try clear c39
          try clear c39b0
          try clear c39b1
          try clear c40
          try clear c46
          try clear c47
          try clear c54
          try clear c61
          try clear c67
          try clear c72
          try clear hcz10_0 hcz10_1 hcz10_2 hcz10_3
          try clear hcz11_0 hcz11_1 hcz11_2 hcz11_3
          try clear hcz12_0 hcz12_1 hcz12_2 hcz12_3
          try clear hcz13_0 hcz13_1 hcz13_2 hcz13_3
          try clear hcz15_0 hcz15_1 hcz15_2 hcz15_3
          try clear hcz22_0 hcz22_1 hcz22_10 hcz22_2 hcz22_3 hcz22_4 hcz22_5 hcz22_6 hcz22_7 hcz22_8 hcz22_9
          try clear hcz31_0 hcz31_1 hcz31_10 hcz31_2 hcz31_3 hcz31_4 hcz31_5 hcz31_6 hcz31_7 hcz31_8 hcz31_9
          try clear hcz33_0 hcz33_1 hcz33_10 hcz33_2 hcz33_3 hcz33_4 hcz33_5 hcz33_6 hcz33_7 hcz33_8 hcz33_9
          try clear hcz34_0 hcz34_1 hcz34_2 hcz34_3
          try clear hcz36_0 hcz36_1 hcz36_10 hcz36_2 hcz36_3 hcz36_4 hcz36_5 hcz36_6 hcz36_7 hcz36_8 hcz36_9
          try clear hcz41_0 hcz41_1 hcz41_10 hcz41_2 hcz41_3 hcz41_4 hcz41_5 hcz41_6 hcz41_7 hcz41_8 hcz41_9
          try clear hcz43_0 hcz43_1 hcz43_10 hcz43_2 hcz43_3 hcz43_4 hcz43_5 hcz43_6 hcz43_7 hcz43_8 hcz43_9
          try clear hcz44_0 hcz44_1 hcz44_2 hcz44_3
          try clear hcz46_0 hcz46_1 hcz46_10 hcz46_2 hcz46_3 hcz46_4 hcz46_5 hcz46_6 hcz46_7 hcz46_8 hcz46_9
          try clear hcz48_0 hcz48_1 hcz48_10 hcz48_2 hcz48_3 hcz48_4 hcz48_5 hcz48_6 hcz48_7 hcz48_8 hcz48_9
          try clear hcz50_0 hcz50_1 hcz50_10 hcz50_2 hcz50_3 hcz50_4 hcz50_5 hcz50_6 hcz50_7 hcz50_8 hcz50_9
          try clear hcz51_0 hcz51_1 hcz51_2 hcz51_3
          try clear hcz53_0 hcz53_1 hcz53_10 hcz53_2 hcz53_3 hcz53_4 hcz53_5 hcz53_6 hcz53_7 hcz53_8 hcz53_9
          try clear hcz55_0 hcz55_1 hcz55_10 hcz55_2 hcz55_3 hcz55_4 hcz55_5 hcz55_6 hcz55_7 hcz55_8 hcz55_9
          try clear hcz57_0 hcz57_1 hcz57_10 hcz57_2 hcz57_3 hcz57_4 hcz57_5 hcz57_6 hcz57_7 hcz57_8 hcz57_9
          try clear hcz58_0 hcz58_1 hcz58_2 hcz58_3
          try clear hcz60_0 hcz60_1 hcz60_10 hcz60_2 hcz60_3 hcz60_4 hcz60_5 hcz60_6 hcz60_7 hcz60_8 hcz60_9
          try clear hcz62_0 hcz62_1 hcz62_10 hcz62_2 hcz62_3 hcz62_4 hcz62_5 hcz62_6 hcz62_7 hcz62_8 hcz62_9
          try clear hcz64_0 hcz64_1 hcz64_10 hcz64_2 hcz64_3 hcz64_4 hcz64_5 hcz64_6 hcz64_7 hcz64_8 hcz64_9
          try clear hcz65_0 hcz65_1 hcz65_2 hcz65_3
          try clear hcz68_0 hcz68_1 hcz68_10 hcz68_2 hcz68_3 hcz68_4 hcz68_5 hcz68_6 hcz68_7 hcz68_8 hcz68_9
          try clear hcz70_0 hcz70_1 hcz70_10 hcz70_2 hcz70_3 hcz70_4 hcz70_5 hcz70_6 hcz70_7 hcz70_8 hcz70_9
          try clear hcz71_0 hcz71_1 hcz71_2 hcz71_3
          try clear hcz73_0 hcz73_1 hcz73_10 hcz73_2 hcz73_3 hcz73_4 hcz73_5 hcz73_6 hcz73_7 hcz73_8 hcz73_9
          try clear hfz10_0 hfz10_1 hfz10_2 hfz10_3
          try clear hfz11_0 hfz11_1 hfz11_2 hfz11_3
          try clear hfz12_0 hfz12_1 hfz12_2 hfz12_3
          try clear hfz13_0 hfz13_1 hfz13_2 hfz13_3
          try clear hfz15_0 hfz15_1 hfz15_2 hfz15_3
          try clear hfz22_0 hfz22_1 hfz22_10 hfz22_2 hfz22_3 hfz22_4 hfz22_5 hfz22_6 hfz22_7 hfz22_8 hfz22_9
          try clear hfz31_0 hfz31_1 hfz31_10 hfz31_2 hfz31_3 hfz31_4 hfz31_5 hfz31_6 hfz31_7 hfz31_8 hfz31_9
          try clear hfz33_0 hfz33_1 hfz33_10 hfz33_2 hfz33_3 hfz33_4 hfz33_5 hfz33_6 hfz33_7 hfz33_8 hfz33_9
          try clear hfz34_0 hfz34_1 hfz34_2 hfz34_3
          try clear hfz36_0 hfz36_1 hfz36_10 hfz36_2 hfz36_3 hfz36_4 hfz36_5 hfz36_6 hfz36_7 hfz36_8 hfz36_9
          try clear hfz41_0 hfz41_1 hfz41_10 hfz41_2 hfz41_3 hfz41_4 hfz41_5 hfz41_6 hfz41_7 hfz41_8 hfz41_9
          try clear hfz43_0 hfz43_1 hfz43_10 hfz43_2 hfz43_3 hfz43_4 hfz43_5 hfz43_6 hfz43_7 hfz43_8 hfz43_9
          try clear hfz44_0 hfz44_1 hfz44_2 hfz44_3
          try clear hfz46_0 hfz46_1 hfz46_10 hfz46_2 hfz46_3 hfz46_4 hfz46_5 hfz46_6 hfz46_7 hfz46_8 hfz46_9
          try clear hfz48_0 hfz48_1 hfz48_10 hfz48_2 hfz48_3 hfz48_4 hfz48_5 hfz48_6 hfz48_7 hfz48_8 hfz48_9
          try clear hfz50_0 hfz50_1 hfz50_10 hfz50_2 hfz50_3 hfz50_4 hfz50_5 hfz50_6 hfz50_7 hfz50_8 hfz50_9
          try clear hfz51_0 hfz51_1 hfz51_2 hfz51_3
          try clear hfz53_0 hfz53_1 hfz53_10 hfz53_2 hfz53_3 hfz53_4 hfz53_5 hfz53_6 hfz53_7 hfz53_8 hfz53_9
          try clear hfz55_0 hfz55_1 hfz55_10 hfz55_2 hfz55_3 hfz55_4 hfz55_5 hfz55_6 hfz55_7 hfz55_8 hfz55_9
          try clear hfz57_0 hfz57_1 hfz57_10 hfz57_2 hfz57_3 hfz57_4 hfz57_5 hfz57_6 hfz57_7 hfz57_8 hfz57_9
          try clear hfz58_0 hfz58_1 hfz58_2 hfz58_3
          try clear hfz60_0 hfz60_1 hfz60_10 hfz60_2 hfz60_3 hfz60_4 hfz60_5 hfz60_6 hfz60_7 hfz60_8 hfz60_9
          try clear hfz62_0 hfz62_1 hfz62_10 hfz62_2 hfz62_3 hfz62_4 hfz62_5 hfz62_6 hfz62_7 hfz62_8 hfz62_9
          try clear hfz64_0 hfz64_1 hfz64_10 hfz64_2 hfz64_3 hfz64_4 hfz64_5 hfz64_6 hfz64_7 hfz64_8 hfz64_9
          try clear hfz65_0 hfz65_1 hfz65_2 hfz65_3
          try clear hfz68_0 hfz68_1 hfz68_10 hfz68_2 hfz68_3 hfz68_4 hfz68_5 hfz68_6 hfz68_7 hfz68_8 hfz68_9
          try clear hfz70_0 hfz70_1 hfz70_10 hfz70_2 hfz70_3 hfz70_4 hfz70_5 hfz70_6 hfz70_7 hfz70_8 hfz70_9
          try clear hfz71_0 hfz71_1 hfz71_2 hfz71_3
          try clear hfz73_0 hfz73_1 hfz73_10 hfz73_2 hfz73_3 hfz73_4 hfz73_5 hfz73_6 hfz73_7 hfz73_8 hfz73_9
          try clear hx105_0
          try clear hx105_1
          try clear hx105_10
          try clear hx105_2
          try clear hx105_3
          try clear hx105_4
          try clear hx105_5
          try clear hx105_6
          try clear hx105_7
          try clear hx105_8
          try clear hx105_9
          try clear p105
          try clear p2
          try clear q105
          obtain ⟨kq, x75_18, rfl, HA, HJ18, BK101, BK106, HB⟩ := hcut
          cases kq with
          | zero => exact absurd HA.out (by simp [impl_GoodBoard.j2])
          | succ kj18 =>
           have H := HA.out
           clear HA
           simp only [impl_GoodBoard.j2] at H
           by_cases c75 : x75_18 = true
           · subst c75
             rw [if_pos rfl] at H
             obtain rfl := Option.some.inj H
             go_wp2
             go_ret
             exact ⟨z674d, zcb41⟩
           · replace c75 := Bool.eq_false_iff.mpr c75
             subst c75
             rw [if_neg (show ¬ (false = true) by decide)] at H
             by_cases c76 : x30_2 > 0
             · rw [if_pos c76] at H
               have c76b0 : decide (0 < x30_2) = true := decide_eq_true c76
               clear c76
               obtain ⟨ji77, hji77⟩ : ∃ j_ : Int, (wrap64 (x30_2 - 1)) = j_ := ⟨_, rfl⟩
               replace H : (if 0 ≤ (ji77) then (if (ji77) < (l0_3.length : Int) then ((impl_CompareKeys.f kj18 ((rd_T37 l0_3 (ji77)).f0.f0) ((rd_T37 l0_3 (ji77)).f0.f1) ((rd_T37 l0_3 (ji77)).f0.f2) ((rd_T37 l0_3 x30_2).f0.f0) ((rd_T37 l0_3 x30_2).f0.f1) ((rd_T37 l0_3 x30_2).f0.f2)).bind fun t111 => (if t111 ≥ 0 then (some false) else (impl_GoodBoard.l0 kj18 l0_3 (l0_3.length : Int) (wrap64 (x30_2 + 1)) a0_0 a0_1 a0_2 l0_3))) else (none)) else (none)) = some r := by first | (rw [hji77] at H; exact H) | (simp only [hji77] at H ⊢; exact H)
               have hji77w : (IntKind.i64.wrap (x30_2 - 1)) = ji77 := (i64_w _).trans hji77
               replace H := ifS H; obtain ⟨c78, H⟩ := H
               have c78b0 : decide (0 ≤ (ji77)) = true := decide_eq_true c78
               clear c78
               replace H := ifS H; obtain ⟨c79, H⟩ := H
               have c79b0 : decide ((ji77) < (l0_3.length : Int)) = true := decide_eq_true c79
               clear c79
               replace H := Option.bind_eq_some_iff.mp H
               obtain ⟨t111, A800, H⟩ := H
               try dsimp only at H
               have A80 := aM A800
               clear A800
               by_cases c81 : t111 ≥ 0
               · rw [if_pos c81] at H
                 have c81b0 : decide (0 ≤ t111) = true := decide_eq_true c81
                 clear c81
                 obtain rfl := Option.some.inj H
                 try go_wp2
                 have _ := aM (blk_drew BK101.out)
                 have _ := aM (blk_drew BK106.out)
                 have _ := aM (below_drew1 HB.out)
                 clear BK101
                 clear BK106
                 clear HB
                 rename_i BK101 BK106 HB
                 have p110 : 0 ≤ ((ji77) : Int) := of_decide_eq_true z1200
                 have q110 : (ji77) < (l0_3.length : Int) := of_decide_eq_true z1200
                 obtain ⟨ad110, A110_1, c110_1, A110_7, c110_7, e110, hx110_0, hx110_1, hx110_2, hx110_3, hx110_4, hx110_5, hx110_6, hx110_7, hx110_8, hx110_9, hx110_10, hl110_1, hi110_1, hl110_7, hi110_7⟩ := at_T37 HR0_3.out (ji77) p110 q110
                 have hw110_10 := hx110_10
                 have hw110_9 := hx110_9
                 have hw110_8 := hx110_8
                 have hw110_7 := hx110_7
                 have hw110_6 := hx110_6
                 have hw110_5 := hx110_5
                 have hw110_4 := hx110_4
                 have hw110_3 := hx110_3
                 have hw110_2 := hx110_2
                 have hw110_1 := hx110_1
                 have hw110_0 := hx110_0
                 obtain rfl : ad105 = ad110 := (by injection e110)
                 have TW110_1 := aM hx110_1
                 have TW110_7 := aM hx110_7
                 replace hx110_0 := (HB.out.cell (World.block_lt_of_cell? w _ hx110_0)).trans hx110_0
                 replace hx110_1 := (HB.out.cell (World.block_lt_of_cell? w _ hx110_1)).trans hx110_1
                 replace hx110_2 := (HB.out.cell (World.block_lt_of_cell? w _ hx110_2)).trans hx110_2
                 replace hx110_3 := (HB.out.cell (World.block_lt_of_cell? w _ hx110_3)).trans hx110_3
                 replace hx110_4 := (HB.out.cell (World.block_lt_of_cell? w _ hx110_4)).trans hx110_4
                 replace hx110_5 := (HB.out.cell (World.block_lt_of_cell? w _ hx110_5)).trans hx110_5
                 replace hx110_6 := (HB.out.cell (World.block_lt_of_cell? w _ hx110_6)).trans hx110_6
                 replace hx110_7 := (HB.out.cell (World.block_lt_of_cell? w _ hx110_7)).trans hx110_7
                 replace hx110_8 := (HB.out.cell (World.block_lt_of_cell? w _ hx110_8)).trans hx110_8
                 replace hx110_9 := (HB.out.cell (World.block_lt_of_cell? w _ hx110_9)).trans hx110_9
                 replace hx110_10 := (HB.out.cell (World.block_lt_of_cell? w _ hx110_10)).trans hx110_10
                 have HR110_1 := aM hi110_1
                 have HC110_1 := aM hl110_1
                 clear hi110_1 hl110_1
                 have HR110_7 := aM hi110_7
                 have HC110_7 := aM hl110_7
                 clear hi110_7 hl110_7
                 replace p110 := eq_true p110
                 replace q110 := eq_true q110
                 refine sA 15 impl_GoodBoard.tab8 impl_GoodBoard.bits8 (fun w' => w'.cell? ⟨gb101, 0, none⟩ = some (.int .i64 a0_0) ∧ w'.cell? ⟨gb101, 1, none⟩ = some (.int .i64 a0_1) ∧ w'.cell? ⟨gb101, 2, none⟩ = some (.int .i64 a0_2) ∧ w'.cell? ⟨gb101, 3, none⟩ = some (.slice (some ad105) l0_3.length c0_3) ∧ w'.cell? ⟨gb106, 0, none⟩ = some (.string ((rd_T37 l0_3 x30_2).f0.f0)) ∧ w'.cell? ⟨gb106, 1, none⟩ = some (.slice A105_1 ((rd_T37 l0_3 x30_2).f0.f1).length c105_1) ∧ w'.cell? ⟨gb106, 2, none⟩ = some (.int .i64 ((rd_T37 l0_3 x30_2).f0.f2)) ∧ w'.cell? ⟨gb106, 3, none⟩ = some (.int .i64 ((rd_T37 l0_3 x30_2).f1.f0)) ∧ w'.cell? ⟨gb106, 4, none⟩ = some (.int .i64 ((rd_T37 l0_3 x30_2).f1.f1)) ∧ w'.cell? ⟨gb106, 5, none⟩ = some (.int .i64 ((rd_T37 l0_3 x30_2).f1.f2)) ∧ w'.cell? ⟨gb106, 6, none⟩ = some (.int .i64 ((rd_T37 l0_3 x30_2).f1.f3)) ∧ w'.cell? ⟨gb106, 7, none⟩ = some (.slice A105_7 ((rd_T37 l0_3 x30_2).f1.f4).length c105_7) ∧ w'.cell? ⟨gb106, 8, none⟩ = some (.bool ((rd_T37 l0_3 x30_2).f1.f5)) ∧ w'.cell? ⟨gb106, 9, none⟩ = some (.int .i64 ((rd_T37 l0_3 x30_2).f2)) ∧ w'.cell? ⟨gb106, 10, none⟩ = some (.bool ((rd_T37 l0_3 x30_2).f3)) ∧ w'.cell? (ad105.add (((ji77)).toNat * 11)) = some (.string ((rd_T37 l0_3 (ji77)).f0.f0)) ∧ w'.cell? ⟨(ad105.add (((ji77)).toNat * 11)).block, (ad105.add (((ji77)).toNat * 11)).off + 1, none⟩ = some (.slice A110_1 ((rd_T37 l0_3 (ji77)).f0.f1).length c110_1) ∧ w'.cell? ⟨(ad105.add (((ji77)).toNat * 11)).block, (ad105.add (((ji77)).toNat * 11)).off + 2, none⟩ = some (.int .i64 ((rd_T37 l0_3 (ji77)).f0.f2)) ∧ w'.cell? ⟨(ad105.add (((ji77)).toNat * 11)).block, (ad105.add (((ji77)).toNat * 11)).off + 3, none⟩ = some (.int .i64 ((rd_T37 l0_3 (ji77)).f1.f0)) ∧ w'.cell? ⟨(ad105.add (((ji77)).toNat * 11)).block, (ad105.add (((ji77)).toNat * 11)).off + 4, none⟩ = some (.int .i64 ((rd_T37 l0_3 (ji77)).f1.f1)) ∧ w'.cell? ⟨(ad105.add (((ji77)).toNat * 11)).block, (ad105.add (((ji77)).toNat * 11)).off + 5, none⟩ = some (.int .i64 ((rd_T37 l0_3 (ji77)).f1.f2)) ∧ w'.cell? ⟨(ad105.add (((ji77)).toNat * 11)).block, (ad105.add (((ji77)).toNat * 11)).off + 6, none⟩ = some (.int .i64 ((rd_T37 l0_3 (ji77)).f1.f3)) ∧ w'.cell? ⟨(ad105.add (((ji77)).toNat * 11)).block, (ad105.add (((ji77)).toNat * 11)).off + 7, none⟩ = some (.slice A110_7 ((rd_T37 l0_3 (ji77)).f1.f4).length c110_7) ∧ w'.cell? ⟨(ad105.add (((ji77)).toNat * 11)).block, (ad105.add (((ji77)).toNat * 11)).off + 8, none⟩ = some (.bool ((rd_T37 l0_3 (ji77)).f1.f5)) ∧ w'.cell? ⟨(ad105.add (((ji77)).toNat * 11)).block, (ad105.add (((ji77)).toNat * 11)).off + 9, none⟩ = some (.int .i64 ((rd_T37 l0_3 (ji77)).f2)) ∧ w'.cell? ⟨(ad105.add (((ji77)).toNat * 11)).block, (ad105.add (((ji77)).toNat * 11)).off + 10, none⟩ = some (.bool ((rd_T37 l0_3 (ji77)).f3))) [] (fun hHeld HT_ HW_ => ?_)
                 generalize wc.drew = w82 at BK101 BK106 HB HR110_1 HR110_7 hx110_0 hx110_1 hx110_10 hx110_2 hx110_3 hx110_4 hx110_5 hx110_6 hx110_7 hx110_8 hx110_9 hHeld ⊢
                 refine pA 0 76 HT_ ?_; refine pA 1 77 HT_ ?_; refine pA 2 78 HT_ ?_; refine pA 3 79 HT_ ?_; refine pA 5 81 HT_ ?_; refine pA 6 82 HT_ ?_; refine pA 10 86 HT_ ?_; refine tA 4 80 HT_ HW_ hHeld ?_; refine pA 7 83 HT_ ?_; refine pA 8 84 HT_ ?_; refine tA 9 85 HT_ HW_ hHeld ?_; refine tA 11 87 HT_ HW_ hHeld ?_; refine oA 12 88 HT_ (fun K hK => ?_)
                 refine goes_ Tryd.func72 (by kernel_rfl) rfl #[.agg #[.string ((rd_T37 l0_3 (ji77)).f0.f0), .slice A110_1 ((rd_T37 l0_3 (ji77)).f0.f1).length c110_1, .int .i64 ((rd_T37 l0_3 (ji77)).f0.f2)], .agg #[.string ((rd_T37 l0_3 x30_2).f0.f0), .slice A105_1 ((rd_T37 l0_3 x30_2).f0.f1).length c105_1, .int .i64 ((rd_T37 l0_3 x30_2).f0.f2)]] (by rfl) rfl rfl (by (try simp only [List.map_toArray, List.map_cons, List.map_nil]); first | done | (simp only [hji77]; rfl) | rfl | (simp only [List.length_drop, List.length_take]; rfl)) ?_
                 with_reducible refine (impl_CompareKeys.calls kj18 ((rd_T37 l0_3 (ji77)).f0.f0) _ _ ((rd_T37 l0_3 (ji77)).f0.f1) ((rd_T37 l0_3 (ji77)).f0.f2) ((rd_T37 l0_3 x30_2).f0.f0) _ _ ((rd_T37 l0_3 x30_2).f0.f1) ((rd_T37 l0_3 x30_2).f0.f2) t111 _ ?side1 ?side2 ?side3 ?side4 A80.out).mono ?_
                 (case side1 => exact (cZ (Kd.C_below HR110_1.out HB.out)))
                 (case side2 => exact HC110_1.out)
                 (case side3 => exact (cZ (Kd.C_below HR105_1.out HB.out)))
                 (case side4 => exact HC105_1.out)
                 rintro e w83 ⟨rfl, hb⟩
                 refine ⟨_, rfl, ?_⟩
                 have _ := bB gb101 hb
                 have _ := bB gb106 hb
                 have _ := aM (below_step hbZ hb)
                 clear BK101
                 clear BK106
                 clear HB
                 rename_i BK101 BK106 HB
                 (try clear hb)
                 (try clear hb2)
                 (try clear hk)
                 (try clear hi)
                 refine hK.out _ _ sZ (fun hHeld => ?_)
                 clear hK K
                 refine nA 88 ?_; refine pA 13 89 HT_ ?_; refine pA 14 90 HT_ ?_
                 refine done_ (done_of HT_.out (by kernel_rfl)) ?_
                 try go_wp2
                 go_ret
                 exact ⟨by first | rfl | (simp [errW_none, errW_some] <;> rfl) | (simp only [← hji77]; first | rfl | (simp [errW_none, errW_some] <;> rfl)) | (simp [*, errW_none, errW_some] <;> rfl), zcb41⟩
               · rw [if_neg c81] at H
                 have c81b0 : decide (0 ≤ t111) = false := decide_eq_false c81
                 clear c81
                 have H' := aM H
                 clear H
                 try go_wp2
                 have _ := aM (blk_drew BK101.out)
                 have _ := aM (blk_drew BK106.out)
                 have _ := aM (below_drew1 HB.out)
                 clear BK101
                 clear BK106
                 clear HB
                 rename_i BK101 BK106 HB
                 have p110 : 0 ≤ ((ji77) : Int) := of_decide_eq_true z1200
                 have q110 : (ji77) < (l0_3.length : Int) := of_decide_eq_true z1200
                 obtain ⟨ad110, A110_1, c110_1, A110_7, c110_7, e110, hx110_0, hx110_1, hx110_2, hx110_3, hx110_4, hx110_5, hx110_6, hx110_7, hx110_8, hx110_9, hx110_10, hl110_1, hi110_1, hl110_7, hi110_7⟩ := at_T37 HR0_3.out (ji77) p110 q110
                 have hw110_10 := hx110_10
                 have hw110_9 := hx110_9
                 have hw110_8 := hx110_8
                 have hw110_7 := hx110_7
                 have hw110_6 := hx110_6
                 have hw110_5 := hx110_5
                 have hw110_4 := hx110_4
                 have hw110_3 := hx110_3
                 have hw110_2 := hx110_2
                 have hw110_1 := hx110_1
                 have hw110_0 := hx110_0
                 obtain rfl : ad105 = ad110 := (by injection e110)
                 have TW110_1 := aM hx110_1
                 have TW110_7 := aM hx110_7
                 replace hx110_0 := (HB.out.cell (World.block_lt_of_cell? w _ hx110_0)).trans hx110_0
                 replace hx110_1 := (HB.out.cell (World.block_lt_of_cell? w _ hx110_1)).trans hx110_1
                 replace hx110_2 := (HB.out.cell (World.block_lt_of_cell? w _ hx110_2)).trans hx110_2
                 replace hx110_3 := (HB.out.cell (World.block_lt_of_cell? w _ hx110_3)).trans hx110_3
                 replace hx110_4 := (HB.out.cell (World.block_lt_of_cell? w _ hx110_4)).trans hx110_4
                 replace hx110_5 := (HB.out.cell (World.block_lt_of_cell? w _ hx110_5)).trans hx110_5
                 replace hx110_6 := (HB.out.cell (World.block_lt_of_cell? w _ hx110_6)).trans hx110_6
                 replace hx110_7 := (HB.out.cell (World.block_lt_of_cell? w _ hx110_7)).trans hx110_7
                 replace hx110_8 := (HB.out.cell (World.block_lt_of_cell? w _ hx110_8)).trans hx110_8
                 replace hx110_9 := (HB.out.cell (World.block_lt_of_cell? w _ hx110_9)).trans hx110_9
                 replace hx110_10 := (HB.out.cell (World.block_lt_of_cell? w _ hx110_10)).trans hx110_10
                 have HR110_1 := aM hi110_1
                 have HC110_1 := aM hl110_1
                 clear hi110_1 hl110_1
                 have HR110_7 := aM hi110_7
                 have HC110_7 := aM hl110_7
                 clear hi110_7 hl110_7
                 replace p110 := eq_true p110
                 replace q110 := eq_true q110
                 refine sA 15 impl_GoodBoard.tab8 impl_GoodBoard.bits8 (fun w' => w'.cell? ⟨gb101, 0, none⟩ = some (.int .i64 a0_0) ∧ w'.cell? ⟨gb101, 1, none⟩ = some (.int .i64 a0_1) ∧ w'.cell? ⟨gb101, 2, none⟩ = some (.int .i64 a0_2) ∧ w'.cell? ⟨gb101, 3, none⟩ = some (.slice (some ad105) l0_3.length c0_3) ∧ w'.cell? ⟨gb106, 0, none⟩ = some (.string ((rd_T37 l0_3 x30_2).f0.f0)) ∧ w'.cell? ⟨gb106, 1, none⟩ = some (.slice A105_1 ((rd_T37 l0_3 x30_2).f0.f1).length c105_1) ∧ w'.cell? ⟨gb106, 2, none⟩ = some (.int .i64 ((rd_T37 l0_3 x30_2).f0.f2)) ∧ w'.cell? ⟨gb106, 3, none⟩ = some (.int .i64 ((rd_T37 l0_3 x30_2).f1.f0)) ∧ w'.cell? ⟨gb106, 4, none⟩ = some (.int .i64 ((rd_T37 l0_3 x30_2).f1.f1)) ∧ w'.cell? ⟨gb106, 5, none⟩ = some (.int .i64 ((rd_T37 l0_3 x30_2).f1.f2)) ∧ w'.cell? ⟨gb106, 6, none⟩ = some (.int .i64 ((rd_T37 l0_3 x30_2).f1.f3)) ∧ w'.cell? ⟨gb106, 7, none⟩ = some (.slice A105_7 ((rd_T37 l0_3 x30_2).f1.f4).length c105_7) ∧ w'.cell? ⟨gb106, 8, none⟩ = some (.bool ((rd_T37 l0_3 x30_2).f1.f5)) ∧ w'.cell? ⟨gb106, 9, none⟩ = some (.int .i64 ((rd_T37 l0_3 x30_2).f2)) ∧ w'.cell? ⟨gb106, 10, none⟩ = some (.bool ((rd_T37 l0_3 x30_2).f3)) ∧ w'.cell? (ad105.add (((ji77)).toNat * 11)) = some (.string ((rd_T37 l0_3 (ji77)).f0.f0)) ∧ w'.cell? ⟨(ad105.add (((ji77)).toNat * 11)).block, (ad105.add (((ji77)).toNat * 11)).off + 1, none⟩ = some (.slice A110_1 ((rd_T37 l0_3 (ji77)).f0.f1).length c110_1) ∧ w'.cell? ⟨(ad105.add (((ji77)).toNat * 11)).block, (ad105.add (((ji77)).toNat * 11)).off + 2, none⟩ = some (.int .i64 ((rd_T37 l0_3 (ji77)).f0.f2)) ∧ w'.cell? ⟨(ad105.add (((ji77)).toNat * 11)).block, (ad105.add (((ji77)).toNat * 11)).off + 3, none⟩ = some (.int .i64 ((rd_T37 l0_3 (ji77)).f1.f0)) ∧ w'.cell? ⟨(ad105.add (((ji77)).toNat * 11)).block, (ad105.add (((ji77)).toNat * 11)).off + 4, none⟩ = some (.int .i64 ((rd_T37 l0_3 (ji77)).f1.f1)) ∧ w'.cell? ⟨(ad105.add (((ji77)).toNat * 11)).block, (ad105.add (((ji77)).toNat * 11)).off + 5, none⟩ = some (.int .i64 ((rd_T37 l0_3 (ji77)).f1.f2)) ∧ w'.cell? ⟨(ad105.add (((ji77)).toNat * 11)).block, (ad105.add (((ji77)).toNat * 11)).off + 6, none⟩ = some (.int .i64 ((rd_T37 l0_3 (ji77)).f1.f3)) ∧ w'.cell? ⟨(ad105.add (((ji77)).toNat * 11)).block, (ad105.add (((ji77)).toNat * 11)).off + 7, none⟩ = some (.slice A110_7 ((rd_T37 l0_3 (ji77)).f1.f4).length c110_7) ∧ w'.cell? ⟨(ad105.add (((ji77)).toNat * 11)).block, (ad105.add (((ji77)).toNat * 11)).off + 8, none⟩ = some (.bool ((rd_T37 l0_3 (ji77)).f1.f5)) ∧ w'.cell? ⟨(ad105.add (((ji77)).toNat * 11)).block, (ad105.add (((ji77)).toNat * 11)).off + 9, none⟩ = some (.int .i64 ((rd_T37 l0_3 (ji77)).f2)) ∧ w'.cell? ⟨(ad105.add (((ji77)).toNat * 11)).block, (ad105.add (((ji77)).toNat * 11)).off + 10, none⟩ = some (.bool ((rd_T37 l0_3 (ji77)).f3))) [] (fun hHeld HT_ HW_ => ?_)
                 generalize wc.drew = w84 at BK101 BK106 HB HR110_1 HR110_7 hx110_0 hx110_1 hx110_10 hx110_2 hx110_3 hx110_4 hx110_5 hx110_6 hx110_7 hx110_8 hx110_9 hHeld ⊢
                 refine pA 0 76 HT_ ?_; refine pA 1 77 HT_ ?_; refine pA 2 78 HT_ ?_; refine pA 3 79 HT_ ?_; refine pA 5 81 HT_ ?_; refine pA 6 82 HT_ ?_; refine pA 10 86 HT_ ?_; refine tA 4 80 HT_ HW_ hHeld ?_; refine pA 7 83 HT_ ?_; refine pA 8 84 HT_ ?_; refine tA 9 85 HT_ HW_ hHeld ?_; refine tA 11 87 HT_ HW_ hHeld ?_; refine oA 12 88 HT_ (fun K hK => ?_)
                 refine goes_ Tryd.func72 (by kernel_rfl) rfl #[.agg #[.string ((rd_T37 l0_3 (ji77)).f0.f0), .slice A110_1 ((rd_T37 l0_3 (ji77)).f0.f1).length c110_1, .int .i64 ((rd_T37 l0_3 (ji77)).f0.f2)], .agg #[.string ((rd_T37 l0_3 x30_2).f0.f0), .slice A105_1 ((rd_T37 l0_3 x30_2).f0.f1).length c105_1, .int .i64 ((rd_T37 l0_3 x30_2).f0.f2)]] (by rfl) rfl rfl (by (try simp only [List.map_toArray, List.map_cons, List.map_nil]); first | done | (simp only [hji77]; rfl) | rfl | (simp only [List.length_drop, List.length_take]; rfl)) ?_
                 with_reducible refine (impl_CompareKeys.calls kj18 ((rd_T37 l0_3 (ji77)).f0.f0) _ _ ((rd_T37 l0_3 (ji77)).f0.f1) ((rd_T37 l0_3 (ji77)).f0.f2) ((rd_T37 l0_3 x30_2).f0.f0) _ _ ((rd_T37 l0_3 x30_2).f0.f1) ((rd_T37 l0_3 x30_2).f0.f2) t111 _ ?side1 ?side2 ?side3 ?side4 A80.out).mono ?_
                 (case side1 => exact (cZ (Kd.C_below HR110_1.out HB.out)))
                 (case side2 => exact HC110_1.out)
                 (case side3 => exact (cZ (Kd.C_below HR105_1.out HB.out)))
                 (case side4 => exact HC105_1.out)
                 rintro e w85 ⟨rfl, hb⟩
                 refine ⟨_, rfl, ?_⟩
                 have _ := bB gb101 hb
                 have _ := bB gb106 hb
                 have _ := aM (below_step hbZ hb)
                 clear BK101
                 clear BK106
                 clear HB
                 rename_i BK101 BK106 HB
                 (try clear hb)
                 (try clear hb2)
                 (try clear hk)
                 (try clear hi)
                 refine hK.out _ _ sZ (fun hHeld => ?_)
                 clear hK K
                 refine nA 88 ?_; refine pA 13 89 HT_ ?_; refine pA 14 90 HT_ ?_
                 refine done_ (done_of HT_.out (by kernel_rfl)) ?_
                 try go_wp2
                 go_roundg kj18
                 case measure => have := HJ1.out; have := HK2.out; have := HJ18.out; omega
                 case rel => exact ⟨(wrap64 (x30_2 + 1)), z4458, H', ⟨by have := HJ1.out; have := HK2.out; have := HJ18.out; omega⟩, ⟨bkZ⟩, ⟨zcb41⟩⟩
             · rw [if_neg c76] at H
               have c76b0 : decide (0 < x30_2) = false := decide_eq_false c76
               clear c76
               have H' := aM H
               clear H
               try go_wp2
               have _ := aM (blk_drew BK101.out)
               have _ := aM (blk_drew BK106.out)
               have _ := aM (below_drew1 HB.out)
               clear BK101
               clear BK106
               clear HB
               rename_i BK101 BK106 HB
               refine sA 15 impl_GoodBoard.tab8 impl_GoodBoard.bits8 (fun w' => True) [] (fun hHeld HT_ HW_ => ?_)
               generalize wc.drew = w86 at BK101 BK106 HB hHeld ⊢
               refine pA 0 76 HT_ ?_; refine pA 1 77 HT_ ?_; refine pA 2 78 HT_ ?_; refine uA 3 79 HT_ ?_; refine uA 4 80 HT_ ?_; refine uA 5 81 HT_ ?_; refine uA 6 82 HT_ ?_; refine uA 7 83 HT_ ?_; refine uA 8 84 HT_ ?_; refine uA 9 85 HT_ ?_; refine uA 10 86 HT_ ?_; refine uA 11 87 HT_ ?_; refine uA 12 88 HT_ ?_; refine uA 13 89 HT_ ?_; refine pA 14 90 HT_ ?_
               refine done_ (done_of HT_.out (by kernel_rfl)) ?_
               try go_wp2
               go_roundg kj18
               case measure => have := HJ1.out; have := HK2.out; have := HJ18.out; omega
               case rel => exact ⟨(wrap64 (x30_2 + 1)), z4458, H', ⟨by have := HJ1.out; have := HK2.out; have := HJ18.out; omega⟩, ⟨bkZ⟩, ⟨zcb41⟩⟩
       · rw [if_neg c16] at H
         have c16b0 : decide (x30_2 < (l0_3.length : Int)) = false := decide_eq_false c16
         clear c16
         obtain rfl := Option.some.inj H
         go_wp2
         go_ret
         exact ⟨z674d, zcb41⟩

end Go.Proofs.YtkgmoajdcibafaaDoor.P

-- written by a program of this session's (wip/pp)
namespace Go.Proofs.YtkgmoajdcibafaaDoor.P
open Go.RowKit Go.Proofs.YtkgmoajdcibafaaDoorW.PrintWords Go.Proofs.YtkgmoajdcibafaaDoorW.PrintLast Go.Proofs.YtkgmoajdcibafaaDoorW.PrintMore
attribute [local go_sem] max2_int min2_int max_two min_two max_three min_three max_four min_four str_geq str_gtr str_leq   -- for this text's walks alone
set_option linter.unusedVariables false
set_option linter.unusedSimpArgs false

/-! ### impl_Tag_101: function 101 -/
def impl_Tag_101.f (l0 : List (S123)) : Option ((List (S123))) := (some (([] : List (S123)) : List (S123))).bind fun y101 => (if y101.length + l0.length < 4398046511104 then (some (y101 ++ l0)) else (none))
set_option maxHeartbeats 8000000 in
set_option maxRecDepth 100000 in
theorem impl_Tag_101.callsN (A0 : Option Addr) (c0 : Nat) (l0 : List (S123)) (r : List (S123)) (w : World) (hr0 : Kd.C k123 w A0 l0.length l0) (hc0 : l0.length ≤ c0) (hn0 : A0 ≠ none) (h : impl_Tag_101.f l0 = some r) :
 Calls Tryd.prog 101 #[.slice A0 l0.length c0] w fun e w' => ∃ v0_ : Value, e = .returned (v0_) ∧ Kd.R k123 123 w' w.heap.size (fun _ => True) v0_ r ∧ Below w.heap.size w w' := by
 have HR0 := aM hr0
 have HC0 := aM hc0
 clear hr0 hc0
 have HB := aM (Below.refl w.heap.size w)
 have H : ((some (([] : List (S123)) : List (S123))).bind fun y101 => (if y101.length + l0.length < 4398046511104 then (some (y101 ++ l0)) else (none))) = some r := h
 clear h
 have hnil_ : ∀ W_ : World, (Go.binOp .eql 30 (.slice A0 l0.length c0) (.slice none 0 0)).run Tryd.prog W_ = .ok (.bool false) W_ := fun W_ => by have hz_ : A0.isNone = false := (by cases A0 with | none => exact absurd rfl hn0 | some _ => rfl); have hy_ := Go.Lib.run_eql_slice_nil (P := Tryd.prog) W_ 30 123 A0 l0.length c0 0 0 Tryd.underlying30; rw [hz_] at hy_; exact hy_
 obtain ⟨y101, hy101⟩ : ∃ y_ : List (S123), y_ = (([] : List (S123))) := ⟨_, rfl⟩
 first | (replace H := bindS H; rw [← hy101] at H; dsimp only at H) | rw [← hy101] at H
 have Ny101 := aM hy101
 clear hy101
 replace H := ifS H; obtain ⟨c2, H⟩ := H
 have LMc2 := aM c2
 clear c2
 obtain ⟨y104, hy104⟩ : ∃ y_ : List (S123), y_ = (y101 ++ l0) := ⟨_, rfl⟩
 first | (replace H := bindS H; rw [← hy104] at H; dsimp only at H) | rw [← hy104] at H
 have Ny104 := aM hy104
 clear hy104
 obtain rfl := Option.some.inj H
 go_enter Tryd.func101, Tryd.ntmps101
 go_wp2_with (first | ((with_reducible refine gate_dst (N := 5) rfl ?_); refine Kd.R_lit k123 _ 123 ?hg (N := 5) ?hd (xs := ([] : List (S123))) (inner := []) (ok := fun _ => True) (okp := fun _ => True) ?hr ?hp (fun _ hk => hk) trivial (Below.refl _ _) (Nat.le_refl _) (by simp) ?_; (case hd => rfl); (case hg => rfl); (case hr => first | (go_simp; done) | (go_simp; rfl)); (case hp => exact (Reps.none _ _)); intro v102 w3 ho4 hb hg_ hnew_; clear hg_ hnew_; (first | rw [← Ny101.out] at ho4 | (simp only [Int.reduceToNat] at ho4; rw [← Ny101.out] at ho4)); have _ := aM (Kd.R_lower ho4 (below_size hbZ)); have _ := aM (below_step hbZ hb); clear HB; rename_i HO103 HB; clear hb ho4) | ((with_reducible refine gate_builtin (b := .append) (xs := #[.tmp 5, .tmp 6]) rfl ?_); at_builtin; refine Kd.R_append_rows k123 (w0 := w) w.heap.size rfl (.tmp 5) (.tmp 6) 30 123 (.agg #[(.string ⟨#[]⟩), (.string ⟨#[]⟩)]) 32 rfl Tryd.underlying30 info123 rfl (by decide) (by omega) v102 y101 l0 _ _ _ (fun _ => True) (fun _ => False) rfl rfl ?aO ?aR (fun _ _ h => h) (fun _ h => h.elim) ?aF ?aB ?aS ?aL ?_; (case aR => repeat (first | exact (Kd.C_below HR0.out HB.out) | (with_reducible refine Kd.C_alloc ?_ _) | (with_reducible refine Kd.C_drewN ?_ _) | (with_reducible refine Kd.C_drew ?_))); (case aB => exact hbZ); (case aF => exact (fun _ _ => trivial)); (case aO => exact (rZ HO103.out)); (case aS => exact (below_size hbZ)); (case aL => have := LMc2.out; omega); intro v105 w5 ho hb hg hat; rw [← Ny104.out] at ho; have _ := aM hb; have _ := aM ho; clear HB HO103; rename_i HB HO106; clear ho hb hg hat))
 go_ret
 exact ⟨_, z674d, rZ HO106.out, z5acd⟩
set_option maxHeartbeats 400000 in
theorem impl_Tag_101.calls (A0 : Option Addr) (c0 : Nat) (l0 : List (S123)) (r : List (S123)) (w : World) (hr0 : Kd.C k123 w A0 l0.length l0) (hc0 : l0.length ≤ c0) (h : impl_Tag_101.f l0 = some r) :
 Calls Tryd.prog 101 #[.slice A0 l0.length c0] w fun e w' => ∃ v0_ : Value, e = .returned (v0_) ∧ Kd.R k123 123 w' w.heap.size (fun _ => True) v0_ r ∧ Below w.heap.size w w' := by
 by_cases hA_ : A0 = none
 · subst hA_
   have hl_ : l0 = [] := by
    rcases Nat.eq_zero_or_pos l0.length with hz | hz
    · exact List.eq_nil_of_length_eq_zero hz
    · obtain ⟨ad, e, _⟩ := hr0.2.2 hz; cases e
   subst hl_
   have hr_ : r = [] := by
    have h2 := h
    simp [impl_Tag_101.f] at h2
    first | exact h2 | exact h2.symm
   subst hr_
   have hnil_ := fun W_ : World => Go.Lib.run_eql_slice_nil (P := Tryd.prog) W_ 30 123 none 0 c0 0 0 Tryd.underlying30
   go_enter Tryd.func101, Tryd.ntmps101
   go_wp2
   go_ret
   exact ⟨_, rfl, Kd.R_nil _ _ _ _ _, Below.refl _ _⟩
 · exact impl_Tag_101.callsN A0 c0 l0 r w hr0 hc0 hA_ h

end Go.Proofs.YtkgmoajdcibafaaDoor.P

-- written by a program of this session's (wip/pp)
namespace Go.Proofs.YtkgmoajdcibafaaDoor.P
open Go.RowKit Go.Proofs.YtkgmoajdcibafaaDoorW.PrintWords Go.Proofs.YtkgmoajdcibafaaDoorW.PrintLast Go.Proofs.YtkgmoajdcibafaaDoorW.PrintMore
attribute [local go_sem] max2_int min2_int max_two min_two max_three min_three max_four min_four str_geq str_gtr str_leq   -- for this text's walks alone
set_option linter.unusedVariables false
set_option linter.unusedSimpArgs false

/-! ### impl_Key_cloned: function 68 -/
def impl_Key_cloned.f (a0_0 : ByteArray) (l0_1 : List (S123)) (a0_2 : Int) : Option (ByteArray × (List (S123)) × Int) := (impl_Tag_101.f l0_1).bind fun t103 => (some (a0_0, t103, a0_2))
set_option maxHeartbeats 8000000 in
set_option maxRecDepth 100000 in
theorem impl_Key_cloned.calls (a0_0 : ByteArray) (A0_1 : Option Addr) (c0_1 : Nat) (l0_1 : List (S123)) (a0_2 : Int) (r1 : ByteArray) (r2 : List (S123)) (r3 : Int) (w : World) (hr0_1 : Kd.C k123 w A0_1 l0_1.length l0_1) (hc0_1 : l0_1.length ≤ c0_1) (h : impl_Key_cloned.f a0_0 l0_1 a0_2 = some (r1, r2, r3)) :
 Calls Tryd.prog 68 #[.agg #[.string a0_0, .slice A0_1 l0_1.length c0_1, .int .i64 a0_2]] w fun e w' => ∃ v1_ : Value, e = .returned (.agg #[.string r1, v1_, .int .i64 r3]) ∧ Kd.R k123 123 w' w.heap.size (fun _ => True) v1_ r2 ∧ Below w.heap.size w w' := by
 have hu32 := Tryd.underlying32
 have HR0_1 := aM hr0_1
 have HC0_1 := aM hc0_1
 clear hr0_1 hc0_1
 have HB := aM (Below.refl w.heap.size w)
 have H : ((impl_Tag_101.f l0_1).bind fun t103 => (some (a0_0, t103, a0_2))) = some (r1, r2, r3) := h
 clear h
 replace H := Option.bind_eq_some_iff.mp H
 obtain ⟨t103, A20, H⟩ := H
 try dsimp only at H
 have A2 := aM A20
 clear A20
 simp only [Option.some.injEq, Prod.mk.injEq] at H
 obtain ⟨rfl, rfl, rfl⟩ := H
 go_enter Tryd.func68, Tryd.ntmps68
 go_wp2_with (first | ((with_reducible refine gate_dst (N := 1) rfl ?_); refine box_event ?hg (N := 1) ?hd (cs := #[.string a0_0, .slice A0_1 l0_1.length c0_1, .int .i64 a0_2]) (t := 32) ?hr ?_; (case hd => rfl); (case hg => rfl); (case hr => first | (go_simp; done) | (go_simp; rfl)); intro gb101 hg w3 hbox hb; have _ := aM (below_step hbZ hb); have _ := aM hbox; have _ := szZ hg; have _ := szZ hg; clear HB; rename_i HB BK101 GW101 GE101; clear hb hbox hg) | ((with_reducible refine gate_dst (N := 2) rfl ?_); refine box_event ?hg (N := 2) ?hd (cs := #[.string (⟨#[]⟩ : ByteArray), .slice none 0 0, .int .i64 0]) (t := 32) ?hr ?_; (case hd => rfl); (case hg => rfl); (case hr => first | (go_simp; done) | (go_simp; rfl)); intro gb102 hg w4 hbox hb; have _ := bB gb101 hb; have _ := aM (below_step hbZ hb); have _ := aM hbox; have _ := szZ hg; have _ := szZ hg; have ⟨_, _⟩ := nbB gb101 hg; clear BK101 HB; rename_i BK101 HB BK102 GW102 GE102 NB101_102 NB102_101; clear hb hbox hg; have hnb5 := NB101_102.out; have hnc5 := NB102_101.out; obtain ⟨hcz6_0, hcz6_1, hcz6_2, hfz6_0, hfz6_1, hfz6_2⟩ := cellsZ3 BK101.out) | ((with_reducible refine gate_callee (f := 101) rfl ?_); refine goesL_ (some 5) rfl rfl Tryd.func101 (by kernel_rfl) rfl #[.slice A0_1 l0_1.length c0_1] rfl zee81 ?_; (with_reducible refine (impl_Tag_101.calls _ _ l0_1 t103 _ ?side1 ?side2 A2.out).mono ?_); (case side1 => exact (cZ (Kd.C_below HR0_1.out HB.out))); (case side2 => exact HC0_1.out); rintro e w7 ⟨v104, rfl, ho0, hb⟩; refine ⟨_, rfl, ?_⟩; have _ := aM (Kd.R_lower ho0 (below_size hbZ)); have _ := bB gb101 hb; have _ := bB gb102 hb; have _ := aM (below_step hbZ hb); clear BK101 BK102 HB; rename_i HO105 BK101 BK102 HB; (try clear hb); (try clear ho0); obtain ⟨Ao8, co8, eo8⟩ := Kd.R_slice HO105.out; subst eo8; obtain ⟨hcz9_0, hcz9_1, hcz9_2, hfz9_0, hfz9_1, hfz9_2⟩ := cellsZ3 BK101.out; obtain ⟨hcz10_0, hcz10_1, hcz10_2, hfz10_0, hfz10_1, hfz10_2⟩ := cellsZ3 BK102.out))
 refine bodyPost_ret (results_cell_row rfl _ _ gb102 32 #[.string a0_0, .slice Ao8 t103.length co8, .int .i64 a0_2] (0, 0) _ rfl bkZ Tryd.underlying32 rfl (by kernel_rfl)) rfl ?_
 exact ⟨_, z674d, by (with_reducible repeat (first | apply Kd.R_alloc | apply Kd.R_drewN | apply Kd.R_drew)); exact Kd.R_mono (Kd.R_far (p := ⟨gb102, 2, none⟩) (Kd.R_far (p := ⟨gb102, 1, none⟩) (Kd.R_far (p := ⟨gb102, 0, none⟩) (Kd.R_far (p := ⟨gb101, 1, none⟩) (Kd.R_types (Kd.R_types HO105.out BK101.out (by decide)) BK102.out (by decide)) (fun _ hk => hk.1.2) (.slice Ao8 t103.length co8)) (fun _ hk => hk.2) (.string a0_0)) (fun _ hk => hk.2) (.slice Ao8 t103.length co8)) (fun _ hk => hk.2) (.int .i64 a0_2)) (fun _ hk => trivial), zcb41⟩

end Go.Proofs.YtkgmoajdcibafaaDoor.P
