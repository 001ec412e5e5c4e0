/- Part 3 of the walks and words that AF uses. No conditions of its own. -/
import Derived.Deep.RegionHeld3
import Derived.Laws.BitsAllLaws
import Derived.ChangeArms
import Derived.ChangeSlices
import Derived.DataReads
import Derived.Test.YtmlclmbplbbbhaaDoorMAF2

-- written by a program of this session's (wip/pp)
namespace Go.Proofs.YtmlclmbplbbbhaaDoor.P
open Go.RowKit Go.Proofs.YtmlclmbplbbbhaaDoorW.PrintWords Go.Proofs.YtmlclmbplbbbhaaDoorW.PrintLast Go.Proofs.YtmlclmbplbbbhaaDoorW.PrintMore
attribute [local go_sem] max2_int min2_int max_two min_two max_three min_three max_four min_four str_geq str_gtr str_leq   -- for this text's walks alone
set_option linter.unusedVariables false
set_option linter.unusedSimpArgs false

/-! ### spec_GoodFiles: function 34 -/
mutual
def spec_GoodFiles.j0 : Nat → Bool → Int → List (S53) → Option (Bool)
 | 0, _, _, _ => none
 | k + 1, x14, x102000, x102001 => if x14 = true then (some false) else (spec_GoodFiles.l0 k x102001 (x102001.length : Int) 0 x102000 x102001)
def spec_GoodFiles.l0 : Nat → List (S53) → Int → Int → Int → List (S53) → Option (Bool)
 | 0, _, _, _, _, _ => none
 | k + 1, x16, x17, x18, x102000, x102001 => if x18 < x17 then (if 0 ≤ x18 then (if x18 < (x16.length : Int) then ((spec_l2Name.f k ((rd_T53 x16 x18).f0)).bind fun t106 => (if t106 = true then (if x18 > 0 then (if 0 ≤ (wrap64 (x18 - 1)) then (if (wrap64 (x18 - 1)) < (x102001.length : Int) then (if ((Op.bytesLess (((rd_T53 x102001 (wrap64 (x18 - 1))).f0).toList) (((rd_T53 x16 x18).f0).toList)) = true) then ((spec_l1In.f ((rd_T53 x16 x18).f2) 0 (((rd_T53 x16 x18).f1).length : Int)).bind fun t108 => (if t108 = true then (spec_GoodFiles.l0 k x16 x17 (wrap64 (x18 + 1)) x102000 x102001) else (some false))) else (some false)) else (none)) else (none)) else ((spec_l1In.f ((rd_T53 x16 x18).f2) 0 (((rd_T53 x16 x18).f1).length : Int)).bind fun t109 => (if t109 = true then (spec_GoodFiles.l0 k x16 x17 (wrap64 (x18 + 1)) x102000 x102001) else (some false)))) else (some false))) else (none)) else (none)) else ((spec_l2Used.f k x102000 x102001).bind fun t103 => (some (decide (t103 ≤ x102000))))
end
def spec_GoodFiles.f (k : Nat) (a0_0 : Int) (l0_1 : List (S53)) : Option (Bool) := (spec_l1In.f a0_0 0 60000).bind fun t102 => (if t102 = true then (spec_GoodFiles.j0 k (decide ((l0_1.length : Int) > 40)) a0_0 l0_1) else (spec_GoodFiles.j0 k true a0_0 l0_1))
theorem spec_GoodFiles.mono_l : ∀ k, (∀ y0 y1 y2, LeO (spec_GoodFiles.j0 k y0 y1 y2) (spec_GoodFiles.j0 (k + 1) y0 y1 y2)) ∧ (∀ y0 y1 y2 y3 y4, LeO (spec_GoodFiles.l0 k y0 y1 y2 y3 y4) (spec_GoodFiles.l0 (k + 1) y0 y1 y2 y3 y4))
 | 0 => ⟨fun _ _ _ r h => by simp [spec_GoodFiles.j0] at h, fun _ _ _ _ _ r h => by simp [spec_GoodFiles.l0] at h⟩
 | k + 1 => by
  obtain ⟨ih0, ih1⟩ := spec_GoodFiles.mono_l k; have m0 := @spec_l2Name.mono; have m1 := @spec_l2Used.mono
  refine ⟨?_, ?_⟩
  · intro y0 y1 y2
    unfold spec_GoodFiles.j0
    exact moZ
  · intro y0 y1 y2 y3 y4
    unfold spec_GoodFiles.l0
    exact moZ
theorem spec_GoodFiles.mono : ∀ a0 a1 k, LeO (spec_GoodFiles.f k a0 a1) (spec_GoodFiles.f (k + 1) a0 a1) := by
 intro a0 a1 k
 obtain ⟨ih0, ih1⟩ := spec_GoodFiles.mono_l k
 have m0 := @spec_l2Name.mono; have m1 := @spec_l2Used.mono
 unfold spec_GoodFiles.f
 exact moZ
def spec_GoodFiles.T6 : Bool × List (List Nat × List Nat) := (true, [([], []), ([0], [0]), ([1], [1]), ([2], [2]), ([3, 2], [3]), ([4], [4]), ([5, 4], [4, 5]), ([6, 4, 4], [4, 6]), ([7], [7]), ([8, 7], [7, 8]), ([7], [7]), ([10, 7], [7, 10]), ([9, 11, 7], [7, 9, 11]), ([12, 7], [7, 12]), ([13, 7], [7, 13]), ([7], [7]), ([15, 7], [7, 15]), ([14, 16, 7], [7, 14, 16]), ([7, 17, 4], [4, 7, 17]), ([4, 18], [4, 18]), ([19, 7], [19]), ([20], [20]), ([21, 20], [20, 21]), ([20], [20]), ([23, 20], [20, 23]), ([24, 20], [20, 24]), ([22, 25, 20, 20], [20, 22, 25]), ([26, 20], [20, 26]), ([20, 27], [20, 27])])
def spec_GoodFiles.B6 : List Nat := [0, 1, 3, 7, 15, 31, 63, 127, 255, 511, 255, 1279, 4095, 8191, 16383, 255, 33023, 131071, 262143, 524287, 1048575, 2097151, 4194303, 2097151, 10485759, 27262975, 67108863, 134217727, 268435455]
theorem spec_GoodFiles.tab6 : rtab .any (opsOf Tryd.f34 6) = spec_GoodFiles.T6 := by kernel_rfl
theorem spec_GoodFiles.bits6 : waitsOk spec_GoodFiles.T6.2 spec_GoodFiles.B6 = true := by kernel_rfl
set_option maxHeartbeats 8000000 in
set_option maxRecDepth 100000 in
theorem spec_GoodFiles.calls (k : Nat) (a0_0 : Int) (A0_1 : Option Addr) (c0_1 : Nat) (l0_1 : List (S53)) (r : Bool) (w : World) (hr0_1 : Kd.C k53 w A0_1 l0_1.length l0_1) (hc0_1 : l0_1.length ≤ c0_1) (h : spec_GoodFiles.f k a0_0 l0_1 = some r) :
 Calls Tryd.prog 34 #[.agg #[.int .i64 a0_0, .slice A0_1 l0_1.length c0_1]] w fun e w' => e = .returned (.bool r) ∧ Below w.heap.size w w' := by
 have hu29 := Tryd.underlying29
 have hu53 := Tryd.underlying53
 have HR0_1 := aM hr0_1
 have HC0_1 := aM hc0_1
 clear hr0_1 hc0_1
 have HB := aM (Below.refl w.heap.size w)
 have H : ((spec_l1In.f a0_0 0 60000).bind fun t102 => (if t102 = true then (spec_GoodFiles.j0 k (decide ((l0_1.length : Int) > 40)) a0_0 l0_1) else (spec_GoodFiles.j0 k true a0_0 l0_1))) = some r := h
 clear h
 have HC2 := aM H
 clear H
 go_enter Tryd.func34, Tryd.ntmps34
 go_upto_region 1 with (first | ((with_reducible refine gate_dst (N := 1) rfl ?_); (try (refine gate_guard (by rfl) ?_; dsimp only)); refine bX 1 29 #[.int .i64 a0_0, .slice A0_1 l0_1.length c0_1] ?_; intro gb101 hg w3 hbox hb; have _ := aM (below_step hbZ hb); have _ := aM hbox; have _ := szZ hg; have _ := szZ hg; clear HB; rename_i HB BK101 GW101 GE101; clear hb hbox hg))
 (try simp only [Act.put, List.setIfInBounds_toArray, List.set_cons_zero, List.set_cons_succ])
 go_cut [14] (fun v14 wc => ∃ (kq : Nat) (x14_1 : Bool), v14 = .bool x14_1 ∧ Aside0 (spec_GoodFiles.j0 kq x14_1 a0_0 l0_1 = some r) ∧ Aside0 (kq ≤ k) ∧ Aside0 (wc.heap[gb101]? = some (.cells #[.int .i64 a0_0, (.slice A0_1 l0_1.length c0_1)] 29 (0, 0))) ∧ Aside0 (Below w.heap.size w wc))
 case first =>
  have H := HC2.out
  clear HC2
  obtain ⟨t102, A4, H⟩ := bS H; try dsimp only at H
  by_cases c5 : t102 = true
  · subst c5
    rw [if_pos rfl] at H
    have H' := aM H
    clear H
    have hz6 := cellsZ2 BK101.out
    go_wp2_with (first | ((with_reducible refine gate_callee (f := 65) rfl ?_); refine gL 7 Tryd.func65 #[.int .i64 a0_0, .int .i64 0, .int .i64 60000] ?_; (with_reducible refine (spec_l1In.calls a0_0 0 60000 true _ A4.out).mono ?_); rintro e w' ⟨rfl, ⟨nd, rfl⟩⟩; refine ⟨_, rfl, ?_⟩))
    go_meet
    case rel => exact ⟨_, (decide ((l0_1.length : Int) > 40)), z4458, H', ⟨zb79b⟩, ⟨bkZ⟩, ⟨zcb41⟩⟩
  · replace c5 := Bool.eq_false_iff.mpr c5
    subst c5
    rw [if_neg (show ¬ (false = true) by decide)] at H
    have H' := aM H
    clear H
    have hz7 := cellsZ2 BK101.out
    go_wp2_with (first | ((with_reducible refine gate_callee (f := 65) rfl ?_); refine gL 7 Tryd.func65 #[.int .i64 a0_0, .int .i64 0, .int .i64 60000] ?_; (with_reducible refine (spec_l1In.calls a0_0 0 60000 false _ A4.out).mono ?_); rintro e w' ⟨rfl, ⟨nd, rfl⟩⟩; refine ⟨_, rfl, ?_⟩))
    go_meet
    case rel => exact ⟨_, (true), z4458, H', ⟨zb79b⟩, ⟨bkZ⟩, ⟨zcb41⟩⟩
 case rest =>
  clear HC2
  obtain ⟨kq, x14_1, rfl, HA, HJ1, BK101, HB⟩ := hcut
  cases kq with
  | zero => exact absurd HA.out (by simp [spec_GoodFiles.j0])
  | succ kj1 =>
   have H := HA.out
   clear HA
   simp only [spec_GoodFiles.j0] at H
   by_cases c8 : x14_1 = true
   · subst c8
     rw [if_pos rfl] at H
     obtain rfl := Option.some.inj H
     go_wp2
     go_ret
     exact ⟨z674d, zcb41⟩
   · replace c8 := Bool.eq_false_iff.mpr c8
     subst c8
     rw [if_neg (show ¬ (false = true) by decide)] at H
     have H' := aM H
     clear H
     have hz9 := cellsZ2 BK101.out
     go_wp2
     go_loopg [18] kj1 (fun kq v18 w' => ∃ (x18_2 : Int), v18 = .int .i64 x18_2 ∧ Aside0 (spec_GoodFiles.l0 kq l0_1 (l0_1.length : Int) x18_2 a0_0 l0_1 = some r) ∧ Aside0 (kq ≤ kj1) ∧ Aside0 (w'.heap[gb101]? = some (.cells #[.int .i64 a0_0, (.slice A0_1 l0_1.length c0_1)] 29 (0, 0))) ∧ Aside0 (Below w.heap.size w w'))
     case atStart => exact ⟨(0), z4458, H', ⟨Nat.le_refl _⟩, ⟨bkZ⟩, ⟨zcb41⟩⟩
     case round =>
      clear H'
      (try clear c8); (try clear hz9)
      obtain ⟨x18_2, rfl, HA, HK2, BK101, HB⟩ := hrel
      cases gk with
      | zero => exact absurd HA.out (by simp [spec_GoodFiles.l0])
      | succ k2 =>
       have H := HA.out
       clear HA
       simp only [spec_GoodFiles.l0] at H
       by_cases c10 : x18_2 < (l0_1.length : Int)
       · rw [if_pos c10] at H
         have c10b0 := dL c10
         clear c10
         obtain ⟨c11b0, H⟩ := sE H
         obtain ⟨c12b0, H⟩ := sL H
         obtain ⟨t106, A13, H⟩ := bS H; try dsimp only at H
         by_cases c14 : t106 = true
         · subst c14
           rw [if_pos rfl] at H
           by_cases c15 : x18_2 > 0
           · rw [if_pos c15] at H
             have c15b0 := dL c15
             clear c15
             obtain ⟨ji16, hji16⟩ : ∃ j_ : Int, (wrap64 (x18_2 - 1)) = j_ := ⟨_, rfl⟩
             replace H : (if 0 ≤ (ji16) then (if (ji16) < (l0_1.length : Int) then (if ((Op.bytesLess (((rd_T53 l0_1 (ji16)).f0).toList) (((rd_T53 l0_1 x18_2).f0).toList)) = true) then ((spec_l1In.f ((rd_T53 l0_1 x18_2).f2) 0 (((rd_T53 l0_1 x18_2).f1).length : Int)).bind fun t108 => (if t108 = true then (spec_GoodFiles.l0 k2 l0_1 (l0_1.length : Int) (wrap64 (x18_2 + 1)) a0_0 l0_1) else (some false))) else (some false)) else (none)) else (none)) = some r := by first | (rw [hji16] at H; exact H) | (simp only [hji16] at H ⊢; exact H)
             (try rw [hji16] at A13)
             have hji16w : (IntKind.i64.wrap (x18_2 - 1)) = ji16 := (i64_w _).trans hji16
             obtain ⟨c17b0, H⟩ := sE H
             obtain ⟨c18b0, H⟩ := sL H
             by_cases c19 : ((Op.bytesLess (((rd_T53 l0_1 (ji16)).f0).toList) (((rd_T53 l0_1 x18_2).f0).toList)) = true)
             · rw [if_pos c19] at H
               have c19b0 : (Op.bytesLess (((rd_T53 l0_1 (ji16)).f0).toList) (((rd_T53 l0_1 x18_2).f0).toList)) = true := c19
               clear c19
               obtain ⟨t108, A20, H⟩ := bS H; try dsimp only at H
               by_cases c21 : t108 = true
               · subst c21
                 rw [if_pos rfl] at H
                 have H' := aM H
                 clear H
                 have p104 : 0 ≤ (x18_2 : Int) := of_decide_eq_true z1200
                 have q104 : x18_2 < (l0_1.length : Int) := of_decide_eq_true z1200
                 obtain ⟨ad104, A104_1, c104_1, e104, hx104_0, hx104_1, hx104_2, hl104_1, hi104_1⟩ := at_T53 HR0_1.out x18_2 p104 q104
                 cases e104
                 have TW104_1 := aM hx104_1
                 replace hx104_0 := (HB.out.cell (World.block_lt_of_cell? w _ hx104_0)).trans hx104_0
                 replace hx104_1 := (HB.out.cell (World.block_lt_of_cell? w _ hx104_1)).trans hx104_1
                 replace hx104_2 := (HB.out.cell (World.block_lt_of_cell? w _ hx104_2)).trans hx104_2
                 have HR104_1 := aM hi104_1
                 have HC104_1 := aM hl104_1
                 clear hi104_1 hl104_1
                 replace p104 := eq_true p104
                 replace q104 := eq_true q104
                 try go_wp2_with (first | ((with_reducible refine gate_dst (N := 4) rfl ?_); (try (refine gate_guard (by rfl) ?_; dsimp only)); refine bX 4 53 #[.string (⟨#[]⟩ : ByteArray), .slice none 0 0, .int .i64 0] ?_; intro gb105 hg w22 hbox hb; have _ := bB gb101 hb; have _ := aM (below_step hbZ hb); have _ := aM hbox; have _ := szZ hg; have _ := szZ hg; have ⟨_, _⟩ := nbB gb101 hg; clear BK101 HB; rename_i BK101 HB BK105 GW105 GE105 NB101_105 NB105_101; clear hb hbox hg; have hnb23 := NB105_101.out; have hnc23 := NB101_105.out; have hz24 := cellsZ3 BK105.out))
                 have n0_ : Aside0 ((((w22.setCell ⟨gb105, 0, none⟩ (.string ((rd_T53 l0_1 x18_2).f0))).setCell ⟨gb105, 1, none⟩ (.slice A104_1 ((rd_T53 l0_1 x18_2).f1).length c104_1)).setCell ⟨gb105, 2, none⟩ (.int .i64 ((rd_T53 l0_1 x18_2).f2))).heap[gb101]? = some (.cells #[.int .i64 a0_0, .slice (some ad104) l0_1.length c0_1] 29 (0, 0))) := ⟨bkZ⟩
                 have n1_ : Aside0 ((((w22.setCell ⟨gb105, 0, none⟩ (.string ((rd_T53 l0_1 x18_2).f0))).setCell ⟨gb105, 1, none⟩ (.slice A104_1 ((rd_T53 l0_1 x18_2).f1).length c104_1)).setCell ⟨gb105, 2, none⟩ (.int .i64 ((rd_T53 l0_1 x18_2).f2))).heap[gb105]? = some (.cells #[.string ((rd_T53 l0_1 x18_2).f0), .slice A104_1 ((rd_T53 l0_1 x18_2).f1).length c104_1, .int .i64 ((rd_T53 l0_1 x18_2).f2)] 53 (0, 0))) := ⟨bkZ⟩
                 have n2_ : Aside0 (Below w.heap.size w (((w22.setCell ⟨gb105, 0, none⟩ (.string ((rd_T53 l0_1 x18_2).f0))).setCell ⟨gb105, 1, none⟩ (.slice A104_1 ((rd_T53 l0_1 x18_2).f1).length c104_1)).setCell ⟨gb105, 2, none⟩ (.int .i64 ((rd_T53 l0_1 x18_2).f2)))) := ⟨zcb41⟩
                 (try clear BK101); (try clear BK105); (try clear HB)
                 generalize (((w22.setCell ⟨gb105, 0, none⟩ (.string ((rd_T53 l0_1 x18_2).f0))).setCell ⟨gb105, 1, none⟩ (.slice A104_1 ((rd_T53 l0_1 x18_2).f1).length c104_1)).setCell ⟨gb105, 2, none⟩ (.int .i64 ((rd_T53 l0_1 x18_2).f2))) = w25 at n0_ n1_ n2_ ⊢
                 have BK101 := n0_
                 have BK105 := n1_
                 have HB := n2_
                 clear n0_ n1_ n2_
                 have _ := aM (blk_drew BK101.out)
                 have _ := aM (blk_drew BK105.out)
                 have _ := aM (below_drew1 HB.out)
                 clear BK101
                 clear BK105
                 clear HB
                 rename_i BK101 BK105 HB
                 have p107 : 0 ≤ ((ji16) : Int) := of_decide_eq_true z1200
                 have q107 : (ji16) < (l0_1.length : Int) := of_decide_eq_true z1200
                 obtain ⟨ad107, A107_1, c107_1, e107, hx107_0, hx107_1, hx107_2, hl107_1, hi107_1⟩ := at_T53 HR0_1.out (ji16) p107 q107
                 have hw107_2 := hx107_2
                 have hw107_1 := hx107_1
                 have hw107_0 := hx107_0
                 obtain rfl : ad104 = ad107 := (by injection e107)
                 have TW107_1 := aM hx107_1
                 replace hx107_0 := (HB.out.cell (World.block_lt_of_cell? w _ hx107_0)).trans hx107_0
                 replace hx107_1 := (HB.out.cell (World.block_lt_of_cell? w _ hx107_1)).trans hx107_1
                 replace hx107_2 := (HB.out.cell (World.block_lt_of_cell? w _ hx107_2)).trans hx107_2
                 have HR107_1 := aM hi107_1
                 have HC107_1 := aM hl107_1
                 clear hi107_1 hl107_1
                 replace p107 := eq_true p107
                 replace q107 := eq_true q107
                 refine sA 29 spec_GoodFiles.tab6 spec_GoodFiles.bits6 (fun w' => w'.cell? ⟨gb105, 0, none⟩ = some (.string ((rd_T53 l0_1 x18_2).f0)) ∧ w'.cell? ⟨gb105, 1, none⟩ = some (.slice A104_1 ((rd_T53 l0_1 x18_2).f1).length c104_1) ∧ w'.cell? ⟨gb105, 2, none⟩ = some (.int .i64 ((rd_T53 l0_1 x18_2).f2)) ∧ w'.cell? ⟨gb101, 0, none⟩ = some (.int .i64 a0_0) ∧ w'.cell? ⟨gb101, 1, none⟩ = some (.slice (some ad104) l0_1.length c0_1) ∧ w'.cell? (ad104.add (((ji16)).toNat * 3)) = some (.string ((rd_T53 l0_1 (ji16)).f0)) ∧ w'.cell? ⟨(ad104.add (((ji16)).toNat * 3)).block, (ad104.add (((ji16)).toNat * 3)).off + 1, none⟩ = some (.slice A107_1 ((rd_T53 l0_1 (ji16)).f1).length c107_1) ∧ w'.cell? ⟨(ad104.add (((ji16)).toNat * 3)).block, (ad104.add (((ji16)).toNat * 3)).off + 2, none⟩ = some (.int .i64 ((rd_T53 l0_1 (ji16)).f2))) [] (fun hHeld HT_ HW_ => ?_)
                 generalize w25.drew = w26 at BK101 BK105 HB HR107_1 hx107_0 hx107_1 hx107_2 hHeld ⊢
                 refine pA 0 23 HT_ ?_; refine tA 1 24 HT_ HW_ hHeld ?_; refine oA 2 25 HT_ (fun K hK => ?_)
                 refine goes_ Tryd.func35 (by kernel_rfl) rfl #[.string ((rd_T53 l0_1 x18_2).f0)] (by rfl) rfl rfl zee81 ?_
                 with_reducible refine (spec_l2Name.calls k2 ((rd_T53 l0_1 x18_2).f0) true _ A13.out).mono ?_
                 rintro e w' ⟨rfl, ⟨nd, rfl⟩⟩
                 refine ⟨_, rfl, ?_⟩
                 refine hK.out _ _ sZ (fun hHeld => ?_)
                 clear hK K
                 refine nA 25 ?_; refine pA 3 26 HT_ ?_; refine pA 4 27 HT_ ?_; refine pA 5 28 HT_ ?_; refine pA 6 29 HT_ ?_; refine pA 7 30 HT_ ?_; refine pA 8 31 HT_ ?_; refine pA 10 33 HT_ ?_; refine pA 11 34 HT_ ?_; refine pA 15 38 HT_ ?_; refine tA 9 32 HT_ HW_ hHeld ?_; refine pA 12 35 HT_ ?_; refine pA 13 36 HT_ ?_; refine tA 14 37 HT_ HW_ hHeld ?_; refine tA 16 39 HT_ HW_ hHeld ?_; refine pA 17 40 HT_ ?_; refine pA 18 41 HT_ ?_; refine pA 19 42 HT_ ?_; refine pA 20 43 HT_ ?_; refine pA 21 44 HT_ ?_; refine pA 23 46 HT_ ?_; refine tA 22 45 HT_ HW_ hHeld ?_; refine tA 24 47 HT_ HW_ hHeld ?_; refine pA 25 48 HT_ ?_; refine oA 26 49 HT_ (fun K hK => ?_)
                 refine goes_ Tryd.func65 (by kernel_rfl) rfl #[.int .i64 ((rd_T53 l0_1 x18_2).f2), .int .i64 0, .int .i64 (((rd_T53 l0_1 x18_2).f1).length : Int)] (by rfl) rfl rfl zee81 ?_
                 with_reducible refine (spec_l1In.calls ((rd_T53 l0_1 x18_2).f2) 0 (((rd_T53 l0_1 x18_2).f1).length : Int) true _ A20.out).mono ?_
                 rintro e w' ⟨rfl, ⟨nd, rfl⟩⟩
                 refine ⟨_, rfl, ?_⟩
                 refine hK.out _ _ sZ (fun hHeld => ?_)
                 clear hK K
                 refine nA 49 ?_; refine pA 27 50 HT_ ?_; refine pA 28 51 HT_ ?_
                 refine done_ (done_of HT_.out (by kernel_rfl)) ?_
                 try go_wp2
                 go_roundg k2
                 case measure => have := HJ1.out; have := HK2.out; omega
                 case rel => exact ⟨(wrap64 (x18_2 + 1)), z4458, H', ⟨by have := HJ1.out; have := HK2.out; omega⟩, ⟨bkZ⟩, ⟨zcb41⟩⟩
               · replace c21 := Bool.eq_false_iff.mpr c21
                 subst c21
                 rw [if_neg (show ¬ (false = true) by decide)] at H
                 obtain rfl := Option.some.inj H
                 have p104 : 0 ≤ (x18_2 : Int) := of_decide_eq_true z1200
                 have q104 : x18_2 < (l0_1.length : Int) := of_decide_eq_true z1200
                 obtain ⟨ad104, A104_1, c104_1, e104, hx104_0, hx104_1, hx104_2, hl104_1, hi104_1⟩ := at_T53 HR0_1.out x18_2 p104 q104
                 cases e104
                 have TW104_1 := aM hx104_1
                 replace hx104_0 := (HB.out.cell (World.block_lt_of_cell? w _ hx104_0)).trans hx104_0
                 replace hx104_1 := (HB.out.cell (World.block_lt_of_cell? w _ hx104_1)).trans hx104_1
                 replace hx104_2 := (HB.out.cell (World.block_lt_of_cell? w _ hx104_2)).trans hx104_2
                 have HR104_1 := aM hi104_1
                 have HC104_1 := aM hl104_1
                 clear hi104_1 hl104_1
                 replace p104 := eq_true p104
                 replace q104 := eq_true q104
                 try go_wp2_with (first | ((with_reducible refine gate_dst (N := 4) rfl ?_); (try (refine gate_guard (by rfl) ?_; dsimp only)); refine bX 4 53 #[.string (⟨#[]⟩ : ByteArray), .slice none 0 0, .int .i64 0] ?_; intro gb105 hg w27 hbox hb; have _ := bB gb101 hb; have _ := aM (below_step hbZ hb); have _ := aM hbox; have _ := szZ hg; have _ := szZ hg; have ⟨_, _⟩ := nbB gb101 hg; clear BK101 HB; rename_i BK101 HB BK105 GW105 GE105 NB101_105 NB105_101; clear hb hbox hg; have hnb28 := NB105_101.out; have hnc28 := NB101_105.out; have hz29 := cellsZ3 BK105.out))
                 have n0_ : Aside0 ((((w27.setCell ⟨gb105, 0, none⟩ (.string ((rd_T53 l0_1 x18_2).f0))).setCell ⟨gb105, 1, none⟩ (.slice A104_1 ((rd_T53 l0_1 x18_2).f1).length c104_1)).setCell ⟨gb105, 2, none⟩ (.int .i64 ((rd_T53 l0_1 x18_2).f2))).heap[gb101]? = some (.cells #[.int .i64 a0_0, .slice (some ad104) l0_1.length c0_1] 29 (0, 0))) := ⟨bkZ⟩
                 have n1_ : Aside0 ((((w27.setCell ⟨gb105, 0, none⟩ (.string ((rd_T53 l0_1 x18_2).f0))).setCell ⟨gb105, 1, none⟩ (.slice A104_1 ((rd_T53 l0_1 x18_2).f1).length c104_1)).setCell ⟨gb105, 2, none⟩ (.int .i64 ((rd_T53 l0_1 x18_2).f2))).heap[gb105]? = some (.cells #[.string ((rd_T53 l0_1 x18_2).f0), .slice A104_1 ((rd_T53 l0_1 x18_2).f1).length c104_1, .int .i64 ((rd_T53 l0_1 x18_2).f2)] 53 (0, 0))) := ⟨bkZ⟩
                 have n2_ : Aside0 (Below w.heap.size w (((w27.setCell ⟨gb105, 0, none⟩ (.string ((rd_T53 l0_1 x18_2).f0))).setCell ⟨gb105, 1, none⟩ (.slice A104_1 ((rd_T53 l0_1 x18_2).f1).length c104_1)).setCell ⟨gb105, 2, none⟩ (.int .i64 ((rd_T53 l0_1 x18_2).f2)))) := ⟨zcb41⟩
                 (try clear BK101); (try clear BK105); (try clear HB)
                 generalize (((w27.setCell ⟨gb105, 0, none⟩ (.string ((rd_T53 l0_1 x18_2).f0))).setCell ⟨gb105, 1, none⟩ (.slice A104_1 ((rd_T53 l0_1 x18_2).f1).length c104_1)).setCell ⟨gb105, 2, none⟩ (.int .i64 ((rd_T53 l0_1 x18_2).f2))) = w30 at n0_ n1_ n2_ ⊢
                 have BK101 := n0_
                 have BK105 := n1_
                 have HB := n2_
                 clear n0_ n1_ n2_
                 have _ := aM (blk_drew BK101.out)
                 have _ := aM (blk_drew BK105.out)
                 have _ := aM (below_drew1 HB.out)
                 clear BK101
                 clear BK105
                 clear HB
                 rename_i BK101 BK105 HB
                 have p107 : 0 ≤ ((ji16) : Int) := of_decide_eq_true z1200
                 have q107 : (ji16) < (l0_1.length : Int) := of_decide_eq_true z1200
                 obtain ⟨ad107, A107_1, c107_1, e107, hx107_0, hx107_1, hx107_2, hl107_1, hi107_1⟩ := at_T53 HR0_1.out (ji16) p107 q107
                 have hw107_2 := hx107_2
                 have hw107_1 := hx107_1
                 have hw107_0 := hx107_0
                 obtain rfl : ad104 = ad107 := (by injection e107)
                 have TW107_1 := aM hx107_1
                 replace hx107_0 := (HB.out.cell (World.block_lt_of_cell? w _ hx107_0)).trans hx107_0
                 replace hx107_1 := (HB.out.cell (World.block_lt_of_cell? w _ hx107_1)).trans hx107_1
                 replace hx107_2 := (HB.out.cell (World.block_lt_of_cell? w _ hx107_2)).trans hx107_2
                 have HR107_1 := aM hi107_1
                 have HC107_1 := aM hl107_1
                 clear hi107_1 hl107_1
                 replace p107 := eq_true p107
                 replace q107 := eq_true q107
                 refine sA 29 spec_GoodFiles.tab6 spec_GoodFiles.bits6 (fun w' => w'.cell? ⟨gb105, 0, none⟩ = some (.string ((rd_T53 l0_1 x18_2).f0)) ∧ w'.cell? ⟨gb105, 1, none⟩ = some (.slice A104_1 ((rd_T53 l0_1 x18_2).f1).length c104_1) ∧ w'.cell? ⟨gb105, 2, none⟩ = some (.int .i64 ((rd_T53 l0_1 x18_2).f2)) ∧ w'.cell? ⟨gb101, 0, none⟩ = some (.int .i64 a0_0) ∧ w'.cell? ⟨gb101, 1, none⟩ = some (.slice (some ad104) l0_1.length c0_1) ∧ w'.cell? (ad104.add (((ji16)).toNat * 3)) = some (.string ((rd_T53 l0_1 (ji16)).f0)) ∧ w'.cell? ⟨(ad104.add (((ji16)).toNat * 3)).block, (ad104.add (((ji16)).toNat * 3)).off + 1, none⟩ = some (.slice A107_1 ((rd_T53 l0_1 (ji16)).f1).length c107_1) ∧ w'.cell? ⟨(ad104.add (((ji16)).toNat * 3)).block, (ad104.add (((ji16)).toNat * 3)).off + 2, none⟩ = some (.int .i64 ((rd_T53 l0_1 (ji16)).f2))) [] (fun hHeld HT_ HW_ => ?_)
                 generalize w30.drew = w31 at BK101 BK105 HB HR107_1 hx107_0 hx107_1 hx107_2 hHeld ⊢
                 refine pA 0 23 HT_ ?_; refine tA 1 24 HT_ HW_ hHeld ?_; refine oA 2 25 HT_ (fun K hK => ?_)
                 refine goes_ Tryd.func35 (by kernel_rfl) rfl #[.string ((rd_T53 l0_1 x18_2).f0)] (by rfl) rfl rfl zee81 ?_
                 with_reducible refine (spec_l2Name.calls k2 ((rd_T53 l0_1 x18_2).f0) true _ A13.out).mono ?_
                 rintro e w' ⟨rfl, ⟨nd, rfl⟩⟩
                 refine ⟨_, rfl, ?_⟩
                 refine hK.out _ _ sZ (fun hHeld => ?_)
                 clear hK K
                 refine nA 25 ?_; refine pA 3 26 HT_ ?_; refine pA 4 27 HT_ ?_; refine pA 5 28 HT_ ?_; refine pA 6 29 HT_ ?_; refine pA 7 30 HT_ ?_; refine pA 8 31 HT_ ?_; refine pA 10 33 HT_ ?_; refine pA 11 34 HT_ ?_; refine pA 15 38 HT_ ?_; refine tA 9 32 HT_ HW_ hHeld ?_; refine pA 12 35 HT_ ?_; refine pA 13 36 HT_ ?_; refine tA 14 37 HT_ HW_ hHeld ?_; refine tA 16 39 HT_ HW_ hHeld ?_; refine pA 17 40 HT_ ?_; refine pA 18 41 HT_ ?_; refine pA 19 42 HT_ ?_; refine pA 20 43 HT_ ?_; refine pA 21 44 HT_ ?_; refine pA 23 46 HT_ ?_; refine tA 22 45 HT_ HW_ hHeld ?_; refine tA 24 47 HT_ HW_ hHeld ?_; refine pA 25 48 HT_ ?_; refine oA 26 49 HT_ (fun K hK => ?_)
                 refine goes_ Tryd.func65 (by kernel_rfl) rfl #[.int .i64 ((rd_T53 l0_1 x18_2).f2), .int .i64 0, .int .i64 (((rd_T53 l0_1 x18_2).f1).length : Int)] (by rfl) rfl rfl zee81 ?_
                 with_reducible refine (spec_l1In.calls ((rd_T53 l0_1 x18_2).f2) 0 (((rd_T53 l0_1 x18_2).f1).length : Int) false _ A20.out).mono ?_
                 rintro e w' ⟨rfl, ⟨nd, rfl⟩⟩
                 refine ⟨_, rfl, ?_⟩
                 refine hK.out _ _ sZ (fun hHeld => ?_)
                 clear hK K
                 refine nA 49 ?_; refine pA 27 50 HT_ ?_; refine pA 28 51 HT_ ?_
                 refine done_ (done_of HT_.out (by kernel_rfl)) ?_
                 try go_wp2
                 go_ret
                 exact ⟨by first | rfl | (simp [errW_none, errW_some] <;> rfl) | (simp only [← hji16]; first | rfl | (simp [errW_none, errW_some] <;> rfl)) | (simp [*, errW_none, errW_some] <;> rfl), zcb41⟩
             · rw [if_neg c19] at H
               have c19b0 : (Op.bytesLess (((rd_T53 l0_1 (ji16)).f0).toList) (((rd_T53 l0_1 x18_2).f0).toList)) = false := by simpa using c19
               clear c19
               obtain rfl := Option.some.inj H
               have p104 : 0 ≤ (x18_2 : Int) := of_decide_eq_true z1200
               have q104 : x18_2 < (l0_1.length : Int) := of_decide_eq_true z1200
               obtain ⟨ad104, A104_1, c104_1, e104, hx104_0, hx104_1, hx104_2, hl104_1, hi104_1⟩ := at_T53 HR0_1.out x18_2 p104 q104
               cases e104
               have TW104_1 := aM hx104_1
               replace hx104_0 := (HB.out.cell (World.block_lt_of_cell? w _ hx104_0)).trans hx104_0
               replace hx104_1 := (HB.out.cell (World.block_lt_of_cell? w _ hx104_1)).trans hx104_1
               replace hx104_2 := (HB.out.cell (World.block_lt_of_cell? w _ hx104_2)).trans hx104_2
               have HR104_1 := aM hi104_1
               have HC104_1 := aM hl104_1
               clear hi104_1 hl104_1
               replace p104 := eq_true p104
               replace q104 := eq_true q104
               try go_wp2_with (first | ((with_reducible refine gate_dst (N := 4) rfl ?_); (try (refine gate_guard (by rfl) ?_; dsimp only)); refine bX 4 53 #[.string (⟨#[]⟩ : ByteArray), .slice none 0 0, .int .i64 0] ?_; intro gb105 hg w32 hbox hb; have _ := bB gb101 hb; have _ := aM (below_step hbZ hb); have _ := aM hbox; have _ := szZ hg; have _ := szZ hg; have ⟨_, _⟩ := nbB gb101 hg; clear BK101 HB; rename_i BK101 HB BK105 GW105 GE105 NB101_105 NB105_101; clear hb hbox hg; have hnb33 := NB105_101.out; have hnc33 := NB101_105.out; have hz34 := cellsZ3 BK105.out))
               have n0_ : Aside0 ((((w32.setCell ⟨gb105, 0, none⟩ (.string ((rd_T53 l0_1 x18_2).f0))).setCell ⟨gb105, 1, none⟩ (.slice A104_1 ((rd_T53 l0_1 x18_2).f1).length c104_1)).setCell ⟨gb105, 2, none⟩ (.int .i64 ((rd_T53 l0_1 x18_2).f2))).heap[gb101]? = some (.cells #[.int .i64 a0_0, .slice (some ad104) l0_1.length c0_1] 29 (0, 0))) := ⟨bkZ⟩
               have n1_ : Aside0 ((((w32.setCell ⟨gb105, 0, none⟩ (.string ((rd_T53 l0_1 x18_2).f0))).setCell ⟨gb105, 1, none⟩ (.slice A104_1 ((rd_T53 l0_1 x18_2).f1).length c104_1)).setCell ⟨gb105, 2, none⟩ (.int .i64 ((rd_T53 l0_1 x18_2).f2))).heap[gb105]? = some (.cells #[.string ((rd_T53 l0_1 x18_2).f0), .slice A104_1 ((rd_T53 l0_1 x18_2).f1).length c104_1, .int .i64 ((rd_T53 l0_1 x18_2).f2)] 53 (0, 0))) := ⟨bkZ⟩
               have n2_ : Aside0 (Below w.heap.size w (((w32.setCell ⟨gb105, 0, none⟩ (.string ((rd_T53 l0_1 x18_2).f0))).setCell ⟨gb105, 1, none⟩ (.slice A104_1 ((rd_T53 l0_1 x18_2).f1).length c104_1)).setCell ⟨gb105, 2, none⟩ (.int .i64 ((rd_T53 l0_1 x18_2).f2)))) := ⟨zcb41⟩
               (try clear BK101); (try clear BK105); (try clear HB)
               generalize (((w32.setCell ⟨gb105, 0, none⟩ (.string ((rd_T53 l0_1 x18_2).f0))).setCell ⟨gb105, 1, none⟩ (.slice A104_1 ((rd_T53 l0_1 x18_2).f1).length c104_1)).setCell ⟨gb105, 2, none⟩ (.int .i64 ((rd_T53 l0_1 x18_2).f2))) = w35 at n0_ n1_ n2_ ⊢
               have BK101 := n0_
               have BK105 := n1_
               have HB := n2_
               clear n0_ n1_ n2_
               have _ := aM (blk_drew BK101.out)
               have _ := aM (blk_drew BK105.out)
               have _ := aM (below_drew1 HB.out)
               clear BK101
               clear BK105
               clear HB
               rename_i BK101 BK105 HB
               have p107 : 0 ≤ ((ji16) : Int) := of_decide_eq_true z1200
               have q107 : (ji16) < (l0_1.length : Int) := of_decide_eq_true z1200
               obtain ⟨ad107, A107_1, c107_1, e107, hx107_0, hx107_1, hx107_2, hl107_1, hi107_1⟩ := at_T53 HR0_1.out (ji16) p107 q107
               have hw107_2 := hx107_2
               have hw107_1 := hx107_1
               have hw107_0 := hx107_0
               obtain rfl : ad104 = ad107 := (by injection e107)
               have TW107_1 := aM hx107_1
               replace hx107_0 := (HB.out.cell (World.block_lt_of_cell? w _ hx107_0)).trans hx107_0
               replace hx107_1 := (HB.out.cell (World.block_lt_of_cell? w _ hx107_1)).trans hx107_1
               replace hx107_2 := (HB.out.cell (World.block_lt_of_cell? w _ hx107_2)).trans hx107_2
               have HR107_1 := aM hi107_1
               have HC107_1 := aM hl107_1
               clear hi107_1 hl107_1
               replace p107 := eq_true p107
               replace q107 := eq_true q107
               refine sA 29 spec_GoodFiles.tab6 spec_GoodFiles.bits6 (fun w' => w'.cell? ⟨gb105, 0, none⟩ = some (.string ((rd_T53 l0_1 x18_2).f0)) ∧ w'.cell? ⟨gb105, 1, none⟩ = some (.slice A104_1 ((rd_T53 l0_1 x18_2).f1).length c104_1) ∧ w'.cell? ⟨gb105, 2, none⟩ = some (.int .i64 ((rd_T53 l0_1 x18_2).f2)) ∧ w'.cell? ⟨gb101, 0, none⟩ = some (.int .i64 a0_0) ∧ w'.cell? ⟨gb101, 1, none⟩ = some (.slice (some ad104) l0_1.length c0_1) ∧ w'.cell? (ad104.add (((ji16)).toNat * 3)) = some (.string ((rd_T53 l0_1 (ji16)).f0)) ∧ w'.cell? ⟨(ad104.add (((ji16)).toNat * 3)).block, (ad104.add (((ji16)).toNat * 3)).off + 1, none⟩ = some (.slice A107_1 ((rd_T53 l0_1 (ji16)).f1).length c107_1) ∧ w'.cell? ⟨(ad104.add (((ji16)).toNat * 3)).block, (ad104.add (((ji16)).toNat * 3)).off + 2, none⟩ = some (.int .i64 ((rd_T53 l0_1 (ji16)).f2))) [] (fun hHeld HT_ HW_ => ?_)
               generalize w35.drew = w36 at BK101 BK105 HB HR107_1 hx107_0 hx107_1 hx107_2 hHeld ⊢
               refine pA 0 23 HT_ ?_; refine tA 1 24 HT_ HW_ hHeld ?_; refine oA 2 25 HT_ (fun K hK => ?_)
               refine goes_ Tryd.func35 (by kernel_rfl) rfl #[.string ((rd_T53 l0_1 x18_2).f0)] (by rfl) rfl rfl zee81 ?_
               with_reducible refine (spec_l2Name.calls k2 ((rd_T53 l0_1 x18_2).f0) true _ A13.out).mono ?_
               rintro e w' ⟨rfl, ⟨nd, rfl⟩⟩
               refine ⟨_, rfl, ?_⟩
               refine hK.out _ _ sZ (fun hHeld => ?_)
               clear hK K
               refine nA 25 ?_; refine pA 3 26 HT_ ?_; refine pA 4 27 HT_ ?_; refine pA 5 28 HT_ ?_; refine pA 6 29 HT_ ?_; refine pA 7 30 HT_ ?_; refine pA 8 31 HT_ ?_; refine pA 10 33 HT_ ?_; refine pA 11 34 HT_ ?_; refine pA 15 38 HT_ ?_; refine tA 9 32 HT_ HW_ hHeld ?_; refine pA 12 35 HT_ ?_; refine pA 13 36 HT_ ?_; refine tA 14 37 HT_ HW_ hHeld ?_; refine tA 16 39 HT_ HW_ hHeld ?_; refine pA 17 40 HT_ ?_; refine pA 18 41 HT_ ?_; refine pA 19 42 HT_ ?_; refine pA 20 43 HT_ ?_; refine uA 21 44 HT_ ?_; refine uA 22 45 HT_ ?_; refine uA 23 46 HT_ ?_; refine uA 24 47 HT_ ?_; refine uA 25 48 HT_ ?_; refine uA 26 49 HT_ ?_; refine uA 27 50 HT_ ?_; refine pA 28 51 HT_ ?_
               refine done_ (done_of HT_.out (by kernel_rfl)) ?_
               try go_wp2
               go_ret
               exact ⟨by first | rfl | (simp [errW_none, errW_some] <;> rfl) | (simp only [← hji16]; first | rfl | (simp [errW_none, errW_some] <;> rfl)) | (simp [*, errW_none, errW_some] <;> rfl), zcb41⟩
           · rw [if_neg c15] at H
             have c15b0 := nL c15
             clear c15
             obtain ⟨t109, A37, H⟩ := bS H; try dsimp only at H
             by_cases c38 : t109 = true
             · subst c38
               rw [if_pos rfl] at H
               have H' := aM H
               clear H
               have p104 : 0 ≤ (x18_2 : Int) := of_decide_eq_true z1200
               have q104 : x18_2 < (l0_1.length : Int) := of_decide_eq_true z1200
               obtain ⟨ad104, A104_1, c104_1, e104, hx104_0, hx104_1, hx104_2, hl104_1, hi104_1⟩ := at_T53 HR0_1.out x18_2 p104 q104
               cases e104
               have TW104_1 := aM hx104_1
               replace hx104_0 := (HB.out.cell (World.block_lt_of_cell? w _ hx104_0)).trans hx104_0
               replace hx104_1 := (HB.out.cell (World.block_lt_of_cell? w _ hx104_1)).trans hx104_1
               replace hx104_2 := (HB.out.cell (World.block_lt_of_cell? w _ hx104_2)).trans hx104_2
               have HR104_1 := aM hi104_1
               have HC104_1 := aM hl104_1
               clear hi104_1 hl104_1
               replace p104 := eq_true p104
               replace q104 := eq_true q104
               try go_wp2_with (first | ((with_reducible refine gate_dst (N := 4) rfl ?_); (try (refine gate_guard (by rfl) ?_; dsimp only)); refine bX 4 53 #[.string (⟨#[]⟩ : ByteArray), .slice none 0 0, .int .i64 0] ?_; intro gb105 hg w39 hbox hb; have _ := bB gb101 hb; have _ := aM (below_step hbZ hb); have _ := aM hbox; have _ := szZ hg; have _ := szZ hg; have ⟨_, _⟩ := nbB gb101 hg; clear BK101 HB; rename_i BK101 HB BK105 GW105 GE105 NB101_105 NB105_101; clear hb hbox hg; have hnb40 := NB105_101.out; have hnc40 := NB101_105.out; have hz41 := cellsZ3 BK105.out))
               have n0_ : Aside0 ((((w39.setCell ⟨gb105, 0, none⟩ (.string ((rd_T53 l0_1 x18_2).f0))).setCell ⟨gb105, 1, none⟩ (.slice A104_1 ((rd_T53 l0_1 x18_2).f1).length c104_1)).setCell ⟨gb105, 2, none⟩ (.int .i64 ((rd_T53 l0_1 x18_2).f2))).heap[gb101]? = some (.cells #[.int .i64 a0_0, .slice (some ad104) l0_1.length c0_1] 29 (0, 0))) := ⟨bkZ⟩
               have n1_ : Aside0 ((((w39.setCell ⟨gb105, 0, none⟩ (.string ((rd_T53 l0_1 x18_2).f0))).setCell ⟨gb105, 1, none⟩ (.slice A104_1 ((rd_T53 l0_1 x18_2).f1).length c104_1)).setCell ⟨gb105, 2, none⟩ (.int .i64 ((rd_T53 l0_1 x18_2).f2))).heap[gb105]? = some (.cells #[.string ((rd_T53 l0_1 x18_2).f0), .slice A104_1 ((rd_T53 l0_1 x18_2).f1).length c104_1, .int .i64 ((rd_T53 l0_1 x18_2).f2)] 53 (0, 0))) := ⟨bkZ⟩
               have n2_ : Aside0 (Below w.heap.size w (((w39.setCell ⟨gb105, 0, none⟩ (.string ((rd_T53 l0_1 x18_2).f0))).setCell ⟨gb105, 1, none⟩ (.slice A104_1 ((rd_T53 l0_1 x18_2).f1).length c104_1)).setCell ⟨gb105, 2, none⟩ (.int .i64 ((rd_T53 l0_1 x18_2).f2)))) := ⟨zcb41⟩
               (try clear BK101); (try clear BK105); (try clear HB)
               generalize (((w39.setCell ⟨gb105, 0, none⟩ (.string ((rd_T53 l0_1 x18_2).f0))).setCell ⟨gb105, 1, none⟩ (.slice A104_1 ((rd_T53 l0_1 x18_2).f1).length c104_1)).setCell ⟨gb105, 2, none⟩ (.int .i64 ((rd_T53 l0_1 x18_2).f2))) = w42 at n0_ n1_ n2_ ⊢
               have BK101 := n0_
               have BK105 := n1_
               have HB := n2_
               clear n0_ n1_ n2_
               have _ := aM (blk_drew BK101.out)
               have _ := aM (blk_drew BK105.out)
               have _ := aM (below_drew1 HB.out)
               clear BK101
               clear BK105
               clear HB
               rename_i BK101 BK105 HB
               refine sA 29 spec_GoodFiles.tab6 spec_GoodFiles.bits6 (fun w' => w'.cell? ⟨gb105, 0, none⟩ = some (.string ((rd_T53 l0_1 x18_2).f0)) ∧ w'.cell? ⟨gb105, 1, none⟩ = some (.slice A104_1 ((rd_T53 l0_1 x18_2).f1).length c104_1) ∧ w'.cell? ⟨gb105, 2, none⟩ = some (.int .i64 ((rd_T53 l0_1 x18_2).f2))) [] (fun hHeld HT_ HW_ => ?_)
               generalize w42.drew = w43 at BK101 BK105 HB hHeld ⊢
               refine pA 0 23 HT_ ?_; refine tA 1 24 HT_ HW_ hHeld ?_; refine oA 2 25 HT_ (fun K hK => ?_)
               refine goes_ Tryd.func35 (by kernel_rfl) rfl #[.string ((rd_T53 l0_1 x18_2).f0)] (by rfl) rfl rfl zee81 ?_
               with_reducible refine (spec_l2Name.calls k2 ((rd_T53 l0_1 x18_2).f0) true _ A13.out).mono ?_
               rintro e w' ⟨rfl, ⟨nd, rfl⟩⟩
               refine ⟨_, rfl, ?_⟩
               refine hK.out _ _ sZ (fun hHeld => ?_)
               clear hK K
               refine nA 25 ?_; refine pA 3 26 HT_ ?_; refine pA 4 27 HT_ ?_; refine pA 5 28 HT_ ?_; refine pA 6 29 HT_ ?_; refine pA 7 30 HT_ ?_; refine uA 8 31 HT_ ?_; refine uA 9 32 HT_ ?_; refine uA 10 33 HT_ ?_; refine uA 11 34 HT_ ?_; refine uA 12 35 HT_ ?_; refine uA 13 36 HT_ ?_; refine uA 14 37 HT_ ?_; refine uA 15 38 HT_ ?_; refine uA 16 39 HT_ ?_; refine uA 17 40 HT_ ?_; refine pA 18 41 HT_ ?_; refine pA 19 42 HT_ ?_; refine pA 20 43 HT_ ?_; refine pA 21 44 HT_ ?_; refine pA 23 46 HT_ ?_; refine tA 22 45 HT_ HW_ hHeld ?_; refine tA 24 47 HT_ HW_ hHeld ?_; refine pA 25 48 HT_ ?_; refine oA 26 49 HT_ (fun K hK => ?_)
               refine goes_ Tryd.func65 (by kernel_rfl) rfl #[.int .i64 ((rd_T53 l0_1 x18_2).f2), .int .i64 0, .int .i64 (((rd_T53 l0_1 x18_2).f1).length : Int)] (by rfl) rfl rfl zee81 ?_
               with_reducible refine (spec_l1In.calls ((rd_T53 l0_1 x18_2).f2) 0 (((rd_T53 l0_1 x18_2).f1).length : Int) true _ A37.out).mono ?_
               rintro e w' ⟨rfl, ⟨nd, rfl⟩⟩
               refine ⟨_, rfl, ?_⟩
               refine hK.out _ _ sZ (fun hHeld => ?_)
               clear hK K
               refine nA 49 ?_; refine pA 27 50 HT_ ?_; refine pA 28 51 HT_ ?_
               refine done_ (done_of HT_.out (by kernel_rfl)) ?_
               try go_wp2
               go_roundg k2
               case measure => have := HJ1.out; have := HK2.out; omega
               case rel => exact ⟨(wrap64 (x18_2 + 1)), z4458, H', ⟨by have := HJ1.out; have := HK2.out; omega⟩, ⟨bkZ⟩, ⟨zcb41⟩⟩
             · replace c38 := Bool.eq_false_iff.mpr c38
               subst c38
               rw [if_neg (show ¬ (false = true) by decide)] at H
               obtain rfl := Option.some.inj H
               have p104 : 0 ≤ (x18_2 : Int) := of_decide_eq_true z1200
               have q104 : x18_2 < (l0_1.length : Int) := of_decide_eq_true z1200
               obtain ⟨ad104, A104_1, c104_1, e104, hx104_0, hx104_1, hx104_2, hl104_1, hi104_1⟩ := at_T53 HR0_1.out x18_2 p104 q104
               cases e104
               have TW104_1 := aM hx104_1
               replace hx104_0 := (HB.out.cell (World.block_lt_of_cell? w _ hx104_0)).trans hx104_0
               replace hx104_1 := (HB.out.cell (World.block_lt_of_cell? w _ hx104_1)).trans hx104_1
               replace hx104_2 := (HB.out.cell (World.block_lt_of_cell? w _ hx104_2)).trans hx104_2
               have HR104_1 := aM hi104_1
               have HC104_1 := aM hl104_1
               clear hi104_1 hl104_1
               replace p104 := eq_true p104
               replace q104 := eq_true q104
               try go_wp2_with (first | ((with_reducible refine gate_dst (N := 4) rfl ?_); (try (refine gate_guard (by rfl) ?_; dsimp only)); refine bX 4 53 #[.string (⟨#[]⟩ : ByteArray), .slice none 0 0, .int .i64 0] ?_; intro gb105 hg w44 hbox hb; have _ := bB gb101 hb; have _ := aM (below_step hbZ hb); have _ := aM hbox; have _ := szZ hg; have _ := szZ hg; have ⟨_, _⟩ := nbB gb101 hg; clear BK101 HB; rename_i BK101 HB BK105 GW105 GE105 NB101_105 NB105_101; clear hb hbox hg; have hnb45 := NB105_101.out; have hnc45 := NB101_105.out; have hz46 := cellsZ3 BK105.out))
               have n0_ : Aside0 ((((w44.setCell ⟨gb105, 0, none⟩ (.string ((rd_T53 l0_1 x18_2).f0))).setCell ⟨gb105, 1, none⟩ (.slice A104_1 ((rd_T53 l0_1 x18_2).f1).length c104_1)).setCell ⟨gb105, 2, none⟩ (.int .i64 ((rd_T53 l0_1 x18_2).f2))).heap[gb101]? = some (.cells #[.int .i64 a0_0, .slice (some ad104) l0_1.length c0_1] 29 (0, 0))) := ⟨bkZ⟩
               have n1_ : Aside0 ((((w44.setCell ⟨gb105, 0, none⟩ (.string ((rd_T53 l0_1 x18_2).f0))).setCell ⟨gb105, 1, none⟩ (.slice A104_1 ((rd_T53 l0_1 x18_2).f1).length c104_1)).setCell ⟨gb105, 2, none⟩ (.int .i64 ((rd_T53 l0_1 x18_2).f2))).heap[gb105]? = some (.cells #[.string ((rd_T53 l0_1 x18_2).f0), .slice A104_1 ((rd_T53 l0_1 x18_2).f1).length c104_1, .int .i64 ((rd_T53 l0_1 x18_2).f2)] 53 (0, 0))) := ⟨bkZ⟩
               have n2_ : Aside0 (Below w.heap.size w (((w44.setCell ⟨gb105, 0, none⟩ (.string ((rd_T53 l0_1 x18_2).f0))).setCell ⟨gb105, 1, none⟩ (.slice A104_1 ((rd_T53 l0_1 x18_2).f1).length c104_1)).setCell ⟨gb105, 2, none⟩ (.int .i64 ((rd_T53 l0_1 x18_2).f2)))) := ⟨zcb41⟩
               (try clear BK101); (try clear BK105); (try clear HB)
               generalize (((w44.setCell ⟨gb105, 0, none⟩ (.string ((rd_T53 l0_1 x18_2).f0))).setCell ⟨gb105, 1, none⟩ (.slice A104_1 ((rd_T53 l0_1 x18_2).f1).length c104_1)).setCell ⟨gb105, 2, none⟩ (.int .i64 ((rd_T53 l0_1 x18_2).f2))) = w47 at n0_ n1_ n2_ ⊢
               have BK101 := n0_
               have BK105 := n1_
               have HB := n2_
               clear n0_ n1_ n2_
               have _ := aM (blk_drew BK101.out)
               have _ := aM (blk_drew BK105.out)
               have _ := aM (below_drew1 HB.out)
               clear BK101
               clear BK105
               clear HB
               rename_i BK101 BK105 HB
               refine sA 29 spec_GoodFiles.tab6 spec_GoodFiles.bits6 (fun w' => w'.cell? ⟨gb105, 0, none⟩ = some (.string ((rd_T53 l0_1 x18_2).f0)) ∧ w'.cell? ⟨gb105, 1, none⟩ = some (.slice A104_1 ((rd_T53 l0_1 x18_2).f1).length c104_1) ∧ w'.cell? ⟨gb105, 2, none⟩ = some (.int .i64 ((rd_T53 l0_1 x18_2).f2))) [] (fun hHeld HT_ HW_ => ?_)
               generalize w47.drew = w48 at BK101 BK105 HB hHeld ⊢
               refine pA 0 23 HT_ ?_; refine tA 1 24 HT_ HW_ hHeld ?_; refine oA 2 25 HT_ (fun K hK => ?_)
               refine goes_ Tryd.func35 (by kernel_rfl) rfl #[.string ((rd_T53 l0_1 x18_2).f0)] (by rfl) rfl rfl zee81 ?_
               with_reducible refine (spec_l2Name.calls k2 ((rd_T53 l0_1 x18_2).f0) true _ A13.out).mono ?_
               rintro e w' ⟨rfl, ⟨nd, rfl⟩⟩
               refine ⟨_, rfl, ?_⟩
               refine hK.out _ _ sZ (fun hHeld => ?_)
               clear hK K
               refine nA 25 ?_; refine pA 3 26 HT_ ?_; refine pA 4 27 HT_ ?_; refine pA 5 28 HT_ ?_; refine pA 6 29 HT_ ?_; refine pA 7 30 HT_ ?_; refine uA 8 31 HT_ ?_; refine uA 9 32 HT_ ?_; refine uA 10 33 HT_ ?_; refine uA 11 34 HT_ ?_; refine uA 12 35 HT_ ?_; refine uA 13 36 HT_ ?_; refine uA 14 37 HT_ ?_; refine uA 15 38 HT_ ?_; refine uA 16 39 HT_ ?_; refine uA 17 40 HT_ ?_; refine pA 18 41 HT_ ?_; refine pA 19 42 HT_ ?_; refine pA 20 43 HT_ ?_; refine pA 21 44 HT_ ?_; refine pA 23 46 HT_ ?_; refine tA 22 45 HT_ HW_ hHeld ?_; refine tA 24 47 HT_ HW_ hHeld ?_; refine pA 25 48 HT_ ?_; refine oA 26 49 HT_ (fun K hK => ?_)
               refine goes_ Tryd.func65 (by kernel_rfl) rfl #[.int .i64 ((rd_T53 l0_1 x18_2).f2), .int .i64 0, .int .i64 (((rd_T53 l0_1 x18_2).f1).length : Int)] (by rfl) rfl rfl zee81 ?_
               with_reducible refine (spec_l1In.calls ((rd_T53 l0_1 x18_2).f2) 0 (((rd_T53 l0_1 x18_2).f1).length : Int) false _ A37.out).mono ?_
               rintro e w' ⟨rfl, ⟨nd, rfl⟩⟩
               refine ⟨_, rfl, ?_⟩
               refine hK.out _ _ sZ (fun hHeld => ?_)
               clear hK K
               refine nA 49 ?_; refine pA 27 50 HT_ ?_; refine pA 28 51 HT_ ?_
               refine done_ (done_of HT_.out (by kernel_rfl)) ?_
               try go_wp2
               go_ret
               exact ⟨z674d, zcb41⟩
         · replace c14 := Bool.eq_false_iff.mpr c14
           subst c14
           rw [if_neg (show ¬ (false = true) by decide)] at H
           obtain rfl := Option.some.inj H
           have p104 : 0 ≤ (x18_2 : Int) := of_decide_eq_true z1200
           have q104 : x18_2 < (l0_1.length : Int) := of_decide_eq_true z1200
           obtain ⟨ad104, A104_1, c104_1, e104, hx104_0, hx104_1, hx104_2, hl104_1, hi104_1⟩ := at_T53 HR0_1.out x18_2 p104 q104
           cases e104
           have TW104_1 := aM hx104_1
           replace hx104_0 := (HB.out.cell (World.block_lt_of_cell? w _ hx104_0)).trans hx104_0
           replace hx104_1 := (HB.out.cell (World.block_lt_of_cell? w _ hx104_1)).trans hx104_1
           replace hx104_2 := (HB.out.cell (World.block_lt_of_cell? w _ hx104_2)).trans hx104_2
           have HR104_1 := aM hi104_1
           have HC104_1 := aM hl104_1
           clear hi104_1 hl104_1
           replace p104 := eq_true p104
           replace q104 := eq_true q104
           try go_wp2_with (first | ((with_reducible refine gate_dst (N := 4) rfl ?_); (try (refine gate_guard (by rfl) ?_; dsimp only)); refine bX 4 53 #[.string (⟨#[]⟩ : ByteArray), .slice none 0 0, .int .i64 0] ?_; intro gb105 hg w49 hbox hb; have _ := bB gb101 hb; have _ := aM (below_step hbZ hb); have _ := aM hbox; have _ := szZ hg; have _ := szZ hg; have ⟨_, _⟩ := nbB gb101 hg; clear BK101 HB; rename_i BK101 HB BK105 GW105 GE105 NB101_105 NB105_101; clear hb hbox hg; have hnb50 := NB105_101.out; have hnc50 := NB101_105.out; have hz51 := cellsZ3 BK105.out))
           have n0_ : Aside0 ((((w49.setCell ⟨gb105, 0, none⟩ (.string ((rd_T53 l0_1 x18_2).f0))).setCell ⟨gb105, 1, none⟩ (.slice A104_1 ((rd_T53 l0_1 x18_2).f1).length c104_1)).setCell ⟨gb105, 2, none⟩ (.int .i64 ((rd_T53 l0_1 x18_2).f2))).heap[gb101]? = some (.cells #[.int .i64 a0_0, .slice (some ad104) l0_1.length c0_1] 29 (0, 0))) := ⟨bkZ⟩
           have n1_ : Aside0 ((((w49.setCell ⟨gb105, 0, none⟩ (.string ((rd_T53 l0_1 x18_2).f0))).setCell ⟨gb105, 1, none⟩ (.slice A104_1 ((rd_T53 l0_1 x18_2).f1).length c104_1)).setCell ⟨gb105, 2, none⟩ (.int .i64 ((rd_T53 l0_1 x18_2).f2))).heap[gb105]? = some (.cells #[.string ((rd_T53 l0_1 x18_2).f0), .slice A104_1 ((rd_T53 l0_1 x18_2).f1).length c104_1, .int .i64 ((rd_T53 l0_1 x18_2).f2)] 53 (0, 0))) := ⟨bkZ⟩
           have n2_ : Aside0 (Below w.heap.size w (((w49.setCell ⟨gb105, 0, none⟩ (.string ((rd_T53 l0_1 x18_2).f0))).setCell ⟨gb105, 1, none⟩ (.slice A104_1 ((rd_T53 l0_1 x18_2).f1).length c104_1)).setCell ⟨gb105, 2, none⟩ (.int .i64 ((rd_T53 l0_1 x18_2).f2)))) := ⟨zcb41⟩
           (try clear BK101); (try clear BK105); (try clear HB)
           generalize (((w49.setCell ⟨gb105, 0, none⟩ (.string ((rd_T53 l0_1 x18_2).f0))).setCell ⟨gb105, 1, none⟩ (.slice A104_1 ((rd_T53 l0_1 x18_2).f1).length c104_1)).setCell ⟨gb105, 2, none⟩ (.int .i64 ((rd_T53 l0_1 x18_2).f2))) = w52 at n0_ n1_ n2_ ⊢
           have BK101 := n0_
           have BK105 := n1_
           have HB := n2_
           clear n0_ n1_ n2_
           have _ := aM (blk_drew BK101.out)
           have _ := aM (blk_drew BK105.out)
           have _ := aM (below_drew1 HB.out)
           clear BK101
           clear BK105
           clear HB
           rename_i BK101 BK105 HB
           refine sA 29 spec_GoodFiles.tab6 spec_GoodFiles.bits6 (fun w' => w'.cell? ⟨gb105, 0, none⟩ = some (.string ((rd_T53 l0_1 x18_2).f0)) ∧ w'.cell? ⟨gb105, 1, none⟩ = some (.slice A104_1 ((rd_T53 l0_1 x18_2).f1).length c104_1) ∧ w'.cell? ⟨gb105, 2, none⟩ = some (.int .i64 ((rd_T53 l0_1 x18_2).f2))) [] (fun hHeld HT_ HW_ => ?_)
           generalize w52.drew = w53 at BK101 BK105 HB hHeld ⊢
           refine pA 0 23 HT_ ?_; refine tA 1 24 HT_ HW_ hHeld ?_; refine oA 2 25 HT_ (fun K hK => ?_)
           refine goes_ Tryd.func35 (by kernel_rfl) rfl #[.string ((rd_T53 l0_1 x18_2).f0)] (by rfl) rfl rfl zee81 ?_
           with_reducible refine (spec_l2Name.calls k2 ((rd_T53 l0_1 x18_2).f0) false _ A13.out).mono ?_
           rintro e w' ⟨rfl, ⟨nd, rfl⟩⟩
           refine ⟨_, rfl, ?_⟩
           refine hK.out _ _ sZ (fun hHeld => ?_)
           clear hK K
           refine nA 25 ?_; refine pA 3 26 HT_ ?_; refine pA 4 27 HT_ ?_; refine uA 5 28 HT_ ?_; refine uA 6 29 HT_ ?_; refine uA 7 30 HT_ ?_; refine uA 8 31 HT_ ?_; refine uA 9 32 HT_ ?_; refine uA 10 33 HT_ ?_; refine uA 11 34 HT_ ?_; refine uA 12 35 HT_ ?_; refine uA 13 36 HT_ ?_; refine uA 14 37 HT_ ?_; refine uA 15 38 HT_ ?_; refine uA 16 39 HT_ ?_; refine uA 17 40 HT_ ?_; refine uA 18 41 HT_ ?_; refine pA 19 42 HT_ ?_; refine pA 20 43 HT_ ?_; refine uA 21 44 HT_ ?_; refine uA 22 45 HT_ ?_; refine uA 23 46 HT_ ?_; refine uA 24 47 HT_ ?_; refine uA 25 48 HT_ ?_; refine uA 26 49 HT_ ?_; refine uA 27 50 HT_ ?_; refine pA 28 51 HT_ ?_
           refine done_ (done_of HT_.out (by kernel_rfl)) ?_
           try go_wp2
           go_ret
           exact ⟨z674d, zcb41⟩
       · rw [if_neg c10] at H
         have c10b0 := nL c10
         clear c10
         obtain ⟨t103, A54, H⟩ := bS H; try dsimp only at H
         obtain rfl := Option.some.inj H
         try go_wp2
         have _ := aM (blk_drew BK101.out)
         have _ := aM (below_drew1 HB.out)
         clear BK101
         clear HB
         rename_i BK101 HB
         refine start_ (n := 6) (S := fun w' => w'.cell? ⟨gb101, 0, none⟩ = some (.int .i64 a0_0) ∧ w'.cell? ⟨gb101, 1, none⟩ = some (.slice A0_1 l0_1.length c0_1)) (ds := []) #[false, false, false, false, false, false] (by kernel_rfl) rfl rfl ⟨(blk_cell BK101.out 0).trans rfl, (blk_cell BK101.out 1).trans rfl⟩ (fun hHeld => ?_)
         generalize wr.drew = w55 at BK101 HB hHeld ⊢
         refine pure_ (i := 2) (N := some 55) (v := ?_) (a' := ?_) #[false, false, true, false, false, false] rfl rfl (by kernel_rfl) (fun _ _ _ h => h) (Or.inl ⟨by rfl, ?_⟩) ?_ ?_
         rotate_left
         · intro w'
           go_simp
           with_reducible rfl
         rotate_left
         · simp only [Act.put, List.setIfInBounds_toArray, List.set_cons_zero, List.set_cons_succ, i64_w, i32_w]
           rfl
         refine take_ (i := 0) (N := some 53) (v := ?_) (a' := ?_) #[true, false, true, false, false, false] rfl rfl (by kernel_rfl) (fun _ _ _ h => h) (Or.inl ⟨by rfl, ?_⟩) hHeld ?_ ?_
         rotate_left
         · rintro w' ⟨s0, s1⟩
           go_simp
           with_reducible rfl
         rotate_left
         · simp only [Act.put, List.setIfInBounds_toArray, List.set_cons_zero, List.set_cons_succ, i64_w, i32_w]
           rfl
         refine take_ (i := 3) (N := some 56) (v := ?_) (a' := ?_) #[true, false, true, true, false, false] rfl rfl (by kernel_rfl) (fun _ _ _ h => h) (Or.inl ⟨by rfl, ?_⟩) hHeld ?_ ?_
         rotate_left
         · rintro w' ⟨s0, s1⟩
           go_simp
           with_reducible rfl
         rotate_left
         · simp only [Act.put, List.setIfInBounds_toArray, List.set_cons_zero, List.set_cons_succ, i64_w, i32_w]
           rfl
         refine one_ (i := 1) (N := some 54) #[true, true, true, true, false, false] rfl rfl (by kernel_rfl) (by decide) (fun K hK => ?_)
         refine goes_ Tryd.func66 (by kernel_rfl) rfl #[.agg #[.int .i64 a0_0, .slice A0_1 l0_1.length c0_1]] (by rfl) rfl rfl zee81 ?_
         with_reducible refine (spec_l2Used.calls k2 a0_0 _ _ l0_1 t103 _ ?side1 ?side2 A54.out).mono ?_
         (case side1 => exact (cZ (Kd.C_below HR0_1.out HB.out)))
         (case side2 => exact HC0_1.out)
         rintro e w56 ⟨rfl, hb⟩
         refine ⟨_, rfl, ?_⟩
         have _ := bB gb101 hb
         have _ := aM (below_step hbZ hb)
         clear BK101
         clear HB
         rename_i BK101 HB
         (try clear hb)
         refine hK.out _ _ sZ (fun hHeld => ?_)
         clear hK K
         refine nA 54 ?_
         refine pure_ (i := 4) (N := some 57) (v := ?_) (a' := ?_) #[true, true, true, true, true, false] rfl rfl (by kernel_rfl) (fun _ _ _ h => h) (Or.inl ⟨by rfl, ?_⟩) ?_ ?_
         rotate_left
         · intro w'
           go_simp
           with_reducible rfl
         rotate_left
         · simp only [Act.put, List.setIfInBounds_toArray, List.set_cons_zero, List.set_cons_succ, i64_w, i32_w]
           rfl
         refine pure_ (i := 5) (N := some 2) (v := ?_) (a' := ?_) #[true, true, true, true, true, true] rfl rfl (by kernel_rfl) (fun _ _ _ h => h) (Or.inl ⟨by rfl, ?_⟩) ?_ ?_
         rotate_left
         · intro w'
           go_simp
           with_reducible rfl
         rotate_left
         · simp only [Act.put, List.setIfInBounds_toArray, List.set_cons_zero, List.set_cons_succ, i64_w, i32_w]
           rfl
         refine done_ (by kernel_rfl) ?_
         try go_wp2
         go_ret
         exact ⟨z674d, zcb41⟩

end Go.Proofs.YtmlclmbplbbbhaaDoor.P

-- written by a program of this session's (wip/pp)
namespace Go.Proofs.YtmlclmbplbbbhaaDoor.P
open Go.RowKit Go.Proofs.YtmlclmbplbbbhaaDoorW.PrintWords Go.Proofs.YtmlclmbplbbbhaaDoorW.PrintLast Go.Proofs.YtmlclmbplbbbhaaDoorW.PrintMore
attribute [local go_sem] max2_int min2_int max_two min_two max_three min_three max_four min_four str_geq str_gtr str_leq   -- for this text's walks alone
set_option linter.unusedVariables false
set_option linter.unusedSimpArgs false

/-! ### spec_l2Own: function 36 -/
def spec_l2Own.l0 : Nat → List (S53) → List (S53) → Int → Int → Int → List (S53) → Option (Int × (List (S53)))
 | 0, _, _, _, _, _, _ => none
 | k + 1, x3, x7, x8, x9, x102000, x102001 => if x9 < x8 then (if 0 ≤ x9 then (if x9 < (x7.length : Int) then ((some (([] : List Int) : List Int)).bind fun y105 => (if y105.length + ((rd_T53 x7 x9).f1).length < 140737488355328 then (if x3.length < 2932031007402 then (spec_l2Own.l0 k (x3 ++ [(⟨(rd_T53 x7 x9).f0, (y105 ++ ((rd_T53 x7 x9).f1)), (rd_T53 x7 x9).f2⟩ : S53)]) x7 x8 (wrap64 (x9 + 1)) x102000 x102001) else (none)) else (none))) else (none)) else (none)) else (some (x102000, x3))
def spec_l2Own.f (k : Nat) (a0_0 : Int) (l0_1 : List (S53)) : Option (Int × (List (S53))) := spec_l2Own.l0 k ([] : List (S53)) l0_1 (l0_1.length : Int) 0 a0_0 l0_1
theorem spec_l2Own.mono_l : ∀ k, (∀ y0 y1 y2 y3 y4 y5, LeO (spec_l2Own.l0 k y0 y1 y2 y3 y4 y5) (spec_l2Own.l0 (k + 1) y0 y1 y2 y3 y4 y5))
 | 0 => fun _ _ _ _ _ _ r h => by simp [spec_l2Own.l0] at h
 | k + 1 => by
  have ih0 := spec_l2Own.mono_l k
  · intro y0 y1 y2 y3 y4 y5
    unfold spec_l2Own.l0
    exact moZ
theorem spec_l2Own.mono : ∀ a0 a1 k, LeO (spec_l2Own.f k a0 a1) (spec_l2Own.f (k + 1) a0 a1) := by
 intro a0 a1 k
 have ih0 := spec_l2Own.mono_l k
 unfold spec_l2Own.f
 exact moZ
set_option maxHeartbeats 8000000 in
set_option maxRecDepth 100000 in
theorem spec_l2Own.calls (k : Nat) (a0_0 : Int) (A0_1 : Option Addr) (c0_1 : Nat) (l0_1 : List (S53)) (r1 : Int) (r2 : List (S53)) (w : World) (hr0_1 : Kd.C k53 w A0_1 l0_1.length l0_1) (hc0_1 : l0_1.length ≤ c0_1) (h : spec_l2Own.f k a0_0 l0_1 = some (r1, r2)) :
 Calls Tryd.prog 36 #[.agg #[.int .i64 a0_0, .slice A0_1 l0_1.length c0_1]] w fun e w' => ∃ v1_ : Value, e = .returned (.agg #[.int .i64 r1, v1_]) ∧ Kd.S k53 53 w' w.heap.size (fun _ => True) v1_ r2 ∧ Below w.heap.size w w' := by
 have hu29 := Tryd.underlying29
 have hu53 := Tryd.underlying53
 have HR0_1 := aM hr0_1
 have HC0_1 := aM hc0_1
 clear hr0_1 hc0_1
 have HB := aM (Below.refl w.heap.size w)
 have H : (spec_l2Own.l0 k ([] : List (S53)) l0_1 (l0_1.length : Int) 0 a0_0 l0_1) = some (r1, r2) := h
 clear h
 have H' := aM H
 clear H
 go_enter Tryd.func36, Tryd.ntmps36
 go_wp2_with (first | ((with_reducible refine gate_dst (N := 1) rfl ?_); refine bX 1 29 #[.int .i64 a0_0, .slice A0_1 l0_1.length c0_1] ?_; intro gb101 hg w2 hbox hb; have _ := aM (below_step hbZ hb); have _ := aM hbox; have _ := szZ hg; have _ := szZ hg; clear HB; rename_i HB BK101 GW101 GE101; clear hb hbox hg) | ((with_reducible refine gate_dst (N := 2) rfl ?_); refine bX 2 29 #[.int .i64 0, .slice none 0 0] ?_; intro gb102 hg w3 hbox hb; have _ := bB gb101 hb; have _ := aM (below_step hbZ hb); have _ := aM hbox; have _ := szZ hg; have _ := szZ hg; have ⟨_, _⟩ := nbB gb101 hg; clear BK101 HB; rename_i BK101 HB BK102 GW102 GE102 NB101_102 NB102_101; clear hb hbox hg; have hnb4 := NB101_102.out; have hnc4 := NB102_101.out; have hz5 := cellsZ2 BK101.out))
 go_loopg [3, 9] k (fun kq v3 v9 w' => ∃ (x3_1 : List (S53)) (x9_1 : Int), v9 = .int .i64 x9_1 ∧ Aside0 (spec_l2Own.l0 kq x3_1 l0_1 (l0_1.length : Int) x9_1 a0_0 l0_1 = some (r1, r2)) ∧ Aside0 (kq ≤ k) ∧ Aside0 (Kd.S k53 53 w' w.heap.size (fun _ => True) v3 x3_1) ∧ Aside0 (w'.heap[gb101]? = some (.cells #[.int .i64 a0_0, (.slice A0_1 l0_1.length c0_1)] 29 (0, 0))) ∧ Aside0 (w'.heap[gb102]? = some (.cells #[.int .i64 0, (.slice none 0 0)] 29 (0, 0))) ∧ Aside0 (Below w.heap.size w w'))
 case atStart => exact ⟨(([] : List (S53))), (0), z4458, H', ⟨Nat.le_refl _⟩, ⟨z2bfb⟩, ⟨bkZ⟩, ⟨bkZ⟩, ⟨zcb41⟩⟩
 case round =>
  clear H'
  (try clear hz5)
  obtain ⟨x3_1, x9_1, rfl, HA, HK1, HO_3, BK101, BK102, HB⟩ := hrel
  cases gk with
  | zero => exact absurd HA.out (by simp [spec_l2Own.l0])
  | succ k1 =>
   have H := HA.out
   clear HA
   simp only [spec_l2Own.l0] at H
   by_cases c6 : x9_1 < (l0_1.length : Int)
   · rw [if_pos c6] at H
     have c6b0 := dL c6
     clear c6
     obtain ⟨c7b0, H⟩ := sE H
     obtain ⟨c8b0, H⟩ := sL H
     obtain ⟨y105, hy105⟩ : ∃ y_ : List Int, y_ = (([] : List Int)) := ⟨_, rfl⟩
     first | (replace H := bindS H; rw [← hy105] at H; try dsimp only at H) | rw [← hy105] at H
     have Ny105 := aM hy105
     clear hy105
     obtain ⟨LMc9, H⟩ := sM H
     obtain ⟨y108, hy108⟩ : ∃ y_ : List Int, y_ = (y105 ++ ((rd_T53 l0_1 x9_1).f1)) := ⟨_, rfl⟩
     first | (replace H := bindS H; rw [← hy108] at H; try dsimp only at H) | rw [← hy108] at H
     have Ny108 := aM hy108
     clear hy108
     obtain ⟨LMc10, H⟩ := sM H
     obtain ⟨y111, hy111⟩ : ∃ y_ : List (S53), y_ = (x3_1 ++ [(⟨(rd_T53 l0_1 x9_1).f0, y108, (rd_T53 l0_1 x9_1).f2⟩ : S53)]) := ⟨_, rfl⟩
     first | (replace H := bindS H; rw [← hy111] at H; try dsimp only at H) | rw [← hy111] at H
     have Ny111 := aM hy111
     clear hy111
     have H' := aM H
     clear H
     have p103 : 0 ≤ (x9_1 : Int) := of_decide_eq_true z1200
     have q103 : x9_1 < (l0_1.length : Int) := of_decide_eq_true z1200
     obtain ⟨ad103, A103_1, c103_1, e103, hx103_0, hx103_1, hx103_2, hl103_1, hi103_1⟩ := at_T53 HR0_1.out x9_1 p103 q103
     cases e103
     have TW103_1 := aM hx103_1
     replace hx103_0 := (HB.out.cell (World.block_lt_of_cell? w _ hx103_0)).trans hx103_0
     replace hx103_1 := (HB.out.cell (World.block_lt_of_cell? w _ hx103_1)).trans hx103_1
     replace hx103_2 := (HB.out.cell (World.block_lt_of_cell? w _ hx103_2)).trans hx103_2
     have HR103_1 := aM hi103_1
     have HC103_1 := aM hl103_1
     clear hi103_1 hl103_1
     replace p103 := eq_true p103
     replace q103 := eq_true q103
     go_wp2_with (first | ((with_reducible refine gate_dst (N := 5) rfl ?_); refine bX 5 53 #[.string (⟨#[]⟩ : ByteArray), .slice none 0 0, .int .i64 0] ?_; intro gb104 hg w11 hbox hb; have _ := aM (Kd.S_below (Kd.S_elderB zd74a gb104 (Nat.le_of_eq hg.symm)) hb); have _ := bB gb101 hb; have _ := bB gb102 hb; have _ := aM (below_step hbZ hb); have _ := aM hbox; have _ := szZ hg; have _ := szZ hg; have ⟨_, _⟩ := nbB gb101 hg; have ⟨_, _⟩ := nbB gb102 hg; clear HO_3 BK101 BK102 HB; rename_i HO_3 BK101 BK102 HB BK104 GW104 GE104 NB101_104 NB104_101 NB102_104 NB104_102; clear hb hbox hg; have hnb12 := NB104_101.out; have hnc12 := NB101_104.out; have hnb13 := NB104_102.out; have hnc13 := NB102_104.out; have hz14 := cellsZ3 BK104.out) | ((with_reducible refine gate_dst (N := 13) rfl ?_); refine Kd.R_lit (Kd.int .u8) _ 5 ?hg (N := 13) ?hd (xs := ([] : List Int)) (inner := []) (ok := fun _ => True) (okp := fun _ => True) ?hr ?hp (fun _ hk => hk) trivial (Below.refl _ _) (Nat.le_refl _) (by simp) ?_; (case hd => rfl); (case hg => rfl); (case hr => first | (go_simp; done) | (go_simp; rfl)); (case hp => exact (Reps.none _ _)); intro v106 w15 ho16 hb hg_ hnew_; clear hg_ hnew_; (first | rw [← Ny105.out] at ho16 | (simp only [Int.reduceToNat] at ho16; rw [← Ny105.out] at ho16)); have _ := aM (Kd.S_elder' (by (with_reducible repeat (first | apply Kd.S_alloc | apply Kd.S_drewN | apply Kd.S_drew)); exact (Kd.S_mono (Kd.S_far (p := ⟨gb104, 2, none⟩) (Kd.S_far (p := ⟨gb104, 1, none⟩) (Kd.S_far (p := ⟨gb104, 0, none⟩) (Kd.S_mono HO_3.out (fun k_ hk => (⟨hk, hk.2⟩ : _ ∧ k_ ≠ gb104))) (fun _ hk => hk.2) (.string ((rd_T53 l0_1 x9_1).f0))) (fun _ hk => hk.2) (.slice A103_1 ((rd_T53 l0_1 x9_1).f1).length c103_1)) (fun _ hk => hk.2) (.int .i64 ((rd_T53 l0_1 x9_1).f2))) (fun _ h_ => h_.1))) (Kd.R_base ho16) hb); have _ := aM (Kd.R_lower ho16 (below_size hbZ)); have _ := bB gb101 hb; have _ := bB gb102 hb; have _ := aM (blk_below (g := gb104) (o := .cells #[.string ((rd_T53 l0_1 x9_1).f0), .slice A103_1 ((rd_T53 l0_1 x9_1).f1).length c103_1, .int .i64 ((rd_T53 l0_1 x9_1).f2)] 53 (0, 0)) bkZ hb); have _ := aM (below_step hbZ hb); clear HO_3 BK101 BK102 BK104 HB; rename_i HO_3 HO107 BK101 BK102 BK104 HB; clear hb ho16; have hz17 := cellsZ3 BK104.out) | ((with_reducible refine gate_builtin (b := .append) (xs := #[.tmp 13, .tmp 15]) rfl ?_); at_builtin; refine Kd.R_append_rows (Kd.int .u8) (w0 := w) w.heap.size rfl (.tmp 13) (.tmp 15) 25 5 (.int .u8 0) 1 rfl Tryd.underlying25 info5 rfl (by decide) (by omega) v106 y105 ((rd_T53 l0_1 x9_1).f1) _ _ _ (fun _ => True) (fun _ => False) rfl rfl ?aO ?aR (fun _ _ h => h) (fun _ h => h.elim) ?aF ?aB ?aS ?aL ?_; (case aR => repeat (first | exact (Kd.C_below HR103_1.out HB.out) | (with_reducible refine Kd.C_alloc ?_ _) | (with_reducible refine Kd.C_drewN ?_ _) | (with_reducible refine Kd.C_drew ?_))); (case aB => exact hbZ); (case aF => exact (fun _ _ => trivial)); (case aO => exact (rZ HO107.out)); (case aS => exact (below_size hbZ)); (case aL => have := LMc9.out; omega); intro v109 w18 ho hb hg hat; rw [← Ny108.out] at ho; have _ := aM (Kd.S_after (ok := (fun k_ => k_ ≠ gb104)) (by (with_reducible repeat (first | apply Kd.S_alloc | apply Kd.S_drewN | apply Kd.S_drew)); exact Kd.S_mono HO_3.out (fun _ hk => ⟨hk.1.2, hk.2⟩)) hg hat); have _ := aM (blk_grown (g := gb101) bkZ hg (Kd.R_ne HO107.out BK101.out (by decide))); have _ := aM (blk_grown (g := gb102) bkZ hg (Kd.R_ne HO107.out BK102.out (by decide))); have _ := aM (blk_grown (g := gb104) bkZ hg (Kd.R_ne HO107.out BK104.out (by decide))); have _ := aM hb; have _ := aM ho; clear HO_3 BK101 BK102 BK104 HB HO107; rename_i HO_3 BK101 BK102 BK104 HB HO110; clear ho hb hg hat; obtain ⟨Ao19, co19, eo19⟩ := Kd.R_slice HO110.out; subst eo19; have hz20 := cellsZ3 BK104.out) | ((with_reducible refine gate_store (t := 25) (p := 17) rfl ?_); refine store_event (t := 25) (p := 17) (v := ?vo_w21) (w1 := (w18.setCell ⟨gb104, 1, none⟩ (.slice Ao19 y108.length co19))) ?hg ?ho ?hn ?hr ?_; (case ho => rfl); (case hg => rfl); (case hn => rfl); (case hr => first | (go_simp; done) | (go_simp; rfl)); intro w21 hw; have _ : Aside0 (Kd.S k53 53 w21 w.heap.size (fun k_ => some k_ ≠ (.slice Ao19 y108.length co19 : Value).ownBlock ∧ k_ ≠ gb104) u3 x3_1) := ⟨(by rw [hw]; exact (by (with_reducible repeat (first | apply Kd.S_alloc | apply Kd.S_drewN | apply Kd.S_drew)); exact Kd.S_mono (Kd.S_far (p := ⟨gb104, 1, none⟩) (Kd.S_mono HO_3.out (fun k_ hk => (⟨hk, hk.1⟩ : _ ∧ k_ ≠ gb104))) (fun _ hk => hk.2) (.slice Ao19 y108.length co19)) (fun _ hk => ⟨hk.1.2, hk.1.1⟩)))⟩; have _ : Aside0 (Kd.R (Kd.int .u8) 5 w21 w.heap.size (fun _ => True) (.slice Ao19 y108.length co19) y108) := ⟨(by rw [hw]; exact (by (with_reducible repeat (first | apply Kd.R_alloc | apply Kd.R_drewN | apply Kd.R_drew)); exact Kd.R_mono (Kd.R_far (p := ⟨gb104, 1, none⟩) (Kd.R_types HO110.out BK104.out (by decide)) (fun _ hk => hk.2) (.slice Ao19 y108.length co19)) (fun _ hk => trivial)))⟩; have _ : Aside0 (w21.heap[gb101]? = some (.cells #[.int .i64 a0_0, .slice (some ad103) l0_1.length c0_1] 29 (0, 0))) := ⟨(by rw [hw]; exact bkZ)⟩; have _ : Aside0 (w21.heap[gb102]? = some (.cells #[.int .i64 0, .slice none 0 0] 29 (0, 0))) := ⟨(by rw [hw]; exact bkZ)⟩; have _ : Aside0 (w21.heap[gb104]? = some (.cells #[.string ((rd_T53 l0_1 x9_1).f0), .slice Ao19 y108.length co19, .int .i64 ((rd_T53 l0_1 x9_1).f2)] 53 (0, 0))) := ⟨(by rw [hw]; exact bkZ)⟩; have _ : Aside0 (Below w.heap.size w w21) := ⟨(by rw [hw]; exact hbZ)⟩; clear hw HO_3 HO110 BK101 BK102 BK104 HB; rename_i HO_3 HO110 BK101 BK102 BK104 HB; have hz22 := cellsZ3 BK104.out) | ((with_reducible refine gate_builtin (b := .append) (xs := #[.tmp 18, .tmp 20]) rfl ?_); at_builtin; refine Kd.S_append k53 (w0 := w) w.heap.size rfl (.tmp 18) (.tmp 20) 27 53 (.agg #[(.string ⟨#[]⟩), (.slice none 0 0), (.int .i64 0)]) 48 rfl Tryd.underlying27 info53 rfl (by decide) (by omega) u3 x3_1 (⟨(rd_T53 l0_1 x9_1).f0, y108, (rd_T53 l0_1 x9_1).f2⟩ : S53) [.string ((rd_T53 l0_1 x9_1).f0), .slice Ao19 y108.length co19, .int .i64 ((rd_T53 l0_1 x9_1).f2)] (fun k_ => k_ ≠ gb104) (fun k_ => some k_ = (.slice Ao19 y108.length co19 : Value).ownBlock) rfl rfl ?aP (fun k_ hk_ => ((Kd.R_mono (ok' := fun k_ => ((fun k_ => k_ ≠ gb104)) k_ ∧ some k_ ≠ (u3 : Value).ownBlock) (Kd.R_types (Kd.R_apart' (HO110.out) (Kd.S_typed HO_3.out) (by decide)) BK104.out (by decide)) (fun k_ hk => ⟨hk.2, hk.1.2⟩))).1 k_ hk_.symm) ?aF ?aO ?aB ?aS ?aL ?_; (case aP => exact k53_mkM _ _ _ (⟨(rd_T53 l0_1 x9_1).f0, y108, (rd_T53 l0_1 x9_1).f2⟩ : S53) (Kd.R_mono (Kd.R_tight rfl (Kd.R_mono (ok' := fun k_ => ((fun k_ => k_ ≠ gb104)) k_ ∧ some k_ ≠ (u3 : Value).ownBlock) (Kd.R_types (Kd.R_apart' (HO110.out) (Kd.S_typed HO_3.out) (by decide)) BK104.out (by decide)) (fun k_ hk => ⟨hk.2, hk.1.2⟩))) (fun _ h_ => h_))); (case aB => exact hbZ); (case aF => exact (fun k_ hk => Kd.freshB (g := gb104) bkZ k_ hk)); (case aO => exact (by (with_reducible repeat (first | apply Kd.S_alloc | apply Kd.S_drewN | apply Kd.S_drew)); exact Kd.S_mono HO_3.out (fun k_ hk => ⟨hk.2, fun e_ => hk.1 e_⟩))); (case aS => exact (below_size hbZ)); (case aL => have := LMc10.out; omega); intro v112 w23 ho hb hg hat; rw [← Ny111.out] at ho; have _ := aM (blk_grown (g := gb101) bkZ hg (Kd.S_ne HO_3.out BK101.out (by decide))); have _ := aM (blk_grown (g := gb102) bkZ hg (Kd.S_ne HO_3.out BK102.out (by decide))); have _ := aM (blk_grown (g := gb104) bkZ hg (Kd.S_away HO_3.out (fun _ hk => hk.2))); have _ := aM hb; have _ := aM ho; clear BK101 BK102 BK104 HB HO_3 HO110; rename_i BK101 BK102 BK104 HB HO113; clear ho hb hg hat))
     go_roundg k1
     case measure => have := HK1.out; omega
     case rel => exact ⟨(y111), (wrap64 (x9_1 + 1)), z4458, H', ⟨zfb39⟩, ⟨by (with_reducible repeat (first | apply Kd.S_alloc | apply Kd.S_drewN | apply Kd.S_drew)); exact Kd.S_mono HO113.out (fun _ hk => trivial)⟩, ⟨bkZ⟩, ⟨bkZ⟩, ⟨zcb41⟩⟩
   · rw [if_neg c6] at H
     have c6b0 := nL c6
     clear c6
     simp only [Option.some.injEq, Prod.mk.injEq] at H
     obtain ⟨rfl, rfl⟩ := H
     obtain ⟨Ao24, co24, eo24⟩ := Kd.S_slice HO_3.out
     subst eo24
     have hnb25 := NB101_102.out
     have hnc25 := NB102_101.out
     have hz26 := cellsZ2 BK101.out
     have hz27 := cellsZ2 BK102.out
     go_wp2
     refine bodyPost_ret (results_cell_row rfl _ _ gb102 29 #[.int .i64 a0_0, .slice Ao24 x3_1.length co24] (0, 0) _ rfl bkZ Tryd.underlying29 rfl (by kernel_rfl)) rfl ?_
     exact ⟨_, z674d, by (with_reducible repeat (first | apply Kd.S_alloc | apply Kd.S_drewN | apply Kd.S_drew)); exact Kd.S_mono (Kd.S_far (p := ⟨gb102, 1, none⟩) (Kd.S_far (p := ⟨gb102, 0, none⟩) (Kd.S_far (p := ⟨gb101, 1, none⟩) (Kd.S_types (Kd.S_types HO_3.out BK101.out (by decide)) BK102.out (by decide)) (fun _ hk => hk.1.2) (.slice Ao24 x3_1.length co24)) (fun _ hk => hk.2) (.int .i64 a0_0)) (fun _ hk => hk.2) (.slice Ao24 x3_1.length co24)) (fun _ hk => trivial), zcb41⟩

end Go.Proofs.YtmlclmbplbbbhaaDoor.P

section
/- spec.AppendFile, over spec.l2Append. No conditions of its own. -/
set_option linter.unusedVariables false
set_option linter.unusedSimpArgs false
namespace Go.Proofs.YtmlclmbplbbbhaaDoor.P
open Go Go.RowKit Go.Proofs.YtmlclmbplbbbhaaDoorW.PrintWords Go.Proofs.YtmlclmbplbbbhaaDoorW.PrintLast Go.Proofs.YtmlclmbplbbbhaaDoorW.PrintMore
def spec_AppendFile.f (k : Nat) (q : Int) (l : List S53) (a1 : ByteArray) (a2 : List Int) : Option (Int × List S53 × Int) := (spec_GoodFiles.f k q l).bind fun t => if t = true then ((spec_l2Name.f k a1).bind fun s => if s = true then ((spec_l2Own.f k q l).bind fun c => (spec_l2Append.f k c.1 c.2 a1 a2).bind fun d => some (d.2.1, d.2.2, d.1)) else some (0, [], 1)) else some (0, [], 1)
set_option maxHeartbeats 4000000 in
set_option maxRecDepth 100000 in
theorem spec_AppendFile.calls (k : Nat) (a0_0 : Int) (A0_1 : Option Addr) (c0_1 : Nat) (l0_1 : List (S53)) (a1 : ByteArray) (A2 : Option Addr) (c2 : Nat) (a2 : List Int) (r1 : Int) (r2 : List (S53)) (r3 : Int) (w : World) (hr0_1 : Kd.C k53 w A0_1 l0_1.length l0_1) (hc0_1 : l0_1.length ≤ c0_1) (hr2 : Kd.C (Kd.int .u8) w A2 a2.length a2) (hc2 : a2.length ≤ c2) (h : spec_AppendFile.f k a0_0 l0_1 a1 a2 = some (r1, r2, r3)) :
 Calls Tryd.prog 10 #[.agg #[.int .i64 a0_0, .slice A0_1 l0_1.length c0_1], .string a1, .slice A2 a2.length c2] w fun e w' => ∃ v1_ : Value, e = .returned (.tuple #[.agg #[.int .i64 r1, v1_], .int .i64 r3]) ∧ Kd.S k53 53 w' w.heap.size (fun _ => True) v1_ r2 ∧ Below w.heap.size w w' := by
  have hu := Tryd.underlying29
  have HC := aM hr0_1
  have HL := aM hc0_1
  have HD := aM hr2
  have HDL := aM hc2
  have HB := aM (Below.refl w.heap.size w)
  clear hr0_1 hc0_1 hr2 hc2
  obtain ⟨t, e1, h⟩ := Option.bind_eq_some_iff.1 h
  have E1 := aM e1
  clear e1
  cases t with
  | false =>
    simp only [Bool.false_eq_true, if_false, Option.some.injEq, Prod.mk.injEq] at h
    obtain ⟨rfl, rfl, rfl⟩ := h
    go_enter Tryd.func10, Tryd.ntmps10
    go_wp2_with (first | ((with_reducible refine gate_dst (N := 3) rfl ?_); refine bX 3 29 #[.int .i64 a0_0, .slice A0_1 l0_1.length c0_1] ?_; intro bF hg w1 hbox hb; have XF := aM hbox; have HF1 := aM (show w.heap.size ≤ bF from by rw [hg]; exact Nat.le_refl _); replace HB := aM (below_after HB.out hb); clear hg hbox hb; have hzF := cellsZ2 XF.out) | ((with_reducible refine gate_dst (N := 6) rfl ?_); refine bX 6 29 #[.int .i64 0, .slice none 0 0] ?_; intro bR hg w2 hbox hb; have XR := aM hbox; have HR1 := aM (show w.heap.size ≤ bR from by rw [hg]; exact HB.out.size); have HNE := aM (show bR ≠ bF from by rw [hg]; exact Nat.ne_of_gt (box_lt XF.out)); replace XF := aM (blk_below XF.out hb); replace HB := aM (below_after HB.out hb); clear hzF hg hbox hb; have hzF := cellsZ2 XF.out; have hzR := cellsZ2 XR.out) | ((with_reducible refine gate_callee (f := 34) rfl ?_); refine gL 10 Tryd.func34 #[.agg #[.int .i64 a0_0, .slice A0_1 l0_1.length c0_1]] ?_; (with_reducible refine (spec_GoodFiles.calls k a0_0 _ _ l0_1 false _ (Kd.C_below HC.out HB.out) HL.out E1.out).mono ?_); rintro e w3 ⟨rfl, hb⟩; refine ⟨_, rfl, ?_⟩; replace XF := aM (blk_below XF.out hb); replace XR := aM (blk_below XR.out hb); replace HB := aM (below_after HB.out hb); clear hzF hzR hb; have hzF := cellsZ2 XF.out; have hzR := cellsZ2 XR.out))
    refine bodyPost_ret (results_ct rfl _ _ bR 29 #[.int .i64 0, .slice none 0 0] (0, 0) _ rfl bkZ Tryd.underlying29 rfl (by kernel_rfl)) rfl ?_
    exact ⟨_, rfl, Kd.S_nil _ _ _ _ _, below_set (below_set HB.out HR1.out) HR1.out⟩
  | true =>
    simp only [if_true] at h
    obtain ⟨s, e2, h⟩ := Option.bind_eq_some_iff.1 h
    have E2 := aM e2
    clear e2
    cases s with
    | false =>
      simp only [Bool.false_eq_true, if_false, Option.some.injEq, Prod.mk.injEq] at h
      obtain ⟨rfl, rfl, rfl⟩ := h
      go_enter Tryd.func10, Tryd.ntmps10
      go_wp2_with (first | ((with_reducible refine gate_dst (N := 3) rfl ?_); refine bX 3 29 #[.int .i64 a0_0, .slice A0_1 l0_1.length c0_1] ?_; intro bF hg w1 hbox hb; have XF := aM hbox; have HF1 := aM (show w.heap.size ≤ bF from by rw [hg]; exact Nat.le_refl _); replace HB := aM (below_after HB.out hb); clear hg hbox hb; have hzF := cellsZ2 XF.out) | ((with_reducible refine gate_dst (N := 6) rfl ?_); refine bX 6 29 #[.int .i64 0, .slice none 0 0] ?_; intro bR hg w2 hbox hb; have XR := aM hbox; have HR1 := aM (show w.heap.size ≤ bR from by rw [hg]; exact HB.out.size); have HNE := aM (show bR ≠ bF from by rw [hg]; exact Nat.ne_of_gt (box_lt XF.out)); replace XF := aM (blk_below XF.out hb); replace HB := aM (below_after HB.out hb); clear hzF hg hbox hb; have hzF := cellsZ2 XF.out; have hzR := cellsZ2 XR.out) | ((with_reducible refine gate_callee (f := 34) rfl ?_); refine gL 10 Tryd.func34 #[.agg #[.int .i64 a0_0, .slice A0_1 l0_1.length c0_1]] ?_; (with_reducible refine (spec_GoodFiles.calls k a0_0 _ _ l0_1 true _ (Kd.C_below HC.out HB.out) HL.out E1.out).mono ?_); rintro e w3 ⟨rfl, hb⟩; refine ⟨_, rfl, ?_⟩; replace XF := aM (blk_below XF.out hb); replace XR := aM (blk_below XR.out hb); replace HB := aM (below_after HB.out hb); clear hzF hzR hb; have hzF := cellsZ2 XF.out; have hzR := cellsZ2 XR.out) | (go_at_call 35; (with_reducible refine (spec_l2Name.calls k a1 false _ E2.out).mono ?_); rintro e w4 ⟨rfl, hd_⟩; have hb := below_drawn hd_; clear hd_; replace XF := aM (blk_below XF.out hb); replace XR := aM (blk_below XR.out hb); replace HB := aM (below_after HB.out hb); clear hzF hzR hb; have hzF := cellsZ2 XF.out; have hzR := cellsZ2 XR.out))
      refine bodyPost_ret (results_ct rfl _ _ bR 29 #[.int .i64 0, .slice none 0 0] (0, 0) _ rfl bkZ Tryd.underlying29 rfl (by kernel_rfl)) rfl ?_
      exact ⟨_, rfl, Kd.S_nil _ _ _ _ _, below_set (below_set HB.out HR1.out) HR1.out⟩
    | true =>
      simp only [if_true] at h
      obtain ⟨⟨q1, l1⟩, e3, h⟩ := Option.bind_eq_some_iff.1 h
      have E3 := aM e3
      clear e3
      obtain ⟨⟨d1, d2, d3⟩, e4, h⟩ := Option.bind_eq_some_iff.1 h
      have E4 := aM e4
      clear e4
      simp only [Option.some.injEq, Prod.mk.injEq] at h
      obtain ⟨rfl, rfl, rfl⟩ := h
      go_enter Tryd.func10, Tryd.ntmps10
      go_wp2_with (first | ((with_reducible refine gate_dst (N := 3) rfl ?_); refine bX 3 29 #[.int .i64 a0_0, .slice A0_1 l0_1.length c0_1] ?_; intro bF hg w1 hbox hb; have XF := aM hbox; have HF1 := aM (show w.heap.size ≤ bF from by rw [hg]; exact Nat.le_refl _); replace HB := aM (below_after HB.out hb); clear hg hbox hb; have hzF := cellsZ2 XF.out) | ((with_reducible refine gate_dst (N := 6) rfl ?_); refine bX 6 29 #[.int .i64 0, .slice none 0 0] ?_; intro bR hg w2 hbox hb; have XR := aM hbox; have HR1 := aM (show w.heap.size ≤ bR from by rw [hg]; exact HB.out.size); have HNE := aM (show bR ≠ bF from by rw [hg]; exact Nat.ne_of_gt (box_lt XF.out)); replace XF := aM (blk_below XF.out hb); replace HB := aM (below_after HB.out hb); clear hzF hg hbox hb; have hzF := cellsZ2 XF.out; have hzR := cellsZ2 XR.out) | ((with_reducible refine gate_callee (f := 34) rfl ?_); refine gL 10 Tryd.func34 #[.agg #[.int .i64 a0_0, .slice A0_1 l0_1.length c0_1]] ?_; (with_reducible refine (spec_GoodFiles.calls k a0_0 _ _ l0_1 true _ (Kd.C_below HC.out HB.out) HL.out E1.out).mono ?_); rintro e w3 ⟨rfl, hb⟩; refine ⟨_, rfl, ?_⟩; replace XF := aM (blk_below XF.out hb); replace XR := aM (blk_below XR.out hb); replace HB := aM (below_after HB.out hb); clear hzF hzR hb; have hzF := cellsZ2 XF.out; have hzR := cellsZ2 XR.out) | (go_at_call 35; (with_reducible refine (spec_l2Name.calls k a1 true _ E2.out).mono ?_); rintro e w4 ⟨rfl, hd_⟩; have hb := below_drawn hd_; clear hd_; replace XF := aM (blk_below XF.out hb); replace XR := aM (blk_below XR.out hb); replace HB := aM (below_after HB.out hb); clear hzF hzR hb; have hzF := cellsZ2 XF.out; have hzR := cellsZ2 XR.out) | ((with_reducible refine gate_callee (f := 36) rfl ?_); refine gL 19 Tryd.func36 #[.agg #[.int .i64 a0_0, .slice A0_1 l0_1.length c0_1]] ?_; (with_reducible refine (spec_l2Own.calls k a0_0 _ _ l0_1 q1 l1 _ (Kd.C_below HC.out HB.out) HL.out E3.out).mono ?_); rintro e w5 ⟨v1, rfl, hs, hb⟩; refine ⟨_, rfl, ?_⟩; obtain ⟨A1, n1, c1, rfl⟩ := S_form3 hs; have HS := aM (Kd.S_lower hs HB.out.size); replace XF := aM (blk_below XF.out hb); replace XR := aM (blk_below XR.out hb); replace HB := aM (below_after HB.out hb); clear hzF hzR hb hs; have hzF := cellsZ2 XF.out; have hzR := cellsZ2 XR.out) | (go_at_call 37; have HF := aM (show FilesAt ((w5.setCell ⟨bF, 0, none⟩ (.int .i64 q1)).setCell ⟨bF, 1, none⟩ (.slice A1 n1 c1)) w.heap.size (fun k => (True ∧ k ≠ bF) ∧ k ≠ bR) bF q1 l1 from ⟨_, blk_set (blk_set XF.out 0 _) 1 _, Kd.S_far (Kd.S_far (Kd.S_types (Kd.S_types HS.out XF.out (by decide)) XR.out (by decide)) (fun k hk => hk.1.2) _) (fun k hk => hk.1.2) _, fun hk => hk.1.2 rfl, HF1.out⟩); have HB' := aM (below_set (j := 1) (v := .slice A1 n1 c1) (below_set (j := 0) (v := .int .i64 q1) HB.out HF1.out) HF1.out); replace XR := aM (show ((w5.setCell ⟨bF, 0, none⟩ (.int .i64 q1)).setCell ⟨bF, 1, none⟩ (.slice A1 n1 c1)).heap[bR]? = some (.cells #[.int .i64 0, .slice none 0 0] 29 (0, 0)) from (Below.heap_setCell _ ⟨bF, 1, none⟩ _ _ HNE.out).trans ((Below.heap_setCell _ ⟨bF, 0, none⟩ _ _ HNE.out).trans XR.out)); refine (spec_l2Append.does k bF q1 l1 a1 A2 c2 a2 d1 d2 d3 w _ HB'.out _ HF.out HD.out HDL.out E4.out).mono ?_; rintro e w7 ⟨he, ⟨P7, v7, hx7, hs7, hp7, hb7⟩, hB7, hk7⟩; subst he; obtain ⟨A7, n7, c7, rfl⟩ := S_form3 hs7; have Y3 := aM hx7; have Y2 := aM (blk_kept XR.out hk7 (fun hk => by rcases hk with hk | hk; exact HNE.out hk; exact hk.2 rfl)); have HS7 := aM hs7; have HB7 := aM hB7; clear hx7 hs7 hp7 hb7 hB7 hk7 hzF hzR; have hz2 := cellsZ2 Y2.out; have hz3 := cellsZ2 Y3.out))
      refine bodyPost_ret (results_ct rfl _ _ bR 29 #[.int .i64 d2, .slice A7 n7 c7] (0, 0) _ rfl (blk_set (blk_set Y2.out 0 _) 1 _) Tryd.underlying29 rfl (by kernel_rfl)) rfl ?_
      exact ⟨_, rfl, Kd.S_mono (Kd.S_far (Kd.S_far (Kd.S_types HS7.out Y2.out (by decide)) (fun k hk => hk.2) _) (fun k hk => hk.2) _) (fun _ _ => trivial), below_set (below_set HB7.out HR1.out) HR1.out⟩
end Go.Proofs.YtmlclmbplbbbhaaDoor.P
end

/- An element of a row is written field by field: what stands meanwhile. No conditions. -/
namespace Go.Proofs.YtmlclmbplbbbhaaDoor.P
open Go.RowKit Go.Proofs.YtmlclmbplbbbhaaDoorW.PrintWords Go.Proofs.YtmlclmbplbbbhaaDoorW.PrintLast Go.Proofs.YtmlclmbplbbbhaaDoorW.PrintMore
section
variable {α β : Type} {d : Kd α} {d' : Kd β} {e e' g n cap : Nat} {w0 w W W' : World} {P S oki : Nat → Prop} {xs : List α} {i : Int} {c : List Value}
/-- Element i of the row at block g is out: its cells are c, its rows' blocks are oki. -/
structure Hole (d : Kd α) (e : Nat) (w0 w W : World) (P : Nat → Prop) (g n cap : Nat) (xs : List α) (i : Int) (oki : Nat → Prop) (c : List Value) : Prop where
  i0 : 0 ≤ i
  i1 : i < n
  hb : Below w0.heap.size w0 W
  hk : Kept w W P
  hp : P g
  hg : w0.heap.size ≤ g
  ho : ∀ k, oki k → P k ∧ k ≠ g
  hh : Kd.H d e W w0.heap.size P (.slice (some ⟨g, 0, none⟩) n cap) xs i oki c
theorem Hole.mk0 (hS : Kd.S d e W w0.heap.size P (.slice (some ⟨g, 0, none⟩) n cap) xs) (hb : Below w0.heap.size w0 W) (hk : Kept w W P) (z : α) (h0 : 0 ≤ i) (h1 : i < n) :
    ∃ (oki : Nat → Prop) (c : List Value), Hole d e w0 w W P g n cap xs i oki c ∧ d.M W w0.heap.size oki (xs.getD i.toNat z) c := by
  obtain ⟨oki, c, hcl, hM, hcc, hfr, hoki, hH⟩ := Kd.S_elem hS z i h0 h1
  exact ⟨oki, c, ⟨h0, h1, hb, hk, (Kd.S_R hS).1 _ rfl, Kd.S_base hS _ rfl, hoki, hH⟩, hM⟩
theorem Hole.below (h : Hole d e w0 w W P g n cap xs i oki c) (hb : Below W.heap.size W W') : Hole d e w0 w W' P g n cap xs i oki c :=
  ⟨h.i0, h.i1, h.hb.trans ⟨hb.os, hb.tape, hb.output, hb.size, fun k hk => hb.block k (Nat.lt_of_lt_of_le hk h.hb.size)⟩, h.hk.below hb, h.hp, h.hg, h.ho, Kd.H_below h.hh hb⟩
theorem Hole.cell (h : Hole d e w0 w W P g n cap xs i oki c) {o : Nat} (j : Nat) (u : Value) (ho : o = i.toNat * d.sz + j) (hu : c[j]? = some u) : W.cell? ⟨g, o, none⟩ = some u := by
  rw [ho]
  exact (Kd.H_at h.hh h.i0 h.i1).1 j u hu
theorem Hole.free (h : Hole d e w0 w W P g n cap xs i oki c) {o : Nat} (j : Nat) (ho : o = i.toNat * d.sz + j) : W.frozen? ⟨g, o, none⟩ = false := by
  rw [ho]
  exact (Kd.H_at h.hh h.i0 h.i1).2 j
theorem Hole.clen (h : Hole d e w0 w W P g n cap xs i oki c) : c.length = d.sz := (Kd.H_raw h.hh h.i0 h.i1).choose_spec.2.2.1
theorem Hole.put (h : Hole d e w0 w W P g n cap xs i oki c) {o : Nat} (j : Nat) (u : Value) (ho : o = i.toNat * d.sz + j) (hj : j < d.sz) (hone : u.oneCell' = true) : Hole d e w0 w (W.setCell ⟨g, o, none⟩ u) P g n cap xs i oki (c.set j u) := by
  have hc := h.clen
  obtain ⟨h1, _⟩ := Kd.H_seg h.hh h.i0 h.i1 (seg := [u]) (j := j) (by show j + 1 ≤ d.sz; omega) (fun q hq => by rw [List.mem_singleton.1 hq]; exact hone)
  rw [← ho] at h1
  have e1 : c.take j ++ [u] ++ c.drop (j + 1) = c.set j u := by
    rw [List.set_eq_take_append_cons_drop, if_pos (by omega), List.append_assoc]
    rfl
  rw [show j + [u].length = j + 1 from rfl, e1] at h1
  exact ⟨h.i0, h.i1, below_set h.hb h.hg, h.hk.setCell (.inl h.hp) u, h.hp, h.hg, h.ho, h1⟩
theorem Hole.kept (h : Hole d e w0 w W P g n cap xs i oki c) (hk : Kept W W' S) (hb : Below w0.heap.size w0 W') (hS : ∀ k, S k → oki k) : Hole d e w0 w W' P g n cap xs i oki c :=
  ⟨h.i0, h.i1, hb, h.hk.then_ hk (fun k hs => .inl (h.ho k (hS k hs)).1), h.hp, h.hg, h.ho, Kd.H_kept h.hh hk (fun _ _ hn hs => hn (hS _ hs))⟩
theorem Hole.back (h : Hole d e w0 w W P g n cap xs i oki c) {x' : α} (hM : d.M W w0.heap.size oki x' c) : Kd.S d e W w0.heap.size P (.slice (some ⟨g, 0, none⟩) n cap) (xs.set i.toNat x') ∧ Kept w W P ∧ Below w0.heap.size w0 W :=
  ⟨Kd.H_back h.hh hM (fun _ hk => hk), h.hk, h.hb⟩
/-- The element's row v, the element being out. -/
theorem Hole.in_put (h : Hole d e w0 w W P g n cap xs i oki c) {v : Value} {l : List β} (hv : Kd.R d' e' W w0.heap.size oki v l) {o : Nat} (u : Value) : Kd.R d' e' (W.setCell ⟨g, o, none⟩ u) w0.heap.size oki v l :=
  Kd.R_far hv (fun k hk => (h.ho k hk).2) u
end
end Go.Proofs.YtmlclmbplbbbhaaDoor.P

-- written by a program of this session's (wip/pp)
namespace Go.Proofs.YtmlclmbplbbbhaaDoor.P
open Go.RowKit Go.Proofs.YtmlclmbplbbbhaaDoorW.PrintWords Go.Proofs.YtmlclmbplbbbhaaDoorW.PrintLast Go.Proofs.YtmlclmbplbbbhaaDoorW.PrintMore
attribute [local go_sem] max2_int min2_int max_two min_two max_three min_three max_four min_four str_geq str_gtr str_leq   -- for this text's walks alone
set_option linter.unusedVariables false
set_option linter.unusedSimpArgs false

/-! ### laws_markByteS: function 17 -/
def laws_markByteS.l0 : Nat → List Int → Int → Int → Option (Int × List Int)
 | 0, _, _, _ => none
 | k + 1, x0, x1, x5 => if x5 < (x0.length : Int) then (if 0 ≤ x5 then (laws_markByteS.l0 k (x0.set (x5 : Int).toNat ((x1) % 256)) (wrap64 (x1 + 1)) (wrap64 (x5 + 1))) else (none)) else (some (x1, x0))
def laws_markByteS.f (k : Nat) (l0 : List Int) (a1 : Int) : Option (Int × List Int) := laws_markByteS.l0 k l0 a1 0
theorem laws_markByteS.mono_l : ∀ k, (∀ y0 y1 y2, LeO (laws_markByteS.l0 k y0 y1 y2) (laws_markByteS.l0 (k + 1) y0 y1 y2))
 | 0 => fun _ _ _ r h => by simp [laws_markByteS.l0] at h
 | k + 1 => by
  have ih0 := laws_markByteS.mono_l k
  · intro y0 y1 y2
    unfold laws_markByteS.l0
    exact moZ
theorem laws_markByteS.mono : ∀ a0 a1 k, LeO (laws_markByteS.f k a0 a1) (laws_markByteS.f (k + 1) a0 a1) := by
 intro a0 a1 k
 have ih0 := laws_markByteS.mono_l k
 unfold laws_markByteS.f
 exact moZ
set_option maxHeartbeats 8000000 in
set_option maxRecDepth 100000 in
theorem laws_markByteS.calls (k : Nat) (P0_ : Nat → Prop) (u9000_ : Value) (l0 : List Int) (a1 : Int) (r1 : Int) (r2 : List Int) (w0 w : World) (hB : Below w0.heap.size w0 w) (ho0 : Kd.R (Kd.int .u8) 5 w w0.heap.size P0_ u9000_ l0) (h : laws_markByteS.f k l0 a1 = some (r1, r2)) :
 Calls Tryd.prog 17 #[u9000_, .int .i64 a1] w fun e w' => e = .returned (.int .i64 r1) ∧ Kd.R (Kd.int .u8) 5 w' w0.heap.size (fun k_ => (P0_ k_ ∨ w.heap.size ≤ k_)) u9000_ r2 ∧ Below w0.heap.size w0 w' ∧ Kept w w' (fun k_ => P0_ k_) := by
 have HO0 := aM (show Kd.R (Kd.int .u8) 5 w w0.heap.size (fun k_ => (P0_ k_ ∨ w.heap.size ≤ k_)) u9000_ l0 from Kd.R_mono ho0 (fun k_ hk => (.inl hk)))
 have HK := aM (Kept.refl w (fun k_ => P0_ k_))
 have HW0 := aM hB.size
 have HB := aM hB
 clear hB
 have H : (laws_markByteS.l0 k l0 a1 0) = some (r1, r2) := h
 clear h
 have H' := aM H
 clear H
 go_enter Tryd.func17, Tryd.ntmps17
 go_wp2
 go_loopg [1, 5] k (fun kq v1 v5 w' => ∃ (x0_1 : List Int) (x1_1 : Int) (x5_1 : Int), v1 = .int .i64 x1_1 ∧ v5 = .int .i64 x5_1 ∧ Aside0 (laws_markByteS.l0 kq x0_1 x1_1 x5_1 = some (r1, r2)) ∧ Aside0 (kq ≤ k) ∧ Aside0 (Kd.R (Kd.int .u8) 5 w' w0.heap.size (fun k_ => (P0_ k_ ∨ w.heap.size ≤ k_)) u9000_ x0_1) ∧ Aside0 (Kept w w' (fun k_ => P0_ k_)) ∧ Aside0 (Below w0.heap.size w0 w'))
 case atStart => exact ⟨(l0), (a1), (0), z4458, z4458, H', ⟨Nat.le_refl _⟩, ⟨rZ HO0.out⟩, ⟨z7d56⟩, ⟨z5acd⟩⟩
 case round =>
  clear H'
  obtain ⟨x0_1, x1_1, x5_1, rfl, rfl, HA, HK1, HO_0, HK, HB⟩ := hrel
  cases gk with
  | zero => exact absurd HA.out (by simp [laws_markByteS.l0])
  | succ k1 =>
   have H := HA.out
   clear HA
   simp only [laws_markByteS.l0] at H
   by_cases c3 : x5_1 < (x0_1.length : Int)
   · rw [if_pos c3] at H
     have c3b0 := dL c3
     clear c3
     obtain ⟨c4b0, H⟩ := sE H
     obtain ⟨y101, hy101⟩ : ∃ y_ : List Int, y_ = (x0_1.set (x5_1 : Int).toNat ((x1_1) % 256)) := ⟨_, rfl⟩
     first | (replace H := bindS H; rw [← hy101] at H; try dsimp only at H) | rw [← hy101] at H
     have Ny101 := aM hy101
     clear hy101
     have H' := aM H
     clear H
     obtain ⟨Ao6, co6, eo6⟩ := Kd.R_slice HO_0.out
     subst eo6
     have p5 : 0 ≤ (x5_1 : Int) := of_decide_eq_true z1200
     have q5 : (x5_1 : Int) < ((x0_1.length : Int) : Int) := of_decide_eq_true z1200
     obtain ⟨go5, co5, eo5, gb5, gl5, cl5, HG5⟩ := Kd.R_form HO_0.out (by omega)
     (first | cases eo5 | (injection eo5 with ea_ en_ ec_; (first | subst ea_ | (injection ea_ with ea_; subst ea_)); subst ec_; clear en_))
     have GB5 := aM gb5
     have GG5 := aM HG5
     clear gb5 gl5 HG5
     have HMgo5 := aM (show (P0_ go5 ∨ w.heap.size ≤ go5) from (HO_0.out.1 _ rfl))
     obtain ⟨hx5_0, hf5_0⟩ := Kd.R_celln 0 HO_0.out (x5_1 : Int) p5 q5
     replace p5 := eq_true p5
     replace q5 := eq_true q5
     have HP7 := Kd.R_putg HO_0.out (x5_1 : Int) ((x1_1) % 256)
     go_wp2_with (first | ((with_reducible refine gate_store (t := 5) (p := 16) rfl ?_); refine store_event (t := 5) (p := 16) (v := ?vo_w8) (w1 := (wr.setCell ⟨go5, (x5_1 : Int).toNat, none⟩ (.int .u8 ((x1_1) % 256)))) ?hg ?ho ?hn ?hr ?_; (case ho => rfl); (case hg => rfl); (case hn => rfl); (case hr => first | (go_simp; done) | (go_simp; rfl)); intro w8 hw; have hg : wr.grownBy w8 (some go5) := (by rw [hw]; exact HP7.2); have hp_ : Kd.R (Kd.int .u8) 5 w8 w0.heap.size (fun k_ => (P0_ k_ ∨ w.heap.size ≤ k_)) (.slice (some ⟨go5, 0, none⟩) x0_1.length co6) y101 := (by rw [hw, Ny101.out]; exact HP7.1); clear HP7; have _ := aM hp_; have _ := aM ((by rw [hw]; exact below_set (HB.out) GB5.out : Below w0.heap.size w0 w8)); have _ := aM (Kept.of_grown (S := (fun k_ => P0_ k_)) hg z7d56 (fun k_ e_ => (HO_0.out.1 k_ e_))); clear HO_0 HB HK; rename_i HO_0 HB HK; clear hg hw hp_))
     go_roundg k1
     case measure => have := HK1.out; omega
     case rel => exact ⟨(y101), (wrap64 (x1_1 + 1)), (wrap64 (x5_1 + 1)), z4458, z4458, H', ⟨zfb39⟩, ⟨rZ HO_0.out⟩, ⟨z7d56⟩, ⟨z5acd⟩⟩
   · rw [if_neg c3] at H
     have c3b0 := nL c3
     clear c3
     simp only [Option.some.injEq, Prod.mk.injEq] at H
     obtain ⟨rfl, rfl⟩ := H
     obtain ⟨Ao9, co9, eo9⟩ := Kd.R_slice HO_0.out
     subst eo9
     go_wp2
     go_ret
     exact ⟨z674d, rZ HO_0.out, z5acd, z7d56⟩

end Go.Proofs.YtmlclmbplbbbhaaDoor.P

-- written by a program of this session's (wip/pp)
namespace Go.Proofs.YtmlclmbplbbbhaaDoor.P
open Go.RowKit Go.Proofs.YtmlclmbplbbbhaaDoorW.PrintWords Go.Proofs.YtmlclmbplbbbhaaDoorW.PrintLast Go.Proofs.YtmlclmbplbbbhaaDoorW.PrintMore
attribute [local go_sem] max2_int min2_int max_two min_two max_three min_three max_four min_four str_geq str_gtr str_leq   -- for this text's walks alone
set_option linter.unusedVariables false
set_option linter.unusedSimpArgs false

/-! ### laws_markText: function 73 -/
def laws_markText.l0 : Nat → Int → ByteArray → Option (ByteArray)
 | 0, _, _ => none
 | k + 1, x0, x3 => if x0 > 0 then ((some (([(wrap64 (48 + (Int.tmod x0 10))) % 256] : List Int) : List Int)).bind fun y101 => (if (strOfNums y101).size + x3.size ≤ 9223372036854775807 then (laws_markText.l0 k (wrap64 (Int.tdiv x0 10)) ((strOfNums y101) ++ x3)) else (none))) else (if 1 + x3.size ≤ 9223372036854775807 then (some ((⟨#[109]⟩ : ByteArray) ++ x3)) else (none))
def laws_markText.f (k : Nat) (a0 : Int) : Option (ByteArray) := if a0 ≤ 0 then (some (⟨#[109, 48]⟩ : ByteArray)) else (laws_markText.l0 k a0 (⟨#[]⟩ : ByteArray))
theorem laws_markText.mono_l : ∀ k, (∀ y0 y1, LeO (laws_markText.l0 k y0 y1) (laws_markText.l0 (k + 1) y0 y1))
 | 0 => fun _ _ r h => by simp [laws_markText.l0] at h
 | k + 1 => by
  have ih0 := laws_markText.mono_l k
  · intro y0 y1
    unfold laws_markText.l0
    exact moZ
theorem laws_markText.mono : ∀ a0 k, LeO (laws_markText.f k a0) (laws_markText.f (k + 1) a0) := by
 intro a0 k
 have ih0 := laws_markText.mono_l k
 unfold laws_markText.f
 exact moZ
set_option maxHeartbeats 8000000 in
set_option maxRecDepth 100000 in
theorem laws_markText.calls (k : Nat) (a0 : Int) (r : ByteArray) (w : World) (h : laws_markText.f k a0 = some r) :
 Calls Tryd.prog 73 #[.int .i64 a0] w fun e w' => e = .returned (.string r) ∧ Below w.heap.size w w' := by
 have HB := aM (Below.refl w.heap.size w)
 have H : (if a0 ≤ 0 then (some (⟨#[109, 48]⟩ : ByteArray)) else (laws_markText.l0 k a0 (⟨#[]⟩ : ByteArray))) = some r := h
 clear h
 by_cases c2 : a0 ≤ 0
 · rw [if_pos c2] at H
   have c2b0 := dE c2
   clear c2
   obtain rfl := Option.some.inj H
   go_enter Tryd.func73, Tryd.ntmps73
   go_wp2
   go_ret
   exact ⟨z674d, z5acd⟩
 · rw [if_neg c2] at H
   have c2b0 := nE c2
   clear c2
   have H' := aM H
   clear H
   go_enter Tryd.func73, Tryd.ntmps73
   go_wp2
   go_loopg [0, 3] k (fun kq v0 v3 w' => ∃ (x0_1 : Int) (x3_1 : ByteArray), v0 = .int .i64 x0_1 ∧ v3 = .string x3_1 ∧ Aside0 (laws_markText.l0 kq x0_1 x3_1 = some r) ∧ Aside0 (kq ≤ k) ∧ Aside0 (Below w.heap.size w w'))
   case atStart => exact ⟨(a0), ((⟨#[]⟩ : ByteArray)), z4458, z4458, H', ⟨Nat.le_refl _⟩, ⟨z5acd⟩⟩
   case round =>
    clear H'
    (try clear c2b0)
    obtain ⟨x0_1, x3_1, rfl, rfl, HA, HK1, HB⟩ := hrel
    cases gk with
    | zero => exact absurd HA.out (by simp [laws_markText.l0])
    | succ k1 =>
     have H := HA.out
     clear HA
     simp only [laws_markText.l0] at H
     by_cases c3 : x0_1 > 0
     · rw [if_pos c3] at H
       have c3b0 := dL c3
       clear c3
       obtain ⟨y101, hy101⟩ : ∃ y_ : List Int, y_ = (([(wrap64 (48 + (Int.tmod x0_1 10))) % 256] : List Int)) := ⟨_, rfl⟩
       first | (replace H := bindS H; rw [← hy101] at H; try dsimp only at H) | rw [← hy101] at H
       have Ny101 := aM hy101
       clear hy101
       replace H := ifS H; obtain ⟨c4, H⟩ := H
       have c4b0 := eq_true c4
       have c4b1 : decide ((strOfNums y101).size + x3_1.size ≤ 9223372036854775807) = true := decide_eq_true c4
       try have c4b2 : (9223372036854775807 < (strOfNums y101).size + x3_1.size) = False := eq_false (Nat.not_lt.2 c4)
       have H' := aM H
       clear H
       go_wp2_with (first | ((with_reducible refine gate_dst (N := 12) rfl ?_); refine Kd.R_lit (Kd.int .u8) _ 5 ?hg (N := 12) ?hd (xs := ([(wrap64 (48 + (Int.tmod x0_1 10))) % 256] : List Int)) (inner := [.int .u8 ((wrap64 (48 + (Int.tmod x0_1 10))) % 256)]) (ok := fun _ => True) (okp := fun _ => True) ?hr ?hp (fun _ hk => hk) trivial (Below.refl _ _) (Nat.le_refl _) (by simp) ?_; (case hd => rfl); (case hg => rfl); (case hr => first | (go_simp; done) | (go_simp; rfl)); (case hp => exact (Reps.one (show Kd.M (Kd.int .u8) _ _ _ ((wrap64 (48 + (Int.tmod x0_1 10))) % 256) [.int .u8 ((wrap64 (48 + (Int.tmod x0_1 10))) % 256)] from rfl) (Reps.none _ _))); intro v102 w5 ho6 hb hg_ hnew_; clear hg_ hnew_; (first | rw [← Ny101.out] at ho6 | (simp only [Int.reduceToNat] at ho6; rw [← Ny101.out] at ho6)); have _ := aM (Kd.R_lower ho6 (below_size hbZ)); have _ := aM (below_step hbZ hb); clear HB; rename_i HO103 HB; clear hb ho6; have hcv7 := own_string (P := Tryd.prog) Tryd.underlying25 Tryd.underlying5 Tryd.underlying9 (Kd.own_of_R HO103.out)))
       go_roundg k1
       case measure => have := HK1.out; omega
       case rel => exact ⟨(wrap64 (Int.tdiv x0_1 10)), ((strOfNums y101) ++ x3_1), z4458, z4458, H', ⟨zfb39⟩, ⟨z5acd⟩⟩
     · rw [if_neg c3] at H
       have c3b0 := nL c3
       clear c3
       replace H := ifS H; obtain ⟨c8, H⟩ := H
       have c8b0 := eq_true c8
       have c8b1 : decide (1 + x3_1.size ≤ 9223372036854775807) = true := decide_eq_true c8
       try have c8b2 : (9223372036854775807 < 1 + x3_1.size) = False := eq_false (Nat.not_lt.2 c8)
       obtain rfl := Option.some.inj H
       go_wp2
       go_ret
       exact ⟨z674d, z5acd⟩
end Go.Proofs.YtmlclmbplbbbhaaDoor.P

/- laws.markFileS: marks are written into each element; what else stands in memory stays. No conditions of its own. -/
namespace Go.Proofs.YtmlclmbplbbbhaaDoor.P
open Go.RowKit Go.Proofs.YtmlclmbplbbbhaaDoorW.PrintWords Go.Proofs.YtmlclmbplbbbhaaDoorW.PrintLast Go.Proofs.YtmlclmbplbbbhaaDoorW.PrintMore
set_option linter.unusedVariables false
set_option linter.unusedSimpArgs false
def laws_markFileS.l0 : Nat → List S53 → Int → Int → Option (Int × List S53)
 | 0, _, _, _ => none
 | k + 1, x0, x1, x5 => if x5 < (x0.length : Int) then (if 0 ≤ x5 then ((laws_markText.f k x1).bind fun t0 => ((laws_markByteS.f k (rd_T53 x0 x5).f1 (wrap64 (x1 + 1))).bind fun t1 => (laws_markFileS.l0 k (x0.set x5.toNat (⟨t0, t1.2, t1.1⟩ : S53)) (wrap64 (t1.1 + 1)) (wrap64 (x5 + 1))))) else none) else some (x1, x0)
def laws_markFileS.f (k : Nat) (l0 : List S53) (a1 : Int) : Option (Int × List S53) := laws_markFileS.l0 k l0 a1 0
set_option maxHeartbeats 8000000 in
set_option maxRecDepth 100000 in
theorem laws_markFileS.calls (k : Nat) (P0_ : Nat → Prop) (u9000_ : Value) (l0 : List S53) (a1 : Int) (r1 : Int) (r2 : List S53) (w0 w : World) (hB : Below w0.heap.size w0 w) (ho0 : Kd.S k53 53 w w0.heap.size P0_ u9000_ l0) (h : laws_markFileS.f k l0 a1 = some (r1, r2)) :
 Calls Tryd.prog 43 #[u9000_, .int .i64 a1] w fun e w' => e = .returned (.int .i64 r1) ∧ Kd.S k53 53 w' w0.heap.size P0_ u9000_ r2 ∧ Below w0.heap.size w0 w' ∧ Kept w w' P0_ := by
 have HO0 := aM ho0
 have HK := aM (Kept.refl w P0_)
 have HB := aM hB
 clear hB ho0
 have H' := aM (show laws_markFileS.l0 k l0 a1 0 = some (r1, r2) from h)
 clear h
 go_enter Tryd.func43, Tryd.ntmps43
 go_wp2
 go_loopg [1, 5] k (fun kq v1 v5 w' => ∃ (x0_1 : List S53) (x1_1 : Int) (x5_1 : Int), v1 = .int .i64 x1_1 ∧ v5 = .int .i64 x5_1 ∧ Aside0 (laws_markFileS.l0 kq x0_1 x1_1 x5_1 = some (r1, r2)) ∧ Aside0 (kq ≤ k) ∧ Aside0 (Kd.S k53 53 w' w0.heap.size P0_ u9000_ x0_1) ∧ Aside0 (Kept w w' P0_) ∧ Aside0 (Below w0.heap.size w0 w'))
 case atStart => exact ⟨l0, a1, 0, rfl, rfl, H', ⟨Nat.le_refl _⟩, ⟨by (with_reducible repeat (first | apply Kd.S_alloc | apply Kd.S_drewN | apply Kd.S_drew)); exact HO0.out⟩, ⟨by repeat (first | exact HK.out | apply Kept.alloc | apply Kept.drewN | apply Kept.drew)⟩, ⟨by repeat (first | exact HB.out | apply below_alloc | apply pw_below_drewN | apply below_drew1)⟩⟩
 case round =>
  clear H' HO0 HK HB
  obtain ⟨x0_1, x1_1, x5_1, rfl, rfl, HA, HK1, HO_0, HK, HB⟩ := hrel
  cases gk with
  | zero => exact absurd HA.out (by simp [laws_markFileS.l0])
  | succ k1 =>
   have H := HA.out
   clear HA
   simp only [laws_markFileS.l0] at H
   by_cases c3 : x5_1 < (x0_1.length : Int)
   · rw [if_pos c3] at H
     have c3b0 : decide (x5_1 < (x0_1.length : Int)) = true := decide_eq_true c3
     by_cases c5 : 0 ≤ x5_1
     · rw [if_pos c5] at H
       have c5b0 : decide (0 ≤ x5_1) = true := decide_eq_true c5
       obtain ⟨t0, At00, H⟩ := Option.bind_eq_some_iff.mp H
       have At0 := aM At00
       clear At00
       obtain ⟨t1, At10, H⟩ := Option.bind_eq_some_iff.mp H
       have At1 := aM At10
       clear At10
       have H' := aM H
       clear H
       obtain ⟨g_, cap_, eo_, _, _, _, _⟩ := Kd.S_form HO_0.out (by omega)
       subst eo_
       obtain ⟨oki_, ce_, hH_, hM_⟩ := Hole.mk0 HO_0.out HB.out HK.out z53 c5 c3
       obtain ⟨v1_, rfl, hv1_⟩ := k53_openM hM_
       have HH := aM hH_
       clear hH_ hM_ HO_0 HK HB
       obtain ⟨n1_, hn1_⟩ : ∃ n_, n_ = (rd_T53 x0_1 x5_1).f1.length := ⟨_, rfl⟩
       obtain ⟨A1_, c1_, ev1_⟩ : ∃ A_ c_, v1_ = .slice A_ (rd_T53 x0_1 x5_1).f1.length c_ := Kd.R_slice hv1_
       rw [← hn1_] at ev1_
       clear hn1_
       subst ev1_
       have HV1 := aM hv1_
       clear hv1_
       have p_ := eq_true c5
       have q_ := eq_true c3
       clear c3 c5
       go_wp2_with (first | (go_at_call 73; (with_reducible refine (laws_markText.calls k1 x1_1 t0 _ At0.out).mono ?_); rintro e wa1 ⟨rfl, hb⟩; (try clear hy_); (try clear hz_); have n_ := aM (Kd.R_below HV1.out hb); clear HV1; have HV1 := n_; clear n_; have n_ := aM (HH.out.below hb); clear HH; have HH := n_; clear n_ hb; have hx_ := aM (HH.out.cell (o := (x5_1 : Int).toNat * 3) 0 _ rfl rfl); have hy_ : wa1.cell? ⟨g_, (x5_1 : Int).toNat * 3, none⟩ = some (.string ((rd_T53 x0_1 x5_1).f0)) := hx_.out; have hz_ : wa1.frozen? ⟨g_, (x5_1 : Int).toNat * 3, none⟩ = false := HH.out.free (o := (x5_1 : Int).toNat * 3) 0 rfl; clear hx_) | ((with_reducible refine gate_store (t := 9) (p := 17) rfl ?_); refine store_event (t := 9) (p := 17) (v := ?vo_wa2) (w1 := (wa1.setCell ⟨g_, (x5_1 : Int).toNat * 3, none⟩ (.string t0))) ?hg ?ho ?hn ?hr ?_; (case ho => rfl); (case hg => rfl); (case hn => rfl); (case hr => first | (go_simp; done) | (go_simp; rfl)); intro wa2 hw; (try clear hy_); (try clear hz_); have n_ := aM ((by rw [hw]; exact HH.out.in_put HV1.out (.string t0) : Kd.R (Kd.int .u8) 5 wa2 w0.heap.size oki_ (.slice A1_ n1_ c1_) _)); clear HV1; have HV1 := n_; clear n_; have n_ := aM (show Hole k53 53 w0 w wa2 P0_ g_ _ _ x0_1 x5_1 oki_ [.string t0, .slice A1_ n1_ c1_, .int .i64 ((rd_T53 x0_1 x5_1).f2)] from (by rw [hw]; exact HH.out.put (o := (x5_1 : Int).toNat * 3) 0 (.string t0) rfl (by decide) rfl)); clear HH; have HH := n_; clear n_ hw; have hx_ := aM (HH.out.cell (o := (x5_1 : Int).toNat * 3 + 1) 1 _ rfl rfl); have hy_ : wa2.cell? ⟨g_, (x5_1 : Int).toNat * 3 + 1, none⟩ = some (.slice A1_ n1_ c1_) := hx_.out; clear hx_) | (go_at_call 17; (with_reducible refine (laws_markByteS.calls k1 (fun k_ => some k_ = (.slice A1_ n1_ c1_ : Value).ownBlock) (.slice A1_ n1_ c1_) ((rd_T53 x0_1 x5_1).f1) (wrap64 (x1_1 + 1)) t1.1 t1.2 w0 _ ?s1 ?s2 At1.out).mono ?_); (case s1 => exact HH.out.hb); (case s2 => exact Kd.R_tight rfl HV1.out); rintro e wa3 ⟨rfl, ho, hb, hk⟩; (try clear hy_); (try clear hz_); have ht_ : ∀ k_, (fun k_ => some k_ = (.slice A1_ n1_ c1_ : Value).ownBlock) k_ → oki_ k_ := fun k_ e_ => HV1.out.1 k_ e_.symm; have n_ := aM (HH.out.kept hk hb ht_); clear HH; have HH := n_; clear n_; have n_ := aM (Kd.R_mono (Kd.R_tight rfl ho) (fun k_ e_ => ht_ k_ e_)); clear HV1 ho hb hk ht_; have HV1 := n_; clear n_; have hx_ := aM (HH.out.cell (o := (x5_1 : Int).toNat * 3 + 2) 2 _ rfl rfl); have hy_ : wa3.cell? ⟨g_, (x5_1 : Int).toNat * 3 + 2, none⟩ = some (.int .i64 ((rd_T53 x0_1 x5_1).f2)) := hx_.out; have hz_ : wa3.frozen? ⟨g_, (x5_1 : Int).toNat * 3 + 2, none⟩ = false := HH.out.free (o := (x5_1 : Int).toNat * 3 + 2) 2 rfl; clear hx_) | ((with_reducible refine gate_store (t := 3) (p := 31) rfl ?_); refine store_event (t := 3) (p := 31) (v := ?vo_wa4) (w1 := (wa3.setCell ⟨g_, (x5_1 : Int).toNat * 3 + 2, none⟩ (.int .i64 t1.1))) ?hg ?ho ?hn ?hr ?_; (case ho => rfl); (case hg => rfl); (case hn => rfl); (case hr => first | (go_simp; done) | (go_simp; rfl)); intro wa4 hw; (try clear hy_); (try clear hz_); have n_ := aM ((by rw [hw]; exact HH.out.in_put HV1.out (.int .i64 t1.1) : Kd.R (Kd.int .u8) 5 wa4 w0.heap.size oki_ (.slice A1_ n1_ c1_) _)); clear HV1; have HV1 := n_; clear n_; have n_ := aM (show Hole k53 53 w0 w wa4 P0_ g_ _ _ x0_1 x5_1 oki_ [.string t0, .slice A1_ n1_ c1_, .int .i64 t1.1] from (by rw [hw]; exact HH.out.put (o := (x5_1 : Int).toNat * 3 + 2) 2 (.int .i64 t1.1) rfl (by decide) rfl)); clear HH; have HH := n_; clear n_ hw; skip))
       go_roundg k1
       case measure => have := HK1.out; omega
       case rel =>
        have hq_ := HH.out.back (k53_mkM _ _ _ (⟨t0, t1.2, t1.1⟩ : S53) HV1.out)
        exact ⟨_, _, _, rfl, rfl, H', ⟨by have := HK1.out; omega⟩, ⟨by (with_reducible repeat (first | apply Kd.S_alloc | apply Kd.S_drewN | apply Kd.S_drew)); exact hq_.1⟩, ⟨by repeat (first | exact hq_.2.1 | apply Kept.alloc | apply Kept.drewN | apply Kept.drew)⟩, ⟨by repeat (first | exact hq_.2.2 | apply below_alloc | apply pw_below_drewN | apply below_drew1)⟩⟩
     · rw [if_neg c5] at H
       exact absurd H (by simp)
   · rw [if_neg c3] at H
     have c3b0 : decide (x5_1 < (x0_1.length : Int)) = false := decide_eq_false c3
     clear c3
     simp only [Option.some.injEq, Prod.mk.injEq] at H
     obtain ⟨rfl, rfl⟩ := H
     obtain ⟨Ao_, co_, eo_⟩ := Kd.S_slice HO_0.out
     subst eo_
     go_wp2
     go_ret
     exact ⟨rfl, by (with_reducible repeat (first | apply Kd.S_alloc | apply Kd.S_drewN | apply Kd.S_drew)); exact HO_0.out, by repeat (first | exact HB.out | apply below_alloc | apply pw_below_drewN | apply below_drew1), by repeat (first | exact HK.out | apply Kept.alloc | apply Kept.drewN | apply Kept.drew)⟩
end Go.Proofs.YtmlclmbplbbbhaaDoor.P

/- laws.markFiles: the marks of its files. No conditions of its own. -/
namespace Go.Proofs.YtmlclmbplbbbhaaDoor.P
open Go.RowKit Go.Proofs.YtmlclmbplbbbhaaDoorW.PrintWords Go.Proofs.YtmlclmbplbbbhaaDoorW.PrintLast Go.Proofs.YtmlclmbplbbbhaaDoorW.PrintMore
set_option linter.unusedVariables false
set_option linter.unusedSimpArgs false
theorem Kept.behind {w w1 w2 : World} {S : Nat → Prop} (hb : Below w.heap.size w w1) (hk : Kept w1 w2 S) : Kept w w2 S :=
  ⟨Nat.le_trans hb.size hk.1, fun i hi hn => (hk.2 i (Nat.lt_of_lt_of_le hi hb.size) hn).trans (hb.block i hi)⟩
set_option maxHeartbeats 8000000 in
set_option maxRecDepth 100000 in
theorem laws_markFiles.calls (k : Nat) (P0_1 : Nat → Prop) (a0_0 : Int) (u9000_1 : Value) (l0_1 : List S53) (a1 : Int) (r1 : Int) (r2 : List S53) (w0 w : World) (hB : Below w0.heap.size w0 w) (ho0_1 : Kd.S k53 53 w w0.heap.size P0_1 u9000_1 l0_1) (h : laws_markFileS.f k l0_1 a1 = some (r1, r2)) :
 Calls Tryd.prog 16 #[.agg #[.int .i64 a0_0, u9000_1], .int .i64 a1] w fun e w' => e = .returned (.int .i64 r1) ∧ Kd.S k53 53 w' w0.heap.size P0_1 u9000_1 r2 ∧ Below w0.heap.size w0 w' ∧ Kept w w' P0_1 := by
 obtain ⟨A_, c_, rfl⟩ := Kd.S_slice ho0_1
 have HO0 := aM ho0_1
 have HB := aM hB
 have H := aM h
 clear hB ho0_1 h
 go_enter Tryd.func16, Tryd.ntmps16
 go_wp2_with (first | ((with_reducible refine gate_dst (N := 2) rfl ?_); refine box_event ?hg (N := 2) ?hd (cs := #[.int .i64 a0_0, .slice A_ l0_1.length c_]) (t := 29) ?hr ?_; (case hd => rfl); (case hg => rfl); (case hr => first | (go_simp; done) | (go_simp; rfl)); intro b_ hg wa hbox hb; have HA := aM hb; have HO1 := aM (Kd.S_below HO0.out hb); have HB1 := aM (below_after HB.out hb); obtain ⟨hcz_0, hcz_1, hfz_0, hfz_1⟩ := cellsZ2 hbox; clear hg hbox hb HO0 HB) | ((with_reducible refine gate_callee (f := 43) rfl ?_); refine goesL_ (some 8) rfl rfl Tryd.func43 (by kernel_rfl) rfl #[.slice A_ l0_1.length c_, .int .i64 a1] rfl zee81 ?_; (with_reducible refine (laws_markFileS.calls k P0_1 (.slice A_ l0_1.length c_) l0_1 a1 r1 r2 w0 _ HB1.out HO1.out H.out).mono ?_); rintro e wb ⟨he_, hs, hB2, hk⟩; subst he_; refine ⟨_, rfl, ?_⟩; have HS := aM hs; have HB2 := aM hB2; have HK := aM (Kept.behind HA.out hk); clear hs hB2 hk HO1 HB1))
 go_ret
 exact ⟨rfl, HS.out, HB2.out, HK.out⟩
end Go.Proofs.YtmlclmbplbbbhaaDoor.P

-- written by a program of this session's (wip/pp)
namespace Go.Proofs.YtmlclmbplbbbhaaDoor.P
open Go.RowKit Go.Proofs.YtmlclmbplbbbhaaDoorW.PrintWords Go.Proofs.YtmlclmbplbbbhaaDoorW.PrintLast Go.Proofs.YtmlclmbplbbbhaaDoorW.PrintMore
attribute [local go_sem] max2_int min2_int max_two min_two max_three min_three max_four min_four str_geq str_gtr str_leq   -- for this text's walks alone
set_option linter.unusedVariables false
set_option linter.unusedSimpArgs false

/-! ### laws_toByteS: function 12 -/
def laws_toByteS.l0 : Nat → List Int → List Int → Int → Option (List Int)
 | 0, _, _, _ => none
 | k + 1, x0, x3, x4 => if x4 < (x0.length : Int) then (if 0 ≤ x4 then (if x4 < (x3.length : Int) then (laws_toByteS.l0 k x0 (x3.set (x4 : Int).toNat (rd x0 x4)) (wrap64 (x4 + 1))) else (none)) else (none)) else (some x3)
def laws_toByteS.f (k : Nat) (l0 : List Int) : Option (List Int) := if 0 ≤ (l0.length : Int) then (if ((l0.length : Int) : Int).toNat ≤ 281474976710656 then (laws_toByteS.l0 k l0 (List.replicate ((l0.length : Int) : Int).toNat 0) 0) else (none)) else (none)
theorem laws_toByteS.mono_l : ∀ k, (∀ y0 y1 y2, LeO (laws_toByteS.l0 k y0 y1 y2) (laws_toByteS.l0 (k + 1) y0 y1 y2))
 | 0 => fun _ _ _ r h => by simp [laws_toByteS.l0] at h
 | k + 1 => by
  have ih0 := laws_toByteS.mono_l k
  · intro y0 y1 y2
    unfold laws_toByteS.l0
    exact moZ
theorem laws_toByteS.mono : ∀ a0 k, LeO (laws_toByteS.f k a0) (laws_toByteS.f (k + 1) a0) := by
 intro a0 k
 have ih0 := laws_toByteS.mono_l k
 unfold laws_toByteS.f
 exact moZ
set_option maxHeartbeats 8000000 in
set_option maxRecDepth 100000 in
theorem laws_toByteS.calls (k : Nat) (A0 : Option Addr) (c0 : Nat) (l0 : List Int) (r : List Int) (w : World) (hr0 : Kd.C (Kd.int .u8) w A0 l0.length l0) (hc0 : l0.length ≤ c0) (h : laws_toByteS.f k l0 = some r) :
 Calls Tryd.prog 12 #[.slice A0 l0.length c0] w fun e w' => ∃ v0_ : Value, e = .returned (v0_) ∧ Kd.R (Kd.int .u8) 5 w' w.heap.size (fun _ => True) v0_ r ∧ Below w.heap.size w w' := by
 have HR0 := aM hr0
 have HC0 := aM hc0
 clear hr0 hc0
 have HB := aM (Below.refl w.heap.size w)
 have H : (if 0 ≤ (l0.length : Int) then (if ((l0.length : Int) : Int).toNat ≤ 281474976710656 then (laws_toByteS.l0 k l0 (List.replicate ((l0.length : Int) : Int).toNat 0) 0) else (none)) else (none)) = some r := h
 clear h
 replace H := ifS H; obtain ⟨c2, H⟩ := H
 have c2b0 := eq_true c2
 have c2b1 : decide (0 ≤ (l0.length : Int)) = true := decide_eq_true c2
 clear c2
 replace H := ifS H; obtain ⟨c3, H⟩ := H
 have c3b0 := eq_true c3
 have c3b1 : decide (((l0.length : Int) : Int).toNat ≤ 281474976710656) = true := decide_eq_true c3
 clear c3
 obtain ⟨y101, hy101⟩ : ∃ y_ : List Int, y_ = (List.replicate ((l0.length : Int) : Int).toNat 0) := ⟨_, rfl⟩
 first | (replace H := bindS H; rw [← hy101] at H; try dsimp only at H) | rw [← hy101] at H
 have Ny101 := aM hy101
 clear hy101
 have H' := aM H
 clear H
 go_enter Tryd.func12, Tryd.ntmps12
 go_wp2_with (first | ((with_reducible refine gate_dst (N := 7) rfl ?_); refine Kd.R_make (Kd.int .u8) _ 5 rfl (N := 7) rfl 25 _ _ rfl (l0.length : Int) rfl rfl Tryd.underlying25 (.int .u8 0) 1 info5 rfl (by decide) (by omega) 0 (ok := fun _ => True) (okp := fun _ => True) rfl (fun _ hk => hk) trivial (of_decide_eq_true z1200) (Nat.le_trans (Nat.mul_le_mul_right _ (of_decide_eq_true z1200 : (l0.length : Int).toNat ≤ 281474976710656)) (by omega)) (Below.refl _ _) (Nat.le_refl _) ?_; intro v102 w4 ho5 hb hg_ hnew_; clear hg_ hnew_; (first | rw [← Ny101.out] at ho5 | (simp only [Int.reduceToNat] at ho5; rw [← Ny101.out] at ho5)); have _ := aM (Kd.R_lower ho5 (below_size hbZ)); have _ := aM (below_step hbZ hb); clear HB; rename_i HO103 HB; clear hb ho5))
 go_loopg [4] k (fun kq v4 w' => ∃ (x3_1 : List Int) (x4_1 : Int), v4 = .int .i64 x4_1 ∧ Aside0 (laws_toByteS.l0 kq l0 x3_1 x4_1 = some r) ∧ Aside0 (kq ≤ k) ∧ Aside0 (Kd.R (Kd.int .u8) 5 w' w.heap.size (fun _ => True) v102 x3_1) ∧ Aside0 (Below w.heap.size w w'))
 case atStart => exact ⟨(y101), (0), z4458, H', ⟨Nat.le_refl _⟩, ⟨rZ HO103.out⟩, ⟨z5acd⟩⟩
 case round =>
  clear H'
  (try clear c2b0); (try clear c2b1); (try clear c3b0); (try clear c3b1)
  obtain ⟨x3_1, x4_1, rfl, HA, HK1, HO_3, HB⟩ := hrel
  cases gk with
  | zero => exact absurd HA.out (by simp [laws_toByteS.l0])
  | succ k1 =>
   have H := HA.out
   clear HA
   simp only [laws_toByteS.l0] at H
   by_cases c6 : x4_1 < (l0.length : Int)
   · rw [if_pos c6] at H
     have c6b0 := dL c6
     clear c6
     obtain ⟨c7b0, H⟩ := sE H
     obtain ⟨c8b0, H⟩ := sL H
     obtain ⟨y105, hy105⟩ : ∃ y_ : List Int, y_ = (x3_1.set (x4_1 : Int).toNat (rd l0 x4_1)) := ⟨_, rfl⟩
     first | (replace H := bindS H; rw [← hy105] at H; try dsimp only at H) | rw [← hy105] at H
     have Ny105 := aM hy105
     clear hy105
     have H' := aM H
     clear H
     have p104 : 0 ≤ (x4_1 : Int) := of_decide_eq_true z1200
     have q104 : x4_1 < (l0.length : Int) := of_decide_eq_true z1200
     obtain ⟨ad104, e104, hx104_0⟩ := Kd.at_int HR0.out x4_1 p104 q104
     cases e104
     replace hx104_0 := (HB.out.cell (World.block_lt_of_cell? w _ hx104_0)).trans hx104_0
     replace p104 := eq_true p104
     replace q104 := eq_true q104
     have p9 : 0 ≤ (x4_1 : Int) := of_decide_eq_true z1200
     have q9 : (x4_1 : Int) < ((x3_1.length : Int) : Int) := of_decide_eq_true z1200
     obtain ⟨go9, co9, eo9, gb9, gl9, cl9, HG9⟩ := Kd.R_form HO_3.out (by omega)
     (first | cases eo9 | (injection eo9 with ea_ en_ ec_; (first | subst ea_ | (injection ea_ with ea_; subst ea_)); subst ec_; clear en_))
     have GB9 := aM gb9
     have GG9 := aM HG9
     clear gb9 gl9 HG9
     obtain ⟨hx9_0, hf9_0⟩ := Kd.R_celln 0 HO_3.out (x4_1 : Int) p9 q9
     replace p9 := eq_true p9
     replace q9 := eq_true q9
     have HP10 := Kd.R_putg HO_3.out (x4_1 : Int) (rd l0 x4_1)
     go_wp2_with (first | ((with_reducible refine gate_store (t := 5) (p := 20) rfl ?_); refine store_event (t := 5) (p := 20) (v := ?vo_w11) (w1 := (wr.setCell ⟨go9, (x4_1 : Int).toNat, none⟩ (.int .u8 (rd l0 x4_1)))) ?hg ?ho ?hn ?hr ?_; (case ho => rfl); (case hg => rfl); (case hn => rfl); (case hr => first | (go_simp; done) | (go_simp; rfl)); intro w11 hw; have hg : wr.grownBy w11 (some go9) := (by rw [hw]; exact HP10.2); have hp_ : Kd.R (Kd.int .u8) 5 w11 w.heap.size (fun _ => True) (.slice (some ⟨go9, 0, none⟩) x3_1.length co9) y105 := (by rw [hw, Ny105.out]; exact HP10.1); clear HP10; have _ := aM hp_; have _ := aM ((by rw [hw]; exact below_set (HB.out) GB9.out : Below w.heap.size w w11)); clear HO_3 HB; rename_i HO_3 HB; clear hg hw hp_))
     go_roundg k1
     case measure => have := HK1.out; omega
     case rel => exact ⟨(y105), (wrap64 (x4_1 + 1)), z4458, H', ⟨zfb39⟩, ⟨rZ HO_3.out⟩, ⟨z5acd⟩⟩
   · rw [if_neg c6] at H
     have c6b0 := nL c6
     clear c6
     obtain rfl := Option.some.inj H
     go_wp2
     go_ret
     exact ⟨_, z674d, rZ HO_3.out, z5acd⟩
end Go.Proofs.YtmlclmbplbbbhaaDoor.P

-- written by a program of this session's (wip/pp)
namespace Go.Proofs.YtmlclmbplbbbhaaDoor.P
open Go.RowKit Go.Proofs.YtmlclmbplbbbhaaDoorW.PrintWords Go.Proofs.YtmlclmbplbbbhaaDoorW.PrintLast Go.Proofs.YtmlclmbplbbbhaaDoorW.PrintMore
attribute [local go_sem] max2_int min2_int max_two min_two max_three min_three max_four min_four str_geq str_gtr str_leq   -- for this text's walks alone
set_option linter.unusedVariables false
set_option linter.unusedSimpArgs false

/-! ### laws_toFile: function 67 -/
def laws_toFile.f (k : Nat) (a0_0 : ByteArray) (l0_1 : List Int) (a0_2 : Int) : Option (ByteArray × List Int × Int) := (laws_toByteS.f k l0_1).bind fun t104 => (some (a0_0, t104, a0_2))
theorem laws_toFile.mono : ∀ a0 a1 a2 k, LeO (laws_toFile.f k a0 a1 a2) (laws_toFile.f (k + 1) a0 a1 a2) := by
 intro a0 a1 a2 k
 have m0 := @laws_toByteS.mono
 unfold laws_toFile.f
 exact moZ
set_option maxHeartbeats 8000000 in
set_option maxRecDepth 100000 in
theorem laws_toFile.calls (k : Nat) (a0_0 : ByteArray) (A0_1 : Option Addr) (c0_1 : Nat) (l0_1 : List Int) (a0_2 : Int) (r1 : ByteArray) (r2 : List Int) (r3 : Int) (w : World) (hr0_1 : Kd.C (Kd.int .u8) w A0_1 l0_1.length l0_1) (hc0_1 : l0_1.length ≤ c0_1) (h : laws_toFile.f k a0_0 l0_1 a0_2 = some (r1, r2, r3)) :
 Calls Tryd.prog 67 #[.agg #[.string a0_0, .slice A0_1 l0_1.length c0_1, .int .i64 a0_2]] w fun e w' => ∃ v1_ : Value, e = .returned (.agg #[.string r1, v1_, .int .i64 r3]) ∧ Kd.R (Kd.int .u8) 5 w' w.heap.size (fun _ => True) v1_ r2 ∧ Below w.heap.size w w' := by
 have hu84 := Tryd.underlying84
 have hu53 := Tryd.underlying53
 have HR0_1 := aM hr0_1
 have HC0_1 := aM hc0_1
 clear hr0_1 hc0_1
 have HB := aM (Below.refl w.heap.size w)
 have H : ((laws_toByteS.f k l0_1).bind fun t104 => (some (a0_0, t104, a0_2))) = some (r1, r2, r3) := h
 clear h
 obtain ⟨t104, A2, H⟩ := bS H; try dsimp only at H
 simp only [Option.some.injEq, Prod.mk.injEq] at H
 obtain ⟨rfl, rfl, rfl⟩ := H
 go_enter Tryd.func67, Tryd.ntmps67
 go_wp2_with (first | ((with_reducible refine gate_dst (N := 1) rfl ?_); refine bX 1 84 #[.string a0_0, .slice A0_1 l0_1.length c0_1, .int .i64 a0_2] ?_; intro gb101 hg w3 hbox hb; have _ := aM (below_step hbZ hb); have _ := aM hbox; have _ := szZ hg; have _ := szZ hg; clear HB; rename_i HB BK101 GW101 GE101; clear hb hbox hg) | ((with_reducible refine gate_dst (N := 2) rfl ?_); refine bX 2 53 #[.string (⟨#[]⟩ : ByteArray), .slice none 0 0, .int .i64 0] ?_; intro gb102 hg w4 hbox hb; have _ := bB gb101 hb; have _ := aM (below_step hbZ hb); have _ := aM hbox; have _ := szZ hg; have _ := szZ hg; have ⟨_, _⟩ := nbB gb101 hg; clear BK101 HB; rename_i BK101 HB BK102 GW102 GE102 NB101_102 NB102_101; clear hb hbox hg) | ((with_reducible refine gate_dst (N := 3) rfl ?_); refine bX 3 53 #[.string (⟨#[]⟩ : ByteArray), .slice none 0 0, .int .i64 0] ?_; intro gb103 hg w5 hbox hb; have _ := bB gb101 hb; have _ := bB gb102 hb; have _ := aM (below_step hbZ hb); have _ := aM hbox; have _ := szZ hg; have _ := szZ hg; have ⟨_, _⟩ := nbB gb101 hg; have ⟨_, _⟩ := nbB gb102 hg; clear BK101 BK102 HB; rename_i BK101 BK102 HB BK103 GW103 GE103 NB101_103 NB103_101 NB102_103 NB103_102; clear hb hbox hg; have hnb6 := NB101_102.out; have hnc6 := NB102_101.out; have hnb7 := NB101_103.out; have hnc7 := NB103_101.out; have hz8 := cellsZ3 BK101.out; have hnb9 := NB103_102.out; have hnc9 := NB102_103.out; have hz10 := cellsZ3 BK103.out) | ((with_reducible refine gate_callee (f := 12) rfl ?_); refine gL 9 Tryd.func12 #[.slice A0_1 l0_1.length c0_1] ?_; (with_reducible refine (laws_toByteS.calls k _ _ l0_1 t104 _ ?side1 ?side2 A2.out).mono ?_); (case side1 => exact Kd.C_below HR0_1.out hbZ); (case side2 => exact HC0_1.out); rintro e w11 ⟨v105, rfl, ho0, hb⟩; refine ⟨_, rfl, ?_⟩; have _ := aM (Kd.R_lower ho0 (below_size hbZ)); have _ := bB gb101 hb; have _ := bB gb102 hb; have _ := aM (blk_below (g := gb103) (o := .cells #[.string a0_0, .slice none 0 0, .int .i64 0] 53 (0, 0)) bkZ hb); have _ := aM (below_step hbZ hb); clear BK101 BK102 BK103 HB; rename_i HO106 BK101 BK102 BK103 HB; (try clear hb); (try clear ho0); obtain ⟨Ao12, co12, eo12⟩ := Kd.R_slice HO106.out; subst eo12; have hz13 := cellsZ3 BK103.out; have hz14 := cellsZ3 BK101.out; have hz15 := cellsZ3 BK102.out))
 refine bodyPost_ret (results_cell_row rfl _ _ gb102 53 #[.string a0_0, .slice Ao12 t104.length co12, .int .i64 a0_2] (0, 0) _ rfl bkZ Tryd.underlying53 rfl (by kernel_rfl)) rfl ?_
 exact ⟨_, z674d, by (with_reducible repeat (first | apply Kd.R_alloc | apply Kd.R_drewN | apply Kd.R_drew)); exact Kd.R_mono (Kd.R_far (p := ⟨gb102, 2, none⟩) (Kd.R_far (p := ⟨gb102, 1, none⟩) (Kd.R_far (p := ⟨gb102, 0, none⟩) (Kd.R_far (p := ⟨gb103, 2, none⟩) (Kd.R_far (p := ⟨gb103, 1, none⟩) (Kd.R_types (Kd.R_types HO106.out BK103.out (by decide)) BK102.out (by decide)) (fun _ hk => hk.1.2) (.slice Ao12 t104.length co12)) (fun _ hk => hk.1.2) (.int .i64 a0_2)) (fun _ hk => hk.2) (.string a0_0)) (fun _ hk => hk.2) (.slice Ao12 t104.length co12)) (fun _ hk => hk.2) (.int .i64 a0_2)) (fun _ hk => trivial), zcb41⟩

end Go.Proofs.YtmlclmbplbbbhaaDoor.P

-- written by a program of this session's (wip/pp)
namespace Go.Proofs.YtmlclmbplbbbhaaDoor.P
open Go.RowKit Go.Proofs.YtmlclmbplbbbhaaDoorW.PrintWords Go.Proofs.YtmlclmbplbbbhaaDoorW.PrintLast Go.Proofs.YtmlclmbplbbbhaaDoorW.PrintMore
attribute [local go_sem] max2_int min2_int max_two min_two max_three min_three max_four min_four str_geq str_gtr str_leq   -- for this text's walks alone
set_option linter.unusedVariables false
set_option linter.unusedSimpArgs false

/-! ### laws_toFileS: function 38 -/
def laws_toFileS.l0 : Nat → List (S84) → List (S53) → Int → Option ((List (S53)))
 | 0, _, _, _ => none
 | k + 1, x0, x3, x4 => if x4 < (x0.length : Int) then (if 0 ≤ x4 then ((laws_toFile.f k ((rd_T84 x0 x4).f0) ((rd_T84 x0 x4).f1) ((rd_T84 x0 x4).f2)).bind fun bt105 => (if x4 < (x3.length : Int) then (laws_toFileS.l0 k x0 (x3.set (x4 : Int).toNat (⟨bt105.1, bt105.2.1, bt105.2.2⟩ : S53)) (wrap64 (x4 + 1))) else (none))) else (none)) else (some x3)
def laws_toFileS.f (k : Nat) (l0 : List (S84)) : Option ((List (S53))) := if 0 ≤ (l0.length : Int) then (if ((l0.length : Int) : Int).toNat ≤ 5864062014805 then (laws_toFileS.l0 k l0 (List.replicate ((l0.length : Int) : Int).toNat z53) 0) else (none)) else (none)
theorem laws_toFileS.mono_l : ∀ k, (∀ y0 y1 y2, LeO (laws_toFileS.l0 k y0 y1 y2) (laws_toFileS.l0 (k + 1) y0 y1 y2))
 | 0 => fun _ _ _ r h => by simp [laws_toFileS.l0] at h
 | k + 1 => by
  have ih0 := laws_toFileS.mono_l k; have m0 := @laws_toFile.mono
  · intro y0 y1 y2
    unfold laws_toFileS.l0
    exact moZ
theorem laws_toFileS.mono : ∀ a0 k, LeO (laws_toFileS.f k a0) (laws_toFileS.f (k + 1) a0) := by
 intro a0 k
 have ih0 := laws_toFileS.mono_l k
 have m0 := @laws_toFile.mono
 unfold laws_toFileS.f
 exact moZ
set_option maxHeartbeats 8000000 in
set_option maxRecDepth 100000 in
theorem laws_toFileS.calls (k : Nat) (A0 : Option Addr) (c0 : Nat) (l0 : List (S84)) (r : List (S53)) (w : World) (hr0 : Kd.C k84 w A0 l0.length l0) (hc0 : l0.length ≤ c0) (h : laws_toFileS.f k l0 = some r) :
 Calls Tryd.prog 38 #[.slice A0 l0.length c0] w fun e w' => ∃ v0_ : Value, e = .returned (v0_) ∧ Kd.S k53 53 w' w.heap.size (fun _ => True) v0_ r ∧ Below w.heap.size w w' := by
 have hu84 := Tryd.underlying84
 have hu53 := Tryd.underlying53
 have HR0 := aM hr0
 have HC0 := aM hc0
 clear hr0 hc0
 have HB := aM (Below.refl w.heap.size w)
 have H : (if 0 ≤ (l0.length : Int) then (if ((l0.length : Int) : Int).toNat ≤ 5864062014805 then (laws_toFileS.l0 k l0 (List.replicate ((l0.length : Int) : Int).toNat z53) 0) else (none)) else (none)) = some r := h
 clear h
 replace H := ifS H; obtain ⟨c2, H⟩ := H
 have c2b0 := eq_true c2
 have c2b1 : decide (0 ≤ (l0.length : Int)) = true := decide_eq_true c2
 clear c2
 replace H := ifS H; obtain ⟨c3, H⟩ := H
 have c3b0 := eq_true c3
 have c3b1 : decide (((l0.length : Int) : Int).toNat ≤ 5864062014805) = true := decide_eq_true c3
 clear c3
 obtain ⟨y101, hy101⟩ : ∃ y_ : List (S53), y_ = (List.replicate ((l0.length : Int) : Int).toNat z53) := ⟨_, rfl⟩
 first | (replace H := bindS H; rw [← hy101] at H; try dsimp only at H) | rw [← hy101] at H
 have Ny101 := aM hy101
 clear hy101
 have H' := aM H
 clear H
 go_enter Tryd.func38, Tryd.ntmps38
 go_wp2_with (first | ((with_reducible refine gate_dst (N := 7) rfl ?_); refine Kd.S_make k53 _ 53 rfl (N := 7) rfl 27 _ _ rfl (l0.length : Int) rfl rfl Tryd.underlying27 (.agg #[(.string ⟨#[]⟩), (.slice none 0 0), (.int .i64 0)]) 48 info53 rfl (by decide) (by omega) z53 (ok := fun _ => True) (okp := fun _ => True) (k53_mkM _ _ _ z53 (Kd.R_nil _ _ _ _ _)) (fun _ hk => hk) trivial (of_decide_eq_true z1200) (Nat.le_trans (Nat.mul_le_mul_right _ (of_decide_eq_true z1200 : (l0.length : Int).toNat ≤ 5864062014805)) (by omega)) (Below.refl _ _) (Nat.le_refl _) ?_; intro v102 w4 ho5 hb hg_ hnew_; clear hg_ hnew_; (first | rw [← Ny101.out] at ho5 | (simp only [Int.reduceToNat] at ho5; rw [← Ny101.out] at ho5)); have _ := aM (Kd.S_lower ho5 (below_size hbZ)); have _ := aM (below_step hbZ hb); clear HB; rename_i HO103 HB; clear hb ho5))
 go_loopg [4] k (fun kq v4 w' => ∃ (x3_1 : List (S53)) (x4_1 : Int), v4 = .int .i64 x4_1 ∧ Aside0 (laws_toFileS.l0 kq l0 x3_1 x4_1 = some r) ∧ Aside0 (kq ≤ k) ∧ Aside0 (Kd.S k53 53 w' w.heap.size (fun _ => True) v102 x3_1) ∧ Aside0 (Below w.heap.size w w'))
 case atStart => exact ⟨(y101), (0), z4458, H', ⟨Nat.le_refl _⟩, ⟨z1bd3⟩, ⟨z5acd⟩⟩
 case round =>
  clear H'
  (try clear c2b0); (try clear c2b1); (try clear c3b0); (try clear c3b1)
  obtain ⟨x3_1, x4_1, rfl, HA, HK1, HO_3, HB⟩ := hrel
  cases gk with
  | zero => exact absurd HA.out (by simp [laws_toFileS.l0])
  | succ k1 =>
   have H := HA.out
   clear HA
   simp only [laws_toFileS.l0] at H
   by_cases c6 : x4_1 < (l0.length : Int)
   · rw [if_pos c6] at H
     have c6b0 := dL c6
     clear c6
     obtain ⟨c7b0, H⟩ := sE H
     obtain ⟨⟨t105, t106, t109⟩, A8, H⟩ := bS H; try dsimp only at H
     obtain ⟨c9b0, H⟩ := sL H
     obtain ⟨y110, hy110⟩ : ∃ y_ : List (S53), y_ = (x3_1.set (x4_1 : Int).toNat (⟨t105, t106, t109⟩ : S53)) := ⟨_, rfl⟩
     first | (replace H := bindS H; rw [← hy110] at H; try dsimp only at H) | rw [← hy110] at H
     have Ny110 := aM hy110
     clear hy110
     have H' := aM H
     clear H
     have p104 : 0 ≤ (x4_1 : Int) := of_decide_eq_true z1200
     have q104 : x4_1 < (l0.length : Int) := of_decide_eq_true z1200
     obtain ⟨ad104, A104_1, c104_1, e104, hx104_0, hx104_1, hx104_2, hl104_1, hi104_1⟩ := at_T84 HR0.out x4_1 p104 q104
     cases e104
     have TW104_1 := aM hx104_1
     replace hx104_0 := (HB.out.cell (World.block_lt_of_cell? w _ hx104_0)).trans hx104_0
     replace hx104_1 := (HB.out.cell (World.block_lt_of_cell? w _ hx104_1)).trans hx104_1
     replace hx104_2 := (HB.out.cell (World.block_lt_of_cell? w _ hx104_2)).trans hx104_2
     have HR104_1 := aM hi104_1
     have HC104_1 := aM hl104_1
     clear hi104_1 hl104_1
     replace p104 := eq_true p104
     replace q104 := eq_true q104
     go_wp2_with (first | ((with_reducible refine gate_callee (f := 67) rfl ?_); refine gL 20 Tryd.func67 #[.agg #[.string ((rd_T84 l0 x4_1).f0), .slice A104_1 ((rd_T84 l0 x4_1).f1).length c104_1, .int .i64 ((rd_T84 l0 x4_1).f2)]] ?_; (with_reducible refine (laws_toFile.calls k1 ((rd_T84 l0 x4_1).f0) _ _ ((rd_T84 l0 x4_1).f1) ((rd_T84 l0 x4_1).f2) t105 t106 t109 _ ?side1 ?side2 A8.out).mono ?_); (case side1 => exact (cZ (Kd.C_below HR104_1.out HB.out))); (case side2 => exact HC104_1.out); rintro e w11 ⟨v107, rfl, ho0, hb⟩; refine ⟨_, rfl, ?_⟩; have _ := aM (Kd.S_elder' zd74a (Kd.R_base ho0) hb); have _ := aM (Kd.R_lower ho0 (below_size hbZ)); have _ := aM (below_step hbZ hb); clear HO_3 HB; rename_i HO_3 HO108 HB; (try clear hb); (try clear ho0); have p10 : 0 ≤ (x4_1 : Int) := of_decide_eq_true z1200; have q10 : (x4_1 : Int) < ((x3_1.length : Int) : Int) := of_decide_eq_true z1200; obtain ⟨go10, co10, eo10, gb10, gl10, cl10, HG10⟩ := Kd.S_form HO_3.out (by omega); (first | cases eo10 | (injection eo10 with ea_ en_ ec_; (first | subst ea_ | (injection ea_ with ea_; subst ea_)); subst ec_; clear en_)); have GB10 := aM gb10; have GG10 := aM HG10; clear gb10 gl10 HG10; obtain ⟨_, ce10, hcl10, hM10, hcc10, hfr10, _, _⟩ := Kd.S_elem HO_3.out z53 (x4_1 : Int) p10 q10; obtain ⟨ve10_1, rfl, ge10_1⟩ := k53_openM hM10; have hx10_0 : w11.cell? ⟨go10, (x4_1 : Int).toNat * 3, none⟩ = some (.string ((rd_T53 x3_1 x4_1).f0)) := hcc10 0 _ rfl; have hx10_1 : w11.cell? ⟨go10, (x4_1 : Int).toNat * 3 + 1, none⟩ = some (ve10_1) := hcc10 1 _ rfl; have hx10_2 : w11.cell? ⟨go10, (x4_1 : Int).toNat * 3 + 2, none⟩ = some (.int .i64 ((rd_T53 x3_1 x4_1).f2)) := hcc10 2 _ rfl; have hf10_0 : w11.frozen? ⟨go10, (x4_1 : Int).toNat * 3, none⟩ = false := hfr10 0; have hf10_1 : w11.frozen? ⟨go10, (x4_1 : Int).toNat * 3 + 1, none⟩ = false := hfr10 1; have hf10_2 : w11.frozen? ⟨go10, (x4_1 : Int).toNat * 3 + 2, none⟩ = false := hfr10 2; clear hcl10 hcc10 hfr10 hM10; replace p10 := eq_true p10; replace q10 := eq_true q10; obtain ⟨Ao14, co14, eo14⟩ := Kd.R_slice HO108.out; subst eo14; have n_ := aM (Kd.S_mono (ok' := (fun k_ => some k_ ≠ (.slice Ao14 t106.length co14 : Value).ownBlock)) HO_3.out (fun k_ hk => hk.2)); clear HO_3; have HO_3 := n_; clear n_; have HX12 := aM (show Kd.S k53 53 w11 w.heap.size (fun k_ => ((fun _ => True)) k_ ∧ ¬ ((fun k_ => some k_ = (.slice Ao14 t106.length co14 : Value).ownBlock)) k_) (.slice (some ⟨go10, 0, none⟩) x3_1.length co10) x3_1 from (by (with_reducible repeat (first | apply Kd.S_alloc | apply Kd.S_drewN | apply Kd.S_drew)); exact Kd.S_mono HO_3.out (fun k_ hk => ⟨trivial, fun e_ => hk e_⟩))); obtain ⟨oki12, ce12, hcl12, hM12, hcc12, hfr12, hoki12, hH12⟩ := Kd.S_elem HX12.out z53 (x4_1 : Int) (of_decide_eq_true z1200) (by have h_ : (x4_1 : Int) < ((x3_1.length : Int) : Int) := of_decide_eq_true z1200; first | exact h_ | (have e_ := (Kd.S_reads' HO_3.out).1; omega) | simpa using h_); obtain ⟨ve12_1, rfl, ge12_1⟩ := k53_openM hM12; have HP12 := Kd.S_seg hH12 (of_decide_eq_true z1200) (by have h_ : (x4_1 : Int) < ((x3_1.length : Int) : Int) := of_decide_eq_true z1200; first | exact h_ | (have e_ := (Kd.S_reads' HO_3.out).1; omega) | simpa using h_) (seg := [.string t105, .slice Ao14 t106.length co14, .int .i64 t109]) (j := 0) (show 3 ≤ 3 from by decide) (x' := (⟨t105, t106, t109⟩ : S53)) (k53_mkM _ _ _ (⟨t105, t106, t109⟩ : S53) (Kd.R_mono (Kd.R_tight rfl (Kd.R_mono (ok' := fun k_ => ((fun _ => True)) k_ ∧ k_ ≠ go10) (Kd.R_apart' (HO108.out) (Kd.S_typed HO_3.out) (by decide)) (fun k_ hk => ⟨trivial, fun e_ => (hk.2) (by rw [e_]; rfl)⟩))) (fun _ h_ => Or.inr (h_)))) (fun _ hk => hk) (fun k_ hk_ => ((Kd.R_mono (ok' := fun k_ => ((fun _ => True)) k_ ∧ k_ ≠ go10) (Kd.R_apart' (HO108.out) (Kd.S_typed HO_3.out) (by decide)) (fun k_ hk => ⟨trivial, fun e_ => (hk.2) (by rw [e_]; rfl)⟩))).1 k_ hk_.symm); have hx12_0 := hcc12 0 _ rfl; (try simp only [show (k53).sz = 3 from rfl, Nat.mul_one, Nat.add_zero] at hx12_0); have hf12_0 := hfr12 0; (try simp only [show (k53).sz = 3 from rfl, Nat.mul_one, Nat.add_zero] at hf12_0); have hx12_1 := hcc12 1 _ rfl; (try simp only [show (k53).sz = 3 from rfl, Nat.mul_one, Nat.add_zero] at hx12_1); have hf12_1 := hfr12 1; (try simp only [show (k53).sz = 3 from rfl, Nat.mul_one, Nat.add_zero] at hf12_1); have hx12_2 := hcc12 2 _ rfl; (try simp only [show (k53).sz = 3 from rfl, Nat.mul_one, Nat.add_zero] at hx12_2); have hf12_2 := hfr12 2; (try simp only [show (k53).sz = 3 from rfl, Nat.mul_one, Nat.add_zero] at hf12_2); clear hcl12 hcc12 hfr12 hM12 hoki12 hH12) | ((with_reducible refine gate_store (t := 53) (p := 21) rfl ?_); refine store_event (t := 53) (p := 21) (v := ?vo_w13) (w1 := (((w11.setCell ⟨go10, (x4_1 : Int).toNat * 3, none⟩ (.string t105)).setCell ⟨go10, (x4_1 : Int).toNat * 3 + 1, none⟩ (.slice Ao14 t106.length co14)).setCell ⟨go10, (x4_1 : Int).toNat * 3 + 2, none⟩ (.int .i64 t109))) ?hg ?ho ?hn ?hr ?_; (case ho => rfl); (case hg => rfl); (case hn => rfl); (case hr => first | (go_simp; done) | (go_simp; rfl)); intro w13 hw; have hg : w11.grownBy w13 (some go10) := (by rw [hw]; exact HP12.2); have hp_ : Kd.S k53 53 w13 w.heap.size (fun _ => True) (.slice (some ⟨go10, 0, none⟩) x3_1.length co10) y110 := (by rw [hw, Ny110.out]; exact HP12.1); clear HP12; have _ := aM hp_; have _ := aM ((by rw [hw]; exact below_set (below_set (below_set (HB.out) GB10.out) GB10.out) GB10.out : Below w.heap.size w w13)); clear HO_3 HB HO108; rename_i HO_3 HB; clear hg hw hp_))
     go_roundg k1
     case measure => have := HK1.out; omega
     case rel => exact ⟨(y110), (wrap64 (x4_1 + 1)), z4458, H', ⟨zfb39⟩, ⟨zd74a⟩, ⟨z5acd⟩⟩
   · rw [if_neg c6] at H
     have c6b0 := nL c6
     clear c6
     obtain rfl := Option.some.inj H
     go_wp2
     go_ret
     exact ⟨_, z674d, zd74a, z5acd⟩
end Go.Proofs.YtmlclmbplbbbhaaDoor.P

-- written by a program of this session's (wip/pp)
namespace Go.Proofs.YtmlclmbplbbbhaaDoor.P
open Go.RowKit Go.Proofs.YtmlclmbplbbbhaaDoorW.PrintWords Go.Proofs.YtmlclmbplbbbhaaDoorW.PrintLast Go.Proofs.YtmlclmbplbbbhaaDoorW.PrintMore
attribute [local go_sem] max2_int min2_int max_two min_two max_three min_three max_four min_four str_geq str_gtr str_leq   -- for this text's walks alone
set_option linter.unusedVariables false
set_option linter.unusedSimpArgs false

/-! ### laws_toFiles: function 11 -/
def laws_toFiles.f (k : Nat) (a0_0 : Int) (l0_1 : List (S84)) : Option (Int × (List (S53))) := (laws_toFileS.f k l0_1).bind fun t104 => (some (a0_0, t104))
theorem laws_toFiles.mono : ∀ a0 a1 k, LeO (laws_toFiles.f k a0 a1) (laws_toFiles.f (k + 1) a0 a1) := by
 intro a0 a1 k
 have m0 := @laws_toFileS.mono
 unfold laws_toFiles.f
 exact moZ
set_option maxHeartbeats 8000000 in
set_option maxRecDepth 100000 in
theorem laws_toFiles.calls (k : Nat) (a0_0 : Int) (A0_1 : Option Addr) (c0_1 : Nat) (l0_1 : List (S84)) (r1 : Int) (r2 : List (S53)) (w : World) (hr0_1 : Kd.C k84 w A0_1 l0_1.length l0_1) (hc0_1 : l0_1.length ≤ c0_1) (h : laws_toFiles.f k a0_0 l0_1 = some (r1, r2)) :
 Calls Tryd.prog 11 #[.agg #[.int .i64 a0_0, .slice A0_1 l0_1.length c0_1]] w fun e w' => ∃ v1_ : Value, e = .returned (.agg #[.int .i64 r1, v1_]) ∧ Kd.S k53 53 w' w.heap.size (fun _ => True) v1_ r2 ∧ Below w.heap.size w w' := by
 have hu24 := Tryd.underlying24
 have hu29 := Tryd.underlying29
 have HR0_1 := aM hr0_1
 have HC0_1 := aM hc0_1
 clear hr0_1 hc0_1
 have HB := aM (Below.refl w.heap.size w)
 have H : ((laws_toFileS.f k l0_1).bind fun t104 => (some (a0_0, t104))) = some (r1, r2) := h
 clear h
 obtain ⟨t104, A2, H⟩ := bS H; try dsimp only at H
 simp only [Option.some.injEq, Prod.mk.injEq] at H
 obtain ⟨rfl, rfl⟩ := H
 go_enter Tryd.func11, Tryd.ntmps11
 go_wp2_with (first | ((with_reducible refine gate_dst (N := 1) rfl ?_); refine bX 1 24 #[.int .i64 a0_0, .slice A0_1 l0_1.length c0_1] ?_; intro gb101 hg w3 hbox hb; have _ := aM (below_step hbZ hb); have _ := aM hbox; have _ := szZ hg; have _ := szZ hg; clear HB; rename_i HB BK101 GW101 GE101; clear hb hbox hg) | ((with_reducible refine gate_dst (N := 2) rfl ?_); refine bX 2 29 #[.int .i64 0, .slice none 0 0] ?_; intro gb102 hg w4 hbox hb; have _ := bB gb101 hb; have _ := aM (below_step hbZ hb); have _ := aM hbox; have _ := szZ hg; have _ := szZ hg; have ⟨_, _⟩ := nbB gb101 hg; clear BK101 HB; rename_i BK101 HB BK102 GW102 GE102 NB101_102 NB102_101; clear hb hbox hg) | ((with_reducible refine gate_dst (N := 3) rfl ?_); refine bX 3 29 #[.int .i64 0, .slice none 0 0] ?_; intro gb103 hg w5 hbox hb; have _ := bB gb101 hb; have _ := bB gb102 hb; have _ := aM (below_step hbZ hb); have _ := aM hbox; have _ := szZ hg; have _ := szZ hg; have ⟨_, _⟩ := nbB gb101 hg; have ⟨_, _⟩ := nbB gb102 hg; clear BK101 BK102 HB; rename_i BK101 BK102 HB BK103 GW103 GE103 NB101_103 NB103_101 NB102_103 NB103_102; clear hb hbox hg; have hnb6 := NB101_102.out; have hnc6 := NB102_101.out; have hnb7 := NB101_103.out; have hnc7 := NB103_101.out; have hz8 := cellsZ2 BK101.out; have hnb9 := NB103_102.out; have hnc9 := NB102_103.out; have hz10 := cellsZ2 BK103.out) | ((with_reducible refine gate_callee (f := 38) rfl ?_); refine gL 9 Tryd.func38 #[.slice A0_1 l0_1.length c0_1] ?_; (with_reducible refine (laws_toFileS.calls k _ _ l0_1 t104 _ ?side1 ?side2 A2.out).mono ?_); (case side1 => exact Kd.C_below HR0_1.out hbZ); (case side2 => exact HC0_1.out); rintro e w11 ⟨v105, rfl, ho0, hb⟩; refine ⟨_, rfl, ?_⟩; have _ := aM (Kd.S_lower ho0 (below_size hbZ)); have _ := bB gb101 hb; have _ := bB gb102 hb; have _ := aM (blk_below (g := gb103) (o := .cells #[.int .i64 a0_0, .slice none 0 0] 29 (0, 0)) bkZ hb); have _ := aM (below_step hbZ hb); clear BK101 BK102 BK103 HB; rename_i HO106 BK101 BK102 BK103 HB; (try clear hb); (try clear ho0); obtain ⟨Ao12, co12, eo12⟩ := Kd.S_slice HO106.out; subst eo12; have hz13 := cellsZ2 BK103.out; have hz14 := cellsZ2 BK102.out))
 refine bodyPost_ret (results_cell_row rfl _ _ gb102 29 #[.int .i64 a0_0, .slice Ao12 t104.length co12] (0, 0) _ rfl bkZ Tryd.underlying29 rfl (by kernel_rfl)) rfl ?_
 exact ⟨_, z674d, by (with_reducible repeat (first | apply Kd.S_alloc | apply Kd.S_drewN | apply Kd.S_drew)); exact Kd.S_mono (Kd.S_far (p := ⟨gb102, 1, none⟩) (Kd.S_far (p := ⟨gb102, 0, none⟩) (Kd.S_far (p := ⟨gb103, 1, none⟩) (Kd.S_types (Kd.S_types HO106.out BK103.out (by decide)) BK102.out (by decide)) (fun _ hk => hk.1.2) (.slice Ao12 t104.length co12)) (fun _ hk => hk.2) (.int .i64 a0_0)) (fun _ hk => hk.2) (.slice Ao12 t104.length co12)) (fun _ hk => trivial), zcb41⟩

end Go.Proofs.YtmlclmbplbbbhaaDoor.P

-- written by a program of this session's (wip/pp)
namespace Go.Proofs.YtmlclmbplbbbhaaDoor.P
open Go.RowKit Go.Proofs.YtmlclmbplbbbhaaDoorW.PrintWords Go.Proofs.YtmlclmbplbbbhaaDoorW.PrintLast Go.Proofs.YtmlclmbplbbbhaaDoorW.PrintMore
attribute [local go_sem] max2_int min2_int max_two min_two max_three min_three max_four min_four str_geq str_gtr str_leq   -- for this text's walks alone
set_option linter.unusedVariables false
set_option linter.unusedSimpArgs false

/-! ### laws_eqByteS: function 15 -/
def laws_eqByteS.l0 : Nat → List Int → List Int → Int → Option (Bool)
 | 0, _, _, _ => none
 | k + 1, x0, x1, x5 => if x5 < (x0.length : Int) then (if 0 ≤ x5 then (if x5 < (x1.length : Int) then (if (rd x0 x5) = (rd x1 x5) then (laws_eqByteS.l0 k x0 x1 (wrap64 (x5 + 1))) else (none)) else (none)) else (none)) else (some true)
def laws_eqByteS.f (k : Nat) (l0 : List Int) (l1 : List Int) : Option (Bool) := if (l0.length : Int) = (l1.length : Int) then (laws_eqByteS.l0 k l0 l1 0) else (none)
theorem laws_eqByteS.mono_l : ∀ k, (∀ y0 y1 y2, LeO (laws_eqByteS.l0 k y0 y1 y2) (laws_eqByteS.l0 (k + 1) y0 y1 y2))
 | 0 => fun _ _ _ r h => by simp [laws_eqByteS.l0] at h
 | k + 1 => by
  have ih0 := laws_eqByteS.mono_l k
  · intro y0 y1 y2
    unfold laws_eqByteS.l0
    exact moZ
theorem laws_eqByteS.mono : ∀ a0 a1 k, LeO (laws_eqByteS.f k a0 a1) (laws_eqByteS.f (k + 1) a0 a1) := by
 intro a0 a1 k
 have ih0 := laws_eqByteS.mono_l k
 unfold laws_eqByteS.f
 exact moZ
set_option maxHeartbeats 8000000 in
set_option maxRecDepth 100000 in
theorem laws_eqByteS.calls (k : Nat) (A0 : Option Addr) (c0 : Nat) (l0 : List Int) (A1 : Option Addr) (c1 : Nat) (l1 : List Int) (r : Bool) (w : World) (hr0 : Kd.C (Kd.int .u8) w A0 l0.length l0) (hc0 : l0.length ≤ c0) (hr1 : Kd.C (Kd.int .u8) w A1 l1.length l1) (hc1 : l1.length ≤ c1) (h : laws_eqByteS.f k l0 l1 = some r) :
 Calls Tryd.prog 15 #[.slice A0 l0.length c0, .slice A1 l1.length c1] w fun e w' => e = .returned (.bool r) ∧ Drawn0 w w' := by
 have HR0 := aM hr0
 have HC0 := aM hc0
 clear hr0 hc0
 have HR1 := aM hr1
 have HC1 := aM hc1
 clear hr1 hc1
 have H : (if (l0.length : Int) = (l1.length : Int) then (laws_eqByteS.l0 k l0 l1 0) else (none)) = some r := h
 clear h
 replace H := ifS H; obtain ⟨c3, H⟩ := H
 have c3b0 := eqE c3
 have c3b2 : (l0.length == l1.length) = true := by first | simpa using c3 | (simp at c3 ⊢; omega)
 clear c3
 have H' := aM H
 clear H
 go_enter Tryd.func15, Tryd.ntmps15
 go_wp2
 repeat (go_quiet (fail); try go_wp2)
 go_loopg [5] k (fun kq v5 w' => ∃ (x5_1 : Int), v5 = .int .i64 x5_1 ∧ Aside0 (laws_eqByteS.l0 kq l0 l1 x5_1 = some r) ∧ Aside0 (kq ≤ k) ∧ Drawn0 w w')
 case atStart => exact ⟨(0), z4458, H', ⟨Nat.le_refl _⟩, za9de⟩
 case round =>
  clear H'
  (try clear c1); (try clear c3b0); (try clear c3b2)
  obtain ⟨x5_1, rfl, HA, HK1, ⟨m1, rfl⟩⟩ := hrel
  cases gk with
  | zero => exact absurd HA.out (by simp [laws_eqByteS.l0])
  | succ k1 =>
   have H := HA.out
   clear HA
   simp only [laws_eqByteS.l0] at H
   by_cases c4 : x5_1 < (l0.length : Int)
   · rw [if_pos c4] at H
     have c4b0 := dL c4
     clear c4
     obtain ⟨c5b0, H⟩ := sE H
     obtain ⟨c6b0, H⟩ := sL H
     replace H := ifS H; obtain ⟨c7, H⟩ := H
     have c7b0 := eqE c7
     clear c7
     have H' := aM H
     clear H
     have p101 : 0 ≤ (x5_1 : Int) := of_decide_eq_true z1200
     have q101 : x5_1 < (l0.length : Int) := of_decide_eq_true z1200
     obtain ⟨ad101, e101, hx101_0⟩ := Kd.at_int HR0.out x5_1 p101 q101
     cases e101
     replace p101 := eq_true p101
     replace q101 := eq_true q101
     have p102 : 0 ≤ (x5_1 : Int) := of_decide_eq_true z1200
     have q102 : x5_1 < (l1.length : Int) := of_decide_eq_true z1200
     obtain ⟨ad102, e102, hx102_0⟩ := Kd.at_int HR1.out x5_1 p102 q102
     cases e102
     replace p102 := eq_true p102
     replace q102 := eq_true q102
     go_wp2
     repeat (go_quiet (fail); try go_wp2)
     go_roundg k1
     case measure => have := HK1.out; omega
     case rel => exact ⟨(wrap64 (x5_1 + 1)), z4458, H', ⟨zfb39⟩, za9de⟩
   · rw [if_neg c4] at H
     have c4b0 := nL c4
     clear c4
     obtain rfl := Option.some.inj H
     go_wp2
     repeat (go_quiet (fail); try go_wp2)
     go_ret
     exact ⟨z4458, za9de⟩
end Go.Proofs.YtmlclmbplbbbhaaDoor.P

-- written by a program of this session's (wip/pp)
namespace Go.Proofs.YtmlclmbplbbbhaaDoor.P
open Go.RowKit Go.Proofs.YtmlclmbplbbbhaaDoorW.PrintWords Go.Proofs.YtmlclmbplbbbhaaDoorW.PrintLast Go.Proofs.YtmlclmbplbbbhaaDoorW.PrintMore
attribute [local go_sem] max2_int min2_int max_two min_two max_three min_three max_four min_four str_geq str_gtr str_leq   -- for this text's walks alone
set_option linter.unusedVariables false
set_option linter.unusedSimpArgs false

/-! ### laws_eqFile: function 72 -/
def laws_eqFile.f (k : Nat) (a0_0 : ByteArray) (l0_1 : List Int) (a0_2 : Int) (a1_0 : ByteArray) (l1_1 : List Int) (a1_2 : Int) : Option (Bool) := if a0_0.toList = a1_0.toList then ((laws_eqByteS.f k l0_1 l1_1).bind fun t103 => (if t103 = true then (if a0_2 = a1_2 then (some true) else (none)) else (none))) else (none)
theorem laws_eqFile.mono : ∀ a0 a1 a2 a3 a4 a5 k, LeO (laws_eqFile.f k a0 a1 a2 a3 a4 a5) (laws_eqFile.f (k + 1) a0 a1 a2 a3 a4 a5) := by
 intro a0 a1 a2 a3 a4 a5 k
 have m0 := @laws_eqByteS.mono
 unfold laws_eqFile.f
 exact moZ
set_option maxHeartbeats 8000000 in
set_option maxRecDepth 100000 in
theorem laws_eqFile.calls (k : Nat) (a0_0 : ByteArray) (A0_1 : Option Addr) (c0_1 : Nat) (l0_1 : List Int) (a0_2 : Int) (a1_0 : ByteArray) (A1_1 : Option Addr) (c1_1 : Nat) (l1_1 : List Int) (a1_2 : Int) (r : Bool) (w : World) (hr0_1 : Kd.C (Kd.int .u8) w A0_1 l0_1.length l0_1) (hc0_1 : l0_1.length ≤ c0_1) (hr1_1 : Kd.C (Kd.int .u8) w A1_1 l1_1.length l1_1) (hc1_1 : l1_1.length ≤ c1_1) (h : laws_eqFile.f k a0_0 l0_1 a0_2 a1_0 l1_1 a1_2 = some r) :
 Calls Tryd.prog 72 #[.agg #[.string a0_0, .slice A0_1 l0_1.length c0_1, .int .i64 a0_2], .agg #[.string a1_0, .slice A1_1 l1_1.length c1_1, .int .i64 a1_2]] w fun e w' => e = .returned (.bool r) ∧ Below w.heap.size w w' := by
 have hu53 := Tryd.underlying53
 have HR0_1 := aM hr0_1
 have HC0_1 := aM hc0_1
 clear hr0_1 hc0_1
 have HR1_1 := aM hr1_1
 have HC1_1 := aM hc1_1
 clear hr1_1 hc1_1
 have HB := aM (Below.refl w.heap.size w)
 have H : (if a0_0.toList = a1_0.toList then ((laws_eqByteS.f k l0_1 l1_1).bind fun t103 => (if t103 = true then (if a0_2 = a1_2 then (some true) else (none)) else (none))) else (none)) = some r := h
 clear h
 replace H := ifS H; obtain ⟨c3, H⟩ := H
 have c3b0 := eqE c3
 clear c3
 obtain ⟨t103, A4, H⟩ := bS H; try dsimp only at H
 by_cases c5 : t103 = true
 · subst c5
   rw [if_pos rfl] at H
   replace H := ifS H; obtain ⟨c6, H⟩ := H
   have c6b0 := eqE c6
   clear c6
   obtain rfl := Option.some.inj H
   go_enter Tryd.func72, Tryd.ntmps72
   go_wp2_with (first | ((with_reducible refine gate_dst (N := 2) rfl ?_); refine bX 2 53 #[.string a0_0, .slice A0_1 l0_1.length c0_1, .int .i64 a0_2] ?_; intro gb101 hg w7 hbox hb; have _ := aM (below_step hbZ hb); have _ := aM hbox; have _ := szZ hg; have _ := szZ hg; clear HB; rename_i HB BK101 GW101 GE101; clear hb hbox hg) | ((with_reducible refine gate_dst (N := 3) rfl ?_); refine bX 3 53 #[.string a1_0, .slice A1_1 l1_1.length c1_1, .int .i64 a1_2] ?_; intro gb102 hg w8 hbox hb; have _ := bB gb101 hb; have _ := aM (below_step hbZ hb); have _ := aM hbox; have _ := szZ hg; have _ := szZ hg; have ⟨_, _⟩ := nbB gb101 hg; clear BK101 HB; rename_i BK101 HB BK102 GW102 GE102 NB101_102 NB102_101; clear hb hbox hg; have hnb9 := NB101_102.out; have hnc9 := NB102_101.out; have hz10 := cellsZ3 BK101.out; have hz11 := cellsZ3 BK102.out) | ((with_reducible refine gate_callee (f := 15) rfl ?_); refine gL 14 Tryd.func15 #[.slice A0_1 l0_1.length c0_1, .slice A1_1 l1_1.length c1_1] ?_; (with_reducible refine (laws_eqByteS.calls k _ _ l0_1 _ _ l1_1 true _ ?side1 ?side2 ?side3 ?side4 A4.out).mono ?_); (case side1 => exact (cZ (Kd.C_below HR0_1.out HB.out))); (case side2 => exact HC0_1.out); (case side3 => exact (cZ (Kd.C_below HR1_1.out HB.out))); (case side4 => exact HC1_1.out); rintro e w' ⟨rfl, ⟨nd, rfl⟩⟩; refine ⟨_, rfl, ?_⟩))
   go_ret
   exact ⟨z674d, zcb41⟩
 · replace c5 := Bool.eq_false_iff.mpr c5
   subst c5
   rw [if_neg (show ¬ (false = true) by decide)] at H
   exact absurd H (by simp)
end Go.Proofs.YtmlclmbplbbbhaaDoor.P

-- written by a program of this session's (wip/pp)
namespace Go.Proofs.YtmlclmbplbbbhaaDoor.P
open Go.RowKit Go.Proofs.YtmlclmbplbbbhaaDoorW.PrintWords Go.Proofs.YtmlclmbplbbbhaaDoorW.PrintLast Go.Proofs.YtmlclmbplbbbhaaDoorW.PrintMore
attribute [local go_sem] max2_int min2_int max_two min_two max_three min_three max_four min_four str_geq str_gtr str_leq   -- for this text's walks alone
set_option linter.unusedVariables false
set_option linter.unusedSimpArgs false

/-! ### laws_eqFileS: function 42 -/
def laws_eqFileS.l0 : Nat → List (S53) → List (S53) → Int → Option (Bool)
 | 0, _, _, _ => none
 | k + 1, x0, x1, x5 => if x5 < (x0.length : Int) then (if 0 ≤ x5 then (if x5 < (x1.length : Int) then ((laws_eqFile.f k ((rd_T53 x0 x5).f0) ((rd_T53 x0 x5).f1) ((rd_T53 x0 x5).f2) ((rd_T53 x1 x5).f0) ((rd_T53 x1 x5).f1) ((rd_T53 x1 x5).f2)).bind fun t103 => (if t103 = true then (laws_eqFileS.l0 k x0 x1 (wrap64 (x5 + 1))) else (none))) else (none)) else (none)) else (some true)
def laws_eqFileS.f (k : Nat) (l0 : List (S53)) (l1 : List (S53)) : Option (Bool) := if (l0.length : Int) = (l1.length : Int) then (laws_eqFileS.l0 k l0 l1 0) else (none)
theorem laws_eqFileS.mono_l : ∀ k, (∀ y0 y1 y2, LeO (laws_eqFileS.l0 k y0 y1 y2) (laws_eqFileS.l0 (k + 1) y0 y1 y2))
 | 0 => fun _ _ _ r h => by simp [laws_eqFileS.l0] at h
 | k + 1 => by
  have ih0 := laws_eqFileS.mono_l k; have m0 := @laws_eqFile.mono
  · intro y0 y1 y2
    unfold laws_eqFileS.l0
    exact moZ
theorem laws_eqFileS.mono : ∀ a0 a1 k, LeO (laws_eqFileS.f k a0 a1) (laws_eqFileS.f (k + 1) a0 a1) := by
 intro a0 a1 k
 have ih0 := laws_eqFileS.mono_l k
 have m0 := @laws_eqFile.mono
 unfold laws_eqFileS.f
 exact moZ
def laws_eqFileS.T6 : Bool × List (List Nat × List Nat) := (true, [([], []), ([], []), ([0, 1], [0, 1]), ([2], [2]), ([], []), ([], []), ([4, 5], [4, 5]), ([6], [6]), ([3, 7], [3, 7]), ([8], [8])])
def laws_eqFileS.B6 : List Nat := [0, 0, 3, 7, 0, 0, 48, 112, 255, 511]
theorem laws_eqFileS.tab6 : rtab .any (opsOf Tryd.f42 6) = laws_eqFileS.T6 := by kernel_rfl
theorem laws_eqFileS.bits6 : waitsOk laws_eqFileS.T6.2 laws_eqFileS.B6 = true := by kernel_rfl
set_option maxHeartbeats 8000000 in
set_option maxRecDepth 100000 in
theorem laws_eqFileS.calls (k : Nat) (A0 : Option Addr) (c0 : Nat) (l0 : List (S53)) (A1 : Option Addr) (c1 : Nat) (l1 : List (S53)) (r : Bool) (w : World) (hr0 : Kd.C k53 w A0 l0.length l0) (hc0 : l0.length ≤ c0) (hr1 : Kd.C k53 w A1 l1.length l1) (hc1 : l1.length ≤ c1) (h : laws_eqFileS.f k l0 l1 = some r) :
 Calls Tryd.prog 42 #[.slice A0 l0.length c0, .slice A1 l1.length c1] w fun e w' => e = .returned (.bool r) ∧ Below w.heap.size w w' := by
 have hu53 := Tryd.underlying53
 have HR0 := aM hr0
 have HC0 := aM hc0
 clear hr0 hc0
 have HR1 := aM hr1
 have HC1 := aM hc1
 clear hr1 hc1
 have HB := aM (Below.refl w.heap.size w)
 have H : (if (l0.length : Int) = (l1.length : Int) then (laws_eqFileS.l0 k l0 l1 0) else (none)) = some r := h
 clear h
 replace H := ifS H; obtain ⟨c3, H⟩ := H
 have c3b0 := eqE c3
 have c3b2 : (l0.length == l1.length) = true := by first | simpa using c3 | (simp at c3 ⊢; omega)
 clear c3
 have H' := aM H
 clear H
 go_enter Tryd.func42, Tryd.ntmps42
 go_wp2
 go_loopg [5] k (fun kq v5 w' => ∃ (x5_1 : Int), v5 = .int .i64 x5_1 ∧ Aside0 (laws_eqFileS.l0 kq l0 l1 x5_1 = some r) ∧ Aside0 (kq ≤ k) ∧ Aside0 (Below w.heap.size w w'))
 case atStart => exact ⟨(0), z4458, H', ⟨Nat.le_refl _⟩, ⟨z5acd⟩⟩
 case round =>
  clear H'
  (try clear c1); (try clear c3b0); (try clear c3b2)
  obtain ⟨x5_1, rfl, HA, HK1, HB⟩ := hrel
  cases gk with
  | zero => exact absurd HA.out (by simp [laws_eqFileS.l0])
  | succ k1 =>
   have H := HA.out
   clear HA
   simp only [laws_eqFileS.l0] at H
   by_cases c4 : x5_1 < (l0.length : Int)
   · rw [if_pos c4] at H
     have c4b0 := dL c4
     clear c4
     obtain ⟨c5b0, H⟩ := sE H
     obtain ⟨c6b0, H⟩ := sL H
     obtain ⟨t103, A7, H⟩ := bS H; try dsimp only at H
     by_cases c8 : t103 = true
     · subst c8
       rw [if_pos rfl] at H
       have H' := aM H
       clear H
       try go_wp2
       have _ := aM (below_drew1 HB.out)
       clear HB
       rename_i HB
       have p101 : 0 ≤ (x5_1 : Int) := of_decide_eq_true z1200
       have q101 : x5_1 < (l0.length : Int) := of_decide_eq_true z1200
       obtain ⟨ad101, A101_1, c101_1, e101, hx101_0, hx101_1, hx101_2, hl101_1, hi101_1⟩ := at_T53 HR0.out x5_1 p101 q101
       have hw101_2 := hx101_2
       have hw101_1 := hx101_1
       have hw101_0 := hx101_0
       cases e101
       have TW101_1 := aM hx101_1
       replace hx101_0 := (HB.out.cell (World.block_lt_of_cell? w _ hx101_0)).trans hx101_0
       replace hx101_1 := (HB.out.cell (World.block_lt_of_cell? w _ hx101_1)).trans hx101_1
       replace hx101_2 := (HB.out.cell (World.block_lt_of_cell? w _ hx101_2)).trans hx101_2
       have HR101_1 := aM hi101_1
       have HC101_1 := aM hl101_1
       clear hi101_1 hl101_1
       replace p101 := eq_true p101
       replace q101 := eq_true q101
       have p102 : 0 ≤ (x5_1 : Int) := of_decide_eq_true z1200
       have q102 : x5_1 < (l1.length : Int) := of_decide_eq_true z1200
       obtain ⟨ad102, A102_1, c102_1, e102, hx102_0, hx102_1, hx102_2, hl102_1, hi102_1⟩ := at_T53 HR1.out x5_1 p102 q102
       have hw102_2 := hx102_2
       have hw102_1 := hx102_1
       have hw102_0 := hx102_0
       cases e102
       have TW102_1 := aM hx102_1
       replace hx102_0 := (HB.out.cell (World.block_lt_of_cell? w _ hx102_0)).trans hx102_0
       replace hx102_1 := (HB.out.cell (World.block_lt_of_cell? w _ hx102_1)).trans hx102_1
       replace hx102_2 := (HB.out.cell (World.block_lt_of_cell? w _ hx102_2)).trans hx102_2
       have HR102_1 := aM hi102_1
       have HC102_1 := aM hl102_1
       clear hi102_1 hl102_1
       replace p102 := eq_true p102
       replace q102 := eq_true q102
       refine sA 10 laws_eqFileS.tab6 laws_eqFileS.bits6 (fun w' => w'.cell? (ad101.add ((x5_1).toNat * 3)) = some (.string ((rd_T53 l0 x5_1).f0)) ∧ w'.cell? ⟨(ad101.add ((x5_1).toNat * 3)).block, (ad101.add ((x5_1).toNat * 3)).off + 1, none⟩ = some (.slice A101_1 ((rd_T53 l0 x5_1).f1).length c101_1) ∧ w'.cell? ⟨(ad101.add ((x5_1).toNat * 3)).block, (ad101.add ((x5_1).toNat * 3)).off + 2, none⟩ = some (.int .i64 ((rd_T53 l0 x5_1).f2)) ∧ w'.cell? (ad102.add ((x5_1).toNat * 3)) = some (.string ((rd_T53 l1 x5_1).f0)) ∧ w'.cell? ⟨(ad102.add ((x5_1).toNat * 3)).block, (ad102.add ((x5_1).toNat * 3)).off + 1, none⟩ = some (.slice A102_1 ((rd_T53 l1 x5_1).f1).length c102_1) ∧ w'.cell? ⟨(ad102.add ((x5_1).toNat * 3)).block, (ad102.add ((x5_1).toNat * 3)).off + 2, none⟩ = some (.int .i64 ((rd_T53 l1 x5_1).f2))) [] (fun hHeld HT_ HW_ => ?_)
       generalize wr.drew = w9 at HB HR101_1 HR102_1 hx101_0 hx101_1 hx101_2 hx102_0 hx102_1 hx102_2 hHeld ⊢
       refine pA 0 17 HT_ ?_; refine pA 1 18 HT_ ?_; refine pA 2 19 HT_ ?_; refine pA 4 21 HT_ ?_; refine pA 5 22 HT_ ?_; refine pA 6 23 HT_ ?_; refine tA 3 20 HT_ HW_ hHeld ?_; refine tA 7 24 HT_ HW_ hHeld ?_; refine oA 8 25 HT_ (fun K hK => ?_)
       refine goes_ Tryd.func72 (by kernel_rfl) rfl #[.agg #[.string ((rd_T53 l0 x5_1).f0), .slice A101_1 ((rd_T53 l0 x5_1).f1).length c101_1, .int .i64 ((rd_T53 l0 x5_1).f2)], .agg #[.string ((rd_T53 l1 x5_1).f0), .slice A102_1 ((rd_T53 l1 x5_1).f1).length c102_1, .int .i64 ((rd_T53 l1 x5_1).f2)]] (by rfl) rfl rfl zee81 ?_
       with_reducible refine (laws_eqFile.calls k1 ((rd_T53 l0 x5_1).f0) _ _ ((rd_T53 l0 x5_1).f1) ((rd_T53 l0 x5_1).f2) ((rd_T53 l1 x5_1).f0) _ _ ((rd_T53 l1 x5_1).f1) ((rd_T53 l1 x5_1).f2) true _ ?side1 ?side2 ?side3 ?side4 A7.out).mono ?_
       (case side1 => exact (cZ (Kd.C_below HR101_1.out HB.out)))
       (case side2 => exact HC101_1.out)
       (case side3 => exact (cZ (Kd.C_below HR102_1.out HB.out)))
       (case side4 => exact HC102_1.out)
       rintro e w10 ⟨rfl, hb⟩
       refine ⟨_, rfl, ?_⟩
       have _ := aM (below_step hbZ hb)
       clear HB
       rename_i HB
       (try clear hb)
       refine hK.out _ _ sZ (fun hHeld => ?_)
       clear hK K
       refine nA 25 ?_; refine pA 9 26 HT_ ?_
       refine done_ (done_of HT_.out (by kernel_rfl)) ?_
       try go_wp2
       go_roundg k1
       case measure => have := HK1.out; omega
       case rel => exact ⟨(wrap64 (x5_1 + 1)), z4458, H', ⟨zfb39⟩, ⟨z5acd⟩⟩
     · replace c8 := Bool.eq_false_iff.mpr c8
       subst c8
       rw [if_neg (show ¬ (false = true) by decide)] at H
       exact absurd H (by simp)
   · rw [if_neg c4] at H
     have c4b0 := nL c4
     clear c4
     obtain rfl := Option.some.inj H
     go_wp2
     go_ret
     exact ⟨z674d, z5acd⟩
end Go.Proofs.YtmlclmbplbbbhaaDoor.P

-- written by a program of this session's (wip/pp)
namespace Go.Proofs.YtmlclmbplbbbhaaDoor.P
open Go.RowKit Go.Proofs.YtmlclmbplbbbhaaDoorW.PrintWords Go.Proofs.YtmlclmbplbbbhaaDoorW.PrintLast Go.Proofs.YtmlclmbplbbbhaaDoorW.PrintMore
attribute [local go_sem] max2_int min2_int max_two min_two max_three min_three max_four min_four str_geq str_gtr str_leq   -- for this text's walks alone
set_option linter.unusedVariables false
set_option linter.unusedSimpArgs false

/-! ### laws_eqFiles: function 14 -/
def laws_eqFiles.f (k : Nat) (a0_0 : Int) (l0_1 : List (S53)) (a1_0 : Int) (l1_1 : List (S53)) : Option (Bool) := if a0_0 = a1_0 then ((laws_eqFileS.f k l0_1 l1_1).bind fun t103 => (if t103 = true then (some true) else (none))) else (none)
theorem laws_eqFiles.mono : ∀ a0 a1 a2 a3 k, LeO (laws_eqFiles.f k a0 a1 a2 a3) (laws_eqFiles.f (k + 1) a0 a1 a2 a3) := by
 intro a0 a1 a2 a3 k
 have m0 := @laws_eqFileS.mono
 unfold laws_eqFiles.f
 exact moZ
set_option maxHeartbeats 8000000 in
set_option maxRecDepth 100000 in
theorem laws_eqFiles.calls (k : Nat) (a0_0 : Int) (A0_1 : Option Addr) (c0_1 : Nat) (l0_1 : List (S53)) (a1_0 : Int) (A1_1 : Option Addr) (c1_1 : Nat) (l1_1 : List (S53)) (r : Bool) (w : World) (hr0_1 : Kd.C k53 w A0_1 l0_1.length l0_1) (hc0_1 : l0_1.length ≤ c0_1) (hr1_1 : Kd.C k53 w A1_1 l1_1.length l1_1) (hc1_1 : l1_1.length ≤ c1_1) (h : laws_eqFiles.f k a0_0 l0_1 a1_0 l1_1 = some r) :
 Calls Tryd.prog 14 #[.agg #[.int .i64 a0_0, .slice A0_1 l0_1.length c0_1], .agg #[.int .i64 a1_0, .slice A1_1 l1_1.length c1_1]] w fun e w' => e = .returned (.bool r) ∧ Below w.heap.size w w' := by
 have hu29 := Tryd.underlying29
 have HR0_1 := aM hr0_1
 have HC0_1 := aM hc0_1
 clear hr0_1 hc0_1
 have HR1_1 := aM hr1_1
 have HC1_1 := aM hc1_1
 clear hr1_1 hc1_1
 have HB := aM (Below.refl w.heap.size w)
 have H : (if a0_0 = a1_0 then ((laws_eqFileS.f k l0_1 l1_1).bind fun t103 => (if t103 = true then (some true) else (none))) else (none)) = some r := h
 clear h
 replace H := ifS H; obtain ⟨c3, H⟩ := H
 have c3b0 := eqE c3
 clear c3
 obtain ⟨t103, A4, H⟩ := bS H; try dsimp only at H
 by_cases c5 : t103 = true
 · subst c5
   rw [if_pos rfl] at H
   obtain rfl := Option.some.inj H
   go_enter Tryd.func14, Tryd.ntmps14
   go_wp2_with (first | ((with_reducible refine gate_dst (N := 2) rfl ?_); refine bX 2 29 #[.int .i64 a0_0, .slice A0_1 l0_1.length c0_1] ?_; intro gb101 hg w6 hbox hb; have _ := aM (below_step hbZ hb); have _ := aM hbox; have _ := szZ hg; have _ := szZ hg; clear HB; rename_i HB BK101 GW101 GE101; clear hb hbox hg) | ((with_reducible refine gate_dst (N := 3) rfl ?_); refine bX 3 29 #[.int .i64 a1_0, .slice A1_1 l1_1.length c1_1] ?_; intro gb102 hg w7 hbox hb; have _ := bB gb101 hb; have _ := aM (below_step hbZ hb); have _ := aM hbox; have _ := szZ hg; have _ := szZ hg; have ⟨_, _⟩ := nbB gb101 hg; clear BK101 HB; rename_i BK101 HB BK102 GW102 GE102 NB101_102 NB102_101; clear hb hbox hg; have hnb8 := NB101_102.out; have hnc8 := NB102_101.out; have hz9 := cellsZ2 BK101.out; have hz10 := cellsZ2 BK102.out) | ((with_reducible refine gate_callee (f := 42) rfl ?_); refine gL 14 Tryd.func42 #[.slice A0_1 l0_1.length c0_1, .slice A1_1 l1_1.length c1_1] ?_; (with_reducible refine (laws_eqFileS.calls k _ _ l0_1 _ _ l1_1 true _ ?side1 ?side2 ?side3 ?side4 A4.out).mono ?_); (case side1 => exact (cZ (Kd.C_below HR0_1.out HB.out))); (case side2 => exact HC0_1.out); (case side3 => exact (cZ (Kd.C_below HR1_1.out HB.out))); (case side4 => exact HC1_1.out); rintro e w11 ⟨rfl, hb⟩; refine ⟨_, rfl, ?_⟩; have _ := bB gb101 hb; have _ := bB gb102 hb; have _ := aM (below_step hbZ hb); clear BK101 BK102 HB; rename_i BK101 BK102 HB; (try clear hb)))
   go_ret
   exact ⟨z674d, zcb41⟩
 · replace c5 := Bool.eq_false_iff.mpr c5
   subst c5
   rw [if_neg (show ¬ (false = true) by decide)] at H
   exact absurd H (by simp)
end Go.Proofs.YtmlclmbplbbbhaaDoor.P

-- written by a program of this session's (wip/pp)
namespace Go.Proofs.YtmlclmbplbbbhaaDoor.P
open Go.RowKit Go.Proofs.YtmlclmbplbbbhaaDoorW.PrintWords Go.Proofs.YtmlclmbplbbbhaaDoorW.PrintLast Go.Proofs.YtmlclmbplbbbhaaDoorW.PrintMore
attribute [local go_sem] max2_int min2_int max_two min_two max_three min_three max_four min_four str_geq str_gtr str_leq   -- for this text's walks alone
set_option linter.unusedVariables false
set_option linter.unusedSimpArgs false

/-! ### laws_heldByteS: function 74 -/
def laws_heldByteS.l0 : Nat → List Int → Int → Int → Option (Int)
 | 0, _, _, _ => none
 | k + 1, x0, x1, x5 => if x5 < (x0.length : Int) then (if 0 ≤ x5 then (if (rd x0 x5) = ((x1) % 256) then (laws_heldByteS.l0 k x0 (wrap64 (x1 + 1)) (wrap64 (x5 + 1))) else (none)) else (none)) else (some x1)
def laws_heldByteS.f (k : Nat) (l0 : List Int) (a1 : Int) : Option (Int) := laws_heldByteS.l0 k l0 a1 0
theorem laws_heldByteS.mono_l : ∀ k, (∀ y0 y1 y2, LeO (laws_heldByteS.l0 k y0 y1 y2) (laws_heldByteS.l0 (k + 1) y0 y1 y2))
 | 0 => fun _ _ _ r h => by simp [laws_heldByteS.l0] at h
 | k + 1 => by
  have ih0 := laws_heldByteS.mono_l k
  · intro y0 y1 y2
    unfold laws_heldByteS.l0
    exact moZ
theorem laws_heldByteS.mono : ∀ a0 a1 k, LeO (laws_heldByteS.f k a0 a1) (laws_heldByteS.f (k + 1) a0 a1) := by
 intro a0 a1 k
 have ih0 := laws_heldByteS.mono_l k
 unfold laws_heldByteS.f
 exact moZ
set_option maxHeartbeats 8000000 in
set_option maxRecDepth 100000 in
theorem laws_heldByteS.calls (k : Nat) (A0 : Option Addr) (c0 : Nat) (l0 : List Int) (a1 : Int) (r : Int) (w : World) (hr0 : Kd.C (Kd.int .u8) w A0 l0.length l0) (hc0 : l0.length ≤ c0) (h : laws_heldByteS.f k l0 a1 = some r) :
 Calls Tryd.prog 74 #[.slice A0 l0.length c0, .int .i64 a1] w fun e w' => e = .returned (.int .i64 r) ∧ Drawn0 w w' := by
 have HR0 := aM hr0
 have HC0 := aM hc0
 clear hr0 hc0
 have H : (laws_heldByteS.l0 k l0 a1 0) = some r := h
 clear h
 have H' := aM H
 clear H
 go_enter Tryd.func74, Tryd.ntmps74
 go_wp2
 go_loopg [1, 5] k (fun kq v1 v5 w' => ∃ (x1_1 : Int) (x5_1 : Int), v1 = .int .i64 x1_1 ∧ v5 = .int .i64 x5_1 ∧ Aside0 (laws_heldByteS.l0 kq l0 x1_1 x5_1 = some r) ∧ Aside0 (kq ≤ k) ∧ Drawn0 w w')
 case atStart => exact ⟨(a1), (0), z4458, z4458, H', ⟨Nat.le_refl _⟩, za9de⟩
 case round =>
  clear H'
  obtain ⟨x1_1, x5_1, rfl, rfl, HA, HK1, ⟨m1, rfl⟩⟩ := hrel
  cases gk with
  | zero => exact absurd HA.out (by simp [laws_heldByteS.l0])
  | succ k1 =>
   have H := HA.out
   clear HA
   simp only [laws_heldByteS.l0] at H
   by_cases c3 : x5_1 < (l0.length : Int)
   · rw [if_pos c3] at H
     have c3b0 := dL c3
     clear c3
     obtain ⟨c4b0, H⟩ := sE H
     replace H := ifS H; obtain ⟨c5, H⟩ := H
     have c5b0 := eqE c5
     clear c5
     have H' := aM H
     clear H
     have p101 : 0 ≤ (x5_1 : Int) := of_decide_eq_true z1200
     have q101 : x5_1 < (l0.length : Int) := of_decide_eq_true z1200
     obtain ⟨ad101, e101, hx101_0⟩ := Kd.at_int HR0.out x5_1 p101 q101
     cases e101
     replace p101 := eq_true p101
     replace q101 := eq_true q101
     go_wp2
     go_roundg k1
     case measure => have := HK1.out; omega
     case rel => exact ⟨(wrap64 (x1_1 + 1)), (wrap64 (x5_1 + 1)), z4458, z4458, H', ⟨zfb39⟩, za9de⟩
   · rw [if_neg c3] at H
     have c3b0 := nL c3
     clear c3
     obtain rfl := Option.some.inj H
     go_wp2
     go_ret
     exact ⟨z4458, za9de⟩

end Go.Proofs.YtmlclmbplbbbhaaDoor.P

-- written by a program of this session's (wip/pp)
namespace Go.Proofs.YtmlclmbplbbbhaaDoor.P
open Go.RowKit Go.Proofs.YtmlclmbplbbbhaaDoorW.PrintWords Go.Proofs.YtmlclmbplbbbhaaDoorW.PrintLast Go.Proofs.YtmlclmbplbbbhaaDoorW.PrintMore
attribute [local go_sem] max2_int min2_int max_two min_two max_three min_three max_four min_four str_geq str_gtr str_leq   -- for this text's walks alone
set_option linter.unusedVariables false
set_option linter.unusedSimpArgs false

/-! ### laws_heldFileS: function 44 -/
def laws_heldFileS.l0 : Nat → List (S53) → Int → Int → Option (Int)
 | 0, _, _, _ => none
 | k + 1, x0, x1, x5 => if x5 < (x0.length : Int) then (if 0 ≤ x5 then ((laws_markText.f k x1).bind fun t102 => (if ((rd_T53 x0 x5).f0).toList = t102.toList then ((laws_heldByteS.f k ((rd_T53 x0 x5).f1) (wrap64 (x1 + 1))).bind fun t104 => (if t104 < 0 then (none) else (if ((rd_T53 x0 x5).f2) = t104 then (laws_heldFileS.l0 k x0 (wrap64 (t104 + 1)) (wrap64 (x5 + 1))) else (none)))) else (none))) else (none)) else (some x1)
def laws_heldFileS.f (k : Nat) (l0 : List (S53)) (a1 : Int) : Option (Int) := laws_heldFileS.l0 k l0 a1 0
theorem laws_heldFileS.mono_l : ∀ k, (∀ y0 y1 y2, LeO (laws_heldFileS.l0 k y0 y1 y2) (laws_heldFileS.l0 (k + 1) y0 y1 y2))
 | 0 => fun _ _ _ r h => by simp [laws_heldFileS.l0] at h
 | k + 1 => by
  have ih0 := laws_heldFileS.mono_l k; have m0 := @laws_heldByteS.mono; have m1 := @laws_markText.mono
  · intro y0 y1 y2
    unfold laws_heldFileS.l0
    exact moZ
theorem laws_heldFileS.mono : ∀ a0 a1 k, LeO (laws_heldFileS.f k a0 a1) (laws_heldFileS.f (k + 1) a0 a1) := by
 intro a0 a1 k
 have ih0 := laws_heldFileS.mono_l k
 have m0 := @laws_heldByteS.mono; have m1 := @laws_markText.mono
 unfold laws_heldFileS.f
 exact moZ
def laws_heldFileS.T4 : Bool × List (List Nat × List Nat) := (true, [([], []), ([], []), ([0, 1], [0, 1]), ([2], [2]), ([3], [3]), ([], []), ([5], [5]), ([4, 6], [4, 6])])
def laws_heldFileS.B4 : List Nat := [0, 0, 3, 7, 15, 0, 32, 127]
theorem laws_heldFileS.tab4 : rtab .any (opsOf Tryd.f44 4) = laws_heldFileS.T4 := by kernel_rfl
theorem laws_heldFileS.bits4 : waitsOk laws_heldFileS.T4.2 laws_heldFileS.B4 = true := by kernel_rfl
set_option maxHeartbeats 8000000 in
set_option maxRecDepth 100000 in
theorem laws_heldFileS.calls (k : Nat) (A0 : Option Addr) (c0 : Nat) (l0 : List (S53)) (a1 : Int) (r : Int) (w : World) (hr0 : Kd.C k53 w A0 l0.length l0) (hc0 : l0.length ≤ c0) (h : laws_heldFileS.f k l0 a1 = some r) :
 Calls Tryd.prog 44 #[.slice A0 l0.length c0, .int .i64 a1] w fun e w' => e = .returned (.int .i64 r) ∧ Below w.heap.size w w' := by
 have HR0 := aM hr0
 have HC0 := aM hc0
 clear hr0 hc0
 have HB := aM (Below.refl w.heap.size w)
 have H : (laws_heldFileS.l0 k l0 a1 0) = some r := h
 clear h
 have H' := aM H
 clear H
 go_enter Tryd.func44, Tryd.ntmps44
 go_wp2
 go_loopg [1, 5] k (fun kq v1 v5 w' => ∃ (x1_1 : Int) (x5_1 : Int), v1 = .int .i64 x1_1 ∧ v5 = .int .i64 x5_1 ∧ Aside0 (laws_heldFileS.l0 kq l0 x1_1 x5_1 = some r) ∧ Aside0 (kq ≤ k) ∧ Aside0 (Below w.heap.size w w'))
 case atStart => exact ⟨(a1), (0), z4458, z4458, H', ⟨Nat.le_refl _⟩, ⟨z5acd⟩⟩
 case round =>
  clear H'
  obtain ⟨x1_1, x5_1, rfl, rfl, HA, HK1, HB⟩ := hrel
  cases gk with
  | zero => exact absurd HA.out (by simp [laws_heldFileS.l0])
  | succ k1 =>
   have H := HA.out
   clear HA
   simp only [laws_heldFileS.l0] at H
   by_cases c3 : x5_1 < (l0.length : Int)
   · rw [if_pos c3] at H
     have c3b0 := dL c3
     clear c3
     obtain ⟨c4b0, H⟩ := sE H
     obtain ⟨t102, A5, H⟩ := bS H; try dsimp only at H
     replace H := ifS H; obtain ⟨c6, H⟩ := H
     have c6b0 := eqE c6
     clear c6
     obtain ⟨t104, A7, H⟩ := bS H; try dsimp only at H
     replace H := ifN H; obtain ⟨c8, H⟩ := H
     have c8b0 := nL c8
     clear c8
     replace H := ifS H; obtain ⟨c9, H⟩ := H
     have c9b0 := eqE c9
     clear c9
     have H' := aM H
     clear H
     try go_wp2
     have _ := aM (below_drew1 HB.out)
     clear HB
     rename_i HB
     have p101 : 0 ≤ (x5_1 : Int) := of_decide_eq_true z1200
     have q101 : x5_1 < (l0.length : Int) := of_decide_eq_true z1200
     obtain ⟨ad101, A101_1, c101_1, e101, hx101_0, hx101_1, hx101_2, hl101_1, hi101_1⟩ := at_T53 HR0.out x5_1 p101 q101
     have hw101_2 := hx101_2
     have hw101_1 := hx101_1
     have hw101_0 := hx101_0
     cases e101
     have TW101_1 := aM hx101_1
     replace hx101_0 := (HB.out.cell (World.block_lt_of_cell? w _ hx101_0)).trans hx101_0
     replace hx101_1 := (HB.out.cell (World.block_lt_of_cell? w _ hx101_1)).trans hx101_1
     replace hx101_2 := (HB.out.cell (World.block_lt_of_cell? w _ hx101_2)).trans hx101_2
     have HR101_1 := aM hi101_1
     have HC101_1 := aM hl101_1
     clear hi101_1 hl101_1
     replace p101 := eq_true p101
     replace q101 := eq_true q101
     refine sA 8 laws_heldFileS.tab4 laws_heldFileS.bits4 (fun w' => w'.cell? (ad101.add ((x5_1).toNat * 3)) = some (.string ((rd_T53 l0 x5_1).f0)) ∧ w'.cell? ⟨(ad101.add ((x5_1).toNat * 3)).block, (ad101.add ((x5_1).toNat * 3)).off + 1, none⟩ = some (.slice A101_1 ((rd_T53 l0 x5_1).f1).length c101_1) ∧ w'.cell? ⟨(ad101.add ((x5_1).toNat * 3)).block, (ad101.add ((x5_1).toNat * 3)).off + 2, none⟩ = some (.int .i64 ((rd_T53 l0 x5_1).f2))) [] (fun hHeld HT_ HW_ => ?_)
     generalize wr.drew = w10 at HB HR101_1 hx101_0 hx101_1 hx101_2 hHeld ⊢
     refine pA 0 12 HT_ ?_; refine pA 1 13 HT_ ?_; refine pA 2 14 HT_ ?_; refine pA 3 15 HT_ ?_; refine pA 5 17 HT_ ?_; refine tA 4 16 HT_ HW_ hHeld ?_; refine oA 6 18 HT_ (fun K hK => ?_)
     refine goes_ Tryd.func73 (by kernel_rfl) rfl #[.int .i64 x1_1] (by rfl) rfl rfl zee81 ?_
     with_reducible refine (laws_markText.calls k1 x1_1 t102 _ A5.out).mono ?_
     rintro e w11 ⟨rfl, hb⟩
     refine ⟨_, rfl, ?_⟩
     have _ := aM (below_step hbZ hb)
     clear HB
     rename_i HB
     (try clear hb)
     refine hK.out _ _ sZ (fun hHeld => ?_)
     clear hK K
     refine nA 18 ?_; refine pA 7 19 HT_ ?_
     refine done_ (done_of HT_.out (by kernel_rfl)) ?_
     have p103 : 0 ≤ (x5_1 : Int) := of_decide_eq_true z1200
     have q103 : x5_1 < (l0.length : Int) := of_decide_eq_true z1200
     obtain ⟨ad103, A103_1, c103_1, e103, hx103_0, hx103_1, hx103_2, hl103_1, hi103_1⟩ := at_T53 HR0.out x5_1 p103 q103
     obtain rfl : ad101 = ad103 := (by injection e103)
     (try (have ez_ := hx103_1.symm.trans TW101_1.out; simp only [Option.some.injEq, Value.slice.injEq, true_and] at ez_; obtain ⟨ez1_, ez2_⟩ := ez_; subst ez1_ ez2_))
     have TW103_1 := aM hx103_1
     replace hx103_0 := (HB.out.cell (World.block_lt_of_cell? w _ hx103_0)).trans hx103_0
     replace hx103_1 := (HB.out.cell (World.block_lt_of_cell? w _ hx103_1)).trans hx103_1
     replace hx103_2 := (HB.out.cell (World.block_lt_of_cell? w _ hx103_2)).trans hx103_2
     have HR103_1 := aM hi103_1
     have HC103_1 := aM hl103_1
     clear hi103_1 hl103_1
     replace p103 := eq_true p103
     replace q103 := eq_true q103
     try go_wp2_with (first | ((with_reducible refine gate_callee (f := 74) rfl ?_); refine gL 28 Tryd.func74 #[.slice A103_1 ((rd_T53 l0 x5_1).f1).length c103_1, .int .i64 (wrap64 (x1_1 + 1))] ?_; (with_reducible refine (laws_heldByteS.calls k1 _ _ ((rd_T53 l0 x5_1).f1) (wrap64 (x1_1 + 1)) t104 _ ?side1 ?side2 A7.out).mono ?_); (case side1 => exact (cZ (Kd.C_below HR103_1.out HB.out))); (case side2 => exact HC103_1.out); rintro e w' ⟨rfl, ⟨nd, rfl⟩⟩; refine ⟨_, rfl, ?_⟩; have p105 : 0 ≤ (x5_1 : Int) := of_decide_eq_true z1200; have q105 : x5_1 < (l0.length : Int) := of_decide_eq_true z1200; obtain ⟨ad105, A105_1, c105_1, e105, hx105_0, hx105_1, hx105_2, hl105_1, hi105_1⟩ := at_T53 HR0.out x5_1 p105 q105; obtain rfl : ad101 = ad105 := (by injection e105); replace hx105_0 := (HB.out.cell (World.block_lt_of_cell? w _ hx105_0)).trans hx105_0; replace hx105_1 := (HB.out.cell (World.block_lt_of_cell? w _ hx105_1)).trans hx105_1; replace hx105_2 := (HB.out.cell (World.block_lt_of_cell? w _ hx105_2)).trans hx105_2; have HR105_1 := aM hi105_1; have HC105_1 := aM hl105_1; clear hi105_1 hl105_1; replace p105 := eq_true p105; replace q105 := eq_true q105; have ea_ := Option.some.inj (hx103_1.symm.trans hx105_1); injection ea_ with ea_ en_ ec_; subst ea_; subst ec_; clear en_))
     go_roundg k1
     case measure => have := HK1.out; omega
     case rel => exact ⟨(wrap64 (t104 + 1)), (wrap64 (x5_1 + 1)), z4458, z4458, H', ⟨zfb39⟩, ⟨z5acd⟩⟩
   · rw [if_neg c3] at H
     have c3b0 := nL c3
     clear c3
     obtain rfl := Option.some.inj H
     go_wp2
     go_ret
     exact ⟨z674d, z5acd⟩

end Go.Proofs.YtmlclmbplbbbhaaDoor.P

-- written by a program of this session's (wip/pp)
namespace Go.Proofs.YtmlclmbplbbbhaaDoor.P
open Go.RowKit Go.Proofs.YtmlclmbplbbbhaaDoorW.PrintWords Go.Proofs.YtmlclmbplbbbhaaDoorW.PrintLast Go.Proofs.YtmlclmbplbbbhaaDoorW.PrintMore
attribute [local go_sem] max2_int min2_int max_two min_two max_three min_three max_four min_four str_geq str_gtr str_leq   -- for this text's walks alone
set_option linter.unusedVariables false
set_option linter.unusedSimpArgs false

/-! ### laws_heldFiles: function 18 -/
def laws_heldFiles.f (k : Nat) (a0_0 : Int) (l0_1 : List (S53)) (a1 : Int) : Option (Int) := (laws_heldFileS.f k l0_1 a1).bind fun t102 => (if t102 < 0 then (none) else (some t102))
theorem laws_heldFiles.mono : ∀ a0 a1 a2 k, LeO (laws_heldFiles.f k a0 a1 a2) (laws_heldFiles.f (k + 1) a0 a1 a2) := by
 intro a0 a1 a2 k
 have m0 := @laws_heldFileS.mono
 unfold laws_heldFiles.f
 exact moZ
set_option maxHeartbeats 8000000 in
set_option maxRecDepth 100000 in
theorem laws_heldFiles.calls (k : Nat) (a0_0 : Int) (A0_1 : Option Addr) (c0_1 : Nat) (l0_1 : List (S53)) (a1 : Int) (r : Int) (w : World) (hr0_1 : Kd.C k53 w A0_1 l0_1.length l0_1) (hc0_1 : l0_1.length ≤ c0_1) (h : laws_heldFiles.f k a0_0 l0_1 a1 = some r) :
 Calls Tryd.prog 18 #[.agg #[.int .i64 a0_0, .slice A0_1 l0_1.length c0_1], .int .i64 a1] w fun e w' => e = .returned (.int .i64 r) ∧ Below w.heap.size w w' := by
 have hu29 := Tryd.underlying29
 have HR0_1 := aM hr0_1
 have HC0_1 := aM hc0_1
 clear hr0_1 hc0_1
 have HB := aM (Below.refl w.heap.size w)
 have H : ((laws_heldFileS.f k l0_1 a1).bind fun t102 => (if t102 < 0 then (none) else (some t102))) = some r := h
 clear h
 obtain ⟨t102, A3, H⟩ := bS H; try dsimp only at H
 replace H := ifN H; obtain ⟨c4, H⟩ := H
 have c4b0 := nL c4
 clear c4
 obtain rfl := Option.some.inj H
 go_enter Tryd.func18, Tryd.ntmps18
 go_wp2_with (first | ((with_reducible refine gate_dst (N := 2) rfl ?_); refine bX 2 29 #[.int .i64 a0_0, .slice A0_1 l0_1.length c0_1] ?_; intro gb101 hg w5 hbox hb; have _ := aM (below_step hbZ hb); have _ := aM hbox; have _ := szZ hg; have _ := szZ hg; clear HB; rename_i HB BK101 GW101 GE101; clear hb hbox hg; have hz6 := cellsZ2 BK101.out) | ((with_reducible refine gate_callee (f := 44) rfl ?_); refine gL 8 Tryd.func44 #[.slice A0_1 l0_1.length c0_1, .int .i64 a1] ?_; (with_reducible refine (laws_heldFileS.calls k _ _ l0_1 a1 t102 _ ?side1 ?side2 A3.out).mono ?_); (case side1 => exact (cZ (Kd.C_below HR0_1.out HB.out))); (case side2 => exact HC0_1.out); rintro e w7 ⟨rfl, hb⟩; refine ⟨_, rfl, ?_⟩; have _ := bB gb101 hb; have _ := aM (below_step hbZ hb); clear BK101 HB; rename_i BK101 HB; (try clear hb)))
 go_ret
 exact ⟨z674d, zcb41⟩

end Go.Proofs.YtmlclmbplbbbhaaDoor.P

-- written by a program of this session's (wip/pp)
namespace Go.Proofs.YtmlclmbplbbbhaaDoor.P
open Go.RowKit Go.Proofs.YtmlclmbplbbbhaaDoorW.PrintWords Go.Proofs.YtmlclmbplbbbhaaDoorW.PrintLast Go.Proofs.YtmlclmbplbbbhaaDoorW.PrintMore
attribute [local go_sem] max2_int min2_int max_two min_two max_three min_three max_four min_four str_geq str_gtr str_leq   -- for this text's walks alone
set_option linter.unusedVariables false
set_option linter.unusedSimpArgs false

/-! ### laws_szByteS: function 89 -/
def laws_szByteS.f (l0 : List Int) (a1 : Int) : Option (Int) := if (wrap64 (a1 - (l0.length : Int))) < 0 then (some (-1)) else (some (wrap64 (a1 - (l0.length : Int))))
set_option maxHeartbeats 8000000 in
set_option maxRecDepth 100000 in
theorem laws_szByteS.calls (A0 : Option Addr) (c0 : Nat) (l0 : List Int) (a1 : Int) (r : Int) (w : World) (hr0 : Kd.C (Kd.int .u8) w A0 l0.length l0) (hc0 : l0.length ≤ c0) (h : laws_szByteS.f l0 a1 = some r) :
 Calls Tryd.prog 89 #[.slice A0 l0.length c0, .int .i64 a1] w fun e w' => e = .returned (.int .i64 r) ∧ Drawn0 w w' := by
 have HR0 := aM hr0
 have HC0 := aM hc0
 clear hr0 hc0
 have H : (if (wrap64 (a1 - (l0.length : Int))) < 0 then (some (-1)) else (some (wrap64 (a1 - (l0.length : Int))))) = some r := h
 clear h
 by_cases c3 : (wrap64 (a1 - (l0.length : Int))) < 0
 · rw [if_pos c3] at H
   have c3b0 := dL c3
   clear c3
   obtain rfl := Option.some.inj H
   go_enter Tryd.func89, Tryd.ntmps89
   go_wp2
   go_ret
   exact ⟨z4458, za9de⟩
 · rw [if_neg c3] at H
   have c3b0 := nL c3
   clear c3
   obtain rfl := Option.some.inj H
   go_enter Tryd.func89, Tryd.ntmps89
   go_wp2
   go_ret
   exact ⟨z4458, za9de⟩

end Go.Proofs.YtmlclmbplbbbhaaDoor.P

-- written by a program of this session's (wip/pp)
namespace Go.Proofs.YtmlclmbplbbbhaaDoor.P
open Go.RowKit Go.Proofs.YtmlclmbplbbbhaaDoorW.PrintWords Go.Proofs.YtmlclmbplbbbhaaDoorW.PrintLast Go.Proofs.YtmlclmbplbbbhaaDoorW.PrintMore
attribute [local go_sem] max2_int min2_int max_two min_two max_three min_three max_four min_four str_geq str_gtr str_leq   -- for this text's walks alone
set_option linter.unusedVariables false
set_option linter.unusedSimpArgs false

/-! ### laws_szFile: function 64 -/
def laws_szFile.f (a0_0 : ByteArray) (l0_1 : List Int) (a0_2 : Int) (a1 : Int) : Option (Int) := if (wrap64 (a1 - (a0_0.size : Int))) < 0 then (some (-1)) else ((laws_szByteS.f l0_1 (wrap64 (a1 - (a0_0.size : Int)))).bind fun t102 => (if t102 < 0 then (some (-1)) else (some t102)))
set_option maxHeartbeats 8000000 in
set_option maxRecDepth 100000 in
theorem laws_szFile.calls (a0_0 : ByteArray) (A0_1 : Option Addr) (c0_1 : Nat) (l0_1 : List Int) (a0_2 : Int) (a1 : Int) (r : Int) (w : World) (hr0_1 : Kd.C (Kd.int .u8) w A0_1 l0_1.length l0_1) (hc0_1 : l0_1.length ≤ c0_1) (h : laws_szFile.f a0_0 l0_1 a0_2 a1 = some r) :
 Calls Tryd.prog 64 #[.agg #[.string a0_0, .slice A0_1 l0_1.length c0_1, .int .i64 a0_2], .int .i64 a1] w fun e w' => e = .returned (.int .i64 r) ∧ Below w.heap.size w w' := by
 have hu84 := Tryd.underlying84
 have HR0_1 := aM hr0_1
 have HC0_1 := aM hc0_1
 clear hr0_1 hc0_1
 have HB := aM (Below.refl w.heap.size w)
 have H : (if (wrap64 (a1 - (a0_0.size : Int))) < 0 then (some (-1)) else ((laws_szByteS.f l0_1 (wrap64 (a1 - (a0_0.size : Int)))).bind fun t102 => (if t102 < 0 then (some (-1)) else (some t102)))) = some r := h
 clear h
 by_cases c3 : (wrap64 (a1 - (a0_0.size : Int))) < 0
 · rw [if_pos c3] at H
   have c3b0 := dL c3
   clear c3
   obtain rfl := Option.some.inj H
   go_enter Tryd.func64, Tryd.ntmps64
   go_wp2_with (first | ((with_reducible refine gate_dst (N := 2) rfl ?_); refine bX 2 84 #[.string a0_0, .slice A0_1 l0_1.length c0_1, .int .i64 a0_2] ?_; intro gb101 hg w4 hbox hb; have _ := aM (below_step hbZ hb); have _ := aM hbox; have _ := szZ hg; have _ := szZ hg; clear HB; rename_i HB BK101 GW101 GE101; clear hb hbox hg; have hz5 := cellsZ3 BK101.out))
   go_ret
   exact ⟨z674d, zcb41⟩
 · rw [if_neg c3] at H
   have c3b0 := nL c3
   clear c3
   obtain ⟨t102, A6, H⟩ := bS H; try dsimp only at H
   by_cases c7 : t102 < 0
   · rw [if_pos c7] at H
     have c7b0 := dL c7
     clear c7
     obtain rfl := Option.some.inj H
     go_enter Tryd.func64, Tryd.ntmps64
     go_wp2_with (first | ((with_reducible refine gate_dst (N := 2) rfl ?_); refine bX 2 84 #[.string a0_0, .slice A0_1 l0_1.length c0_1, .int .i64 a0_2] ?_; intro gb101 hg w8 hbox hb; have _ := aM (below_step hbZ hb); have _ := aM hbox; have _ := szZ hg; have _ := szZ hg; clear HB; rename_i HB BK101 GW101 GE101; clear hb hbox hg; have hz9 := cellsZ3 BK101.out) | ((with_reducible refine gate_callee (f := 89) rfl ?_); refine gL 15 Tryd.func89 #[.slice A0_1 l0_1.length c0_1, .int .i64 (wrap64 (a1 - (a0_0.size : Int)))] ?_; (with_reducible refine (laws_szByteS.calls _ _ l0_1 (wrap64 (a1 - (a0_0.size : Int))) t102 _ ?side1 ?side2 A6.out).mono ?_); (case side1 => exact (cZ (Kd.C_below HR0_1.out HB.out))); (case side2 => exact HC0_1.out); rintro e w' ⟨rfl, ⟨nd, rfl⟩⟩; refine ⟨_, rfl, ?_⟩))
     go_ret
     exact ⟨z674d, zcb41⟩
   · rw [if_neg c7] at H
     have c7b0 := nL c7
     clear c7
     obtain rfl := Option.some.inj H
     go_enter Tryd.func64, Tryd.ntmps64
     go_wp2_with (first | ((with_reducible refine gate_dst (N := 2) rfl ?_); refine bX 2 84 #[.string a0_0, .slice A0_1 l0_1.length c0_1, .int .i64 a0_2] ?_; intro gb101 hg w10 hbox hb; have _ := aM (below_step hbZ hb); have _ := aM hbox; have _ := szZ hg; have _ := szZ hg; clear HB; rename_i HB BK101 GW101 GE101; clear hb hbox hg; have hz11 := cellsZ3 BK101.out) | ((with_reducible refine gate_callee (f := 89) rfl ?_); refine gL 15 Tryd.func89 #[.slice A0_1 l0_1.length c0_1, .int .i64 (wrap64 (a1 - (a0_0.size : Int)))] ?_; (with_reducible refine (laws_szByteS.calls _ _ l0_1 (wrap64 (a1 - (a0_0.size : Int))) t102 _ ?side1 ?side2 A6.out).mono ?_); (case side1 => exact (cZ (Kd.C_below HR0_1.out HB.out))); (case side2 => exact HC0_1.out); rintro e w' ⟨rfl, ⟨nd, rfl⟩⟩; refine ⟨_, rfl, ?_⟩))
     go_ret
     exact ⟨z674d, zcb41⟩

end Go.Proofs.YtmlclmbplbbbhaaDoor.P

-- written by a program of this session's (wip/pp)
namespace Go.Proofs.YtmlclmbplbbbhaaDoor.P
open Go.RowKit Go.Proofs.YtmlclmbplbbbhaaDoorW.PrintWords Go.Proofs.YtmlclmbplbbbhaaDoorW.PrintLast Go.Proofs.YtmlclmbplbbbhaaDoorW.PrintMore
attribute [local go_sem] max2_int min2_int max_two min_two max_three min_three max_four min_four str_geq str_gtr str_leq   -- for this text's walks alone
set_option linter.unusedVariables false
set_option linter.unusedSimpArgs false

/-! ### laws_szFileS: function 33 -/
def laws_szFileS.l0 : Nat → List (S84) → Int → Int → Option (Int)
 | 0, _, _, _ => none
 | k + 1, x0, x1, x5 => if x5 < (x0.length : Int) then (if 0 ≤ x5 then ((laws_szFile.f ((rd_T84 x0 x5).f0) ((rd_T84 x0 x5).f1) ((rd_T84 x0 x5).f2) x1).bind fun t102 => (if t102 < 0 then (some (-1)) else (laws_szFileS.l0 k x0 t102 (wrap64 (x5 + 1))))) else (none)) else (some x1)
def laws_szFileS.f (k : Nat) (l0 : List (S84)) (a1 : Int) : Option (Int) := if (wrap64 (a1 - (l0.length : Int))) < 0 then (some (-1)) else (laws_szFileS.l0 k l0 (wrap64 (a1 - (l0.length : Int))) 0)
theorem laws_szFileS.mono_l : ∀ k, (∀ y0 y1 y2, LeO (laws_szFileS.l0 k y0 y1 y2) (laws_szFileS.l0 (k + 1) y0 y1 y2))
 | 0 => fun _ _ _ r h => by simp [laws_szFileS.l0] at h
 | k + 1 => by
  have ih0 := laws_szFileS.mono_l k
  · intro y0 y1 y2
    unfold laws_szFileS.l0
    exact moZ
theorem laws_szFileS.mono : ∀ a0 a1 k, LeO (laws_szFileS.f k a0 a1) (laws_szFileS.f (k + 1) a0 a1) := by
 intro a0 a1 k
 have ih0 := laws_szFileS.mono_l k
 unfold laws_szFileS.f
 exact moZ
set_option maxHeartbeats 8000000 in
set_option maxRecDepth 100000 in
theorem laws_szFileS.calls (k : Nat) (A0 : Option Addr) (c0 : Nat) (l0 : List (S84)) (a1 : Int) (r : Int) (w : World) (hr0 : Kd.C k84 w A0 l0.length l0) (hc0 : l0.length ≤ c0) (h : laws_szFileS.f k l0 a1 = some r) :
 Calls Tryd.prog 33 #[.slice A0 l0.length c0, .int .i64 a1] w fun e w' => e = .returned (.int .i64 r) ∧ Below w.heap.size w w' := by
 have hu84 := Tryd.underlying84
 have HR0 := aM hr0
 have HC0 := aM hc0
 clear hr0 hc0
 have HB := aM (Below.refl w.heap.size w)
 have H : (if (wrap64 (a1 - (l0.length : Int))) < 0 then (some (-1)) else (laws_szFileS.l0 k l0 (wrap64 (a1 - (l0.length : Int))) 0)) = some r := h
 clear h
 by_cases c3 : (wrap64 (a1 - (l0.length : Int))) < 0
 · rw [if_pos c3] at H
   have c3b0 := dL c3
   clear c3
   obtain rfl := Option.some.inj H
   go_enter Tryd.func33, Tryd.ntmps33
   go_wp2
   go_ret
   exact ⟨z674d, z5acd⟩
 · rw [if_neg c3] at H
   have c3b0 := nL c3
   clear c3
   have H' := aM H
   clear H
   go_enter Tryd.func33, Tryd.ntmps33
   go_wp2
   go_loopg [1, 5] k (fun kq v1 v5 w' => ∃ (x1_1 : Int) (x5_1 : Int), v1 = .int .i64 x1_1 ∧ v5 = .int .i64 x5_1 ∧ Aside0 (laws_szFileS.l0 kq l0 x1_1 x5_1 = some r) ∧ Aside0 (kq ≤ k) ∧ Aside0 (Below w.heap.size w w'))
   case atStart => exact ⟨(wrap64 (a1 - (l0.length : Int))), (0), z4458, z4458, H', ⟨Nat.le_refl _⟩, ⟨z5acd⟩⟩
   case round =>
    clear H'
    (try clear c3b0)
    obtain ⟨x1_1, x5_1, rfl, rfl, HA, HK1, HB⟩ := hrel
    cases gk with
    | zero => exact absurd HA.out (by simp [laws_szFileS.l0])
    | succ k1 =>
     have H := HA.out
     clear HA
     simp only [laws_szFileS.l0] at H
     by_cases c4 : x5_1 < (l0.length : Int)
     · rw [if_pos c4] at H
       have c4b0 := dL c4
       clear c4
       obtain ⟨c5b0, H⟩ := sE H
       obtain ⟨t102, A6, H⟩ := bS H; try dsimp only at H
       by_cases c7 : t102 < 0
       · rw [if_pos c7] at H
         have c7b0 := dL c7
         clear c7
         obtain rfl := Option.some.inj H
         have p101 : 0 ≤ (x5_1 : Int) := of_decide_eq_true z1200
         have q101 : x5_1 < (l0.length : Int) := of_decide_eq_true z1200
         obtain ⟨ad101, A101_1, c101_1, e101, hx101_0, hx101_1, hx101_2, hl101_1, hi101_1⟩ := at_T84 HR0.out x5_1 p101 q101
         cases e101
         have TW101_1 := aM hx101_1
         replace hx101_0 := (HB.out.cell (World.block_lt_of_cell? w _ hx101_0)).trans hx101_0
         replace hx101_1 := (HB.out.cell (World.block_lt_of_cell? w _ hx101_1)).trans hx101_1
         replace hx101_2 := (HB.out.cell (World.block_lt_of_cell? w _ hx101_2)).trans hx101_2
         have HR101_1 := aM hi101_1
         have HC101_1 := aM hl101_1
         clear hi101_1 hl101_1
         replace p101 := eq_true p101
         replace q101 := eq_true q101
         go_wp2_with (first | ((with_reducible refine gate_callee (f := 64) rfl ?_); refine gL 23 Tryd.func64 #[.agg #[.string ((rd_T84 l0 x5_1).f0), .slice A101_1 ((rd_T84 l0 x5_1).f1).length c101_1, .int .i64 ((rd_T84 l0 x5_1).f2)], .int .i64 x1_1] ?_; (with_reducible refine (laws_szFile.calls ((rd_T84 l0 x5_1).f0) _ _ ((rd_T84 l0 x5_1).f1) ((rd_T84 l0 x5_1).f2) x1_1 t102 _ ?side1 ?side2 A6.out).mono ?_); (case side1 => exact (cZ (Kd.C_below HR101_1.out HB.out))); (case side2 => exact HC101_1.out); rintro e w8 ⟨rfl, hb⟩; refine ⟨_, rfl, ?_⟩; have _ := aM (below_step hbZ hb); clear HB; rename_i HB; (try clear hb)))
         go_ret
         exact ⟨z674d, z5acd⟩
       · rw [if_neg c7] at H
         have c7b0 := nL c7
         clear c7
         have H' := aM H
         clear H
         have p101 : 0 ≤ (x5_1 : Int) := of_decide_eq_true z1200
         have q101 : x5_1 < (l0.length : Int) := of_decide_eq_true z1200
         obtain ⟨ad101, A101_1, c101_1, e101, hx101_0, hx101_1, hx101_2, hl101_1, hi101_1⟩ := at_T84 HR0.out x5_1 p101 q101
         cases e101
         have TW101_1 := aM hx101_1
         replace hx101_0 := (HB.out.cell (World.block_lt_of_cell? w _ hx101_0)).trans hx101_0
         replace hx101_1 := (HB.out.cell (World.block_lt_of_cell? w _ hx101_1)).trans hx101_1
         replace hx101_2 := (HB.out.cell (World.block_lt_of_cell? w _ hx101_2)).trans hx101_2
         have HR101_1 := aM hi101_1
         have HC101_1 := aM hl101_1
         clear hi101_1 hl101_1
         replace p101 := eq_true p101
         replace q101 := eq_true q101
         go_wp2_with (first | ((with_reducible refine gate_callee (f := 64) rfl ?_); refine gL 23 Tryd.func64 #[.agg #[.string ((rd_T84 l0 x5_1).f0), .slice A101_1 ((rd_T84 l0 x5_1).f1).length c101_1, .int .i64 ((rd_T84 l0 x5_1).f2)], .int .i64 x1_1] ?_; (with_reducible refine (laws_szFile.calls ((rd_T84 l0 x5_1).f0) _ _ ((rd_T84 l0 x5_1).f1) ((rd_T84 l0 x5_1).f2) x1_1 t102 _ ?side1 ?side2 A6.out).mono ?_); (case side1 => exact (cZ (Kd.C_below HR101_1.out HB.out))); (case side2 => exact HC101_1.out); rintro e w9 ⟨rfl, hb⟩; refine ⟨_, rfl, ?_⟩; have _ := aM (below_step hbZ hb); clear HB; rename_i HB; (try clear hb)))
         go_roundg k1
         case measure => have := HK1.out; omega
         case rel => exact ⟨(t102), (wrap64 (x5_1 + 1)), z4458, z4458, H', ⟨zfb39⟩, ⟨z5acd⟩⟩
     · rw [if_neg c4] at H
       have c4b0 := nL c4
       clear c4
       obtain rfl := Option.some.inj H
       go_wp2
       go_ret
       exact ⟨z674d, z5acd⟩

end Go.Proofs.YtmlclmbplbbbhaaDoor.P

-- written by a program of this session's (wip/pp)
namespace Go.Proofs.YtmlclmbplbbbhaaDoor.P
open Go.RowKit Go.Proofs.YtmlclmbplbbbhaaDoorW.PrintWords Go.Proofs.YtmlclmbplbbbhaaDoorW.PrintLast Go.Proofs.YtmlclmbplbbbhaaDoorW.PrintMore
attribute [local go_sem] max2_int min2_int max_two min_two max_three min_three max_four min_four str_geq str_gtr str_leq   -- for this text's walks alone
set_option linter.unusedVariables false
set_option linter.unusedSimpArgs false

/-! ### laws_szFiles: function 9 -/
def laws_szFiles.f (k : Nat) (a0_0 : Int) (l0_1 : List (S84)) (a1 : Int) : Option (Int) := (laws_szFileS.f k l0_1 a1).bind fun t102 => (if t102 < 0 then (some (-1)) else (some t102))
theorem laws_szFiles.mono : ∀ a0 a1 a2 k, LeO (laws_szFiles.f k a0 a1 a2) (laws_szFiles.f (k + 1) a0 a1 a2) := by
 intro a0 a1 a2 k
 have m0 := @laws_szFileS.mono
 unfold laws_szFiles.f
 exact moZ
set_option maxHeartbeats 8000000 in
set_option maxRecDepth 100000 in
theorem laws_szFiles.calls (k : Nat) (a0_0 : Int) (A0_1 : Option Addr) (c0_1 : Nat) (l0_1 : List (S84)) (a1 : Int) (r : Int) (w : World) (hr0_1 : Kd.C k84 w A0_1 l0_1.length l0_1) (hc0_1 : l0_1.length ≤ c0_1) (h : laws_szFiles.f k a0_0 l0_1 a1 = some r) :
 Calls Tryd.prog 9 #[.agg #[.int .i64 a0_0, .slice A0_1 l0_1.length c0_1], .int .i64 a1] w fun e w' => e = .returned (.int .i64 r) ∧ Below w.heap.size w w' := by
 have hu24 := Tryd.underlying24
 have HR0_1 := aM hr0_1
 have HC0_1 := aM hc0_1
 clear hr0_1 hc0_1
 have HB := aM (Below.refl w.heap.size w)
 have H : ((laws_szFileS.f k l0_1 a1).bind fun t102 => (if t102 < 0 then (some (-1)) else (some t102))) = some r := h
 clear h
 obtain ⟨t102, A3, H⟩ := bS H; try dsimp only at H
 by_cases c4 : t102 < 0
 · rw [if_pos c4] at H
   have c4b0 := dL c4
   clear c4
   obtain rfl := Option.some.inj H
   go_enter Tryd.func9, Tryd.ntmps9
   go_wp2_with (first | ((with_reducible refine gate_dst (N := 2) rfl ?_); refine bX 2 24 #[.int .i64 a0_0, .slice A0_1 l0_1.length c0_1] ?_; intro gb101 hg w5 hbox hb; have _ := aM (below_step hbZ hb); have _ := aM hbox; have _ := szZ hg; have _ := szZ hg; clear HB; rename_i HB BK101 GW101 GE101; clear hb hbox hg; have hz6 := cellsZ2 BK101.out) | ((with_reducible refine gate_callee (f := 33) rfl ?_); refine gL 8 Tryd.func33 #[.slice A0_1 l0_1.length c0_1, .int .i64 a1] ?_; (with_reducible refine (laws_szFileS.calls k _ _ l0_1 a1 t102 _ ?side1 ?side2 A3.out).mono ?_); (case side1 => exact (cZ (Kd.C_below HR0_1.out HB.out))); (case side2 => exact HC0_1.out); rintro e w7 ⟨rfl, hb⟩; refine ⟨_, rfl, ?_⟩; have _ := bB gb101 hb; have _ := aM (below_step hbZ hb); clear BK101 HB; rename_i BK101 HB; (try clear hb)))
   go_ret
   exact ⟨z674d, zcb41⟩
 · rw [if_neg c4] at H
   have c4b0 := nL c4
   clear c4
   obtain rfl := Option.some.inj H
   go_enter Tryd.func9, Tryd.ntmps9
   go_wp2_with (first | ((with_reducible refine gate_dst (N := 2) rfl ?_); refine bX 2 24 #[.int .i64 a0_0, .slice A0_1 l0_1.length c0_1] ?_; intro gb101 hg w8 hbox hb; have _ := aM (below_step hbZ hb); have _ := aM hbox; have _ := szZ hg; have _ := szZ hg; clear HB; rename_i HB BK101 GW101 GE101; clear hb hbox hg; have hz9 := cellsZ2 BK101.out) | ((with_reducible refine gate_callee (f := 33) rfl ?_); refine gL 8 Tryd.func33 #[.slice A0_1 l0_1.length c0_1, .int .i64 a1] ?_; (with_reducible refine (laws_szFileS.calls k _ _ l0_1 a1 t102 _ ?side1 ?side2 A3.out).mono ?_); (case side1 => exact (cZ (Kd.C_below HR0_1.out HB.out))); (case side2 => exact HC0_1.out); rintro e w10 ⟨rfl, hb⟩; refine ⟨_, rfl, ?_⟩; have _ := bB gb101 hb; have _ := aM (below_step hbZ hb); clear BK101 HB; rename_i BK101 HB; (try clear hb)))
   go_ret
   exact ⟨z674d, zcb41⟩

end Go.Proofs.YtmlclmbplbbbhaaDoor.P

/- laws.FnExactAppendFile: its walk, over what its callees answer. No conditions of its own. -/
namespace Go.Proofs.YtmlclmbplbbbhaaDoor.P
open Go.RowKit Go.Proofs.YtmlclmbplbbbhaaDoorW.PrintWords Go.Proofs.YtmlclmbplbbbhaaDoorW.PrintLast Go.Proofs.YtmlclmbplbbbhaaDoorW.PrintMore
set_option linter.unusedVariables false
set_option linter.unusedSimpArgs false
/-- What the callees answer. -/
def laws_FnExactAppendFile.Ok (k : Nat) (a0_0 : Int) (l0_1 : List S84) (a1 : ByteArray) (l2 : List Int) : Prop := ((a1.size : Int) > 1048576 ∨ ((a1.size : Int) ≤ 1048576 ∧ ((l2.length : Int) > 1048576 ∨ ((l2.length : Int) ≤ 1048576 ∧ ∃ q1 : Int, laws_szFiles.f k a0_0 l0_1 1048576 = some q1 ∧ (q1 < 0 ∨ (0 ≤ q1 ∧ ∃ (q2 : Int) (q3 : List (S53)) (q4 : List Int) (q5 : Int) (q6 : List (S53)) (q7 : Int) (q8 : Int) (q9 : List S53) (q10 : Int) (q11 : List Int) (q12 : Int) (q13 : List S53), laws_toFiles.f k a0_0 l0_1 = some (q2, q3) ∧ laws_toByteS.f k l2 = some q4 ∧ spec_AppendFile.f k q2 q3 a1 q4 = some (q5, q6, q7) ∧ impl_AppendFile.f k q2 q3 a1 q4 = some (q5, q6, q7) ∧ laws_eqFiles.f k q5 q6 q5 q6 = some true ∧ laws_eqFiles.f k q2 q3 q2 q3 = some true ∧ laws_eqByteS.f k q4 q4 = some true ∧ laws_markFileS.f k q3 1 = some (q8, q9) ∧ laws_markByteS.f k q4 q8 = some (q10, q11) ∧ laws_markFileS.f k q6 1 = some (q12, q13) ∧ laws_heldFiles.f k q5 q13 1 = some q12 ∧ 0 ≤ q8 ∧ 0 ≤ q10 ∧ 0 ≤ q12))))))
set_option maxHeartbeats 8000000 in
set_option maxRecDepth 100000 in
theorem laws_FnExactAppendFile.calls (k : Nat) (a0_0 : Int) (A0_1 : Option Addr) (c0_1 : Nat) (l0_1 : List S84) (a1 : ByteArray) (A2 : Option Addr) (c2 : Nat) (l2 : List Int) (w : World) (hr0_1 : Kd.C k84 w A0_1 l0_1.length l0_1) (hc0_1 : l0_1.length ≤ c0_1) (hr2 : Kd.C (Kd.int .u8) w A2 l2.length l2) (hc2 : l2.length ≤ c2) (h : laws_FnExactAppendFile.Ok k a0_0 l0_1 a1 l2) :
 Calls Tryd.prog 3 #[.agg #[.int .i64 a0_0, .slice A0_1 l0_1.length c0_1], .string a1, .slice A2 l2.length c2] w fun e w' => e = .returned (.bool true) ∧ Below w.heap.size w w' := by
 unfold laws_FnExactAppendFile.Ok at h
 have HB := aM (Below.refl w.heap.size w)
 have HR0_1 := aM hr0_1
 have HC0_1 := aM hc0_1
 clear hr0_1 hc0_1
 have HR2 := aM hr2
 have HC2 := aM hc2
 clear hr2 hc2
 rcases h with h | ⟨h0, h⟩
 · have c0_ : decide ((a1.size : Int) > 1048576) = true := decide_eq_true h
   clear h
   go_enter Tryd.func3, Tryd.ntmps3
   go_wp2_with (first | ((with_reducible refine gate_dst (N := 3) rfl ?_); refine box_event ?hg (N := 3) ?hd (cs := #[.int .i64 a0_0, .slice A0_1 l0_1.length c0_1]) (t := 24) ?hr ?_; (case hd => rfl); (case hg => rfl); (case hr => first | (go_simp; done) | (go_simp; rfl)); intro b1_ hg wv1 hbox hb; have LO1 := aM (Loc.box hbox); have el_ := hg; have ORLO1 := aM (show w.heap.size ≤ b1_ from (by first | (rw [el_]; exact HB.out.size))); have OQLO1 := aM (show b1_ ≤ (b1_ + 1) from Nat.le_succ _); have HWLO1 := aM (show w.heap.size ≤ b1_ from (by rw [hg]; exact HB.out.size)); replace HB := aM (below_after HB.out hb); clear hg hbox hb el_))
   go_ret
   exact ⟨rfl, HB.out⟩
 have c0_ : decide ((a1.size : Int) > 1048576) = false := decide_eq_false (by omega)
 clear h0
 rcases h with h | ⟨h1, h⟩
 · have c1_ : decide ((l2.length : Int) > 1048576) = true := decide_eq_true h
   clear h
   go_enter Tryd.func3, Tryd.ntmps3
   go_wp2_with (first | ((with_reducible refine gate_dst (N := 3) rfl ?_); refine box_event ?hg (N := 3) ?hd (cs := #[.int .i64 a0_0, .slice A0_1 l0_1.length c0_1]) (t := 24) ?hr ?_; (case hd => rfl); (case hg => rfl); (case hr => first | (go_simp; done) | (go_simp; rfl)); intro b1_ hg wv1 hbox hb; have LO1 := aM (Loc.box hbox); have el_ := hg; have ORLO1 := aM (show w.heap.size ≤ b1_ from (by first | (rw [el_]; exact HB.out.size))); have OQLO1 := aM (show b1_ ≤ (b1_ + 1) from Nat.le_succ _); have HWLO1 := aM (show w.heap.size ≤ b1_ from (by rw [hg]; exact HB.out.size)); replace HB := aM (below_after HB.out hb); clear hg hbox hb el_))
   go_ret
   exact ⟨rfl, HB.out⟩
 have c1_ : decide ((l2.length : Int) > 1048576) = false := decide_eq_false (by omega)
 clear h1
 obtain ⟨q1, e2_, h⟩ := h
 have HE1 := aM e2_
 clear e2_
 rcases h with h | ⟨h2, h⟩
 · have c2_ : decide (q1 < 0) = true := decide_eq_true h
   clear h
   go_enter Tryd.func3, Tryd.ntmps3
   go_wp2_with (first | ((with_reducible refine gate_dst (N := 3) rfl ?_); refine box_event ?hg (N := 3) ?hd (cs := #[.int .i64 a0_0, .slice A0_1 l0_1.length c0_1]) (t := 24) ?hr ?_; (case hd => rfl); (case hg => rfl); (case hr => first | (go_simp; done) | (go_simp; rfl)); intro b1_ hg wv1 hbox hb; have LO1 := aM (Loc.box hbox); have el_ := hg; have ORLO1 := aM (show w.heap.size ≤ b1_ from (by first | (rw [el_]; exact HB.out.size))); have OQLO1 := aM (show b1_ ≤ (b1_ + 1) from Nat.le_succ _); have HWLO1 := aM (show w.heap.size ≤ b1_ from (by rw [hg]; exact HB.out.size)); replace HB := aM (below_after HB.out hb); clear hg hbox hb el_; obtain ⟨hcLO1_0, hcLO1_1, hfLO1_0, hfLO1_1⟩ := cellsZ2 LO1.out.now) | ((with_reducible refine gate_callee (f := 9) rfl ?_); refine goesL_ (some 27) rfl rfl Tryd.func9 (by kernel_rfl) rfl #[.agg #[.int .i64 a0_0, .slice A0_1 l0_1.length c0_1], .int .i64 1048576] rfl zee81 ?_; (with_reducible refine (laws_szFiles.calls k a0_0 _ _ l0_1 1048576 q1 _ ?s1 ?s2 HE1.out).mono ?_); (case s1 => exact Kd.C_below HR0_1.out HB.out); (case s2 => exact HC0_1.out); rintro e wv2 ⟨he_, hb⟩; subst he_; refine ⟨_, rfl, ?_⟩; (try clear hcLO1_0 hcLO1_1 hfLO1_0 hfLO1_1); replace LO1 := aM (LO1.out.below hb); replace HB := aM (below_after HB.out hb); clear hb))
   go_ret
   exact ⟨rfl, HB.out⟩
 have c2_ : decide (q1 < 0) = false := decide_eq_false (by omega)
 clear h2
 obtain ⟨q2, q3, q4, q5, q6, q7, q8, q9, q10, q11, q12, q13, e0_, e1_, e2_, e3_, e4_, e5_, e6_, e7_, e8_, e9_, e10_, f0_, f1_, f2_⟩ := h
 have HE2 := aM e0_
 have HE3 := aM e1_
 have HE4 := aM e2_
 have HE5 := aM e3_
 have HE6 := aM e4_
 have HE7 := aM e5_
 have HE8 := aM e6_
 have HE9 := aM e7_
 have HE10 := aM e8_
 have HE11 := aM e9_
 have HE12 := aM e10_
 clear e0_ e1_ e2_ e3_ e4_ e5_ e6_ e7_ e8_ e9_ e10_
 have g0_ : decide (q8 < 0) = false := decide_eq_false (by omega)
 clear f0_
 have g1_ : decide (q10 < 0) = false := decide_eq_false (by omega)
 clear f1_
 have g2_ : decide (q12 < 0) = false := decide_eq_false (by omega)
 clear f2_
 go_enter Tryd.func3, Tryd.ntmps3
 go_wp2_with (first | ((with_reducible refine gate_dst (N := 3) rfl ?_); refine box_event ?hg (N := 3) ?hd (cs := #[.int .i64 a0_0, .slice A0_1 l0_1.length c0_1]) (t := 24) ?hr ?_; (case hd => rfl); (case hg => rfl); (case hr => first | (go_simp; done) | (go_simp; rfl)); intro b1_ hg wv1 hbox hb; have LO1 := aM (Loc.box hbox); have el_ := hg; have ORLO1 := aM (show w.heap.size ≤ b1_ from (by first | (rw [el_]; exact HB.out.size))); have OQLO1 := aM (show b1_ ≤ (b1_ + 1) from Nat.le_succ _); have HWLO1 := aM (show w.heap.size ≤ b1_ from (by rw [hg]; exact HB.out.size)); replace HB := aM (below_after HB.out hb); clear hg hbox hb el_; obtain ⟨hcLO1_0, hcLO1_1, hfLO1_0, hfLO1_1⟩ := cellsZ2 LO1.out.now) | ((with_reducible refine gate_callee (f := 9) rfl ?_); refine goesL_ (some 27) rfl rfl Tryd.func9 (by kernel_rfl) rfl #[.agg #[.int .i64 a0_0, .slice A0_1 l0_1.length c0_1], .int .i64 1048576] rfl zee81 ?_; (with_reducible refine (laws_szFiles.calls k a0_0 _ _ l0_1 1048576 q1 _ ?s1 ?s2 HE1.out).mono ?_); (case s1 => exact Kd.C_below HR0_1.out HB.out); (case s2 => exact HC0_1.out); rintro e wv2 ⟨he_, hb⟩; subst he_; refine ⟨_, rfl, ?_⟩; (try clear hcLO1_0 hcLO1_1 hfLO1_0 hfLO1_1); replace LO1 := aM (LO1.out.below hb); replace HB := aM (below_after HB.out hb); clear hb; obtain ⟨hcLO1_0, hcLO1_1, hfLO1_0, hfLO1_1⟩ := cellsZ2 LO1.out.now) | ((with_reducible refine gate_callee (f := 11) rfl ?_); refine goesL_ (some 32) rfl rfl Tryd.func11 (by kernel_rfl) rfl #[.agg #[.int .i64 a0_0, .slice A0_1 l0_1.length c0_1]] rfl zee81 ?_; (with_reducible refine (laws_toFiles.calls k a0_0 _ _ l0_1 q2 q3 _ ?s1 ?s2 HE2.out).mono ?_); (case s1 => exact Kd.C_below HR0_1.out HB.out); (case s2 => exact HC0_1.out); rintro e wv3 ⟨v1_, he_, ho_v1_, hb⟩; subst he_; refine ⟨_, rfl, ?_⟩; (try clear hcLO1_0 hcLO1_1 hfLO1_0 hfLO1_1); obtain ⟨lo2_, hi2_, el_, hL_, eh_⟩ := Loc.newS (Kd.S_mono ho_v1_ (fun _ _ => trivial)) HB.out; have LO2 := aM hL_; have ORLO2 := aM (show (b1_ + 1) ≤ lo2_ from (by rw [el_]; exact LO1.out.size)); have OQLO2 := aM (show lo2_ ≤ hi2_ from (by rw [el_, eh_]; exact hb.size)); obtain ⟨ALO2, cLO2, ev_⟩ := Kd.S_slice ho_v1_; subst ev_; clear el_ hL_ eh_ ho_v1_; replace LO1 := aM (LO1.out.below hb); replace HB := aM (below_after HB.out hb); clear hb) | ((with_reducible refine gate_callee (f := 12) rfl ?_); refine goesL_ (some 35) rfl rfl Tryd.func12 (by kernel_rfl) rfl #[.slice A2 l2.length c2] rfl zee81 ?_; (with_reducible refine (laws_toByteS.calls k _ _ l2 q4 _ ?s1 ?s2 HE3.out).mono ?_); (case s1 => exact Kd.C_below HR2.out HB.out); (case s2 => exact HC2.out); rintro e wv4 ⟨v0_, he_, ho_v0_, hb⟩; subst he_; refine ⟨_, rfl, ?_⟩; obtain ⟨lo3_, hi3_, el_, hL_, eh_⟩ := Loc.newR (Kd.R_mono ho_v0_ (fun _ _ => trivial)) HB.out; have LO3 := aM hL_; have ORLO3 := aM (show hi2_ ≤ lo3_ from (by rw [el_]; exact LO2.out.size)); have OQLO3 := aM (show lo3_ ≤ hi3_ from (by rw [el_, eh_]; exact hb.size)); obtain ⟨ALO3, cLO3, ev_⟩ := Kd.R_slice ho_v0_; subst ev_; clear el_ hL_ eh_ ho_v0_; replace LO1 := aM (LO1.out.below hb); replace LO2 := aM (LO2.out.below hb); replace HB := aM (below_after HB.out hb); clear hb) | ((with_reducible refine gate_callee (f := 10) rfl ?_); refine goesL_ (some 36) rfl rfl Tryd.func10 (by kernel_rfl) rfl #[.agg #[.int .i64 q2, .slice ALO2 q3.length cLO2], .string a1, .slice ALO3 q4.length cLO3] rfl zee81 ?_; (with_reducible refine (spec_AppendFile.calls k q2 _ _ q3 a1 _ _ q4 q5 q6 q7 _ ?s1 ?s2 ?s3 ?s4 HE4.out).mono ?_); (case s1 => exact LO2.out.readsS.2.2); (case s2 => exact LO2.out.readsS.2.1); (case s3 => exact LO3.out.readsR.2.2); (case s4 => exact LO3.out.readsR.2.1); rintro e wv5 ⟨v1_, he_, ho_v1_, hb⟩; subst he_; refine ⟨_, rfl, ?_⟩; obtain ⟨lo4_, hi4_, el_, hL_, eh_⟩ := Loc.newS (Kd.S_mono ho_v1_ (fun _ _ => trivial)) HB.out; have LO4 := aM hL_; have ORLO4 := aM (show hi3_ ≤ lo4_ from (by rw [el_]; exact LO3.out.size)); have OQLO4 := aM (show lo4_ ≤ hi4_ from (by rw [el_, eh_]; exact hb.size)); obtain ⟨ALO4, cLO4, ev_⟩ := Kd.S_slice ho_v1_; subst ev_; clear el_ hL_ eh_ ho_v1_; replace LO1 := aM (LO1.out.below hb); replace LO2 := aM (LO2.out.below hb); replace LO3 := aM (LO3.out.below hb); replace HB := aM (below_after HB.out hb); clear hb) | ((with_reducible refine gate_dst (N := 8) rfl ?_); refine box_event ?hg (N := 8) ?hd (cs := #[.int .i64 0, .slice none 0 0]) (t := 29) ?hr ?_; (case hd => rfl); (case hg => rfl); (case hr => first | (go_simp; done) | (go_simp; rfl)); intro b2_ hg wv6 hbox hb; have LO5 := aM (Loc.box hbox); have el_ := hg; have ORLO5 := aM (show hi4_ ≤ b2_ from (by rw [el_]; exact LO4.out.size)); have OQLO5 := aM (show b2_ ≤ (b2_ + 1) from Nat.le_succ _); have HWLO5 := aM (show w.heap.size ≤ b2_ from (by rw [hg]; exact HB.out.size)); replace LO1 := aM (LO1.out.below hb); replace LO2 := aM (LO2.out.below hb); replace LO3 := aM (LO3.out.below hb); replace LO4 := aM (LO4.out.below hb); replace HB := aM (below_after HB.out hb); clear hg hbox hb el_; obtain ⟨hcLO5_0, hcLO5_1, hfLO5_0, hfLO5_1⟩ := cellsZ2 LO5.out.now) | ((with_reducible refine gate_store (t := 29) (p := 8) rfl ?_); refine store_event (t := 29) (p := 8) (v := ?vo_wv7) (w1 := ((wv6.setCell ⟨b2_, 0, none⟩ (.int .i64 q5)).setCell ⟨b2_, 1, none⟩ (.slice ALO4 q6.length cLO4))) ?hg ?ho ?hn ?hr ?_; (case ho => rfl); (case hg => rfl); (case hn => rfl); (case hr => first | (go_simp; done) | (go_simp; rfl)); intro wv7 hw; (try clear hcLO5_0 hcLO5_1 hfLO5_0 hfLO5_1); have ho_ : Only wv6 wv7 b2_ := (by rw [hw]; repeat (first | (with_reducible apply Only.set) | exact Only.refl _ _)); have := ORLO1.out; have := OQLO1.out; have := ORLO2.out; have := OQLO2.out; have := ORLO3.out; have := OQLO3.out; have := ORLO4.out; have := OQLO4.out; have := ORLO5.out; have := OQLO5.out; replace LO1 := aM (LO1.out.only ho_ (by omega)); replace LO2 := aM (LO2.out.only ho_ (by omega)); replace LO3 := aM (LO3.out.only ho_ (by omega)); replace LO4 := aM (LO4.out.only ho_ (by omega)); have hbx_ : wv7.heap[b2_]? = some (.cells #[.int .i64 q5, .slice ALO4 q6.length cLO4] 29 (0, 0)) := (by have BK_ := LO5.out.now; rw [hw]; first | (with_reducible exact blk_put9 BK_) | (with_reducible exact blk_put6 BK_) | (with_reducible exact blk_put4 BK_) | (apply blk_eqZ; (repeat (first | (with_reducible apply blk_put0) | exact BK_)); first | (simp only [List.setIfInBounds_toArray, List.set_cons_zero, List.set_cons_succ] <;> rfl) | rfl)); replace LO5 := aM (Loc.box hbx_); replace HB := aM (below_only HB.out HWLO5.out ho_); clear ho_ hbx_ hw; obtain ⟨hcLO1_0, hcLO1_1, hfLO1_0, hfLO1_1⟩ := cellsZ2 LO1.out.now) | ((with_reducible refine gate_callee (f := 11) rfl ?_); refine goesL_ (some 40) rfl rfl Tryd.func11 (by kernel_rfl) rfl #[.agg #[.int .i64 a0_0, .slice A0_1 l0_1.length c0_1]] rfl zee81 ?_; (with_reducible refine (laws_toFiles.calls k a0_0 _ _ l0_1 q2 q3 _ ?s1 ?s2 HE2.out).mono ?_); (case s1 => exact Kd.C_below HR0_1.out HB.out); (case s2 => exact HC0_1.out); rintro e wv8 ⟨v1_, he_, ho_v1_, hb⟩; subst he_; refine ⟨_, rfl, ?_⟩; (try clear hcLO1_0 hcLO1_1 hfLO1_0 hfLO1_1); obtain ⟨lo6_, hi6_, el_, hL_, eh_⟩ := Loc.newS (Kd.S_mono ho_v1_ (fun _ _ => trivial)) HB.out; have LO6 := aM hL_; have ORLO6 := aM (show (b2_ + 1) ≤ lo6_ from (by rw [el_]; exact LO5.out.size)); have OQLO6 := aM (show lo6_ ≤ hi6_ from (by rw [el_, eh_]; exact hb.size)); obtain ⟨ALO6, cLO6, ev_⟩ := Kd.S_slice ho_v1_; subst ev_; clear el_ hL_ eh_ ho_v1_; replace LO1 := aM (LO1.out.below hb); replace LO2 := aM (LO2.out.below hb); replace LO3 := aM (LO3.out.below hb); replace LO4 := aM (LO4.out.below hb); replace LO5 := aM (LO5.out.below hb); replace HB := aM (below_after HB.out hb); clear hb) | ((with_reducible refine gate_dst (N := 10) rfl ?_); refine box_event ?hg (N := 10) ?hd (cs := #[.int .i64 0, .slice none 0 0]) (t := 29) ?hr ?_; (case hd => rfl); (case hg => rfl); (case hr => first | (go_simp; done) | (go_simp; rfl)); intro b3_ hg wv9 hbox hb; have LO7 := aM (Loc.box hbox); have el_ := hg; have ORLO7 := aM (show hi6_ ≤ b3_ from (by rw [el_]; exact LO6.out.size)); have OQLO7 := aM (show b3_ ≤ (b3_ + 1) from Nat.le_succ _); have HWLO7 := aM (show w.heap.size ≤ b3_ from (by rw [hg]; exact HB.out.size)); replace LO1 := aM (LO1.out.below hb); replace LO2 := aM (LO2.out.below hb); replace LO3 := aM (LO3.out.below hb); replace LO4 := aM (LO4.out.below hb); replace LO5 := aM (LO5.out.below hb); replace LO6 := aM (LO6.out.below hb); replace HB := aM (below_after HB.out hb); clear hg hbox hb el_; obtain ⟨hcLO7_0, hcLO7_1, hfLO7_0, hfLO7_1⟩ := cellsZ2 LO7.out.now) | ((with_reducible refine gate_store (t := 29) (p := 10) rfl ?_); refine store_event (t := 29) (p := 10) (v := ?vo_wv10) (w1 := ((wv9.setCell ⟨b3_, 0, none⟩ (.int .i64 q2)).setCell ⟨b3_, 1, none⟩ (.slice ALO6 q3.length cLO6))) ?hg ?ho ?hn ?hr ?_; (case ho => rfl); (case hg => rfl); (case hn => rfl); (case hr => first | (go_simp; done) | (go_simp; rfl)); intro wv10 hw; (try clear hcLO7_0 hcLO7_1 hfLO7_0 hfLO7_1); have ho_ : Only wv9 wv10 b3_ := (by rw [hw]; repeat (first | (with_reducible apply Only.set) | exact Only.refl _ _)); have := ORLO1.out; have := OQLO1.out; have := ORLO2.out; have := OQLO2.out; have := ORLO3.out; have := OQLO3.out; have := ORLO4.out; have := OQLO4.out; have := ORLO5.out; have := OQLO5.out; have := ORLO6.out; have := OQLO6.out; have := ORLO7.out; have := OQLO7.out; replace LO1 := aM (LO1.out.only ho_ (by omega)); replace LO2 := aM (LO2.out.only ho_ (by omega)); replace LO3 := aM (LO3.out.only ho_ (by omega)); replace LO4 := aM (LO4.out.only ho_ (by omega)); replace LO5 := aM (LO5.out.only ho_ (by omega)); replace LO6 := aM (LO6.out.only ho_ (by omega)); have hbx_ : wv10.heap[b3_]? = some (.cells #[.int .i64 q2, .slice ALO6 q3.length cLO6] 29 (0, 0)) := (by have BK_ := LO7.out.now; rw [hw]; first | (with_reducible exact blk_put9 BK_) | (with_reducible exact blk_put6 BK_) | (with_reducible exact blk_put4 BK_) | (apply blk_eqZ; (repeat (first | (with_reducible apply blk_put0) | exact BK_)); first | (simp only [List.setIfInBounds_toArray, List.set_cons_zero, List.set_cons_succ] <;> rfl) | rfl)); replace LO7 := aM (Loc.box hbx_); replace HB := aM (below_only HB.out HWLO7.out ho_); clear ho_ hbx_ hw) | ((with_reducible refine gate_callee (f := 12) rfl ?_); refine goesL_ (some 42) rfl rfl Tryd.func12 (by kernel_rfl) rfl #[.slice A2 l2.length c2] rfl zee81 ?_; (with_reducible refine (laws_toByteS.calls k _ _ l2 q4 _ ?s1 ?s2 HE3.out).mono ?_); (case s1 => exact Kd.C_below HR2.out HB.out); (case s2 => exact HC2.out); rintro e wv11 ⟨v0_, he_, ho_v0_, hb⟩; subst he_; refine ⟨_, rfl, ?_⟩; obtain ⟨lo8_, hi8_, el_, hL_, eh_⟩ := Loc.newR (Kd.R_mono ho_v0_ (fun _ _ => trivial)) HB.out; have LO8 := aM hL_; have ORLO8 := aM (show (b3_ + 1) ≤ lo8_ from (by rw [el_]; exact LO7.out.size)); have OQLO8 := aM (show lo8_ ≤ hi8_ from (by rw [el_, eh_]; exact hb.size)); obtain ⟨ALO8, cLO8, ev_⟩ := Kd.R_slice ho_v0_; subst ev_; clear el_ hL_ eh_ ho_v0_; replace LO1 := aM (LO1.out.below hb); replace LO2 := aM (LO2.out.below hb); replace LO3 := aM (LO3.out.below hb); replace LO4 := aM (LO4.out.below hb); replace LO5 := aM (LO5.out.below hb); replace LO6 := aM (LO6.out.below hb); replace LO7 := aM (LO7.out.below hb); replace HB := aM (below_after HB.out hb); clear hb; obtain ⟨hcLO7_0, hcLO7_1, hfLO7_0, hfLO7_1⟩ := cellsZ2 LO7.out.now) | ((with_reducible refine gate_callee (f := 13) rfl ?_); refine goesL_ (some 47) rfl rfl Tryd.func13 (by kernel_rfl) rfl #[.agg #[.int .i64 q2, .slice ALO6 q3.length cLO6], .string a1, .slice ALO8 q4.length cLO8] rfl zee81 ?_; (with_reducible refine (impl_AppendFile.calls k q2 _ _ q3 a1 _ _ q4 q5 q6 q7 _ ?s1 ?s2 ?s3 ?s4 HE5.out).mono ?_); (case s1 => exact LO6.out.readsS.2.2); (case s2 => exact LO6.out.readsS.2.1); (case s3 => exact LO8.out.readsR.2.2); (case s4 => exact LO8.out.readsR.2.1); rintro e wv12 ⟨v1_, he_, ho_v1_, hb⟩; subst he_; refine ⟨_, rfl, ?_⟩; (try clear hcLO7_0 hcLO7_1 hfLO7_0 hfLO7_1); obtain ⟨lo9_, hi9_, el_, hL_, eh_⟩ := Loc.newS (Kd.S_mono ho_v1_ (fun _ _ => trivial)) HB.out; have LO9 := aM hL_; have ORLO9 := aM (show hi8_ ≤ lo9_ from (by rw [el_]; exact LO8.out.size)); have OQLO9 := aM (show lo9_ ≤ hi9_ from (by rw [el_, eh_]; exact hb.size)); obtain ⟨ALO9, cLO9, ev_⟩ := Kd.S_slice ho_v1_; subst ev_; clear el_ hL_ eh_ ho_v1_; replace LO1 := aM (LO1.out.below hb); replace LO2 := aM (LO2.out.below hb); replace LO3 := aM (LO3.out.below hb); replace LO4 := aM (LO4.out.below hb); replace LO5 := aM (LO5.out.below hb); replace LO6 := aM (LO6.out.below hb); replace LO7 := aM (LO7.out.below hb); replace LO8 := aM (LO8.out.below hb); replace HB := aM (below_after HB.out hb); clear hb) | ((with_reducible refine gate_dst (N := 12) rfl ?_); refine box_event ?hg (N := 12) ?hd (cs := #[.int .i64 0, .slice none 0 0]) (t := 29) ?hr ?_; (case hd => rfl); (case hg => rfl); (case hr => first | (go_simp; done) | (go_simp; rfl)); intro b4_ hg wv13 hbox hb; have LO10 := aM (Loc.box hbox); have el_ := hg; have ORLO10 := aM (show hi9_ ≤ b4_ from (by rw [el_]; exact LO9.out.size)); have OQLO10 := aM (show b4_ ≤ (b4_ + 1) from Nat.le_succ _); have HWLO10 := aM (show w.heap.size ≤ b4_ from (by rw [hg]; exact HB.out.size)); replace LO1 := aM (LO1.out.below hb); replace LO2 := aM (LO2.out.below hb); replace LO3 := aM (LO3.out.below hb); replace LO4 := aM (LO4.out.below hb); replace LO5 := aM (LO5.out.below hb); replace LO6 := aM (LO6.out.below hb); replace LO7 := aM (LO7.out.below hb); replace LO8 := aM (LO8.out.below hb); replace LO9 := aM (LO9.out.below hb); replace HB := aM (below_after HB.out hb); clear hg hbox hb el_; obtain ⟨hcLO10_0, hcLO10_1, hfLO10_0, hfLO10_1⟩ := cellsZ2 LO10.out.now) | ((with_reducible refine gate_store (t := 29) (p := 12) rfl ?_); refine store_event (t := 29) (p := 12) (v := ?vo_wv14) (w1 := ((wv13.setCell ⟨b4_, 0, none⟩ (.int .i64 q5)).setCell ⟨b4_, 1, none⟩ (.slice ALO9 q6.length cLO9))) ?hg ?ho ?hn ?hr ?_; (case ho => rfl); (case hg => rfl); (case hn => rfl); (case hr => first | (go_simp; done) | (go_simp; rfl)); intro wv14 hw; (try clear hcLO10_0 hcLO10_1 hfLO10_0 hfLO10_1); have ho_ : Only wv13 wv14 b4_ := (by rw [hw]; repeat (first | (with_reducible apply Only.set) | exact Only.refl _ _)); have := ORLO1.out; have := OQLO1.out; have := ORLO2.out; have := OQLO2.out; have := ORLO3.out; have := OQLO3.out; have := ORLO4.out; have := OQLO4.out; have := ORLO5.out; have := OQLO5.out; have := ORLO6.out; have := OQLO6.out; have := ORLO7.out; have := OQLO7.out; have := ORLO8.out; have := OQLO8.out; have := ORLO9.out; have := OQLO9.out; have := ORLO10.out; have := OQLO10.out; replace LO1 := aM (LO1.out.only ho_ (by omega)); replace LO2 := aM (LO2.out.only ho_ (by omega)); replace LO3 := aM (LO3.out.only ho_ (by omega)); replace LO4 := aM (LO4.out.only ho_ (by omega)); replace LO5 := aM (LO5.out.only ho_ (by omega)); replace LO6 := aM (LO6.out.only ho_ (by omega)); replace LO7 := aM (LO7.out.only ho_ (by omega)); replace LO8 := aM (LO8.out.only ho_ (by omega)); replace LO9 := aM (LO9.out.only ho_ (by omega)); have hbx_ : wv14.heap[b4_]? = some (.cells #[.int .i64 q5, .slice ALO9 q6.length cLO9] 29 (0, 0)) := (by have BK_ := LO10.out.now; rw [hw]; first | (with_reducible exact blk_put9 BK_) | (with_reducible exact blk_put6 BK_) | (with_reducible exact blk_put4 BK_) | (apply blk_eqZ; (repeat (first | (with_reducible apply blk_put0) | exact BK_)); first | (simp only [List.setIfInBounds_toArray, List.set_cons_zero, List.set_cons_succ] <;> rfl) | rfl)); replace LO10 := aM (Loc.box hbx_); replace HB := aM (below_only HB.out HWLO10.out ho_); clear ho_ hbx_ hw; obtain ⟨hcLO10_0, hcLO10_1, hfLO10_0, hfLO10_1⟩ := cellsZ2 LO10.out.now; obtain ⟨hcLO5_0, hcLO5_1, hfLO5_0, hfLO5_1⟩ := cellsZ2 LO5.out.now) | ((with_reducible refine gate_callee (f := 14) rfl ?_); refine goesL_ (some 52) rfl rfl Tryd.func14 (by kernel_rfl) rfl #[.agg #[.int .i64 q5, .slice ALO9 q6.length cLO9], .agg #[.int .i64 q5, .slice ALO4 q6.length cLO4]] rfl zee81 ?_; (with_reducible refine (laws_eqFiles.calls k q5 _ _ q6 q5 _ _ q6 true _ ?s1 ?s2 ?s3 ?s4 HE6.out).mono ?_); (case s1 => exact LO9.out.readsS.2.2); (case s2 => exact LO9.out.readsS.2.1); (case s3 => exact LO4.out.readsS.2.2); (case s4 => exact LO4.out.readsS.2.1); rintro e wv15 ⟨he_, hb⟩; subst he_; refine ⟨_, rfl, ?_⟩; (try clear hcLO10_0 hcLO10_1 hfLO10_0 hfLO10_1 hcLO5_0 hcLO5_1 hfLO5_0 hfLO5_1); replace LO1 := aM (LO1.out.below hb); replace LO2 := aM (LO2.out.below hb); replace LO3 := aM (LO3.out.below hb); replace LO4 := aM (LO4.out.below hb); replace LO5 := aM (LO5.out.below hb); replace LO6 := aM (LO6.out.below hb); replace LO7 := aM (LO7.out.below hb); replace LO8 := aM (LO8.out.below hb); replace LO9 := aM (LO9.out.below hb); replace LO10 := aM (LO10.out.below hb); replace HB := aM (below_after HB.out hb); clear hb))
 obtain ⟨hcLO7_0, hcLO7_1, hfLO7_0, hfLO7_1⟩ := cellsZ2 LO7.out.now
 obtain ⟨hcLO1_0, hcLO1_1, hfLO1_0, hfLO1_1⟩ := cellsZ2 LO1.out.now
 go_region_held3 (fun W_ => W_.cell? ⟨b3_, 0, none⟩ = some (.int .i64 q2) ∧ W_.cell? ⟨b3_, 1, none⟩ = some (.slice ALO6 q3.length cLO6) ∧ W_.cell? ⟨b1_, 0, none⟩ = some (.int .i64 a0_0) ∧ W_.cell? ⟨b1_, 1, none⟩ = some (.slice A0_1 l0_1.length c0_1)) (exact ⟨hcLO7_0, hcLO7_1, hcLO1_0, hcLO1_1⟩) (first | (go_at_call 11; have hb := (below_drew (Below.refl _ _) : Below wv15.heap.size wv15 wv15.drew); replace LO1 := aM (LO1.out.below hb); replace LO2 := aM (LO2.out.below hb); replace LO3 := aM (LO3.out.below hb); replace LO4 := aM (LO4.out.below hb); replace LO5 := aM (LO5.out.below hb); replace LO6 := aM (LO6.out.below hb); replace LO7 := aM (LO7.out.below hb); replace LO8 := aM (LO8.out.below hb); replace LO9 := aM (LO9.out.below hb); replace LO10 := aM (LO10.out.below hb); replace HB := aM (below_after HB.out hb); clear hb; (with_reducible refine (laws_toFiles.calls k a0_0 _ _ l0_1 q2 q3 _ ?s1 ?s2 HE2.out).mono ?_); (case s1 => exact Kd.C_below HR0_1.out HB.out); (case s2 => exact HC0_1.out); rintro e wv16 ⟨v1_, he_, ho_v1_, hb⟩; subst he_; clear hcLO7_0 hcLO7_1 hfLO7_0 hfLO7_1 hcLO1_0 hcLO1_1 hfLO1_0 hfLO1_1; obtain ⟨lo11_, hi11_, el_, hL_, eh_⟩ := Loc.newS (Kd.S_mono ho_v1_ (fun _ _ => trivial)) HB.out; have LO11 := aM hL_; have ORLO11 := aM (show (b4_ + 1) ≤ lo11_ from (by rw [el_]; exact LO10.out.size)); have OQLO11 := aM (show lo11_ ≤ hi11_ from (by rw [el_, eh_]; exact hb.size)); obtain ⟨ALO11, cLO11, ev_⟩ := Kd.S_slice ho_v1_; subst ev_; clear el_ hL_ eh_ ho_v1_; replace LO1 := aM (LO1.out.below hb); replace LO2 := aM (LO2.out.below hb); replace LO3 := aM (LO3.out.below hb); replace LO4 := aM (LO4.out.below hb); replace LO5 := aM (LO5.out.below hb); replace LO6 := aM (LO6.out.below hb); replace LO7 := aM (LO7.out.below hb); replace LO8 := aM (LO8.out.below hb); replace LO9 := aM (LO9.out.below hb); replace LO10 := aM (LO10.out.below hb); replace HB := aM (below_after HB.out hb); clear hb; obtain ⟨hcLO7_0, hcLO7_1, hfLO7_0, hfLO7_1⟩ := cellsZ2 LO7.out.now; obtain ⟨hcLO1_0, hcLO1_1, hfLO1_0, hfLO1_1⟩ := cellsZ2 LO1.out.now) | (go_at_call 14; (with_reducible refine (laws_eqFiles.calls k q2 _ _ q3 q2 _ _ q3 true _ ?s1 ?s2 ?s3 ?s4 HE7.out).mono ?_); (case s1 => exact LO6.out.readsS.2.2); (case s2 => exact LO6.out.readsS.2.1); (case s3 => exact LO11.out.readsS.2.2); (case s4 => exact LO11.out.readsS.2.1); rintro e wv17 ⟨he_, hb⟩; subst he_; clear hcLO7_0 hcLO7_1 hfLO7_0 hfLO7_1 hcLO1_0 hcLO1_1 hfLO1_0 hfLO1_1; replace LO1 := aM (LO1.out.below hb); replace LO2 := aM (LO2.out.below hb); replace LO3 := aM (LO3.out.below hb); replace LO4 := aM (LO4.out.below hb); replace LO5 := aM (LO5.out.below hb); replace LO6 := aM (LO6.out.below hb); replace LO7 := aM (LO7.out.below hb); replace LO8 := aM (LO8.out.below hb); replace LO9 := aM (LO9.out.below hb); replace LO10 := aM (LO10.out.below hb); replace LO11 := aM (LO11.out.below hb); replace HB := aM (below_after HB.out hb); clear hb; obtain ⟨hcLO7_0, hcLO7_1, hfLO7_0, hfLO7_1⟩ := cellsZ2 LO7.out.now; obtain ⟨hcLO1_0, hcLO1_1, hfLO1_0, hfLO1_1⟩ := cellsZ2 LO1.out.now))
 go_wp2_with (first | ((with_reducible refine gate_callee (f := 12) rfl ?_); refine goesL_ (some 66) rfl rfl Tryd.func12 (by kernel_rfl) rfl #[.slice A2 l2.length c2] rfl zee81 ?_; (with_reducible refine (laws_toByteS.calls k _ _ l2 q4 _ ?s1 ?s2 HE3.out).mono ?_); (case s1 => exact Kd.C_below HR2.out HB.out); (case s2 => exact HC2.out); rintro e wv18 ⟨v0_, he_, ho_v0_, hb⟩; subst he_; refine ⟨_, rfl, ?_⟩; (try clear hcLO7_0 hcLO7_1 hfLO7_0 hfLO7_1 hcLO1_0 hcLO1_1 hfLO1_0 hfLO1_1); obtain ⟨lo12_, hi12_, el_, hL_, eh_⟩ := Loc.newR (Kd.R_mono ho_v0_ (fun _ _ => trivial)) HB.out; have LO12 := aM hL_; have ORLO12 := aM (show hi11_ ≤ lo12_ from (by rw [el_]; exact LO11.out.size)); have OQLO12 := aM (show lo12_ ≤ hi12_ from (by rw [el_, eh_]; exact hb.size)); obtain ⟨ALO12, cLO12, ev_⟩ := Kd.R_slice ho_v0_; subst ev_; clear el_ hL_ eh_ ho_v0_; replace LO1 := aM (LO1.out.below hb); replace LO2 := aM (LO2.out.below hb); replace LO3 := aM (LO3.out.below hb); replace LO4 := aM (LO4.out.below hb); replace LO5 := aM (LO5.out.below hb); replace LO6 := aM (LO6.out.below hb); replace LO7 := aM (LO7.out.below hb); replace LO8 := aM (LO8.out.below hb); replace LO9 := aM (LO9.out.below hb); replace LO10 := aM (LO10.out.below hb); replace LO11 := aM (LO11.out.below hb); replace HB := aM (below_after HB.out hb); clear hb) | ((with_reducible refine gate_callee (f := 15) rfl ?_); refine goesL_ (some 67) rfl rfl Tryd.func15 (by kernel_rfl) rfl #[.slice ALO8 q4.length cLO8, .slice ALO12 q4.length cLO12] rfl zee81 ?_; (with_reducible refine (laws_eqByteS.calls k _ _ q4 _ _ q4 true _ ?s1 ?s2 ?s3 ?s4 HE8.out).mono ?_); (case s1 => exact LO8.out.readsR.2.2); (case s2 => exact LO8.out.readsR.2.1); (case s3 => exact LO12.out.readsR.2.2); (case s4 => exact LO12.out.readsR.2.1); rintro e wv19 ⟨he_, hb⟩; subst he_; refine ⟨_, rfl, ?_⟩; replace hb := below_drawn hb; replace LO1 := aM (LO1.out.below hb); replace LO2 := aM (LO2.out.below hb); replace LO3 := aM (LO3.out.below hb); replace LO4 := aM (LO4.out.below hb); replace LO5 := aM (LO5.out.below hb); replace LO6 := aM (LO6.out.below hb); replace LO7 := aM (LO7.out.below hb); replace LO8 := aM (LO8.out.below hb); replace LO9 := aM (LO9.out.below hb); replace LO10 := aM (LO10.out.below hb); replace LO11 := aM (LO11.out.below hb); replace LO12 := aM (LO12.out.below hb); replace HB := aM (below_after HB.out hb); clear hb; obtain ⟨hcLO7_0, hcLO7_1, hfLO7_0, hfLO7_1⟩ := cellsZ2 LO7.out.now) | ((with_reducible refine gate_callee (f := 16) rfl ?_); refine goesL_ (some 71) rfl rfl Tryd.func16 (by kernel_rfl) rfl #[.agg #[.int .i64 q2, .slice ALO6 q3.length cLO6], .int .i64 1] rfl zee81 ?_; (with_reducible refine (laws_markFiles.calls k (fun k => lo6_ ≤ k ∧ k < hi6_) q2 (.slice ALO6 q3.length cLO6) q3 1 q8 q9 w _ ?s1 ?s2 HE9.out).mono ?_); (case s1 => exact HB.out); (case s2 => exact LO6.out.now); rintro e wv20 ⟨he_, hs, hB2, hk⟩; subst he_; refine ⟨_, rfl, ?_⟩; (try clear hcLO7_0 hcLO7_1 hfLO7_0 hfLO7_1); have hi_ := LO6.out.size; have := ORLO1.out; have := OQLO1.out; have := ORLO2.out; have := OQLO2.out; have := ORLO3.out; have := OQLO3.out; have := ORLO4.out; have := OQLO4.out; have := ORLO5.out; have := OQLO5.out; have := ORLO6.out; have := OQLO6.out; have := ORLO7.out; have := OQLO7.out; have := ORLO8.out; have := OQLO8.out; have := ORLO9.out; have := OQLO9.out; have := ORLO10.out; have := OQLO10.out; have := ORLO11.out; have := OQLO11.out; have := ORLO12.out; have := OQLO12.out; replace LO1 := aM (LO1.out.apart hk (by omega)); replace LO2 := aM (LO2.out.apart hk (by omega)); replace LO3 := aM (LO3.out.apart hk (by omega)); replace LO4 := aM (LO4.out.apart hk (by omega)); replace LO5 := aM (LO5.out.apart hk (by omega)); replace LO7 := aM (LO7.out.apart hk (by omega)); replace LO8 := aM (LO8.out.apart hk (by omega)); replace LO9 := aM (LO9.out.apart hk (by omega)); replace LO10 := aM (LO10.out.apart hk (by omega)); replace LO11 := aM (LO11.out.apart hk (by omega)); replace LO12 := aM (LO12.out.apart hk (by omega)); replace LO6 := aM (Loc.ofS (Nat.le_trans hi_ hk.1) hs); replace HB := aM hB2; have HN20 := aM ((LO6.out.readsS).1 : q3.length = q9.length); clear hs hB2 hk hi_; rw [HN20.out] at LO7) | ((with_reducible refine gate_callee (f := 17) rfl ?_); refine goesL_ (some 74) rfl rfl Tryd.func17 (by kernel_rfl) rfl #[.slice ALO8 q4.length cLO8, .int .i64 q8] rfl zee81 ?_; (with_reducible refine (laws_markByteS.calls k (fun k => lo8_ ≤ k ∧ k < hi8_) (.slice ALO8 q4.length cLO8) q4 q8 q10 q11 w _ ?s1 ?s2 HE10.out).mono ?_); (case s1 => exact HB.out); (case s2 => exact LO8.out.now); rintro e wv21 ⟨he_, hs, hB2, hk⟩; subst he_; refine ⟨_, rfl, ?_⟩; have hi_ := LO8.out.size; have hs2_ := Kd.R_mono (Kd.R_tight rfl hs) (fun k_ e_ => (LO8.out.now).1 k_ e_.symm); clear hs; have hs := hs2_; clear hs2_; have := ORLO1.out; have := OQLO1.out; have := ORLO2.out; have := OQLO2.out; have := ORLO3.out; have := OQLO3.out; have := ORLO4.out; have := OQLO4.out; have := ORLO5.out; have := OQLO5.out; have := ORLO6.out; have := OQLO6.out; have := ORLO7.out; have := OQLO7.out; have := ORLO8.out; have := OQLO8.out; have := ORLO9.out; have := OQLO9.out; have := ORLO10.out; have := OQLO10.out; have := ORLO11.out; have := OQLO11.out; have := ORLO12.out; have := OQLO12.out; replace LO1 := aM (LO1.out.apart hk (by omega)); replace LO2 := aM (LO2.out.apart hk (by omega)); replace LO3 := aM (LO3.out.apart hk (by omega)); replace LO4 := aM (LO4.out.apart hk (by omega)); replace LO5 := aM (LO5.out.apart hk (by omega)); replace LO6 := aM (LO6.out.apart hk (by omega)); replace LO7 := aM (LO7.out.apart hk (by omega)); replace LO9 := aM (LO9.out.apart hk (by omega)); replace LO10 := aM (LO10.out.apart hk (by omega)); replace LO11 := aM (LO11.out.apart hk (by omega)); replace LO12 := aM (LO12.out.apart hk (by omega)); replace LO8 := aM (Loc.ofR (Nat.le_trans hi_ hk.1) hs); replace HB := aM hB2; have HN21 := aM ((LO8.out.readsR).1 : q4.length = q11.length); clear hs hB2 hk hi_; obtain ⟨hcLO10_0, hcLO10_1, hfLO10_0, hfLO10_1⟩ := cellsZ2 LO10.out.now; obtain ⟨hcLO5_0, hcLO5_1, hfLO5_0, hfLO5_1⟩ := cellsZ2 LO5.out.now) | (go_at_call 14; (with_reducible refine (laws_eqFiles.calls k q5 _ _ q6 q5 _ _ q6 true _ ?s1 ?s2 ?s3 ?s4 HE6.out).mono ?_); (case s1 => exact LO9.out.readsS.2.2); (case s2 => exact LO9.out.readsS.2.1); (case s3 => exact LO4.out.readsS.2.2); (case s4 => exact LO4.out.readsS.2.1); rintro e wv22 ⟨he_, hb⟩; subst he_; (try clear hcLO10_0 hcLO10_1 hfLO10_0 hfLO10_1 hcLO5_0 hcLO5_1 hfLO5_0 hfLO5_1); replace LO1 := aM (LO1.out.below hb); replace LO2 := aM (LO2.out.below hb); replace LO3 := aM (LO3.out.below hb); replace LO4 := aM (LO4.out.below hb); replace LO5 := aM (LO5.out.below hb); replace LO6 := aM (LO6.out.below hb); replace LO7 := aM (LO7.out.below hb); replace LO8 := aM (LO8.out.below hb); replace LO9 := aM (LO9.out.below hb); replace LO10 := aM (LO10.out.below hb); replace LO11 := aM (LO11.out.below hb); replace LO12 := aM (LO12.out.below hb); replace HB := aM (below_after HB.out hb); clear hb; obtain ⟨hcLO10_0, hcLO10_1, hfLO10_0, hfLO10_1⟩ := cellsZ2 LO10.out.now) | ((with_reducible refine gate_callee (f := 16) rfl ?_); refine goesL_ (some 90) rfl rfl Tryd.func16 (by kernel_rfl) rfl #[.agg #[.int .i64 q5, .slice ALO9 q6.length cLO9], .int .i64 1] rfl zee81 ?_; (with_reducible refine (laws_markFiles.calls k (fun k => lo9_ ≤ k ∧ k < hi9_) q5 (.slice ALO9 q6.length cLO9) q6 1 q12 q13 w _ ?s1 ?s2 HE11.out).mono ?_); (case s1 => exact HB.out); (case s2 => exact LO9.out.now); rintro e wv23 ⟨he_, hs, hB2, hk⟩; subst he_; refine ⟨_, rfl, ?_⟩; (try clear hcLO10_0 hcLO10_1 hfLO10_0 hfLO10_1); have hi_ := LO9.out.size; have := ORLO1.out; have := OQLO1.out; have := ORLO2.out; have := OQLO2.out; have := ORLO3.out; have := OQLO3.out; have := ORLO4.out; have := OQLO4.out; have := ORLO5.out; have := OQLO5.out; have := ORLO6.out; have := OQLO6.out; have := ORLO7.out; have := OQLO7.out; have := ORLO8.out; have := OQLO8.out; have := ORLO9.out; have := OQLO9.out; have := ORLO10.out; have := OQLO10.out; have := ORLO11.out; have := OQLO11.out; have := ORLO12.out; have := OQLO12.out; replace LO1 := aM (LO1.out.apart hk (by omega)); replace LO2 := aM (LO2.out.apart hk (by omega)); replace LO3 := aM (LO3.out.apart hk (by omega)); replace LO4 := aM (LO4.out.apart hk (by omega)); replace LO5 := aM (LO5.out.apart hk (by omega)); replace LO6 := aM (LO6.out.apart hk (by omega)); replace LO7 := aM (LO7.out.apart hk (by omega)); replace LO8 := aM (LO8.out.apart hk (by omega)); replace LO10 := aM (LO10.out.apart hk (by omega)); replace LO11 := aM (LO11.out.apart hk (by omega)); replace LO12 := aM (LO12.out.apart hk (by omega)); replace LO9 := aM (Loc.ofS (Nat.le_trans hi_ hk.1) hs); replace HB := aM hB2; have HN23 := aM ((LO9.out.readsS).1 : q6.length = q13.length); clear hs hB2 hk hi_; rw [HN23.out] at LO10; obtain ⟨hcLO10_0, hcLO10_1, hfLO10_0, hfLO10_1⟩ := cellsZ2 LO10.out.now) | ((with_reducible refine gate_callee (f := 18) rfl ?_); refine goesL_ (some 93) rfl rfl Tryd.func18 (by kernel_rfl) rfl #[.agg #[.int .i64 q5, .slice ALO9 q13.length cLO9], .int .i64 1] rfl zee81 ?_; (with_reducible refine (laws_heldFiles.calls k q5 _ _ q13 1 q12 _ ?s1 ?s2 HE12.out).mono ?_); (case s1 => exact LO9.out.readsS.2.2); (case s2 => exact LO9.out.readsS.2.1); rintro e wv24 ⟨he_, hb⟩; subst he_; refine ⟨_, rfl, ?_⟩; (try clear hcLO10_0 hcLO10_1 hfLO10_0 hfLO10_1); replace LO1 := aM (LO1.out.below hb); replace LO2 := aM (LO2.out.below hb); replace LO3 := aM (LO3.out.below hb); replace LO4 := aM (LO4.out.below hb); replace LO5 := aM (LO5.out.below hb); replace LO6 := aM (LO6.out.below hb); replace LO7 := aM (LO7.out.below hb); replace LO8 := aM (LO8.out.below hb); replace LO9 := aM (LO9.out.below hb); replace LO10 := aM (LO10.out.below hb); replace LO11 := aM (LO11.out.below hb); replace LO12 := aM (LO12.out.below hb); replace HB := aM (below_after HB.out hb); clear hb; obtain ⟨hcLO1_0, hcLO1_1, hfLO1_0, hfLO1_1⟩ := cellsZ2 LO1.out.now) | ((with_reducible refine gate_callee (f := 11) rfl ?_); refine goesL_ (some 101) rfl rfl Tryd.func11 (by kernel_rfl) rfl #[.agg #[.int .i64 a0_0, .slice A0_1 l0_1.length c0_1]] rfl zee81 ?_; (with_reducible refine (laws_toFiles.calls k a0_0 _ _ l0_1 q2 q3 _ ?s1 ?s2 HE2.out).mono ?_); (case s1 => exact Kd.C_below HR0_1.out HB.out); (case s2 => exact HC0_1.out); rintro e wv25 ⟨v1_, he_, ho_v1_, hb⟩; subst he_; refine ⟨_, rfl, ?_⟩; (try clear hcLO1_0 hcLO1_1 hfLO1_0 hfLO1_1); obtain ⟨lo13_, hi13_, el_, hL_, eh_⟩ := Loc.newS (Kd.S_mono ho_v1_ (fun _ _ => trivial)) HB.out; have LO13 := aM hL_; have ORLO13 := aM (show hi12_ ≤ lo13_ from (by rw [el_]; exact LO12.out.size)); have OQLO13 := aM (show lo13_ ≤ hi13_ from (by rw [el_, eh_]; exact hb.size)); obtain ⟨ALO13, cLO13, ev_⟩ := Kd.S_slice ho_v1_; subst ev_; clear el_ hL_ eh_ ho_v1_; replace LO1 := aM (LO1.out.below hb); replace LO2 := aM (LO2.out.below hb); replace LO3 := aM (LO3.out.below hb); replace LO4 := aM (LO4.out.below hb); replace LO5 := aM (LO5.out.below hb); replace LO6 := aM (LO6.out.below hb); replace LO7 := aM (LO7.out.below hb); replace LO8 := aM (LO8.out.below hb); replace LO9 := aM (LO9.out.below hb); replace LO10 := aM (LO10.out.below hb); replace LO11 := aM (LO11.out.below hb); replace LO12 := aM (LO12.out.below hb); replace HB := aM (below_after HB.out hb); clear hb) | ((with_reducible refine gate_callee (f := 12) rfl ?_); refine goesL_ (some 104) rfl rfl Tryd.func12 (by kernel_rfl) rfl #[.slice A2 l2.length c2] rfl zee81 ?_; (with_reducible refine (laws_toByteS.calls k _ _ l2 q4 _ ?s1 ?s2 HE3.out).mono ?_); (case s1 => exact Kd.C_below HR2.out HB.out); (case s2 => exact HC2.out); rintro e wv26 ⟨v0_, he_, ho_v0_, hb⟩; subst he_; refine ⟨_, rfl, ?_⟩; obtain ⟨lo14_, hi14_, el_, hL_, eh_⟩ := Loc.newR (Kd.R_mono ho_v0_ (fun _ _ => trivial)) HB.out; have LO14 := aM hL_; have ORLO14 := aM (show hi13_ ≤ lo14_ from (by rw [el_]; exact LO13.out.size)); have OQLO14 := aM (show lo14_ ≤ hi14_ from (by rw [el_, eh_]; exact hb.size)); obtain ⟨ALO14, cLO14, ev_⟩ := Kd.R_slice ho_v0_; subst ev_; clear el_ hL_ eh_ ho_v0_; replace LO1 := aM (LO1.out.below hb); replace LO2 := aM (LO2.out.below hb); replace LO3 := aM (LO3.out.below hb); replace LO4 := aM (LO4.out.below hb); replace LO5 := aM (LO5.out.below hb); replace LO6 := aM (LO6.out.below hb); replace LO7 := aM (LO7.out.below hb); replace LO8 := aM (LO8.out.below hb); replace LO9 := aM (LO9.out.below hb); replace LO10 := aM (LO10.out.below hb); replace LO11 := aM (LO11.out.below hb); replace LO12 := aM (LO12.out.below hb); replace LO13 := aM (LO13.out.below hb); replace HB := aM (below_after HB.out hb); clear hb) | ((with_reducible refine gate_callee (f := 13) rfl ?_); refine goesL_ (some 105) rfl rfl Tryd.func13 (by kernel_rfl) rfl #[.agg #[.int .i64 q2, .slice ALO13 q3.length cLO13], .string a1, .slice ALO14 q4.length cLO14] rfl zee81 ?_; (with_reducible refine (impl_AppendFile.calls k q2 _ _ q3 a1 _ _ q4 q5 q6 q7 _ ?s1 ?s2 ?s3 ?s4 HE5.out).mono ?_); (case s1 => exact LO13.out.readsS.2.2); (case s2 => exact LO13.out.readsS.2.1); (case s3 => exact LO14.out.readsR.2.2); (case s4 => exact LO14.out.readsR.2.1); rintro e wv27 ⟨v1_, he_, ho_v1_, hb⟩; subst he_; refine ⟨_, rfl, ?_⟩; obtain ⟨lo15_, hi15_, el_, hL_, eh_⟩ := Loc.newS (Kd.S_mono ho_v1_ (fun _ _ => trivial)) HB.out; have LO15 := aM hL_; have ORLO15 := aM (show hi14_ ≤ lo15_ from (by rw [el_]; exact LO14.out.size)); have OQLO15 := aM (show lo15_ ≤ hi15_ from (by rw [el_, eh_]; exact hb.size)); obtain ⟨ALO15, cLO15, ev_⟩ := Kd.S_slice ho_v1_; subst ev_; clear el_ hL_ eh_ ho_v1_; replace LO1 := aM (LO1.out.below hb); replace LO2 := aM (LO2.out.below hb); replace LO3 := aM (LO3.out.below hb); replace LO4 := aM (LO4.out.below hb); replace LO5 := aM (LO5.out.below hb); replace LO6 := aM (LO6.out.below hb); replace LO7 := aM (LO7.out.below hb); replace LO8 := aM (LO8.out.below hb); replace LO9 := aM (LO9.out.below hb); replace LO10 := aM (LO10.out.below hb); replace LO11 := aM (LO11.out.below hb); replace LO12 := aM (LO12.out.below hb); replace LO13 := aM (LO13.out.below hb); replace LO14 := aM (LO14.out.below hb); replace HB := aM (below_after HB.out hb); clear hb) | ((with_reducible refine gate_dst (N := 17) rfl ?_); refine box_event ?hg (N := 17) ?hd (cs := #[.int .i64 0, .slice none 0 0]) (t := 29) ?hr ?_; (case hd => rfl); (case hg => rfl); (case hr => first | (go_simp; done) | (go_simp; rfl)); intro b5_ hg wv28 hbox hb; have LO16 := aM (Loc.box hbox); have el_ := hg; have ORLO16 := aM (show hi15_ ≤ b5_ from (by rw [el_]; exact LO15.out.size)); have OQLO16 := aM (show b5_ ≤ (b5_ + 1) from Nat.le_succ _); have HWLO16 := aM (show w.heap.size ≤ b5_ from (by rw [hg]; exact HB.out.size)); replace LO1 := aM (LO1.out.below hb); replace LO2 := aM (LO2.out.below hb); replace LO3 := aM (LO3.out.below hb); replace LO4 := aM (LO4.out.below hb); replace LO5 := aM (LO5.out.below hb); replace LO6 := aM (LO6.out.below hb); replace LO7 := aM (LO7.out.below hb); replace LO8 := aM (LO8.out.below hb); replace LO9 := aM (LO9.out.below hb); replace LO10 := aM (LO10.out.below hb); replace LO11 := aM (LO11.out.below hb); replace LO12 := aM (LO12.out.below hb); replace LO13 := aM (LO13.out.below hb); replace LO14 := aM (LO14.out.below hb); replace LO15 := aM (LO15.out.below hb); replace HB := aM (below_after HB.out hb); clear hg hbox hb el_; obtain ⟨hcLO16_0, hcLO16_1, hfLO16_0, hfLO16_1⟩ := cellsZ2 LO16.out.now) | ((with_reducible refine gate_store (t := 29) (p := 17) rfl ?_); refine store_event (t := 29) (p := 17) (v := ?vo_wv29) (w1 := ((wv28.setCell ⟨b5_, 0, none⟩ (.int .i64 q5)).setCell ⟨b5_, 1, none⟩ (.slice ALO15 q6.length cLO15))) ?hg ?ho ?hn ?hr ?_; (case ho => rfl); (case hg => rfl); (case hn => rfl); (case hr => first | (go_simp; done) | (go_simp; rfl)); intro wv29 hw; (try clear hcLO16_0 hcLO16_1 hfLO16_0 hfLO16_1); have ho_ : Only wv28 wv29 b5_ := (by rw [hw]; repeat (first | (with_reducible apply Only.set) | exact Only.refl _ _)); have := ORLO1.out; have := OQLO1.out; have := ORLO2.out; have := OQLO2.out; have := ORLO3.out; have := OQLO3.out; have := ORLO4.out; have := OQLO4.out; have := ORLO5.out; have := OQLO5.out; have := ORLO6.out; have := OQLO6.out; have := ORLO7.out; have := OQLO7.out; have := ORLO8.out; have := OQLO8.out; have := ORLO9.out; have := OQLO9.out; have := ORLO10.out; have := OQLO10.out; have := ORLO11.out; have := OQLO11.out; have := ORLO12.out; have := OQLO12.out; have := ORLO13.out; have := OQLO13.out; have := ORLO14.out; have := OQLO14.out; have := ORLO15.out; have := OQLO15.out; have := ORLO16.out; have := OQLO16.out; replace LO1 := aM (LO1.out.only ho_ (by omega)); replace LO2 := aM (LO2.out.only ho_ (by omega)); replace LO3 := aM (LO3.out.only ho_ (by omega)); replace LO4 := aM (LO4.out.only ho_ (by omega)); replace LO5 := aM (LO5.out.only ho_ (by omega)); replace LO6 := aM (LO6.out.only ho_ (by omega)); replace LO7 := aM (LO7.out.only ho_ (by omega)); replace LO8 := aM (LO8.out.only ho_ (by omega)); replace LO9 := aM (LO9.out.only ho_ (by omega)); replace LO10 := aM (LO10.out.only ho_ (by omega)); replace LO11 := aM (LO11.out.only ho_ (by omega)); replace LO12 := aM (LO12.out.only ho_ (by omega)); replace LO13 := aM (LO13.out.only ho_ (by omega)); replace LO14 := aM (LO14.out.only ho_ (by omega)); replace LO15 := aM (LO15.out.only ho_ (by omega)); have hbx_ : wv29.heap[b5_]? = some (.cells #[.int .i64 q5, .slice ALO15 q6.length cLO15] 29 (0, 0)) := (by have BK_ := LO16.out.now; rw [hw]; first | (with_reducible exact blk_put9 BK_) | (with_reducible exact blk_put6 BK_) | (with_reducible exact blk_put4 BK_) | (apply blk_eqZ; (repeat (first | (with_reducible apply blk_put0) | exact BK_)); first | (simp only [List.setIfInBounds_toArray, List.set_cons_zero, List.set_cons_succ] <;> rfl) | rfl)); replace LO16 := aM (Loc.box hbx_); replace HB := aM (below_only HB.out HWLO16.out ho_); clear ho_ hbx_ hw; obtain ⟨hcLO16_0, hcLO16_1, hfLO16_0, hfLO16_1⟩ := cellsZ2 LO16.out.now; obtain ⟨hcLO5_0, hcLO5_1, hfLO5_0, hfLO5_1⟩ := cellsZ2 LO5.out.now) | ((with_reducible refine gate_callee (f := 14) rfl ?_); refine goesL_ (some 110) rfl rfl Tryd.func14 (by kernel_rfl) rfl #[.agg #[.int .i64 q5, .slice ALO15 q6.length cLO15], .agg #[.int .i64 q5, .slice ALO4 q6.length cLO4]] rfl zee81 ?_; (with_reducible refine (laws_eqFiles.calls k q5 _ _ q6 q5 _ _ q6 true _ ?s1 ?s2 ?s3 ?s4 HE6.out).mono ?_); (case s1 => exact LO15.out.readsS.2.2); (case s2 => exact LO15.out.readsS.2.1); (case s3 => exact LO4.out.readsS.2.2); (case s4 => exact LO4.out.readsS.2.1); rintro e wv30 ⟨he_, hb⟩; subst he_; refine ⟨_, rfl, ?_⟩; (try clear hcLO16_0 hcLO16_1 hfLO16_0 hfLO16_1 hcLO5_0 hcLO5_1 hfLO5_0 hfLO5_1); replace LO1 := aM (LO1.out.below hb); replace LO2 := aM (LO2.out.below hb); replace LO3 := aM (LO3.out.below hb); replace LO4 := aM (LO4.out.below hb); replace LO5 := aM (LO5.out.below hb); replace LO6 := aM (LO6.out.below hb); replace LO7 := aM (LO7.out.below hb); replace LO8 := aM (LO8.out.below hb); replace LO9 := aM (LO9.out.below hb); replace LO10 := aM (LO10.out.below hb); replace LO11 := aM (LO11.out.below hb); replace LO12 := aM (LO12.out.below hb); replace LO13 := aM (LO13.out.below hb); replace LO14 := aM (LO14.out.below hb); replace LO15 := aM (LO15.out.below hb); replace LO16 := aM (LO16.out.below hb); replace HB := aM (below_after HB.out hb); clear hb; obtain ⟨hcLO10_0, hcLO10_1, hfLO10_0, hfLO10_1⟩ := cellsZ2 LO10.out.now) | ((with_reducible refine gate_callee (f := 18) rfl ?_); refine goesL_ (some 119) rfl rfl Tryd.func18 (by kernel_rfl) rfl #[.agg #[.int .i64 q5, .slice ALO9 q13.length cLO9], .int .i64 1] rfl zee81 ?_; (with_reducible refine (laws_heldFiles.calls k q5 _ _ q13 1 q12 _ ?s1 ?s2 HE12.out).mono ?_); (case s1 => exact LO9.out.readsS.2.2); (case s2 => exact LO9.out.readsS.2.1); rintro e wv31 ⟨he_, hb⟩; subst he_; refine ⟨_, rfl, ?_⟩; (try clear hcLO10_0 hcLO10_1 hfLO10_0 hfLO10_1); replace LO1 := aM (LO1.out.below hb); replace LO2 := aM (LO2.out.below hb); replace LO3 := aM (LO3.out.below hb); replace LO4 := aM (LO4.out.below hb); replace LO5 := aM (LO5.out.below hb); replace LO6 := aM (LO6.out.below hb); replace LO7 := aM (LO7.out.below hb); replace LO8 := aM (LO8.out.below hb); replace LO9 := aM (LO9.out.below hb); replace LO10 := aM (LO10.out.below hb); replace LO11 := aM (LO11.out.below hb); replace LO12 := aM (LO12.out.below hb); replace LO13 := aM (LO13.out.below hb); replace LO14 := aM (LO14.out.below hb); replace LO15 := aM (LO15.out.below hb); replace LO16 := aM (LO16.out.below hb); replace HB := aM (below_after HB.out hb); clear hb))
 go_ret
 exact ⟨rfl, HB.out⟩
end Go.Proofs.YtmlclmbplbbbhaaDoor.P

namespace Go.Proofs.YtmlclmbplbbbhaaDoor.Lem
open Go.RowKit Go.Proofs.YtmlclmbplbbbhaaDoorW.PrintWords Go.Proofs.YtmlclmbplbbbhaaDoorW.PrintLast Go.Proofs.YtmlclmbplbbbhaaDoorW.PrintMore

theorem w64 {x : Int} (h0 : -9223372036854775808 ≤ x) (h1 : x < 9223372036854775808) : wrap64 x = x := by
  unfold wrap64; omega
theorem wu64 {x : Int} (h0 : 0 ≤ x) (h1 : x < 18446744073709551616) : IntKind.u64.wrap x = x := by
  rw [IntKind.wrap_u64]; omega
theorem wu64_lo (x : Int) : 0 ≤ IntKind.u64.wrap x := by rw [IntKind.wrap_u64]; omega
theorem wu64_hi (x : Int) : IntKind.u64.wrap x < 18446744073709551616 := by rw [IntKind.wrap_u64]; omega

/-- A list of bytes. -/
def Bytes (l : List Int) : Prop := ∀ x ∈ l, 0 ≤ x ∧ x < 256

theorem Bytes.of_wf {l : List Int} (h : ∀ x ∈ l, (Lit.int .u8 x).wf = true) : Bytes l := by
  intro x hx
  have := h x hx
  simp [Lit.wf, IntKind.min, IntKind.max, IntKind.signed, IntKind.bits] at this
  omega
theorem Bytes.append {a b : List Int} (ha : Bytes a) (hb : Bytes b) : Bytes (a ++ b) := by
  intro x hx
  rcases List.mem_append.1 hx with h | h
  · exact ha x h
  · exact hb x h
theorem Bytes.nil : Bytes [] := fun x hx => by simp at hx
theorem Bytes.cons {x : Int} {l : List Int} (h0 : 0 ≤ x) (h1 : x < 256) (hl : Bytes l) : Bytes (x :: l) := by
  intro y hy
  rcases List.mem_cons.1 hy with rfl | h
  · exact ⟨h0, h1⟩
  · exact hl y h
theorem Bytes.rd {l : List Int} (h : Bytes l) (i : Int) : 0 ≤ rd l i ∧ rd l i < 256 := by
  unfold Go.Proofs.YtmlclmbplbbbhaaDoorW.PrintWords.rd
  rcases Nat.lt_or_ge i.toNat l.length with hl | hl
  · rw [List.getD_eq_getElem?_getD, List.getElem?_eq_getElem hl]
    exact h _ (List.getElem_mem hl)
  · rw [List.getD_eq_getElem?_getD, List.getElem?_eq_none hl]
    simp
theorem Bytes.take {l : List Int} (h : Bytes l) (n : Nat) : Bytes (l.take n) := fun x hx => h x (List.mem_of_mem_take hx)
theorem Bytes.drop {l : List Int} (h : Bytes l) (n : Nat) : Bytes (l.drop n) := fun x hx => h x (List.mem_of_mem_drop hx)

theorem and255 {x : Int} (h0 : 0 ≤ x) (h1 : x < 18446744073709551616) : 0 ≤ Go.bits .and .u64 x 255 ∧ Go.bits .and .u64 x 255 < 256 := by
  rw [u64_and x 255 h0 h1 (by decide) (by decide)]
  have : x.toNat &&& (255 : Int).toNat ≤ (255 : Int).toNat := Nat.and_le_right
  have e : (255 : Int).toNat = 255 := rfl
  omega

theorem shr_lo {k : IntKind} {x y : Int} (h : 0 ≤ x) : 0 ≤ shr k x y := by
  unfold shr
  exact Int.ediv_nonneg h (Int.le_of_lt (Int.pow_pos (by decide)))
theorem shr_hi {k : IntKind} {x y B : Int} (h : 0 ≤ x) (h1 : x < B) : shr k x y < B := by
  unfold shr
  have : x / 2 ^ min y.toNat k.bits ≤ x := Int.ediv_le_self _ h
  omega

end Go.Proofs.YtmlclmbplbbbhaaDoor.Lem

/- Words on lists: a place of a row, and what stands behind it. No conditions. -/
namespace Go.Proofs.YtmlclmbplbbbhaaDoor.Lem
open Go Go.RowKit Go.Proofs.YtmlclmbplbbbhaaDoor.P Go.Proofs.YtmlclmbplbbbhaaDoorW.PrintWords Go.Proofs.YtmlclmbplbbbhaaDoorW.PrintLast Go.Proofs.YtmlclmbplbbbhaaDoorW.PrintMore

theorem drop_get {α : Type} {l : List α} {i : Nat} (h : i < l.length) : l.drop i = l[i] :: l.drop (i + 1) := (List.drop_eq_getElem_cons h)
theorem set_copy {α β : Type} (f : α → β) (z : β) {l : List α} {i d : Nat} (h : i < l.length) : ((l.take i).map f ++ List.replicate (d + 1) z).set i (f l[i]) = (l.take (i + 1)).map f ++ List.replicate d z := by
  have hl : ((l.take i).map f).length = i := by rw [List.length_map, List.length_take]; omega
  rw [List.set_append_right _ _ (by omega), hl, Nat.sub_self, List.replicate_succ, List.set_cons_zero, List.take_succ_eq_append_getElem h, List.map_append, List.append_assoc]
  rfl
theorem set_mid {α : Type} (pre : List α) (a v : α) (rest : List α) {i : Nat} (h : i = pre.length) : (pre ++ a :: rest).set i v = pre ++ v :: rest := by
  subst h
  rw [List.set_append_right _ _ (Nat.le_refl _), Nat.sub_self, List.set_cons_zero]
theorem getD_mid {α : Type} (pre : List α) (a : α) (rest : List α) (d : α) {i : Nat} (h : i = pre.length) : (pre ++ a :: rest).getD i d = a := by
  subst h
  rw [List.getD_eq_getElem?_getD, List.getElem?_append_right (Nat.le_refl _), Nat.sub_self]
  rfl
end Go.Proofs.YtmlclmbplbbbhaaDoor.Lem

/- An argument of a row, opened by its type: what reads as a value of the type is of the printed kind, at whatever depth. -/
namespace Go.Proofs.YtmlclmbplbbbhaaDoor.Lem
open Go Go.ChangeShapes Go.WideShapes Go.RowKit Go.Proofs.YtmlclmbplbbbhaaDoor.P Go.Proofs.YtmlclmbplbbbhaaDoorW.PrintWords Go.Proofs.YtmlclmbplbbbhaaDoorW.PrintLast Go.Proofs.YtmlclmbplbbbhaaDoorW.PrintMore

theorem list_of {α : Type} {p : Nat → α → Prop} : ∀ n, (∀ i, i < n → ∃ z, p i z) → ∃ l : List α, l.length = n ∧ ∀ i z, l[i]? = some z → p i z
  | 0, _ => ⟨[], rfl, fun i z h => by simp at h⟩
  | n + 1, h => by
    obtain ⟨l, hl, hp⟩ := list_of n (fun i hi => h i (by omega))
    obtain ⟨z, hz⟩ := h n (by omega)
    refine ⟨l ++ [z], by rw [List.length_append, hl]; rfl, fun i y hy => ?_⟩
    rcases Nat.lt_or_ge i l.length with hi | hi
    · rw [List.getElem?_append_left hi] at hy
      exact hp i y hy
    · have hi' : i = l.length := by
        have := (List.getElem?_eq_some_iff.1 hy).1
        rw [List.length_append, List.length_singleton] at this
        omega
      subst hi'
      have : z = y := by simpa using hy
      subst this
      rw [hl]
      exact hz

theorem addr_add2 (a : Addr) (x y : Nat) : (a.add x).add y = a.add (x + y) := by
  unfold Addr.add
  by_cases hx : x = 0
  · subst hx
    rw [if_pos rfl, Nat.zero_add]
  · by_cases hy : y = 0
    · subst hy
      rw [if_pos rfl, Nat.add_zero]
    · rw [if_neg hx, if_neg hy, if_neg (by omega)]
      simp only [Nat.add_assoc]
section
variable {H : Type} (enc : TypeId × Value → H) (P : Program) (w : World) (base : Nat) (spare : Nat → Bool) (held : Bool)
/-- What reads as a value of the type is of the kind, and good. -/
def Opens {α : Type} (d : Kd α) (t : TypeId) (g : α → Prop) : Prop :=
  ∀ (fuel : Nat) (cs : List Value) (x : DataW H × List MemPlace), DataW.trod enc P w base spare held fuel t cs = some x → ∃ a, d.K w a cs ∧ g a
/-- .. a struct's fields from a place on. -/
def OpensF {α : Type} (d : Kd α) (fs : List Field) (o : Nat) (g : α → Prop) : Prop :=
  ∀ (n : Nat) (cs : List Value) (xs : List (DataW H × List MemPlace)), xs.length = fs.length → cs.length = o + (fs.map fun f => P.cellsOf f.type).sum →
    (∀ (i : Nat) (f : Field), fs[i]? = some f → DataW.trod enc P w base spare held n f.type ((cs.drop f.offset).take (P.cellsOf f.type)) = xs[i]?) → ∃ a, d.K w a (cs.drop o) ∧ g a
variable {enc P w base spare held}
variable {α β : Type} {t e : TypeId}
theorem opens_int {k : IntKind} (ht : P.underlying t = some (.int k)) : Opens enc P w base spare held (Kd.int k) t (fun n => (Lit.int k n).wf = true) := fun fuel cs x h => by
  obtain ⟨n, rfl, _, hw⟩ := DataW.trod_int ht h
  exact ⟨n, rfl, hw⟩
theorem opens_bool (ht : P.underlying t = some .bool) : Opens enc P w base spare held Kd.bool t (fun _ => True) := fun fuel cs x h => by
  obtain ⟨b, rfl, _⟩ := DataW.trod_bool ht h
  exact ⟨b, rfl, trivial⟩
theorem opens_string (ht : P.underlying t = some .string) : Opens enc P w base spare held Kd.string t (fun s => s.size ≤ maxLen) := fun fuel cs x h => by
  obtain ⟨s, rfl, _, hs⟩ := DataW.trod_string ht h
  exact ⟨s, rfl, hs⟩
theorem opens_slice {d : Kd α} {g : α → Prop} (e' : Nat) (ht : P.underlying t = some (.slice e)) (hd : Opens enc P w base spare held d e g) (hc : P.cellsOf e = d.sz) :
    Opens enc P w base spare held (Kd.slice e' d) t (fun l => l.length ≤ maxLen ∧ ∀ a ∈ l, g a) := fun fuel cs x h => by
  rcases DataW.trod_slice ht h with ⟨rfl, _⟩ | ⟨a, len, cap, elems, rest, n, _, rfl, _, hb, hl, hm, hlen, hel, _, _⟩
  · exact ⟨[], ⟨none, 0, rfl, Nat.le_refl _, rfl, Nat.zero_le _, fun h => absurd h (Nat.lt_irrefl _)⟩, Nat.zero_le _, fun a h => by simp at h⟩
  · have each : ∀ i, i < len → ∃ z, (∃ c, c.length = d.sz ∧ d.K w z c ∧ ∀ j u, c[j]? = some u → w.cell? (a.add (i * d.sz + j)) = some u) ∧ g z := by
      intro i hi
      have h1 := hel i hi
      rw [List.getElem?_eq_getElem (by omega), Option.bind_eq_some_iff] at h1
      obtain ⟨cs', hcs, ht'⟩ := h1
      obtain ⟨z, hz, hg⟩ := hd _ _ _ ht'
      obtain ⟨_, hl', hcell⟩ := World.cells?_some hcs
      refine ⟨z, ⟨cs', by rw [← hc]; exact hl', hz, fun j u hj => ?_⟩, hg⟩
      have hj' : j < P.cellsOf e := by have := (List.getElem?_eq_some_iff.1 hj).1; omega
      have h2 := hcell j hj'
      rw [hj, hc] at h2
      have ea : (a.add (i * d.sz)).add j = a.add (i * d.sz + j) := addr_add2 a _ _
      rw [← ea]
      exact h2
    obtain ⟨l, hll, hp⟩ := list_of len each
    subst hll
    have hml : l.length ≤ maxLen := Nat.le_trans hl hm
    refine ⟨l, ⟨some a, cap, rfl, hl, rfl, Nat.le_trans hml (of_decide_eq_true (by kernel_rfl)), fun _ => ⟨a, rfl, fun j z hz => (hp j z hz).1⟩⟩, hml, fun z hz => ?_⟩
    obtain ⟨i, hi⟩ := List.getElem?_of_mem hz
    exact (hp i z hi).2
theorem opensF_one {d : Kd α} {g : α → Prop} {f : Field} {o : Nat} (ho : f.offset = o) (h : Opens enc P w base spare held d f.type g) : OpensF enc P w base spare held d [f] o g := fun n cs xs hx hl hf => by
  match xs, hx with
  | [y], _ =>
    obtain ⟨a, ha, hg⟩ := h _ _ _ (hf 0 f rfl)
    rw [List.map_cons, List.map_nil, List.sum_cons, List.sum_nil] at hl
    rw [ho, List.take_of_length_le (by rw [List.length_drop]; omega)] at ha
    exact ⟨a, ha, hg⟩
theorem opensF_cons {d : Kd α} {d2 : Kd β} {g : α → Prop} {g2 : β → Prop} {f : Field} {fs : List Field} {o : Nat} (ho : f.offset = o) (h : Opens enc P w base spare held d f.type g) (hr : OpensF enc P w base spare held d2 fs (o + P.cellsOf f.type) g2) :
    OpensF enc P w base spare held (Kd.pair d d2) (f :: fs) o (fun a => g a.1 ∧ g2 a.2) := fun n cs xs hx hl hf => by
  match xs, hx with
  | y :: ys, hx =>
    obtain ⟨a, ha, hg⟩ := h _ _ _ (hf 0 f rfl)
    rw [List.map_cons, List.sum_cons] at hl
    obtain ⟨b, hb, hg2⟩ := hr n cs ys (by simpa using hx) (by omega) (fun i f' hi => hf (i + 1) f' hi)
    rw [ho] at ha
    refine ⟨(a, b), ⟨_, _, ?_, ha, hb⟩, hg, hg2⟩
    rw [← List.drop_drop, List.take_append_drop]
theorem opens_struct {d : Kd α} {g : α → Prop} {fs : Array Field} (ht : P.underlying t = some (.struct fs)) (hc : P.cellsOf t = (fs.toList.map fun f => P.cellsOf f.type).sum) (h : OpensF enc P w base spare held d fs.toList 0 g) : Opens enc P w base spare held d t g := fun fuel cs x hx => by
  obtain ⟨xs, n, _, _, hl, hlen, hf⟩ := DataW.trod_struct ht hx
  have := h n cs xs (by rw [hlen]; simp) (by omega) (fun i f hi => hf i f (by simpa using hi))
  rw [List.drop_zero] at this
  exact this
theorem opens_iso {d : Kd α} {g : α → Prop} (f : β → α) (mk : α → β) (hmk : ∀ a, f (mk a) = a) (h : Opens enc P w base spare held d t g) : Opens enc P w base spare held (Kd.iso d f) t (fun b => g (f b)) := fun fuel cs x hx => by
  obtain ⟨a, ha, hg⟩ := h fuel cs x hx
  exact ⟨mk a, by show d.K w (f (mk a)) cs; rw [hmk]; exact ha, by show g (f (mk a)); rw [hmk]; exact hg⟩
end
end Go.Proofs.YtmlclmbplbbbhaaDoor.Lem

/- No row is longer than memory. No conditions. -/
namespace Go.Proofs.YtmlclmbplbbbhaaDoor.Lem
open Go Go.RowKit Go.Proofs.YtmlclmbplbbbhaaDoor.P

theorem maxLen_le {n : Nat} (h : n ≤ maxLen) : n ≤ 9223372036854775807 := Nat.le_trans h (of_decide_eq_true (by kernel_rfl))
end Go.Proofs.YtmlclmbplbbbhaaDoor.Lem

/- Marks as texts. No conditions. -/
namespace Go.Proofs.YtmlclmbplbbbhaaDoor.Lem
open Go Go.RowKit Go.Proofs.YtmlclmbplbbbhaaDoor.P Go.Proofs.YtmlclmbplbbbhaaDoorW.PrintWords Go.Proofs.YtmlclmbplbbbhaaDoorW.PrintLast Go.Proofs.YtmlclmbplbbbhaaDoorW.PrintMore

def markTl : Nat → Int → ByteArray → ByteArray
  | 0, _, acc => (⟨#[109]⟩ : ByteArray) ++ acc
  | d + 1, x, acc => if x > 0 then markTl d (Int.tdiv x 10) ((strOfNums [(wrap64 (48 + (Int.tmod x 10))) % 256]) ++ acc) else (⟨#[109]⟩ : ByteArray) ++ acc
theorem markText_l0 : ∀ (d k : Nat) (x : Int) (acc : ByteArray), 0 ≤ x → x < 10 ^ d → x ≤ 9223372036854775807 → d < k → acc.size + d ≤ 1000 → laws_markText.l0 k x acc = some (markTl d x acc)
  | 0, k, x, acc, h0, h1, _, hk, ha => by
    obtain ⟨k, rfl⟩ : ∃ q, k = q + 1 := ⟨k - 1, by omega⟩
    have hx : ¬ x > 0 := by simp at h1; omega
    rw [laws_markText.l0, if_neg hx, if_pos (by omega)]
    rfl
  | d + 1, k, x, acc, h0, h1, hb, hk, ha => by
    obtain ⟨k, rfl⟩ : ∃ q, k = q + 1 := ⟨k - 1, by omega⟩
    rw [laws_markText.l0, markTl]
    by_cases hx : x > 0
    · have hz : (strOfNums [(wrap64 (48 + (Int.tmod x 10))) % 256]).size = 1 := rfl
      have e : Int.tdiv x 10 = x / 10 := Int.tdiv_eq_ediv_of_nonneg h0
      have hp : (10 : Int) ^ (d + 1) = 10 ^ d * 10 := Int.pow_succ 10 d
      have hlt : x / 10 < 10 ^ d := by omega
      have ih := markText_l0 d k (x / 10) ((strOfNums [(wrap64 (48 + (Int.tmod x 10))) % 256]) ++ acc) (by omega) hlt (by omega) (by omega) (by rw [ByteArray.size_append, hz]; omega)
      rw [if_pos hx, if_pos hx, Option.bind_some, hz, if_pos (by omega), e, w64 (by omega) (by omega)]
      exact ih
    · rw [if_neg hx, if_neg hx, if_pos (by omega)]
def markT (x : Int) : ByteArray := if x ≤ 0 then ⟨#[109, 48]⟩ else markTl 18 x ⟨#[]⟩
theorem markText_ok {x : Int} (h0 : 0 ≤ x) (h1 : x < 1000000000000000000) {k : Nat} (hk : 20 < k) : laws_markText.f k x = some (markT x) := by
  unfold laws_markText.f markT
  split
  · rfl
  · exact markText_l0 18 k x _ h0 (by simpa using h1) (by omega) (by omega) (by decide)
end Go.Proofs.YtmlclmbplbbbhaaDoor.Lem

/- Files that come in: their measure, their copies, that a copy equals itself; marks written into them and told again. -/
namespace Go.Proofs.YtmlclmbplbbbhaaDoor.Lem
open Go Go.RowKit Go.Proofs.YtmlclmbplbbbhaaDoor.P Go.Proofs.YtmlclmbplbbbhaaDoorW.PrintWords Go.Proofs.YtmlclmbplbbbhaaDoorW.PrintLast Go.Proofs.YtmlclmbplbbbhaaDoorW.PrintMore

abbrev Lf := S84
abbrev Fi := S53
def GFile (e : Lf) : Prop := e.f0.size ≤ maxLen ∧ (e.f1.length ≤ maxLen ∧ ∀ n ∈ e.f1, (Lit.int .u8 n).wf = true) ∧ (Lit.int .i64 e.f2).wf = true
theorem rdLf_get {l : List Lf} {i : Nat} (h : i < l.length) : rd_T84 l (i : Int) = l[i] := by
  unfold rd_T84
  rw [Int.toNat_natCast, List.getD_eq_getElem?_getD, List.getElem?_eq_getElem h]
  rfl
theorem rdF_get {l : List Fi} {i : Nat} (h : i < l.length) : rd_T53 l (i : Int) = l[i] := by
  unfold rd_T53
  rw [Int.toNat_natCast, List.getD_eq_getElem?_getD, List.getElem?_eq_getElem h]
  rfl
/-- The place behind i. -/
theorem wrapS {i n : Nat} (h : i < n) (hn : n ≤ 1000000000000) : wrap64 ((i : Int) + 1) = ((i + 1 : Nat) : Int) := by rw [w64 (by omega) (by omega)]; omega
/-! ### bytes -/
theorem rd_at1 {l : List Int} {i : Nat} (h : i < l.length) : rd l (i : Int) = l[i] := by
  unfold rd
  rw [Int.toNat_natCast, List.getD_eq_getElem?_getD, List.getElem?_eq_getElem h]
  rfl
theorem toBytes_l0 {l : List Int} (hl : l.length ≤ 1048576) (d : Nat) : ∀ (k i : Nat), i + d = l.length → d < k → laws_toByteS.l0 k l ((l.take i).map id ++ List.replicate d 0) (i : Int) = some l := by
  induction d with
  | zero =>
    intro k i hi hk
    obtain ⟨k, rfl⟩ : ∃ m, k = m + 1 := ⟨k - 1, by omega⟩
    rw [laws_toByteS.l0, if_neg (by omega), List.take_of_length_le (by omega), List.replicate_zero, List.append_nil, List.map_id]
  | succ d ih =>
    intro k i hi hk
    obtain ⟨k, rfl⟩ : ∃ m, k = m + 1 := ⟨k - 1, by omega⟩
    have hlt : i < l.length := by omega
    rw [laws_toByteS.l0, if_pos (by omega), if_pos (by omega), if_pos (by rw [List.length_append, List.length_map, List.length_take, List.length_replicate]; omega), Int.toNat_natCast, rd_at1 hlt, show l[i] = id l[i] from rfl, set_copy id 0 hlt, wrapS hlt (by omega)]
    exact ih k (i + 1) (by omega) (by omega)
theorem toBytes_ok {l : List Int} (hl : l.length ≤ 1048576) {k : Nat} (hk : 1048576 < k) : laws_toByteS.f k l = some l := by
  unfold laws_toByteS.f
  rw [if_pos (by omega), if_pos (by rw [Int.toNat_natCast]; omega), Int.toNat_natCast]
  have h := toBytes_l0 hl l.length k 0 (by omega) (by omega)
  rw [List.take_zero, List.map_nil, List.nil_append] at h
  exact h
theorem eqBytes_l0 {l : List Int} (hl : l.length ≤ 1048576) (d : Nat) : ∀ (k i : Nat), i + d = l.length → d < k → laws_eqByteS.l0 k l l (i : Int) = some true := by
  induction d with
  | zero =>
    intro k i hi hk
    obtain ⟨k, rfl⟩ : ∃ m, k = m + 1 := ⟨k - 1, by omega⟩
    rw [laws_eqByteS.l0, if_neg (by omega)]
  | succ d ih =>
    intro k i hi hk
    obtain ⟨k, rfl⟩ : ∃ m, k = m + 1 := ⟨k - 1, by omega⟩
    rw [laws_eqByteS.l0, if_pos (by omega), if_pos (by omega), if_pos (by omega), if_pos rfl, wrapS (n := l.length) (by omega) (by omega)]
    exact ih k (i + 1) (by omega) (by omega)
theorem eqBytes_ok {l : List Int} (hl : l.length ≤ 1048576) {k : Nat} (hk : 1048576 < k) : laws_eqByteS.f k l l = some true := by
  unfold laws_eqByteS.f
  rw [if_pos rfl]
  exact eqBytes_l0 hl l.length k 0 (by omega) (by omega)
def markBs : List Int → Int → List Int
  | [], _ => []
  | _ :: r, x => x % 256 :: markBs r (x + 1)
theorem markBs_length : ∀ (l : List Int) (x : Int), (markBs l x).length = l.length
  | [], _ => rfl
  | _ :: r, x => by rw [markBs, List.length_cons, List.length_cons, markBs_length r]
theorem markByteS_l0 : ∀ (rest pre : List Int) (k : Nat) (x : Int), 0 ≤ x → x + rest.length < 1000000000000000000 → pre.length + rest.length ≤ 1000000000 → rest.length < k →
    laws_markByteS.l0 k (pre ++ rest) x (pre.length : Int) = some (x + rest.length, pre ++ markBs rest x)
  | [], pre, k, x, h0, h1, h2, hk => by
    obtain ⟨k, rfl⟩ : ∃ q, k = q + 1 := ⟨k - 1, by omega⟩
    rw [laws_markByteS.l0, if_neg (by rw [List.append_nil]; omega), List.append_nil, markBs, List.append_nil]
    simp
  | a :: rest, pre, k, x, h0, h1, h2, hk => by
    obtain ⟨k, rfl⟩ : ∃ q, k = q + 1 := ⟨k - 1, by omega⟩
    rw [List.length_cons] at h1 h2 hk
    have ih := markByteS_l0 rest (pre ++ [x % 256]) k (x + 1) (by omega) (by omega) (by rw [List.length_append, List.length_singleton]; omega) (by omega)
    rw [laws_markByteS.l0, if_pos (by rw [List.length_append, List.length_cons]; omega), if_pos (by omega), Int.toNat_natCast, set_mid _ _ _ _ rfl, w64 (by omega) (by omega),
      show wrap64 ((pre.length : Int) + 1) = ((pre ++ [x % 256]).length : Int) from by rw [w64 (by omega) (by omega), List.length_append, List.length_singleton]; omega]
    rw [List.append_assoc, List.singleton_append] at ih
    rw [ih, markBs, List.length_cons, List.append_assoc, List.singleton_append]
    congr 2
    omega
theorem markByteS_ok (l : List Int) {k : Nat} {x : Int} (h0 : 0 ≤ x) (h1 : x + l.length < 1000000000000000000) (h2 : l.length ≤ 1000000000) (hk : l.length < k) : laws_markByteS.f k l x = some (x + l.length, markBs l x) := markByteS_l0 l [] k x h0 h1 (by simpa using h2) hk
theorem heldByteS_l0 : ∀ (rest pre : List Int) (k : Nat) (x : Int), 0 ≤ x → x + rest.length < 1000000000000000000 → pre.length + rest.length ≤ 1000000000 → rest.length < k →
    laws_heldByteS.l0 k (pre ++ markBs rest x) x (pre.length : Int) = some (x + rest.length)
  | [], pre, k, x, h0, h1, h2, hk => by
    obtain ⟨k, rfl⟩ : ∃ q, k = q + 1 := ⟨k - 1, by omega⟩
    rw [laws_heldByteS.l0, markBs, List.append_nil, if_neg (by omega)]
    simp
  | a :: rest, pre, k, x, h0, h1, h2, hk => by
    obtain ⟨k, rfl⟩ : ∃ q, k = q + 1 := ⟨k - 1, by omega⟩
    rw [List.length_cons] at h1 h2 hk
    have ih := heldByteS_l0 rest (pre ++ [x % 256]) k (x + 1) (by omega) (by omega) (by rw [List.length_append, List.length_singleton]; omega) (by omega)
    rw [List.append_assoc, List.singleton_append] at ih
    rw [laws_heldByteS.l0, markBs, if_pos (by rw [List.length_append, List.length_cons]; omega), if_pos (by omega), show rd (pre ++ x % 256 :: markBs rest (x + 1)) (pre.length : Int) = x % 256 from getD_mid _ _ _ _ rfl, if_pos rfl, w64 (by omega) (by omega),
      show wrap64 ((pre.length : Int) + 1) = ((pre ++ [x % 256]).length : Int) from by rw [w64 (by omega) (by omega), List.length_append, List.length_singleton]; omega, ih, List.length_cons]
    congr 1
    omega
theorem heldByteS_ok (l : List Int) {k : Nat} {x : Int} (h0 : 0 ≤ x) (h1 : x + l.length < 1000000000000000000) (h2 : l.length ≤ 1000000000) (hk : l.length < k) : laws_heldByteS.f k (markBs l x) x = some (x + l.length) := heldByteS_l0 l [] k x h0 h1 (by simpa using h2) hk
/-! ### the measure -/
def HeldF (e : Lf) : Prop := e.f0.size ≤ 9223372036854775807 ∧ e.f1.length ≤ 9223372036854775807
def ShortF (e : Lf) : Prop := e.f0.size ≤ 1048576 ∧ e.f1.length ≤ 1048576
theorem heldF {e : Lf} (h : GFile e) : HeldF e := ⟨maxLen_le h.1, maxLen_le h.2.1.1⟩
theorem szFile_ok {e : Lf} (he : HeldF e) {x : Int} (h0 : 0 ≤ x) (h1 : x ≤ 1048576) : ∃ r, laws_szFile.f e.f0 e.f1 e.f2 x = some r ∧ (r < 0 ∨ (0 ≤ r ∧ r ≤ x ∧ ShortF e)) := by
  obtain ⟨hm, hl⟩ := he
  unfold laws_szFile.f laws_szByteS.f
  rw [show wrap64 (x - (e.f0.size : Int)) = x - (e.f0.size : Int) from w64 (by omega) (by omega)]
  by_cases h : x - (e.f0.size : Int) < 0
  · exact ⟨-1, by rw [if_pos h], .inl (by omega)⟩
  · rw [if_neg h, show wrap64 (x - (e.f0.size : Int) - (e.f1.length : Int)) = x - (e.f0.size : Int) - (e.f1.length : Int) from w64 (by omega) (by omega)]
    by_cases hn : x - (e.f0.size : Int) - (e.f1.length : Int) < 0
    · exact ⟨-1, by rw [if_pos hn, Option.bind_some, if_pos (by decide)], .inl (by omega)⟩
    · exact ⟨_, by rw [if_neg hn, Option.bind_some, if_neg hn], .inr ⟨by omega, by omega, by omega, by omega⟩⟩
theorem szFileS_l0 (l : List Lf) (hl : l.length ≤ 1048576) (hh : ∀ w ∈ l, HeldF w) : ∀ (d i k : Nat) (x : Int), i + d = l.length → d < k → 0 ≤ x → x ≤ 1048576 → ∃ r, laws_szFileS.l0 k l x (i : Int) = some r ∧ (r < 0 ∨ (0 ≤ r ∧ r ≤ x ∧ ∀ w ∈ l.drop i, ShortF w)) := by
  intro d
  induction d with
  | zero =>
    intro i k x hi hk h0 h1
    obtain ⟨k, rfl⟩ : ∃ q, k = q + 1 := ⟨k - 1, by omega⟩
    exact ⟨x, by rw [laws_szFileS.l0, if_neg (by omega)], .inr ⟨h0, Int.le_refl _, fun w hw => by rw [List.drop_of_length_le (by omega)] at hw; simp at hw⟩⟩
  | succ d ih =>
    intro i k x hi hk h0 h1
    obtain ⟨k, rfl⟩ : ∃ q, k = q + 1 := ⟨k - 1, by omega⟩
    have hlt : i < l.length := by omega
    obtain ⟨r, hr, hr2⟩ := szFile_ok (hh l[i] (List.getElem_mem hlt)) h0 h1
    rw [laws_szFileS.l0, if_pos (by omega), if_pos (by omega), rdLf_get hlt, hr, Option.bind_some]
    by_cases hn : r < 0
    · exact ⟨-1, by rw [if_pos hn], .inl (by omega)⟩
    · rw [if_neg hn, wrapS hlt (by omega)]
      have hr3 : 0 ≤ r ∧ r ≤ x ∧ ShortF l[i] := by
        rcases hr2 with h | h
        · exact absurd h hn
        · exact h
      obtain ⟨r2, hq, hq2⟩ := ih (i + 1) k r (by omega) (by omega) (by omega) (by omega)
      refine ⟨r2, hq, ?_⟩
      rcases hq2 with h | ⟨h, h', h''⟩
      · exact .inl h
      · refine .inr ⟨h, by omega, fun w hw => ?_⟩
        rw [drop_get hlt] at hw
        rcases List.mem_cons.1 hw with rfl | hw
        · exact hr3.2.2
        · exact h'' w hw
theorem szFiles_ok {l : List Lf} (q : Int) (hl : l.length ≤ 9223372036854775807) (hh : ∀ w ∈ l, HeldF w) {x : Int} (h0 : 0 ≤ x) (h1 : x ≤ 1048576) {k : Nat} (hk : 1048577 < k) : ∃ r, laws_szFiles.f k q l x = some r ∧ (r < 0 ∨ (0 ≤ r ∧ r ≤ x ∧ l.length ≤ 1048576 ∧ ∀ w ∈ l, ShortF w)) := by
  unfold laws_szFiles.f laws_szFileS.f
  rw [show wrap64 (x - (l.length : Int)) = x - (l.length : Int) from w64 (by omega) (by omega)]
  by_cases h : x - (l.length : Int) < 0
  · exact ⟨-1, by rw [if_pos h, Option.bind_some, if_pos (by decide)], .inl (by omega)⟩
  · rw [if_neg h]
    obtain ⟨r, hr, hr2⟩ := szFileS_l0 l (by omega) hh l.length 0 k (x - (l.length : Int)) (by omega) (by omega) (by omega) (by omega)
    rw [List.drop_zero] at hr2
    rw [show ((0 : Nat) : Int) = 0 from rfl] at hr
    rw [hr, Option.bind_some]
    rcases hr2 with h2 | ⟨h2, h3, h4⟩
    · exact ⟨-1, by rw [if_pos h2], .inl (by omega)⟩
    · exact ⟨r, by rw [if_neg (by omega)], .inr ⟨h2, by omega, by omega, h4⟩⟩
/-! ### copies -/
def cvF (e : Lf) : Fi := ⟨e.f0, e.f1, e.f2⟩
theorem toFileS_l0 {l : List Lf} (hl : l.length ≤ 1048576) (hh : ∀ w ∈ l, ShortF w) : ∀ (d k i : Nat), i + d = l.length → d + 1048580 < k → laws_toFileS.l0 k l ((l.take i).map cvF ++ List.replicate d z53) (i : Int) = some (l.map cvF) := by
  intro d
  induction d with
  | zero =>
    intro k i hi hk
    obtain ⟨k, rfl⟩ : ∃ q, k = q + 1 := ⟨k - 1, by omega⟩
    rw [laws_toFileS.l0, if_neg (by omega), List.take_of_length_le (by omega), List.replicate_zero, List.append_nil]
  | succ d ih =>
    intro k i hi hk
    obtain ⟨k, rfl⟩ : ∃ q, k = q + 1 := ⟨k - 1, by omega⟩
    have hlt : i < l.length := by omega
    have hnext := ih k (i + 1) (by omega) (by omega)
    have he : laws_toFile.f k l[i].f0 l[i].f1 l[i].f2 = some (l[i].f0, l[i].f1, l[i].f2) := by
      unfold laws_toFile.f
      rw [toBytes_ok (hh _ (List.getElem_mem hlt)).2 (by omega), Option.bind_some]
    rw [laws_toFileS.l0, if_pos (by omega), if_pos (by omega), rdLf_get hlt, he, Option.bind_some, if_pos (by rw [List.length_append, List.length_map, List.length_take, List.length_replicate]; omega), Int.toNat_natCast, wrapS hlt (by omega)]
    have e := set_copy cvF z53 (d := d) hlt
    show laws_toFileS.l0 k l (((l.take i).map cvF ++ List.replicate (d + 1) z53).set i (cvF l[i])) _ = _
    rw [e]
    exact hnext
theorem toFiles_ok {l : List Lf} (q : Int) (hl : l.length ≤ 1048576) (hh : ∀ w ∈ l, ShortF w) {k : Nat} (hk : 2097160 < k) : laws_toFiles.f k q l = some (q, l.map cvF) := by
  unfold laws_toFiles.f laws_toFileS.f
  rw [if_pos (by omega), if_pos (by rw [Int.toNat_natCast]; omega), Int.toNat_natCast]
  have h := toFileS_l0 hl hh l.length k 0 (by omega) (by omega)
  rw [List.take_zero, List.map_nil, List.nil_append, show ((0 : Nat) : Int) = 0 from rfl] at h
  rw [h, Option.bind_some]
/-- Files whose rows are within the bound. -/
def RowsF (l : List Fi) : Prop := ∀ e ∈ l, e.f1.length ≤ 1048576
theorem rowsF_map {l : List Lf} (h : ∀ w ∈ l, ShortF w) : RowsF (l.map cvF) := by
  intro e he
  obtain ⟨v, hv, rfl⟩ := List.mem_map.1 he
  exact (h v hv).2
theorem eqFileS_l0 (l : List Fi) (hl : l.length ≤ 1048576) (hh : RowsF l) : ∀ (d i k : Nat), i + d = l.length → d + 1048580 < k → laws_eqFileS.l0 k l l (i : Int) = some true := by
  intro d
  induction d with
  | zero =>
    intro i k hi hk
    obtain ⟨k, rfl⟩ : ∃ q, k = q + 1 := ⟨k - 1, by omega⟩
    rw [laws_eqFileS.l0, if_neg (by omega)]
  | succ d ih =>
    intro i k hi hk
    obtain ⟨k, rfl⟩ : ∃ q, k = q + 1 := ⟨k - 1, by omega⟩
    have hlt : i < l.length := by omega
    have q1 := hh l[i] (List.getElem_mem hlt)
    have q2 : laws_eqFile.f k l[i].f0 l[i].f1 l[i].f2 l[i].f0 l[i].f1 l[i].f2 = some true := by
      unfold laws_eqFile.f
      rw [if_pos rfl, eqBytes_ok q1 (by omega), Option.bind_some, if_pos rfl, if_pos rfl]
    rw [laws_eqFileS.l0, if_pos (by omega), if_pos (by omega), if_pos (by omega), rdF_get hlt, q2, Option.bind_some, if_pos rfl, wrapS hlt (by omega)]
    exact ih (i + 1) k (by omega) (by omega)
theorem eqFiles_ok {l : List Fi} (q : Int) (hl : l.length ≤ 1048576) (hh : RowsF l) {k : Nat} (hk : 2097160 < k) : laws_eqFiles.f k q l q l = some true := by
  unfold laws_eqFiles.f laws_eqFileS.f
  have h := eqFileS_l0 l hl hh l.length 0 k (by omega) (by omega)
  rw [show ((0 : Nat) : Int) = 0 from rfl] at h
  rw [if_pos rfl, if_pos rfl, h, Option.bind_some, if_pos rfl]
/-! ### marks -/
def zF (e : Fi) (x : Int) : Int := x + 1 + (e.f1.length : Int)
def markF (e : Fi) (x : Int) : Fi := ⟨markT x, markBs e.f1 (x + 1), zF e x⟩
def markFs : List Fi → Int → List Fi
  | [], _ => []
  | e :: r, x => markF e x :: markFs r (zF e x + 1)
def endF : List Fi → Int → Int
  | [], x => x
  | e :: r, x => endF r (zF e x + 1)
theorem endF_le : ∀ (l : List Fi) (x : Int), RowsF l → x ≤ endF l x ∧ endF l x ≤ x + 4194304 * (l.length : Int)
  | [], x, _ => by simp [endF]
  | w :: r, x, h => by
    have ih := endF_le r (zF w x + 1) (fun v hv => h v (List.mem_cons_of_mem _ hv))
    have hw := h w List.mem_cons_self
    have hz : zF w x = x + 1 + (w.f1.length : Int) := rfl
    rw [endF, List.length_cons]
    omega
theorem rdF_mid (pre : List Fi) (a : Fi) (rest : List Fi) : rd_T53 (pre ++ a :: rest) (pre.length : Int) = a := getD_mid _ _ _ _ rfl
theorem wrapP (pre : List Fi) (a : Fi) (h : pre.length ≤ 1000000000) : wrap64 ((pre.length : Int) + 1) = ((pre ++ [a]).length : Int) := by rw [w64 (by omega) (by omega), List.length_append, List.length_singleton]; omega
theorem markFileS_l0 : ∀ (rest pre : List Fi) (k : Nat) (x : Int), 0 ≤ x → x + 4194304 * (rest.length : Int) < 1000000000000000000 → pre.length + rest.length ≤ 1000000000 → RowsF rest → rest.length + 1048600 < k →
    laws_markFileS.l0 k (pre ++ rest) x (pre.length : Int) = some (endF rest x, pre ++ markFs rest x)
  | [], pre, k, x, h0, h1, h2, h3, hk => by
    obtain ⟨k, rfl⟩ : ∃ q, k = q + 1 := ⟨k - 1, by omega⟩
    rw [laws_markFileS.l0, if_neg (by rw [List.append_nil]; omega), List.append_nil, markFs, List.append_nil]
    rfl
  | a :: rest, pre, k, x, h0, h1, h2, h3, hk => by
    obtain ⟨k, rfl⟩ : ∃ q, k = q + 1 := ⟨k - 1, by omega⟩
    rw [List.length_cons] at h1 h2 hk
    have t1 := h3 a List.mem_cons_self
    have hz : zF a x = x + 1 + (a.f1.length : Int) := rfl
    have ih := markFileS_l0 rest (pre ++ [markF a x]) k (zF a x + 1) (by omega) (by omega) (by rw [List.length_append, List.length_singleton]; omega) (fun v hv => h3 v (List.mem_cons_of_mem _ hv)) (by omega)
    rw [List.append_assoc, List.singleton_append] at ih
    rw [laws_markFileS.l0, if_pos (by rw [List.length_append, List.length_cons]; omega), if_pos (by omega), markText_ok h0 (by omega) (by omega), Option.bind_some, rdF_mid, w64 (x := x + 1) (by omega) (by omega), markByteS_ok _ (by omega) (by omega) (by omega) (by omega), Option.bind_some]
    dsimp only
    rw [show x + 1 + (a.f1.length : Int) = zF a x from rfl, w64 (x := zF a x + 1) (by omega) (by omega), Int.toNat_natCast, set_mid _ _ _ _ rfl, wrapP pre (markF a x) (by omega), endF, markFs]
    refine Eq.trans ?_ (ih.trans ?_)
    · rfl
    · rw [List.append_assoc, List.singleton_append]
theorem markFileS_ok (l : List Fi) {k : Nat} {x : Int} (h0 : 0 ≤ x) (h1 : x ≤ 10000000000000) (h2 : l.length ≤ 1048576) (h3 : RowsF l) (hk : 2097180 < k) : laws_markFileS.f k l x = some (endF l x, markFs l x) := markFileS_l0 l [] k x h0 (by omega) (by simpa using (by omega : l.length ≤ 1000000000)) h3 (by omega)
theorem heldFileS_l0 : ∀ (rest pre : List Fi) (k : Nat) (x : Int), 0 ≤ x → x + 4194304 * (rest.length : Int) < 1000000000000000000 → pre.length + rest.length ≤ 1000000000 → RowsF rest → rest.length + 1048600 < k →
    laws_heldFileS.l0 k (pre ++ markFs rest x) x (pre.length : Int) = some (endF rest x)
  | [], pre, k, x, h0, h1, h2, h3, hk => by
    obtain ⟨k, rfl⟩ : ∃ q, k = q + 1 := ⟨k - 1, by omega⟩
    rw [laws_heldFileS.l0, markFs, List.append_nil, if_neg (by omega)]
    rfl
  | a :: rest, pre, k, x, h0, h1, h2, h3, hk => by
    obtain ⟨k, rfl⟩ : ∃ q, k = q + 1 := ⟨k - 1, by omega⟩
    rw [List.length_cons] at h1 h2 hk
    have t1 := h3 a List.mem_cons_self
    have hz : zF a x = x + 1 + (a.f1.length : Int) := rfl
    have ih := heldFileS_l0 rest (pre ++ [markF a x]) k (zF a x + 1) (by omega) (by omega) (by rw [List.length_append, List.length_singleton]; omega) (fun v hv => h3 v (List.mem_cons_of_mem _ hv)) (by omega)
    rw [List.append_assoc, List.singleton_append] at ih
    rw [laws_heldFileS.l0, markFs, if_pos (by rw [List.length_append, List.length_cons]; omega), if_pos (by omega), markText_ok h0 (by omega) (by omega), Option.bind_some, rdF_mid, if_pos (show (markF a x).f0.toList = (markT x).toList from rfl), w64 (x := x + 1) (by omega) (by omega),
      show (markF a x).f1 = markBs a.f1 (x + 1) from rfl, heldByteS_ok _ (by omega) (by omega) (by omega) (by omega), Option.bind_some, show x + 1 + (a.f1.length : Int) = zF a x from rfl, if_neg (by omega), if_pos (show (markF a x).f2 = zF a x from rfl), w64 (x := zF a x + 1) (by omega) (by omega), wrapP pre (markF a x) (by omega), ih, endF]
theorem heldFiles_ok (q : Int) (l : List Fi) {k : Nat} {x : Int} (h0 : 0 ≤ x) (h1 : x ≤ 10000000000000) (h2 : l.length ≤ 1048576) (h3 : RowsF l) (hk : 2097180 < k) : laws_heldFiles.f k q (markFs l x) x = some (endF l x) := by
  unfold laws_heldFiles.f laws_heldFileS.f
  have h := heldFileS_l0 l [] k x h0 (by omega) (by simpa using (by omega : l.length ≤ 1000000000)) h3 (by omega)
  rw [List.nil_append, show ((([] : List Fi).length : Nat) : Int) = 0 from rfl] at h
  rw [h, Option.bind_some, if_neg (by have := endF_le l x h3; omega)]
end Go.Proofs.YtmlclmbplbbbhaaDoor.Lem

/- The order of texts: words with ends that are less than every letter are in the order of their letters. -/
namespace Go.Proofs.YtmlclmbplbbbhaaDoor.Lem
open Go

theorem less_irrefl : ∀ x : List UInt8, Op.bytesLess x x = false
  | [] => rfl
  | a :: x => by
    rw [Op.bytesLess, less_irrefl x, Bool.and_false, Bool.or_false]
    exact decide_eq_false (by rw [UInt8.lt_iff_toNat_lt]; omega)

theorem less_cons (a b : UInt8) (x y : List UInt8) : Op.bytesLess (a :: x) (b :: y) = if a = b then Op.bytesLess x y else decide (a < b) := by
  rw [Op.bytesLess]
  by_cases h : a = b
  · subst h
    rw [if_pos rfl, beq_self_eq_true, Bool.true_and, decide_eq_false (by rw [UInt8.lt_iff_toNat_lt]; omega), Bool.false_or]
  · rw [if_neg h, beq_eq_false_iff_ne.2 h, Bool.false_and, Bool.or_false]

/-- The order of two texts as a number. -/
def ord (x y : List UInt8) : Int := if Op.bytesLess x y = true then -1 else if Op.bytesLess y x = true then 1 else 0
theorem ord_self (x : List UInt8) : ord x x = 0 := by
  unfold ord
  rw [less_irrefl, if_neg (by decide), if_neg (by decide)]
theorem ord_cons (a b : UInt8) (x y : List UInt8) : ord (a :: x) (b :: y) = if a = b then ord x y else if a < b then -1 else 1 := by
  unfold ord
  rw [less_cons, less_cons]
  by_cases h : a = b
  · subst h
    rw [if_pos rfl, if_pos rfl, if_pos rfl]
  · rw [if_neg h, if_neg (Ne.symm h), if_neg h]
    have hn : a.toNat ≠ b.toNat := fun e => h (UInt8.toNat_inj.1 e)
    by_cases hl : a < b
    · rw [if_pos (decide_eq_true hl), if_pos hl]
    · rw [if_neg (by simpa using hl), if_neg hl]
      rw [UInt8.lt_iff_toNat_lt] at hl
      rw [if_pos (decide_eq_true (by rw [UInt8.lt_iff_toNat_lt]; omega))]
theorem ord_nil_cons (b : UInt8) (y : List UInt8) : ord [] (b :: y) = -1 := rfl
theorem ord_cons_nil (b : UInt8) (y : List UInt8) : ord (b :: y) [] = 1 := rfl

/-- Words whose ends are less than each letter. -/
theorem ord_ends : ∀ (a b : List UInt8) (c d : UInt8) (x y : List UInt8), (∀ h ∈ a, d < h) → (∀ h ∈ b, c < h) →
    ord (a ++ c :: x) (b ++ d :: y) = if a = b then ord (c :: x) (d :: y) else ord a b
  | [], [], c, d, x, y, _, _ => by rw [if_pos rfl]; rfl
  | [], g :: b, c, d, x, y, _, hb => by
    have h1 : c < g := hb g (List.mem_cons_self ..)
    have hne : c ≠ g := fun e => by subst e; rw [UInt8.lt_iff_toNat_lt] at h1; omega
    rw [if_neg (by simp), ord_nil_cons, List.nil_append, List.cons_append, ord_cons, if_neg hne, if_pos h1]
  | h :: a, [], c, d, x, y, ha, _ => by
    have h1 : d < h := ha h (List.mem_cons_self ..)
    have h2 : ¬ h < d := by rw [UInt8.lt_iff_toNat_lt] at h1 ⊢; omega
    have hne : h ≠ d := fun e => by subst e; exact h2 h1
    rw [if_neg (by simp), ord_cons_nil, List.nil_append, List.cons_append, ord_cons, if_neg hne, if_neg h2]
  | h :: a, g :: b, c, d, x, y, ha, hb => by
    have ih := ord_ends a b c d x y (fun q hq => ha q (List.mem_cons_of_mem _ hq)) (fun q hq => hb q (List.mem_cons_of_mem _ hq))
    rw [List.cons_append, List.cons_append, ord_cons h g (a ++ c :: x) (b ++ d :: y), ord_cons h g a b, ih]
    by_cases e : h = g
    · subst e
      rw [if_pos rfl, if_pos rfl]
      by_cases e2 : a = b
      · rw [if_pos e2, if_pos (by rw [e2])]
      · rw [if_neg e2, if_neg (by simpa using e2)]
    · rw [if_neg e, if_neg e, if_neg (show ¬ (h :: a = g :: b) from fun q => e (by injection q))]

theorem ord_eq_zero : ∀ {a b : List UInt8}, ord a b = 0 → a = b
  | [], [], _ => rfl
  | [], g :: b, h => by rw [ord_nil_cons] at h; exact absurd h (by decide)
  | x :: a, [], h => by rw [ord_cons_nil] at h; exact absurd h (by decide)
  | x :: a, g :: b, h => by
    rw [ord_cons] at h
    by_cases e : x = g
    · subst e
      rw [if_pos rfl] at h
      rw [ord_eq_zero h]
    · rw [if_neg e] at h
      split at h <;> exact absurd h (by decide)
end Go.Proofs.YtmlclmbplbbbhaaDoor.Lem
