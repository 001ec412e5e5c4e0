/- The statement's own text and the last of the walks that it uses. -/
import Derived.Deep.RegionHeld3
import Derived.Laws.BitsAllLaws
import Derived.Lib.SlTrimSet
import Derived.ChangeArms
import Derived.ChangeSlices
import Derived.DataReads
import Derived.Lib.SlicesCompact
import Derived.Test.YtdkokfnnebdppaaRows
import Derived.WalkKit
import Derived.ProofKit
import Derived.OpenShut
import Derived.ChangeOld
import Derived.Below
import Derived.Handed
import Derived.SizedLaws
import Derived.RowKit
import Derived.Test.YtdkokfnnebdppaaMPE4

-- written by a program of this session's (wip/pp)
namespace Go.Proofs.Ytdkokfnnebdppaa.P
open Go.RowKit Go.Proofs.YtdkokfnnebdppaaW.PrintWords Go.Proofs.YtdkokfnnebdppaaW.PrintLast Go.Proofs.YtdkokfnnebdppaaW.PrintMore
attribute [local go_sem] max2_int min2_int max_two min_two max_three min_three max_four min_four str_geq str_gtr str_leq   -- for this text's walks alone
set_option linter.unusedVariables false
set_option linter.unusedSimpArgs false

/-! ### laws_toEntryS: function 9 -/
def laws_toEntryS.l0 : Nat → List (S41) → List (S45) → Int → Option ((List (S45)))
 | 0, _, _, _ => none
 | k + 1, x0, x3, x4 => if x4 < (x0.length : Int) then (if 0 ≤ x4 then ((laws_toEntry.f k ((rd_T41 x0 x4).f0) ((rd_T41 x0 x4).f1) ((rd_T41 x0 x4).f2) ((rd_T41 x0 x4).f3.f0) ((rd_T41 x0 x4).f3.f1) ((rd_T41 x0 x4).f3.f2) ((rd_T41 x0 x4).f3.f3) ((rd_T41 x0 x4).f3.f4) ((rd_T41 x0 x4).f3.f5)).bind fun bt105 => (if x4 < (x3.length : Int) then (laws_toEntryS.l0 k x0 (x3.set (x4 : Int).toNat (⟨bt105.1, bt105.2.1, bt105.2.2.1, (⟨bt105.2.2.2.1, bt105.2.2.2.2.1, bt105.2.2.2.2.2.1, bt105.2.2.2.2.2.2.1, bt105.2.2.2.2.2.2.2.1, bt105.2.2.2.2.2.2.2.2⟩ : S26)⟩ : S45)) (wrap64 (x4 + 1))) else (none))) else (none)) else (some x3)
def laws_toEntryS.f (k : Nat) (l0 : List (S41)) : Option ((List (S45))) := if 0 ≤ (l0.length : Int) then (if ((l0.length : Int) : Int).toNat ≤ 2932031007402 then (laws_toEntryS.l0 k l0 (List.replicate ((l0.length : Int) : Int).toNat z45) 0) else (none)) else (none)
theorem laws_toEntryS.mono_l : ∀ k, (∀ y0 y1 y2, LeO (laws_toEntryS.l0 k y0 y1 y2) (laws_toEntryS.l0 (k + 1) y0 y1 y2))
 | 0 => fun _ _ _ r h => by simp [laws_toEntryS.l0] at h
 | k + 1 => by
  have ih0 := laws_toEntryS.mono_l k
  · intro y0 y1 y2
    unfold laws_toEntryS.l0
    repeat' first
     | (with_reducible first | exact ih0 .. | exact laws_toEntry.mono .. | exact LeO.refl _ | exact LeO.none _ | refine LeO.ite ?_ ?_ | refine LeO.bind ?_ (fun _ => ?_))
     | exact LeO.none _
     | refine LeO.ite ?_ ?_
     | refine LeO.bind ?_ (fun _ => ?_)
theorem laws_toEntryS.mono : ∀ a0 k, LeO (laws_toEntryS.f k a0) (laws_toEntryS.f (k + 1) a0) := by
 intro a0 k
 have ih0 := laws_toEntryS.mono_l k
 unfold laws_toEntryS.f
 repeat' first
  | (with_reducible first | exact ih0 .. | exact laws_toEntry.mono .. | exact LeO.refl _ | exact LeO.none _ | refine LeO.ite ?_ ?_ | refine LeO.bind ?_ (fun _ => ?_))
  | exact LeO.none _
  | refine LeO.ite ?_ ?_
  | refine LeO.bind ?_ (fun _ => ?_)
set_option maxHeartbeats 8000000 in
set_option maxRecDepth 100000 in
theorem laws_toEntryS.calls (k : Nat) (A0 : Option Addr) (c0 : Nat) (l0 : List (S41)) (r : List (S45)) (w : World) (hr0 : Kd.C k41 w A0 l0.length l0) (hc0 : l0.length ≤ c0) (h : laws_toEntryS.f k l0 = some r) :
 Calls Try.prog 9 #[.slice A0 l0.length c0] w fun e w' => ∃ v0_ : Value, e = .returned (v0_) ∧ Kd.S k45 45 w' w.heap.size (fun _ => True) v0_ r ∧ Below w.heap.size w w' := by
 have hu41 := Try.underlying41
 have hu45 := Try.underlying45
 have HR0 := aM hr0
 have HC0 := aM hc0
 clear hr0 hc0
 have HB := aM (Below.refl w.heap.size w)
 have H : (if 0 ≤ (l0.length : Int) then (if ((l0.length : Int) : Int).toNat ≤ 2932031007402 then (laws_toEntryS.l0 k l0 (List.replicate ((l0.length : Int) : Int).toNat z45) 0) else (none)) else (none)) = some r := h
 clear h
 replace H := ifS H; obtain ⟨c2, H⟩ := H
 have c2b0 := eq_true c2
 have c2b1 : decide (0 ≤ (l0.length : Int)) = true := decide_eq_true c2
 clear c2
 replace H := ifS H; obtain ⟨c3, H⟩ := H
 have c3b0 := eq_true c3
 have c3b1 : decide (((l0.length : Int) : Int).toNat ≤ 2932031007402) = true := decide_eq_true c3
 clear c3
 obtain ⟨y101, hy101⟩ : ∃ y_ : List (S45), y_ = (List.replicate ((l0.length : Int) : Int).toNat z45) := ⟨_, rfl⟩
 first | (replace H := bindS H; rw [← hy101] at H; try dsimp only at H) | rw [← hy101] at H
 have Ny101 := aM hy101
 clear hy101
 have H' := aM H
 clear H
 go_enter Try.func9, Try.ntmps9
 go_wp2_with (first | ((with_reducible refine gate_dst (N := 7) rfl ?_); refine Kd.S_make k45 _ 45 rfl (N := 7) rfl 29 _ _ rfl (l0.length : Int) rfl rfl Try.underlying29 (.agg #[(.string ⟨#[]⟩), (.int .i64 0), (.int .i64 0), (.int .i64 0), (.int .i64 0), (.int .i64 0), (.int .i64 0), (.slice none 0 0), (.bool false)]) 96 info45 rfl (by decide) (by omega) z45 (ok := fun _ => True) (okp := fun _ => True) (k45_mkM _ _ _ z45 (Kd.R_nil _ _ _ _ _)) (fun _ hk => hk) trivial (of_decide_eq_true z1200) (Nat.le_trans (Nat.mul_le_mul_right _ (of_decide_eq_true z1200 : (l0.length : Int).toNat ≤ 2932031007402)) (by omega)) (Below.refl _ _) (Nat.le_refl _) ?_; intro v102 w4 ho5 hb hg_ hnew_; clear hg_ hnew_; (first | rw [← Ny101.out] at ho5 | (simp only [Int.reduceToNat] at ho5; rw [← Ny101.out] at ho5)); have _ := aM (Kd.S_lower ho5 (below_size hbZ)); have _ := aM (below_step hbZ hb); clear HB; rename_i HO103 HB; clear hb ho5))
 go_loopg [4] k (fun kq v4 w' => ∃ (x3_1 : List (S45)) (x4_1 : Int), v4 = .int .i64 x4_1 ∧ Aside0 (laws_toEntryS.l0 kq l0 x3_1 x4_1 = some r) ∧ Aside0 (kq ≤ k) ∧ Aside0 (Kd.S k45 45 w' w.heap.size (fun _ => True) v102 x3_1) ∧ Aside0 (Below w.heap.size w w'))
 case atStart => exact ⟨(y101), (0), z4458, H', ⟨Nat.le_refl _⟩, ⟨z1bd3⟩, ⟨z5acd⟩⟩
 case round =>
  clear H'
  try clear c2
  try clear c2b0
  try clear c2b1
  try clear p2
  try clear c3
  try clear c3b0
  try clear c3b1
  obtain ⟨x3_1, x4_1, rfl, HA, HK1, HO_3, HB⟩ := hrel
  cases gk with
  | zero => exact absurd HA.out (by simp [laws_toEntryS.l0])
  | succ k1 =>
   have H := HA.out
   clear HA
   simp only [laws_toEntryS.l0] at H
   by_cases c6 : x4_1 < (l0.length : Int)
   · rw [if_pos c6] at H
     have c6b0 : decide (x4_1 < (l0.length : Int)) = true := decide_eq_true c6
     clear c6
     replace H := ifS H; obtain ⟨c7, H⟩ := H
     have c7b0 : decide (0 ≤ x4_1) = true := decide_eq_true c7
     clear c7
     replace H := Option.bind_eq_some_iff.mp H
     obtain ⟨⟨t105, t106, t107, t108, t109, t110, t111, t112, t115⟩, A80, H⟩ := H
     try dsimp only at H
     have A8 := aM A80
     clear A80
     replace H := ifS H; obtain ⟨c9, H⟩ := H
     have c9b0 : decide (x4_1 < (x3_1.length : Int)) = true := decide_eq_true c9
     clear c9
     obtain ⟨y116, hy116⟩ : ∃ y_ : List (S45), y_ = (x3_1.set (x4_1 : Int).toNat (⟨t105, t106, t107, (⟨t108, t109, t110, t111, t112, t115⟩ : S26)⟩ : S45)) := ⟨_, rfl⟩
     first | (replace H := bindS H; rw [← hy116] at H; try dsimp only at H) | rw [← hy116] at H
     have Ny116 := aM hy116
     clear hy116
     have H' := aM H
     clear H
     have p104 : 0 ≤ (x4_1 : Int) := of_decide_eq_true z1200
     have q104 : x4_1 < (l0.length : Int) := of_decide_eq_true z1200
     obtain ⟨ad104, A104_7, c104_7, e104, hx104_0, hx104_1, hx104_2, hx104_3, hx104_4, hx104_5, hx104_6, hx104_7, hx104_8, hl104_7, hi104_7⟩ := at_T41 HR0.out x4_1 p104 q104
     cases e104
     have TW104_7 := aM hx104_7
     replace hx104_0 := (HB.out.cell (World.block_lt_of_cell? w _ hx104_0)).trans hx104_0
     replace hx104_1 := (HB.out.cell (World.block_lt_of_cell? w _ hx104_1)).trans hx104_1
     replace hx104_2 := (HB.out.cell (World.block_lt_of_cell? w _ hx104_2)).trans hx104_2
     replace hx104_3 := (HB.out.cell (World.block_lt_of_cell? w _ hx104_3)).trans hx104_3
     replace hx104_4 := (HB.out.cell (World.block_lt_of_cell? w _ hx104_4)).trans hx104_4
     replace hx104_5 := (HB.out.cell (World.block_lt_of_cell? w _ hx104_5)).trans hx104_5
     replace hx104_6 := (HB.out.cell (World.block_lt_of_cell? w _ hx104_6)).trans hx104_6
     replace hx104_7 := (HB.out.cell (World.block_lt_of_cell? w _ hx104_7)).trans hx104_7
     replace hx104_8 := (HB.out.cell (World.block_lt_of_cell? w _ hx104_8)).trans hx104_8
     have HR104_7 := aM hi104_7
     have HC104_7 := aM hl104_7
     clear hi104_7 hl104_7
     replace p104 := eq_true p104
     replace q104 := eq_true q104
     go_wp2_with (first | ((with_reducible refine gate_callee (f := 21) rfl ?_); refine goesL_ (some 20) rfl rfl Try.func21 (by kernel_rfl) rfl #[.agg #[.string ((rd_T41 l0 x4_1).f0), .int .i64 ((rd_T41 l0 x4_1).f1), .int .i64 ((rd_T41 l0 x4_1).f2), .int .i64 ((rd_T41 l0 x4_1).f3.f0), .int .i64 ((rd_T41 l0 x4_1).f3.f1), .int .i64 ((rd_T41 l0 x4_1).f3.f2), .int .i64 ((rd_T41 l0 x4_1).f3.f3), .slice A104_7 ((rd_T41 l0 x4_1).f3.f4).length c104_7, .bool ((rd_T41 l0 x4_1).f3.f5)]] rfl zee81 ?_; (with_reducible refine (laws_toEntry.calls k1 ((rd_T41 l0 x4_1).f0) ((rd_T41 l0 x4_1).f1) ((rd_T41 l0 x4_1).f2) ((rd_T41 l0 x4_1).f3.f0) ((rd_T41 l0 x4_1).f3.f1) ((rd_T41 l0 x4_1).f3.f2) ((rd_T41 l0 x4_1).f3.f3) _ _ ((rd_T41 l0 x4_1).f3.f4) ((rd_T41 l0 x4_1).f3.f5) t105 t106 t107 t108 t109 t110 t111 t112 t115 _ ?side1 ?side2 A8.out).mono ?_); (case side1 => exact (cZ (Kd.C_below HR104_7.out HB.out))); (case side2 => exact HC104_7.out); rintro e w11 ⟨v113, rfl, ho0, hb⟩; refine ⟨_, rfl, ?_⟩; have _ := aM (Kd.S_elder' (by (with_reducible repeat (first | apply Kd.S_alloc | apply Kd.S_drewN | apply Kd.S_drew)); exact HO_3.out) (Kd.R_base ho0) hb); have _ := aM (Kd.R_lower ho0 (below_size hbZ)); have _ := aM (below_step hbZ hb); clear HO_3 HB; rename_i HO_3 HO114 HB; (try clear hb); (try clear ho0); have p10 : 0 ≤ (x4_1 : Int) := of_decide_eq_true z1200; have q10 : (x4_1 : Int) < ((x3_1.length : Int) : Int) := of_decide_eq_true z1200; obtain ⟨go10, co10, eo10, gb10, gl10, cl10, HG10⟩ := Kd.S_form HO_3.out (by omega); (first | cases eo10 | (injection eo10 with ea_ en_ ec_; (first | subst ea_ | (injection ea_ with ea_; subst ea_)); subst ec_; clear en_)); have GB10 := aM gb10; have GG10 := aM HG10; clear gb10 gl10 HG10; obtain ⟨_, ce10, hcl10, hM10, hcc10, hfr10, _, _⟩ := Kd.S_elem HO_3.out z45 (x4_1 : Int) p10 q10; obtain ⟨ve10_7, rfl, ge10_7⟩ := k45_openM hM10; have hx10_0 : w11.cell? ⟨go10, (x4_1 : Int).toNat * 9, none⟩ = some (.string ((rd_T45 x3_1 x4_1).f0)) := hcc10 0 _ rfl; have hx10_1 : w11.cell? ⟨go10, (x4_1 : Int).toNat * 9 + 1, none⟩ = some (.int .i64 ((rd_T45 x3_1 x4_1).f1)) := hcc10 1 _ rfl; have hx10_2 : w11.cell? ⟨go10, (x4_1 : Int).toNat * 9 + 2, none⟩ = some (.int .i64 ((rd_T45 x3_1 x4_1).f2)) := hcc10 2 _ rfl; have hx10_3 : w11.cell? ⟨go10, (x4_1 : Int).toNat * 9 + 3, none⟩ = some (.int .i64 ((rd_T45 x3_1 x4_1).f3.f0)) := hcc10 3 _ rfl; have hx10_4 : w11.cell? ⟨go10, (x4_1 : Int).toNat * 9 + 4, none⟩ = some (.int .i64 ((rd_T45 x3_1 x4_1).f3.f1)) := hcc10 4 _ rfl; have hx10_5 : w11.cell? ⟨go10, (x4_1 : Int).toNat * 9 + 5, none⟩ = some (.int .i64 ((rd_T45 x3_1 x4_1).f3.f2)) := hcc10 5 _ rfl; have hx10_6 : w11.cell? ⟨go10, (x4_1 : Int).toNat * 9 + 6, none⟩ = some (.int .i64 ((rd_T45 x3_1 x4_1).f3.f3)) := hcc10 6 _ rfl; have hx10_7 : w11.cell? ⟨go10, (x4_1 : Int).toNat * 9 + 7, none⟩ = some (ve10_7) := hcc10 7 _ rfl; have hx10_8 : w11.cell? ⟨go10, (x4_1 : Int).toNat * 9 + 8, none⟩ = some (.bool ((rd_T45 x3_1 x4_1).f3.f5)) := hcc10 8 _ rfl; have hf10_0 : w11.frozen? ⟨go10, (x4_1 : Int).toNat * 9, none⟩ = false := hfr10 0; have hf10_1 : w11.frozen? ⟨go10, (x4_1 : Int).toNat * 9 + 1, none⟩ = false := hfr10 1; have hf10_2 : w11.frozen? ⟨go10, (x4_1 : Int).toNat * 9 + 2, none⟩ = false := hfr10 2; have hf10_3 : w11.frozen? ⟨go10, (x4_1 : Int).toNat * 9 + 3, none⟩ = false := hfr10 3; have hf10_4 : w11.frozen? ⟨go10, (x4_1 : Int).toNat * 9 + 4, none⟩ = false := hfr10 4; have hf10_5 : w11.frozen? ⟨go10, (x4_1 : Int).toNat * 9 + 5, none⟩ = false := hfr10 5; have hf10_6 : w11.frozen? ⟨go10, (x4_1 : Int).toNat * 9 + 6, none⟩ = false := hfr10 6; have hf10_7 : w11.frozen? ⟨go10, (x4_1 : Int).toNat * 9 + 7, none⟩ = false := hfr10 7; have hf10_8 : w11.frozen? ⟨go10, (x4_1 : Int).toNat * 9 + 8, none⟩ = false := hfr10 8; clear hcl10 hcc10 hfr10 hM10; replace p10 := eq_true p10; replace q10 := eq_true q10; obtain ⟨Ao14, co14, eo14⟩ := Kd.R_slice HO114.out; subst eo14; have n_ := aM (Kd.S_mono (ok' := (fun k_ => some k_ ≠ (.slice Ao14 t112.length co14 : Value).ownBlock)) HO_3.out (fun k_ hk => hk.2)); clear HO_3; have HO_3 := n_; clear n_; have HX12 := aM (show Kd.S k45 45 w11 w.heap.size (fun k_ => ((fun _ => True)) k_ ∧ ¬ ((fun k_ => some k_ = (.slice Ao14 t112.length co14 : Value).ownBlock)) k_) (.slice (some ⟨go10, 0, none⟩) x3_1.length co10) x3_1 from (by (with_reducible repeat (first | apply Kd.S_alloc | apply Kd.S_drewN | apply Kd.S_drew)); exact Kd.S_mono HO_3.out (fun k_ hk => ⟨trivial, fun e_ => hk e_⟩))); obtain ⟨oki12, ce12, hcl12, hM12, hcc12, hfr12, hoki12, hH12⟩ := Kd.S_elem HX12.out z45 (x4_1 : Int) (of_decide_eq_true z1200) (by have h_ : (x4_1 : Int) < ((x3_1.length : Int) : Int) := of_decide_eq_true z1200; first | exact h_ | (have e_ := (Kd.S_reads' HO_3.out).1; omega) | simpa using h_); obtain ⟨ve12_7, rfl, ge12_7⟩ := k45_openM hM12; have HP12 := Kd.S_seg hH12 (of_decide_eq_true z1200) (by have h_ : (x4_1 : Int) < ((x3_1.length : Int) : Int) := of_decide_eq_true z1200; first | exact h_ | (have e_ := (Kd.S_reads' HO_3.out).1; omega) | simpa using h_) (seg := [.string t105, .int .i64 t106, .int .i64 t107, .int .i64 t108, .int .i64 t109, .int .i64 t110, .int .i64 t111, .slice Ao14 t112.length co14, .bool t115]) (j := 0) (show 9 ≤ 9 from by decide) (x' := (⟨t105, t106, t107, (⟨t108, t109, t110, t111, t112, t115⟩ : S26)⟩ : S45)) (k45_mkM _ _ _ (⟨t105, t106, t107, (⟨t108, t109, t110, t111, t112, t115⟩ : S26)⟩ : S45) (Kd.R_mono (Kd.R_tight rfl (Kd.R_mono (ok' := fun k_ => ((fun _ => True)) k_ ∧ k_ ≠ go10) (Kd.R_apart' (HO114.out) (Kd.S_typed HO_3.out) (by decide)) (fun k_ hk => ⟨trivial, fun e_ => (hk.2) (by rw [e_]; rfl)⟩))) (fun _ h_ => Or.inr (h_)))) (fun _ hk => hk) (fun k_ hk_ => ((Kd.R_mono (ok' := fun k_ => ((fun _ => True)) k_ ∧ k_ ≠ go10) (Kd.R_apart' (HO114.out) (Kd.S_typed HO_3.out) (by decide)) (fun k_ hk => ⟨trivial, fun e_ => (hk.2) (by rw [e_]; rfl)⟩))).1 k_ hk_.symm); have hx12_0 := hcc12 0 _ rfl; (try simp only [show (k45).sz = 9 from rfl, Nat.mul_one, Nat.add_zero] at hx12_0); have hf12_0 := hfr12 0; (try simp only [show (k45).sz = 9 from rfl, Nat.mul_one, Nat.add_zero] at hf12_0); have hx12_1 := hcc12 1 _ rfl; (try simp only [show (k45).sz = 9 from rfl, Nat.mul_one, Nat.add_zero] at hx12_1); have hf12_1 := hfr12 1; (try simp only [show (k45).sz = 9 from rfl, Nat.mul_one, Nat.add_zero] at hf12_1); have hx12_2 := hcc12 2 _ rfl; (try simp only [show (k45).sz = 9 from rfl, Nat.mul_one, Nat.add_zero] at hx12_2); have hf12_2 := hfr12 2; (try simp only [show (k45).sz = 9 from rfl, Nat.mul_one, Nat.add_zero] at hf12_2); have hx12_3 := hcc12 3 _ rfl; (try simp only [show (k45).sz = 9 from rfl, Nat.mul_one, Nat.add_zero] at hx12_3); have hf12_3 := hfr12 3; (try simp only [show (k45).sz = 9 from rfl, Nat.mul_one, Nat.add_zero] at hf12_3); have hx12_4 := hcc12 4 _ rfl; (try simp only [show (k45).sz = 9 from rfl, Nat.mul_one, Nat.add_zero] at hx12_4); have hf12_4 := hfr12 4; (try simp only [show (k45).sz = 9 from rfl, Nat.mul_one, Nat.add_zero] at hf12_4); have hx12_5 := hcc12 5 _ rfl; (try simp only [show (k45).sz = 9 from rfl, Nat.mul_one, Nat.add_zero] at hx12_5); have hf12_5 := hfr12 5; (try simp only [show (k45).sz = 9 from rfl, Nat.mul_one, Nat.add_zero] at hf12_5); have hx12_6 := hcc12 6 _ rfl; (try simp only [show (k45).sz = 9 from rfl, Nat.mul_one, Nat.add_zero] at hx12_6); have hf12_6 := hfr12 6; (try simp only [show (k45).sz = 9 from rfl, Nat.mul_one, Nat.add_zero] at hf12_6); have hx12_7 := hcc12 7 _ rfl; (try simp only [show (k45).sz = 9 from rfl, Nat.mul_one, Nat.add_zero] at hx12_7); have hf12_7 := hfr12 7; (try simp only [show (k45).sz = 9 from rfl, Nat.mul_one, Nat.add_zero] at hf12_7); have hx12_8 := hcc12 8 _ rfl; (try simp only [show (k45).sz = 9 from rfl, Nat.mul_one, Nat.add_zero] at hx12_8); have hf12_8 := hfr12 8; (try simp only [show (k45).sz = 9 from rfl, Nat.mul_one, Nat.add_zero] at hf12_8); clear hcl12 hcc12 hfr12 hM12 hoki12 hH12) | ((with_reducible refine gate_store (t := 45) (p := 21) rfl ?_); refine store_event (t := 45) (p := 21) (v := ?vo_w13) (w1 := (((((((((w11.setCell ⟨go10, (x4_1 : Int).toNat * 9, none⟩ (.string t105)).setCell ⟨go10, (x4_1 : Int).toNat * 9 + 1, none⟩ (.int .i64 t106)).setCell ⟨go10, (x4_1 : Int).toNat * 9 + 2, none⟩ (.int .i64 t107)).setCell ⟨go10, (x4_1 : Int).toNat * 9 + 3, none⟩ (.int .i64 t108)).setCell ⟨go10, (x4_1 : Int).toNat * 9 + 4, none⟩ (.int .i64 t109)).setCell ⟨go10, (x4_1 : Int).toNat * 9 + 5, none⟩ (.int .i64 t110)).setCell ⟨go10, (x4_1 : Int).toNat * 9 + 6, none⟩ (.int .i64 t111)).setCell ⟨go10, (x4_1 : Int).toNat * 9 + 7, none⟩ (.slice Ao14 t112.length co14)).setCell ⟨go10, (x4_1 : Int).toNat * 9 + 8, none⟩ (.bool t115))) ?hg ?ho ?hn ?hr ?_; (case ho => rfl); (case hg => rfl); (case hn => rfl); (case hr => first | (go_simp; done) | (go_simp; rfl)); intro w13 hw; have hg : w11.grownBy w13 (some go10) := (by rw [hw]; exact HP12.2); have hp_ : Kd.S k45 45 w13 w.heap.size (fun _ => True) (.slice (some ⟨go10, 0, none⟩) x3_1.length co10) y116 := (by rw [hw, Ny116.out]; exact HP12.1); clear HP12; have _ := aM hp_; have _ := aM ((by rw [hw]; exact below_set (below_set (below_set (below_set (below_set (below_set (below_set (below_set (below_set (HB.out) GB10.out) GB10.out) GB10.out) GB10.out) GB10.out) GB10.out) GB10.out) GB10.out) GB10.out : Below w.heap.size w w13)); clear HO_3 HB HO114; rename_i HO_3 HB; clear hg hw hp_))
     go_roundg k1
     case measure => have := HK1.out; omega
     case rel => exact ⟨(y116), (wrap64 (x4_1 + 1)), z4458, H', ⟨zfb39⟩, ⟨by (with_reducible repeat (first | apply Kd.S_alloc | apply Kd.S_drewN | apply Kd.S_drew)); exact HO_3.out⟩, ⟨z5acd⟩⟩
   · rw [if_neg c6] at H
     have c6b0 : decide (x4_1 < (l0.length : Int)) = false := decide_eq_false c6
     clear c6
     obtain rfl := Option.some.inj H
     go_wp2
     go_ret
     exact ⟨_, z674d, by (with_reducible repeat (first | apply Kd.S_alloc | apply Kd.S_drewN | apply Kd.S_drew)); exact HO_3.out, z5acd⟩
end Go.Proofs.Ytdkokfnnebdppaa.P

/- laws.FnExactPutEntry: its walk, over what its callees answer. No conditions of its own. -/
namespace Go.Proofs.Ytdkokfnnebdppaa.P
open Go.RowKit Go.Proofs.YtdkokfnnebdppaaW.PrintWords Go.Proofs.YtdkokfnnebdppaaW.PrintLast Go.Proofs.YtdkokfnnebdppaaW.PrintMore
set_option linter.unusedVariables false
set_option linter.unusedSimpArgs false
/-- What the callees answer. -/
def laws_FnExactPutEntry.Ok (k : Nat) (l0 : List S41) (a1_0 : ByteArray) (a1_1 : Int) (a1_2 : Int) (a1_3 : Int) (a1_4 : Int) (a1_5 : Int) (a1_6 : Int) (l1_7 : List Int) (a1_8 : Bool) : Prop := ∃ q1 : Int, laws_szEntryS.f k l0 1048576 = some q1 ∧ (q1 < 0 ∨ (0 ≤ q1 ∧ ∃ q2 : Int, laws_szEntry.f a1_0 a1_1 a1_2 a1_3 a1_4 a1_5 a1_6 l1_7 a1_8 q1 = some q2 ∧ (q2 < 0 ∨ (0 ≤ q2 ∧ ∃ (q3 : List (S45)) (q4 : ByteArray) (q5 : Int) (q6 : Int) (q7 : Int) (q8 : Int) (q9 : Int) (q10 : Int) (q11 : List Int) (q12 : Bool) (q13 : List (S45)) (q14 : Bool) (q15 : Int) (q16 : List S45) (q17 : Int) (q18 : List Int) (q19 : Int) (q20 : List S45), laws_toEntryS.f k l0 = some q3 ∧ laws_toEntry.f k a1_0 a1_1 a1_2 a1_3 a1_4 a1_5 a1_6 l1_7 a1_8 = some (q4, q5, q6, q7, q8, q9, q10, q11, q12) ∧ spec_PutEntry.f k q3 q4 q5 q6 q7 q8 q9 q10 q11 q12 = some (q13, q14) ∧ impl_PutEntry.f k q3 q4 q5 q6 q7 q8 q9 q10 q11 q12 = some (q13, q14) ∧ laws_eqEntryS.f k q13 q13 = some true ∧ laws_eqEntryS.f k q3 q3 = some true ∧ laws_eqEntry.f k q4 q5 q6 q7 q8 q9 q10 q11 q12 q4 q5 q6 q7 q8 q9 q10 q11 q12 = some true ∧ laws_markEntryS.f k q3 1 = some (q15, q16) ∧ laws_markEntry.f k q4 q5 q6 q7 q8 q9 q10 q11 q12 q15 = some (q17, q18) ∧ laws_markEntryS.f k q13 1 = some (q19, q20) ∧ laws_heldEntryS.f k q20 1 = some q19 ∧ 0 ≤ q15 ∧ 0 ≤ q17 ∧ 0 ≤ q19))))
set_option maxHeartbeats 8000000 in
set_option maxRecDepth 100000 in
theorem laws_FnExactPutEntry.calls (k : Nat) (A0 : Option Addr) (c0 : Nat) (l0 : List S41) (a1_0 : ByteArray) (a1_1 : Int) (a1_2 : Int) (a1_3 : Int) (a1_4 : Int) (a1_5 : Int) (a1_6 : Int) (A1_7 : Option Addr) (c1_7 : Nat) (l1_7 : List Int) (a1_8 : Bool) (w : World) (hr0 : Kd.C k41 w A0 l0.length l0) (hc0 : l0.length ≤ c0) (hr1_7 : Kd.C (Kd.int .i64) w A1_7 l1_7.length l1_7) (hc1_7 : l1_7.length ≤ c1_7) (h : laws_FnExactPutEntry.Ok k l0 a1_0 a1_1 a1_2 a1_3 a1_4 a1_5 a1_6 l1_7 a1_8) :
 Calls Try.prog 5 #[.slice A0 l0.length c0, .agg #[.string a1_0, .int .i64 a1_1, .int .i64 a1_2, .int .i64 a1_3, .int .i64 a1_4, .int .i64 a1_5, .int .i64 a1_6, .slice A1_7 l1_7.length c1_7, .bool a1_8]] w fun e w' => e = .returned (.bool true) ∧ Below w.heap.size w w' := by
 unfold laws_FnExactPutEntry.Ok at h
 have HB := aM (Below.refl w.heap.size w)
 have HR0 := aM hr0
 have HC0 := aM hc0
 clear hr0 hc0
 have HR1_7 := aM hr1_7
 have HC1_7 := aM hc1_7
 clear hr1_7 hc1_7
 obtain ⟨q1, e0_, h⟩ := h
 have HE1 := aM e0_
 clear e0_
 rcases h with h | ⟨h0, h⟩
 · have c0_ : decide (q1 < 0) = true := decide_eq_true h
   clear h
   go_enter Try.func5, Try.ntmps5
   go_wp2_with (first | ((with_reducible refine gate_dst (N := 3) rfl ?_); refine box_event ?hg (N := 3) ?hd (cs := #[.string a1_0, .int .i64 a1_1, .int .i64 a1_2, .int .i64 a1_3, .int .i64 a1_4, .int .i64 a1_5, .int .i64 a1_6, .slice A1_7 l1_7.length c1_7, .bool a1_8]) (t := 41) ?hr ?_; (case hd => rfl); (case hg => rfl); (case hr => first | (go_simp; done) | (go_simp; rfl)); intro b1_ hg wv1 hbox hb; have LO1 := aM (Loc.box hbox); have el_ := hg; have ORLO1 := aM (show w.heap.size ≤ b1_ from (by first | (rw [el_]; exact HB.out.size))); have OQLO1 := aM (show b1_ ≤ (b1_ + 1) from Nat.le_succ _); have HWLO1 := aM (show w.heap.size ≤ b1_ from (by rw [hg]; exact HB.out.size)); replace HB := aM (below_after HB.out hb); clear hg hbox hb el_) | ((with_reducible refine gate_callee (f := 7) rfl ?_); refine goesL_ (some 19) rfl rfl Try.func7 (by kernel_rfl) rfl #[.slice A0 l0.length c0, .int .i64 1048576] rfl zee81 ?_; (with_reducible refine (laws_szEntryS.calls k _ _ l0 1048576 q1 _ ?s1 ?s2 HE1.out).mono ?_); (case s1 => exact Kd.C_below HR0.out HB.out); (case s2 => exact HC0.out); rintro e wv2 ⟨he_, hb⟩; subst he_; refine ⟨_, rfl, ?_⟩; replace LO1 := aM (LO1.out.below hb); replace HB := aM (below_after HB.out hb); clear hb))
   go_ret
   exact ⟨rfl, HB.out⟩
 have c0_ : decide (q1 < 0) = false := decide_eq_false (by omega)
 clear h0
 obtain ⟨q2, e1_, h⟩ := h
 have HE2 := aM e1_
 clear e1_
 rcases h with h | ⟨h1, h⟩
 · have c1_ : decide (q2 < 0) = true := decide_eq_true h
   clear h
   go_enter Try.func5, Try.ntmps5
   go_wp2_with (first | ((with_reducible refine gate_dst (N := 3) rfl ?_); refine box_event ?hg (N := 3) ?hd (cs := #[.string a1_0, .int .i64 a1_1, .int .i64 a1_2, .int .i64 a1_3, .int .i64 a1_4, .int .i64 a1_5, .int .i64 a1_6, .slice A1_7 l1_7.length c1_7, .bool a1_8]) (t := 41) ?hr ?_; (case hd => rfl); (case hg => rfl); (case hr => first | (go_simp; done) | (go_simp; rfl)); intro b1_ hg wv1 hbox hb; have LO1 := aM (Loc.box hbox); have el_ := hg; have ORLO1 := aM (show w.heap.size ≤ b1_ from (by first | (rw [el_]; exact HB.out.size))); have OQLO1 := aM (show b1_ ≤ (b1_ + 1) from Nat.le_succ _); have HWLO1 := aM (show w.heap.size ≤ b1_ from (by rw [hg]; exact HB.out.size)); replace HB := aM (below_after HB.out hb); clear hg hbox hb el_) | ((with_reducible refine gate_callee (f := 7) rfl ?_); refine goesL_ (some 19) rfl rfl Try.func7 (by kernel_rfl) rfl #[.slice A0 l0.length c0, .int .i64 1048576] rfl zee81 ?_; (with_reducible refine (laws_szEntryS.calls k _ _ l0 1048576 q1 _ ?s1 ?s2 HE1.out).mono ?_); (case s1 => exact Kd.C_below HR0.out HB.out); (case s2 => exact HC0.out); rintro e wv2 ⟨he_, hb⟩; subst he_; refine ⟨_, rfl, ?_⟩; replace LO1 := aM (LO1.out.below hb); replace HB := aM (below_after HB.out hb); clear hb; obtain ⟨hcLO1_0, hcLO1_1, hcLO1_2, hcLO1_3, hcLO1_4, hcLO1_5, hcLO1_6, hcLO1_7, hcLO1_8, hfLO1_0, hfLO1_1, hfLO1_2, hfLO1_3, hfLO1_4, hfLO1_5, hfLO1_6, hfLO1_7, hfLO1_8⟩ := cellsZ9 LO1.out.now) | ((with_reducible refine gate_callee (f := 19) rfl ?_); refine goesL_ (some 24) rfl rfl Try.func19 (by kernel_rfl) rfl #[.agg #[.string a1_0, .int .i64 a1_1, .int .i64 a1_2, .int .i64 a1_3, .int .i64 a1_4, .int .i64 a1_5, .int .i64 a1_6, .slice A1_7 l1_7.length c1_7, .bool a1_8], .int .i64 q1] rfl zee81 ?_; (with_reducible refine (laws_szEntry.calls a1_0 a1_1 a1_2 a1_3 a1_4 a1_5 a1_6 _ _ l1_7 a1_8 q1 q2 _ ?s1 ?s2 HE2.out).mono ?_); (case s1 => exact Kd.C_below HR1_7.out HB.out); (case s2 => exact HC1_7.out); rintro e wv3 ⟨he_, hb⟩; subst he_; refine ⟨_, rfl, ?_⟩; (try clear hcLO1_0 hcLO1_1 hcLO1_2 hcLO1_3 hcLO1_4 hcLO1_5 hcLO1_6 hcLO1_7 hcLO1_8 hfLO1_0 hfLO1_1 hfLO1_2 hfLO1_3 hfLO1_4 hfLO1_5 hfLO1_6 hfLO1_7 hfLO1_8); replace LO1 := aM (LO1.out.below hb); replace HB := aM (below_after HB.out hb); clear hb))
   go_ret
   exact ⟨rfl, HB.out⟩
 have c1_ : decide (q2 < 0) = false := decide_eq_false (by omega)
 clear h1
 obtain ⟨q3, q4, q5, q6, q7, q8, q9, q10, q11, q12, q13, q14, q15, q16, q17, q18, q19, q20, e0_, e1_, e2_, e3_, e4_, e5_, e6_, e7_, e8_, e9_, e10_, f0_, f1_, f2_⟩ := h
 have HE3 := aM e0_
 have HE4 := aM e1_
 have HE5 := aM e2_
 have HE6 := aM e3_
 have HE7 := aM e4_
 have HE8 := aM e5_
 have HE9 := aM e6_
 have HE10 := aM e7_
 have HE11 := aM e8_
 have HE12 := aM e9_
 have HE13 := aM e10_
 clear e0_ e1_ e2_ e3_ e4_ e5_ e6_ e7_ e8_ e9_ e10_
 have g0_ : decide (q15 < 0) = false := decide_eq_false (by omega)
 clear f0_
 have g1_ : decide (q17 < 0) = false := decide_eq_false (by omega)
 clear f1_
 have g2_ : decide (q19 < 0) = false := decide_eq_false (by omega)
 clear f2_
 go_enter Try.func5, Try.ntmps5
 go_wp2_with (first | ((with_reducible refine gate_dst (N := 3) rfl ?_); refine box_event ?hg (N := 3) ?hd (cs := #[.string a1_0, .int .i64 a1_1, .int .i64 a1_2, .int .i64 a1_3, .int .i64 a1_4, .int .i64 a1_5, .int .i64 a1_6, .slice A1_7 l1_7.length c1_7, .bool a1_8]) (t := 41) ?hr ?_; (case hd => rfl); (case hg => rfl); (case hr => first | (go_simp; done) | (go_simp; rfl)); intro b1_ hg wv1 hbox hb; have LO1 := aM (Loc.box hbox); have el_ := hg; have ORLO1 := aM (show w.heap.size ≤ b1_ from (by first | (rw [el_]; exact HB.out.size))); have OQLO1 := aM (show b1_ ≤ (b1_ + 1) from Nat.le_succ _); have HWLO1 := aM (show w.heap.size ≤ b1_ from (by rw [hg]; exact HB.out.size)); replace HB := aM (below_after HB.out hb); clear hg hbox hb el_) | ((with_reducible refine gate_callee (f := 7) rfl ?_); refine goesL_ (some 19) rfl rfl Try.func7 (by kernel_rfl) rfl #[.slice A0 l0.length c0, .int .i64 1048576] rfl zee81 ?_; (with_reducible refine (laws_szEntryS.calls k _ _ l0 1048576 q1 _ ?s1 ?s2 HE1.out).mono ?_); (case s1 => exact Kd.C_below HR0.out HB.out); (case s2 => exact HC0.out); rintro e wv2 ⟨he_, hb⟩; subst he_; refine ⟨_, rfl, ?_⟩; replace LO1 := aM (LO1.out.below hb); replace HB := aM (below_after HB.out hb); clear hb; obtain ⟨hcLO1_0, hcLO1_1, hcLO1_2, hcLO1_3, hcLO1_4, hcLO1_5, hcLO1_6, hcLO1_7, hcLO1_8, hfLO1_0, hfLO1_1, hfLO1_2, hfLO1_3, hfLO1_4, hfLO1_5, hfLO1_6, hfLO1_7, hfLO1_8⟩ := cellsZ9 LO1.out.now) | ((with_reducible refine gate_callee (f := 19) rfl ?_); refine goesL_ (some 24) rfl rfl Try.func19 (by kernel_rfl) rfl #[.agg #[.string a1_0, .int .i64 a1_1, .int .i64 a1_2, .int .i64 a1_3, .int .i64 a1_4, .int .i64 a1_5, .int .i64 a1_6, .slice A1_7 l1_7.length c1_7, .bool a1_8], .int .i64 q1] rfl zee81 ?_; (with_reducible refine (laws_szEntry.calls a1_0 a1_1 a1_2 a1_3 a1_4 a1_5 a1_6 _ _ l1_7 a1_8 q1 q2 _ ?s1 ?s2 HE2.out).mono ?_); (case s1 => exact Kd.C_below HR1_7.out HB.out); (case s2 => exact HC1_7.out); rintro e wv3 ⟨he_, hb⟩; subst he_; refine ⟨_, rfl, ?_⟩; (try clear hcLO1_0 hcLO1_1 hcLO1_2 hcLO1_3 hcLO1_4 hcLO1_5 hcLO1_6 hcLO1_7 hcLO1_8 hfLO1_0 hfLO1_1 hfLO1_2 hfLO1_3 hfLO1_4 hfLO1_5 hfLO1_6 hfLO1_7 hfLO1_8); replace LO1 := aM (LO1.out.below hb); replace HB := aM (below_after HB.out hb); clear hb))
 obtain ⟨hcLO1_0, hcLO1_1, hcLO1_2, hcLO1_3, hcLO1_4, hcLO1_5, hcLO1_6, hcLO1_7, hcLO1_8, hfLO1_0, hfLO1_1, hfLO1_2, hfLO1_3, hfLO1_4, hfLO1_5, hfLO1_6, hfLO1_7, hfLO1_8⟩ := cellsZ9 LO1.out.now
 go_region_held3 (fun W_ => W_.cell? ⟨b1_, 0, none⟩ = some (.string a1_0) ∧ W_.cell? ⟨b1_, 1, none⟩ = some (.int .i64 a1_1) ∧ W_.cell? ⟨b1_, 2, none⟩ = some (.int .i64 a1_2) ∧ W_.cell? ⟨b1_, 3, none⟩ = some (.int .i64 a1_3) ∧ W_.cell? ⟨b1_, 4, none⟩ = some (.int .i64 a1_4) ∧ W_.cell? ⟨b1_, 5, none⟩ = some (.int .i64 a1_5) ∧ W_.cell? ⟨b1_, 6, none⟩ = some (.int .i64 a1_6) ∧ W_.cell? ⟨b1_, 7, none⟩ = some (.slice A1_7 l1_7.length c1_7) ∧ W_.cell? ⟨b1_, 8, none⟩ = some (.bool a1_8)) (exact ⟨hcLO1_0, hcLO1_1, hcLO1_2, hcLO1_3, hcLO1_4, hcLO1_5, hcLO1_6, hcLO1_7, hcLO1_8⟩) (first | (go_at_call 9; have hb := (below_drew (Below.refl _ _) : Below wv3.heap.size wv3 wv3.drew); replace LO1 := aM (LO1.out.below hb); replace HB := aM (below_after HB.out hb); clear hb; (with_reducible refine (laws_toEntryS.calls k _ _ l0 q3 _ ?s1 ?s2 HE3.out).mono ?_); (case s1 => exact Kd.C_below HR0.out HB.out); (case s2 => exact HC0.out); rintro e wv4 ⟨v0_, he_, ho_v0_, hb⟩; subst he_; clear hcLO1_0 hcLO1_1 hcLO1_2 hcLO1_3 hcLO1_4 hcLO1_5 hcLO1_6 hcLO1_7 hcLO1_8 hfLO1_0 hfLO1_1 hfLO1_2 hfLO1_3 hfLO1_4 hfLO1_5 hfLO1_6 hfLO1_7 hfLO1_8; obtain ⟨lo2_, hi2_, el_, hL_, eh_⟩ := Loc.newS (Kd.S_mono ho_v0_ (fun _ _ => trivial)) HB.out; have LO2 := aM hL_; have ORLO2 := aM (show (b1_ + 1) ≤ lo2_ from (by rw [el_]; exact LO1.out.size)); have OQLO2 := aM (show lo2_ ≤ hi2_ from (by rw [el_, eh_]; exact hb.size)); obtain ⟨ALO2, cLO2, ev_⟩ := Kd.S_slice ho_v0_; subst ev_; clear el_ hL_ eh_ ho_v0_; replace LO1 := aM (LO1.out.below hb); replace HB := aM (below_after HB.out hb); clear hb; obtain ⟨hcLO1_0, hcLO1_1, hcLO1_2, hcLO1_3, hcLO1_4, hcLO1_5, hcLO1_6, hcLO1_7, hcLO1_8, hfLO1_0, hfLO1_1, hfLO1_2, hfLO1_3, hfLO1_4, hfLO1_5, hfLO1_6, hfLO1_7, hfLO1_8⟩ := cellsZ9 LO1.out.now) | (go_at_call 21; (with_reducible refine (laws_toEntry.calls k a1_0 a1_1 a1_2 a1_3 a1_4 a1_5 a1_6 _ _ l1_7 a1_8 q4 q5 q6 q7 q8 q9 q10 q11 q12 _ ?s1 ?s2 HE4.out).mono ?_); (case s1 => exact Kd.C_below HR1_7.out HB.out); (case s2 => exact HC1_7.out); rintro e wv5 ⟨v7_, he_, ho_v7_, hb⟩; subst he_; clear hcLO1_0 hcLO1_1 hcLO1_2 hcLO1_3 hcLO1_4 hcLO1_5 hcLO1_6 hcLO1_7 hcLO1_8 hfLO1_0 hfLO1_1 hfLO1_2 hfLO1_3 hfLO1_4 hfLO1_5 hfLO1_6 hfLO1_7 hfLO1_8; obtain ⟨lo3_, hi3_, el_, hL_, eh_⟩ := Loc.newR (Kd.R_mono ho_v7_ (fun _ _ => trivial)) HB.out; have LO3 := aM hL_; have ORLO3 := aM (show hi2_ ≤ lo3_ from (by rw [el_]; exact LO2.out.size)); have OQLO3 := aM (show lo3_ ≤ hi3_ from (by rw [el_, eh_]; exact hb.size)); obtain ⟨ALO3, cLO3, ev_⟩ := Kd.R_slice ho_v7_; subst ev_; clear el_ hL_ eh_ ho_v7_; replace LO1 := aM (LO1.out.below hb); replace LO2 := aM (LO2.out.below hb); replace HB := aM (below_after HB.out hb); clear hb; obtain ⟨hcLO1_0, hcLO1_1, hcLO1_2, hcLO1_3, hcLO1_4, hcLO1_5, hcLO1_6, hcLO1_7, hcLO1_8, hfLO1_0, hfLO1_1, hfLO1_2, hfLO1_3, hfLO1_4, hfLO1_5, hfLO1_6, hfLO1_7, hfLO1_8⟩ := cellsZ9 LO1.out.now) | (go_at_call 20; (with_reducible refine (spec_PutEntry.calls k (fun k => lo2_ ≤ k ∧ k < hi2_) _ _ q3 q4 q5 q6 q7 q8 q9 q10 (fun k => lo3_ ≤ k ∧ k < hi3_) _ _ q11 q12 q13 q14 _ ?s1 ?s2 HE5.out).mono ?_); (case s1 => exact Kd.S_V LO2.out.now); (case s2 => exact Kd.R_V LO3.out.now); rintro e wv6 ⟨v0_, he_, ho_v0_, hb⟩; subst he_; clear hcLO1_0 hcLO1_1 hcLO1_2 hcLO1_3 hcLO1_4 hcLO1_5 hcLO1_6 hcLO1_7 hcLO1_8 hfLO1_0 hfLO1_1 hfLO1_2 hfLO1_3 hfLO1_4 hfLO1_5 hfLO1_6 hfLO1_7 hfLO1_8; obtain ⟨ALO4, cLO4, ev_⟩ := Kd.V_slice (Kd.N_V (base' := 0) ho_v0_); subst ev_; obtain ⟨hi4_, hL_, eh_, eq_⟩ := Loc.newN2 (w := w) LO2.out LO3.out OQLO2.out ORLO3.out OQLO3.out ho_v0_ hb; have LO4 := aM hL_; have ORLO4 := aM (show hi3_ ≤ hi4_ from by rw [eh_]; exact Nat.le_trans LO3.out.size hb.size); have OQLO4 := aM eq_; clear hL_ eh_ eq_ ho_v0_; replace LO1 := aM (LO1.out.below hb); replace LO2 := aM (LO2.out.below hb); replace LO3 := aM (LO3.out.below hb); replace HB := aM (below_after HB.out hb); clear hb; obtain ⟨hcLO1_0, hcLO1_1, hcLO1_2, hcLO1_3, hcLO1_4, hcLO1_5, hcLO1_6, hcLO1_7, hcLO1_8, hfLO1_0, hfLO1_1, hfLO1_2, hfLO1_3, hfLO1_4, hfLO1_5, hfLO1_6, hfLO1_7, hfLO1_8⟩ := cellsZ9 LO1.out.now))
 go_wp2_with (first | ((with_reducible refine gate_callee (f := 9) rfl ?_); refine goesL_ (some 36) rfl rfl Try.func9 (by kernel_rfl) rfl #[.slice A0 l0.length c0] rfl zee81 ?_; (with_reducible refine (laws_toEntryS.calls k _ _ l0 q3 _ ?s1 ?s2 HE3.out).mono ?_); (case s1 => exact Kd.C_below HR0.out HB.out); (case s2 => exact HC0.out); rintro e wv7 ⟨v0_, he_, ho_v0_, hb⟩; subst he_; refine ⟨_, rfl, ?_⟩; (try clear hcLO1_0 hcLO1_1 hcLO1_2 hcLO1_3 hcLO1_4 hcLO1_5 hcLO1_6 hcLO1_7 hcLO1_8 hfLO1_0 hfLO1_1 hfLO1_2 hfLO1_3 hfLO1_4 hfLO1_5 hfLO1_6 hfLO1_7 hfLO1_8); obtain ⟨lo5_, hi5_, el_, hL_, eh_⟩ := Loc.newS (Kd.S_mono ho_v0_ (fun _ _ => trivial)) HB.out; have LO5 := aM hL_; have ORLO5 := aM (show hi4_ ≤ lo5_ from (by rw [el_]; exact LO4.out.size)); have OQLO5 := aM (show lo5_ ≤ hi5_ from (by rw [el_, eh_]; exact hb.size)); obtain ⟨ALO5, cLO5, ev_⟩ := Kd.S_slice ho_v0_; subst ev_; clear el_ hL_ eh_ ho_v0_; replace LO1 := aM (LO1.out.below hb); replace LO2 := aM (LO2.out.below hb); replace LO3 := aM (LO3.out.below hb); replace LO4 := aM (LO4.out.below hb); replace HB := aM (below_after HB.out hb); clear hb; obtain ⟨hcLO1_0, hcLO1_1, hcLO1_2, hcLO1_3, hcLO1_4, hcLO1_5, hcLO1_6, hcLO1_7, hcLO1_8, hfLO1_0, hfLO1_1, hfLO1_2, hfLO1_3, hfLO1_4, hfLO1_5, hfLO1_6, hfLO1_7, hfLO1_8⟩ := cellsZ9 LO1.out.now) | ((with_reducible refine gate_callee (f := 21) rfl ?_); refine goesL_ (some 38) rfl rfl Try.func21 (by kernel_rfl) rfl #[.agg #[.string a1_0, .int .i64 a1_1, .int .i64 a1_2, .int .i64 a1_3, .int .i64 a1_4, .int .i64 a1_5, .int .i64 a1_6, .slice A1_7 l1_7.length c1_7, .bool a1_8]] rfl zee81 ?_; (with_reducible refine (laws_toEntry.calls k a1_0 a1_1 a1_2 a1_3 a1_4 a1_5 a1_6 _ _ l1_7 a1_8 q4 q5 q6 q7 q8 q9 q10 q11 q12 _ ?s1 ?s2 HE4.out).mono ?_); (case s1 => exact Kd.C_below HR1_7.out HB.out); (case s2 => exact HC1_7.out); rintro e wv8 ⟨v7_, he_, ho_v7_, hb⟩; subst he_; refine ⟨_, rfl, ?_⟩; (try clear hcLO1_0 hcLO1_1 hcLO1_2 hcLO1_3 hcLO1_4 hcLO1_5 hcLO1_6 hcLO1_7 hcLO1_8 hfLO1_0 hfLO1_1 hfLO1_2 hfLO1_3 hfLO1_4 hfLO1_5 hfLO1_6 hfLO1_7 hfLO1_8); obtain ⟨lo6_, hi6_, el_, hL_, eh_⟩ := Loc.newR (Kd.R_mono ho_v7_ (fun _ _ => trivial)) HB.out; have LO6 := aM hL_; have ORLO6 := aM (show hi5_ ≤ lo6_ from (by rw [el_]; exact LO5.out.size)); have OQLO6 := aM (show lo6_ ≤ hi6_ from (by rw [el_, eh_]; exact hb.size)); obtain ⟨ALO6, cLO6, ev_⟩ := Kd.R_slice ho_v7_; subst ev_; clear el_ hL_ eh_ ho_v7_; replace LO1 := aM (LO1.out.below hb); replace LO2 := aM (LO2.out.below hb); replace LO3 := aM (LO3.out.below hb); replace LO4 := aM (LO4.out.below hb); replace LO5 := aM (LO5.out.below hb); replace HB := aM (below_after HB.out hb); clear hb) | ((with_reducible refine gate_dst (N := 9) rfl ?_); refine box_event ?hg (N := 9) ?hd (cs := #[.string (⟨#[]⟩ : ByteArray), .int .i64 0, .int .i64 0, .int .i64 0, .int .i64 0, .int .i64 0, .int .i64 0, .slice none 0 0, .bool false]) (t := 45) ?hr ?_; (case hd => rfl); (case hg => rfl); (case hr => first | (go_simp; done) | (go_simp; rfl)); intro b2_ hg wv9 hbox hb; have LO7 := aM (Loc.box hbox); have el_ := hg; have ORLO7 := aM (show hi6_ ≤ b2_ from (by rw [el_]; exact LO6.out.size)); have OQLO7 := aM (show b2_ ≤ (b2_ + 1) from Nat.le_succ _); have HWLO7 := aM (show w.heap.size ≤ b2_ from (by rw [hg]; exact HB.out.size)); replace LO1 := aM (LO1.out.below hb); replace LO2 := aM (LO2.out.below hb); replace LO3 := aM (LO3.out.below hb); replace LO4 := aM (LO4.out.below hb); replace LO5 := aM (LO5.out.below hb); replace LO6 := aM (LO6.out.below hb); replace HB := aM (below_after HB.out hb); clear hg hbox hb el_; obtain ⟨hcLO7_0, hcLO7_1, hcLO7_2, hcLO7_3, hcLO7_4, hcLO7_5, hcLO7_6, hcLO7_7, hcLO7_8, hfLO7_0, hfLO7_1, hfLO7_2, hfLO7_3, hfLO7_4, hfLO7_5, hfLO7_6, hfLO7_7, hfLO7_8⟩ := cellsZ9 LO7.out.now) | ((with_reducible refine gate_store (t := 45) (p := 9) rfl ?_); refine store_event (t := 45) (p := 9) (v := ?vo_wv10) (w1 := (((((((((wv9.setCell ⟨b2_, 0, none⟩ (.string q4)).setCell ⟨b2_, 1, none⟩ (.int .i64 q5)).setCell ⟨b2_, 2, none⟩ (.int .i64 q6)).setCell ⟨b2_, 3, none⟩ (.int .i64 q7)).setCell ⟨b2_, 4, none⟩ (.int .i64 q8)).setCell ⟨b2_, 5, none⟩ (.int .i64 q9)).setCell ⟨b2_, 6, none⟩ (.int .i64 q10)).setCell ⟨b2_, 7, none⟩ (.slice ALO6 q11.length cLO6)).setCell ⟨b2_, 8, none⟩ (.bool q12))) ?hg ?ho ?hn ?hr ?_; (case ho => rfl); (case hg => rfl); (case hn => rfl); (case hr => first | (go_simp; done) | (go_simp; rfl)); intro wv10 hw; (try clear hcLO7_0 hcLO7_1 hcLO7_2 hcLO7_3 hcLO7_4 hcLO7_5 hcLO7_6 hcLO7_7 hcLO7_8 hfLO7_0 hfLO7_1 hfLO7_2 hfLO7_3 hfLO7_4 hfLO7_5 hfLO7_6 hfLO7_7 hfLO7_8); have ho_ : Only wv9 wv10 b2_ := (by rw [hw]; repeat (first | (with_reducible apply Only.set) | exact Only.refl _ _)); have := ORLO1.out; have := OQLO1.out; have := ORLO2.out; have := OQLO2.out; have := ORLO3.out; have := OQLO3.out; have := ORLO4.out; have := OQLO4.out; have := ORLO5.out; have := OQLO5.out; have := ORLO6.out; have := OQLO6.out; have := ORLO7.out; have := OQLO7.out; replace LO1 := aM (LO1.out.only ho_ (by omega)); replace LO2 := aM (LO2.out.only ho_ (by omega)); replace LO3 := aM (LO3.out.only ho_ (by omega)); replace LO4 := aM (LO4.out.only ho_ (by omega)); replace LO5 := aM (LO5.out.only ho_ (by omega)); replace LO6 := aM (LO6.out.only ho_ (by omega)); have hbx_ : wv10.heap[b2_]? = some (.cells #[.string q4, .int .i64 q5, .int .i64 q6, .int .i64 q7, .int .i64 q8, .int .i64 q9, .int .i64 q10, .slice ALO6 q11.length cLO6, .bool q12] 45 (0, 0)) := (by have BK_ := LO7.out.now; rw [hw]; first | (with_reducible exact blk_put9 BK_) | (with_reducible exact blk_put6 BK_) | (with_reducible exact blk_put4 BK_) | (apply blk_eqZ; (repeat (first | (with_reducible apply blk_put0) | exact BK_)); first | (simp only [List.setIfInBounds_toArray, List.set_cons_zero, List.set_cons_succ] <;> rfl) | rfl)); replace LO7 := aM (Loc.box hbx_); replace HB := aM (below_only HB.out HWLO7.out ho_); clear ho_ hbx_ hw; obtain ⟨hcLO7_0, hcLO7_1, hcLO7_2, hcLO7_3, hcLO7_4, hcLO7_5, hcLO7_6, hcLO7_7, hcLO7_8, hfLO7_0, hfLO7_1, hfLO7_2, hfLO7_3, hfLO7_4, hfLO7_5, hfLO7_6, hfLO7_7, hfLO7_8⟩ := cellsZ9 LO7.out.now) | ((with_reducible refine gate_callee (f := 22) rfl ?_); refine goesL_ (some 42) rfl rfl Try.func22 (by kernel_rfl) rfl #[.slice ALO5 q3.length cLO5, .agg #[.string q4, .int .i64 q5, .int .i64 q6, .int .i64 q7, .int .i64 q8, .int .i64 q9, .int .i64 q10, .slice ALO6 q11.length cLO6, .bool q12]] rfl zee81 ?_; (with_reducible refine (impl_PutEntry.calls k _ _ q3 q4 q5 q6 q7 q8 q9 q10 _ _ q11 q12 q13 q14 _ ?s1 ?s2 ?s3 ?s4 HE6.out).mono ?_); (case s1 => exact LO5.out.readsS.2.2); (case s2 => exact LO5.out.readsS.2.1); (case s3 => exact LO6.out.readsR.2.2); (case s4 => exact LO6.out.readsR.2.1); rintro e wv11 ⟨v0_, he_, ho_v0_, hb⟩; subst he_; refine ⟨_, rfl, ?_⟩; (try clear hcLO7_0 hcLO7_1 hcLO7_2 hcLO7_3 hcLO7_4 hcLO7_5 hcLO7_6 hcLO7_7 hcLO7_8 hfLO7_0 hfLO7_1 hfLO7_2 hfLO7_3 hfLO7_4 hfLO7_5 hfLO7_6 hfLO7_7 hfLO7_8); obtain ⟨lo8_, hi8_, el_, hL_, eh_⟩ := Loc.newS (Kd.S_mono ho_v0_ (fun _ _ => trivial)) HB.out; have LO8 := aM hL_; have ORLO8 := aM (show (b2_ + 1) ≤ lo8_ from (by rw [el_]; exact LO7.out.size)); have OQLO8 := aM (show lo8_ ≤ hi8_ from (by rw [el_, eh_]; exact hb.size)); obtain ⟨ALO8, cLO8, ev_⟩ := Kd.S_slice ho_v0_; subst ev_; clear el_ hL_ eh_ ho_v0_; replace LO1 := aM (LO1.out.below hb); replace LO2 := aM (LO2.out.below hb); replace LO3 := aM (LO3.out.below hb); replace LO4 := aM (LO4.out.below hb); replace LO5 := aM (LO5.out.below hb); replace LO6 := aM (LO6.out.below hb); replace LO7 := aM (LO7.out.below hb); replace HB := aM (below_after HB.out hb); clear hb) | ((with_reducible refine gate_callee (f := 12) rfl ?_); refine goesL_ (some 47) rfl rfl Try.func12 (by kernel_rfl) rfl #[.slice ALO8 q13.length cLO8, .slice ALO4 q13.length cLO4] rfl zee81 ?_; (with_reducible refine (laws_eqEntryS.calls k _ _ q13 _ _ q13 true _ ?s1 ?s2 ?s3 ?s4 HE7.out).mono ?_); (case s1 => exact LO8.out.readsS.2.2); (case s2 => exact LO8.out.readsS.2.1); (case s3 => exact LO4.out.readsV.2.2); (case s4 => exact LO4.out.readsV.2.1); rintro e wv12 ⟨he_, hb⟩; subst he_; refine ⟨_, rfl, ?_⟩; replace LO1 := aM (LO1.out.below hb); replace LO2 := aM (LO2.out.below hb); replace LO3 := aM (LO3.out.below hb); replace LO4 := aM (LO4.out.below hb); replace LO5 := aM (LO5.out.below hb); replace LO6 := aM (LO6.out.below hb); replace LO7 := aM (LO7.out.below hb); replace LO8 := aM (LO8.out.below hb); replace HB := aM (below_after HB.out hb); clear hb) | ((with_reducible refine gate_callee (f := 9) rfl ?_); refine goesL_ (some 56) rfl rfl Try.func9 (by kernel_rfl) rfl #[.slice A0 l0.length c0] rfl zee81 ?_; (with_reducible refine (laws_toEntryS.calls k _ _ l0 q3 _ ?s1 ?s2 HE3.out).mono ?_); (case s1 => exact Kd.C_below HR0.out HB.out); (case s2 => exact HC0.out); rintro e wv13 ⟨v0_, he_, ho_v0_, hb⟩; subst he_; refine ⟨_, rfl, ?_⟩; obtain ⟨lo9_, hi9_, el_, hL_, eh_⟩ := Loc.newS (Kd.S_mono ho_v0_ (fun _ _ => trivial)) HB.out; have LO9 := aM hL_; have ORLO9 := aM (show hi8_ ≤ lo9_ from (by rw [el_]; exact LO8.out.size)); have OQLO9 := aM (show lo9_ ≤ hi9_ from (by rw [el_, eh_]; exact hb.size)); obtain ⟨ALO9, cLO9, ev_⟩ := Kd.S_slice ho_v0_; subst ev_; clear el_ hL_ eh_ ho_v0_; replace LO1 := aM (LO1.out.below hb); replace LO2 := aM (LO2.out.below hb); replace LO3 := aM (LO3.out.below hb); replace LO4 := aM (LO4.out.below hb); replace LO5 := aM (LO5.out.below hb); replace LO6 := aM (LO6.out.below hb); replace LO7 := aM (LO7.out.below hb); replace LO8 := aM (LO8.out.below hb); replace HB := aM (below_after HB.out hb); clear hb) | ((with_reducible refine gate_callee (f := 12) rfl ?_); refine goesL_ (some 57) rfl rfl Try.func12 (by kernel_rfl) rfl #[.slice ALO5 q3.length cLO5, .slice ALO9 q3.length cLO9] rfl zee81 ?_; (with_reducible refine (laws_eqEntryS.calls k _ _ q3 _ _ q3 true _ ?s1 ?s2 ?s3 ?s4 HE8.out).mono ?_); (case s1 => exact LO5.out.readsS.2.2); (case s2 => exact LO5.out.readsS.2.1); (case s3 => exact LO9.out.readsS.2.2); (case s4 => exact LO9.out.readsS.2.1); rintro e wv14 ⟨he_, hb⟩; subst he_; refine ⟨_, rfl, ?_⟩; replace LO1 := aM (LO1.out.below hb); replace LO2 := aM (LO2.out.below hb); replace LO3 := aM (LO3.out.below hb); replace LO4 := aM (LO4.out.below hb); replace LO5 := aM (LO5.out.below hb); replace LO6 := aM (LO6.out.below hb); replace LO7 := aM (LO7.out.below hb); replace LO8 := aM (LO8.out.below hb); replace LO9 := aM (LO9.out.below hb); replace HB := aM (below_after HB.out hb); clear hb))
 obtain ⟨hcLO7_0, hcLO7_1, hcLO7_2, hcLO7_3, hcLO7_4, hcLO7_5, hcLO7_6, hcLO7_7, hcLO7_8, hfLO7_0, hfLO7_1, hfLO7_2, hfLO7_3, hfLO7_4, hfLO7_5, hfLO7_6, hfLO7_7, hfLO7_8⟩ := cellsZ9 LO7.out.now
 obtain ⟨hcLO1_0, hcLO1_1, hcLO1_2, hcLO1_3, hcLO1_4, hcLO1_5, hcLO1_6, hcLO1_7, hcLO1_8, hfLO1_0, hfLO1_1, hfLO1_2, hfLO1_3, hfLO1_4, hfLO1_5, hfLO1_6, hfLO1_7, hfLO1_8⟩ := cellsZ9 LO1.out.now
 go_region_held3 (fun W_ => W_.cell? ⟨b2_, 0, none⟩ = some (.string q4) ∧ W_.cell? ⟨b2_, 1, none⟩ = some (.int .i64 q5) ∧ W_.cell? ⟨b2_, 2, none⟩ = some (.int .i64 q6) ∧ W_.cell? ⟨b2_, 3, none⟩ = some (.int .i64 q7) ∧ W_.cell? ⟨b2_, 4, none⟩ = some (.int .i64 q8) ∧ W_.cell? ⟨b2_, 5, none⟩ = some (.int .i64 q9) ∧ W_.cell? ⟨b2_, 6, none⟩ = some (.int .i64 q10) ∧ W_.cell? ⟨b2_, 7, none⟩ = some (.slice ALO6 q11.length cLO6) ∧ W_.cell? ⟨b2_, 8, none⟩ = some (.bool q12) ∧ W_.cell? ⟨b1_, 0, none⟩ = some (.string a1_0) ∧ W_.cell? ⟨b1_, 1, none⟩ = some (.int .i64 a1_1) ∧ W_.cell? ⟨b1_, 2, none⟩ = some (.int .i64 a1_2) ∧ W_.cell? ⟨b1_, 3, none⟩ = some (.int .i64 a1_3) ∧ W_.cell? ⟨b1_, 4, none⟩ = some (.int .i64 a1_4) ∧ W_.cell? ⟨b1_, 5, none⟩ = some (.int .i64 a1_5) ∧ W_.cell? ⟨b1_, 6, none⟩ = some (.int .i64 a1_6) ∧ W_.cell? ⟨b1_, 7, none⟩ = some (.slice A1_7 l1_7.length c1_7) ∧ W_.cell? ⟨b1_, 8, none⟩ = some (.bool a1_8)) (exact ⟨hcLO7_0, hcLO7_1, hcLO7_2, hcLO7_3, hcLO7_4, hcLO7_5, hcLO7_6, hcLO7_7, hcLO7_8, hcLO1_0, hcLO1_1, hcLO1_2, hcLO1_3, hcLO1_4, hcLO1_5, hcLO1_6, hcLO1_7, hcLO1_8⟩) (first | (go_at_call 21; have hb := (below_drew (Below.refl _ _) : Below wv14.heap.size wv14 wv14.drew); replace LO1 := aM (LO1.out.below hb); replace LO2 := aM (LO2.out.below hb); replace LO3 := aM (LO3.out.below hb); replace LO4 := aM (LO4.out.below hb); replace LO5 := aM (LO5.out.below hb); replace LO6 := aM (LO6.out.below hb); replace LO7 := aM (LO7.out.below hb); replace LO8 := aM (LO8.out.below hb); replace LO9 := aM (LO9.out.below hb); replace HB := aM (below_after HB.out hb); clear hb; (with_reducible refine (laws_toEntry.calls k a1_0 a1_1 a1_2 a1_3 a1_4 a1_5 a1_6 _ _ l1_7 a1_8 q4 q5 q6 q7 q8 q9 q10 q11 q12 _ ?s1 ?s2 HE4.out).mono ?_); (case s1 => exact Kd.C_below HR1_7.out HB.out); (case s2 => exact HC1_7.out); rintro e wv15 ⟨v7_, he_, ho_v7_, hb⟩; subst he_; clear hcLO7_0 hcLO7_1 hcLO7_2 hcLO7_3 hcLO7_4 hcLO7_5 hcLO7_6 hcLO7_7 hcLO7_8 hfLO7_0 hfLO7_1 hfLO7_2 hfLO7_3 hfLO7_4 hfLO7_5 hfLO7_6 hfLO7_7 hfLO7_8 hcLO1_0 hcLO1_1 hcLO1_2 hcLO1_3 hcLO1_4 hcLO1_5 hcLO1_6 hcLO1_7 hcLO1_8 hfLO1_0 hfLO1_1 hfLO1_2 hfLO1_3 hfLO1_4 hfLO1_5 hfLO1_6 hfLO1_7 hfLO1_8; obtain ⟨lo10_, hi10_, el_, hL_, eh_⟩ := Loc.newR (Kd.R_mono ho_v7_ (fun _ _ => trivial)) HB.out; have LO10 := aM hL_; have ORLO10 := aM (show hi9_ ≤ lo10_ from (by rw [el_]; exact LO9.out.size)); have OQLO10 := aM (show lo10_ ≤ hi10_ from (by rw [el_, eh_]; exact hb.size)); obtain ⟨ALO10, cLO10, ev_⟩ := Kd.R_slice ho_v7_; subst ev_; clear el_ hL_ eh_ ho_v7_; replace LO1 := aM (LO1.out.below hb); replace LO2 := aM (LO2.out.below hb); replace LO3 := aM (LO3.out.below hb); replace LO4 := aM (LO4.out.below hb); replace LO5 := aM (LO5.out.below hb); replace LO6 := aM (LO6.out.below hb); replace LO7 := aM (LO7.out.below hb); replace LO8 := aM (LO8.out.below hb); replace LO9 := aM (LO9.out.below hb); replace HB := aM (below_after HB.out hb); clear hb; obtain ⟨hcLO7_0, hcLO7_1, hcLO7_2, hcLO7_3, hcLO7_4, hcLO7_5, hcLO7_6, hcLO7_7, hcLO7_8, hfLO7_0, hfLO7_1, hfLO7_2, hfLO7_3, hfLO7_4, hfLO7_5, hfLO7_6, hfLO7_7, hfLO7_8⟩ := cellsZ9 LO7.out.now; obtain ⟨hcLO1_0, hcLO1_1, hcLO1_2, hcLO1_3, hcLO1_4, hcLO1_5, hcLO1_6, hcLO1_7, hcLO1_8, hfLO1_0, hfLO1_1, hfLO1_2, hfLO1_3, hfLO1_4, hfLO1_5, hfLO1_6, hfLO1_7, hfLO1_8⟩ := cellsZ9 LO1.out.now) | (go_at_call 23; (with_reducible refine (laws_eqEntry.calls k q4 q5 q6 q7 q8 q9 q10 _ _ q11 q12 q4 q5 q6 q7 q8 q9 q10 _ _ q11 q12 true _ ?s1 ?s2 ?s3 ?s4 HE9.out).mono ?_); (case s1 => exact LO6.out.readsR.2.2); (case s2 => exact LO6.out.readsR.2.1); (case s3 => exact LO10.out.readsR.2.2); (case s4 => exact LO10.out.readsR.2.1); rintro e wv16 ⟨he_, hb⟩; subst he_; clear hcLO7_0 hcLO7_1 hcLO7_2 hcLO7_3 hcLO7_4 hcLO7_5 hcLO7_6 hcLO7_7 hcLO7_8 hfLO7_0 hfLO7_1 hfLO7_2 hfLO7_3 hfLO7_4 hfLO7_5 hfLO7_6 hfLO7_7 hfLO7_8 hcLO1_0 hcLO1_1 hcLO1_2 hcLO1_3 hcLO1_4 hcLO1_5 hcLO1_6 hcLO1_7 hcLO1_8 hfLO1_0 hfLO1_1 hfLO1_2 hfLO1_3 hfLO1_4 hfLO1_5 hfLO1_6 hfLO1_7 hfLO1_8; replace LO1 := aM (LO1.out.below hb); replace LO2 := aM (LO2.out.below hb); replace LO3 := aM (LO3.out.below hb); replace LO4 := aM (LO4.out.below hb); replace LO5 := aM (LO5.out.below hb); replace LO6 := aM (LO6.out.below hb); replace LO7 := aM (LO7.out.below hb); replace LO8 := aM (LO8.out.below hb); replace LO9 := aM (LO9.out.below hb); replace LO10 := aM (LO10.out.below hb); replace HB := aM (below_after HB.out hb); clear hb; obtain ⟨hcLO7_0, hcLO7_1, hcLO7_2, hcLO7_3, hcLO7_4, hcLO7_5, hcLO7_6, hcLO7_7, hcLO7_8, hfLO7_0, hfLO7_1, hfLO7_2, hfLO7_3, hfLO7_4, hfLO7_5, hfLO7_6, hfLO7_7, hfLO7_8⟩ := cellsZ9 LO7.out.now; obtain ⟨hcLO1_0, hcLO1_1, hcLO1_2, hcLO1_3, hcLO1_4, hcLO1_5, hcLO1_6, hcLO1_7, hcLO1_8, hfLO1_0, hfLO1_1, hfLO1_2, hfLO1_3, hfLO1_4, hfLO1_5, hfLO1_6, hfLO1_7, hfLO1_8⟩ := cellsZ9 LO1.out.now))
 go_wp2_with (first | ((with_reducible refine gate_callee (f := 13) rfl ?_); refine goesL_ (some 66) rfl rfl Try.func13 (by kernel_rfl) rfl #[.slice ALO5 q3.length cLO5, .int .i64 1] rfl zee81 ?_; (with_reducible refine (laws_markEntryS.calls k (fun k => lo5_ ≤ k ∧ k < hi5_) (.slice ALO5 q3.length cLO5) q3 1 q15 q16 w _ ?s1 ?s2 HE10.out).mono ?_); (case s1 => exact HB.out); (case s2 => exact LO5.out.now); rintro e wv17 ⟨he_, hs, hB2, hk⟩; subst he_; refine ⟨_, rfl, ?_⟩; (try clear hcLO7_0 hcLO7_1 hcLO7_2 hcLO7_3 hcLO7_4 hcLO7_5 hcLO7_6 hcLO7_7 hcLO7_8 hfLO7_0 hfLO7_1 hfLO7_2 hfLO7_3 hfLO7_4 hfLO7_5 hfLO7_6 hfLO7_7 hfLO7_8 hcLO1_0 hcLO1_1 hcLO1_2 hcLO1_3 hcLO1_4 hcLO1_5 hcLO1_6 hcLO1_7 hcLO1_8 hfLO1_0 hfLO1_1 hfLO1_2 hfLO1_3 hfLO1_4 hfLO1_5 hfLO1_6 hfLO1_7 hfLO1_8); have hi_ := LO5.out.size; have := ORLO1.out; have := OQLO1.out; have := ORLO2.out; have := OQLO2.out; have := ORLO3.out; have := OQLO3.out; have := ORLO4.out; have := OQLO4.out; have := ORLO5.out; have := OQLO5.out; have := ORLO6.out; have := OQLO6.out; have := ORLO7.out; have := OQLO7.out; have := ORLO8.out; have := OQLO8.out; have := ORLO9.out; have := OQLO9.out; have := ORLO10.out; have := OQLO10.out; replace LO1 := aM (LO1.out.apart hk (by omega)); replace LO2 := aM (LO2.out.apart hk (by omega)); replace LO3 := aM (LO3.out.apart hk (by omega)); replace LO4 := aM (LO4.out.apart hk (by omega)); replace LO6 := aM (LO6.out.apart hk (by omega)); replace LO7 := aM (LO7.out.apart hk (by omega)); replace LO8 := aM (LO8.out.apart hk (by omega)); replace LO9 := aM (LO9.out.apart hk (by omega)); replace LO10 := aM (LO10.out.apart hk (by omega)); replace LO5 := aM (Loc.ofS (Nat.le_trans hi_ hk.1) hs); replace HB := aM hB2; have HN17 := aM ((LO5.out.readsS).1 : q3.length = q16.length); clear hs hB2 hk hi_; obtain ⟨hcLO7_0, hcLO7_1, hcLO7_2, hcLO7_3, hcLO7_4, hcLO7_5, hcLO7_6, hcLO7_7, hcLO7_8, hfLO7_0, hfLO7_1, hfLO7_2, hfLO7_3, hfLO7_4, hfLO7_5, hfLO7_6, hfLO7_7, hfLO7_8⟩ := cellsZ9 LO7.out.now) | ((with_reducible refine gate_callee (f := 24) rfl ?_); refine goesL_ (some 69) rfl rfl Try.func24 (by kernel_rfl) rfl #[.agg #[.string q4, .int .i64 q5, .int .i64 q6, .int .i64 q7, .int .i64 q8, .int .i64 q9, .int .i64 q10, .slice ALO6 q11.length cLO6, .bool q12], .int .i64 q15] rfl zee81 ?_; (with_reducible refine (laws_markEntry.calls k q4 q5 q6 q7 q8 q9 q10 (fun k => lo6_ ≤ k ∧ k < hi6_) (.slice ALO6 q11.length cLO6) q11 q12 q15 q17 q18 w _ ?s1 ?s2 HE11.out).mono ?_); (case s1 => exact HB.out); (case s2 => exact LO6.out.now); rintro e wv18 ⟨he_, hs, hB2, hk⟩; subst he_; refine ⟨_, rfl, ?_⟩; (try clear hcLO7_0 hcLO7_1 hcLO7_2 hcLO7_3 hcLO7_4 hcLO7_5 hcLO7_6 hcLO7_7 hcLO7_8 hfLO7_0 hfLO7_1 hfLO7_2 hfLO7_3 hfLO7_4 hfLO7_5 hfLO7_6 hfLO7_7 hfLO7_8); have hi_ := LO6.out.size; have hs2_ := Kd.R_mono (Kd.R_tight rfl hs) (fun k_ e_ => (LO6.out.now).1 k_ e_.symm); clear hs; have hs := hs2_; clear hs2_; have := ORLO1.out; have := OQLO1.out; have := ORLO2.out; have := OQLO2.out; have := ORLO3.out; have := OQLO3.out; have := ORLO4.out; have := OQLO4.out; have := ORLO5.out; have := OQLO5.out; have := ORLO6.out; have := OQLO6.out; have := ORLO7.out; have := OQLO7.out; have := ORLO8.out; have := OQLO8.out; have := ORLO9.out; have := OQLO9.out; have := ORLO10.out; have := OQLO10.out; replace LO1 := aM (LO1.out.apart hk (by omega)); replace LO2 := aM (LO2.out.apart hk (by omega)); replace LO3 := aM (LO3.out.apart hk (by omega)); replace LO4 := aM (LO4.out.apart hk (by omega)); replace LO5 := aM (LO5.out.apart hk (by omega)); replace LO7 := aM (LO7.out.apart hk (by omega)); replace LO8 := aM (LO8.out.apart hk (by omega)); replace LO9 := aM (LO9.out.apart hk (by omega)); replace LO10 := aM (LO10.out.apart hk (by omega)); replace LO6 := aM (Loc.ofR (Nat.le_trans hi_ hk.1) hs); replace HB := aM hB2; have HN18 := aM ((LO6.out.readsR).1 : q11.length = q18.length); clear hs hB2 hk hi_; rw [HN18.out] at LO7) | (go_at_call 12; (with_reducible refine (laws_eqEntryS.calls k _ _ q13 _ _ q13 true _ ?s1 ?s2 ?s3 ?s4 HE7.out).mono ?_); (case s1 => exact LO8.out.readsS.2.2); (case s2 => exact LO8.out.readsS.2.1); (case s3 => exact LO4.out.readsV.2.2); (case s4 => exact LO4.out.readsV.2.1); rintro e wv19 ⟨he_, hb⟩; subst he_; replace LO1 := aM (LO1.out.below hb); replace LO2 := aM (LO2.out.below hb); replace LO3 := aM (LO3.out.below hb); replace LO4 := aM (LO4.out.below hb); replace LO5 := aM (LO5.out.below hb); replace LO6 := aM (LO6.out.below hb); replace LO7 := aM (LO7.out.below hb); replace LO8 := aM (LO8.out.below hb); replace LO9 := aM (LO9.out.below hb); replace LO10 := aM (LO10.out.below hb); replace HB := aM (below_after HB.out hb); clear hb) | ((with_reducible refine gate_callee (f := 13) rfl ?_); refine goesL_ (some 85) rfl rfl Try.func13 (by kernel_rfl) rfl #[.slice ALO8 q13.length cLO8, .int .i64 1] rfl zee81 ?_; (with_reducible refine (laws_markEntryS.calls k (fun k => lo8_ ≤ k ∧ k < hi8_) (.slice ALO8 q13.length cLO8) q13 1 q19 q20 w _ ?s1 ?s2 HE12.out).mono ?_); (case s1 => exact HB.out); (case s2 => exact LO8.out.now); rintro e wv20 ⟨he_, hs, hB2, hk⟩; subst he_; refine ⟨_, rfl, ?_⟩; have hi_ := LO8.out.size; have := ORLO1.out; have := OQLO1.out; have := ORLO2.out; have := OQLO2.out; have := ORLO3.out; have := OQLO3.out; have := ORLO4.out; have := OQLO4.out; have := ORLO5.out; have := OQLO5.out; have := ORLO6.out; have := OQLO6.out; have := ORLO7.out; have := OQLO7.out; have := ORLO8.out; have := OQLO8.out; have := ORLO9.out; have := OQLO9.out; have := ORLO10.out; have := OQLO10.out; replace LO1 := aM (LO1.out.apart hk (by omega)); replace LO2 := aM (LO2.out.apart hk (by omega)); replace LO3 := aM (LO3.out.apart hk (by omega)); replace LO4 := aM (LO4.out.apart hk (by omega)); replace LO5 := aM (LO5.out.apart hk (by omega)); replace LO6 := aM (LO6.out.apart hk (by omega)); replace LO7 := aM (LO7.out.apart hk (by omega)); replace LO9 := aM (LO9.out.apart hk (by omega)); replace LO10 := aM (LO10.out.apart hk (by omega)); replace LO8 := aM (Loc.ofS (Nat.le_trans hi_ hk.1) hs); replace HB := aM hB2; have HN20 := aM ((LO8.out.readsS).1 : q13.length = q20.length); clear hs hB2 hk hi_) | ((with_reducible refine gate_callee (f := 18) rfl ?_); refine goesL_ (some 88) rfl rfl Try.func18 (by kernel_rfl) rfl #[.slice ALO8 q13.length cLO8, .int .i64 1] rfl zee81 ?_; rw [show (#[.slice ALO8 q13.length cLO8, .int .i64 1] : Array Value) = #[.slice ALO8 q20.length cLO8, .int .i64 1] from congrArg (fun n_ : Nat => (#[.slice ALO8 n_ cLO8, .int .i64 1] : Array Value)) HN20.out]; (with_reducible refine (laws_heldEntryS.calls k _ _ q20 1 q19 _ ?s1 ?s2 HE13.out).mono ?_); (case s1 => exact LO8.out.readsS.2.2); (case s2 => exact LO8.out.readsS.2.1); rintro e wv21 ⟨he_, hb⟩; subst he_; refine ⟨_, rfl, ?_⟩; replace LO1 := aM (LO1.out.below hb); replace LO2 := aM (LO2.out.below hb); replace LO3 := aM (LO3.out.below hb); replace LO4 := aM (LO4.out.below hb); replace LO5 := aM (LO5.out.below hb); replace LO6 := aM (LO6.out.below hb); replace LO7 := aM (LO7.out.below hb); replace LO8 := aM (LO8.out.below hb); replace LO9 := aM (LO9.out.below hb); replace LO10 := aM (LO10.out.below hb); replace HB := aM (below_after HB.out hb); clear hb))
 obtain ⟨hcLO1_0, hcLO1_1, hcLO1_2, hcLO1_3, hcLO1_4, hcLO1_5, hcLO1_6, hcLO1_7, hcLO1_8, hfLO1_0, hfLO1_1, hfLO1_2, hfLO1_3, hfLO1_4, hfLO1_5, hfLO1_6, hfLO1_7, hfLO1_8⟩ := cellsZ9 LO1.out.now
 go_region_held3 (fun W_ => W_.cell? ⟨b1_, 0, none⟩ = some (.string a1_0) ∧ W_.cell? ⟨b1_, 1, none⟩ = some (.int .i64 a1_1) ∧ W_.cell? ⟨b1_, 2, none⟩ = some (.int .i64 a1_2) ∧ W_.cell? ⟨b1_, 3, none⟩ = some (.int .i64 a1_3) ∧ W_.cell? ⟨b1_, 4, none⟩ = some (.int .i64 a1_4) ∧ W_.cell? ⟨b1_, 5, none⟩ = some (.int .i64 a1_5) ∧ W_.cell? ⟨b1_, 6, none⟩ = some (.int .i64 a1_6) ∧ W_.cell? ⟨b1_, 7, none⟩ = some (.slice A1_7 l1_7.length c1_7) ∧ W_.cell? ⟨b1_, 8, none⟩ = some (.bool a1_8)) (exact ⟨hcLO1_0, hcLO1_1, hcLO1_2, hcLO1_3, hcLO1_4, hcLO1_5, hcLO1_6, hcLO1_7, hcLO1_8⟩) (first | (go_at_call 9; have hb := (below_drew (Below.refl _ _) : Below wv21.heap.size wv21 wv21.drew); replace LO1 := aM (LO1.out.below hb); replace LO2 := aM (LO2.out.below hb); replace LO3 := aM (LO3.out.below hb); replace LO4 := aM (LO4.out.below hb); replace LO5 := aM (LO5.out.below hb); replace LO6 := aM (LO6.out.below hb); replace LO7 := aM (LO7.out.below hb); replace LO8 := aM (LO8.out.below hb); replace LO9 := aM (LO9.out.below hb); replace LO10 := aM (LO10.out.below hb); replace HB := aM (below_after HB.out hb); clear hb; (with_reducible refine (laws_toEntryS.calls k _ _ l0 q3 _ ?s1 ?s2 HE3.out).mono ?_); (case s1 => exact Kd.C_below HR0.out HB.out); (case s2 => exact HC0.out); rintro e wv22 ⟨v0_, he_, ho_v0_, hb⟩; subst he_; clear hcLO1_0 hcLO1_1 hcLO1_2 hcLO1_3 hcLO1_4 hcLO1_5 hcLO1_6 hcLO1_7 hcLO1_8 hfLO1_0 hfLO1_1 hfLO1_2 hfLO1_3 hfLO1_4 hfLO1_5 hfLO1_6 hfLO1_7 hfLO1_8; obtain ⟨lo11_, hi11_, el_, hL_, eh_⟩ := Loc.newS (Kd.S_mono ho_v0_ (fun _ _ => trivial)) HB.out; have LO11 := aM hL_; have ORLO11 := aM (show hi10_ ≤ lo11_ from (by rw [el_]; exact LO10.out.size)); have OQLO11 := aM (show lo11_ ≤ hi11_ from (by rw [el_, eh_]; exact hb.size)); obtain ⟨ALO11, cLO11, ev_⟩ := Kd.S_slice ho_v0_; subst ev_; clear el_ hL_ eh_ ho_v0_; replace LO1 := aM (LO1.out.below hb); replace LO2 := aM (LO2.out.below hb); replace LO3 := aM (LO3.out.below hb); replace LO4 := aM (LO4.out.below hb); replace LO5 := aM (LO5.out.below hb); replace LO6 := aM (LO6.out.below hb); replace LO7 := aM (LO7.out.below hb); replace LO8 := aM (LO8.out.below hb); replace LO9 := aM (LO9.out.below hb); replace LO10 := aM (LO10.out.below hb); replace HB := aM (below_after HB.out hb); clear hb; obtain ⟨hcLO1_0, hcLO1_1, hcLO1_2, hcLO1_3, hcLO1_4, hcLO1_5, hcLO1_6, hcLO1_7, hcLO1_8, hfLO1_0, hfLO1_1, hfLO1_2, hfLO1_3, hfLO1_4, hfLO1_5, hfLO1_6, hfLO1_7, hfLO1_8⟩ := cellsZ9 LO1.out.now) | (go_at_call 21; (with_reducible refine (laws_toEntry.calls k a1_0 a1_1 a1_2 a1_3 a1_4 a1_5 a1_6 _ _ l1_7 a1_8 q4 q5 q6 q7 q8 q9 q10 q11 q12 _ ?s1 ?s2 HE4.out).mono ?_); (case s1 => exact Kd.C_below HR1_7.out HB.out); (case s2 => exact HC1_7.out); rintro e wv23 ⟨v7_, he_, ho_v7_, hb⟩; subst he_; clear hcLO1_0 hcLO1_1 hcLO1_2 hcLO1_3 hcLO1_4 hcLO1_5 hcLO1_6 hcLO1_7 hcLO1_8 hfLO1_0 hfLO1_1 hfLO1_2 hfLO1_3 hfLO1_4 hfLO1_5 hfLO1_6 hfLO1_7 hfLO1_8; obtain ⟨lo12_, hi12_, el_, hL_, eh_⟩ := Loc.newR (Kd.R_mono ho_v7_ (fun _ _ => trivial)) HB.out; have LO12 := aM hL_; have ORLO12 := aM (show hi11_ ≤ lo12_ from (by rw [el_]; exact LO11.out.size)); have OQLO12 := aM (show lo12_ ≤ hi12_ from (by rw [el_, eh_]; exact hb.size)); obtain ⟨ALO12, cLO12, ev_⟩ := Kd.R_slice ho_v7_; subst ev_; clear el_ hL_ eh_ ho_v7_; replace LO1 := aM (LO1.out.below hb); replace LO2 := aM (LO2.out.below hb); replace LO3 := aM (LO3.out.below hb); replace LO4 := aM (LO4.out.below hb); replace LO5 := aM (LO5.out.below hb); replace LO6 := aM (LO6.out.below hb); replace LO7 := aM (LO7.out.below hb); replace LO8 := aM (LO8.out.below hb); replace LO9 := aM (LO9.out.below hb); replace LO10 := aM (LO10.out.below hb); replace LO11 := aM (LO11.out.below hb); replace HB := aM (below_after HB.out hb); clear hb; obtain ⟨hcLO1_0, hcLO1_1, hcLO1_2, hcLO1_3, hcLO1_4, hcLO1_5, hcLO1_6, hcLO1_7, hcLO1_8, hfLO1_0, hfLO1_1, hfLO1_2, hfLO1_3, hfLO1_4, hfLO1_5, hfLO1_6, hfLO1_7, hfLO1_8⟩ := cellsZ9 LO1.out.now) | (go_at_call 22; (with_reducible refine (impl_PutEntry.calls k _ _ q3 q4 q5 q6 q7 q8 q9 q10 _ _ q11 q12 q13 q14 _ ?s1 ?s2 ?s3 ?s4 HE6.out).mono ?_); (case s1 => exact LO11.out.readsS.2.2); (case s2 => exact LO11.out.readsS.2.1); (case s3 => exact LO12.out.readsR.2.2); (case s4 => exact LO12.out.readsR.2.1); rintro e wv24 ⟨v0_, he_, ho_v0_, hb⟩; subst he_; clear hcLO1_0 hcLO1_1 hcLO1_2 hcLO1_3 hcLO1_4 hcLO1_5 hcLO1_6 hcLO1_7 hcLO1_8 hfLO1_0 hfLO1_1 hfLO1_2 hfLO1_3 hfLO1_4 hfLO1_5 hfLO1_6 hfLO1_7 hfLO1_8; obtain ⟨lo13_, hi13_, el_, hL_, eh_⟩ := Loc.newS (Kd.S_mono ho_v0_ (fun _ _ => trivial)) HB.out; have LO13 := aM hL_; have ORLO13 := aM (show hi12_ ≤ lo13_ from (by rw [el_]; exact LO12.out.size)); have OQLO13 := aM (show lo13_ ≤ hi13_ from (by rw [el_, eh_]; exact hb.size)); obtain ⟨ALO13, cLO13, ev_⟩ := Kd.S_slice ho_v0_; subst ev_; clear el_ hL_ eh_ ho_v0_; replace LO1 := aM (LO1.out.below hb); replace LO2 := aM (LO2.out.below hb); replace LO3 := aM (LO3.out.below hb); replace LO4 := aM (LO4.out.below hb); replace LO5 := aM (LO5.out.below hb); replace LO6 := aM (LO6.out.below hb); replace LO7 := aM (LO7.out.below hb); replace LO8 := aM (LO8.out.below hb); replace LO9 := aM (LO9.out.below hb); replace LO10 := aM (LO10.out.below hb); replace LO11 := aM (LO11.out.below hb); replace LO12 := aM (LO12.out.below hb); replace HB := aM (below_after HB.out hb); clear hb; obtain ⟨hcLO1_0, hcLO1_1, hcLO1_2, hcLO1_3, hcLO1_4, hcLO1_5, hcLO1_6, hcLO1_7, hcLO1_8, hfLO1_0, hfLO1_1, hfLO1_2, hfLO1_3, hfLO1_4, hfLO1_5, hfLO1_6, hfLO1_7, hfLO1_8⟩ := cellsZ9 LO1.out.now))
 go_wp2_with (first | ((with_reducible refine gate_callee (f := 12) rfl ?_); refine goesL_ (some 104) rfl rfl Try.func12 (by kernel_rfl) rfl #[.slice ALO13 q13.length cLO13, .slice ALO4 q13.length cLO4] rfl zee81 ?_; (with_reducible refine (laws_eqEntryS.calls k _ _ q13 _ _ q13 true _ ?s1 ?s2 ?s3 ?s4 HE7.out).mono ?_); (case s1 => exact LO13.out.readsS.2.2); (case s2 => exact LO13.out.readsS.2.1); (case s3 => exact LO4.out.readsV.2.2); (case s4 => exact LO4.out.readsV.2.1); rintro e wv25 ⟨he_, hb⟩; subst he_; refine ⟨_, rfl, ?_⟩; (try clear hcLO1_0 hcLO1_1 hcLO1_2 hcLO1_3 hcLO1_4 hcLO1_5 hcLO1_6 hcLO1_7 hcLO1_8 hfLO1_0 hfLO1_1 hfLO1_2 hfLO1_3 hfLO1_4 hfLO1_5 hfLO1_6 hfLO1_7 hfLO1_8); replace LO1 := aM (LO1.out.below hb); replace LO2 := aM (LO2.out.below hb); replace LO3 := aM (LO3.out.below hb); replace LO4 := aM (LO4.out.below hb); replace LO5 := aM (LO5.out.below hb); replace LO6 := aM (LO6.out.below hb); replace LO7 := aM (LO7.out.below hb); replace LO8 := aM (LO8.out.below hb); replace LO9 := aM (LO9.out.below hb); replace LO10 := aM (LO10.out.below hb); replace LO11 := aM (LO11.out.below hb); replace LO12 := aM (LO12.out.below hb); replace LO13 := aM (LO13.out.below hb); replace HB := aM (below_after HB.out hb); clear hb) | ((with_reducible refine gate_callee (f := 18) rfl ?_); refine goesL_ (some 113) rfl rfl Try.func18 (by kernel_rfl) rfl #[.slice ALO8 q13.length cLO8, .int .i64 1] rfl zee81 ?_; rw [show (#[.slice ALO8 q13.length cLO8, .int .i64 1] : Array Value) = #[.slice ALO8 q20.length cLO8, .int .i64 1] from congrArg (fun n_ : Nat => (#[.slice ALO8 n_ cLO8, .int .i64 1] : Array Value)) HN20.out]; (with_reducible refine (laws_heldEntryS.calls k _ _ q20 1 q19 _ ?s1 ?s2 HE13.out).mono ?_); (case s1 => exact LO8.out.readsS.2.2); (case s2 => exact LO8.out.readsS.2.1); rintro e wv26 ⟨he_, hb⟩; subst he_; refine ⟨_, rfl, ?_⟩; replace LO1 := aM (LO1.out.below hb); replace LO2 := aM (LO2.out.below hb); replace LO3 := aM (LO3.out.below hb); replace LO4 := aM (LO4.out.below hb); replace LO5 := aM (LO5.out.below hb); replace LO6 := aM (LO6.out.below hb); replace LO7 := aM (LO7.out.below hb); replace LO8 := aM (LO8.out.below hb); replace LO9 := aM (LO9.out.below hb); replace LO10 := aM (LO10.out.below hb); replace LO11 := aM (LO11.out.below hb); replace LO12 := aM (LO12.out.below hb); replace LO13 := aM (LO13.out.below hb); replace HB := aM (below_after HB.out hb); clear hb))
 go_ret
 exact ⟨rfl, HB.out⟩
end Go.Proofs.Ytdkokfnnebdppaa.P

namespace Go.Proofs.Ytdkokfnnebdppaa.Lem
open Go.RowKit Go.Proofs.YtdkokfnnebdppaaW.PrintWords Go.Proofs.YtdkokfnnebdppaaW.PrintLast Go.Proofs.YtdkokfnnebdppaaW.PrintMore

theorem w64 {x : Int} (h0 : -9223372036854775808 ≤ x) (h1 : x < 9223372036854775808) : wrap64 x = x := by
  unfold wrap64; omega
theorem wu64 {x : Int} (h0 : 0 ≤ x) (h1 : x < 18446744073709551616) : IntKind.u64.wrap x = x := by
  rw [IntKind.wrap_u64]; omega
theorem wu64_lo (x : Int) : 0 ≤ IntKind.u64.wrap x := by rw [IntKind.wrap_u64]; omega
theorem wu64_hi (x : Int) : IntKind.u64.wrap x < 18446744073709551616 := by rw [IntKind.wrap_u64]; omega

/-- A list of bytes. -/
def Bytes (l : List Int) : Prop := ∀ x ∈ l, 0 ≤ x ∧ x < 256

theorem Bytes.of_wf {l : List Int} (h : ∀ x ∈ l, (Lit.int .u8 x).wf = true) : Bytes l := by
  intro x hx
  have := h x hx
  simp [Lit.wf, IntKind.min, IntKind.max, IntKind.signed, IntKind.bits] at this
  omega
theorem Bytes.append {a b : List Int} (ha : Bytes a) (hb : Bytes b) : Bytes (a ++ b) := by
  intro x hx
  rcases List.mem_append.1 hx with h | h
  · exact ha x h
  · exact hb x h
theorem Bytes.nil : Bytes [] := fun x hx => by simp at hx
theorem Bytes.cons {x : Int} {l : List Int} (h0 : 0 ≤ x) (h1 : x < 256) (hl : Bytes l) : Bytes (x :: l) := by
  intro y hy
  rcases List.mem_cons.1 hy with rfl | h
  · exact ⟨h0, h1⟩
  · exact hl y h
theorem Bytes.rd {l : List Int} (h : Bytes l) (i : Int) : 0 ≤ rd l i ∧ rd l i < 256 := by
  unfold Go.Proofs.YtdkokfnnebdppaaW.PrintWords.rd
  rcases Nat.lt_or_ge i.toNat l.length with hl | hl
  · rw [List.getD_eq_getElem?_getD, List.getElem?_eq_getElem hl]
    exact h _ (List.getElem_mem hl)
  · rw [List.getD_eq_getElem?_getD, List.getElem?_eq_none hl]
    simp
theorem Bytes.take {l : List Int} (h : Bytes l) (n : Nat) : Bytes (l.take n) := fun x hx => h x (List.mem_of_mem_take hx)
theorem Bytes.drop {l : List Int} (h : Bytes l) (n : Nat) : Bytes (l.drop n) := fun x hx => h x (List.mem_of_mem_drop hx)

theorem and255 {x : Int} (h0 : 0 ≤ x) (h1 : x < 18446744073709551616) : 0 ≤ Go.bits .and .u64 x 255 ∧ Go.bits .and .u64 x 255 < 256 := by
  rw [u64_and x 255 h0 h1 (by decide) (by decide)]
  have : x.toNat &&& (255 : Int).toNat ≤ (255 : Int).toNat := Nat.and_le_right
  have e : (255 : Int).toNat = 255 := rfl
  omega

theorem shr_lo {k : IntKind} {x y : Int} (h : 0 ≤ x) : 0 ≤ shr k x y := by
  unfold shr
  exact Int.ediv_nonneg h (Int.le_of_lt (Int.pow_pos (by decide)))
theorem shr_hi {k : IntKind} {x y B : Int} (h : 0 ≤ x) (h1 : x < B) : shr k x y < B := by
  unfold shr
  have : x / 2 ^ min y.toNat k.bits ≤ x := Int.ediv_le_self _ h
  omega

end Go.Proofs.Ytdkokfnnebdppaa.Lem

/- Aggs: when one is good, and how two are joined; joining is the same in any order and any brackets. No program in sight. -/
namespace Go.Proofs.Ytdkokfnnebdppaa.Lem
open Go.RowKit Go.Proofs.YtdkokfnnebdppaaW.PrintWords Go.Proofs.YtdkokfnnebdppaaW.PrintLast Go.Proofs.YtdkokfnnebdppaaW.PrintMore

/-- An agg. -/
structure Ag where
  c : Int
  s : Int
  mi : Int
  ma : Int
  h : List Int
  f : Bool

/-- A number, capped. -/
def cap (x : Int) : Int := if x > 1000000000 then 1000000000 else x
theorem cap_le (x : Int) : cap x ≤ 1000000000 := by unfold cap; split <;> omega
theorem cap_of {x : Int} (h : x ≤ 1000000000) : cap x = x := by unfold cap; rw [if_neg (by omega)]
theorem cap_nonneg {x : Int} (h : 0 ≤ x) : 0 ≤ cap x := by unfold cap; split <;> omega
theorem cap_cap (x y : Int) (h0 : 0 ≤ y) : cap (cap x + y) = cap (x + y) := by unfold cap; split <;> split <;> omega
theorem cap_cap' (x y : Int) (h0 : 0 ≤ x) : cap (x + cap y) = cap (x + y) := by unfold cap; split <;> split <;> omega
theorem cap_over (x y : Int) (h0 : 0 ≤ y) : (decide (x > 1000000000) || decide (cap x + y > 1000000000)) = decide (x + y > 1000000000) := by
  unfold cap
  by_cases h : x > 1000000000
  · rw [decide_eq_true h, Bool.true_or, decide_eq_true (by omega)]
  · rw [decide_eq_false h, Bool.false_or, if_neg h]
theorem cap_over' (x y : Int) (h0 : 0 ≤ x) : (decide (y > 1000000000) || decide (x + cap y > 1000000000)) = decide (x + y > 1000000000) := by
  rw [Int.add_comm x (cap y), Int.add_comm x y]
  exact cap_over y x h0

/-- Two lists' sums, capped; whether one is over. -/
def addH : List Int → List Int → List Int
  | x :: xs, y :: ys => cap (x + y) :: addH xs ys
  | _, _ => []
def overH : List Int → List Int → Bool
  | x :: xs, y :: ys => decide (x + y > 1000000000) || overH xs ys
  | _, _ => false

/-- Numbers of a histogram. -/
def Nums (l : List Int) : Prop := ∀ x ∈ l, 0 ≤ x ∧ x ≤ 1000000000
theorem Nums.tail {x : Int} {l : List Int} (h : Nums (x :: l)) : Nums l := fun y hy => h y (List.mem_cons_of_mem _ hy)
theorem Nums.head {x : Int} {l : List Int} (h : Nums (x :: l)) : 0 ≤ x ∧ x ≤ 1000000000 := h x (List.mem_cons_self ..)
theorem Nums.cons {x : Int} {l : List Int} (h0 : 0 ≤ x) (h1 : x ≤ 1000000000) (h : Nums l) : Nums (x :: l) := by
  intro y hy
  rcases List.mem_cons.1 hy with rfl | h'
  · exact ⟨h0, h1⟩
  · exact h y h'

theorem addH_comm : ∀ a b, addH a b = addH b a
  | [], [] => rfl
  | [], _ :: _ => rfl
  | _ :: _, [] => rfl
  | x :: xs, y :: ys => by simp only [addH]; rw [addH_comm xs ys, Int.add_comm]
theorem overH_comm : ∀ a b, overH a b = overH b a
  | [], [] => rfl
  | [], _ :: _ => rfl
  | _ :: _, [] => rfl
  | x :: xs, y :: ys => by simp only [overH]; rw [overH_comm xs ys, Int.add_comm]
theorem addH_length : ∀ {a b : List Int}, a.length = b.length → (addH a b).length = a.length
  | [], [], _ => rfl
  | [], _ :: _, h => by simp at h
  | _ :: _, [], h => by simp at h
  | x :: xs, y :: ys, h => by simp only [addH, List.length_cons]; rw [addH_length (by simpa using h)]
theorem addH_nums : ∀ {a b : List Int}, Nums a → Nums b → Nums (addH a b)
  | [], _, _, _ => fun _ h => by simp [addH] at h
  | _ :: _, [], _, _ => fun _ h => by simp [addH] at h
  | x :: xs, y :: ys, ha, hb => Nums.cons (cap_nonneg (by have := ha.head; have := hb.head; omega)) (cap_le _) (addH_nums ha.tail hb.tail)
theorem addH_assoc : ∀ {a b c : List Int}, Nums a → Nums b → Nums c → addH (addH a b) c = addH a (addH b c)
  | [], _, _, _, _, _ => by simp [addH]
  | _ :: _, [], _, _, _, _ => by simp [addH]
  | _ :: _, _ :: _, [], _, _, _ => by simp [addH]
  | x :: xs, y :: ys, z :: zs, ha, hb, hc => by
    have := ha.head; have := hb.head; have := hc.head
    simp only [addH]
    rw [addH_assoc ha.tail hb.tail hc.tail, cap_cap _ _ (by omega), cap_cap' _ _ (by omega), Int.add_assoc]
theorem overH_assoc : ∀ {a b c : List Int}, a.length = b.length → b.length = c.length → Nums a → Nums b → Nums c → (overH a b || overH (addH a b) c) = (overH b c || overH a (addH b c))
  | [], [], [], _, _, _, _, _ => by simp [addH, overH]
  | [], _ :: _, _, h, _, _, _, _ => by simp at h
  | _ :: _, [], _, h, _, _, _, _ => by simp at h
  | _, [], _ :: _, _, h, _, _, _ => by simp at h
  | _, _ :: _, [], _, h, _, _, _ => by simp at h
  | x :: xs, y :: ys, z :: zs, h1, h2, ha, hb, hc => by
    have := ha.head; have := hb.head; have := hc.head
    simp only [addH, overH]
    have ih := overH_assoc (by simpa using h1) (by simpa using h2) ha.tail hb.tail hc.tail
    have e1 := cap_over (x + y) z (by omega)
    have e2 := cap_over' x (y + z) (by omega)
    rw [← Int.add_assoc] at e2
    generalize decide (x + y > 1000000000) = p at *
    generalize decide (cap (x + y) + z > 1000000000) = q at *
    generalize decide (y + z > 1000000000) = r at *
    generalize decide (x + cap (y + z) > 1000000000) = t at *
    generalize overH xs ys = u at *
    generalize overH (addH xs ys) zs = v at *
    generalize overH ys zs = m at *
    generalize overH xs (addH ys zs) = n at *
    rw [← e2] at e1
    revert e1 ih
    cases p <;> cases q <;> cases r <;> cases t <;> cases u <;> cases v <;> cases m <;> cases n <;> decide
theorem addH_zero : ∀ {a b : List Int}, a.length = b.length → (∀ x ∈ a, x = 0) → Nums b → addH a b = b ∧ overH a b = false
  | [], [], _, _, _ => ⟨rfl, rfl⟩
  | [], _ :: _, h, _, _ => by simp at h
  | _ :: _, [], h, _, _ => by simp at h
  | x :: xs, y :: ys, h, h0, hb => by
    have hx : x = 0 := h0 x (List.mem_cons_self ..)
    have := hb.head
    obtain ⟨i1, i2⟩ := addH_zero (by simpa using h) (fun z hz => h0 z (List.mem_cons_of_mem _ hz)) hb.tail
    simp only [addH, overH]
    rw [i1, i2, hx, Int.zero_add, cap_of (by omega), decide_eq_false (by omega)]
    exact ⟨rfl, rfl⟩
theorem sum_addH : ∀ {a b : List Int}, a.length = b.length → overH a b = false → (addH a b).sum = a.sum + b.sum
  | [], [], _, _ => by simp [addH]
  | [], _ :: _, h, _ => by simp at h
  | _ :: _, [], h, _ => by simp at h
  | x :: xs, y :: ys, h, ho => by
    simp only [overH, Bool.or_eq_false_iff, decide_eq_false_iff_not] at ho
    have ih := sum_addH (a := xs) (b := ys) (by simpa using h) ho.2
    simp only [addH, List.sum_cons]
    rw [ih, cap_of (by omega)]
    omega
theorem Nums.sum_bound : ∀ {a : List Int}, Nums a → 0 ≤ a.sum ∧ a.sum ≤ 1000000000 * (a.length : Int)
  | [], _ => by simp
  | x :: xs, h => by
    have := h.head
    have ih := Nums.sum_bound h.tail
    simp only [List.sum_cons, List.length_cons]
    omega
theorem Nums.sum_zero : ∀ {a : List Int}, Nums a → a.sum = 0 → ∀ x ∈ a, x = 0
  | [], _, _ => by simp
  | x :: xs, h, hs => by
    have := h.head
    have ih := Nums.sum_bound h.tail
    simp only [List.sum_cons] at hs
    intro y hy
    rcases List.mem_cons.1 hy with rfl | h'
    · omega
    · exact Nums.sum_zero h.tail (by omega) y h'

/-- When an agg is good. -/
structure Good (a : Ag) : Prop where
  c0 : 0 ≤ a.c
  c1 : a.c ≤ 1000000000
  len : a.h.length = 8
  nums : Nums a.h
  full : a.f = true → a.s = 0
  notfull : a.f = false → a.h.sum = a.c ∧ -1000000000 * a.c ≤ a.s ∧ a.s ≤ 1000000000 * a.c
  zero : a.c = 0 → a.mi = 0 ∧ a.ma = 0 ∧ a.h.sum = 0 ∧ a.f = false
  some : a.c ≠ 0 → -1000000000 ≤ a.mi ∧ a.mi ≤ a.ma ∧ a.ma ≤ 1000000000

/-- Two aggs in one. -/
def join (a b : Ag) : Ag :=
  let f := a.f || b.f || decide (a.c + b.c > 1000000000) || overH a.h b.h
  { c := cap (a.c + b.c), s := if f then 0 else a.s + b.s,
    mi := if a.c = 0 then b.mi else if b.c = 0 then a.mi else mn a.mi b.mi,
    ma := if a.c = 0 then b.ma else if b.c = 0 then a.ma else mx a.ma b.ma,
    h := addH a.h b.h, f := f }

theorem Ag.ext' {a b : Ag} (h1 : a.c = b.c) (h2 : a.s = b.s) (h3 : a.mi = b.mi) (h4 : a.ma = b.ma) (h5 : a.h = b.h) (h6 : a.f = b.f) : a = b := by
  cases a; cases b; simp_all
theorem mn_comm (a b : Int) : mn a b = mn b a := by unfold mn; split <;> split <;> omega
theorem mx_comm (a b : Int) : mx a b = mx b a := by unfold mx; split <;> split <;> omega

theorem mn_assoc (a b c : Int) : mn (mn a b) c = mn a (mn b c) := by unfold mn; (repeat' split) <;> omega
theorem mx_assoc (a b c : Int) : mx (mx a b) c = mx a (mx b c) := by unfold mx; (repeat' split) <;> omega

theorem join_comm {a b : Ag} (ha : Good a) (hb : Good b) : join a b = join b a := by
  have hf : (a.f || b.f || decide (a.c + b.c > 1000000000) || overH a.h b.h) = (b.f || a.f || decide (b.c + a.c > 1000000000) || overH b.h a.h) := by
    rw [overH_comm, Int.add_comm, Bool.or_comm a.f b.f]
  unfold join
  apply Ag.ext'
  · show cap (a.c + b.c) = cap (b.c + a.c)
    rw [Int.add_comm]
  · simp only [hf, Int.add_comm]
  · simp only
    by_cases h1 : a.c = 0
    · by_cases h2 : b.c = 0
      · rw [if_pos h1, if_pos h2, (ha.zero h1).1, (hb.zero h2).1]
      · rw [if_pos h1, if_neg h2, if_pos h1]
    · by_cases h2 : b.c = 0
      · rw [if_neg h1, if_pos h2, if_pos h2]
      · rw [if_neg h1, if_neg h2, if_neg h2, if_neg h1, mn_comm]
  · simp only
    by_cases h1 : a.c = 0
    · by_cases h2 : b.c = 0
      · rw [if_pos h1, if_pos h2, (ha.zero h1).2.1, (hb.zero h2).2.1]
      · rw [if_pos h1, if_neg h2, if_pos h1]
    · by_cases h2 : b.c = 0
      · rw [if_neg h1, if_pos h2, if_pos h2]
      · rw [if_neg h1, if_neg h2, if_neg h2, if_neg h1, mx_comm]
  · exact addH_comm _ _
  · exact hf

theorem join_zero {a b : Ag} (ha : Good a) (hb : Good b) (h : a.c = 0) : join a b = b := by
  obtain ⟨_, _, z3, z4⟩ := ha.zero h
  obtain ⟨e1, e2⟩ := addH_zero (a := a.h) (b := b.h) (by rw [ha.len, hb.len]) (ha.nums.sum_zero z3) hb.nums
  have hc := hb.c1
  have hs : a.s = 0 := by
    have := ha.notfull z4
    rw [h] at this
    omega
  have hf : (a.f || b.f || decide (a.c + b.c > 1000000000) || overH a.h b.h) = b.f := by
    rw [z4, e2, h, Int.zero_add, decide_eq_false (by omega), Bool.false_or, Bool.or_false, Bool.or_false]
  unfold join
  apply Ag.ext'
  · show cap (a.c + b.c) = b.c
    rw [h, Int.zero_add, cap_of hc]
  · simp only [hf]
    by_cases hb' : b.f = true
    · rw [if_pos hb', hb.full hb']
    · rw [if_neg hb', hs, Int.zero_add]
  · simp only; rw [if_pos h]
  · simp only; rw [if_pos h]
  · exact e1
  · exact hf

theorem join_good {a b : Ag} (ha : Good a) (hb : Good b) : Good (join a b) := by
  have a0 := ha.c0; have a1 := ha.c1; have b0 := hb.c0; have b1 := hb.c1
  by_cases h1 : a.c = 0
  · rw [join_zero ha hb h1]; exact hb
  by_cases h2 : b.c = 0
  · rw [join_comm ha hb, join_zero hb ha h2]; exact ha
  have hcc : cap (a.c + b.c) ≠ 0 := by unfold cap; split <;> omega
  obtain ⟨am1, am2, am3⟩ := ha.some h1
  obtain ⟨bm1, bm2, bm3⟩ := hb.some h2
  have hlen : a.h.length = b.h.length := by rw [ha.len, hb.len]
  refine ⟨cap_nonneg (by omega), cap_le _, (addH_length hlen).trans ha.len, addH_nums ha.nums hb.nums, ?_, ?_, fun h => absurd h hcc, fun _ => ?_⟩
  · intro hf
    show (if (join a b).f = true then (0 : Int) else a.s + b.s) = 0
    rw [if_pos hf]
  · intro hf
    have hf' : (a.f || b.f || decide (a.c + b.c > 1000000000) || overH a.h b.h) = false := hf
    simp only [Bool.or_eq_false_iff, decide_eq_false_iff_not] at hf'
    obtain ⟨⟨⟨f1, f2⟩, f3⟩, f4⟩ := hf'
    obtain ⟨x1, x2, x3⟩ := ha.notfull f1
    obtain ⟨y1, y2, y3⟩ := hb.notfull f2
    have hc : (join a b).c = a.c + b.c := cap_of (by omega)
    have hs : (join a b).s = a.s + b.s := by
      show (if (join a b).f = true then (0 : Int) else a.s + b.s) = _
      rw [if_neg (by rw [hf]; decide)]
    rw [hc, hs]
    refine ⟨?_, by omega, by omega⟩
    show (addH a.h b.h).sum = _
    rw [sum_addH hlen f4, x1, y1]
  · show -1000000000 ≤ (if a.c = 0 then b.mi else if b.c = 0 then a.mi else mn a.mi b.mi) ∧ (if a.c = 0 then b.mi else if b.c = 0 then a.mi else mn a.mi b.mi) ≤ (if a.c = 0 then b.ma else if b.c = 0 then a.ma else mx a.ma b.ma) ∧ (if a.c = 0 then b.ma else if b.c = 0 then a.ma else mx a.ma b.ma) ≤ 1000000000
    rw [if_neg h1, if_neg h2, if_neg h1, if_neg h2]
    unfold mn mx
    split <;> split <;> omega

theorem join_assoc {a b c : Ag} (ha : Good a) (hb : Good b) (hc : Good c) : join (join a b) c = join a (join b c) := by
  have a0 := ha.c0; have a1 := ha.c1; have b0 := hb.c0; have b1 := hb.c1; have d0 := hc.c0; have d1 := hc.c1
  by_cases h1 : a.c = 0
  · rw [join_zero ha hb h1, join_zero ha (join_good hb hc) h1]
  by_cases h2 : b.c = 0
  · rw [join_comm ha hb, join_zero hb ha h2, join_zero hb hc h2]
  by_cases h3 : c.c = 0
  · rw [join_comm (join_good ha hb) hc, join_zero hc (join_good ha hb) h3, join_comm hb hc, join_zero hc hb h3]
  have n1 : cap (a.c + b.c) ≠ 0 := by unfold cap; split <;> omega
  have n2 : cap (b.c + c.c) ≠ 0 := by unfold cap; split <;> omega
  have l1 : a.h.length = b.h.length := by rw [ha.len, hb.len]
  have l2 : b.h.length = c.h.length := by rw [hb.len, hc.len]
  have hover := overH_assoc l1 l2 ha.nums hb.nums hc.nums
  have o1 := cap_over (a.c + b.c) c.c d0
  have o2 := cap_over' a.c (b.c + c.c) a0
  rw [← Int.add_assoc, ← o1] at o2
  have hf : (join (join a b) c).f = (join a (join b c)).f := by
    show ((a.f || b.f || decide (a.c + b.c > 1000000000) || overH a.h b.h) || c.f || decide (cap (a.c + b.c) + c.c > 1000000000) || overH (addH a.h b.h) c.h) = (a.f || (b.f || c.f || decide (b.c + c.c > 1000000000) || overH b.h c.h) || decide (a.c + cap (b.c + c.c) > 1000000000) || overH a.h (addH b.h c.h))
    generalize decide (a.c + b.c > 1000000000) = p at *
    generalize decide (cap (a.c + b.c) + c.c > 1000000000) = q at *
    generalize decide (b.c + c.c > 1000000000) = r at *
    generalize decide (a.c + cap (b.c + c.c) > 1000000000) = t at *
    generalize overH a.h b.h = u at *
    generalize overH (addH a.h b.h) c.h = v at *
    generalize overH b.h c.h = m at *
    generalize overH a.h (addH b.h c.h) = n at *
    generalize a.f = x
    generalize b.f = y
    generalize c.f = z
    clear ha hb hc a0 a1 b0 b1 d0 d1 h1 h2 h3 n1 n2 l1 l2 o1
    revert o2 hover
    cases p <;> cases q <;> cases r <;> cases t <;> cases u <;> cases v <;> cases m <;> cases n <;> simp <;> cases x <;> cases y <;> cases z <;> decide
  have hs : (join (join a b) c).s = (join a (join b c)).s := by
    by_cases hF : (join (join a b) c).f = true
    · have hG := hf ▸ hF
      show (if (join (join a b) c).f = true then (0 : Int) else (join a b).s + c.s) = (if (join a (join b c)).f = true then (0 : Int) else a.s + (join b c).s)
      rw [if_pos hF, if_pos hG]
    · have hG : ¬ (join a (join b c)).f = true := hf ▸ hF
      have e1 : (join a b).f = false := by
        have : ((join a b).f || c.f || decide (cap (a.c + b.c) + c.c > 1000000000) || overH (addH a.h b.h) c.h) = false := Bool.eq_false_iff.2 hF
        simp only [Bool.or_eq_false_iff] at this
        exact this.1.1.1
      have e2 : (join b c).f = false := by
        have : (a.f || (join b c).f || decide (a.c + cap (b.c + c.c) > 1000000000) || overH a.h (addH b.h c.h)) = false := Bool.eq_false_iff.2 hG
        simp only [Bool.or_eq_false_iff] at this
        exact this.1.1.2
      show (if (join (join a b) c).f = true then (0 : Int) else (if (join a b).f = true then (0 : Int) else a.s + b.s) + c.s) = (if (join a (join b c)).f = true then (0 : Int) else a.s + (if (join b c).f = true then (0 : Int) else b.s + c.s))
      rw [if_neg hF, if_neg hG, if_neg (by rw [e1]; decide), if_neg (by rw [e2]; decide), Int.add_assoc]
  apply Ag.ext'
  · show cap (cap (a.c + b.c) + c.c) = cap (a.c + cap (b.c + c.c))
    rw [cap_cap _ _ d0, cap_cap' _ _ a0, Int.add_assoc]
  · exact hs
  · show (if cap (a.c + b.c) = 0 then c.mi else if c.c = 0 then (join a b).mi else mn (if a.c = 0 then b.mi else if b.c = 0 then a.mi else mn a.mi b.mi) c.mi) = (if a.c = 0 then (join b c).mi else if cap (b.c + c.c) = 0 then a.mi else mn a.mi (if b.c = 0 then c.mi else if c.c = 0 then b.mi else mn b.mi c.mi))
    rw [if_neg n1, if_neg h3, if_neg h1, if_neg h2, if_neg h1, if_neg n2, if_neg h2, if_neg h3]
    exact mn_assoc _ _ _
  · show (if cap (a.c + b.c) = 0 then c.ma else if c.c = 0 then (join a b).ma else mx (if a.c = 0 then b.ma else if b.c = 0 then a.ma else mx a.ma b.ma) c.ma) = (if a.c = 0 then (join b c).ma else if cap (b.c + c.c) = 0 then a.ma else mx a.ma (if b.c = 0 then c.ma else if c.c = 0 then b.ma else mx b.ma c.ma))
    rw [if_neg n1, if_neg h3, if_neg h1, if_neg h2, if_neg h1, if_neg n2, if_neg h2, if_neg h3]
    exact mx_assoc _ _ _
  · exact addH_assoc ha.nums hb.nums hc.nums
  · exact hf

end Go.Proofs.Ytdkokfnnebdppaa.Lem

namespace Go.Proofs.Ytdkokfnnebdppaa.Lem
open Go.RowKit Go.Proofs.Ytdkokfnnebdppaa.P Go.Proofs.YtdkokfnnebdppaaW.PrintWords Go.Proofs.YtdkokfnnebdppaaW.PrintLast Go.Proofs.YtdkokfnnebdppaaW.PrintMore

theorem within_ok (a b c : Int) : impl_within.f a b c = some (decide (b ≤ a ∧ a ≤ c)) := by
  unfold impl_within.f
  by_cases h : a ≥ b
  · rw [if_pos h]
    congr 1
    simp [show b ≤ a from h]
  · rw [if_neg h]
    congr 1
    simp [show ¬ b ≤ a from h]

end Go.Proofs.Ytdkokfnnebdppaa.Lem

/- Both programs tell whether an agg is good, and tell it alike, for aggs in bounds. -/
namespace Go.Proofs.Ytdkokfnnebdppaa.Lem
open Go.RowKit Go.Proofs.Ytdkokfnnebdppaa.P Go.Proofs.YtdkokfnnebdppaaW.PrintWords Go.Proofs.YtdkokfnnebdppaaW.PrintLast Go.Proofs.YtdkokfnnebdppaaW.PrintMore

theorem l1In_ok (a b c : Int) : spec_l1In.f a b c = some (decide (b ≤ a ∧ a ≤ c)) := by
  unfold spec_l1In.f
  by_cases h : a ≥ b
  · rw [if_pos h]
    congr 1
    exact decide_eq_decide.2 ⟨fun h' => ⟨h, h'⟩, fun h' => h'.2⟩
  · rw [if_neg h]
    congr 1
    exact (decide_eq_false (fun h' => h h'.1)).symm
theorem isValue_ok (v : Int) : impl_isValue.f v = some (decide (-1000000000 ≤ v ∧ v ≤ 1000000000)) := by
  unfold impl_isValue.f
  rw [within_ok, Option.bind_some]
theorem l4Value_ok (v : Int) : spec_l4Value.f v = some (decide (-1000000000 ≤ v ∧ v ≤ 1000000000)) := by
  unfold spec_l4Value.f
  rw [l1In_ok, Option.bind_some]

/-- An agg in bounds. -/
structure Rg (a : Ag) : Prop where
  c : -4000000000 ≤ a.c ∧ a.c ≤ 4000000000
  s : -4000000000000000000 ≤ a.s ∧ a.s ≤ 4000000000000000000
  mi : -4000000000 ≤ a.mi ∧ a.mi ≤ 4000000000
  ma : -4000000000 ≤ a.ma ∧ a.ma ≤ 4000000000
  len : a.h.length ≤ 8
  nums : ∀ x ∈ a.h, -4000000000 ≤ x ∧ x ≤ 4000000000

theorem Good.rg {a : Ag} (h : Good a) : Rg a := by
  have h0 := h.c0; have h1 := h.c1
  refine ⟨by omega, ?_, ?_, ?_, by rw [h.len]; decide, fun x hx => by have := h.nums x hx; omega⟩
  · by_cases hf : a.f = true
    · rw [h.full hf]; decide
    · have := h.notfull (Bool.eq_false_iff.2 hf)
      omega
  · by_cases hc : a.c = 0
    · have := h.zero hc; omega
    · have := h.some hc; omega
  · by_cases hc : a.c = 0
    · have := h.zero hc; omega
    · have := h.some hc; omega

theorem rd_at0 {l : List Int} {i : Nat} (h : i < l.length) : l.drop i = rd l (i : Int) :: l.drop (i + 1) := by
  rw [List.drop_eq_getElem_cons h]
  unfold Go.Proofs.YtdkokfnnebdppaaW.PrintWords.rd
  rw [Int.toNat_natCast, List.getD_eq_getElem?_getD, List.getElem?_eq_getElem h]
  rfl

theorem gi_l0 {h : List Int} (hl : h.length ≤ 8) (c s mi ma : Int) (hh : List Int) (f : Bool) (d : Nat) : ∀ (k i : Nat) (x : Int), i + d = h.length → 0 ≤ x → x ≤ 1000000000 * (i : Int) →
    (Nums (h.drop i) → impl_GoodAgg.l0 (k + d) x h (h.length : Int) (i : Int) c s mi ma hh f = impl_GoodAgg.l0 k (x + (h.drop i).sum) h (h.length : Int) (h.length : Int) c s mi ma hh f) ∧
    (¬ Nums (h.drop i) → impl_GoodAgg.l0 (k + d + 1) x h (h.length : Int) (i : Int) c s mi ma hh f = some false) := by
  induction d with
  | zero =>
    intro k i x hi h0 h1
    have hd : h.drop i = [] := List.drop_eq_nil_of_le (by omega)
    have hi' : i = h.length := by omega
    refine ⟨fun _ => ?_, fun hn => ?_⟩
    · rw [hd, List.sum_nil, Int.add_zero, hi']; rfl
    · rw [hd] at hn; exact absurd (fun x hx => by simp at hx) hn
  | succ d ih =>
    intro k i x hi h0 h1
    have hd := rd_at0 (l := h) (i := i) (by omega)
    have e1 : wrap64 ((i : Int) + 1) = ((i + 1 : Nat) : Int) := by rw [w64 (by omega) (by omega)]; omega
    by_cases hw : 0 ≤ rd h (i : Int) ∧ rd h (i : Int) ≤ 1000000000
    · have ew : wrap64 (x + rd h (i : Int)) = x + rd h (i : Int) := w64 (by omega) (by omega)
      obtain ⟨i1, i2⟩ := ih k (i + 1) (x + rd h (i : Int)) (by omega) (by omega) (by omega)
      refine ⟨fun hn => ?_, fun hn => ?_⟩
      · rw [hd] at hn
        rw [show k + (d + 1) = (k + d) + 1 by omega]
        conv => lhs; unfold impl_GoodAgg.l0
        rw [if_pos (by omega), if_pos (by omega), if_pos (by omega), within_ok, decide_eq_true hw, Option.bind_some, if_pos rfl, ew, e1, i1 hn.tail, hd, List.sum_cons, Int.add_assoc]
      · rw [hd] at hn
        have hn' : ¬ Nums (h.drop (i + 1)) := fun hn' => hn (Nums.cons hw.1 hw.2 hn')
        rw [show k + (d + 1) + 1 = (k + d + 1) + 1 by omega]
        conv => lhs; unfold impl_GoodAgg.l0
        rw [if_pos (by omega), if_pos (by omega), if_pos (by omega), within_ok, decide_eq_true hw, Option.bind_some, if_pos rfl, ew, e1, i2 hn']
    · refine ⟨fun hn => ?_, fun _ => ?_⟩
      · rw [hd] at hn; exact absurd hn.head hw
      · rw [show k + (d + 1) + 1 = (k + d + 1) + 1 by omega]
        conv => lhs; unfold impl_GoodAgg.l0
        rw [if_pos (by omega), if_pos (by omega), if_pos (by omega), within_ok, decide_eq_false hw, Option.bind_some, if_neg (by decide)]

theorem gs_l0 {h : List Int} (hl : h.length ≤ 8) (c s mi ma : Int) (hh : List Int) (f : Bool) (d : Nat) : ∀ (k i : Nat) (x : Int), i + d = h.length → 0 ≤ x → x ≤ 1000000000 * (i : Int) →
    (Nums (h.drop i) → spec_GoodAgg.l0 (k + d) x h (h.length : Int) (i : Int) c s mi ma hh f = spec_GoodAgg.l0 k (x + (h.drop i).sum) h (h.length : Int) (h.length : Int) c s mi ma hh f) ∧
    (¬ Nums (h.drop i) → spec_GoodAgg.l0 (k + d + 1) x h (h.length : Int) (i : Int) c s mi ma hh f = some false) := by
  induction d with
  | zero =>
    intro k i x hi h0 h1
    have hd : h.drop i = [] := List.drop_eq_nil_of_le (by omega)
    have hi' : i = h.length := by omega
    refine ⟨fun _ => ?_, fun hn => ?_⟩
    · rw [hd, List.sum_nil, Int.add_zero, hi']; rfl
    · rw [hd] at hn; exact absurd (fun x hx => by simp at hx) hn
  | succ d ih =>
    intro k i x hi h0 h1
    have hd := rd_at0 (l := h) (i := i) (by omega)
    have e1 : wrap64 ((i : Int) + 1) = ((i + 1 : Nat) : Int) := by rw [w64 (by omega) (by omega)]; omega
    by_cases hw : 0 ≤ rd h (i : Int) ∧ rd h (i : Int) ≤ 1000000000
    · have ew : wrap64 (x + rd h (i : Int)) = x + rd h (i : Int) := w64 (by omega) (by omega)
      obtain ⟨i1, i2⟩ := ih k (i + 1) (x + rd h (i : Int)) (by omega) (by omega) (by omega)
      refine ⟨fun hn => ?_, fun hn => ?_⟩
      · rw [hd] at hn
        rw [show k + (d + 1) = (k + d) + 1 by omega]
        conv => lhs; unfold spec_GoodAgg.l0
        rw [if_pos (by omega), if_pos (by omega), if_pos (by omega), l1In_ok, decide_eq_true hw, Option.bind_some, if_pos rfl, ew, e1, i1 hn.tail, hd, List.sum_cons, Int.add_assoc]
      · rw [hd] at hn
        have hn' : ¬ Nums (h.drop (i + 1)) := fun hn' => hn (Nums.cons hw.1 hw.2 hn')
        rw [show k + (d + 1) + 1 = (k + d + 1) + 1 by omega]
        conv => lhs; unfold spec_GoodAgg.l0
        rw [if_pos (by omega), if_pos (by omega), if_pos (by omega), l1In_ok, decide_eq_true hw, Option.bind_some, if_pos rfl, ew, e1, i2 hn']
    · refine ⟨fun hn => ?_, fun _ => ?_⟩
      · rw [hd] at hn; exact absurd hn.head hw
      · rw [show k + (d + 1) + 1 = (k + d + 1) + 1 by omega]
        conv => lhs; unfold spec_GoodAgg.l0
        rw [if_pos (by omega), if_pos (by omega), if_pos (by omega), l1In_ok, decide_eq_false hw, Option.bind_some, if_neg (by decide)]

/-- The answer of a test. -/
def Tells (p : Prop) (r : Option Bool) : Prop := (p → r = some true) ∧ (¬ p → r = some false)
theorem Tells.yes {p : Prop} (h : p) : Tells p (some true) := ⟨fun _ => rfl, fun h' => absurd h h'⟩
theorem Tells.no {p : Prop} (h : ¬ p) : Tells p (some false) := ⟨fun h' => absurd h' h, fun _ => rfl⟩

theorem impl_goodAll (a : Ag) {k : Nat} (hk : 20 < k) : Tells (Good a) (impl_GoodAgg.f k a.c a.s a.mi a.ma a.h a.f) := by
  obtain ⟨c, s, mi, ma, h, f⟩ := a
  simp only
  obtain ⟨k, rfl⟩ : ∃ m, k = m + 15 := ⟨k - 15, by omega⟩
  unfold impl_GoodAgg.f
  rw [within_ok, Option.bind_some]
  by_cases hc : 0 ≤ c ∧ c ≤ 1000000000
  · rw [decide_eq_true hc, if_pos rfl]
    rw [show k + 15 = (k + 14) + 1 from rfl, impl_GoodAgg.j0]
    by_cases hl : h.length = 8
    · rw [if_neg (by simp [hl])]
      have hs := gi_l0 (h := h) (by omega) c s mi ma h f 8
      by_cases hn : Nums h
      · obtain ⟨i1, _⟩ := hs (k + 6) 0 0 (by omega) (by omega) (by omega)
        have i1' := i1 (by rw [List.drop_zero]; exact hn)
        rw [List.drop_zero, Int.zero_add] at i1'
        have e0 : ((0 : Nat) : Int) = 0 := rfl
        rw [e0] at i1'
        rw [show k + 14 = k + 6 + 8 from rfl, i1']
        have hsum := hn.sum_bound
        conv => arg 2; unfold impl_GoodAgg.l0
        rw [if_neg (by omega)]
        have em : wrap64 (-1000000000 * c) = -1000000000 * c := w64 (by omega) (by omega)
        have ep : wrap64 (1000000000 * c) = 1000000000 * c := w64 (by omega) (by omega)
        have hj3 : ∀ (b : Bool), (b = false → (f = true → s = 0) ∧ (f = false → h.sum = c ∧ -1000000000 * c ≤ s ∧ s ≤ 1000000000 * c)) → (b = true → ¬ Good ⟨c, s, mi, ma, h, f⟩) → Tells (Good ⟨c, s, mi, ma, h, f⟩) (impl_GoodAgg.j3 (k + 4) h.sum b c s mi ma h f) := by
          intro b hb hb'
          rw [show k + 4 = (k + 3) + 1 from rfl, impl_GoodAgg.j3]
          by_cases b0 : b = true
          · rw [if_pos b0]; exact .no (hb' b0)
          obtain ⟨q1, q2⟩ := hb (Bool.eq_false_iff.2 b0)
          rw [if_neg b0]
          by_cases c0 : c = 0
          · rw [if_pos c0]
            by_cases m0 : mi = 0
            · rw [if_pos m0]
              by_cases m1 : ma = 0
              · rw [if_pos m1]
                by_cases s0 : h.sum = 0
                · rw [if_pos s0]
                  cases f
                  · exact .yes ⟨hc.1, hc.2, hl, hn, q1, q2, fun _ => ⟨m0, m1, s0, rfl⟩, fun h' => absurd c0 h'⟩
                  · exact .no (fun g => absurd (g.zero c0).2.2.2 (by simp))
                · rw [if_neg s0]; exact .no (fun g => s0 (g.zero c0).2.2.1)
              · rw [if_neg m1]; exact .no (fun g => m1 (g.zero c0).2.1)
            · rw [if_neg m0]; exact .no (fun g => m0 (g.zero c0).1)
          · rw [if_neg c0, isValue_ok, Option.bind_some]
            by_cases v1 : -1000000000 ≤ mi ∧ mi ≤ 1000000000
            · rw [decide_eq_true v1, if_pos rfl, isValue_ok, Option.bind_some]
              by_cases v2 : -1000000000 ≤ ma ∧ ma ≤ 1000000000
              · rw [decide_eq_true v2, if_pos rfl]
                by_cases v3 : mi ≤ ma
                · rw [decide_eq_true v3]
                  exact .yes ⟨hc.1, hc.2, hl, hn, q1, q2, fun h' => absurd h' c0, fun _ => ⟨v1.1, v3, v2.2⟩⟩
                · rw [decide_eq_false v3]; exact .no (fun g => v3 (g.some c0).2.1)
              · rw [decide_eq_false v2, if_neg (by decide)]
                exact .no (fun g => v2 (by have := g.some c0; simp only at this; omega))
            · rw [decide_eq_false v1, if_neg (by decide)]
              exact .no (fun g => v1 (by have := g.some c0; simp only at this; omega))
        cases f
        · rw [if_neg (by decide), impl_GoodAgg.j2, if_neg (by decide), if_neg (by decide)]
          by_cases hsc : h.sum = c
          · rw [if_pos hsc, within_ok, Option.bind_some, em, ep]
            by_cases hs' : -1000000000 * c ≤ s ∧ s ≤ 1000000000 * c
            · rw [decide_eq_true hs']
              exact hj3 false (fun _ => ⟨fun h' => absurd h' (by decide), fun _ => ⟨hsc, hs'.1, hs'.2⟩⟩) (fun h' => absurd h' (by decide))
            · rw [decide_eq_false hs']
              exact hj3 true (fun h' => absurd h' (by decide)) (fun _ g => hs' (g.notfull rfl).2)
          · rw [if_neg hsc]
            exact hj3 true (fun h' => absurd h' (by decide)) (fun _ g => hsc (g.notfull rfl).1)
        · rw [if_pos rfl, impl_GoodAgg.j2]
          by_cases s0 : s = 0
          · rw [if_neg (by simp [s0]), if_pos rfl]
            exact hj3 false (fun _ => ⟨fun _ => s0, fun h' => absurd h' (by simp)⟩) (fun h' => absurd h' (by decide))
          · rw [if_pos (by simp [s0])]
            exact .no (fun g => s0 (g.full rfl))
      · obtain ⟨_, i2⟩ := hs (k + 5) 0 0 (by omega) (by omega) (by omega)
        have i2' := i2 (by rw [List.drop_zero]; exact hn)
        have e0 : ((0 : Nat) : Int) = 0 := rfl
        rw [e0] at i2'
        rw [show k + 14 = k + 5 + 8 + 1 from rfl, i2']
        exact .no (fun g => hn g.nums)
    · rw [if_pos (by simp only [bne_iff_ne, ne_eq]; omega)]
      exact .no (fun g => hl g.len)
  · rw [decide_eq_false hc, if_neg (by decide)]
    rw [show k + 15 = (k + 14) + 1 from rfl, impl_GoodAgg.j0, if_pos rfl]
    exact .no (fun g => hc ⟨g.c0, g.c1⟩)

theorem impl_good {a : Ag} (_hr : Rg a) {k : Nat} (hk : 20 < k) : Tells (Good a) (impl_GoodAgg.f k a.c a.s a.mi a.ma a.h a.f) := impl_goodAll a hk

theorem spec_goodAll (a : Ag) {k : Nat} (hk : 20 < k) : Tells (Good a) (spec_GoodAgg.f k a.c a.s a.mi a.ma a.h a.f) := by
  obtain ⟨c, s, mi, ma, h, f⟩ := a
  simp only
  obtain ⟨k, rfl⟩ : ∃ m, k = m + 15 := ⟨k - 15, by omega⟩
  unfold spec_GoodAgg.f
  rw [l1In_ok, Option.bind_some]
  by_cases hc : 0 ≤ c ∧ c ≤ 1000000000
  · rw [decide_eq_true hc, if_pos rfl]
    rw [show k + 15 = (k + 14) + 1 from rfl, spec_GoodAgg.j0]
    by_cases hl : h.length = 8
    · rw [if_neg (by simp [hl])]
      have hs := gs_l0 (h := h) (by omega) c s mi ma h f 8
      by_cases hn : Nums h
      · obtain ⟨i1, _⟩ := hs (k + 6) 0 0 (by omega) (by omega) (by omega)
        have i1' := i1 (by rw [List.drop_zero]; exact hn)
        rw [List.drop_zero, Int.zero_add] at i1'
        have e0 : ((0 : Nat) : Int) = 0 := rfl
        rw [e0] at i1'
        rw [show k + 14 = k + 6 + 8 from rfl, i1']
        have hsum := hn.sum_bound
        conv => arg 2; unfold spec_GoodAgg.l0
        rw [if_neg (by omega)]
        have em : wrap64 (-1000000000 * c) = -1000000000 * c := w64 (by omega) (by omega)
        have ep : wrap64 (1000000000 * c) = 1000000000 * c := w64 (by omega) (by omega)
        by_cases c0 : c = 0
        · rw [if_pos c0]
          by_cases s0 : h.sum = 0
          · rw [if_pos s0]
            by_cases m0 : mi = 0
            · rw [if_pos m0]
              by_cases m1 : ma = 0
              · rw [if_pos m1]
                by_cases t0 : s = 0
                · rw [if_pos t0]
                  cases f
                  · exact .yes ⟨hc.1, hc.2, hl, hn, fun _ => t0, fun _ => ⟨by simp only; omega, by simp only; omega, by simp only; omega⟩, fun _ => ⟨m0, m1, s0, rfl⟩, fun h' => absurd c0 h'⟩
                  · exact .no (fun g => absurd (g.zero c0).2.2.2 (by simp))
                · rw [if_neg t0]
                  exact .no (fun g => t0 (by have h1 := g.notfull (g.zero c0).2.2.2; simp only at h1; omega))
              · rw [if_neg m1]; exact .no (fun g => m1 (g.zero c0).2.1)
            · rw [if_neg m0]; exact .no (fun g => m0 (g.zero c0).1)
          · rw [if_neg s0]; exact .no (fun g => s0 (g.zero c0).2.2.1)
        · have hj2 : ∀ (b : Bool), (b = false → -1000000000 ≤ mi ∧ mi ≤ ma ∧ ma ≤ 1000000000) → (b = true → ¬ Good ⟨c, s, mi, ma, h, f⟩) → Tells (Good ⟨c, s, mi, ma, h, f⟩) (spec_GoodAgg.j2 (k + 5) h.sum b c s mi ma h f) := by
            intro b hb hb'
            rw [show k + 5 = (k + 4) + 1 from rfl, spec_GoodAgg.j2]
            by_cases b0 : b = true
            · rw [if_pos b0]; exact .no (hb' b0)
            have hv := hb (Bool.eq_false_iff.2 b0)
            rw [if_neg b0]
            cases f
            · rw [if_neg (by decide)]
              by_cases hsc : h.sum = c
              · rw [if_pos hsc, l1In_ok, Option.bind_some, em, ep]
                by_cases hs' : -1000000000 * c ≤ s ∧ s ≤ 1000000000 * c
                · rw [decide_eq_true hs']
                  exact .yes ⟨hc.1, hc.2, hl, hn, fun h' => absurd h' (by simp), fun _ => ⟨hsc, hs'.1, hs'.2⟩, fun h' => absurd h' c0, fun _ => hv⟩
                · rw [decide_eq_false hs']; exact .no (fun g => hs' (g.notfull rfl).2)
              · rw [if_neg hsc]; exact .no (fun g => hsc (g.notfull rfl).1)
            · rw [if_pos rfl]
              by_cases t0 : s = 0
              · rw [show (s == 0) = true from beq_iff_eq.2 t0]
                exact .yes ⟨hc.1, hc.2, hl, hn, fun _ => t0, fun h' => absurd h' (by simp), fun h' => absurd h' c0, fun _ => hv⟩
              · rw [show (s == 0) = false from beq_eq_false_iff_ne.2 t0]; exact .no (fun g => t0 (g.full rfl))
          rw [if_neg c0, l4Value_ok, Option.bind_some]
          by_cases v1 : -1000000000 ≤ mi ∧ mi ≤ 1000000000
          · rw [decide_eq_true v1, if_pos rfl, l4Value_ok, Option.bind_some]
            by_cases v2 : -1000000000 ≤ ma ∧ ma ≤ 1000000000
            · rw [decide_eq_true v2, if_pos rfl]
              by_cases v3 : mi > ma
              · rw [decide_eq_true v3]
                exact hj2 true (fun h' => absurd h' (by decide)) (fun _ g => by have := g.some c0; simp only at this; omega)
              · rw [decide_eq_false v3]
                exact hj2 false (fun _ => ⟨v1.1, by omega, v2.2⟩) (fun h' => absurd h' (by decide))
            · rw [decide_eq_false v2, if_neg (by decide)]
              exact hj2 true (fun h' => absurd h' (by decide)) (fun _ g => v2 (by have := g.some c0; simp only at this; omega))
          · rw [decide_eq_false v1, if_neg (by decide)]
            exact hj2 true (fun h' => absurd h' (by decide)) (fun _ g => v1 (by have := g.some c0; simp only at this; omega))
      · obtain ⟨_, i2⟩ := hs (k + 5) 0 0 (by omega) (by omega) (by omega)
        have i2' := i2 (by rw [List.drop_zero]; exact hn)
        have e0 : ((0 : Nat) : Int) = 0 := rfl
        rw [e0] at i2'
        rw [show k + 14 = k + 5 + 8 + 1 from rfl, i2']
        exact .no (fun g => hn g.nums)
    · rw [if_pos (by simp only [bne_iff_ne, ne_eq]; omega)]
      exact .no (fun g => hl g.len)
  · rw [decide_eq_false hc, if_neg (by decide)]
    rw [show k + 15 = (k + 14) + 1 from rfl, spec_GoodAgg.j0, if_pos rfl]
    exact .no (fun g => hc ⟨g.c0, g.c1⟩)

theorem spec_good {a : Ag} (_hr : Rg a) {k : Nat} (hk : 20 < k) : Tells (Good a) (spec_GoodAgg.f k a.c a.s a.mi a.ma a.h a.f) := spec_goodAll a hk

end Go.Proofs.Ytdkokfnnebdppaa.Lem

/- The order of texts: words with ends that are less than every letter are in the order of their letters. -/
namespace Go.Proofs.Ytdkokfnnebdppaa.Lem
open Go

theorem less_irrefl : ∀ x : List UInt8, Op.bytesLess x x = false
  | [] => rfl
  | a :: x => by
    rw [Op.bytesLess, less_irrefl x, Bool.and_false, Bool.or_false]
    exact decide_eq_false (by rw [UInt8.lt_iff_toNat_lt]; omega)

theorem less_cons (a b : UInt8) (x y : List UInt8) : Op.bytesLess (a :: x) (b :: y) = if a = b then Op.bytesLess x y else decide (a < b) := by
  rw [Op.bytesLess]
  by_cases h : a = b
  · subst h
    rw [if_pos rfl, beq_self_eq_true, Bool.true_and, decide_eq_false (by rw [UInt8.lt_iff_toNat_lt]; omega), Bool.false_or]
  · rw [if_neg h, beq_eq_false_iff_ne.2 h, Bool.false_and, Bool.or_false]

/-- The order of two texts as a number. -/
def ord (x y : List UInt8) : Int := if Op.bytesLess x y = true then -1 else if Op.bytesLess y x = true then 1 else 0
theorem ord_self (x : List UInt8) : ord x x = 0 := by
  unfold ord
  rw [less_irrefl, if_neg (by decide), if_neg (by decide)]
theorem ord_cons (a b : UInt8) (x y : List UInt8) : ord (a :: x) (b :: y) = if a = b then ord x y else if a < b then -1 else 1 := by
  unfold ord
  rw [less_cons, less_cons]
  by_cases h : a = b
  · subst h
    rw [if_pos rfl, if_pos rfl, if_pos rfl]
  · rw [if_neg h, if_neg (Ne.symm h), if_neg h]
    have hn : a.toNat ≠ b.toNat := fun e => h (UInt8.toNat_inj.1 e)
    by_cases hl : a < b
    · rw [if_pos (decide_eq_true hl), if_pos hl]
    · rw [if_neg (by simpa using hl), if_neg hl]
      rw [UInt8.lt_iff_toNat_lt] at hl
      rw [if_pos (decide_eq_true (by rw [UInt8.lt_iff_toNat_lt]; omega))]
theorem ord_nil_cons (b : UInt8) (y : List UInt8) : ord [] (b :: y) = -1 := rfl
theorem ord_cons_nil (b : UInt8) (y : List UInt8) : ord (b :: y) [] = 1 := rfl

/-- Words whose ends are less than each letter. -/
theorem ord_ends : ∀ (a b : List UInt8) (c d : UInt8) (x y : List UInt8), (∀ h ∈ a, d < h) → (∀ h ∈ b, c < h) →
    ord (a ++ c :: x) (b ++ d :: y) = if a = b then ord (c :: x) (d :: y) else ord a b
  | [], [], c, d, x, y, _, _ => by rw [if_pos rfl]; rfl
  | [], g :: b, c, d, x, y, _, hb => by
    have h1 : c < g := hb g (List.mem_cons_self ..)
    have hne : c ≠ g := fun e => by subst e; rw [UInt8.lt_iff_toNat_lt] at h1; omega
    rw [if_neg (by simp), ord_nil_cons, List.nil_append, List.cons_append, ord_cons, if_neg hne, if_pos h1]
  | h :: a, [], c, d, x, y, ha, _ => by
    have h1 : d < h := ha h (List.mem_cons_self ..)
    have h2 : ¬ h < d := by rw [UInt8.lt_iff_toNat_lt] at h1 ⊢; omega
    have hne : h ≠ d := fun e => by subst e; exact h2 h1
    rw [if_neg (by simp), ord_cons_nil, List.nil_append, List.cons_append, ord_cons, if_neg hne, if_neg h2]
  | h :: a, g :: b, c, d, x, y, ha, hb => by
    have ih := ord_ends a b c d x y (fun q hq => ha q (List.mem_cons_of_mem _ hq)) (fun q hq => hb q (List.mem_cons_of_mem _ hq))
    rw [List.cons_append, List.cons_append, ord_cons h g (a ++ c :: x) (b ++ d :: y), ord_cons h g a b, ih]
    by_cases e : h = g
    · subst e
      rw [if_pos rfl, if_pos rfl]
      by_cases e2 : a = b
      · rw [if_pos e2, if_pos (by rw [e2])]
      · rw [if_neg e2, if_neg (by simpa using e2)]
    · rw [if_neg e, if_neg e, if_neg (show ¬ (h :: a = g :: b) from fun q => e (by injection q))]

theorem ord_eq_zero : ∀ {a b : List UInt8}, ord a b = 0 → a = b
  | [], [], _ => rfl
  | [], g :: b, h => by rw [ord_nil_cons] at h; exact absurd h (by decide)
  | x :: a, [], h => by rw [ord_cons_nil] at h; exact absurd h (by decide)
  | x :: a, g :: b, h => by
    rw [ord_cons] at h
    by_cases e : x = g
    · subst e
      rw [if_pos rfl] at h
      rw [ord_eq_zero h]
    · rw [if_neg e] at h
      split at h <;> exact absurd h (by decide)
end Go.Proofs.Ytdkokfnnebdppaa.Lem

/- Two texts and two numbers compared, and the first of numbers that is not nought. No conditions. -/
namespace Go.Proofs.Ytdkokfnnebdppaa.Lem
open Go Go.RowKit Go.Proofs.Ytdkokfnnebdppaa.P Go.Proofs.YtdkokfnnebdppaaW.PrintWords Go.Proofs.YtdkokfnnebdppaaW.PrintLast Go.Proofs.YtdkokfnnebdppaaW.PrintMore

def ordB (a b : ByteArray) : Int := ord a.data.toList b.data.toList
def sgnI (a b : Int) : Int := if a < b then -1 else if a > b then 1 else 0
theorem cmpS_ok (a b : ByteArray) : cmp_Compare_string.f a b = some (ordB a b) := by
  unfold cmp_Compare_string.f cmp_isNaN_string.f
  rw [bne_self_eq_false, bne_self_eq_false, Option.bind_some, Option.bind_some, if_neg (by decide), if_neg (by decide)]
  unfold ordB ord
  rw [Go.Lib.toList_data, Go.Lib.toList_data]
  split
  · rfl
  · split <;> rfl
theorem cmpI_ok (a b : Int) : cmp_Compare_int.f a b = some (sgnI a b) := by
  unfold cmp_Compare_int.f cmp_isNaN_int.f
  rw [bne_self_eq_false, bne_self_eq_false, Option.bind_some, Option.bind_some, if_neg (by decide), if_neg (by decide)]
  unfold sgnI
  split
  · rfl
  · split <;> rfl
theorem or2_ok (x y : Int) (k : Nat) : cmp_Or_int.f (k + 3) [x, y] = some (if x = 0 then y else x) := by
  unfold cmp_Or_int.f
  show cmp_Or_int.l0 (k + 3) 0 [x, y] 2 0 = _
  rw [cmp_Or_int.l0, if_pos (by decide), if_pos (by decide), if_pos (show (0 : Int) < ([x, y].length : Int) from (by decide : (0 : Int) < ((2 : Nat) : Int))), show rd [x, y] 0 = x from rfl]
  by_cases h : x = 0
  · rw [if_pos h, if_pos h, show wrap64 (0 + 1) = 1 from w64 (by decide) (by decide), cmp_Or_int.l0, if_pos (by decide), if_pos (by decide), if_pos (show (1 : Int) < ([x, y].length : Int) from (by decide : (1 : Int) < ((2 : Nat) : Int))), show rd [x, y] 1 = y from rfl]
    by_cases h2 : y = 0
    · rw [if_pos h2, show wrap64 (1 + 1) = 2 from w64 (by decide) (by decide), cmp_Or_int.l0, if_neg (by decide), h2]
    · rw [if_neg h2]
  · rw [if_neg h, if_neg h]
theorem or3_ok (x y z : Int) (k : Nat) : cmp_Or_int.f (k + 4) [x, y, z] = some (if x = 0 then (if y = 0 then z else y) else x) := by
  unfold cmp_Or_int.f
  show cmp_Or_int.l0 (k + 4) 0 [x, y, z] 3 0 = _
  rw [cmp_Or_int.l0, if_pos (by decide), if_pos (by decide), if_pos (show (0 : Int) < ([x, y, z].length : Int) from (by decide : (0 : Int) < ((3 : Nat) : Int))), show rd [x, y, z] 0 = x from rfl]
  by_cases h : x = 0
  · rw [if_pos h, if_pos h, show wrap64 (0 + 1) = 1 from w64 (by decide) (by decide), cmp_Or_int.l0, if_pos (by decide), if_pos (by decide), if_pos (show (1 : Int) < ([x, y, z].length : Int) from (by decide : (1 : Int) < ((3 : Nat) : Int))), show rd [x, y, z] 1 = y from rfl]
    by_cases h2 : y = 0
    · rw [if_pos h2, if_pos h2, show wrap64 (1 + 1) = 2 from w64 (by decide) (by decide), cmp_Or_int.l0, if_pos (by decide), if_pos (by decide), if_pos (show (2 : Int) < ([x, y, z].length : Int) from (by decide : (2 : Int) < ((3 : Nat) : Int))), show rd [x, y, z] 2 = z from rfl]
      by_cases h3 : z = 0
      · rw [if_pos h3, show wrap64 (2 + 1) = 3 from w64 (by decide) (by decide), cmp_Or_int.l0, if_neg (by decide), h3]
      · rw [if_neg h3]
    · rw [if_neg h2, if_neg h2]
  · rw [if_neg h, if_neg h]
end Go.Proofs.Ytdkokfnnebdppaa.Lem

/- Words on lists: a place of a row, and what stands behind it. No conditions. -/
namespace Go.Proofs.Ytdkokfnnebdppaa.Lem
open Go Go.RowKit Go.Proofs.Ytdkokfnnebdppaa.P Go.Proofs.YtdkokfnnebdppaaW.PrintWords Go.Proofs.YtdkokfnnebdppaaW.PrintLast Go.Proofs.YtdkokfnnebdppaaW.PrintMore

theorem drop_get {α : Type} {l : List α} {i : Nat} (h : i < l.length) : l.drop i = l[i] :: l.drop (i + 1) := (List.drop_eq_getElem_cons h)
theorem set_copy {α β : Type} (f : α → β) (z : β) {l : List α} {i d : Nat} (h : i < l.length) : ((l.take i).map f ++ List.replicate (d + 1) z).set i (f l[i]) = (l.take (i + 1)).map f ++ List.replicate d z := by
  have hl : ((l.take i).map f).length = i := by rw [List.length_map, List.length_take]; omega
  rw [List.set_append_right _ _ (by omega), hl, Nat.sub_self, List.replicate_succ, List.set_cons_zero, List.take_succ_eq_append_getElem h, List.map_append, List.append_assoc]
  rfl
theorem set_mid {α : Type} (pre : List α) (a v : α) (rest : List α) {i : Nat} (h : i = pre.length) : (pre ++ a :: rest).set i v = pre ++ v :: rest := by
  subst h
  rw [List.set_append_right _ _ (Nat.le_refl _), Nat.sub_self, List.set_cons_zero]
theorem getD_mid {α : Type} (pre : List α) (a : α) (rest : List α) (d : α) {i : Nat} (h : i = pre.length) : (pre ++ a :: rest).getD i d = a := by
  subst h
  rw [List.getD_eq_getElem?_getD, List.getElem?_append_right (Nat.le_refl _), Nat.sub_self]
  rfl
end Go.Proofs.Ytdkokfnnebdppaa.Lem

/- Aggs that come in: their copies, and that a copy equals itself. -/
namespace Go.Proofs.Ytdkokfnnebdppaa.Lem
open Go Go.RowKit Go.Proofs.Ytdkokfnnebdppaa.P Go.Proofs.YtdkokfnnebdppaaW.PrintWords Go.Proofs.YtdkokfnnebdppaaW.PrintLast Go.Proofs.YtdkokfnnebdppaaW.PrintMore

theorem rd_at1 {l : List Int} {i : Nat} (h : i < l.length) : l.drop i = rd l (i : Int) :: l.drop (i + 1) := by
  rw [List.drop_eq_getElem_cons h]
  unfold rd
  rw [Int.toNat_natCast, List.getD_eq_getElem?_getD, List.getElem?_eq_getElem h]
  rfl
/-! ### copies -/
theorem rd_set_copy {l : List Int} {i d : Nat} (hi : i + (d + 1) = l.length) : (l.take i ++ List.replicate (d + 1) 0).set i (rd l (i : Int)) = l.take (i + 1) ++ List.replicate d 0 := by
  have hl : (l.take i).length = i := by rw [List.length_take]; omega
  have hd := rd_at1 (l := l) (i := i) (by omega)
  have ht : l.take (i + 1) = l.take i ++ [rd l (i : Int)] := by
    have h1 := List.take_append_drop i l
    have h2 : l = (l.take i ++ [rd l (i : Int)]) ++ l.drop (i + 1) := by rw [List.append_assoc, List.singleton_append, ← hd, h1]
    have h3 : (l.take i ++ [rd l (i : Int)]).length = i + 1 := by rw [List.length_append, List.length_take, List.length_singleton]; omega
    have h4 := congrArg (List.take (i + 1)) h2
    rw [List.take_left' h3] at h4
    exact h4
  rw [ht, List.set_append_right _ _ (by omega), hl, Nat.sub_self, List.replicate_succ, List.set_cons_zero, List.append_assoc]
  rfl
theorem toInts_l0 {l : List Int} (hl : l.length ≤ 1048576) (d : Nat) : ∀ (k i : Nat), i + d = l.length → d < k → laws_toIntS.l0 k l (l.take i ++ List.replicate d 0) (i : Int) = some l := by
  induction d with
  | zero =>
    intro k i hi hk
    obtain ⟨k, rfl⟩ : ∃ m, k = m + 1 := ⟨k - 1, by omega⟩
    conv => lhs; unfold laws_toIntS.l0
    rw [if_neg (by omega), List.take_of_length_le (by omega), List.replicate_zero, List.append_nil]
  | succ d ih =>
    intro k i hi hk
    obtain ⟨k, rfl⟩ : ∃ m, k = m + 1 := ⟨k - 1, by omega⟩
    have hnext := ih k (i + 1) (by omega) (by omega)
    have ht : (l.take i).length = i := by rw [List.length_take]; omega
    conv => lhs; unfold laws_toIntS.l0
    rw [if_pos (by omega), if_pos (by omega), if_pos (by rw [List.length_append, List.length_replicate, ht]; omega), Int.toNat_natCast, rd_set_copy hi, show wrap64 ((i : Int) + 1) = ((i + 1 : Nat) : Int) from by rw [w64 (by omega) (by omega)]; omega]
    exact hnext
theorem toAgg_ok (c s mi ma : Int) {l : List Int} (hl : l.length ≤ 1048576) (f : Bool) {k : Nat} (hk : 1048576 < k) : laws_toAgg.f k c s mi ma l f = some (c, s, mi, ma, l, f) := by
  have h := toInts_l0 hl l.length k 0 (by omega) (by omega)
  rw [List.take_zero, List.nil_append] at h
  have h' : laws_toIntS.f k l = some l := by
    unfold laws_toIntS.f
    rw [if_pos (by omega), if_pos (by omega), Int.toNat_natCast]
    exact h
  unfold laws_toAgg.f
  rw [h', Option.bind_some]
theorem eqInts_l0 {l : List Int} (hl : l.length ≤ 1048576) (d : Nat) : ∀ (k i : Nat), i + d = l.length → d < k → laws_eqIntS.l0 k l l (i : Int) = some true := by
  induction d with
  | zero =>
    intro k i hi hk
    obtain ⟨k, rfl⟩ : ∃ m, k = m + 1 := ⟨k - 1, by omega⟩
    conv => lhs; unfold laws_eqIntS.l0
    rw [if_neg (by omega)]
  | succ d ih =>
    intro k i hi hk
    obtain ⟨k, rfl⟩ : ∃ m, k = m + 1 := ⟨k - 1, by omega⟩
    have hnext := ih k (i + 1) (by omega) (by omega)
    conv => lhs; unfold laws_eqIntS.l0
    rw [if_pos (by omega), if_pos (by omega), if_pos (by omega), if_pos rfl, show wrap64 ((i : Int) + 1) = ((i + 1 : Nat) : Int) from by rw [w64 (by omega) (by omega)]; omega]
    exact hnext
theorem eqAgg_ok (c s mi ma : Int) {l : List Int} (hl : l.length ≤ 1048576) (f : Bool) {k : Nat} (hk : 1048576 < k) : laws_eqAgg.f k c s mi ma l f c s mi ma l f = some true := by
  have h := eqInts_l0 hl l.length k 0 (by omega) (by omega)
  have h' : laws_eqIntS.f k l l = some true := by
    unfold laws_eqIntS.f
    rw [if_pos rfl]
    exact h
  unfold laws_eqAgg.f
  rw [if_pos rfl, if_pos rfl, if_pos rfl, if_pos rfl, h', Option.bind_some, if_pos rfl, if_neg (by cases f <;> decide)]


theorem szAgg_ok (c s mi ma : Int) {l : List Int} (hl : l.length ≤ 9223372036854775807) (f : Bool) {x : Int} (h0 : 0 ≤ x) (h1 : x ≤ 1048576) : ∃ r, laws_szAgg.f c s mi ma l f x = some r ∧ (r < 0 ∨ (0 ≤ r ∧ r ≤ x ∧ l.length ≤ 1048576)) := by
  unfold laws_szAgg.f laws_szIntS.f
  rw [show wrap64 (x - (l.length : Int)) = x - (l.length : Int) from w64 (by omega) (by omega)]
  by_cases h : x - (l.length : Int) < 0
  · exact ⟨-1, by rw [if_pos h, Option.bind_some, if_pos (by decide)], .inl (by omega)⟩
  · exact ⟨_, by rw [if_neg h, Option.bind_some, if_neg h], .inr ⟨by omega, by omega, by omega⟩⟩
end Go.Proofs.Ytdkokfnnebdppaa.Lem

/- An argument of a row, opened by its type: what reads as a value of the type is of the printed kind, at whatever depth. -/
namespace Go.Proofs.Ytdkokfnnebdppaa.Lem
open Go Go.ChangeShapes Go.WideShapes Go.RowKit Go.Proofs.Ytdkokfnnebdppaa.P Go.Proofs.YtdkokfnnebdppaaW.PrintWords Go.Proofs.YtdkokfnnebdppaaW.PrintLast Go.Proofs.YtdkokfnnebdppaaW.PrintMore

theorem list_of {α : Type} {p : Nat → α → Prop} : ∀ n, (∀ i, i < n → ∃ z, p i z) → ∃ l : List α, l.length = n ∧ ∀ i z, l[i]? = some z → p i z
  | 0, _ => ⟨[], rfl, fun i z h => by simp at h⟩
  | n + 1, h => by
    obtain ⟨l, hl, hp⟩ := list_of n (fun i hi => h i (by omega))
    obtain ⟨z, hz⟩ := h n (by omega)
    refine ⟨l ++ [z], by rw [List.length_append, hl]; rfl, fun i y hy => ?_⟩
    rcases Nat.lt_or_ge i l.length with hi | hi
    · rw [List.getElem?_append_left hi] at hy
      exact hp i y hy
    · have hi' : i = l.length := by
        have := (List.getElem?_eq_some_iff.1 hy).1
        rw [List.length_append, List.length_singleton] at this
        omega
      subst hi'
      have : z = y := by simpa using hy
      subst this
      rw [hl]
      exact hz

theorem addr_add2 (a : Addr) (x y : Nat) : (a.add x).add y = a.add (x + y) := by
  unfold Addr.add
  by_cases hx : x = 0
  · subst hx
    rw [if_pos rfl, Nat.zero_add]
  · by_cases hy : y = 0
    · subst hy
      rw [if_pos rfl, Nat.add_zero]
    · rw [if_neg hx, if_neg hy, if_neg (by omega)]
      simp only [Nat.add_assoc]
section
variable {H : Type} (enc : TypeId × Value → H) (P : Program) (w : World) (base : Nat) (spare : Nat → Bool) (held : Bool)
/-- What reads as a value of the type is of the kind, and good. -/
def Opens {α : Type} (d : Kd α) (t : TypeId) (g : α → Prop) : Prop :=
  ∀ (fuel : Nat) (cs : List Value) (x : DataW H × List MemPlace), DataW.trod enc P w base spare held fuel t cs = some x → ∃ a, d.K w a cs ∧ g a
/-- .. a struct's fields from a place on. -/
def OpensF {α : Type} (d : Kd α) (fs : List Field) (o : Nat) (g : α → Prop) : Prop :=
  ∀ (n : Nat) (cs : List Value) (xs : List (DataW H × List MemPlace)), xs.length = fs.length → cs.length = o + (fs.map fun f => P.cellsOf f.type).sum →
    (∀ (i : Nat) (f : Field), fs[i]? = some f → DataW.trod enc P w base spare held n f.type ((cs.drop f.offset).take (P.cellsOf f.type)) = xs[i]?) → ∃ a, d.K w a (cs.drop o) ∧ g a
variable {enc P w base spare held}
variable {α β : Type} {t e : TypeId}
theorem opens_int {k : IntKind} (ht : P.underlying t = some (.int k)) : Opens enc P w base spare held (Kd.int k) t (fun n => (Lit.int k n).wf = true) := fun fuel cs x h => by
  obtain ⟨n, rfl, _, hw⟩ := DataW.trod_int ht h
  exact ⟨n, rfl, hw⟩
theorem opens_bool (ht : P.underlying t = some .bool) : Opens enc P w base spare held Kd.bool t (fun _ => True) := fun fuel cs x h => by
  obtain ⟨b, rfl, _⟩ := DataW.trod_bool ht h
  exact ⟨b, rfl, trivial⟩
theorem opens_string (ht : P.underlying t = some .string) : Opens enc P w base spare held Kd.string t (fun s => s.size ≤ maxLen) := fun fuel cs x h => by
  obtain ⟨s, rfl, _, hs⟩ := DataW.trod_string ht h
  exact ⟨s, rfl, hs⟩
theorem opens_slice {d : Kd α} {g : α → Prop} (e' : Nat) (ht : P.underlying t = some (.slice e)) (hd : Opens enc P w base spare held d e g) (hc : P.cellsOf e = d.sz) :
    Opens enc P w base spare held (Kd.slice e' d) t (fun l => l.length ≤ maxLen ∧ ∀ a ∈ l, g a) := fun fuel cs x h => by
  rcases DataW.trod_slice ht h with ⟨rfl, _⟩ | ⟨a, len, cap, elems, rest, n, _, rfl, _, hb, hl, hm, hlen, hel, _, _⟩
  · exact ⟨[], ⟨none, 0, rfl, Nat.le_refl _, rfl, Nat.zero_le _, fun h => absurd h (Nat.lt_irrefl _)⟩, Nat.zero_le _, fun a h => by simp at h⟩
  · have each : ∀ i, i < len → ∃ z, (∃ c, c.length = d.sz ∧ d.K w z c ∧ ∀ j u, c[j]? = some u → w.cell? (a.add (i * d.sz + j)) = some u) ∧ g z := by
      intro i hi
      have h1 := hel i hi
      rw [List.getElem?_eq_getElem (by omega), Option.bind_eq_some_iff] at h1
      obtain ⟨cs', hcs, ht'⟩ := h1
      obtain ⟨z, hz, hg⟩ := hd _ _ _ ht'
      obtain ⟨_, hl', hcell⟩ := World.cells?_some hcs
      refine ⟨z, ⟨cs', by rw [← hc]; exact hl', hz, fun j u hj => ?_⟩, hg⟩
      have hj' : j < P.cellsOf e := by have := (List.getElem?_eq_some_iff.1 hj).1; omega
      have h2 := hcell j hj'
      rw [hj, hc] at h2
      have ea : (a.add (i * d.sz)).add j = a.add (i * d.sz + j) := addr_add2 a _ _
      rw [← ea]
      exact h2
    obtain ⟨l, hll, hp⟩ := list_of len each
    subst hll
    have hml : l.length ≤ maxLen := Nat.le_trans hl hm
    refine ⟨l, ⟨some a, cap, rfl, hl, rfl, Nat.le_trans hml (of_decide_eq_true (by kernel_rfl)), fun _ => ⟨a, rfl, fun j z hz => (hp j z hz).1⟩⟩, hml, fun z hz => ?_⟩
    obtain ⟨i, hi⟩ := List.getElem?_of_mem hz
    exact (hp i z hi).2
theorem opensF_one {d : Kd α} {g : α → Prop} {f : Field} {o : Nat} (ho : f.offset = o) (h : Opens enc P w base spare held d f.type g) : OpensF enc P w base spare held d [f] o g := fun n cs xs hx hl hf => by
  match xs, hx with
  | [y], _ =>
    obtain ⟨a, ha, hg⟩ := h _ _ _ (hf 0 f rfl)
    rw [List.map_cons, List.map_nil, List.sum_cons, List.sum_nil] at hl
    rw [ho, List.take_of_length_le (by rw [List.length_drop]; omega)] at ha
    exact ⟨a, ha, hg⟩
theorem opensF_cons {d : Kd α} {d2 : Kd β} {g : α → Prop} {g2 : β → Prop} {f : Field} {fs : List Field} {o : Nat} (ho : f.offset = o) (h : Opens enc P w base spare held d f.type g) (hr : OpensF enc P w base spare held d2 fs (o + P.cellsOf f.type) g2) :
    OpensF enc P w base spare held (Kd.pair d d2) (f :: fs) o (fun a => g a.1 ∧ g2 a.2) := fun n cs xs hx hl hf => by
  match xs, hx with
  | y :: ys, hx =>
    obtain ⟨a, ha, hg⟩ := h _ _ _ (hf 0 f rfl)
    rw [List.map_cons, List.sum_cons] at hl
    obtain ⟨b, hb, hg2⟩ := hr n cs ys (by simpa using hx) (by omega) (fun i f' hi => hf (i + 1) f' hi)
    rw [ho] at ha
    refine ⟨(a, b), ⟨_, _, ?_, ha, hb⟩, hg, hg2⟩
    rw [← List.drop_drop, List.take_append_drop]
theorem opens_struct {d : Kd α} {g : α → Prop} {fs : Array Field} (ht : P.underlying t = some (.struct fs)) (hc : P.cellsOf t = (fs.toList.map fun f => P.cellsOf f.type).sum) (h : OpensF enc P w base spare held d fs.toList 0 g) : Opens enc P w base spare held d t g := fun fuel cs x hx => by
  obtain ⟨xs, n, _, _, hl, hlen, hf⟩ := DataW.trod_struct ht hx
  have := h n cs xs (by rw [hlen]; simp) (by omega) (fun i f hi => hf i f (by simpa using hi))
  rw [List.drop_zero] at this
  exact this
theorem opens_iso {d : Kd α} {g : α → Prop} (f : β → α) (mk : α → β) (hmk : ∀ a, f (mk a) = a) (h : Opens enc P w base spare held d t g) : Opens enc P w base spare held (Kd.iso d f) t (fun b => g (f b)) := fun fuel cs x hx => by
  obtain ⟨a, ha, hg⟩ := h fuel cs x hx
  exact ⟨mk a, by show d.K w (f (mk a)) cs; rw [hmk]; exact ha, by show g (f (mk a)); rw [hmk]; exact hg⟩
end
end Go.Proofs.Ytdkokfnnebdppaa.Lem

/- No row is longer than memory. No conditions. -/
namespace Go.Proofs.Ytdkokfnnebdppaa.Lem
open Go Go.RowKit Go.Proofs.Ytdkokfnnebdppaa.P

theorem maxLen_le {n : Nat} (h : n ≤ maxLen) : n ≤ 9223372036854775807 := Nat.le_trans h (of_decide_eq_true (by kernel_rfl))
end Go.Proofs.Ytdkokfnnebdppaa.Lem

/- What is known of an agg that comes in as an argument. No conditions. -/
namespace Go.Proofs.Ytdkokfnnebdppaa.Lem
open Go Go.RowKit Go.Proofs.Ytdkokfnnebdppaa.P
def GAgg (a : S39) : Prop := (Lit.int .i64 a.f0).wf = true ∧ (Lit.int .i64 a.f1).wf = true ∧ (Lit.int .i64 a.f2).wf = true ∧ (Lit.int .i64 a.f3).wf = true ∧ (a.f4.length ≤ maxLen ∧ ∀ n ∈ a.f4, (Lit.int .i64 n).wf = true) ∧ True
end Go.Proofs.Ytdkokfnnebdppaa.Lem

/- What is known of an entry that comes in as an argument. No conditions. -/
namespace Go.Proofs.Ytdkokfnnebdppaa.Lem
open Go Go.RowKit Go.Proofs.Ytdkokfnnebdppaa.P
def GEntry (e : S41) : Prop := e.f0.size ≤ maxLen ∧ (Lit.int .i64 e.f1).wf = true ∧ (Lit.int .i64 e.f2).wf = true ∧ GAgg e.f3
end Go.Proofs.Ytdkokfnnebdppaa.Lem

/- Entries that come in: their measure, their copies, and that a copy equals itself. -/
namespace Go.Proofs.Ytdkokfnnebdppaa.Lem
open Go Go.RowKit Go.Proofs.Ytdkokfnnebdppaa.P Go.Proofs.YtdkokfnnebdppaaW.PrintWords Go.Proofs.YtdkokfnnebdppaaW.PrintLast Go.Proofs.YtdkokfnnebdppaaW.PrintMore

abbrev Le := S41
abbrev En := S45
theorem rdLe_get {l : List Le} {i : Nat} (h : i < l.length) : rd_T41 l (i : Int) = l[i] := by
  unfold rd_T41
  rw [Int.toNat_natCast, List.getD_eq_getElem?_getD, List.getElem?_eq_getElem h]
  rfl
theorem rdE_get {l : List En} {i : Nat} (h : i < l.length) : rd_T45 l (i : Int) = l[i] := by
  unfold rd_T45
  rw [Int.toNat_natCast, List.getD_eq_getElem?_getD, List.getElem?_eq_getElem h]
  rfl
/-- The place behind i. -/
theorem wrapS {i n : Nat} (h : i < n) (hn : n ≤ 1000000000000) : wrap64 ((i : Int) + 1) = ((i + 1 : Nat) : Int) := by rw [w64 (by omega) (by omega)]; omega
/-- An entry that Go can hold. -/
def HeldE (e : Le) : Prop := e.f0.size ≤ 9223372036854775807 ∧ e.f3.f4.length ≤ 9223372036854775807
/-- An entry that is no longer than the bound. -/
def ShortE (e : Le) : Prop := e.f0.size ≤ 1048576 ∧ e.f3.f4.length ≤ 1048576
theorem heldE {e : Le} (h : GEntry e) : HeldE e := ⟨maxLen_le h.1, maxLen_le h.2.2.2.2.2.2.2.1.1⟩
theorem szEntry_ok {e : Le} (he : HeldE e) {x : Int} (h0 : 0 ≤ x) (h1 : x ≤ 1048576) : ∃ r, laws_szEntry.f e.f0 e.f1 e.f2 e.f3.f0 e.f3.f1 e.f3.f2 e.f3.f3 e.f3.f4 e.f3.f5 x = some r ∧ (r < 0 ∨ (0 ≤ r ∧ r ≤ x ∧ ShortE e)) := by
  obtain ⟨hm, hl⟩ := he
  unfold laws_szEntry.f
  rw [show wrap64 (x - (e.f0.size : Int)) = x - (e.f0.size : Int) from w64 (by omega) (by omega)]
  by_cases h : x - (e.f0.size : Int) < 0
  · exact ⟨-1, by rw [if_pos h], .inl (by omega)⟩
  · obtain ⟨r, hr, hr2⟩ := szAgg_ok e.f3.f0 e.f3.f1 e.f3.f2 e.f3.f3 hl e.f3.f5 (x := x - (e.f0.size : Int)) (by omega) (by omega)
    rw [if_neg h, hr, Option.bind_some]
    by_cases hn : r < 0
    · exact ⟨-1, by rw [if_pos hn], .inl (by omega)⟩
    · exact ⟨r, by rw [if_neg hn], .inr ⟨by omega, by omega, by omega, by omega⟩⟩
theorem szEntryS_l0 (l : List Le) (hl : l.length ≤ 1048576) (hh : ∀ w ∈ l, HeldE w) : ∀ (d i k : Nat) (x : Int), i + d = l.length → d < k → 0 ≤ x → x ≤ 1048576 → ∃ r, laws_szEntryS.l0 k l x (i : Int) = some r ∧ (r < 0 ∨ (0 ≤ r ∧ r ≤ x ∧ ∀ w ∈ l.drop i, ShortE w)) := by
  intro d
  induction d with
  | zero =>
    intro i k x hi hk h0 h1
    obtain ⟨k, rfl⟩ : ∃ q, k = q + 1 := ⟨k - 1, by omega⟩
    exact ⟨x, by rw [laws_szEntryS.l0, if_neg (by omega)], .inr ⟨h0, Int.le_refl _, fun w hw => by rw [List.drop_of_length_le (by omega)] at hw; simp at hw⟩⟩
  | succ d ih =>
    intro i k x hi hk h0 h1
    obtain ⟨k, rfl⟩ : ∃ q, k = q + 1 := ⟨k - 1, by omega⟩
    have hlt : i < l.length := by omega
    obtain ⟨r, hr, hr2⟩ := szEntry_ok (hh l[i] (List.getElem_mem hlt)) h0 h1
    rw [laws_szEntryS.l0, if_pos (by omega), if_pos (by omega), rdLe_get hlt, hr, Option.bind_some]
    by_cases hn : r < 0
    · exact ⟨-1, by rw [if_pos hn], .inl (by omega)⟩
    · rw [if_neg hn, wrapS hlt (by omega)]
      have hr3 : 0 ≤ r ∧ r ≤ x ∧ ShortE l[i] := by
        rcases hr2 with h | h
        · exact absurd h hn
        · exact h
      obtain ⟨r2, hq, hq2⟩ := ih (i + 1) k r (by omega) (by omega) (by omega) (by omega)
      refine ⟨r2, hq, ?_⟩
      rcases hq2 with h | ⟨h, h', h''⟩
      · exact .inl h
      · refine .inr ⟨h, by omega, fun w hw => ?_⟩
        rw [drop_get hlt] at hw
        rcases List.mem_cons.1 hw with rfl | hw
        · exact hr3.2.2
        · exact h'' w hw
theorem szEntryS_ok {l : List Le} (hl : l.length ≤ 9223372036854775807) (hh : ∀ w ∈ l, HeldE w) {x : Int} (h0 : 0 ≤ x) (h1 : x ≤ 1048576) {k : Nat} (hk : 1048577 < k) : ∃ r, laws_szEntryS.f k l x = some r ∧ (r < 0 ∨ (0 ≤ r ∧ r ≤ x ∧ l.length ≤ 1048576 ∧ ∀ w ∈ l, ShortE w)) := by
  unfold laws_szEntryS.f
  rw [show wrap64 (x - (l.length : Int)) = x - (l.length : Int) from w64 (by omega) (by omega)]
  by_cases h : x - (l.length : Int) < 0
  · exact ⟨-1, by rw [if_pos h], .inl (by omega)⟩
  · rw [if_neg h]
    obtain ⟨r, hr, hr2⟩ := szEntryS_l0 l (by omega) hh l.length 0 k (x - (l.length : Int)) (by omega) (by omega) (by omega) (by omega)
    rw [List.drop_zero] at hr2
    refine ⟨r, hr, ?_⟩
    rcases hr2 with h2 | ⟨h2, h3, h4⟩
    · exact .inl h2
    · exact .inr ⟨h2, by omega, by omega, h4⟩

/-- The entry as the program has it. -/
def cvE (e : Le) : En := ⟨e.f0, e.f1, e.f2, ⟨e.f3.f0, e.f3.f1, e.f3.f2, e.f3.f3, e.f3.f4, e.f3.f5⟩⟩
theorem toEntryS_l0 {l : List Le} (hl : l.length ≤ 1048576) (hh : ∀ w ∈ l, ShortE w) : ∀ (d k i : Nat), i + d = l.length → d + 1048580 < k → laws_toEntryS.l0 k l ((l.take i).map cvE ++ List.replicate d z45) (i : Int) = some (l.map cvE) := by
  intro d
  induction d with
  | zero =>
    intro k i hi hk
    obtain ⟨k, rfl⟩ : ∃ q, k = q + 1 := ⟨k - 1, by omega⟩
    rw [laws_toEntryS.l0, if_neg (by omega), List.take_of_length_le (by omega), List.replicate_zero, List.append_nil]
  | succ d ih =>
    intro k i hi hk
    obtain ⟨k, rfl⟩ : ∃ q, k = q + 1 := ⟨k - 1, by omega⟩
    have hlt : i < l.length := by omega
    have hnext := ih k (i + 1) (by omega) (by omega)
    have he : laws_toEntry.f k l[i].f0 l[i].f1 l[i].f2 l[i].f3.f0 l[i].f3.f1 l[i].f3.f2 l[i].f3.f3 l[i].f3.f4 l[i].f3.f5 = some (l[i].f0, l[i].f1, l[i].f2, l[i].f3.f0, l[i].f3.f1, l[i].f3.f2, l[i].f3.f3, l[i].f3.f4, l[i].f3.f5) := by
      unfold laws_toEntry.f
      rw [toAgg_ok _ _ _ _ (hh _ (List.getElem_mem hlt)).2 _ (by omega), Option.bind_some]
    rw [laws_toEntryS.l0, if_pos (by omega), if_pos (by omega), rdLe_get hlt, he]
    rw [Option.bind_some, if_pos (by rw [List.length_append, List.length_map, List.length_take, List.length_replicate]; omega), Int.toNat_natCast, wrapS hlt (by omega)]
    have e := set_copy cvE z45 (d := d) hlt
    show laws_toEntryS.l0 k l (((l.take i).map cvE ++ List.replicate (d + 1) z45).set i (cvE l[i])) _ = _
    rw [e]
    exact hnext
theorem toEntryS_ok {l : List Le} (hl : l.length ≤ 1048576) (hh : ∀ w ∈ l, ShortE w) {k : Nat} (hk : 2097160 < k) : laws_toEntryS.f k l = some (l.map cvE) := by
  unfold laws_toEntryS.f
  rw [if_pos (by omega), if_pos (by rw [Int.toNat_natCast]; omega), Int.toNat_natCast]
  have h := toEntryS_l0 hl hh l.length k 0 (by omega) (by omega)
  rw [List.take_zero, List.map_nil, List.nil_append] at h
  exact h

/-- Entries whose rows are within the bound. -/
def RowsE (l : List En) : Prop := ∀ e ∈ l, e.f3.f4.length ≤ 1048576
theorem rowsE_map {l : List Le} (h : ∀ w ∈ l, ShortE w) : RowsE (l.map cvE) := by
  intro e he
  obtain ⟨v, hv, rfl⟩ := List.mem_map.1 he
  exact (h v hv).2
theorem eqEntry_ok {e : En} (h : e.f3.f4.length ≤ 1048576) {k : Nat} (hk : 1048577 < k) :
    laws_eqEntry.f k e.f0 e.f1 e.f2 e.f3.f0 e.f3.f1 e.f3.f2 e.f3.f3 e.f3.f4 e.f3.f5 e.f0 e.f1 e.f2 e.f3.f0 e.f3.f1 e.f3.f2 e.f3.f3 e.f3.f4 e.f3.f5 = some true := by
  unfold laws_eqEntry.f
  rw [if_pos rfl, if_pos rfl, if_pos rfl, eqAgg_ok e.f3.f0 e.f3.f1 e.f3.f2 e.f3.f3 h e.f3.f5 (by omega), Option.bind_some, if_pos rfl]
theorem eqEntryS_l0 (l : List En) (hl : l.length ≤ 1048576) (hh : RowsE l) : ∀ (d i k : Nat), i + d = l.length → d + 1048580 < k → laws_eqEntryS.l0 k l l (i : Int) = some true := by
  intro d
  induction d with
  | zero =>
    intro i k hi hk
    obtain ⟨k, rfl⟩ : ∃ q, k = q + 1 := ⟨k - 1, by omega⟩
    rw [laws_eqEntryS.l0, if_neg (by omega)]
  | succ d ih =>
    intro i k hi hk
    obtain ⟨k, rfl⟩ : ∃ q, k = q + 1 := ⟨k - 1, by omega⟩
    have hlt : i < l.length := by omega
    have hnext := ih (i + 1) k (by omega) (by omega)
    have q1 := hh l[i] (List.getElem_mem hlt)
    rw [laws_eqEntryS.l0, if_pos (by omega), if_pos (by omega), if_pos (by omega), rdE_get hlt, eqEntry_ok q1 (by omega), Option.bind_some, if_pos rfl, wrapS hlt (by omega)]
    exact hnext
theorem eqEntryS_ok {l : List En} (hl : l.length ≤ 1048576) (hh : RowsE l) {k : Nat} (hk : 2097160 < k) : laws_eqEntryS.f k l l = some true := by
  unfold laws_eqEntryS.f
  rw [if_pos rfl]
  exact eqEntryS_l0 l hl hh l.length 0 k (by omega) (by omega)
end Go.Proofs.Ytdkokfnnebdppaa.Lem

/- Both programs tell whether an entry is good, and whether entries are, and tell it alike. -/
namespace Go.Proofs.Ytdkokfnnebdppaa.Lem
open Go Go.RowKit Go.Proofs.Ytdkokfnnebdppaa.P Go.Proofs.YtdkokfnnebdppaaW.PrintWords Go.Proofs.YtdkokfnnebdppaaW.PrintLast Go.Proofs.YtdkokfnnebdppaaW.PrintMore

abbrev Ga := S26
def aggOf (a : Ga) : Ag := ⟨a.f0, a.f1, a.f2, a.f3, a.f4, a.f5⟩
def ZeroA (a : Ga) : Prop := a.f0 = 0 ∧ a.f1 = 0 ∧ a.f2 = 0 ∧ a.f3 = 0 ∧ a.f4.length = 0 ∧ a.f5 = false
/-- A good entry. -/
def GoodE (e : En) : Prop := (1 ≤ (e.f0.size : Int) ∧ (e.f0.size : Int) ≤ 140) ∧ (1 ≤ e.f1 ∧ e.f1 ≤ 1000000000) ∧ (((e.f2 = 1 ∨ e.f2 = 3) ∧ Good (aggOf e.f3)) ∨ (e.f2 = 2 ∧ ZeroA e.f3))
theorem Tells.bind_id {p : Prop} {r : Option Bool} (h : Tells p r) : Tells p (r.bind fun t => some t) := by
  have e : (r.bind fun t => some t) = r := by cases r <;> rfl
  rw [e]; exact h
theorem Tells.iff {p q : Prop} {r : Option Bool} (h : Tells p r) (e : p ↔ q) : Tells q r := ⟨fun hq => h.1 (e.2 hq), fun hq => h.2 (fun hp => hq (e.1 hp))⟩
theorem Tells.both {p : Prop} {r s : Option Bool} (h : Tells p r) (h' : Tells p s) : ∃ b : Bool, r = some b ∧ s = some b ∧ (b = true ↔ p) := by
  by_cases c : p
  · exact ⟨true, h.1 c, h'.1 c, by simp [c]⟩
  · exact ⟨false, h.2 c, h'.2 c, by simp [c]⟩
theorem l5Zero_ok (a : Ga) : Tells (ZeroA a) (spec_l5Zero.f a.f0 a.f1 a.f2 a.f3 a.f4 a.f5) := by
  unfold spec_l5Zero.f ZeroA
  by_cases h0 : a.f0 = 0
  · rw [if_pos h0]
    by_cases h1 : a.f1 = 0
    · rw [if_pos h1]
      by_cases h2 : a.f2 = 0
      · rw [if_pos h2]
        by_cases h3 : a.f3 = 0
        · rw [if_pos h3]
          by_cases h4 : a.f4.length = 0
          · rw [if_pos (by omega)]
            cases h5 : a.f5
            · exact .yes ⟨h0, h1, h2, h3, h4, rfl⟩
            · exact .no (fun h => by have := h.2.2.2.2.2; simp at this)
          · rw [if_neg (by omega)]; exact .no (fun h => h4 h.2.2.2.2.1)
        · rw [if_neg h3]; exact .no (fun h => h3 h.2.2.2.1)
      · rw [if_neg h2]; exact .no (fun h => h2 h.2.2.1)
    · rw [if_neg h1]; exact .no (fun h => h1 h.2.1)
  · rw [if_neg h0]; exact .no (fun h => h0 h.1)
theorem isZero_ok (a : Ga) : Tells (ZeroA a) (impl_Agg_isZero.f a.f0 a.f1 a.f2 a.f3 a.f4 a.f5) := l5Zero_ok a
theorem spec_goodE (e : En) {k : Nat} (hk : 30 < k) : Tells (GoodE e) (spec_GoodEntry.f k e.f0 e.f1 e.f2 e.f3.f0 e.f3.f1 e.f3.f2 e.f3.f3 e.f3.f4 e.f3.f5) := by
  obtain ⟨k, rfl⟩ : ∃ q, k = q + 1 + 1 := ⟨k - 2, by omega⟩
  unfold spec_GoodEntry.f
  rw [l1In_ok, Option.bind_some]
  by_cases h0 : 1 ≤ (e.f0.size : Int) ∧ (e.f0.size : Int) ≤ 140
  · rw [decide_eq_true h0, if_pos rfl, l1In_ok, Option.bind_some]
    by_cases h1 : 1 ≤ e.f1 ∧ e.f1 ≤ 1000000000
    · rw [decide_eq_true h1, spec_GoodEntry.j0, if_neg (by decide)]
      have g := spec_goodAll (aggOf e.f3) (k := k) (by omega)
      by_cases h2 : e.f2 = 1
      · rw [if_pos h2, spec_GoodEntry.j1, if_pos (by rw [h2]; rfl)]
        exact g.bind_id.iff ⟨fun q => ⟨h0, h1, .inl ⟨.inl h2, q⟩⟩, fun q => by rcases q.2.2 with q | q; exact q.2; have := q.1; omega⟩
      · rw [if_neg h2, spec_GoodEntry.j1]
        by_cases h3 : e.f2 = 3
        · rw [if_pos (by rw [h3]; rfl)]
          exact g.bind_id.iff ⟨fun q => ⟨h0, h1, .inl ⟨.inr h3, q⟩⟩, fun q => by rcases q.2.2 with q | q; exact q.2; have := q.1; omega⟩
        · rw [if_neg (by simpa using h3)]
          by_cases h4 : e.f2 = 2
          · rw [if_pos h4]
            exact (l5Zero_ok e.f3).bind_id.iff ⟨fun q => ⟨h0, h1, .inr ⟨h4, q⟩⟩, fun q => by rcases q.2.2 with q | q; have := q.1; omega; exact q.2⟩
          · rw [if_neg h4]
            exact .no (fun q => by rcases q.2.2 with q | q; have := q.1; omega; exact h4 q.1)
    · rw [decide_eq_false h1, spec_GoodEntry.j0, if_pos (by decide)]
      exact .no (fun q => h1 q.2.1)
  · rw [decide_eq_false h0, if_neg (by decide), spec_GoodEntry.j0, if_pos rfl]
    exact .no (fun q => h0 q.1)
theorem impl_goodE (e : En) {k : Nat} (hk : 30 < k) : Tells (GoodE e) (impl_GoodEntry.f k e.f0 e.f1 e.f2 e.f3.f0 e.f3.f1 e.f3.f2 e.f3.f3 e.f3.f4 e.f3.f5) := by
  obtain ⟨k, rfl⟩ : ∃ q, k = q + 1 := ⟨k - 1, by omega⟩
  unfold impl_GoodEntry.f impl_isKeyText.f
  rw [within_ok, Option.bind_some, Option.bind_some]
  by_cases h0 : 1 ≤ (e.f0.size : Int) ∧ (e.f0.size : Int) ≤ 140
  · rw [decide_eq_true h0, if_pos rfl, within_ok, Option.bind_some]
    by_cases h1 : 1 ≤ e.f1 ∧ e.f1 ≤ 1000000000
    · rw [decide_eq_true h1, impl_GoodEntry.j0, if_neg (by decide)]
      have g := impl_goodAll (aggOf e.f3) (k := k) (by omega)
      by_cases h4 : e.f2 = 2
      · rw [if_pos h4]
        exact (isZero_ok e.f3).bind_id.iff ⟨fun q => ⟨h0, h1, .inr ⟨h4, q⟩⟩, fun q => by rcases q.2.2 with q | q; have := q.1; omega; exact q.2⟩
      · rw [if_neg h4]
        by_cases h2 : e.f2 = 1
        · rw [if_pos h2]
          exact g.bind_id.iff ⟨fun q => ⟨h0, h1, .inl ⟨.inl h2, q⟩⟩, fun q => by rcases q.2.2 with q | q; exact q.2; have := q.1; omega⟩
        · rw [if_neg h2]
          by_cases h3 : e.f2 = 3
          · rw [if_pos h3]
            exact g.bind_id.iff ⟨fun q => ⟨h0, h1, .inl ⟨.inr h3, q⟩⟩, fun q => by rcases q.2.2 with q | q; exact q.2; have := q.1; omega⟩
          · rw [if_neg h3]
            exact .no (fun q => by rcases q.2.2 with q | q; have := q.1; omega; exact h4 q.1)
    · rw [decide_eq_false h1, impl_GoodEntry.j0, if_pos (by decide)]
      exact .no (fun q => h1 q.2.1)
  · rw [decide_eq_false h0, if_neg (by decide), impl_GoodEntry.j0, if_pos rfl]
    exact .no (fun q => h0 q.1)

/-- Whether an entry stands ahead of another. -/
def Before (a b : En) : Prop := ordB a.f0 b.f0 = -1 ∨ (ordB a.f0 b.f0 = 0 ∧ a.f1 > b.f1)
theorem ordB_three (a b : ByteArray) : ordB a b = -1 ∨ ordB a b = 0 ∨ ordB a b = 1 := by
  unfold ordB ord
  split
  · exact .inl rfl
  · split
    · exact .inr (.inr rfl)
    · exact .inr (.inl rfl)
theorem ordB_zero {a b : ByteArray} : ordB a b = 0 ↔ a.toList = b.toList := by
  rw [Go.Lib.toList_data, Go.Lib.toList_data]
  exact ⟨ord_eq_zero, fun h => by unfold ordB; rw [h, ord_self]⟩
theorem ordB_lt {a b : ByteArray} : ordB a b = -1 ↔ Op.bytesLess a.toList b.toList = true := by
  rw [Go.Lib.toList_data, Go.Lib.toList_data]
  unfold ordB ord
  by_cases h : Op.bytesLess a.data.toList b.data.toList = true
  · rw [if_pos h]; exact ⟨fun _ => h, fun _ => rfl⟩
  · rw [if_neg h]
    refine ⟨fun q => ?_, fun q => absurd q h⟩
    split at q <;> simp at q
theorem l5Before_ok (a b : En) : Tells (Before a b) (spec_l5Before.f a.f0 a.f1 a.f2 a.f3.f0 a.f3.f1 a.f3.f2 a.f3.f3 a.f3.f4 a.f3.f5 b.f0 b.f1 b.f2 b.f3.f0 b.f3.f1 b.f3.f2 b.f3.f3 b.f3.f4 b.f3.f5) := by
  unfold spec_l5Before.f Before
  by_cases h : ordB a.f0 b.f0 = -1
  · rw [if_pos (ordB_lt.1 h)]; exact .yes (.inl h)
  · rw [if_neg (fun q => h (ordB_lt.2 q))]
    by_cases h0 : ordB a.f0 b.f0 = 0
    · rw [if_pos (ordB_zero.1 h0)]
      by_cases h1 : a.f1 > b.f1
      · rw [decide_eq_true h1]; exact .yes (.inr ⟨h0, h1⟩)
      · rw [decide_eq_false h1]; exact .no (fun q => by rcases q with q | q; exact h q; exact h1 q.2)
    · rw [if_neg (fun q => h0 (ordB_zero.2 q))]
      exact .no (fun q => by rcases q with q | q; exact h q; exact h0 q.1)
def cmpE (a b : En) : Int := if ordB a.f0 b.f0 = 0 then sgnI b.f1 a.f1 else ordB a.f0 b.f0
theorem compareEntries_ok (a b : En) {k : Nat} (hk : 3 < k) : impl_compareEntries.f k a.f0 a.f1 a.f2 a.f3.f0 a.f3.f1 a.f3.f2 a.f3.f3 a.f3.f4 a.f3.f5 b.f0 b.f1 b.f2 b.f3.f0 b.f3.f1 b.f3.f2 b.f3.f3 b.f3.f4 b.f3.f5 = some (cmpE a b) := by
  obtain ⟨k, rfl⟩ : ∃ q, k = q + 3 := ⟨k - 3, by omega⟩
  unfold impl_compareEntries.f
  rw [cmpS_ok, cmpI_ok, Option.bind_some, Option.bind_some, or2_ok, Option.bind_some]
  rfl
theorem cmpE_neg (a b : En) : cmpE a b < 0 ↔ Before a b := by
  unfold cmpE Before sgnI
  rcases ordB_three a.f0 b.f0 with h | h | h
  · rw [if_neg (by omega)]; exact ⟨fun _ => .inl h, fun _ => by omega⟩
  · rw [if_pos h]
    by_cases h1 : b.f1 < a.f1
    · rw [if_pos h1]; exact ⟨fun _ => .inr ⟨h, h1⟩, fun _ => by decide⟩
    · rw [if_neg h1]
      refine ⟨fun q => ?_, fun q => ?_⟩
      · split at q <;> exact absurd q (by decide)
      · rcases q with q | q
        · omega
        · exact absurd q.2 h1
  · rw [if_neg (by omega)]
    exact ⟨fun q => by omega, fun q => by rcases q with q | q <;> omega⟩
end Go.Proofs.Ytdkokfnnebdppaa.Lem

/- Numbers without repetition: sorted and compacted they are as many as before, and only then. No program in sight. -/
namespace Go.Proofs.Ytdkokfnnebdppaa.Lem
open Go

/-- From place i on each number stands nowhere ahead of itself. -/
def FreshFrom (s : List Int) (i : Nat) : Prop := ∀ j (h : j < s.length), i ≤ j → s[j] ∉ s.take j
theorem fresh_nodup (s : List Int) : FreshFrom s 0 ↔ s.Nodup := by
  unfold List.Nodup
  rw [List.pairwise_iff_getElem]
  constructor
  · intro h i j hi hj hij he
    exact h j hj (Nat.zero_le _) (List.mem_take_iff_getElem.2 ⟨i, by omega, he⟩)
  · intro h j hj _ hm
    obtain ⟨i, hi, he⟩ := List.mem_take_iff_getElem.1 hm
    exact h i j (by omega) hj (by omega) he
theorem keeps_len (zs : List Int) : (Lib.compact zs).length = zs.length ↔ ∀ j, j < zs.length → Lib.keeps zs.toArray j = true := by
  unfold Lib.compact Lib.compactUpTo
  rw [List.length_map]
  constructor
  · intro h
    have h2 : ((List.range zs.length).filter (Lib.keeps zs.toArray)).length = (List.range zs.length).length := by rw [h, List.length_range]
    have h3 := List.length_filter_eq_length_iff.1 h2
    exact fun j hj => h3 j (List.mem_range.2 hj)
  · intro h
    rw [List.filter_eq_self.2 (fun j hj => h j (List.mem_range.1 hj)), List.length_range]
theorem compact_sort_len (s : List Int) : (Lib.compact (s.mergeSort fun x y => decide (x ≤ y))).length = s.length ↔ s.Nodup := by
  have hp := List.mergeSort_perm s (fun x y => decide (x ≤ y))
  have hs := List.pairwise_mergeSort (le := fun x y : Int => decide (x ≤ y)) (fun a b c h1 h2 => by simp at *; omega) (fun a b => by simp; omega) s
  rw [← hp.nodup_iff, ← hp.length_eq, keeps_len]
  generalize (s.mergeSort fun x y => decide (x ≤ y)) = zs at hs
  clear hp
  unfold List.Nodup
  rw [List.pairwise_iff_getElem] at hs ⊢
  constructor
  · intro h i j hi hj hij
    have hk := h j hj
    unfold Lib.keeps at hk
    simp only [decide_eq_true_eq] at hk
    rcases hk with hk | hk
    · omega
    · have e1 : zs.toArray[j]! = zs[j] := by simp [getElem!_pos, hj]
      have e2 : zs.toArray[j - 1]! = zs[j - 1] := by simp [getElem!_pos, show j - 1 < zs.length by omega]
      rw [e1, e2] at hk
      have h1 : zs[j - 1] ≤ zs[j] := by
        have := hs (j - 1) j (by omega) hj (by omega)
        simpa using this
      have h2 : zs[i] ≤ zs[j - 1] := by
        by_cases c : i = j - 1
        · subst c; exact Int.le_refl _
        · have := hs i (j - 1) hi (by omega) (by omega)
          simpa using this
      omega
  · intro h j hj
    unfold Lib.keeps
    simp only [decide_eq_true_eq]
    by_cases c : j = 0
    · exact .inl c
    · refine .inr ?_
      have e1 : zs.toArray[j]! = zs[j] := by simp [getElem!_pos, hj]
      have e2 : zs.toArray[j - 1]! = zs[j - 1] := by simp [getElem!_pos, show j - 1 < zs.length by omega]
      rw [e1, e2]
      exact fun q => h (j - 1) j (by omega) hj (by omega) q.symm
end Go.Proofs.Ytdkokfnnebdppaa.Lem

/- Both programs tell whether entries are good, and tell it alike. -/
namespace Go.Proofs.Ytdkokfnnebdppaa.Lem
open Go Go.RowKit Go.Proofs.Ytdkokfnnebdppaa.P Go.Proofs.YtdkokfnnebdppaaW.PrintWords Go.Proofs.YtdkokfnnebdppaaW.PrintLast Go.Proofs.YtdkokfnnebdppaaW.PrintMore

/-- Place j is good: its entry is, and the one ahead stands ahead. -/
def OkAt (l : List En) (j : Nat) : Prop := ∀ (h : j < l.length), GoodE l[j] ∧ (∀ (_ : 0 < j), Before l[j - 1] l[j])
def OkFrom (l : List En) (i : Nat) : Prop := ∀ j, i ≤ j → OkAt l j
theorem okFrom_step {l : List En} {i : Nat} : OkFrom l i ↔ OkAt l i ∧ OkFrom l (i + 1) := by
  constructor
  · exact fun h => ⟨h i (Nat.le_refl _), fun j hj => h j (by omega)⟩
  · intro ⟨h1, h2⟩ j hj
    by_cases c : i = j
    · exact c ▸ h1
    · exact h2 j (by omega)
/-- Good entries. -/
def GoodEs (l : List En) : Prop := OkFrom l 0 ∧ (l.map (·.f1)).Nodup

/-- The search among those ahead. -/
theorem spec_l2 (s : List Int) (v : Int) (i : Nat) (y : List Int) (hy : y.length ≤ 1048576) : ∀ (d m k : Nat), m + d = y.length →
    (v ∈ y.drop m → spec_GoodEntries.l2 (k + d + 1) s v s (s.length : Int) (i : Int) y (y.length : Int) (m : Int) = some false) ∧
    (v ∉ y.drop m → spec_GoodEntries.l2 (k + d + 1) s v s (s.length : Int) (i : Int) y (y.length : Int) (m : Int) = spec_GoodEntries.l1 k s s (s.length : Int) (wrap64 ((i : Int) + 1))) := by
  intro d
  induction d with
  | zero =>
    intro m k hm
    refine ⟨fun h => ?_, fun h => ?_⟩
    · rw [List.drop_of_length_le (by omega)] at h; simp at h
    · rw [spec_GoodEntries.l2, if_neg (by omega)]
  | succ d ih =>
    intro m k hm
    have hlt : m < y.length := by omega
    obtain ⟨i1, i2⟩ := ih (m + 1) k (by omega)
    rw [drop_get hlt]
    have e0 : rd y (m : Int) = y[m] := by unfold rd; rw [Int.toNat_natCast, List.getD_eq_getElem?_getD, List.getElem?_eq_getElem hlt]; rfl
    refine ⟨fun h => ?_, fun h => ?_⟩
    · rw [spec_GoodEntries.l2, if_pos (by omega), if_pos (by omega), if_pos (by omega), e0]
      by_cases c : y[m] = v
      · rw [if_pos c]
      · rw [if_neg c, wrapS hlt (by omega)]
        rcases List.mem_cons.1 h with q | q
        · exact absurd q.symm c
        · exact i1 q
    · rw [spec_GoodEntries.l2, if_pos (by omega), if_pos (by omega), if_pos (by omega), e0]
      rw [if_neg (fun q => h (List.mem_cons.2 (.inl q.symm))), wrapS hlt (by omega)]
      exact i2 (fun q => h (List.mem_cons_of_mem _ q))
theorem fresh_step {s : List Int} {i : Nat} (hi : i < s.length) : FreshFrom s i ↔ s[i] ∉ s.take i ∧ FreshFrom s (i + 1) := by
  constructor
  · exact fun h => ⟨h i hi (Nat.le_refl _), fun j hj hij => h j hj (by omega)⟩
  · intro ⟨h1, h2⟩ j hj hij
    by_cases c : i = j
    · subst c; exact h1
    · exact h2 j hj (by omega)
theorem spec_l1 (s : List Int) (hs : s.length ≤ 1048576) {N : Nat} (hN : s.length + 4 ≤ N) : ∀ (d i k : Nat), i + d = s.length → d * N < k → Tells (FreshFrom s i) (spec_GoodEntries.l1 k s s (s.length : Int) (i : Int)) := by
  intro d
  induction d with
  | zero =>
    intro i k hi hk
    obtain ⟨k, rfl⟩ : ∃ q, k = q + 1 := ⟨k - 1, by omega⟩
    rw [spec_GoodEntries.l1, if_neg (by omega)]
    exact .yes (fun j hj hij => by omega)
  | succ d ih =>
    intro i k hi hk
    have hlt : i < s.length := by omega
    have ht : (s.take i).length = i := by rw [List.length_take]; omega
    have e0 : rd s (i : Int) = s[i] := by unfold rd; rw [Int.toNat_natCast, List.getD_eq_getElem?_getD, List.getElem?_eq_getElem hlt]; rfl
    rw [Nat.succ_mul] at hk
    obtain ⟨k, rfl⟩ : ∃ q, k = q + i + 1 + 1 := ⟨k - i - 2, by omega⟩
    obtain ⟨i1, i2⟩ := spec_l2 s s[i] i (s.take i) (by omega) i 0 k (by omega)
    rw [List.drop_zero] at i1 i2
    have e1 : spec_GoodEntries.l1 (k + i + 1 + 1) s s (s.length : Int) (i : Int) = spec_GoodEntries.l2 (k + i + 1) s s[i] s (s.length : Int) (i : Int) (s.take i) ((s.take i).length : Int) ((0 : Nat) : Int) := by
      rw [spec_GoodEntries.l1, if_pos (by omega), if_pos (by omega), if_pos (by omega), if_pos (by omega), Option.bind_some, e0]
      rfl
    rw [e1]
    by_cases c : s[i] ∈ s.take i
    · rw [i1 c]
      exact .no (fun q => ((fresh_step hlt).1 q).1 c)
    · rw [i2 c, wrapS hlt (by omega)]
      exact (ih (i + 1) k (by omega) (by omega)).iff ⟨fun q => (fresh_step hlt).2 ⟨c, q⟩, fun q => ((fresh_step hlt).1 q).2⟩

theorem map_step {l : List En} {i : Nat} (h : i < l.length) : (l.take i).map (·.f1) ++ [l[i].f1] = (l.take (i + 1)).map (·.f1) := by
  rw [List.take_succ_eq_append_getElem h, List.map_append]
  rfl
theorem spec_l0 (l : List En) (hl : l.length ≤ 1048576) : ∀ (d i k : Nat), i + d = l.length → 1099515822080 + d + 100 < k → Tells (OkFrom l i ∧ (l.map (·.f1)).Nodup) (spec_GoodEntries.l0 k l ((l.take i).map (·.f1)) l (l.length : Int) (i : Int)) := by
  intro d
  induction d with
  | zero =>
    intro i k hi hk
    obtain ⟨k, rfl⟩ : ∃ q, k = q + 1 := ⟨k - 1, by omega⟩
    have hm : (l.map (·.f1)).length = l.length := List.length_map ..
    have h := spec_l1 (l.map (·.f1)) (by omega) (N := 1048580) (by omega) l.length 0 k (by omega) (by omega)
    rw [spec_GoodEntries.l0, if_neg (by omega), List.take_of_length_le (by omega)]
    refine h.iff ?_
    rw [fresh_nodup]
    exact ⟨fun q => ⟨fun j hj hj2 => by omega, q⟩, fun q => q.2⟩
  | succ d ih =>
    intro i k hi hk
    obtain ⟨k, rfl⟩ : ∃ q, k = q + 1 := ⟨k - 1, by omega⟩
    have hlt : i < l.length := by omega
    have ht : ((l.take i).map (·.f1)).length = i := by rw [List.length_map, List.length_take]; omega
    have hnext := ih (i + 1) k (by omega) (by omega)
    rw [← map_step hlt] at hnext
    obtain ⟨g1, g2⟩ := spec_goodE l[i] (k := k) (by omega)
    rw [spec_GoodEntries.l0, if_pos (by omega), if_pos (by omega), if_pos (by omega), rdE_get hlt]
    by_cases c : GoodE l[i]
    · rw [g1 c, Option.bind_some, if_pos rfl]
      by_cases c0 : 0 < i
      · have e1 : wrap64 ((i : Int) - 1) = ((i - 1 : Nat) : Int) := by rw [w64 (by omega) (by omega)]; omega
        obtain ⟨b1, b2⟩ := l5Before_ok l[i - 1] l[i]
        rw [if_pos (by omega), e1, if_pos (by omega), if_pos (by omega), rdE_get (show i - 1 < l.length by omega)]
        by_cases cb : Before l[i - 1] l[i]
        · rw [b1 cb, Option.bind_some, if_pos rfl, if_pos (by omega), wrapS hlt (by omega)]
          exact hnext.iff ⟨fun q => ⟨okFrom_step.2 ⟨fun _ => ⟨c, fun _ => cb⟩, q.1⟩, q.2⟩, fun q => ⟨(okFrom_step.1 q.1).2, q.2⟩⟩
        · rw [b2 cb, Option.bind_some, if_neg (by decide)]
          exact .no (fun q => cb (((okFrom_step.1 q.1).1 hlt).2 c0))
      · rw [if_neg (by omega), if_pos (by omega), wrapS hlt (by omega)]
        exact hnext.iff ⟨fun q => ⟨okFrom_step.2 ⟨fun _ => ⟨c, fun h => absurd h c0⟩, q.1⟩, q.2⟩, fun q => ⟨(okFrom_step.1 q.1).2, q.2⟩⟩
    · rw [g2 c, Option.bind_some, if_neg (by decide)]
      exact .no (fun q => c ((okFrom_step.1 q.1).1 hlt).1)
theorem spec_goodEs (l : List En) (hl : l.length ≤ 1048576) {k : Nat} (hk : 2000000000000 < k) : Tells (GoodEs l) (spec_GoodEntries.f k l) := spec_l0 l hl l.length 0 k (by omega) (by omega)

theorem impl_l0 (l : List En) (hl : l.length ≤ 1048576) : ∀ (d i k : Nat), i + d = l.length → d + 100 < k → Tells (OkFrom l i ∧ (l.map (·.f1)).Nodup) (impl_GoodEntries.l0 k l ((l.take i).map (·.f1)) l (l.length : Int) (i : Int)) := by
  intro d
  induction d with
  | zero =>
    intro i k hi hk
    obtain ⟨k, rfl⟩ : ∃ q, k = q + 1 := ⟨k - 1, by omega⟩
    have hm : (l.map (·.f1)).length = l.length := List.length_map ..
    have hc := compact_sort_len (l.map (·.f1))
    have hle : ((l.map (·.f1)).mergeSort fun x y => decide (x ≤ y)).length = l.length := by rw [List.length_mergeSort, hm]
    rw [impl_GoodEntries.l0, if_neg (by omega), List.take_of_length_le (by omega)]
    unfold slices_Sort_int_int.f slices_Compact_int_int.f
    rw [if_pos (by omega), Option.bind_some, if_pos (by omega), Option.bind_some]
    by_cases c : (l.map (·.f1)).Nodup
    · have h := hc.2 c
      rw [h, hm, beq_self_eq_true]
      exact .yes ⟨fun j hj hj2 => by omega, c⟩
    · rw [beq_eq_false_iff_ne.2 (fun q => c (hc.1 (by rw [hm]; omega)))]
      exact .no (fun q => c q.2)
  | succ d ih =>
    intro i k hi hk
    obtain ⟨k, rfl⟩ : ∃ q, k = q + 1 := ⟨k - 1, by omega⟩
    have hlt : i < l.length := by omega
    have ht : ((l.take i).map (·.f1)).length = i := by rw [List.length_map, List.length_take]; omega
    have hnext := ih (i + 1) k (by omega) (by omega)
    rw [← map_step hlt] at hnext
    obtain ⟨g1, g2⟩ := impl_goodE l[i] (k := k) (by omega)
    rw [impl_GoodEntries.l0, if_pos (by omega), if_pos (by omega), if_pos (by omega), rdE_get hlt]
    by_cases c : GoodE l[i]
    · rw [g1 c, Option.bind_some, if_pos rfl]
      by_cases c0 : 0 < i
      · have e1 : wrap64 ((i : Int) - 1) = ((i - 1 : Nat) : Int) := by rw [w64 (by omega) (by omega)]; omega
        rw [if_pos (by omega), e1, if_pos (by omega), if_pos (by omega), rdE_get (show i - 1 < l.length by omega), compareEntries_ok _ _ (by omega), Option.bind_some]
        by_cases cb : Before l[i - 1] l[i]
        · have cb' := (cmpE_neg _ _).2 cb
          rw [if_neg (by omega), if_pos (by omega), wrapS hlt (by omega)]
          exact hnext.iff ⟨fun q => ⟨okFrom_step.2 ⟨fun _ => ⟨c, fun _ => cb⟩, q.1⟩, q.2⟩, fun q => ⟨(okFrom_step.1 q.1).2, q.2⟩⟩
        · have cb' : ¬ cmpE l[i - 1] l[i] < 0 := fun q => cb ((cmpE_neg _ _).1 q)
          rw [if_pos (by omega)]
          exact .no (fun q => cb (((okFrom_step.1 q.1).1 hlt).2 c0))
      · rw [if_neg (by omega), if_pos (by omega), wrapS hlt (by omega)]
        exact hnext.iff ⟨fun q => ⟨okFrom_step.2 ⟨fun _ => ⟨c, fun h => absurd h c0⟩, q.1⟩, q.2⟩, fun q => ⟨(okFrom_step.1 q.1).2, q.2⟩⟩
    · rw [g2 c, Option.bind_some, if_neg (by decide)]
      exact .no (fun q => c ((okFrom_step.1 q.1).1 hlt).1)
theorem impl_goodEs (l : List En) (hl : l.length ≤ 1048576) {k : Nat} (hk : 1050000 < k) : Tells (GoodEs l) (impl_GoodEntries.f k l) := impl_l0 l hl l.length 0 k (by omega) (by omega)
end Go.Proofs.Ytdkokfnnebdppaa.Lem

/- The keys of good entries stand in line. -/
namespace Go.Proofs.Ytdkokfnnebdppaa.Lem
open Go Go.RowKit Go.Proofs.Ytdkokfnnebdppaa.P Go.Proofs.YtdkokfnnebdppaaW.PrintWords Go.Proofs.YtdkokfnnebdppaaW.PrintLast Go.Proofs.YtdkokfnnebdppaaW.PrintMore

/-- Entry n. -/
abbrev en (l : List En) (n : Nat) : En := rd_T45 l (n : Int)
theorem en_mem {l : List En} {n : Nat} (h : n < l.length) : en l n ∈ l := by rw [show en l n = l[n] from rdE_get h]; exact List.getElem_mem h
theorem en_cons (e : En) (r : List En) (n : Nat) : en (e :: r) (n + 1) = en r n := by
  unfold en rd_T45
  rw [Int.toNat_natCast, Int.toNat_natCast, List.getD_cons_succ]
theorem goodEs_all {l : List En} (h : GoodEs l) : ∀ e ∈ l, GoodE e := by
  intro e he
  obtain ⟨j, hj, rfl⟩ := List.getElem_of_mem he
  exact (h.1 j (Nat.zero_le _) hj).1
/-- x does not stand behind y. -/
def LeU (x y : List UInt8) : Prop := Op.bytesLess y x = false
theorem LeU.trans : ∀ {x y z : List UInt8}, LeU x y → LeU y z → LeU x z
  | [], [], z, _, h => h
  | [], _ :: _, [], _, h => by exact absurd h (by unfold LeU Op.bytesLess; decide)
  | [], _ :: _, _ :: _, _, _ => rfl
  | _ :: _, [], _, h, _ => by exact absurd h (by unfold LeU Op.bytesLess; decide)
  | _ :: _, _ :: _, [], _, h => by exact absurd h (by unfold LeU Op.bytesLess; decide)
  | a :: x, b :: y, c :: z, h1, h2 => by
    unfold LeU at h1 h2 ⊢
    rw [less_cons] at h1 h2 ⊢
    have n1 : b ≠ a → ¬ b.toNat < a.toNat := fun e => by rw [if_neg e] at h1; simpa [UInt8.lt_iff_toNat_lt] using h1
    have n2 : c ≠ b → ¬ c.toNat < b.toNat := fun e => by rw [if_neg e] at h2; simpa [UInt8.lt_iff_toNat_lt] using h2
    by_cases e1 : b = a
    · by_cases e2 : c = b
      · rw [if_pos e1] at h1
        rw [if_pos e2] at h2
        rw [if_pos (e2.trans e1)]
        exact LeU.trans h1 h2
      · subst e1
        rw [if_neg e2]
        exact decide_eq_false (by rw [UInt8.lt_iff_toNat_lt]; exact n2 e2)
    · have e1' : b.toNat ≠ a.toNat := fun q => e1 (UInt8.toNat_inj.1 q)
      have m1 := n1 e1
      by_cases e2 : c = b
      · subst e2
        rw [if_neg e1]
        exact decide_eq_false (by rw [UInt8.lt_iff_toNat_lt]; exact m1)
      · have m2 := n2 e2
        rw [if_neg (fun q => by subst q; omega)]
        exact decide_eq_false (by rw [UInt8.lt_iff_toNat_lt]; omega)
theorem LeU.anti {x y : List UInt8} (h1 : LeU x y) (h2 : LeU y x) : x = y := by
  unfold LeU at h1 h2
  have h := less_tri x y
  rw [h1, h2] at h
  simpa using h
theorem LeU.of_before {a b : En} (h : Before a b) : LeU a.f0.toList b.f0.toList := by
  unfold LeU
  rcases h with h | h
  · rw [less_tri a.f0.toList b.f0.toList, ordB_lt.1 h, Bool.true_or]; rfl
  · rw [ordB_zero.1 h.1, less_irrefl]
theorem keys_le {l : List En} (h : GoodEs l) : ∀ (d i : Nat), i + d < l.length → LeU (en l i).f0.toList (en l (i + d)).f0.toList := by
  intro d
  induction d with
  | zero => intro i _; exact less_irrefl _
  | succ d ih =>
    intro i hi
    refine (ih i (by omega)).trans ?_
    have hb := (h.1 (i + d + 1) (Nat.zero_le _) (by omega)).2 (Nat.succ_pos _)
    have e1 : en l (i + d + 1) = l[i + d + 1] := rdE_get (by omega)
    have e2 : en l (i + d) = l[i + d + 1 - 1] := rdE_get (l := l) (i := i + d) (by omega)
    rw [show i + (d + 1) = i + d + 1 from rfl, e1, e2]
    exact LeU.of_before hb
end Go.Proofs.Ytdkokfnnebdppaa.Lem

/- Entries that share no memory with others. -/
namespace Go.Proofs.Ytdkokfnnebdppaa.Lem
open Go Go.RowKit Go.Proofs.Ytdkokfnnebdppaa.P Go.Proofs.YtdkokfnnebdppaaW.PrintWords Go.Proofs.YtdkokfnnebdppaaW.PrintLast Go.Proofs.YtdkokfnnebdppaaW.PrintMore

theorem cloneI_ok {l : List Int} (h : l.length ≤ 1048576) : slices_Clone_int_int.f l = some l := by
  unfold slices_Clone_int_int.f
  rw [Option.bind_some, if_pos (by rw [List.length_nil]; omega), List.nil_append]
theorem ownA_ok (c s mi ma : Int) {l : List Int} (h : l.length ≤ 1048576) (f : Bool) : spec_l4Own.f c s mi ma l f = some (c, s, mi, ma, l, f) := by
  unfold spec_l4Own.f
  rw [Option.bind_some, if_pos (by rw [List.length_nil]; omega), List.nil_append]
theorem entryCloned_ok (e : En) (h : e.f3.f4.length ≤ 1048576) : impl_Entry_cloned.f e.f0 e.f1 e.f2 e.f3.f0 e.f3.f1 e.f3.f2 e.f3.f3 e.f3.f4 e.f3.f5 = some (e.f0, e.f1, e.f2, e.f3.f0, e.f3.f1, e.f3.f2, e.f3.f3, e.f3.f4, e.f3.f5) := by
  unfold impl_Entry_cloned.f
  rw [cloneI_ok h, Option.bind_some]
theorem l5Own_l0 {l : List En} (hl : l.length ≤ 1048576) (hh : RowsE l) : ∀ (d i k : Nat) (acc : List En), i + d = l.length → d < k → acc.length ≤ i → spec_l5Own.l0 k acc l (l.length : Int) (i : Int) = some (acc ++ l.drop i) := by
  intro d
  induction d with
  | zero =>
    intro i k acc hi hk _
    obtain ⟨k, rfl⟩ : ∃ q, k = q + 1 := ⟨k - 1, by omega⟩
    rw [spec_l5Own.l0, if_neg (by omega), List.drop_of_length_le (by omega), List.append_nil]
  | succ d ih =>
    intro i k acc hi hk ha
    obtain ⟨k, rfl⟩ : ∃ q, k = q + 1 := ⟨k - 1, by omega⟩
    have hlt : i < l.length := by omega
    have hw := hh l[i] (List.getElem_mem hlt)
    rw [spec_l5Own.l0, if_pos (by omega), if_pos (by omega), if_pos (by omega), rdE_get hlt, ownA_ok _ _ _ _ hw, Option.bind_some]
    dsimp only
    rw [if_pos (by omega), wrapS hlt (by omega), ih (i + 1) k _ (by omega) (by omega) (by rw [List.length_append, List.length_singleton]; omega), drop_get hlt, List.append_assoc]
    rfl
theorem l5Own_ok {l : List En} (hl : l.length ≤ 1048576) (hh : RowsE l) {k : Nat} (hk : 1048577 < k) : spec_l5Own.f k l = some l := l5Own_l0 hl hh l.length 0 k [] (by omega) (by omega) (Nat.le_refl _)
end Go.Proofs.Ytdkokfnnebdppaa.Lem

/- An entry that is put in its place: both programs find one place. -/
namespace Go.Proofs.Ytdkokfnnebdppaa.Lem
open Go Go.RowKit Go.Proofs.Ytdkokfnnebdppaa.P Go.Proofs.YtdkokfnnebdppaaW.PrintWords Go.Proofs.YtdkokfnnebdppaaW.PrintLast Go.Proofs.YtdkokfnnebdppaaW.PrintMore

instance beforeDec (a b : En) : Decidable (Before a b) := inferInstanceAs (Decidable (_ ∨ _))
theorem ordB_eq {a b : ByteArray} (h : ordB a b = 0) : a = b := by
  have h1 := ordB_zero.1 h
  rw [Go.Lib.toList_data, Go.Lib.toList_data] at h1
  exact ByteArray.ext (Array.toList_inj.1 h1)
theorem ordB_trans {a b c : ByteArray} (h1 : ordB a b = -1) (h2 : ordB b c = -1) : ordB a c = -1 := by
  have l1 := ordB_lt.1 h1
  have l2 := ordB_lt.1 h2
  have e1 : LeU a.toList b.toList := by unfold LeU; rw [less_tri a.toList b.toList, l1, Bool.true_or]; rfl
  have e2 : LeU b.toList c.toList := by unfold LeU; rw [less_tri b.toList c.toList, l2, Bool.true_or]; rfl
  have e3 := e1.trans e2
  rcases ordB_three a c with h | h | h
  · exact h
  · exfalso
    have := ordB_eq h
    subst this
    unfold LeU at e2
    rw [l1] at e2
    exact absurd e2 (by decide)
  · exfalso
    unfold LeU at e3
    unfold ordB ord at h
    rw [Go.Lib.toList_data, Go.Lib.toList_data] at e3
    split at h
    · exact absurd h (by decide)
    · rw [if_neg (by rw [e3]; decide)] at h
      exact absurd h (by decide)
theorem Before.trans {a b c : En} (h1 : Before a b) (h2 : Before b c) : Before a c := by
  unfold Before at *
  rcases h1 with h1 | ⟨h1, s1⟩
  · rcases h2 with h2 | ⟨h2, _⟩
    · exact .inl (ordB_trans h1 h2)
    · rw [← ordB_eq h2]; exact .inl h1
  · rcases h2 with h2 | ⟨h2, s2⟩
    · rw [ordB_eq h1]; exact .inl h2
    · refine .inr ⟨by rw [ordB_eq h1]; exact h2, by omega⟩
theorem sorted_lt {l : List En} (h : GoodEs l) : ∀ (d i : Nat), i + d + 1 < l.length → Before (en l i) (en l (i + d + 1)) := by
  have step : ∀ i, i + 1 < l.length → Before (en l i) (en l (i + 1)) := fun i hi => by
    have hb := (h.1 (i + 1) (Nat.zero_le _) hi).2 (Nat.succ_pos _)
    have e1 : en l (i + 1) = l[i + 1] := rdE_get hi
    have e2 : en l i = l[i + 1 - 1] := rdE_get (l := l) (i := i) (by omega)
    rw [e1, e2]; exact hb
  intro d
  induction d with
  | zero => intro i hi; exact step i hi
  | succ d ih =>
    intro i hi
    exact (ih i (by omega)).trans (step (i + d + 1) hi)
/-- How many entries stand ahead of e. -/
def posE (e : En) : List En → Nat
  | [] => 0
  | a :: r => if Before a e then posE e r + 1 else 0
theorem pos_le (e : En) : ∀ l : List En, posE e l ≤ l.length
  | [] => Nat.le_refl _
  | a :: r => by rw [posE]; split; exact Nat.succ_le_succ (pos_le e r); exact Nat.zero_le _
theorem pos_lt (e : En) : ∀ (l : List En) (n : Nat), n < posE e l → Before (en l n) e
  | [], n, h => absurd h (Nat.not_lt_zero n)
  | a :: r, n, h => by
    rw [posE] at h
    split at h
    · rename_i c
      cases n with
      | zero => exact c
      | succ n => rw [en_cons]; exact pos_lt e r n (by omega)
    · exact absurd h (Nat.not_lt_zero n)
theorem pos_stop (e : En) : ∀ (l : List En), posE e l < l.length → ¬ Before (en l (posE e l)) e
  | [], h => absurd h (Nat.lt_irrefl 0)
  | a :: r, h => by
    rw [posE] at h ⊢
    split at h
    · rename_i c
      rw [if_pos c, en_cons]
      exact pos_stop e r (by simpa using h)
    · rename_i c
      rw [if_neg c]
      exact c
theorem pos_ge {e : En} {l : List En} (hG : GoodEs l) {n : Nat} (h : posE e l ≤ n) (hn : n < l.length) : ¬ Before (en l n) e := by
  intro hb
  have hs := pos_stop e l (by omega)
  by_cases c : posE e l = n
  · rw [c] at hs; exact hs hb
  · have h1 := sorted_lt hG (n - posE e l - 1) (posE e l) (by omega)
    rw [show posE e l + (n - posE e l - 1) + 1 = n by omega] at h1
    exact hs (h1.trans hb)
section
set_option linter.unusedSectionVars false
variable {l : List En} {e : En} (hl : l.length ≤ 1048576) (hG : GoodEs l)
include hl hG
theorem search_l0 : ∀ (d i j k : Nat), j - i ≤ d → i ≤ posE e l → posE e l ≤ j → j ≤ l.length → d + 10 < k →
    ∃ b, impl_Entry_with_impl_compareEntries.l0 k l (l.length : Int) (i : Int) (j : Int) e.f0 e.f1 e.f2 e.f3.f0 e.f3.f1 e.f3.f2 e.f3.f3 e.f3.f4 e.f3.f5 = some ((posE e l : Int), b) := by
  intro d
  induction d with
  | zero =>
    intro i j k hd h1 h2 h3 hk
    obtain ⟨k, rfl⟩ : ∃ q, k = q + 1 := ⟨k - 1, by omega⟩
    obtain rfl : i = posE e l := by omega
    rw [impl_Entry_with_impl_compareEntries.l0, if_neg (by omega)]
    by_cases c : posE e l < l.length
    · rw [if_pos (by omega), if_pos (by omega), if_pos (by omega), compareEntries_ok (rd_T45 l (posE e l : Int)) e (by omega), Option.bind_some]
      exact ⟨_, rfl⟩
    · rw [if_neg (by omega)]
      exact ⟨_, rfl⟩
  | succ d ih =>
    intro i j k hd h1 h2 h3 hk
    obtain ⟨k, rfl⟩ : ∃ q, k = q + 1 := ⟨k - 1, by omega⟩
    by_cases hij : i < j
    · have hm : wrap64 ((IntKind.u64.wrap (wrap64 ((i : Int) + (j : Int)))) / 2) = (((i + j) / 2 : Nat) : Int) := by
        rw [w64 (x := (i : Int) + (j : Int)) (by omega) (by omega), wu64 (by omega) (by omega), w64 (by omega) (by omega)]; omega
      obtain ⟨m, hme⟩ : ∃ m, m = (i + j) / 2 := ⟨_, rfl⟩
      rw [impl_Entry_with_impl_compareEntries.l0, if_pos (by omega), hm, ← hme, if_pos (by omega), if_pos (by omega), compareEntries_ok (rd_T45 l (m : Int)) e (by omega), Option.bind_some]
      by_cases cb : Before (en l m) e
      · rw [if_pos ((cmpE_neg (en l m) e).2 cb), wrapS (n := l.length) (by omega) (by omega)]
        exact ih (m + 1) j k (by omega) (by
          rcases Nat.lt_or_ge m (posE e l) with q | q
          · omega
          · exact absurd cb (pos_ge hG q (by omega))) h2 h3 (by omega)
      · rw [if_neg (fun q => cb ((cmpE_neg (en l m) e).1 q))]
        exact ih i m k (by omega) h1 (by
          rcases Nat.lt_or_ge m (posE e l) with q | q
          · exact absurd (pos_lt e l m q) cb
          · exact q) (by omega) (by omega)
    · exact ih i j (k + 1) (by omega) h1 h2 h3 (by omega)
theorem search_ok {k : Nat} (hk : 2000000 < k) : ∃ b, impl_Entry_with_impl_compareEntries.f k l e.f0 e.f1 e.f2 e.f3.f0 e.f3.f1 e.f3.f2 e.f3.f3 e.f3.f4 e.f3.f5 = some ((posE e l : Int), b) :=
  search_l0 hl hG l.length 0 l.length k (by omega) (Nat.zero_le _) (pos_le e l) (Nat.le_refl _) (by omega)
end
/-- The row with e in its place. -/
def putL (e : En) (l : List En) : List En := l.take (posE e l) ++ [e] ++ l.drop (posE e l)
theorem putL_len (e : En) (l : List En) : (putL e l).length = l.length + 1 := by
  have := pos_le e l
  unfold putL
  simp only [List.length_append, List.length_take, List.length_drop, List.length_singleton]; omega
theorem putL_rows {e : En} {l : List En} (h : RowsE l) (he : e.f3.f4.length ≤ 1048576) : RowsE (putL e l) := by
  intro x hx
  unfold putL at hx
  rcases List.mem_append.1 hx with hx | hx
  · rcases List.mem_append.1 hx with hx | hx
    · exact h x (List.mem_of_mem_take hx)
    · rw [List.mem_singleton.1 hx]; exact he
  · exact h x (List.mem_of_mem_drop hx)
theorem clonedE_l0 {l : List En} (hl : l.length ≤ 1048576) (hh : RowsE l) : ∀ (d i k : Nat) (acc : List En), i + d = l.length → d < k → acc.length ≤ i → impl_clonedEntries.l0 k acc l (l.length : Int) (i : Int) = some (acc ++ l.drop i) := by
  intro d
  induction d with
  | zero =>
    intro i k acc hi hk _
    obtain ⟨k, rfl⟩ : ∃ q, k = q + 1 := ⟨k - 1, by omega⟩
    rw [impl_clonedEntries.l0, if_neg (by omega), List.drop_of_length_le (by omega), List.append_nil]
  | succ d ih =>
    intro i k acc hi hk ha
    obtain ⟨k, rfl⟩ : ∃ q, k = q + 1 := ⟨k - 1, by omega⟩
    have hlt : i < l.length := by omega
    have hw := hh l[i] (List.getElem_mem hlt)
    rw [impl_clonedEntries.l0, if_pos (by omega), if_pos (by omega), if_pos (by omega), rdE_get hlt, entryCloned_ok _ hw, Option.bind_some]
    dsimp only
    rw [if_pos (by omega), wrapS hlt (by omega), ih (i + 1) k _ (by omega) (by omega) (by rw [List.length_append, List.length_singleton]; omega), drop_get hlt, List.append_assoc]
    rfl
theorem clonedE_ok {l : List En} (hl : l.length ≤ 1048576) (hh : RowsE l) {k : Nat} (hk : 1048577 < k) : impl_clonedEntries.f k l = some l := clonedE_l0 hl hh l.length 0 k [] (by omega) (by omega) (Nat.le_refl _)
theorem withEntry_ok {l : List En} {e : En} (hl : l.length ≤ 1048576) (hG : GoodEs l) (hh : RowsE l) (he : e.f3.f4.length ≤ 1048576) {k : Nat} (hk : 2000000 < k) : impl_withEntry.f k l e.f0 e.f1 e.f2 e.f3.f0 e.f3.f1 e.f3.f2 e.f3.f3 e.f3.f4 e.f3.f5 = some (putL e l) := by
  obtain ⟨b, hb⟩ := search_ok (e := e) hl hG hk
  have := pos_le e l
  unfold impl_withEntry.f
  rw [hb, Option.bind_some, clonedE_ok hl hh (by omega), Option.bind_some, entryCloned_ok e he, Option.bind_some]
  unfold impl_withEntry.ins
  rw [if_pos ⟨by omega, by omega, rfl, by omega⟩, Option.bind_some, Int.toNat_natCast]
  rfl
theorem l5Put_l0 {l : List En} {e : En} (hl : l.length ≤ 1048576) : ∀ (d i k : Nat), i + d = posE e l → d < k → spec_l5Put.l0 k l (i : Int) e.f0 e.f1 e.f2 e.f3.f0 e.f3.f1 e.f3.f2 e.f3.f3 e.f3.f4 e.f3.f5 = some (putL e l) := by
  have hp := pos_le e l
  have hend : ∀ k, spec_l5Put.l0 (k + 1) l (posE e l : Int) e.f0 e.f1 e.f2 e.f3.f0 e.f3.f1 e.f3.f2 e.f3.f3 e.f3.f4 e.f3.f5 = some (putL e l) := by
    intro k
    have ht : (l.take (posE e l)).length ≤ 1048576 := by rw [List.length_take]; omega
    have hd : (l.drop (posE e l)).length ≤ 1048576 := by rw [List.length_drop]; omega
    rw [spec_l5Put.l0]
    by_cases c : posE e l < l.length
    · have hs := pos_stop e l c
      rw [if_pos (by omega), if_pos (by omega), (l5Before_ok (rd_T45 l (posE e l : Int)) e).2 hs, Option.bind_some, if_neg (by decide)]
      simp only [Int.toNat_natCast, Option.bind_some, List.nil_append, List.length_nil]
      rw [if_pos (by omega), if_pos (by omega), if_pos (by omega)]
      try simp only [Option.bind_some]
      repeat (first | rw [if_pos (by omega)] | rw [if_pos (by simp only [List.length_append, List.length_singleton]; omega)])
      rfl
    · rw [if_neg (by omega)]
      simp only [Int.toNat_natCast, Option.bind_some, List.nil_append, List.length_nil]
      rw [if_pos (by omega), if_pos (by omega), if_pos (by omega)]
      try simp only [Option.bind_some]
      repeat (first | rw [if_pos (by omega)] | rw [if_pos (by simp only [List.length_append, List.length_singleton]; omega)])
      rfl
  intro d
  induction d with
  | zero =>
    intro i k hi hk
    obtain ⟨k, rfl⟩ : ∃ q, k = q + 1 := ⟨k - 1, by omega⟩
    obtain rfl : i = posE e l := by omega
    exact hend k
  | succ d ih =>
    intro i k hi hk
    obtain ⟨k, rfl⟩ : ∃ q, k = q + 1 := ⟨k - 1, by omega⟩
    rw [spec_l5Put.l0, if_pos (by omega), if_pos (by omega), (l5Before_ok (rd_T45 l (i : Int)) e).1 (pos_lt e l i (by omega)), Option.bind_some, if_pos rfl, wrapS (n := l.length) (by omega) (by omega)]
    exact ih (i + 1) k (by omega) (by omega)
end Go.Proofs.Ytdkokfnnebdppaa.Lem

/- Marks as texts. No conditions. -/
namespace Go.Proofs.Ytdkokfnnebdppaa.Lem
open Go Go.RowKit Go.Proofs.Ytdkokfnnebdppaa.P Go.Proofs.YtdkokfnnebdppaaW.PrintWords Go.Proofs.YtdkokfnnebdppaaW.PrintLast Go.Proofs.YtdkokfnnebdppaaW.PrintMore

def markTl : Nat → Int → ByteArray → ByteArray
  | 0, _, acc => (⟨#[109]⟩ : ByteArray) ++ acc
  | d + 1, x, acc => if x > 0 then markTl d (Int.tdiv x 10) ((strOfNums [(wrap64 (48 + (Int.tmod x 10))) % 256]) ++ acc) else (⟨#[109]⟩ : ByteArray) ++ acc
theorem markText_l0 : ∀ (d k : Nat) (x : Int) (acc : ByteArray), 0 ≤ x → x < 10 ^ d → x ≤ 9223372036854775807 → d < k → acc.size + d ≤ 1000 → laws_markText.l0 k x acc = some (markTl d x acc)
  | 0, k, x, acc, h0, h1, _, hk, ha => by
    obtain ⟨k, rfl⟩ : ∃ q, k = q + 1 := ⟨k - 1, by omega⟩
    have hx : ¬ x > 0 := by simp at h1; omega
    rw [laws_markText.l0, if_neg hx, if_pos (by omega)]
    rfl
  | d + 1, k, x, acc, h0, h1, hb, hk, ha => by
    obtain ⟨k, rfl⟩ : ∃ q, k = q + 1 := ⟨k - 1, by omega⟩
    rw [laws_markText.l0, markTl]
    by_cases hx : x > 0
    · have hz : (strOfNums [(wrap64 (48 + (Int.tmod x 10))) % 256]).size = 1 := rfl
      have e : Int.tdiv x 10 = x / 10 := Int.tdiv_eq_ediv_of_nonneg h0
      have hp : (10 : Int) ^ (d + 1) = 10 ^ d * 10 := Int.pow_succ 10 d
      have hlt : x / 10 < 10 ^ d := by omega
      have ih := markText_l0 d k (x / 10) ((strOfNums [(wrap64 (48 + (Int.tmod x 10))) % 256]) ++ acc) (by omega) hlt (by omega) (by omega) (by rw [ByteArray.size_append, hz]; omega)
      rw [if_pos hx, if_pos hx, Option.bind_some, hz, if_pos (by omega), e, w64 (by omega) (by omega)]
      exact ih
    · rw [if_neg hx, if_neg hx, if_pos (by omega)]
def markT (x : Int) : ByteArray := if x ≤ 0 then ⟨#[109, 48]⟩ else markTl 18 x ⟨#[]⟩
theorem markText_ok {x : Int} (h0 : 0 ≤ x) (h1 : x < 1000000000000000000) {k : Nat} (hk : 20 < k) : laws_markText.f k x = some (markT x) := by
  unfold laws_markText.f markT
  split
  · rfl
  · exact markText_l0 18 k x _ h0 (by simpa using h1) (by omega) (by omega) (by decide)
end Go.Proofs.Ytdkokfnnebdppaa.Lem

/- Marks in rows of numbers, written and told again. No conditions. -/
namespace Go.Proofs.Ytdkokfnnebdppaa.Lem
open Go Go.RowKit Go.Proofs.Ytdkokfnnebdppaa.P Go.Proofs.YtdkokfnnebdppaaW.PrintWords Go.Proofs.YtdkokfnnebdppaaW.PrintLast Go.Proofs.YtdkokfnnebdppaaW.PrintMore

def markInts : List Int → Int → List Int
  | [], _ => []
  | _ :: r, x => x :: markInts r (x + 1)
theorem markInts_length : ∀ (l : List Int) (x : Int), (markInts l x).length = l.length
  | [], _ => rfl
  | _ :: r, x => by rw [markInts, List.length_cons, List.length_cons, markInts_length r]
theorem markIntS_l0 : ∀ (rest pre : List Int) (k : Nat) (x : Int), 0 ≤ x → x + rest.length < 1000000000000000000 → pre.length + rest.length ≤ 1000000000 → rest.length < k →
    laws_markIntS.l0 k (pre ++ rest) x (pre.length : Int) = some (x + rest.length, pre ++ markInts rest x)
  | [], pre, k, x, h0, h1, h2, hk => by
    obtain ⟨k, rfl⟩ : ∃ q, k = q + 1 := ⟨k - 1, by omega⟩
    rw [laws_markIntS.l0, if_neg (by rw [List.append_nil]; omega), List.append_nil, markInts, List.append_nil]
    simp
  | a :: rest, pre, k, x, h0, h1, h2, hk => by
    obtain ⟨k, rfl⟩ : ∃ q, k = q + 1 := ⟨k - 1, by omega⟩
    rw [List.length_cons] at h1 h2 hk
    have ih := markIntS_l0 rest (pre ++ [x]) k (x + 1) (by omega) (by omega) (by rw [List.length_append, List.length_singleton]; omega) (by omega)
    rw [laws_markIntS.l0, if_pos (by rw [List.length_append, List.length_cons]; omega), if_pos (by omega), Int.toNat_natCast, set_mid _ _ _ _ rfl, w64 (by omega) (by omega),
      show wrap64 ((pre.length : Int) + 1) = ((pre ++ [x]).length : Int) from by rw [w64 (by omega) (by omega), List.length_append, List.length_singleton]; omega]
    rw [List.append_assoc, List.singleton_append] at ih
    rw [ih, markInts, List.length_cons, List.append_assoc, List.singleton_append]
    congr 2
    omega
theorem markIntS_ok (l : List Int) {k : Nat} {x : Int} (h0 : 0 ≤ x) (h1 : x + l.length < 1000000000000000000) (h2 : l.length ≤ 1000000000) (hk : l.length < k) : laws_markIntS.f k l x = some (x + l.length, markInts l x) := markIntS_l0 l [] k x h0 h1 (by simpa using h2) hk
theorem heldIntS_l0 : ∀ (rest pre : List Int) (k : Nat) (x : Int), 0 ≤ x → x + rest.length < 1000000000000000000 → pre.length + rest.length ≤ 1000000000 → rest.length < k →
    laws_heldIntS.l0 k (pre ++ markInts rest x) x (pre.length : Int) = some (x + rest.length)
  | [], pre, k, x, h0, h1, h2, hk => by
    obtain ⟨k, rfl⟩ : ∃ q, k = q + 1 := ⟨k - 1, by omega⟩
    rw [laws_heldIntS.l0, markInts, List.append_nil, if_neg (by omega)]
    simp
  | a :: rest, pre, k, x, h0, h1, h2, hk => by
    obtain ⟨k, rfl⟩ : ∃ q, k = q + 1 := ⟨k - 1, by omega⟩
    rw [List.length_cons] at h1 h2 hk
    have ih := heldIntS_l0 rest (pre ++ [x]) k (x + 1) (by omega) (by omega) (by rw [List.length_append, List.length_singleton]; omega) (by omega)
    rw [List.append_assoc, List.singleton_append] at ih
    rw [laws_heldIntS.l0, markInts, if_pos (by rw [List.length_append, List.length_cons]; omega), if_pos (by omega), show rd (pre ++ x :: markInts rest (x + 1)) (pre.length : Int) = x from getD_mid _ _ _ _ rfl, if_pos rfl, w64 (by omega) (by omega),
      show wrap64 ((pre.length : Int) + 1) = ((pre ++ [x]).length : Int) from by rw [w64 (by omega) (by omega), List.length_append, List.length_singleton]; omega, ih, List.length_cons]
    congr 1
    omega
theorem heldIntS_ok (l : List Int) {k : Nat} {x : Int} (h0 : 0 ≤ x) (h1 : x + l.length < 1000000000000000000) (h2 : l.length ≤ 1000000000) (hk : l.length < k) : laws_heldIntS.f k (markInts l x) x = some (x + l.length) := heldIntS_l0 l [] k x h0 h1 (by simpa using h2) hk
end Go.Proofs.Ytdkokfnnebdppaa.Lem

/- Marks that are written into entries, and told again. No conditions. -/
namespace Go.Proofs.Ytdkokfnnebdppaa.Lem
open Go Go.RowKit Go.Proofs.Ytdkokfnnebdppaa.P Go.Proofs.YtdkokfnnebdppaaW.PrintWords Go.Proofs.YtdkokfnnebdppaaW.PrintLast Go.Proofs.YtdkokfnnebdppaaW.PrintMore

def zE (e : En) (x : Int) : Int := x + 1 + 1 + 1 + 1 + 1 + 1 + 1 + (e.f3.f4.length : Int)
def markE (e : En) (x : Int) : En := ⟨markT x, x + 1, x + 1 + 1, ⟨x + 1 + 1 + 1, x + 1 + 1 + 1 + 1, x + 1 + 1 + 1 + 1 + 1, x + 1 + 1 + 1 + 1 + 1 + 1, markInts e.f3.f4 (x + 1 + 1 + 1 + 1 + 1 + 1 + 1), Int.tmod (zE e x) 3 == 0⟩⟩
def markEs : List En → Int → List En
  | [], _ => []
  | e :: r, x => markE e x :: markEs r (zE e x + 1)
def endE : List En → Int → Int
  | [], x => x
  | e :: r, x => endE r (zE e x + 1)
theorem markEs_length : ∀ (l : List En) (x : Int), (markEs l x).length = l.length
  | [], _ => rfl
  | _ :: r, x => by rw [markEs, List.length_cons, List.length_cons, markEs_length r]
theorem endE_le : ∀ (l : List En) (x : Int), RowsE l → x ≤ endE l x ∧ endE l x ≤ x + 4194304 * (l.length : Int)
  | [], x, _ => by simp [endE]
  | w :: r, x, h => by
    have ih := endE_le r (zE w x + 1) (fun v hv => h v (List.mem_cons_of_mem _ hv))
    have hw := h w List.mem_cons_self
    have hz : zE w x = x + 1 + 1 + 1 + 1 + 1 + 1 + 1 + (w.f3.f4.length : Int) := rfl
    rw [endE, List.length_cons]
    omega
theorem rdE_mid (pre : List En) (a : En) (rest : List En) : rd_T45 (pre ++ a :: rest) (pre.length : Int) = a := getD_mid _ _ _ _ rfl
theorem wrapP (pre : List En) (a : En) (h : pre.length ≤ 1000000000) : wrap64 ((pre.length : Int) + 1) = ((pre ++ [a]).length : Int) := by rw [w64 (by omega) (by omega), List.length_append, List.length_singleton]; omega
theorem markEntryS_l0 : ∀ (rest pre : List En) (k : Nat) (x : Int), 0 ≤ x → x + 4194304 * (rest.length : Int) < 1000000000000000000 → pre.length + rest.length ≤ 1000000000 → RowsE rest → rest.length + 1048600 < k →
    laws_markEntryS.l0 k (pre ++ rest) x (pre.length : Int) = some (endE rest x, pre ++ markEs rest x)
  | [], pre, k, x, h0, h1, h2, h3, hk => by
    obtain ⟨k, rfl⟩ : ∃ q, k = q + 1 := ⟨k - 1, by omega⟩
    rw [laws_markEntryS.l0, if_neg (by rw [List.append_nil]; omega), List.append_nil, markEs, List.append_nil]
    rfl
  | a :: rest, pre, k, x, h0, h1, h2, h3, hk => by
    obtain ⟨k, rfl⟩ : ∃ q, k = q + 1 := ⟨k - 1, by omega⟩
    rw [List.length_cons] at h1 h2 hk
    have t1 := h3 a List.mem_cons_self
    have hz : zE a x = x + 1 + 1 + 1 + 1 + 1 + 1 + 1 + (a.f3.f4.length : Int) := rfl
    have ih := markEntryS_l0 rest (pre ++ [markE a x]) k (zE a x + 1) (by omega) (by omega) (by rw [List.length_append, List.length_singleton]; omega) (fun v hv => h3 v (List.mem_cons_of_mem _ hv)) (by omega)
    rw [List.append_assoc, List.singleton_append] at ih
    rw [laws_markEntryS.l0, if_pos (by rw [List.length_append, List.length_cons]; omega), if_pos (by omega), markText_ok h0 (by omega) (by omega), Option.bind_some, rdE_mid,
      w64 (x := x + 1) (by omega) (by omega), w64 (x := x + 1 + 1) (by omega) (by omega), w64 (x := x + 1 + 1 + 1) (by omega) (by omega), w64 (x := x + 1 + 1 + 1 + 1) (by omega) (by omega), w64 (x := x + 1 + 1 + 1 + 1 + 1) (by omega) (by omega), w64 (x := x + 1 + 1 + 1 + 1 + 1 + 1) (by omega) (by omega), w64 (x := x + 1 + 1 + 1 + 1 + 1 + 1 + 1) (by omega) (by omega),
      markIntS_ok _ (by omega) (by omega) (by omega) (by omega), Option.bind_some]
    dsimp only
    rw [show x + 1 + 1 + 1 + 1 + 1 + 1 + 1 + (a.f3.f4.length : Int) = zE a x from rfl, w64 (x := zE a x + 1) (by omega) (by omega), Int.toNat_natCast, set_mid _ _ _ _ rfl, wrapP pre (markE a x) (by omega)]
    rw [endE, markEs]
    refine Eq.trans ?_ (ih.trans ?_)
    · rfl
    · rw [List.append_assoc, List.singleton_append]
theorem markEntryS_ok (l : List En) {k : Nat} {x : Int} (h0 : 0 ≤ x) (h1 : x ≤ 10000000000000) (h2 : l.length ≤ 1048576) (h3 : RowsE l) (hk : 2097180 < k) : laws_markEntryS.f k l x = some (endE l x, markEs l x) := markEntryS_l0 l [] k x h0 (by omega) (by simpa using (by omega : l.length ≤ 1000000000)) h3 (by omega)
theorem heldEntryS_l0 : ∀ (rest pre : List En) (k : Nat) (x : Int), 0 ≤ x → x + 4194304 * (rest.length : Int) < 1000000000000000000 → pre.length + rest.length ≤ 1000000000 → RowsE rest → rest.length + 1048600 < k →
    laws_heldEntryS.l0 k (pre ++ markEs rest x) x (pre.length : Int) = some (endE rest x)
  | [], pre, k, x, h0, h1, h2, h3, hk => by
    obtain ⟨k, rfl⟩ : ∃ q, k = q + 1 := ⟨k - 1, by omega⟩
    rw [laws_heldEntryS.l0, markEs, List.append_nil, if_neg (by omega)]
    rfl
  | a :: rest, pre, k, x, h0, h1, h2, h3, hk => by
    obtain ⟨k, rfl⟩ : ∃ q, k = q + 1 := ⟨k - 1, by omega⟩
    rw [List.length_cons] at h1 h2 hk
    have t1 := h3 a List.mem_cons_self
    have hz : zE a x = x + 1 + 1 + 1 + 1 + 1 + 1 + 1 + (a.f3.f4.length : Int) := rfl
    have ih := heldEntryS_l0 rest (pre ++ [markE a x]) k (zE a x + 1) (by omega) (by omega) (by rw [List.length_append, List.length_singleton]; omega) (fun v hv => h3 v (List.mem_cons_of_mem _ hv)) (by omega)
    rw [List.append_assoc, List.singleton_append] at ih
    rw [laws_heldEntryS.l0, markEs, if_pos (by rw [List.length_append, List.length_cons]; omega), if_pos (by omega), markText_ok h0 (by omega) (by omega), Option.bind_some, rdE_mid, if_pos (show (markE a x).f0.toList = (markT x).toList from rfl),
      w64 (x := x + 1) (by omega) (by omega), if_pos (show (markE a x).f1 = x + 1 from rfl), w64 (x := x + 1 + 1) (by omega) (by omega), if_pos (show (markE a x).f2 = x + 1 + 1 from rfl), w64 (x := x + 1 + 1 + 1) (by omega) (by omega), if_pos (show (markE a x).f3.f0 = x + 1 + 1 + 1 from rfl),
      w64 (x := x + 1 + 1 + 1 + 1) (by omega) (by omega), if_pos (show (markE a x).f3.f1 = x + 1 + 1 + 1 + 1 from rfl), w64 (x := x + 1 + 1 + 1 + 1 + 1) (by omega) (by omega), if_pos (show (markE a x).f3.f2 = x + 1 + 1 + 1 + 1 + 1 from rfl), w64 (x := x + 1 + 1 + 1 + 1 + 1 + 1) (by omega) (by omega), if_pos (show (markE a x).f3.f3 = x + 1 + 1 + 1 + 1 + 1 + 1 from rfl),
      w64 (x := x + 1 + 1 + 1 + 1 + 1 + 1 + 1) (by omega) (by omega), show (markE a x).f3.f4 = markInts a.f3.f4 (x + 1 + 1 + 1 + 1 + 1 + 1 + 1) from rfl, heldIntS_ok _ (by omega) (by omega) (by omega) (by omega), Option.bind_some, show x + 1 + 1 + 1 + 1 + 1 + 1 + 1 + (a.f3.f4.length : Int) = zE a x from rfl,
      if_neg (by omega), show (markE a x).f3.f5 = (Int.tmod (zE a x) 3 == 0) from rfl, bne_self_eq_false, if_neg (by decide), w64 (x := zE a x + 1) (by omega) (by omega), wrapP pre (markE a x) (by omega), ih, endE]
theorem heldEntryS_ok (l : List En) {k : Nat} {x : Int} (h0 : 0 ≤ x) (h1 : x ≤ 10000000000000) (h2 : l.length ≤ 1048576) (h3 : RowsE l) (hk : 2097180 < k) : laws_heldEntryS.f k (markEs l x) x = some (endE l x) := heldEntryS_l0 l [] k x h0 (by omega) (by simpa using (by omega : l.length ≤ 1000000000)) h3 (by omega)
end Go.Proofs.Ytdkokfnnebdppaa.Lem

/- The program's PutEntry returns what the reference's returns: what FnExactPutEntry's callees answer, at all entries that Go can hold. -/
namespace Go.Proofs.Ytdkokfnnebdppaa.Pure
open Go Go.RowKit Go.Proofs.Ytdkokfnnebdppaa.P Go.Proofs.YtdkokfnnebdppaaW.PrintWords Go.Proofs.YtdkokfnnebdppaaW.PrintLast Go.Proofs.YtdkokfnnebdppaaW.PrintMore Go.Proofs.Ytdkokfnnebdppaa.Lem

/-- From place i on an entry has e's number. -/
def SeqFrom (e : En) (l : List En) (i : Nat) : Prop := ∃ j, i ≤ j ∧ j < l.length ∧ (en l j).f1 = e.f1
section
set_option linter.unusedSectionVars false
variable {l : List En} {e : En} (hl : l.length ≤ 1048576)
include hl
theorem idx_l0 : ∀ (d i k : Nat), i + d = l.length → d < k → ∃ r : Int, impl_Entry_with_impl_PutEntry_1_10069049.l0 k l (l.length : Int) (i : Int) e.f0 e.f1 e.f2 e.f3.f0 e.f3.f1 e.f3.f2 e.f3.f3 e.f3.f4 e.f3.f5 = some r ∧ (r ≥ 0 ↔ SeqFrom e l i) := by
  intro d
  induction d with
  | zero =>
    intro i k hi hk
    obtain ⟨k, rfl⟩ : ∃ q, k = q + 1 := ⟨k - 1, by omega⟩
    rw [impl_Entry_with_impl_PutEntry_1_10069049.l0, if_neg (by omega)]
    exact ⟨-1, rfl, fun h => absurd h (by decide), fun ⟨j, h1, h2, _⟩ => by omega⟩
  | succ d ih =>
    intro i k hi hk
    obtain ⟨k, rfl⟩ : ∃ q, k = q + 1 := ⟨k - 1, by omega⟩
    rw [impl_Entry_with_impl_PutEntry_1_10069049.l0, if_pos (by omega), if_pos (by omega), if_pos (by omega)]
    unfold impl_PutEntry_1.f
    rw [Option.bind_some]
    by_cases c : (en l i).f1 = e.f1
    · rw [if_pos (beq_iff_eq.2 (show (rd_T45 l (i : Int)).f1 = e.f1 from c))]
      exact ⟨i, rfl, fun _ => ⟨i, Nat.le_refl _, by omega, c⟩, fun _ => by omega⟩
    · rw [if_neg (fun q => c (beq_iff_eq.1 q)), wrapS (n := l.length) (by omega) (by omega)]
      obtain ⟨r, h1, h2⟩ := ih (i + 1) k (by omega) (by omega)
      refine ⟨r, h1, h2.trans ⟨fun ⟨j, q1, q2, q3⟩ => ⟨j, by omega, q2, q3⟩, fun ⟨j, q1, q2, q3⟩ => ?_⟩⟩
      by_cases ej : j = i
      · subst ej; exact absurd q3 c
      · exact ⟨j, by omega, q2, q3⟩
theorem seq_l0 : ∀ (d i k : Nat), i + d = l.length →
    (¬ SeqFrom e l i → spec_PutEntry.l0 (k + d + 1) l l (l.length : Int) (i : Int) e.f0 e.f1 e.f2 e.f3.f0 e.f3.f1 e.f3.f2 e.f3.f3 e.f3.f4 e.f3.f5 = ((spec_l5Put.f k l e.f0 e.f1 e.f2 e.f3.f0 e.f3.f1 e.f3.f2 e.f3.f3 e.f3.f4 e.f3.f5).bind fun t106 => ((spec_l5Own.f k t106).bind fun t109 => (some (t109, true))))) ∧
    (SeqFrom e l i → spec_PutEntry.l0 (k + d + 1) l l (l.length : Int) (i : Int) e.f0 e.f1 e.f2 e.f3.f0 e.f3.f1 e.f3.f2 e.f3.f3 e.f3.f4 e.f3.f5 = some ([], false)) := by
  intro d
  induction d with
  | zero =>
    intro i k hi
    rw [spec_PutEntry.l0, if_neg (by omega)]
    exact ⟨fun _ => rfl, fun ⟨j, h1, h2, _⟩ => by omega⟩
  | succ d ih =>
    intro i k hi
    obtain ⟨i1, i2⟩ := ih (i + 1) k (by omega)
    rw [spec_PutEntry.l0, if_pos (by omega), if_pos (by omega), if_pos (by omega), wrapS (n := l.length) (by omega) (by omega)]
    by_cases c : (en l i).f1 = e.f1
    · rw [if_pos (show (rd_T45 l (i : Int)).f1 = e.f1 from c)]
      exact ⟨fun h => absurd ⟨i, Nat.le_refl _, by omega, c⟩ h, fun _ => rfl⟩
    · rw [if_neg (show ¬ (rd_T45 l (i : Int)).f1 = e.f1 from c)]
      refine ⟨fun h => i1 (fun ⟨j, q1, q2, q3⟩ => h ⟨j, by omega, q2, q3⟩), fun ⟨j, q1, q2, q3⟩ => i2 ?_⟩
      by_cases ej : j = i
      · subst ej; exact absurd q3 c
      · exact ⟨j, by omega, q2, q3⟩
end
theorem put_both (l : List En) (e : En) (hl : l.length ≤ 1048576) (hh : RowsE l) (he : e.f3.f4.length ≤ 1048576) {k : Nat} (hk : 2000000000100 < k) :
    ∃ (l' : List En) (c : Bool), spec_PutEntry.f k l e.f0 e.f1 e.f2 e.f3.f0 e.f3.f1 e.f3.f2 e.f3.f3 e.f3.f4 e.f3.f5 = some (l', c) ∧ impl_PutEntry.f k l e.f0 e.f1 e.f2 e.f3.f0 e.f3.f1 e.f3.f2 e.f3.f3 e.f3.f4 e.f3.f5 = some (l', c) ∧ l'.length ≤ 1048576 ∧ RowsE l' := by
  have nil : ([] : List En).length ≤ 1048576 ∧ RowsE [] := ⟨by decide, fun x hx => by simp at hx⟩
  obtain ⟨k, rfl⟩ : ∃ q, k = q + 1 := ⟨k - 1, by omega⟩
  unfold spec_PutEntry.f impl_PutEntry.f
  by_cases c3 : (l.length : Int) ≥ 60
  · rw [if_pos c3, if_pos c3, spec_PutEntry.j0, if_pos rfl]
    exact ⟨[], false, rfl, rfl, nil⟩
  rw [if_neg c3, if_neg c3]
  obtain ⟨g, hg1, hg2, hgg⟩ := (spec_goodEs l hl (k := k + 1) (by omega)).both (impl_goodEs l hl (k := k + 1) (by omega))
  rw [hg1, hg2, Option.bind_some, Option.bind_some]
  by_cases hg : g = true
  · have hG := hgg.1 hg
    obtain ⟨b, hb1, hb2, _⟩ := (spec_goodE e (k := k + 1) (by omega)).both (impl_goodE e (k := k + 1) (by omega))
    rw [if_pos hg, if_pos hg, hb1, hb2, Option.bind_some, Option.bind_some, spec_PutEntry.j0]
    by_cases hb : b = true
    · obtain ⟨r, hr1, hr2⟩ := idx_l0 (e := e) hl l.length 0 (k + 1) (by omega) (by omega)
      have hr1' : impl_Entry_with_impl_PutEntry_1_10048049.f (k + 1) l e.f0 e.f1 e.f2 e.f3.f0 e.f3.f1 e.f3.f2 e.f3.f3 e.f3.f4 e.f3.f5 = some (decide (r ≥ 0)) := by
        unfold impl_Entry_with_impl_PutEntry_1_10048049.f impl_Entry_with_impl_PutEntry_1_10069049.f
        have h : impl_Entry_with_impl_PutEntry_1_10069049.l0 (k + 1) l (l.length : Int) 0 e.f0 e.f1 e.f2 e.f3.f0 e.f3.f1 e.f3.f2 e.f3.f3 e.f3.f4 e.f3.f5 = some r := hr1
        rw [h, Option.bind_some]
      obtain ⟨q, rfl⟩ : ∃ q, k = q + l.length + 1 := ⟨k - l.length - 1, by omega⟩
      obtain ⟨s1, s2⟩ := seq_l0 (e := e) hl l.length 0 q (by omega)
      rw [if_pos hb, if_neg (by rw [hb]; decide), hr1', Option.bind_some]
      by_cases c : SeqFrom e l 0
      · have s2' : spec_PutEntry.l0 (q + l.length + 1) l l (l.length : Int) 0 e.f0 e.f1 e.f2 e.f3.f0 e.f3.f1 e.f3.f2 e.f3.f3 e.f3.f4 e.f3.f5 = _ := s2 c
        rw [s2', if_pos (decide_eq_true (hr2.2 c))]
        exact ⟨[], false, rfl, rfl, nil⟩
      · have s1' : spec_PutEntry.l0 (q + l.length + 1) l l (l.length : Int) 0 e.f0 e.f1 e.f2 e.f3.f0 e.f3.f1 e.f3.f2 e.f3.f3 e.f3.f4 e.f3.f5 = _ := s1 c
        have hp := pos_le e l
        have hpl := putL_len e l
        have hput : spec_l5Put.f q l e.f0 e.f1 e.f2 e.f3.f0 e.f3.f1 e.f3.f2 e.f3.f3 e.f3.f4 e.f3.f5 = some (putL e l) := l5Put_l0 hl (posE e l) 0 q (by omega) (by omega)
        rw [s1', if_neg (by rw [decide_eq_false (fun h => c (hr2.1 h))]; decide), hput, Option.bind_some, l5Own_ok (by omega) (putL_rows hh he) (by omega), Option.bind_some, withEntry_ok hl hG hh he (by omega), Option.bind_some]
        exact ⟨_, _, rfl, rfl, by omega, putL_rows hh he⟩
    · rw [if_neg hb, if_pos (by simp [hb])]
      exact ⟨[], false, rfl, rfl, nil⟩
  · rw [if_neg hg, if_neg hg, spec_PutEntry.j0, if_pos rfl]
    exact ⟨[], false, rfl, rfl, nil⟩
theorem FnExactPutEntry (l : List Le) (a0 : ByteArray) (a1 a2 b0 b1 b2 b3 : Int) (h : List Int) (b5 : Bool) (hg : l.length ≤ maxLen ∧ ∀ e ∈ l, GEntry e)
    (hg1 : a0.size ≤ maxLen ∧ (Lit.int .i64 a1).wf = true ∧ (Lit.int .i64 a2).wf = true ∧ ((Lit.int .i64 b0).wf = true ∧ (Lit.int .i64 b1).wf = true ∧ (Lit.int .i64 b2).wf = true ∧ (Lit.int .i64 b3).wf = true ∧ (h.length ≤ maxLen ∧ ∀ n ∈ h, (Lit.int .i64 n).wf = true) ∧ True)) : ∃ k, laws_FnExactPutEntry.Ok k l a0 a1 a2 b0 b1 b2 b3 h b5 := by
  have hl : l.length ≤ 9223372036854775807 := maxLen_le hg.1
  have hh : ∀ e ∈ l, HeldE e := fun e he => heldE (hg.2 e he)
  obtain ⟨k, hk⟩ : ∃ k, 2000000000100 < k := ⟨2000000000101, by omega⟩
  refine ⟨k, ?_⟩
  unfold laws_FnExactPutEntry.Ok
  obtain ⟨r, hr, hr2⟩ := szEntryS_ok hl hh (x := 1048576) (by decide) (by decide) (k := k) (by omega)
  refine ⟨r, hr, ?_⟩
  rcases hr2 with hn | ⟨hn, hn1, hl', hs'⟩
  · exact Or.inl hn
  · refine Or.inr ⟨hn, ?_⟩
    obtain ⟨r2, hq, hq2⟩ := szEntry_ok (e := ⟨a0, a1, a2, ⟨b0, b1, b2, b3, h, b5⟩⟩) ⟨maxLen_le hg1.1, maxLen_le hg1.2.2.2.2.2.2.2.1.1⟩ hn (by omega)
    refine ⟨r2, hq, ?_⟩
    rcases hq2 with hm | ⟨hm, _, _, he⟩
    · exact Or.inl hm
    · refine Or.inr ⟨hm, ?_⟩
      have he' : h.length ≤ 1048576 := he
      have hlm : (l.map cvE).length ≤ 1048576 := by rw [List.length_map]; exact hl'
      have hsm := rowsE_map hs'
      have ht := toEntryS_ok hl' hs' (k := k) (by omega)
      have hte : laws_toEntry.f k a0 a1 a2 b0 b1 b2 b3 h b5 = some (a0, a1, a2, b0, b1, b2, b3, h, b5) := by
        unfold laws_toEntry.f
        rw [toAgg_ok _ _ _ _ he' _ (by omega), Option.bind_some]
      obtain ⟨l2, c, h1, h2, hl2, hs2⟩ := put_both (l.map cvE) ⟨a0, a1, a2, ⟨b0, b1, b2, b3, h, b5⟩⟩ hlm hsm he' hk
      have e1 := endE_le (l.map cvE) 1 hsm
      have e2 := endE_le l2 1 hs2
      have hme : laws_markEntry.f k a0 a1 a2 b0 b1 b2 b3 h b5 (endE (l.map cvE) 1) = some (endE (l.map cvE) 1 + (h.length : Int), markInts h (endE (l.map cvE) 1)) := by
        unfold laws_markEntry.f laws_markAgg.f
        rw [markIntS_ok _ (by omega) (by omega) (by omega) (by omega), Option.bind_some, Option.bind_some]
      exact ⟨l.map cvE, a0, a1, a2, b0, b1, b2, b3, h, b5, l2, c, _, _, _, _, _, _, ht, hte, h1, h2, eqEntryS_ok hl2 hs2 (by omega), eqEntryS_ok hlm hsm (by omega), eqEntry_ok (e := ⟨a0, a1, a2, ⟨b0, b1, b2, b3, h, b5⟩⟩) he' (by omega),
        markEntryS_ok _ (by decide) (by decide) hlm hsm (by omega), hme, markEntryS_ok _ (by decide) (by decide) hl2 hs2 (by omega), heldEntryS_ok _ (by decide) (by decide) hl2 hs2 (by omega), by omega, by omega, by omega⟩
end Go.Proofs.Ytdkokfnnebdppaa.Pure

/- The row of laws.FnExactPutEntry: its arguments opened, the walk, and the row. -/
namespace Go.Proofs.Ytdkokfnnebdppaa.fnExactPutEntry
open Go Go.ChangeShapes Go.WideShapes Go.ChangeAt Go.RowKit Go.Proofs.Ytdkokfnnebdppaa.P Go.Proofs.YtdkokfnnebdppaaW.PrintWords Go.Proofs.YtdkokfnnebdppaaW.PrintLast Go.Proofs.YtdkokfnnebdppaaW.PrintMore Go.Proofs.Ytdkokfnnebdppaa.Lem
set_option linter.unusedVariables false
theorem own : ownKnob Try.prog.godebug = none := by kernel_rfl
theorem laidOut : laidOutB Try.prog = true := by kernel_rfl
set_option maxRecDepth 100000 in
theorem lifted (os : Os) (started : os.Started) (H : Type) (enc : TypeId × Value → H) :
    ReturnsInHanded {} Try.checked os 5 .any (Rows.fnExactPutEntrySpec.pre6 enc Try.prog Try.f5 Rows.fnExactPutEntryRow.domain false) (Rows.fnExactPutEntrySpec.post enc Try.prog Try.f5 false true false false) := by
  refine returnsInHanded_of_change_sized (C := Try.checked) own started (by kernel_rfl) Try.func5
    (ChangeSpec.witness6 (enc := enc) (C := Try.checked) false ⟨#[], #[.slice none 0 0, .agg #[.string ⟨#[]⟩, .int .i64 0, .int .i64 0, .int .i64 0, .int .i64 0, .int .i64 0, .int .i64 0, .slice none 0 0, .bool false]], []⟩ 8 (by kernel_rfl) (by kernel_rfl) (by kernel_rfl) (by kernel_rfl)) ?_
  intro W base args ds gs before hval0 hW hcnd hsz0 _
  have hval : ∀ (j : Nat) t v, Try.f5.params[j]? = some t → args[j]? = some v → Value.okWide Try.prog W .any base t v := hval0
  have hW' := hW
  obtain ⟨p, q, hA0, hV, rfl, hfz, hnd⟩ := hW
  have hA : DataW.TrodAll enc Try.prog W 0 (fun _ => true) true Try.f5.params.toList args.toList ds p := hA0
  rw [Try.params5] at hA hval
  obtain ⟨v0, vs0, d0, ds0, p0, q0, hargs, rfl, rfl, h0, r0⟩ := trodAll_cons hA
  obtain ⟨v1, vs1, d1, ds1, p1, q1, rfl, rfl, rfl, h1, r1⟩ := trodAll_cons r0
  obtain ⟨rfl, rfl, rfl⟩ := trodAll_nil r1
  obtain rfl : args = #[v0, v1] := by cases args; simp_all
  obtain ⟨rfl, rfl⟩ := trodVars_none hV
  have k0 := h0
  have lt0 : ∀ x ∈ p0, x.block < W.heap.size := by obtain ⟨m, hm⟩ := k0; exact DataW.trod_lt m _ _ _ hm
  have k1 := h1
  have lt1 : ∀ x ∈ p1, x.block < W.heap.size := by obtain ⟨m, hm⟩ := k1; exact DataW.trod_lt m _ _ _ hm
  have hO0 : Opens enc Try.prog W 0 (fun _ => true) true (Kd.slice 41 k41) 22 _ := (opens_slice 41 Try.underlying22 (opens_iso (fun x : S41 => (x.f0, x.f1, x.f2, x.f3)) (fun a => ⟨a.1, a.2.1, a.2.2.1, a.2.2.2⟩) (fun _ => rfl) (opens_struct Try.underlying41 (by kernel_rfl) (opensF_cons (by kernel_rfl) (opens_string Try.underlying9) (opensF_cons (by kernel_rfl) (opens_int Try.underlying3) (opensF_cons (by kernel_rfl) (opens_int Try.underlying3) (opensF_one (by kernel_rfl) (opens_iso (fun x : S39 => (x.f0, x.f1, x.f2, x.f3, x.f4, x.f5)) (fun a => ⟨a.1, a.2.1, a.2.2.1, a.2.2.2.1, a.2.2.2.2.1, a.2.2.2.2.2⟩) (fun _ => rfl) (opens_struct Try.underlying39 (by kernel_rfl) (opensF_cons (by kernel_rfl) (opens_int Try.underlying3) (opensF_cons (by kernel_rfl) (opens_int Try.underlying3) (opensF_cons (by kernel_rfl) (opens_int Try.underlying3) (opensF_cons (by kernel_rfl) (opens_int Try.underlying3) (opensF_cons (by kernel_rfl) (opens_slice 3 Try.underlying24 (opens_int Try.underlying3) (by kernel_rfl)) (opensF_one (by kernel_rfl) (opens_bool Try.underlying4))))))))))))))) (by kernel_rfl))
  obtain ⟨A0, n0, c0, rfl⟩ := okWide_slice Try.underlying22 (hval 0 22 v0 rfl rfl)
  obtain ⟨l0, ⟨A0', c0', e0, hc0, hC0⟩, hg0⟩ := hO0 _ _ _ h0.choose_spec
  obtain ⟨rfl, rfl, rfl⟩ : A0 = A0' ∧ n0 = l0.length ∧ c0 = c0' := by
    have e1 : (Value.slice A0 n0 c0).cells.toList = [.slice A0' l0.length c0'] := e0
    simpa [Value.cells] using e1
  have hO1 : Opens enc Try.prog W 0 (fun _ => true) true (Kd.pair Kd.string (Kd.pair (Kd.int .i64) (Kd.pair (Kd.int .i64) (Kd.pair (Kd.int .i64) (Kd.pair (Kd.int .i64) (Kd.pair (Kd.int .i64) (Kd.pair (Kd.int .i64) (Kd.pair (Kd.slice 3 (Kd.int .i64)) Kd.bool)))))))) 41 _ := (opens_struct Try.underlying41 (by kernel_rfl) (opensF_cons (by kernel_rfl) (opens_string Try.underlying9) (opensF_cons (by kernel_rfl) (opens_int Try.underlying3) (opensF_cons (by kernel_rfl) (opens_int Try.underlying3) (opensF_one (by kernel_rfl) (opens_struct Try.underlying39 (by kernel_rfl) (opensF_cons (by kernel_rfl) (opens_int Try.underlying3) (opensF_cons (by kernel_rfl) (opens_int Try.underlying3) (opensF_cons (by kernel_rfl) (opens_int Try.underlying3) (opensF_cons (by kernel_rfl) (opens_int Try.underlying3) (opensF_cons (by kernel_rfl) (opens_slice 3 Try.underlying24 (opens_int Try.underlying3) (by kernel_rfl)) (opensF_one (by kernel_rfl) (opens_bool Try.underlying4)))))))))))))
  obtain ⟨cs1, rfl, hsz1⟩ := okWide_struct Try.underlying41 (hval 1 41 v1 rfl rfl)
  obtain ⟨⟨a1_0, a1_1, a1_2, ⟨a1_3, a1_4, a1_5, a1_6, l1_7, a1_8⟩⟩, ⟨_, _, e1, rfl, ⟨_, _, rfl, rfl, ⟨_, _, rfl, rfl, ⟨_, _, rfl, rfl, ⟨_, _, rfl, rfl, ⟨_, _, rfl, rfl, ⟨_, _, rfl, rfl, ⟨_, _, rfl, ⟨A1_7, c1_7, rfl, hc1_7, hC1_7⟩, rfl⟩⟩⟩⟩⟩⟩⟩⟩, hg1⟩ := hO1 _ _ _ h1.choose_spec
  obtain rfl : cs1 = #[.string a1_0, .int .i64 a1_1, .int .i64 a1_2, .int .i64 a1_3, .int .i64 a1_4, .int .i64 a1_5, .int .i64 a1_6, .slice A1_7 l1_7.length c1_7, .bool a1_8] := by
    have e1 : (Value.agg cs1).cells.toList = [.string a1_0, .int .i64 a1_1, .int .i64 a1_2, .int .i64 a1_3, .int .i64 a1_4, .int .i64 a1_5, .int .i64 a1_6, .slice A1_7 l1_7.length c1_7, .bool a1_8] := e1
    cases cs1
    simpa [Value.cells] using e1
  clear hA0 hval0
  obtain ⟨k, hk⟩ := Pure.FnExactPutEntry l0 a1_0 a1_1 a1_2 a1_3 a1_4 a1_5 a1_6 l1_7 a1_8 hg0 hg1
  refine (laws_FnExactPutEntry.calls (k := k) (l0 := l0) (A0 := A0) (c0 := c0) (hr0 := hC0) (hc0 := hc0) (a1_0 := a1_0) (a1_1 := a1_1) (a1_2 := a1_2) (a1_3 := a1_3) (a1_4 := a1_4) (a1_5 := a1_5) (a1_6 := a1_6) (l1_7 := l1_7) (A1_7 := A1_7) (c1_7 := c1_7) (hr1_7 := hC1_7) (hc1_7 := hc1_7) (a1_8 := a1_8) (w := W) (h := hk)).mono fun e W' ⟨he, bel⟩ => ?_
  subst he
  exact ⟨_, rfl, _, _, _, [], _, [], hW', trodAll_mk1 (shut_bool Try.underlying4 _), (trodAll_cons_mk (Below.trod laidOut (by kernel_rfl) (of_decide_eq_true (by kernel_rfl)) k0 bel lt0) (trodAll_cons_mk (Below.trod laidOut (by kernel_rfl) (of_decide_eq_true (by kernel_rfl)) k1 bel lt1) trodAll_mk0)), rfl, bel.frame _, fun h => by cases h⟩

theorem said : Rows.FnExactPutEntrySaid :=
  OpenClaim.holds_of_wide 5 Try.f5 rfl rfl rfl rfl rfl rfl rfl ⟨rfl, rfl, rfl, rfl, rfl⟩ rfl rfl rfl rfl rfl (by kernel_rfl) Try.func5 (by kernel_rfl)
    (of_decide_eq_true (by kernel_rfl)) (by unfold Func.isWrapper; first | (rw [if_pos (by decide +kernel)]; kernel_rfl) | (rw [if_neg (of_decide_eq_false (by kernel_rfl))]; exact ⟨rfl, rfl⟩))
    (fun os started H enc _ => lifted os started H enc)
theorem proved : Rows.FnExactPutEntrySaid := said
#print axioms proved
end Go.Proofs.Ytdkokfnnebdppaa.fnExactPutEntry
namespace Go.Proofs.Ytdkokfnnebdppaa
/-- The tied card, under a short name, for the claim. -/
theorem fnExactPutEntry_holds : Rows.FnExactPutEntrySaid := fnExactPutEntry.proved
end Go.Proofs.Ytdkokfnnebdppaa
